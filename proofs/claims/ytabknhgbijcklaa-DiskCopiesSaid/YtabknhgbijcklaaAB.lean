/-
  Walks, printed by a program of this workplace (wip/tools/sx.py) off the functions' code and a text of contracts.
-/
import Derived.Test.YtabknhgbijcklaaAA
set_option linter.all false
set_option maxRecDepth 100000
set_option synthInstance.maxSize 100000
set_option synthInstance.maxHeartbeats 400000
namespace Go.Proofs.Ytabknhgbijcklaa
open Go.Wst
open Go.Wst.Dm
/-- A disk all of which lies in Q. -/
def DiskQ (Q P R : Nat → Prop) (d : Nat) (M : Disk) (W : World) : Prop :=
  ∃ (mb ml : Nat) (G : Nat → Prop) (D : LDisk), DiskAt W d mb ml G D ∧ Stands D M ∧ (∀ k, P k → k < W.heap.size ∧ ¬ DiskF d mb ml D.A G k) ∧ (∀ k, R k → k < W.heap.size ∧ ¬ DiskB d mb ml D.A k) ∧ ∀ k, DiskF d mb ml D.A G k → Q k
theorem DiskQ.toW {Q P R : Nat → Prop} {d : Nat} {M : Disk} {W : World} (h : DiskQ Q P R d M W) : DiskW P R d M W := by
  obtain ⟨mb, ml, G, D, h1, h2, h3, h4, h5⟩ := h
  exact ⟨mb, ml, G, D, h1, h2, h3, h4⟩
theorem DiskQ.keep {Q P R S : Nat → Prop} {d : Nat} {M : Disk} {W W' : World} (h : DiskQ Q P R d M W) (hk : Keep S W W') (hs : ∀ k, Q k → ¬ S k) : DiskQ Q P R d M W' := by
  obtain ⟨mb, ml, G, D, h1, h2, h3, h4, h5⟩ := h
  exact ⟨mb, ml, G, D, h1.keep hk (fun k e => hs k (h5 k e)), h2, fun k e => ⟨Nat.lt_of_lt_of_le (h3 k e).1 hk.size, (h3 k e).2⟩, fun k e => ⟨Nat.lt_of_lt_of_le (h4 k e).1 hk.size, (h4 k e).2⟩, h5⟩
theorem DiskQ.ext {Q P R : Nat → Prop} {d : Nat} {M : Disk} {W W' : World} (h : DiskQ Q P R d M W) (hk : Keep NoB W W') : DiskQ Q P R d M W' := h.keep hk (fun _ _ h => h)

/-- slices.Clone[[]waystation/disk.thing,waystation/disk.thing] -/
theorem clonet_ok (A : Option Addr) (n c : Nat) (cs : List Value) (w : World) [Row w A cs] (hl : cs.length = n * 7) (hn : n ≤ 100000000) (h1 : ∀ u ∈ cs, u.oneCell' = true) (hA : A.isSome = true ∨ n = 0) : Ret Try.prog 61 #[.slice A n c] w (fun v w' => (∃ A' c', v = .slice A' n c' ∧ w'.ownsRow w.heap.size 88 7 v n cs) ∧ Lk w' w NoB) := by
  refine ret_of_x (N := 8) (l := [.slice A n c]) Try.func61 rfl rfl (Nat.le_of_ble_eq_true rfl) ?_
  refine x_seq ?_
  refine x_regionL ?_
  refine xl_v v_assign ?_
  refine xl_nil ?_
  refine x_seq ?_
  refine x_seq ?_
  refine x_regionL ?_
  refine xl_v v_move ?_
  refine xl_v v_eql_slice ?_
  refine xl_nil ?_
  refine x_condE (fun c1 => ?_) (fun c1 => ?_)
  ·
    have hn0 : n = 0 := hA.resolve_left (by cases A <;> simp_all)
    refine x_seq ?_
    refine x_regionL ?_
    refine xl_v v_assign ?_
    refine xl_nil ?_
    refine x_ret ?_
    refine fin1 rfl ?_
    subst hn0
    obtain rfl : cs = [] := List.eq_nil_of_length_eq_zero (by simpa using hl)
    exact ⟨⟨none, 0, rfl, World.ownsRow_nil _ _ _ _⟩, lkc⟩
  ·
    refine x_skip ?_
    refine x_seq ?_
    refine x_regionL ?_
    refine xl_e (e_buildSlice0 fun b0 w1 n0 l0 k0 => ?_)
    refine xl_v v_move ?_
    have ho0 : World.ownsRow w1 w.heap.size 88 7 (.slice (some ⟨b0, 0, none⟩) 0 0) 0 [] := ownsRow_blk (by rw [n0.eq]; exact Nat.le_refl _) k0.eq (by simp) (by omega)
    haveI := ownN_of ho0 (Nat.le_refl _)
    refine xl_e (e_append' ho0 Ge.le hl h1 (by decide) hA (by omega) (by omega) fun A2 c2 w2 ho2 l2 _ => ?_)
    refine xl_v v_assign ?_
    refine xl_nil ?_
    refine x_ret ?_
    refine fin1 rfl ?_
    exact ⟨⟨A2, c2, by rw [Nat.zero_add], by simpa using ho2⟩, lkc⟩
theorem thingC_one (l : List LThing) : ∀ u ∈ l.flatMap thingC, u.oneCell' = true := by
  intro u hu
  obtain ⟨x, _, hx⟩ := List.mem_flatMap.1 hu
  simp only [thingC, List.mem_cons, List.not_mem_nil, or_false] at hx
  rcases hx with rfl | rfl | rfl | rfl | rfl | rfl | rfl
  · exact x.one
  all_goals rfl

/-- (*waystation/disk.Disk).Copy -/
theorem copy_ok (P R : Nat → Prop) (d : Nat) (M : Disk) (w : World) (h : DiskW P R d M w) : Ret Try.prog 36 #[.pointer (some ⟨d, 0, none⟩)] w (fun v w' => (∃ (c : Nat) (Q : Nat → Prop), v = .pointer (some ⟨c, 0, none⟩) ∧ DiskQ Q P (fun k => k < w.heap.size) c M w' ∧ DiskW P (fun k => R k ∨ Q k) d M w' ∧ w.heap.size ≤ c) ∧ Lk w' w NoB) := by
  obtain ⟨mb, ml, G, D, hD, hS, hP, hR⟩ := h
  haveI hb : Blk w d _ := ⟨hD.hb⟩
  haveI hrw1 : RowB w D.A w (D.waits.flatMap thingC) := rowB_of (FRow.of_own hD.row).row
  have hwl : D.waits.length = M.waits.length := by rw [← hS.waits]; simp
  have hfew := hS.few
  have hlen7 : (D.waits.flatMap thingC).length = D.waits.length * 7 := flat_len (enc := thingC) (sz := 7) (fun _ => rfl) D.waits
  refine ret_of_x (N := 26) (l := [.pointer (some ⟨d, 0, none⟩)]) Try.func36 rfl rfl (Nat.le_of_ble_eq_true rfl) ?_
  refine x_seq ?_
  refine x_regionL ?_
  refine xl_v v_assign ?_
  refine xl_nil ?_
  refine x_seq ?_
  refine x_seq ?_
  refine x_regionL ?_
  refine xl_v v_move ?_
  refine xl_call (none_ok d mb ml G D M w (hD.ext (kpc : Keep NoB w w)) hS) ?_
  rintro _ _ ⟨rfl, rfl⟩
  refine xl_nil ?_
  refine x_condF ?_
  refine x_skip ?_
  refine x_seq ?_
  refine x_drawL (NoB) (.take 0 (.take 1 (.take 2 (.take 3 (.take 5 (.take 6 (.take 7 (.take 8 (.take 10 (.take 11 (.take 12 (.take 13 (.take 15 (.take 16 (.take 17 (.take 18 (.eff 4 (.eff 9 (.eff 14 (.take 19 (.eff 20 (.take 21 .done)))))))))))))))))))))) mixed (by kernel_rfl) (fun _ _ _ _ _ h => h) (fun w2 l2 => ?_)
  refine xt_v rfl v_move ?_
  refine xt_v rfl (by first | exact v_nilCheckP | exact v_nilCheckF) ?_
  refine xt_v rfl (by first | exact v_fieldAddr | exact v_fieldAddrF (by decide) (by omega) | exact v_fieldAddrR (by first | assumption | rfl)) ?_
  refine xt_v rfl (by first | exact v_loadA | exact v_loadF (by decide) (by omega)) ?_
  refine xt_v rfl v_move ?_
  refine xt_v rfl (by first | exact v_nilCheckP | exact v_nilCheckF) ?_
  refine xt_v rfl (by first | exact v_fieldAddr | exact v_fieldAddrF (by decide) (by omega) | exact v_fieldAddrR (by first | assumption | rfl)) ?_
  refine xt_v rfl (by first | exact v_loadA | exact v_loadF (by decide) (by omega)) ?_
  refine xt_v rfl v_move ?_
  refine xt_v rfl (by first | exact v_nilCheckP | exact v_nilCheckF) ?_
  refine xt_v rfl (by first | exact v_fieldAddr | exact v_fieldAddrF (by decide) (by omega) | exact v_fieldAddrR (by first | assumption | rfl)) ?_
  refine xt_v rfl (by first | exact v_load | exact v_loadO (by omega) | exact v_loadFf (by omega) | exact v_loadF0 (by omega)) ?_
  refine xt_v rfl v_move ?_
  refine xt_v rfl (by first | exact v_nilCheckP | exact v_nilCheckF) ?_
  refine xt_v rfl (by first | exact v_fieldAddr | exact v_fieldAddrF (by decide) (by omega) | exact v_fieldAddrR (by first | assumption | rfl)) ?_
  refine xt_v rfl (by first | exact v_load | exact v_loadO (by omega) | exact v_loadFf (by omega) | exact v_loadF0 (by omega)) ?_
  refine xt_call rfl (copied_ok mb G D.cur w2 (hD.cur.ext (kpc : Keep NoB w w2))) ?_
  rintro _ w3 ⟨⟨m1, rfl, hF1, hg1⟩, lk1⟩
  refine ⟨kpc, ?_⟩
  have hz1 := (Ge.le : w.heap.size ≤ (w2).heap.size)
  have hl1 := hF1.map.lt
  refine xt_call rfl (copied_ok ml G D.lasts w3 (hD.las.ext (kpc : Keep NoB w w3))) ?_
  rintro _ w4 ⟨⟨m2, rfl, hF2, hg2⟩, lk2⟩
  refine ⟨kpc, ?_⟩
  have hz2 := (Ge.le : w.heap.size ≤ (w3).heap.size)
  have hl2 := hF2.map.lt
  have hl12 : m1 < (w3).heap.size := Nat.lt_of_lt_of_le hl1 Ge.le
  refine xt_call rfl (clonet_ok D.A D.waits.length D.c (D.waits.flatMap thingC) w4 hlen7 (by omega) (thingC_one D.waits) (isSome_of_len (inferInstance : RowB w4 D.A w (D.waits.flatMap thingC)).row hlen7 (by decide))) ?_
  rintro _ w5 ⟨⟨A2, c2, rfl, ho2⟩, lk3⟩
  refine ⟨kpc, ?_⟩
  have hz3 := (Ge.le : w.heap.size ≤ (w4).heap.size)
  have hl13 : m1 < (w4).heap.size := Nat.lt_of_lt_of_le hl12 Ge.le
  have hl23 : m2 < (w4).heap.size := Nat.lt_of_lt_of_le hl2 Ge.le
  have ho2b := own_blk ho2
  refine xt_v rfl v_build ?_
  refine xt_e rfl (e_box fun x w6 nx lx kx => ?_)
  refine xt_v rfl v_assign ?_
  refine xt_nil ?_
  refine x_ret ?_
  refine fin1 rfl ?_
  have hxe := nx.eq
  have hxg : w.heap.size ≤ x := by rw [hxe]; exact Ge.le
  have hxw : x < (w6).heap.size := Has.lt
  have hx1 : m1 < x := by rw [hxe]; exact Nat.lt_of_lt_of_le hl13 Ge.le
  have hx2 : m2 < x := by rw [hxe]; exact Nat.lt_of_lt_of_le hl23 Ge.le
  have hxA : ∀ a, A2 = some a → w.heap.size ≤ a.block ∧ m1 < a.block ∧ m2 < a.block ∧ a.block < x := fun a ha => by
    obtain ⟨z1, z2⟩ := ho2b a ha
    exact ⟨by omega, by omega, by omega, by rw [hxe]; exact z2⟩
  have hGl : ∀ k, G k → k < w.heap.size := hD.cur.lt
  have hg1w : w.heap.size ≤ m1 := by omega
  have hg2w : w.heap.size ≤ m2 := by omega
  have hAt : DiskAt w6 x m1 m2 G ⟨D.room, D.cur, D.lasts, D.waits, A2, c2⟩ := ⟨by simpa using (Blk.eq : (w6).heap[x]? = _), hF1.ext (kpc : Keep NoB _ w6), hF2.ext (kpc : Keep NoB _ w6), own_mono (own_ext ho2 (lkc : Lk w6 _ NoB)) (Nat.zero_le _), fun y hy => (hD.acts y hy).keep (kpc : Keep NoB w w6) (fun _ _ h => h), by omega, by omega, by omega, fun e => by have := hGl x e; omega, fun a ha => by
    obtain ⟨z1, z2, z3, z4⟩ := hxA a ha
    exact ⟨by omega, by omega, by omega, fun e => by have := hGl _ e; omega⟩⟩
  refine ⟨⟨x, fun k => DiskF x m1 m2 A2 G k, rfl, ⟨m1, m2, G, _, hAt, ⟨hS.room, hS.waits, hS.cur, hS.las, hS.ok, hS.few, hS.lens⟩, fun k e => ?_, fun k e => ?_, fun k e => e⟩, ⟨mb, ml, G, D, hD.ext (kpc : Keep NoB w w6), hS, fun k e => ⟨Nat.lt_of_lt_of_le (hP k e).1 Ge.le, (hP k e).2⟩, fun k e => ?_⟩, hxg⟩, lkc⟩
  · obtain ⟨z1, z2⟩ := hP k e
    refine ⟨Nat.lt_of_lt_of_le z1 Ge.le, ?_⟩
    rintro ((e2 | e2 | e2 | ⟨a, ha, e2⟩) | e2)
    · omega
    · omega
    · omega
    · have := (hxA a ha).1; omega
    · exact z2 (.inr e2)
  · refine ⟨Nat.lt_of_lt_of_le e Ge.le, ?_⟩
    rintro (e2 | e2 | e2 | ⟨a, ha, e2⟩)
    · omega
    · omega
    · omega
    · have := (hxA a ha).1; omega
  · rcases e with e | e
    · exact ⟨Nat.lt_of_lt_of_le (hR k e).1 Ge.le, (hR k e).2⟩
    · refine ⟨hAt.lt k e, fun e2 => ?_⟩
      have h2 := hD.lt k (.inl e2)
      rcases e with (e | e | e | ⟨a, ha, e⟩) | e
      · omega
      · omega
      · omega
      · have := (hxA a ha).1; omega
      · rcases e2 with e2 | e2 | e2 | ⟨a, ha, e2⟩
        · exact hD.gd (e2 ▸ e)
        · exact hD.cur.out (e2 ▸ e)
        · exact hD.las.out (e2 ▸ e)
        · exact (hD.own a ha).2.2.2 (e2 ▸ e)

/-- (*waystation/disk.Disk).none -/
theorem none_nil (w : World) : Ret Try.prog 46 #[.pointer none] w (fun v w' => v = .bool true ∧ w = w') := by
  refine ret_of_x (N := 12) (l := [.pointer none]) Try.func46 rfl rfl (Nat.le_of_ble_eq_true rfl) ?_
  refine x_seq ?_
  refine x_regionL ?_
  refine xl_v v_assign ?_
  refine xl_nil ?_
  refine x_seq ?_
  refine x_regionL ?_
  refine xl_v v_move ?_
  refine xl_v (by first | exact v_eql_pointerS | exact v_eql_pointerN) ?_
  refine xl_v v_move ?_
  refine xl_gs rfl EvO.eq ?_
  refine xl_gs rfl EvO.eq ?_
  refine xl_gs rfl EvO.eq ?_
  refine xl_gs rfl EvO.eq ?_
  refine xl_gs rfl EvO.eq ?_
  refine xl_v (by first | exact v_pickT | exact v_pickF | exact v_pick) ?_
  refine xl_v v_assign ?_
  refine xl_nil ?_
  refine x_ret ?_
  refine fin1 rfl ?_
  exact ⟨rfl, rfl⟩

/-- (*waystation/disk.Disk).named -/
theorem named_nil (name : ByteArray) (w : World) : Ret Try.prog 40 #[.pointer none, .string name] w (fun v w' => v = .int .i64 1 ∧ Lk w' w NoB) := by
  refine ret_of_x (N := 23) (l := [.pointer none, .string name]) Try.func40 rfl rfl (Nat.le_of_ble_eq_true rfl) ?_
  refine x_seq ?_
  refine x_regionL ?_
  refine xl_v v_assign ?_
  refine xl_nil ?_
  refine x_seq ?_
  refine x_regionL ?_
  refine xl_v v_assign ?_
  refine xl_nil ?_
  refine x_seq ?_
  refine x_block ?_
  refine x_seq ?_
  refine x_regionL ?_
  refine xl_v v_move ?_
  refine xl_call (none_nil w) ?_
  rintro _ _ ⟨rfl, rfl⟩
  refine xl_v v_assign ?_
  refine xl_nil ?_
  refine x_condT ?_
  refine x_seq ?_
  refine x_regionL ?_
  refine xl_v v_assign ?_
  refine xl_nil ?_
  refine x_ret ?_
  refine fin1 rfl ?_
  exact ⟨rfl, lkc⟩

/-- (*waystation/disk.Disk).there -/
theorem there_nil (name : ByteArray) (f : Value) (w : World) : Ret Try.prog 47 #[.pointer none, f, .string name] w (fun v w' => v = .tuple #[.slice none 0 0, .int .i64 1] ∧ Lk w' w NoB) := by
  refine ret_of_x (N := 28) (l := [.pointer none, f, .string name]) Try.func47 rfl rfl (Nat.le_of_ble_eq_true rfl) ?_
  refine x_seq ?_
  refine x_regionL ?_
  refine xl_v v_assign ?_
  refine xl_v v_assign ?_
  refine xl_nil ?_
  refine x_seq ?_
  refine x_seq ?_
  refine x_regionL ?_
  refine xl_v v_move ?_
  refine xl_v v_move ?_
  refine xl_call (named_nil name w) ?_
  rintro _ w1 ⟨rfl, lk1⟩
  refine xl_v v_assign ?_
  refine xl_nil ?_
  refine x_seq ?_
  refine x_regionL ?_
  refine xl_v v_move ?_
  refine xl_v (v_congr (u := .bool true) v_neq (by simp)) ?_
  refine xl_nil ?_
  refine x_condT ?_
  refine x_seq ?_
  refine x_regionL ?_
  refine xl_v v_move ?_
  refine xl_v v_assign ?_
  refine xl_v v_assign ?_
  refine xl_nil ?_
  refine x_ret ?_
  refine fin2 rfl ?_
  exact ⟨rfl, lkc⟩
end Go.Proofs.Ytabknhgbijcklaa
