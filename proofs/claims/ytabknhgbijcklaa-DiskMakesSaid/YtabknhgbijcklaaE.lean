/-
  Walks, printed by a program of this workplace (wip/tools/sx.py) off the functions' code and a text of contracts.
-/
import Derived.Test.YtabknhgbijcklaaD
set_option linter.all false
set_option maxRecDepth 100000
set_option synthInstance.maxSize 100000
set_option synthInstance.maxHeartbeats 400000
namespace Go.Proofs.Ytabknhgbijcklaa
open Go.Wst
open Go.Wst.Dm
theorem FilesAt.mono {W : World} {m : Nat} {G G' : Nat → Prop} {l : List (ByteArray × LB)} (h : FilesAt W m G l) (hG : ∀ k, G k → G' k) (hlt : ∀ k, G' k → k < W.heap.size) (hm : ¬ G' m) : FilesAt W m G' l :=
  ⟨h.map, fun p hp => (h.rows p hp).mono hG, h.caps, hlt, hm⟩
theorem ownB_ex {A : Option Addr} {n c k : Nat} (e : OwnB (.slice A n c) k) : ∃ a, A = some a ∧ a.block = k := by
  cases A with
  | none => cases e
  | some a => exact ⟨a, rfl, by injection e with e; exact e.symm⟩
theorem thing_one (x : LThing) : ∀ u ∈ thingC x, u.oneCell' = true := by
  intro u hu
  simp only [thingC, List.mem_cons, List.not_mem_nil, or_false] at hu
  rcases hu with rfl | rfl | rfl | rfl | rfl | rfl | rfl
  · exact x.one
  all_goals rfl
def putsN (t : Thing) : Nat := if t.what = 0 then t.bytes.length else 0
theorem putsI_N (t : Thing) : putsI t = (putsN t : Int) := by unfold putsI putsN; split <;> rfl
theorem putsN_le (t : Thing) : putsN t ≤ t.bytes.length := by unfold putsN; split <;> omega
theorem Stands.used {D : LDisk} {M : Disk} (hs : Stands D M) : usedB (fsP D.cur) ≤ 16777216 ∧ usedB (fsP D.lasts) ≤ 16777216 := by
  have h1 := hs.cur.used
  have h2 := hs.ok.files.2.1
  have h3 := hs.las.used
  have h4 := hs.ok.good.used
  have h5 := hs.ok.most
  omega
theorem Stands.pre {D : LDisk} {M : Disk} (hs : Stands D M) {t : Thing} (hok : okT M.room M.files t) : t.what = 1 → ∃ b, akey (fsP D.cur) t.name = some b ∧ t.n.toNat ≤ b.length := by
  intro h1
  rw [hs.cur.eq]
  rcases hok.2 with ⟨e, _⟩ | ⟨_, b, hb, h2, h3⟩ | ⟨e, _⟩
  · omega
  · exact ⟨b, hb, by omega⟩
  · omega

/-- (*waystation/disk.Disk).begin -/
theorem begin_ok (d mb ml : Nat) (G E : Nat → Prop) (D : LDisk) (M : Disk) (x : LThing) (w : World) (h : DiskAt w d mb ml G D) (hs : Stands D M) (hx : Acts x.g E x.t w) (hE : ∀ k, E k → ¬ DiskB d mb ml D.A k) (hok : okT M.room M.files x.t) (hxl : x.t.bytes.length ≤ 16777216) (hfew : M.lasts.length + M.waits.length + 1 ≤ 10000) : Ret Try.prog 43 #[.pointer (some ⟨d, 0, none⟩), .agg (thingC x).toArray] w (fun v w' => v = .int .i64 0 ∧ (∃ (G' : Nat → Prop) (D' : LDisk), DiskAt w' d mb ml G' D' ∧ Stands D' ⟨M.room, M.lasts, M.waits ++ [x.t]⟩ ∧ (∀ k, DiskB d mb ml D'.A k → DiskB d mb ml D.A k ∨ w.heap.size ≤ k) ∧ (∀ k, G' k → G k ∨ E k ∨ w.heap.size ≤ k)) ∧ Lk w' w (DiskB d mb ml D.A)) := by
  haveI hb : Blk w d _ := ⟨h.hb⟩
  haveI s1 : SubF (OneB mb) (DiskB d mb ml D.A) w := ⟨fun k _ e => .inr (.inl e)⟩
  haveI s2 : SubF (OneB d) (DiskB d mb ml D.A) w := ⟨fun k _ e => .inl e⟩
  haveI s3 : SubF (OwnB (.slice D.A D.waits.length D.c)) (DiskB d mb ml D.A) w := ⟨fun k _ e => .inr (.inr (.inr (ownB_ex e)))⟩
  haveI : NeB d mb := ⟨h.d1⟩
  have hdl := h.lt d (.inl (.inl rfl))
  have hmbl := h.lt mb (.inl (.inr (.inl rfl)))
  have hmll := h.lt ml (.inl (.inr (.inr (.inl rfl))))
  haveI hno : NotS (OwnB (.slice D.A D.waits.length D.c)) d := ⟨fun e => by obtain ⟨a, h1, h2⟩ := ownB_ex e; exact (h.own a h1).1 h2⟩
  have hwl : D.waits.length = M.waits.length := by rw [← hs.waits]; simp
  refine ret_of_x (N := 24) (l := [.pointer (some ⟨d, 0, none⟩), .agg (thingC x).toArray]) Try.func43 rfl rfl (Nat.le_of_ble_eq_true rfl) ?_
  refine x_seq ?_
  refine x_regionL ?_
  refine xl_e (e_box fun b1 w1 n1 l1 k1 => ?_)
  refine xl_v v_assign ?_
  refine xl_nil ?_
  haveI : NeB b1 mb := ⟨by have := n1.eq; omega⟩
  haveI : NeB b1 d := ⟨by have := n1.eq; omega⟩
  haveI : NotS (OwnB (.slice D.A D.waits.length D.c)) b1 := ⟨fun e => by obtain ⟨a, h1, h2⟩ := ownB_ex e; have := (own_blk h.row a h1).2; have := n1.eq; omega⟩
  refine x_seq ?_
  refine x_drawL (OneB mb) (.take 0 (.take 1 (.take 2 (.take 3 (.take 4 (.take 5 (.take 6 (.take 7 (.eff 8 .done))))))))) mixed (by kernel_rfl) (fun _ _ _ _ _ h => h) (fun w2 l2 => ?_)
  refine xt_v rfl (by first | exact v_fieldAddr | exact v_fieldAddrF (by decide) (by omega) | exact v_fieldAddrR (by first | assumption | rfl)) ?_
  refine xt_v rfl (by first | exact v_load | exact v_loadO (by omega) | exact v_loadFf (by omega) | exact v_loadF0 (by omega)) ?_
  refine xt_v rfl v_move ?_
  refine xt_v rfl (by first | exact v_nilCheckP | exact v_nilCheckF) ?_
  refine xt_v rfl (by first | exact v_fieldAddr | exact v_fieldAddrF (by decide) (by omega) | exact v_fieldAddrR (by first | assumption | rfl)) ?_
  refine xt_v rfl (by first | exact v_loadA | exact v_loadF (by decide) (by omega)) ?_
  refine xt_v rfl (by first | exact v_fieldAddr | exact v_fieldAddrF (by decide) (by omega) | exact v_fieldAddrR (by first | assumption | rfl)) ?_
  refine xt_v rfl (v_congr (u := .int .i64 ((putsN x.t : Nat) : Int)) v_load (congrArg _ (putsI_N x.t))) ?_
  refine xt_callv rfl (hx.2 w2 NoB (kpc : Keep NoB w w2) (fun _ _ h => h) mb G D.cur (putsN x.t) (h.cur.ext (kpc : Keep NoB w w2)) (fun e => hE mb e (.inr (.inl rfl))) (hs.pre hok) (putsN_le x.t) hxl hs.used.1) ?_
  rintro _ w3 ⟨rfl, G1, l1, hF1, hl1, hG1, lk1⟩
  refine ⟨kpc, ?_⟩
  have hgp := (Ge.le : w.heap.size ≤ (w2).heap.size)
  obtain ⟨wD, hwD⟩ : ∃ wD, wD = w3 := ⟨_, rfl⟩
  have ho1 := own_keep h.row (kpc : Keep (OneB mb) w w3) (fun k e e2 => by obtain ⟨a, h1, h2⟩ := ownB_ex e.symm; exact (h.own a h1).2.1 (by have e2' : k = mb := e2; rw [h2]; exact e2'))
  refine xt_nil ?_
  refine x_seq ?_
  refine x_drawL (fun k => OneB d k ∨ OwnB (.slice D.A D.waits.length D.c) k) (.take 0 (.take 1 (.take 2 (.take 3 (.take 5 (.fork 4 (.eff 6 (.eff 7 (.take 8 (.take 9 (.eff 10 .done))))) 6 (.eff 4 (.eff 7 (.take 8 (.take 9 (.eff 10 .done))))))))))) mixed (by kernel_rfl) (fun _ _ _ _ _ h => h) (fun w4 l4 => ?_)
  refine xt_v rfl v_move ?_
  refine xt_v rfl v_move ?_
  refine xt_v rfl (by first | exact v_nilCheckP | exact v_nilCheckF) ?_
  refine xt_v rfl (by first | exact v_fieldAddr | exact v_fieldAddrF (by decide) (by omega) | exact v_fieldAddrR (by first | assumption | rfl)) ?_
  refine xt_v rfl (by first | exact v_loadA | exact v_loadF (by decide) (by omega)) ?_
  refine xt_fork ?_ ?_
  ·
    refine xt_e rfl (e_v (v_load (r := none)) ?_)
    refine xt_e rfl (e_buildSlice1 (vs := thingC x) rfl fun bs w5 ns ls ks => ?_)
    refine xt_e rfl (e_append' (own_ext ho1 lkc) (Nat.zero_le _) (by rfl) (thing_one x) (by decide) (.inl rfl) (by omega) (by omega) fun A2 c2 w6 ho2 l2 hf2 => ?_)
    refine xt_v rfl (by first | exact v_nilCheckP | exact v_nilCheckF) ?_
    refine xt_v rfl (by first | exact v_fieldAddr | exact v_fieldAddrF (by decide) (by omega) | exact v_fieldAddrR (by first | assumption | rfl)) ?_
    refine xt_s rfl (e_store fun w7 l7 k7 => ?_)
    refine xt_nil ?_
    refine x_seq ?_
    refine x_regionL ?_
    refine xl_v v_assign ?_
    refine xl_nil ?_
    refine x_ret ?_
    refine fin1 rfl ?_
    subst hwD
    have hE2 : ∀ k, E k → k < w.heap.size := hx.1
    have hA2n : ∀ a, A2 = some a → (∀ b, D.A = some b → b.block ≠ a.block) → wD.heap.size ≤ a.block := by
      rintro a rfl hn
      rcases hf2 with e | e
      · obtain ⟨b, hb2, e⟩ := ownB_ex (k := a.block) e
        exact absurd e (hn b hb2)
      · have e' : some a.block = some _ := e
        injection e' with e'
        rw [e']
        exact Ge.le
    have hG1w : ∀ k, G1 k → G k ∨ w.heap.size ≤ k := fun k e => (hG1 k e).imp id (fun e => Nat.le_trans hgp e)
    have hoA : ∀ a, D.A = some a → a.block < w.heap.size := fun a ha => (own_blk h.row a ha).2
    have hA2 : ∀ a, A2 = some a → (∃ b, D.A = some b ∧ b.block = a.block) ∨ w.heap.size ≤ a.block := by
      rintro a rfl
      rcases hf2 with e | e
      · exact .inl (ownB_ex (k := a.block) e)
      · refine .inr ?_
        have e' : some a.block = some _ := e
        injection e' with e'
        rw [e']
        exact Ge.le
    have hlt : ∀ k, k < w.heap.size → k < (w7).heap.size := fun k e => Nat.lt_of_lt_of_le e Ge.le
    have K : Keep (fun k => OneB mb k ∨ OneB d k ∨ OwnB (.slice D.A D.waits.length D.c) k) w w7 := kpc
    have hS : ∀ k, (k ≠ mb ∧ k ≠ d ∧ ∀ a, D.A = some a → a.block ≠ k) → ¬ (OneB mb k ∨ OneB d k ∨ OwnB (.slice D.A D.waits.length D.c) k) := by
      rintro k ⟨h1, h2, h3⟩ (e | e | e)
      · exact h1 e
      · exact h2 e
      · obtain ⟨a, ha, e⟩ := ownB_ex e
        exact h3 a ha e
    have hGS : ∀ k, G k → (k ≠ mb ∧ k ≠ d ∧ ∀ a, D.A = some a → a.block ≠ k) := fun k e => ⟨fun e2 => h.cur.out (e2 ▸ e), fun e2 => h.gd (e2 ▸ e), fun a ha e2 => (h.own a ha).2.2.2 (e2 ▸ e)⟩
    have hES : ∀ k, E k → (k ≠ mb ∧ k ≠ d ∧ ∀ a, D.A = some a → a.block ≠ k) := fun k e => ⟨fun e2 => hE k e (.inr (.inl e2)), fun e2 => hE k e (.inl e2), fun a ha e2 => hE k e (.inr (.inr (.inr ⟨a, ha, e2⟩)))⟩
    have hG1S : ∀ k, G1 k → (k ≠ d ∧ ∀ a, D.A = some a → a.block ≠ k) := fun k e => by
      rcases hG1w k e with e2 | e2
      · exact (hGS k e2).2
      · exact ⟨by omega, fun a ha => by have := hoA a ha; omega⟩
    have K3 : Keep (fun k => OneB d k ∨ OwnB (.slice D.A D.waits.length D.c) k) _ w7 := (kpc : Keep (fun k => OneB d k ∨ OwnB (.slice D.A D.waits.length D.c) k) wD w7)
    have hltG : ∀ k, (G1 k ∨ G k ∨ E k) → k < (w7).heap.size := by
      rintro k (e | e | e)
      · exact Nat.lt_of_lt_of_le (hF1.lt k e) K3.size
      · exact hlt k (h.cur.lt k e)
      · exact hlt k (hE2 k e)
    refine ⟨rfl, ⟨fun k => G1 k ∨ G k ∨ E k, ⟨D.room, l1, D.lasts, D.waits ++ [x], A2, c2⟩, ⟨by simpa using (Blk.eq : (w7).heap[d]? = _), ?_, ?_, ?_, ?_, h.d1, h.d2, h.d3, ?_, ?_⟩, ?_, ?_, ?_⟩, lkc⟩
    · refine (hF1.keep K3 (fun e => ?_) (fun k e e2 => ?_)).mono (fun k e => .inl e) hltG ?_
      · rcases e with e | e
        · exact h.d1 e.symm
        · obtain ⟨a, ha, e⟩ := ownB_ex e
          exact (h.own a ha).2.1 e
      · rcases e2 with e2 | e2
        · exact (hG1S k e).1 e2
        · obtain ⟨a, ha, e2⟩ := ownB_ex e2
          exact (hG1S k e).2 a ha e2
      · rintro (e | e | e)
        · exact hF1.out e
        · exact h.cur.out e
        · exact hE mb e (.inr (.inl rfl))
    · refine (h.las.keep K (hS ml ⟨fun e => h.d3 e.symm, fun e => h.d2 e.symm, fun a ha e => (h.own a ha).2.2.1 e⟩) (fun k e => hS k (hGS k e))).mono (fun k e => .inr (.inl e)) hltG ?_
      rintro (e | e | e)
      · rcases hG1w ml e with e | e
        · exact h.las.out e
        · omega
      · exact h.las.out e
      · exact hE ml e (.inr (.inr (.inl rfl)))
    · have := own_keep ho2 (kpc : Keep (OneB d) _ w7) (fun k e e2 => by
        obtain ⟨a, ha, e3⟩ := ownB_ex e.symm
        have e2' : k = d := e2
        rcases hA2 a ha with ⟨b, hb2, e4⟩ | e4
        · exact (h.own b hb2).1 (by omega)
        · omega)
      simpa using this
    · intro y hy
      rcases List.mem_append.1 hy with hy | hy
      · exact ((h.acts y hy).keep K (fun k e => hS k (hGS k e))).mono (fun k e => .inr (.inl e)) hltG
      · have e : y = x := by simpa using hy
        subst e
        exact (hx.keep K (fun k e => hS k (hES k e))).mono (fun k e => .inr (.inr e)) hltG
    · rintro (e | e | e)
      · exact (hG1S d e).1 rfl
      · exact h.gd e
      · exact hE d e (.inl rfl)
    · intro a ha
      rcases hA2 a ha with ⟨b, hb2, e4⟩ | e4
      · obtain ⟨q1, q2, q3, q4⟩ := h.own b hb2
        refine ⟨by omega, by omega, by omega, ?_⟩
        rintro (e | e | e)
        · exact (hG1S _ e).2 b hb2 e4
        · exact q4 (e4 ▸ e)
        · exact (hES _ e).2.2 b hb2 e4
      · have h9 : (wD).heap.size ≤ a.block := hA2n a ha (fun b hb2 => by have := hoA b hb2; omega)
        refine ⟨by omega, by omega, by omega, ?_⟩
        rintro (e | e | e)
        · have := hF1.lt _ e; omega
        · have := h.cur.lt _ e; omega
        · have := hE2 _ e; omega
    · refine ⟨hs.room, by simp [hs.waits], ?_, hs.las, hs.ok.snoc hok, by simp; omega, fun t ht => by
        rcases List.mem_append.1 ht with h1 | h1
        · exact hs.lens t h1
        · have e : t = x.t := by simpa using h1
          rw [e]; exact hxl⟩
      rw [files_snoc, hl1, doneM_torn _ _ _ (fun h0 => by unfold putsN; rw [if_pos h0]; exact Nat.le_refl _)]
      exact hs.cur.done hok.what hok.there
    · rintro k (e | e | e | ⟨a, ha, e⟩)
      · exact .inl (.inl e)
      · exact .inl (.inr (.inl e))
      · exact .inl (.inr (.inr (.inl e)))
      · rcases hA2 a ha with ⟨b, hb2, e4⟩ | e4
        · exact .inl (.inr (.inr (.inr ⟨b, hb2, e4.trans e⟩)))
        · exact .inr (by omega)
    · rintro k (e | e | e)
      · exact (hG1w k e).imp id .inr
      · exact .inl e
      · exact .inr (.inl e)
  ·
    refine xt_e rfl (e_buildSlice1 (vs := thingC x) rfl fun bs w8 ns ls ks => ?_)
    refine xt_e rfl (e_v (v_load (r := none)) ?_)
    refine xt_e rfl (e_append' (own_ext ho1 lkc) (Nat.zero_le _) (by rfl) (thing_one x) (by decide) (.inl rfl) (by omega) (by omega) fun A2 c2 w9 ho2 l2 hf2 => ?_)
    refine xt_v rfl (by first | exact v_nilCheckP | exact v_nilCheckF) ?_
    refine xt_v rfl (by first | exact v_fieldAddr | exact v_fieldAddrF (by decide) (by omega) | exact v_fieldAddrR (by first | assumption | rfl)) ?_
    refine xt_s rfl (e_store fun w10 l10 k10 => ?_)
    refine xt_nil ?_
    refine x_seq ?_
    refine x_regionL ?_
    refine xl_v v_assign ?_
    refine xl_nil ?_
    refine x_ret ?_
    refine fin1 rfl ?_
    subst hwD
    have hE2 : ∀ k, E k → k < w.heap.size := hx.1
    have hA2n : ∀ a, A2 = some a → (∀ b, D.A = some b → b.block ≠ a.block) → wD.heap.size ≤ a.block := by
      rintro a rfl hn
      rcases hf2 with e | e
      · obtain ⟨b, hb2, e⟩ := ownB_ex (k := a.block) e
        exact absurd e (hn b hb2)
      · have e' : some a.block = some _ := e
        injection e' with e'
        rw [e']
        exact Ge.le
    have hG1w : ∀ k, G1 k → G k ∨ w.heap.size ≤ k := fun k e => (hG1 k e).imp id (fun e => Nat.le_trans hgp e)
    have hoA : ∀ a, D.A = some a → a.block < w.heap.size := fun a ha => (own_blk h.row a ha).2
    have hA2 : ∀ a, A2 = some a → (∃ b, D.A = some b ∧ b.block = a.block) ∨ w.heap.size ≤ a.block := by
      rintro a rfl
      rcases hf2 with e | e
      · exact .inl (ownB_ex (k := a.block) e)
      · refine .inr ?_
        have e' : some a.block = some _ := e
        injection e' with e'
        rw [e']
        exact Ge.le
    have hlt : ∀ k, k < w.heap.size → k < (w10).heap.size := fun k e => Nat.lt_of_lt_of_le e Ge.le
    have K : Keep (fun k => OneB mb k ∨ OneB d k ∨ OwnB (.slice D.A D.waits.length D.c) k) w w10 := kpc
    have hS : ∀ k, (k ≠ mb ∧ k ≠ d ∧ ∀ a, D.A = some a → a.block ≠ k) → ¬ (OneB mb k ∨ OneB d k ∨ OwnB (.slice D.A D.waits.length D.c) k) := by
      rintro k ⟨h1, h2, h3⟩ (e | e | e)
      · exact h1 e
      · exact h2 e
      · obtain ⟨a, ha, e⟩ := ownB_ex e
        exact h3 a ha e
    have hGS : ∀ k, G k → (k ≠ mb ∧ k ≠ d ∧ ∀ a, D.A = some a → a.block ≠ k) := fun k e => ⟨fun e2 => h.cur.out (e2 ▸ e), fun e2 => h.gd (e2 ▸ e), fun a ha e2 => (h.own a ha).2.2.2 (e2 ▸ e)⟩
    have hES : ∀ k, E k → (k ≠ mb ∧ k ≠ d ∧ ∀ a, D.A = some a → a.block ≠ k) := fun k e => ⟨fun e2 => hE k e (.inr (.inl e2)), fun e2 => hE k e (.inl e2), fun a ha e2 => hE k e (.inr (.inr (.inr ⟨a, ha, e2⟩)))⟩
    have hG1S : ∀ k, G1 k → (k ≠ d ∧ ∀ a, D.A = some a → a.block ≠ k) := fun k e => by
      rcases hG1w k e with e2 | e2
      · exact (hGS k e2).2
      · exact ⟨by omega, fun a ha => by have := hoA a ha; omega⟩
    have K3 : Keep (fun k => OneB d k ∨ OwnB (.slice D.A D.waits.length D.c) k) _ w10 := (kpc : Keep (fun k => OneB d k ∨ OwnB (.slice D.A D.waits.length D.c) k) wD w10)
    have hltG : ∀ k, (G1 k ∨ G k ∨ E k) → k < (w10).heap.size := by
      rintro k (e | e | e)
      · exact Nat.lt_of_lt_of_le (hF1.lt k e) K3.size
      · exact hlt k (h.cur.lt k e)
      · exact hlt k (hE2 k e)
    refine ⟨rfl, ⟨fun k => G1 k ∨ G k ∨ E k, ⟨D.room, l1, D.lasts, D.waits ++ [x], A2, c2⟩, ⟨by simpa using (Blk.eq : (w10).heap[d]? = _), ?_, ?_, ?_, ?_, h.d1, h.d2, h.d3, ?_, ?_⟩, ?_, ?_, ?_⟩, lkc⟩
    · refine (hF1.keep K3 (fun e => ?_) (fun k e e2 => ?_)).mono (fun k e => .inl e) hltG ?_
      · rcases e with e | e
        · exact h.d1 e.symm
        · obtain ⟨a, ha, e⟩ := ownB_ex e
          exact (h.own a ha).2.1 e
      · rcases e2 with e2 | e2
        · exact (hG1S k e).1 e2
        · obtain ⟨a, ha, e2⟩ := ownB_ex e2
          exact (hG1S k e).2 a ha e2
      · rintro (e | e | e)
        · exact hF1.out e
        · exact h.cur.out e
        · exact hE mb e (.inr (.inl rfl))
    · refine (h.las.keep K (hS ml ⟨fun e => h.d3 e.symm, fun e => h.d2 e.symm, fun a ha e => (h.own a ha).2.2.1 e⟩) (fun k e => hS k (hGS k e))).mono (fun k e => .inr (.inl e)) hltG ?_
      rintro (e | e | e)
      · rcases hG1w ml e with e | e
        · exact h.las.out e
        · omega
      · exact h.las.out e
      · exact hE ml e (.inr (.inr (.inl rfl)))
    · have := own_keep ho2 (kpc : Keep (OneB d) _ w10) (fun k e e2 => by
        obtain ⟨a, ha, e3⟩ := ownB_ex e.symm
        have e2' : k = d := e2
        rcases hA2 a ha with ⟨b, hb2, e4⟩ | e4
        · exact (h.own b hb2).1 (by omega)
        · omega)
      simpa using this
    · intro y hy
      rcases List.mem_append.1 hy with hy | hy
      · exact ((h.acts y hy).keep K (fun k e => hS k (hGS k e))).mono (fun k e => .inr (.inl e)) hltG
      · have e : y = x := by simpa using hy
        subst e
        exact (hx.keep K (fun k e => hS k (hES k e))).mono (fun k e => .inr (.inr e)) hltG
    · rintro (e | e | e)
      · exact (hG1S d e).1 rfl
      · exact h.gd e
      · exact hE d e (.inl rfl)
    · intro a ha
      rcases hA2 a ha with ⟨b, hb2, e4⟩ | e4
      · obtain ⟨q1, q2, q3, q4⟩ := h.own b hb2
        refine ⟨by omega, by omega, by omega, ?_⟩
        rintro (e | e | e)
        · exact (hG1S _ e).2 b hb2 e4
        · exact q4 (e4 ▸ e)
        · exact (hES _ e).2.2 b hb2 e4
      · have h9 : (wD).heap.size ≤ a.block := hA2n a ha (fun b hb2 => by have := hoA b hb2; omega)
        refine ⟨by omega, by omega, by omega, ?_⟩
        rintro (e | e | e)
        · have := hF1.lt _ e; omega
        · have := h.cur.lt _ e; omega
        · have := hE2 _ e; omega
    · refine ⟨hs.room, by simp [hs.waits], ?_, hs.las, hs.ok.snoc hok, by simp; omega, fun t ht => by
        rcases List.mem_append.1 ht with h1 | h1
        · exact hs.lens t h1
        · have e : t = x.t := by simpa using h1
          rw [e]; exact hxl⟩
      rw [files_snoc, hl1, doneM_torn _ _ _ (fun h0 => by unfold putsN; rw [if_pos h0]; exact Nat.le_refl _)]
      exact hs.cur.done hok.what hok.there
    · rintro k (e | e | e | ⟨a, ha, e⟩)
      · exact .inl (.inl e)
      · exact .inl (.inr (.inl e))
      · exact .inl (.inr (.inr (.inl e)))
      · rcases hA2 a ha with ⟨b, hb2, e4⟩ | e4
        · exact .inl (.inr (.inr (.inr ⟨b, hb2, e4.trans e⟩)))
        · exact .inr (by omega)
    · rintro k (e | e | e)
      · exact (hG1w k e).imp id .inr
      · exact .inl e
      · exact .inr (.inl e)
end Go.Proofs.Ytabknhgbijcklaa
