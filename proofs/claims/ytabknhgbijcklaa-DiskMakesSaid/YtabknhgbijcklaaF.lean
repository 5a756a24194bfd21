/-
  Walks, printed by a program of this workplace (wip/tools/sx.py) off the functions' code and a text of contracts.
-/
import Derived.Test.YtabknhgbijcklaaE
set_option linter.all false
set_option maxRecDepth 100000
set_option synthInstance.maxSize 100000
set_option synthInstance.maxHeartbeats 400000
namespace Go.Proofs.Ytabknhgbijcklaa
open Go.Wst
open Go.Wst.Dm
/-- A disk that stands for M; what P names is apart from it, what R names it does not write. -/
def DiskW (P R : Nat → Prop) (d : Nat) (M : Disk) (W : World) : Prop :=
  ∃ (mb ml : Nat) (G : Nat → Prop) (D : LDisk), DiskAt W d mb ml G D ∧ Stands D M ∧ (∀ k, P k → k < W.heap.size ∧ ¬ DiskF d mb ml D.A G k) ∧ (∀ k, R k → k < W.heap.size ∧ ¬ DiskB d mb ml D.A k)
def NotP (P : Nat → Prop) : Nat → Prop := fun k => ¬ P k
theorem DiskW.keep {P R : Nat → Prop} {d : Nat} {M : Disk} {W W' : World} {S : Nat → Prop} (h : DiskW P R d M W) (hk : Keep S W W') (hs : ∀ k, k < W.heap.size → S k → P k) {P' R' : Nat → Prop} (hP : ∀ k, P' k → k < W'.heap.size ∧ (P k ∨ W.heap.size ≤ k)) (hR : ∀ k, R' k → k < W'.heap.size ∧ (R k ∨ W.heap.size ≤ k)) : DiskW P' R' d M W' := by
  obtain ⟨mb, ml, G, D, h1, h2, h3, h4⟩ := h
  refine ⟨mb, ml, G, D, h1.keep hk (fun k e e2 => (h3 k (hs k (h1.lt k e) e2)).2 e), h2, fun k e => ?_, fun k e => ?_⟩
  · obtain ⟨e1, e2⟩ := hP k e
    refine ⟨e1, fun e3 => ?_⟩
    rcases e2 with e2 | e2
    · exact (h3 k e2).2 e3
    · have := h1.lt k e3; omega
  · obtain ⟨e1, e2⟩ := hR k e
    refine ⟨e1, fun e3 => ?_⟩
    rcases e2 with e2 | e2
    · exact (h4 k e2).2 e3
    · have := h1.lt k (.inl e3); omega
theorem DiskW.lt {P R : Nat → Prop} {d : Nat} {M : Disk} {W : World} (h : DiskW P R d M W) : (∀ k, P k → k < W.heap.size) ∧ ∀ k, R k → k < W.heap.size := by
  obtain ⟨mb, ml, G, D, h1, h2, h3, h4⟩ := h
  exact ⟨fun k e => (h3 k e).1, fun k e => (h4 k e).1⟩
theorem DiskW.cell {P R : Nat → Prop} {d : Nat} {M : Disk} {W W' : World} {S : Nat → Prop} (h : DiskW P R d M W) (hk : Keep S W W') (hs : ∀ k, k < W.heap.size → S k → P k) : DiskW P R d M W' :=
  h.keep hk hs (fun k e => ⟨Nat.lt_of_lt_of_le (h.lt.1 k e) hk.size, .inl e⟩) (fun k e => ⟨Nat.lt_of_lt_of_le (h.lt.2 k e) hk.size, .inl e⟩)
theorem DiskW.ext {P R : Nat → Prop} {d : Nat} {M : Disk} {W W' : World} (h : DiskW P R d M W) (hk : Keep NoB W W') : DiskW P R d M W' := h.cell hk (fun _ _ h => h.elim)
theorem DiskW.ok {P R : Nat → Prop} {d : Nat} {M : Disk} {W : World} (h : DiskW P R d M W) : M.ok ∧ M.lasts.length + M.waits.length ≤ 10000 := by
  obtain ⟨mb, ml, G, D, h1, h2, h3, h4⟩ := h
  exact ⟨h2.ok, h2.few⟩
theorem nil_some {W : World} {A : Option Addr} {xs : List UInt8} {n : Nat} (h : RowP W A (bytesC xs)) (hl : xs.length = n) : A.isSome = true ∨ n = 0 := by
  rcases Nat.eq_zero_or_pos n with h0 | h0
  · exact .inr h0
  · exact .inl (row_some (w := W) ⟨h⟩ (by simp; omega))
theorem look0 {l : Fs} {t : Thing} : t.look (akey l t.name) = t.look (akey l t.name) := rfl
theorem okT_put {M : Disk} {name : ByteArray} {xs : List UInt8} {k : Int} (h1 : nameOk name = true) (h2 : ¬ M.room - (usedB M.files : Int) < (xs.length : Int)) : okT M.room M.files ⟨0, name, xs, k⟩ := ⟨h1, .inl ⟨rfl, by show (xs.length : Int) + usedB M.files ≤ M.room; omega⟩⟩
theorem doNo_put (M : Disk) (name : ByteArray) (xs : List UInt8) (k : Int) : M.doNo ⟨0, name, xs, k⟩ = if nameOk name = false then 130 else if M.room - (usedB M.files : Int) < (xs.length : Int) then 131 else 0 := by
  unfold Disk.doNo
  by_cases h1 : nameOk name = false
  · rw [if_pos h1, if_pos h1]
  · rw [if_neg h1, if_neg h1, if_neg (fun h => h.1 rfl), if_neg (fun h => by have := h.1; simp at this)]
    simp
/-- What begin leaves. -/
theorem DiskW.begun {P R E : Nat → Prop} {d mb ml : Nat} {G G' : Nat → Prop} {D D' : LDisk} {M' : Disk} {w W W' : World} (hl : ∀ k, DiskF d mb ml D.A G k → k < w.heap.size) (hP : ∀ k, P k → k < w.heap.size ∧ ¬ DiskF d mb ml D.A G k) (hR : ∀ k, R k → k < w.heap.size ∧ ¬ DiskB d mb ml D.A k) (hE : ∀ k, E k → w.heap.size ≤ k) (hW : w.heap.size ≤ W.heap.size) (hW' : W.heap.size ≤ W'.heap.size) (h1 : DiskAt W' d mb ml G' D') (h2 : Stands D' M') (h3 : ∀ k, DiskB d mb ml D'.A k → DiskB d mb ml D.A k ∨ W.heap.size ≤ k) (h4 : ∀ k, G' k → G k ∨ E k ∨ W.heap.size ≤ k) : DiskW P R d M' W' :=
  ⟨mb, ml, G', D', h1, h2, fun k e => ⟨by have := (hP k e).1; omega, fun e2 => by
    obtain ⟨q1, q2⟩ := hP k e
    rcases e2 with e2 | e2
    · rcases h3 k e2 with e3 | e3
      · exact q2 (.inl e3)
      · omega
    · rcases h4 k e2 with e3 | e3 | e3
      · exact q2 (.inr e3)
      · have := hE k e3; omega
      · omega⟩, fun k e => ⟨by have := (hR k e).1; omega, fun e2 => by
    obtain ⟨q1, q2⟩ := hR k e
    rcases h3 k e2 with e3 | e3
    · exact q2 e3
    · omega⟩⟩

/-- (*waystation/disk.Disk).Put -/
theorem put_ok (P R : Nat → Prop) (d : Nat) (M : Disk) (name : ByteArray) (A : Option Addr) (c : Nat) (xs : List UInt8) (k : Int) (w : World) (h : DiskW P R d M w) [Row w A (bytesC xs)] (hn : xs.length ≤ 100000000) (hfew : M.lasts.length + M.waits.length + 1 ≤ 10000) : Ret Try.prog 14 #[.pointer (some ⟨d, 0, none⟩), .string name, .slice A xs.length c] w (fun v w' => v = .int .i64 (M.doNo ⟨0, name, xs, k⟩) ∧ DiskW P R d (M.does ⟨0, name, xs, k⟩) w' ∧ Lk w' w (NotP R)) := by
  have hr0 : RowP w A (bytesC xs) := (inferInstance : Row w A (bytesC xs)).row
  obtain ⟨mb, ml, G, D, hD, hS, hP, hR⟩ := h
  haveI sP : SubF (DiskB d mb ml D.A) (NotP R) w := ⟨fun k _ e e2 => (hR k e2).2 e⟩
  haveI hb : Blk w d _ := ⟨hD.hb⟩
  have hu := hS.used
  have hcu := hS.cur.used
  have hm := hS.ok.most
  have h1m := hS.ok.one
  have hrm := hS.room
  have hno := doNo_put M name xs k
  have hdl := hD.lt d (.inl (.inl rfl))
  refine ret_of_x (N := 39) (l := [.pointer (some ⟨d, 0, none⟩), .string name, .slice A xs.length c]) Try.func14 rfl rfl (Nat.le_of_ble_eq_true rfl) ?_
  refine x_seq ?_
  refine x_regionL ?_
  refine xl_e (e_box fun b1 w1 n1 l1 k1 => ?_)
  refine xl_e (e_box fun b2 w2 n2 l2 k2 => ?_)
  refine xl_v v_assign ?_
  refine xl_nil ?_
  refine x_seq ?_
  refine x_seq ?_
  refine x_regionL ?_
  refine xl_v v_move ?_
  refine xl_v (by first | exact v_load | exact v_loadO (by omega) | exact v_loadFf (by omega) | exact v_loadF0 (by omega)) ?_
  refine xl_call (named_ok d mb ml G D M name w2 (hD.ext (kpc : Keep NoB w w2)) hS) ?_
  rintro _ w3 ⟨rfl, lk1⟩
  refine xl_v v_assign ?_
  refine xl_nil ?_
  refine x_seq ?_
  refine x_regionL ?_
  refine xl_v v_move ?_
  refine xl_v v_neq ?_
  refine xl_nil ?_
  refine x_condE (fun c1 => ?_) (fun c1 => ?_)
  ·
    have hnn : nameOk name = false := by
      cases hn2 : nameOk name with
      | false => rfl
      | true => rw [if_pos hn2] at c1; simp at c1
    refine x_seq ?_
    refine x_regionL ?_
    refine xl_v v_move ?_
    refine xl_v v_assign ?_
    refine xl_nil ?_
    refine x_ret ?_
    refine fin1 rfl ?_
    rw [if_pos hnn] at hno
    refine ⟨by rw [hno, if_neg (by simp [hnn])], ?_, lkc⟩
    rw [Disk.does, if_neg (by rw [hno]; decide)]
    exact DiskW.ext ⟨mb, ml, G, D, hD, hS, hP, hR⟩ (kpc : Keep NoB w w3)
  ·
    have hnn : nameOk name = true := by
      cases hn2 : nameOk name with
      | true => rfl
      | false => rw [hn2] at c1; simp at c1
    refine x_skip ?_
    refine x_seq ?_
    refine x_seq ?_
    refine x_drawL (NoB) (.take 0 (.take 1 (.take 2 (.take 3 (.take 4 (.take 5 (.take 6 (.take 7 (.take 8 (.take 9 (.eff 10 (.take 11 (.take 12 .done))))))))))))) mixed (by kernel_rfl) (fun _ _ _ _ _ h => h) (fun w4 l4 => ?_)
    refine xt_v rfl (by first | exact v_load | exact v_loadO (by omega) | exact v_loadFf (by omega) | exact v_loadF0 (by omega)) ?_
    refine xt_v rfl v_len ?_
    refine xt_v rfl v_move ?_
    refine xt_v rfl (by first | exact v_nilCheckP | exact v_nilCheckF) ?_
    refine xt_v rfl (by first | exact v_fieldAddr | exact v_fieldAddrF (by decide) (by omega) | exact v_fieldAddrR (by first | assumption | rfl)) ?_
    refine xt_v rfl (by first | exact v_load | exact v_loadO (by omega) | exact v_loadFf (by omega) | exact v_loadF0 (by omega)) ?_
    refine xt_v rfl v_move ?_
    refine xt_v rfl (by first | exact v_nilCheckP | exact v_nilCheckF) ?_
    refine xt_v rfl (by first | exact v_fieldAddr | exact v_fieldAddrF (by decide) (by omega) | exact v_fieldAddrR (by first | assumption | rfl)) ?_
    refine xt_v rfl (by first | exact v_loadA | exact v_loadF (by decide) (by omega)) ?_
    refine xt_call rfl (used_ok mb G D.cur w4 (hD.cur.ext (kpc : Keep NoB w w4)) (by omega)) ?_
    rintro _ w5 ⟨rfl, lk2⟩
    refine ⟨kpc, ?_⟩
    refine xt_v rfl (v_sub (by omega)) ?_
    refine xt_v rfl v_gtr ?_
    refine xt_nil ?_
    first | refine x_condP (fun c2 => ?_) (fun c2 => ?_) | refine x_condN (fun c2 => ?_) (fun c2 => ?_) | refine x_condE (fun c2 => ?_) (fun c2 => ?_)
    ·
      refine x_seq ?_
      refine x_regionL ?_
      refine xl_v v_assign ?_
      refine xl_nil ?_
      refine x_ret ?_
      refine fin1 rfl ?_
      rw [if_neg (by simp [hnn]), if_pos (by omega)] at hno
      refine ⟨by rw [hno], ?_, lkc⟩
      rw [Disk.does, if_neg (by rw [hno]; decide)]
      exact DiskW.ext ⟨mb, ml, G, D, hD, hS, hP, hR⟩ (kpc : Keep NoB w w5)
    ·
      have hlt2 : ¬ M.room - (usedB M.files : Int) < (xs.length : Int) := by omega
      rw [if_neg (by simp [hnn]), if_neg hlt2] at hno
      have hok : okT M.room M.files ⟨0, name, xs, k⟩ := okT_put hnn hlt2
      refine x_skip ?_
      refine x_seq ?_
      refine x_regionL ?_
      refine xl_v (by first | exact v_load | exact v_loadO (by omega) | exact v_loadFf (by omega) | exact v_loadF0 (by omega)) ?_
      refine xl_call (cloneb_ok A xs.length c (bytesC xs) w5 (by simp) hn (bytesC_one xs) (nil_some hr0 rfl)) ?_
      rintro _ w6 ⟨⟨A2, c2, rfl, ho2⟩, lk3⟩
      haveI : OwnI w6 A2 _ _ _ _ _ _ _ := ⟨ho2⟩
      haveI : NewA A2 w5 := newA_of ho2 (Nat.le_refl _)
      have hcap := own_cap ho2
      have hgp := (Ge.le : w.heap.size ≤ (w5).heap.size)
      have hb1w : w.heap.size ≤ b1 := by rw [n1.eq]; exact Ge.le
      have hb2w : w.heap.size ≤ b2 := by rw [n2.eq]; exact Ge.le
      refine xl_s (e_store fun w7 l7 k7 => ?_)
      refine xl_nil ?_
      refine x_seq ?_
      refine x_regionL ?_
      refine xl_v v_move ?_
      refine xl_v v_makeFunc ?_
      refine xl_v (by first | exact v_load | exact v_loadO (by omega) | exact v_loadFf (by omega) | exact v_loadF0 (by omega)) ?_
      refine xl_v v_len ?_
      refine xl_v (by first | exact v_load | exact v_loadO (by omega) | exact v_loadFf (by omega) | exact v_loadF0 (by omega)) ?_
      refine xl_v (v_buildA) ?_
      refine xl_v (by first | exact v_load | exact v_loadO (by omega) | exact v_loadFf (by omega) | exact v_loadF0 (by omega)) ?_
      refine xl_v (v_bytesStr (xs := xs) rfl) ?_
      refine xl_v v_build ?_
      refine xl_call (begin_ok d mb ml G (fun j => j = b1 ∨ j = b2 ∨ ∃ a, A2 = some a ∧ a.block = j) D M ⟨⟨0, name, xs, k⟩, .func (.func 44) ([] : List Value).toArray [Value.pointer (some ⟨b1, 0, none⟩), Value.pointer (some ⟨b2, 0, none⟩)].toArray, rfl⟩ w7 (hD.ext (kpc : Keep NoB w w7)) hS (acts_put b1 b2 name ⟨xs, A2, c2⟩ k w7 Blk.eq Blk.eq Row.row hcap (fun a ha => by have := own_blk (OwnI.own : World.ownsRow w7 _ _ _ (.slice A2 _ c2) _ _) a ha; omega)) (fun j e e2 => by
            have h1 := hD.lt j (.inl e2)
            rcases e with e | e | ⟨a, ha, e⟩
            · omega
            · omega
            · have := (own_blk ho2 a ha).1; omega) hok (hok.len (by omega) rfl) hfew) ?_
      rintro _ w8 ⟨rfl, ⟨G', D', hD', hS', hB', hG'⟩, lk4⟩
      have hgp9 := (Ge.le : w.heap.size ≤ (w7).heap.size)
      refine xl_v v_assign ?_
      refine xl_nil ?_
      refine x_ret ?_
      refine fin1 rfl ?_
      refine ⟨by rw [hno], ?_, lkc⟩
      rw [Disk.does, if_pos hno]
      refine DiskW.begun hD.lt hP hR (fun j e => ?_) hgp9 lk4.keep.size hD' hS' hB' hG'
      rcases e with e | e | ⟨a, ha, e⟩
      · omega
      · omega
      · have := (own_blk ho2 a ha).1; omega
end Go.Proofs.Ytabknhgbijcklaa
