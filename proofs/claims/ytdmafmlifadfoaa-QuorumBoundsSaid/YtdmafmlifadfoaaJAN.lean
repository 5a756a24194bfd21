/-
 Walks, printed by a program of this workplace (wip/tools/sx.py) off the functions' code and a text of contracts.
-/
import Derived.Test.YtdmafmlifadfoaaJ16
set_option linter.all false
set_option maxRecDepth 100000
set_option synthInstance.maxSize 100000
set_option synthInstance.maxHeartbeats 400000
namespace Go.Proofs.Ytdmafmlifadfoaa
open Go.Wst
open Go.Wst.Qm
/-- A block set apart. -/
def Ap1 (b : Nat) : Nat → Prop := fun k => k = b
section
variable {w w' : World} {q : Nat} {D : LQu} {R : LDq} {M : Dq}
theorem PairQ.one (h : PairQ NoB q D R M w) (hk : Keep NoB w w') {b : Nat} (hb : b = w.heap.size) (hb2 : b < w'.heap.size) : PairQ (Ap1 b) q D R M w' := by
 have h1 := h.add hk (Nat.le_of_eq hb.symm) hb2
 have e : (fun k => NoB k ∨ k = b) = Ap1 b := funext fun k => propext ⟨fun e => e.elim (fun e => e.elim) id, .inr⟩
 rwa [e] at h1
theorem PairQ.less {X X' : Nat → Prop} (h : PairQ X q D R M w) (hX : ∀ k, X' k → X k) : PairQ X' q D R M w := by
 obtain ⟨⟨F, G, h1, h2, h5⟩, h3, h4, h6⟩ := h
 exact ⟨⟨F, G, h1, h2, fun k e e2 => h5 k e (hX k e2)⟩, h3.wide (fun k _ e => ⟨e.1, fun e2 => e.2 (hX k e2)⟩), h4, fun k e => h6 k (hX k e)⟩
/-- What came in between is set apart. -/
theorem PairQ.mid {X : Nat → Prop} (h : PairQ X q D R M w) (hk : Keep NoB w w') : PairQ (fun k => X k ∨ (w.heap.size ≤ k ∧ k < w'.heap.size)) q D R M w' := by
 obtain ⟨⟨F, G, h1, h2, h5⟩, h3, h4, h6⟩ := h
 refine ⟨⟨F, G, h1.ext hk, h2, fun k e e2 => ?_⟩, (h3.wide (P' := fun k => OutQ X q D k ∧ k < w.heap.size) (fun k e e2 => ⟨e2, e⟩)).ext hk |>.wide (fun k _ e => ⟨e.1.1, fun e2 => ?_⟩), h4, fun k e => ?_⟩
 ·have := h1.fl k e
  exact e2.elim (h5 k e) (fun e3 => by omega)
 ·have := e.2
  exact e2.elim e.1.2 (fun e3 => by omega)
 ·rcases e with e | e
  ·exact ⟨Nat.lt_of_lt_of_le (h6 k e).1 hk.size, (h6 k e).2⟩
  ·exact ⟨e.2, fun e2 => by have := h1.lt k e2; omega⟩
end
theorem old_of {w : World} {A : Option Addr} {cs : List Value} (h : RowP w A cs) (hl : 0 < cs.length) : OldA w A := ⟨fun a ha => by
 obtain ⟨b, hb, hc⟩ := h 0 cs[0] (List.getElem?_eq_getElem hl)
 rw [ha] at hb
 cases hb
 have := World.block_lt_of_cell? w _ hc
 rwa [block_add] at this⟩
theorem old_pk {w : World} {A : Option Addr} {l : List Pk} (h : RowP w A (l.flatMap pkC)) (hl : 0 < l.length) : OldA w A := old_of h (by rw [flat_len (enc := pkC) (sz := 3) (fun _ => rfl)]; omega)
set_option maxHeartbeats 2000000 in
/-- waystation/waystationlaw06.QuorumPlays -/
theorem plays_ok (n : Int) (A : Option Addr) (m c : Nat) (l : List Pk) (w : World) [hrow : Row w A (l.flatMap pkC)] (hl : l.length = m) : Ret Try.prog 4 #[.int .i64 n, .slice A m c] w (fun v w' => v = .bool true ∧ Lk w' w NoB) := by
 haveI hrw : RowB w A w (l.flatMap pkC) := rowB_of hrow.row
 refine ret_of_x (N := 68) (l := [.int .i64 n, .slice A m c]) Try.func4 rfl rfl (Nat.le_of_ble_eq_true rfl) ?_
 refine x_seq ?_
 refine x_regionL ?_
 refine xl_v v_assign ?_
 refine xl_nil ?_
 refine x_seq ?_
 refine x_seq ?_
 refine x_regionL ?_
 refine xl_v v_move ?_
 refine xl_call (right_ok _ _) ?_
 rintro _ _ ⟨rfl, rfl⟩
 refine xl_v v_not ?_
 refine xl_v v_move ?_
 refine xl_split 15 (fun g15 => ?_) (fun g15 => ?_)
 ·
  refine xl_gs rfl EvO.eq ?_
  refine xl_gs rfl EvO.eq ?_
  refine xl_gs rfl EvO.eq ?_
  refine xl_Pk ?_
  refine xl_nil ?_
  refine x_condT ?_
  refine x_seq ?_
  refine x_regionL ?_
  refine xl_call (works_ok w) ?_
  rintro _ w2 ⟨rfl, lk2⟩
  refine xl_v v_assign ?_
  refine xl_nil ?_
  refine x_ret ?_
  refine fin1 rfl ?_
  exact ⟨rfl, lkc⟩
 ·
  refine xl_gv rfl EvO.eq v_move ?_
  refine xl_gv rfl EvO.eq v_len ?_
  refine xl_gv rfl EvO.eq v_gtr ?_
  refine xl_Pk ?_
  refine xl_nil ?_
  refine x_condE (fun c1 => ?_) (fun c1 => ?_)
  ·
   refine x_seq ?_
   refine x_regionL ?_
   refine xl_call (works_ok w) ?_
   rintro _ w3 ⟨rfl, lk2⟩
   refine xl_v v_assign ?_
   refine xl_nil ?_
   refine x_ret ?_
   refine fin1 rfl ?_
   exact ⟨rfl, lkc⟩
  ·
   refine x_skip ?_
   refine x_seq ?_
   have hn : n = 1 ∨ n = 3 ∨ n = 5 := by
    first
     | (simp at g15 c1; omega)
     | (simp at g15; omega)
   have hm : m ≤ 100 := by
    first
     | (simp at g15 c1; omega)
     | (simp at c1; omega)
   refine x_regionL ?_
   refine xl_v v_move ?_
   refine xl_call (newQ_p n hn w) ?_
   rintro _ w4 ⟨⟨q, D, rfl, hQ, hp, hnw⟩, lk3⟩
   refine xl_v v_move ?_
   refine xl_v v_extract ?_
   refine xl_v v_extract ?_
   refine xl_v v_assign ?_
   refine xl_v v_assign ?_
   refine xl_nil ?_
   refine x_seq ?_
   refine x_regionL ?_
   refine xl_v v_move ?_
   refine xl_call (newD_p n hn q D w4 (hQ.ext (kpc : Keep NoB _ w4)) hp) ?_
   rintro _ w5 ⟨⟨R, rfl, hP⟩, lk4⟩
   refine xl_v v_move ?_
   refine xl_v v_extract ?_
   refine xl_v v_extract ?_
   refine xl_e (e_alloc fun b7 w6 n7 l7 k7 => ?_)
   have hP7 := hP.one (kpc : Keep NoB _ w6) n7.eq Has.lt
   refine xl_s (e_storeA fun w7 l46 k46 => ?_)
   refine xl_v v_assign ?_
   refine xl_nil ?_
   refine x_seq ?_
   refine x_seq ?_
   refine x_regionL ?_
   refine xl_v v_assign ?_
   refine xl_nil ?_
   refine x_block ?_
   have hP8 := hP7.keep (kpc : Keep (OneB b7) _ w7) (fun _ _ e => e)
   refine x_loop (fun t τ ds w' => ds = [] ∧ ∃ (k : Nat) (D : LQu) (R : LDq), t = m - k ∧ k ≤ m ∧ PairQ (Ap1 b7) q D R D.pure.tell w' ∧ (∀ j, QuB q D j → w.heap.size ≤ j) ∧ Blk w' b7 (.cells (dqC R).toArray 48 (0, 0)) ∧ Ev τ 1 (.slice A m c) ∧ Ev τ 5 (.pointer (some ⟨q, 0, none⟩)) ∧ Ev τ 6 (.int .i64 0) ∧ Ev τ 7 (.pointer (some ⟨b7, 0, none⟩)) ∧ Ev τ 9 (.int .i64 (k : Int)) ∧ Lk w' w NoB) (m) ?start ?round
   case start =>
    exact ⟨rfl, 0, D, R, rfl, Nat.zero_le _, hP8, fun j e => Nat.le_trans Ge.le (hnw j e), inferInstance, inferInstance, inferInstance, inferInstance, inferInstance, evc, lkc⟩
   case round =>
    intro m τ8 ds8 w8 hI
    clear hP8
    obtain ⟨rfl, k, D, R, rfl, hk, hP, hq, kb7, e1, e5, e6, e7, e9, lk⟩ := hI
    haveI nb7 : NotS (QuB q D) b7 := ⟨(hP.xl b7 rfl).2⟩
    haveI sD : SubF (QuB q D) NoB w := ⟨fun j hj e => by have := hq j e; omega⟩
    refine x_seq ?_
    refine x_seq ?_
    refine x_regionL ?_
    refine xl_v v_move ?_
    refine xl_v v_move ?_
    refine xl_v v_len ?_
    refine xl_v v_lss ?_
    refine xl_nil ?_
    first | refine x_condP (fun c2 => ?_) (fun c2 => ?_) | refine x_condN (fun c2 => ?_) (fun c2 => ?_) | refine x_condE (fun c2 => ?_) (fun c2 => ?_)
    ·
     have hk1 : k < l.length := by omega
     haveI hoA : OldA w A := old_pk hrow.row (by omega)
     refine x_skip ?_
     refine x_seq ?_
     refine x_block ?_
     refine x_seq ?_
     refine x_drawL (NewS w8) (allS) (.take 0 (.take 1 (.take 2 (.take 3 (.take 4 (.fork 5 (.take 6 (.take 7 (.take 8 (.eff 9 (.eff 10 (.take 11 .done)))))) 9 (.eff 5 (.take 6 (.take 7 (.take 8 (.eff 10 (.take 11 .done)))))))))))) mixed (by kernel_rfl) (fun _ _ _ _ _ h => h) (fun w9 l9 => ?_)
     refine xt_Lb rfl ?_
     refine xt_v rfl v_move ?_
     refine xt_v rfl v_move ?_
     refine xt_v rfl (v_indexF k (by decide) rfl (by omega) hk1) ?_
     refine xt_v rfl (v_loadF (k := k) (by decide) hk1) ?_
     refine xt_fork ?_ ?_
     ·
      refine xt_call rfl (stepD_p _ q D R l[k] w9 (hP.mid (kpc : Keep NoB _ w9))) ?_
      rintro _ w10 ⟨⟨R1, rfl, hP1⟩, lk8⟩
      refine ⟨kpc, ?_⟩
      refine xt_v rfl v_move ?_
      refine xt_v rfl v_extract ?_
      refine xt_v rfl v_extract ?_
      refine xt_e rfl (e_alloc fun b10 w11 n10 l10 k10 => ?_)
      refine xt_s rfl (e_storeA fun w12 l12 k12 => ?_)
      refine xt_v rfl v_assign ?_
      refine xt_nil ?_
      refine x_seq ?_
      refine x_seq ?_
      haveI nb10 : NotS (QuB q D) b10 := ⟨(hP.up b10 (by rw [n10.eq]; exact Ge.le)).1⟩
      have hP3 : PairQ (Ap1 b7) q D R1 (D.pure.step l[k]).1.tell w12 := by
       first
        | exact (hP1.ext (kpc : Keep NoB _ w12)).less (fun _ e => .inl e)
        | exact (hP1.keep (kpc : Keep (OneB b10) _ w12) (fun k _ e => .inr (by have e2 : k = b10 := e; subst e2; exact ⟨by rw [n10.eq]; exact Ge.le, Has.lt⟩))).less (fun _ e => .inl e)
      refine x_regionL ?_
      refine xl_v v_move ?_
      refine xl_v v_move ?_
      refine xl_v v_move ?_
      refine xl_v (v_indexF k (by decide) rfl (by omega) hk1) ?_
      refine xl_v (v_loadF (k := k) (by decide) hk1) ?_
      refine xl_call (stepQ_p (Ap1 b7) q D R1 l[k] w12 (hP3.ext (kpc : Keep NoB _ w12))) ?_
      rintro _ w13 ⟨rfl, ⟨D1, hP2, hp2, hb2⟩, lk9⟩
      refine xl_call (num_ok _ _) ?_
      rintro _ _ ⟨rfl, rfl⟩
      refine xl_v v_move ?_
      refine xl_v (v_neqF rfl) ?_
      refine xl_v v_move ?_
      refine xl_gv rfl EvO.eq v_move ?_
      refine xl_gLb rfl EvO.eq ?_
      refine xl_gcall rfl EvO.eq (is_ok (Ap1 b7) q D1 R1 w13 (hP2.ext (kpc : Keep NoB _ w13))) ?_
      rintro _ w15 ⟨rfl, lk12⟩
      refine xl_gv rfl EvO.eq (v_congr (u := .bool false) v_not rfl) ?_
      refine xl_Pk ?_
      refine xl_nil ?_
      refine x_condF ?_
      refine x_skip ?_
      refine x_regionL ?_
      refine xl_Lb ?_
      refine xl_s (e_storeA fun w16 l111 k111 => ?_)
      refine xl_nil ?_
      refine x_regionL ?_
      refine xl_v v_move ?_
      refine xl_v (v_add (by omega)) ?_
      refine xl_v v_assign ?_
      refine xl_nil ?_
      refine ⟨_, ?_, rfl, k + 1, D1, R1, rfl, by omega, hP2.keep (kpc : Keep (OneB b7) _ _) (fun _ _ e => e), fun j e => (hb2 j e).elim (hq j) (fun e => Nat.le_trans Ge.le e), inferInstance, inferInstance, inferInstance, inferInstance, inferInstance, evc, lkc⟩
      omega
     ·
      refine xt_e rfl (e_alloc fun b10 w17 n10 l10 k10 => ?_)
      refine xt_call rfl (stepD_p _ q D R l[k] w17 (hP.mid (kpc : Keep NoB _ w17))) ?_
      rintro _ w18 ⟨⟨R1, rfl, hP1⟩, lk8⟩
      refine ⟨kpc, ?_⟩
      refine xt_v rfl v_move ?_
      refine xt_v rfl v_extract ?_
      refine xt_v rfl v_extract ?_
      refine xt_s rfl (e_storeA fun w19 l19 k19 => ?_)
      refine xt_v rfl v_assign ?_
      refine xt_nil ?_
      refine x_seq ?_
      refine x_seq ?_
      haveI nb10 : NotS (QuB q D) b10 := ⟨(hP.up b10 (by rw [n10.eq]; exact Ge.le)).1⟩
      have hP3 : PairQ (Ap1 b7) q D R1 (D.pure.step l[k]).1.tell w19 := by
       first
        | exact (hP1.ext (kpc : Keep NoB _ w19)).less (fun _ e => .inl e)
        | exact (hP1.keep (kpc : Keep (OneB b10) _ w19) (fun k _ e => .inr (by have e2 : k = b10 := e; subst e2; exact ⟨by rw [n10.eq]; exact Ge.le, Has.lt⟩))).less (fun _ e => .inl e)
      refine x_regionL ?_
      refine xl_v v_move ?_
      refine xl_v v_move ?_
      refine xl_v v_move ?_
      refine xl_v (v_indexF k (by decide) rfl (by omega) hk1) ?_
      refine xl_v (v_loadF (k := k) (by decide) hk1) ?_
      refine xl_call (stepQ_p (Ap1 b7) q D R1 l[k] w19 (hP3.ext (kpc : Keep NoB _ w19))) ?_
      rintro _ w20 ⟨rfl, ⟨D1, hP2, hp2, hb2⟩, lk9⟩
      refine xl_call (num_ok _ _) ?_
      rintro _ _ ⟨rfl, rfl⟩
      refine xl_v v_move ?_
      refine xl_v (v_neqF rfl) ?_
      refine xl_v v_move ?_
      refine xl_gv rfl EvO.eq v_move ?_
      refine xl_gLb rfl EvO.eq ?_
      refine xl_gcall rfl EvO.eq (is_ok (Ap1 b7) q D1 R1 w20 (hP2.ext (kpc : Keep NoB _ w20))) ?_
      rintro _ w22 ⟨rfl, lk12⟩
      refine xl_gv rfl EvO.eq (v_congr (u := .bool false) v_not rfl) ?_
      refine xl_Pk ?_
      refine xl_nil ?_
      refine x_condF ?_
      refine x_skip ?_
      refine x_regionL ?_
      refine xl_Lb ?_
      refine xl_s (e_storeA fun w23 l111 k111 => ?_)
      refine xl_nil ?_
      refine x_regionL ?_
      refine xl_v v_move ?_
      refine xl_v (v_add (by omega)) ?_
      refine xl_v v_assign ?_
      refine xl_nil ?_
      refine ⟨_, ?_, rfl, k + 1, D1, R1, rfl, by omega, hP2.keep (kpc : Keep (OneB b7) _ _) (fun _ _ e => e), fun j e => (hb2 j e).elim (hq j) (fun e => Nat.le_trans Ge.le e), inferInstance, inferInstance, inferInstance, inferInstance, inferInstance, evc, lkc⟩
      omega
    ·
     refine x_exit ?_
     refine x_seq ?_
     refine x_regionL ?_
     refine xl_v v_move ?_
     refine xl_call (num_ok _ _) ?_
     rintro _ _ ⟨rfl, rfl⟩
     refine xl_v (v_eqlT rfl) ?_
     refine xl_v v_move ?_
     refine xl_gcall rfl EvO.eq (works_ok w8) ?_
     rintro _ w25 ⟨rfl, lk14⟩
     refine xl_Pk ?_
     refine xl_v v_assign ?_
     refine xl_nil ?_
     refine x_ret ?_
     refine fin1 rfl ?_
     exact ⟨rfl, lkc⟩
end Go.Proofs.Ytdmafmlifadfoaa
