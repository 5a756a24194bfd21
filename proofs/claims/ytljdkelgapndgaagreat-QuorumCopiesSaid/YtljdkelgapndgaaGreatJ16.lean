/-
 Walks, printed by a program of this workplace (wip/tools/sx.py) off the functions' code and a text of contracts.
-/
import Derived.Test.YtljdkelgapndgaaGreatJ15
set_option linter.all false
set_option maxRecDepth 100000
set_option synthInstance.maxSize 100000
set_option synthInstance.maxHeartbeats 400000
namespace Go.Proofs.YtljdkelgapndgaaGreat
open Go.Wst
open Go.Wst.Qm
section
variable {w w' : World} {q : Nat} {D : LQu} {R : LDq} {M : Dq} {X S : Nat → Prop} {F : Nat → Prop}
theorem stepD_p (X : Nat → Prop) (q : Nat) (D : LQu) (R : LDq) (p : Pk) (w : World) (h : PairQ X q D R D.pure.tell w) :
    Ret Tryz.prog 10 #[.agg (dqC R).toArray, .agg (pkC p).toArray] w (fun v w' => (∃ R', v = .tuple #[.agg (dqC R').toArray, .int .i64 (D.pure.step p).2] ∧ PairQ X q D R' (D.pure.step p).1.tell w') ∧ Lk w' w NoB) := by
 obtain ⟨F, G, hQ, hInv, hX⟩ := h.ex
 refine (stepD_ok (OutQ X q D) R p w h.up h.ref (by rw [h.eq]; exact DFit.of_inv hInv)).mono ?_
 rintro v w' ⟨⟨R', rfl, hR', hA⟩, lk⟩
 have ht := tell_step hInv.fit p
 rw [h.eq, ← ht] at hR'
 refine ⟨⟨R', by rw [h.eq, ← ht], ⟨⟨F, G, hQ.ext lk.keep, hInv, hX⟩, hA, hR', fun k e => ⟨Nat.lt_of_lt_of_le (h.xl k e).1 lk.keep.size, (h.xl k e).2⟩⟩⟩, lk⟩
theorem stepQ_p (X : Nat → Prop) (q : Nat) (D : LQu) (R : LDq) (p : Pk) (w : World) (h : PairQ X q D R (D.pure.step p).1.tell w) :
    Ret Tryz.prog 11 #[.pointer (some ⟨q, 0, none⟩), .agg (pkC p).toArray] w (fun v w' => v = .int .i64 (D.pure.step p).2 ∧ (∃ D', PairQ X q D' R D'.pure.tell w' ∧ D'.pure = (D.pure.step p).1 ∧ ∀ k, QuB q D' k → QuB q D k ∨ w.heap.size ≤ k) ∧ Lk w' w (QuB q D)) := by
 obtain ⟨F, G, hQ, hInv, hX⟩ := h.ex
 refine (step_ok q D F G p w hQ hInv).mono ?_
 rintro v w' ⟨rfl, ⟨D', F', hQ', hp', hs', hb'⟩, lk⟩
 obtain ⟨G', hG'⟩ := hInv.step p
 refine ⟨rfl, ⟨D', ⟨⟨F', G', hQ', by rw [hp']; exact hG', fun k e e2 => ?_⟩, RefAt.step h.ref lk.keep hb', by rw [h.eq, hp'], fun k e => ⟨Nat.lt_of_lt_of_le (h.xl k e).1 lk.keep.size, fun e2 => ?_⟩⟩, hp', hb'⟩, lk⟩
 ·rcases hs' k e with e3 | e3
  ·exact hX k e3 e2
  ·have := (h.xl k e2).1; omega
 ·rcases hb' k e2 with e3 | e3
  ·exact (h.xl k e).2 e3
  ·have := (h.xl k e).1; omega
theorem newQ_p (n : Int) (hn : n = 1 ∨ n = 3 ∨ n = 5) (w : World) :
    Ret Tryz.prog 14 #[.int .i64 n] w (fun v w' => (∃ q D, v = .tuple #[.pointer (some ⟨q, 0, none⟩), .int .i64 0] ∧ QuAt w' (fun _ => False) q D ∧ D.pure = Qu.new n.toNat ∧ (∀ k, QuB q D k → w.heap.size ≤ k)) ∧ Lk w' w NoB) := by
 refine (new_ok n w).mono ?_
 rintro v w' ⟨h | h, lk⟩
 ·exact ⟨h.2, lk⟩
 ·exact absurd hn h.1
theorem inv_newN {n : Int} (hn : n = 1 ∨ n = 3 ∨ n = 5) : Inv (Qu.new n.toNat) ⟨fun _ => [], fun _ => none, fun _ _ _ => False, fun _ _ => [], fun _ _ _ => False⟩ := Inv.new (by omega)
theorem newD_p (n : Int) (hn : n = 1 ∨ n = 3 ∨ n = 5) (q : Nat) (D : LQu) (w : World) (hQ : QuAt w (fun _ => False) q D) (hp : D.pure = Qu.new n.toNat) :
    Ret Tryz.prog 19 #[.int .i64 n] w (fun v w' => (∃ R, v = .tuple #[.agg (dqC R).toArray, .int .i64 0] ∧ PairQ NoB q D R D.pure.tell w') ∧ Lk w' w NoB) := by
 refine (newD_ok n w).mono ?_
 rintro v w' ⟨h | h, lk⟩
 ·obtain ⟨_, R, rfl, hR, hA⟩ := h
  refine ⟨⟨R, rfl, ⟨⟨_, _, hQ.ext lk.keep, by rw [hp]; exact inv_newN hn, fun k e => e.elim⟩, hA.wide (fun k _ e => ⟨fun e2 => ?_, fun e2 => e2⟩), by rw [hR, hp, tell_newQ], fun k e => e.elim⟩⟩, lk⟩
  have := hQ.lt k e2
  omega
 ·exact absurd hn h.1
end
def _root_.Go.Wst.Qm.Dq.run (q : Dq) (l : List Pk) : Dq := l.foldl (fun q p => (q.step p).1) q
def _root_.Go.Wst.Qm.Dq.errs (q : Dq) : List Pk → List Int
 | [] => []
 | p :: l => (q.step p).2 :: (q.step p).1.errs l
theorem tell_run {q : Qu} {G : Gh} (h : Inv q G) (l : List Pk) : (q.run l).tell = q.tell.run l ∧ q.errs l = q.tell.errs l := by
 induction l generalizing q G with
 | nil => exact ⟨rfl, rfl⟩
 | cons p l ih =>
   obtain ⟨G', h'⟩ := h.step p
   have ht := tell_step h.fit p
   have e1 : (q.step p).1.tell = (q.tell.step p).1 := congrArg Prod.fst ht
   have e2 : (q.step p).2 = (q.tell.step p).2 := congrArg Prod.snd ht
   obtain ⟨i1, i2⟩ := ih h'
   rw [e1] at i1 i2
   refine ⟨i1, ?_⟩
   show (q.step p).2 :: _ = (q.tell.step p).2 :: _
   rw [e2, i2]
def works7 : List Pk := [⟨1, 0, 0⟩, ⟨5, 0, 0⟩, ⟨5, 1, 0⟩, ⟨2, 0, 7⟩, ⟨3, 0, 1⟩, ⟨5, 1, 0⟩, ⟨5, 1, 0⟩]
theorem works_errs : (Dq.new 3).errs works7 = [0, 0, 0, 0, 0, 0, 0] := by decide
theorem works_run : ((Dq.new 3).run works7).committed = [⟨1, 7⟩] ∧ (((Dq.new 3).run works7).step ⟨2, 1, 1⟩).2 = 160 ∧ ((Dq.new 3).run works7).nodes.length = 3 ∧ (((Dq.new 3).run works7).node 0).role = 3 ∧ (((Dq.new 3).run works7).node 0).term = 1 ∧ (((Dq.new 3).run works7).node 0).commit = 1 := by decide

end Go.Proofs.YtljdkelgapndgaaGreat
set_option linter.all false
set_option maxRecDepth 100000
set_option synthInstance.maxSize 100000
set_option synthInstance.maxHeartbeats 400000
namespace Go.Proofs.YtljdkelgapndgaaGreat
open Go.Wst
open Go.Wst.Qm
theorem node0 {D : LQu} (h : 0 < D.ns.length) : D.pure.node 0 = D.ns[0].x := by
 unfold Qu.node
 simp [LQu.pure, List.getD_eq_getElem?_getD, h]
set_option maxHeartbeats 2000000 in
theorem works_ok (w : World) : Ret Tryz.prog 5 #[] w (fun v w' => v = .bool true ∧ Lk w' w NoB) := by
 refine ret_of_x (N := 86) (l := []) Tryz.func5 rfl rfl (Nat.le_of_ble_eq_true rfl) ?_
 refine x_seq ?_
 refine x_regionL ?_
 refine xl_v v_assign ?_
 refine xl_nil ?_
 refine x_seq ?_
 refine x_regionL ?_
 refine xl_call (newQ_p 3 (by omega) w) ?_
 rintro _ w1 ⟨⟨q, D, rfl, hQ, hp, hnw⟩, lk1⟩
 obtain ⟨G0, hI0⟩ : ∃ G, Inv D.pure G := ⟨_, by rw [hp]; exact inv_newN (n := 3) (by omega)⟩
 obtain ⟨t1, t2⟩ := tell_run hI0 works7
 have herr : D.pure.errs works7 = [0, 0, 0, 0, 0, 0, 0] := by rw [t2, hp, tell_newQ]; exact works_errs
 have hrun := works_run
 rw [show Dq.new 3 = D.pure.tell from by rw [hp, tell_newQ]; rfl, ← t1] at hrun
 obtain ⟨hr1, hr2, hr3, hr4, hr5, hr6⟩ := hrun
 refine xl_v v_move ?_
 refine xl_v v_extract ?_
 refine xl_v v_extract ?_
 refine xl_v v_assign ?_
 refine xl_v v_assign ?_
 refine xl_nil ?_
 refine x_seq ?_
 refine x_regionL ?_
 refine xl_v v_move ?_
 refine xl_call (pick_ok 1 0 0 w1) ?_
 rintro _ w2 ⟨rfl, lk2⟩
 refine xl_call (pick_ok 5 0 0 w2) ?_
 rintro _ w3 ⟨rfl, lk3⟩
 refine xl_call (pick_ok 5 1 0 w3) ?_
 rintro _ w4 ⟨rfl, lk4⟩
 refine xl_call (pick_ok 2 0 7 w4) ?_
 rintro _ w5 ⟨rfl, lk5⟩
 refine xl_call (pick_ok 3 0 1 w5) ?_
 rintro _ w6 ⟨rfl, lk6⟩
 refine xl_call (pick_ok 5 1 0 w6) ?_
 rintro _ w7 ⟨rfl, lk7⟩
 refine xl_call (pick_ok 5 1 0 w7) ?_
 rintro _ w8 ⟨rfl, lk8⟩
 refine xl_e (e_buildSliceM (vs := works7.flatMap pkC) rfl rfl rfl fun b8 w9 n8 l8 k8 => ?_)
 haveI hr : Row w9 (some ⟨b8, 0, none⟩) (works7.flatMap pkC) := ⟨row_blk k8.eq⟩
 haveI hold8 : OldA w9 (some ⟨b8, 0, none⟩) := ⟨fun a ha => by cases ha; exact Has.lt⟩
 have hb8 : ∀ k, QuB q D k → k < b8 := fun k e => by
  have h1 := hQ.lt k e
  rw [n8.eq]
  exact Nat.lt_of_lt_of_le h1 Ge.le
 have hb9 : ∀ k, blkA (some ⟨b8, 0, none⟩) = some k → ¬ QuB q D k := fun k e e2 => by
  have := hb8 k e2
  have e3 : b8 = k := by simpa [blkA] using e
  omega
 refine xl_call (run_ok q D (fun _ => False) G0 (some ⟨b8, 0, none⟩) 7 7 works7 w9 hb9 rfl (by omega) (hQ.ext (kpc : Keep NoB _ w9)) hI0) ?_
 rintro _ w10 ⟨⟨A3, c3, rfl, ho3, D', F', hQ', hp', hs', hb', hap⟩, lk9⟩
 haveI sD : SubF (QuB q D) NoB w := ⟨fun k hk e => by have := hnw k e; omega⟩
 rw [← hp'] at hr1 hr2 hr3 hr4 hr5 hr6
 have hIr := inv_run hI0 works7
 rw [← hp'] at hIr
 obtain ⟨G', hI'⟩ := hIr
 rw [herr] at ho3
 have hl3 : D'.ns.length = 3 := by rw [tell_len, pure_len] at hr3; exact hr3
 have hn5 : D'.ns.length ≤ 5 := by omega
 haveI sD' : SubF (QuB q D') NoB w := ⟨fun k hk e => by
  rcases hb' k e with e2 | e2
  ·have := hnw k e2; omega
  ·have := (Ge.le : w.heap.size ≤ (w9).heap.size); omega⟩
 have hns0 : D'.ns[0]? = some D'.ns[0] := List.getElem?_eq_getElem (by omega)
 rw [tell_node, node0 (by omega), pure_len] at hr4 hr5 hr6
 have hz7 : ∀ (k : Nat) (h : k < [(0 : Int), 0, 0, 0, 0, 0, 0].length), [(0 : Int), 0, 0, 0, 0, 0, 0][k] = 0 := by decide
 refine xl_v v_assign ?_
 refine xl_nil ?_
 refine x_seq ?_
 refine x_seq ?_
 refine x_regionL ?_
 refine xl_v v_assign ?_
 refine xl_nil ?_
 refine x_block ?_
 obtain ⟨wL, hwL⟩ : ∃ x, x = w10 := ⟨_, rfl⟩
 have hwwL : Keep NoB w wL := by rw [hwL]; exact kpc
 haveI lkLw : Lk wL w NoB := ⟨hwwL⟩
 have hQL : QuAt wL F' q D' := by rw [hwL]; exact hQ'.ext kpc
 haveI hrL : RowB wL A3 wL (ints [(0 : Int), 0, 0, 0, 0, 0, 0]) := by rw [hwL]; exact rowB_of (FRow.of_own ho3).row
 refine x_loop (fun t τ ds w' => ds = [] ∧ ∃ (k : Nat), t = 7 - k ∧ k ≤ 7 ∧ Ev τ 1 (.pointer (some ⟨q, 0, none⟩)) ∧ Ev τ 2 (.int .i64 0) ∧ Ev τ 3 (.slice A3 7 c3) ∧ Ev τ 4 (.int .i64 (k : Int)) ∧ Lk w' wL NoB) (7) ?start ?round
 case start =>
  exact ⟨rfl, 0, rfl, Nat.zero_le _, inferInstance, inferInstance, inferInstance, evc, by rw [hwL]; exact lkc⟩
 case round =>
  intro m τ11 ds11 w11 hI
  obtain ⟨rfl, k, rfl, hk, e1, e2, e3, e4, lk⟩ := hI
  refine x_seq ?_
  refine x_seq ?_
  refine x_regionL ?_
  refine xl_v v_move ?_
  refine xl_v v_move ?_
  refine xl_v v_len ?_
  refine xl_v v_lss ?_
  refine xl_nil ?_
  first | refine x_condP (fun c1 => ?_) (fun c1 => ?_) | refine x_condN (fun c1 => ?_) (fun c1 => ?_) | refine x_condE (fun c1 => ?_) (fun c1 => ?_)
  ·
   have hk1 : k < [(0 : Int), 0, 0, 0, 0, 0, 0].length := by simp; omega
   refine x_skip ?_
   refine x_seq ?_
   refine x_block ?_
   refine x_seq ?_
   refine x_regionL ?_
   refine xl_v v_move ?_
   refine xl_v v_move ?_
   refine xl_v (v_indexO k rfl (by omega) hk1) ?_
   refine xl_v (v_loadO (k := k) hk1) ?_
   refine xl_call (num_ok _ _) ?_
   rintro _ _ ⟨rfl, rfl⟩
   refine xl_v (v_neqF (hz7 k hk1)) ?_
   refine xl_nil ?_
   refine x_condF ?_
   refine x_skip ?_
   refine x_regionL ?_
   refine xl_v v_move ?_
   refine xl_v (v_add (by omega)) ?_
   refine xl_v v_assign ?_
   refine xl_nil ?_
   refine ⟨_, ?_, rfl, k + 1, rfl, by omega, inferInstance, inferInstance, inferInstance, evc, lkc⟩
   omega
  ·
   refine x_exit ?_
   refine x_seq ?_
   refine x_regionL ?_
   refine xl_v v_move ?_
   refine xl_call (node_ok q D' F' 0 D'.ns[0] w11 (hQL.ext (kpc : Keep NoB _ w11)) hns0 hn5 (node_ok_of hI' _ (List.getElem_mem (by omega)))) ?_
   rintro _ w13 ⟨⟨z, rfl, hzx, hz⟩, lk10⟩
   rw [← hzx] at hr4 hr5 hr6
   refine xl_v v_move ?_
   refine xl_v v_extract ?_
   refine xl_v v_extract ?_
   refine xl_e (e_alloc fun b5 w14 n5 l5 k5 => ?_)
   refine xl_s (e_storeA fun w15 l15 k15 => ?_)
   refine xl_v v_assign ?_
   refine xl_nil ?_
   refine x_seq ?_
   refine x_regionL ?_
   refine xl_v v_move ?_
   refine xl_call (committed_ok q D' F' w15 (hQL.ext (kpc : Keep NoB _ w15)) (node_ok_of hI') hn5) ?_
   rintro _ w16 ⟨⟨A7, c7, rfl, ho7, hl7⟩, lk11⟩
   rw [tell_committed] at hr1
   rw [hr1] at ho7 ⊢
   haveI r7 : RowB w16 A7 w16 (cmdsC [⟨1, 7⟩]) := rowB_of (FRow.of_own ho7).row
   have hA7 : A7.isSome = true := row_some (w := w16) (A := A7) (cs := cmdsC [⟨1, 7⟩]) inferInstance (by decide)
   refine xl_v v_assign ?_
   refine xl_nil ?_
   refine x_seq ?_
   refine x_regionL ?_
   refine xl_v v_move ?_
   refine xl_call (num_ok _ _) ?_
   rintro _ _ ⟨rfl, rfl⟩
   refine xl_v v_move ?_
   refine xl_call (num_ok _ _) ?_
   rintro _ _ ⟨rfl, rfl⟩
   refine xl_v (v_add (by omega)) ?_
   refine xl_v (v_eqlT rfl) ?_
   refine xl_v v_move ?_
   refine xl_gv rfl EvO.eq v_move ?_
   refine xl_gv rfl EvO.eq v_len ?_
   refine xl_gv rfl EvO.eq (v_eqlT rfl) ?_
   refine xl_Pk ?_
   refine xl_v v_move ?_
   refine xl_gFb rfl EvO.eq ?_
   refine xl_gLc rfl EvO.eq ?_
   refine xl_gv rfl EvO.eq (v_eqlT hr4) ?_
   refine xl_Pk ?_
   refine xl_v v_move ?_
   refine xl_gFb rfl EvO.eq ?_
   refine xl_gLc rfl EvO.eq ?_
   refine xl_gv rfl EvO.eq (v_eqlT hr5) ?_
   refine xl_Pk ?_
   refine xl_v v_move ?_
   refine xl_gFb rfl EvO.eq ?_
   refine xl_gLc rfl EvO.eq ?_
   refine xl_gv rfl EvO.eq (v_eqlT hr6) ?_
   refine xl_Pk ?_
   refine xl_v v_move ?_
   refine xl_gv rfl EvO.eq v_move ?_
   refine xl_gv rfl EvO.eq v_len ?_
   refine xl_gv rfl EvO.eq (v_eqlT rfl) ?_
   refine xl_Pk ?_
   refine xl_v v_move ?_
   refine xl_gv rfl EvO.eq v_move ?_
   refine xl_gv rfl EvO.eq (v_indexF 0 (by decide) rfl (by decide) (show 0 < [(⟨1, 7⟩ : Cmd)].length from Nat.zero_lt_one)) ?_
   refine xl_gFb rfl EvO.eq ?_
   refine xl_gv rfl EvO.eq (v_loadFf (k := 0) (show 0 < [(⟨1, 7⟩ : Cmd)].length from Nat.zero_lt_one)) ?_
   refine xl_gv rfl EvO.eq (v_eqlT rfl) ?_
   refine xl_Pk ?_
   refine xl_v v_move ?_
   refine xl_gv rfl EvO.eq v_move ?_
   refine xl_gcall rfl EvO.eq (pick_ok 2 1 1 w16) ?_
   rintro _ w19 ⟨rfl, lk12⟩
   refine xl_gcall rfl EvO.eq (step_ok q D' F' G' ⟨2, 1, 1⟩ w19 (hQL.ext (kpc : Keep NoB _ w19)) hI') ?_
   rintro _ w20 ⟨rfl, _, lk13⟩
   refine xl_gcall rfl EvO.eq (num_ok _ _) ?_
   rintro _ _ ⟨rfl, rfl⟩
   refine xl_gv rfl EvO.eq (v_eqlT (by have h1 := congrArg Prod.snd (tell_step hI'.fit ⟨2, 1, 1⟩); exact h1.trans hr2)) ?_
   refine xl_Pk ?_
   refine xl_v v_assign ?_
   refine xl_nil ?_
   refine x_ret ?_
   refine fin1 rfl ?_
   exact ⟨rfl, lkc⟩
end Go.Proofs.YtljdkelgapndgaaGreat
set_option linter.all false
set_option maxRecDepth 100000
set_option synthInstance.maxSize 100000
set_option synthInstance.maxHeartbeats 400000
namespace Go.Proofs.YtljdkelgapndgaaGreat
open Go.Wst
open Go.Wst.Qm
def Ap1 (b : Nat) : Nat → Prop := fun k => k = b
section
variable {w w' : World} {q : Nat} {D : LQu} {R : LDq} {M : Dq}
theorem PairQ.one (h : PairQ NoB q D R M w) (hk : Keep NoB w w') {b : Nat} (hb : b = w.heap.size) (hb2 : b < w'.heap.size) : PairQ (Ap1 b) q D R M w' := by
 have h1 := h.add hk (Nat.le_of_eq hb.symm) hb2
 have e : (fun k => NoB k ∨ k = b) = Ap1 b := funext fun k => propext ⟨fun e => e.elim (fun e => e.elim) id, .inr⟩
 rwa [e] at h1
theorem PairQ.less {X X' : Nat → Prop} (h : PairQ X q D R M w) (hX : ∀ k, X' k → X k) : PairQ X' q D R M w := by
 obtain ⟨⟨F, G, h1, h2, h5⟩, h3, h4, h6⟩ := h
 exact ⟨⟨F, G, h1, h2, fun k e e2 => h5 k e (hX k e2)⟩, h3.wide (fun k _ e => ⟨e.1, fun e2 => e.2 (hX k e2)⟩), h4, fun k e => h6 k (hX k e)⟩
theorem PairQ.mid {X : Nat → Prop} (h : PairQ X q D R M w) (hk : Keep NoB w w') : PairQ (fun k => X k ∨ (w.heap.size ≤ k ∧ k < w'.heap.size)) q D R M w' := by
 obtain ⟨⟨F, G, h1, h2, h5⟩, h3, h4, h6⟩ := h
 refine ⟨⟨F, G, h1.ext hk, h2, fun k e e2 => ?_⟩, (h3.wide (P' := fun k => OutQ X q D k ∧ k < w.heap.size) (fun k e e2 => ⟨e2, e⟩)).ext hk |>.wide (fun k _ e => ⟨e.1.1, fun e2 => ?_⟩), h4, fun k e => ?_⟩
 ·have := h1.fl k e
  exact e2.elim (h5 k e) (fun e3 => by omega)
 ·have := e.2
  exact e2.elim e.1.2 (fun e3 => by omega)
 ·rcases e with e | e
  ·exact ⟨Nat.lt_of_lt_of_le (h6 k e).1 hk.size, (h6 k e).2⟩
  ·exact ⟨e.2, fun e2 => by have := h1.lt k e2; omega⟩
end
theorem old_of {w : World} {A : Option Addr} {cs : List Value} (h : RowP w A cs) (hl : 0 < cs.length) : OldA w A := ⟨fun a ha => by
 obtain ⟨b, hb, hc⟩ := h 0 cs[0] (List.getElem?_eq_getElem hl)
 rw [ha] at hb
 cases hb
 have := World.block_lt_of_cell? w _ hc
 rwa [block_add] at this⟩
theorem old_pk {w : World} {A : Option Addr} {l : List Pk} (h : RowP w A (l.flatMap pkC)) (hl : 0 < l.length) : OldA w A := old_of h (by rw [flat_len (enc := pkC) (sz := 3) (fun _ => rfl)]; omega)
end Go.Proofs.YtljdkelgapndgaaGreat
set_option linter.all false
set_option maxRecDepth 100000
set_option synthInstance.maxSize 100000
set_option synthInstance.maxHeartbeats 400000
namespace Go.Proofs.YtljdkelgapndgaaGreat
open Go.Wst
open Go.Wst.Qm
theorem newD_x (X : Nat → Prop) (n : Int) (hn : n = 1 ∨ n = 3 ∨ n = 5) (q : Nat) (D : LQu) (w : World) (hQ : QuAt w (fun _ => False) q D) (hp : D.pure = Qu.new n.toNat) (hX : ∀ k, X k → k < w.heap.size ∧ ¬ QuB q D k) :
    Ret Tryz.prog 19 #[.int .i64 n] w (fun v w' => (∃ R, v = .tuple #[.agg (dqC R).toArray, .int .i64 0] ∧ PairQ X q D R D.pure.tell w') ∧ Lk w' w NoB) := by
 refine (newD_ok n w).mono ?_
 rintro v w' ⟨h | h, lk⟩
 ·obtain ⟨_, R, rfl, hR, hA⟩ := h
  refine ⟨⟨R, rfl, ⟨⟨_, _, hQ.ext lk.keep, by rw [hp]; exact inv_newN hn, fun k e => e.elim⟩, hA.wide (fun k _ e => ⟨fun e2 => ?_, fun e2 => ?_⟩), by rw [hR, hp, tell_newQ], fun k e => ⟨Nat.lt_of_lt_of_le (hX k e).1 lk.keep.size, (hX k e).2⟩⟩⟩, lk⟩
  ·have := hQ.lt k e2
   omega
  ·have := (hX k e2).1
   omega
 ·exact absurd hn h.1
set_option maxHeartbeats 2000000 in
theorem played_ok (n : Int) (A : Option Addr) (m c : Nat) (l : List Pk) (w : World) [hrow : Row w A (l.flatMap pkC)] (hl : l.length = m) (hm : m ≤ 1000) (hn : n = 1 ∨ n = 3 ∨ n = 5) : Ret Tryz.prog 6 #[.int .i64 n, .slice A m c] w (fun v w' => (∃ q D R, v = .tuple #[.pointer (some ⟨q, 0, none⟩), .agg (dqC R).toArray, .bool true] ∧ PairQ NoB q D R D.pure.tell w' ∧ D.pure = (Qu.new n.toNat).run l ∧ ∀ j, QuB q D j → w.heap.size ≤ j) ∧ Lk w' w NoB) := by
 haveI hrw : RowB w A w (l.flatMap pkC) := rowB_of hrow.row
 refine ret_of_x (N := 68) (l := [.int .i64 n, .slice A m c]) Tryz.func6 rfl rfl (Nat.le_of_ble_eq_true rfl) ?_
 refine x_seq ?_
 refine x_regionL ?_
 refine xl_v v_assign ?_
 refine xl_e (e_alloc fun b5 w1 n5 l5 k5 => ?_)
 refine xl_v v_assign ?_
 refine xl_nil ?_
 refine x_seq ?_
 have hb5w : w.heap.size ≤ b5 := Nat.le_of_eq n5.eq.symm
 refine x_regionL ?_
 refine xl_v v_move ?_
 refine xl_call (newQ_p n hn w1) ?_
 rintro _ w2 ⟨⟨q, D, rfl, hQ, hp, hnw⟩, lk3⟩
 have hb5q : ¬ QuB q D b5 := fun e => by
  have h1 := hnw b5 e
  have h2 : b5 < (w1).heap.size := Has.lt
  omega
 refine xl_v v_move ?_
 refine xl_v v_extract ?_
 refine xl_v v_extract ?_
 refine xl_v v_assign ?_
 refine xl_v v_assign ?_
 refine xl_nil ?_
 refine x_seq ?_
 refine x_regionL ?_
 refine xl_v v_move ?_
 refine xl_call (newD_x (Ap1 b5) n hn q D w2 (hQ.ext (kpc : Keep NoB _ w2)) hp (fun k e => by have e2 : k = b5 := e; subst e2; exact ⟨Has.lt, hb5q⟩)) ?_
 rintro _ w3 ⟨⟨R, rfl, hP⟩, lk4⟩
 refine xl_v v_move ?_
 refine xl_v v_extract ?_
 refine xl_v v_extract ?_
 refine xl_e (e_alloc fun b9 w4 n9 l9 k9 => ?_)
 have hP7 := hP.add (kpc : Keep NoB _ w4) (Nat.le_of_eq n9.eq.symm) Has.lt
 have hne : b9 ≠ b5 := NeB.ne
 refine xl_s (e_storeA fun w5 l26 k26 => ?_)
 refine xl_v v_assign ?_
 refine xl_nil ?_
 refine x_seq ?_
 refine x_regionL ?_
 refine xl_v v_move ?_
 refine xl_call (num_ok _ _) ?_
 rintro _ _ ⟨rfl, rfl⟩
 refine xl_v (v_eqlT rfl) ?_
 refine xl_v v_move ?_
 refine xl_gv rfl EvO.eq v_move ?_
 refine xl_gv rfl EvO.eq (v_eqlT rfl) ?_
 refine xl_Pk ?_
 refine xl_v v_assign ?_
 refine xl_nil ?_
 refine x_seq ?_
 refine x_seq ?_
 refine x_regionL ?_
 refine xl_v v_assign ?_
 refine xl_nil ?_
 refine x_block ?_
 have hP8 := hP7.keep (kpc : Keep (OneB b9) _ w5) (fun _ _ e => .inr e)
 have hb5l : (w5).heap[b5]? = _ := Blk.eq
 haveI ne95 : NeB b9 b5 := ⟨hne⟩
 refine x_loop (fun t τ ds w' => ds = [] ∧ ∃ (k : Nat) (D : LQu) (R : LDq), t = m - k ∧ k ≤ m ∧ PairQ (fun j => Ap1 b5 j ∨ j = b9) q D R D.pure.tell w' ∧ D.pure = (Qu.new n.toNat).run (l.take k) ∧ (∀ j, QuB q D j → w.heap.size ≤ j) ∧ Blk w' b9 (.cells (dqC R).toArray 32 (0, 0)) ∧ w'.heap[b5]? = some (.cells [.slice none 0 0, .slice none 0 0].toArray 32 (0, 0)) ∧ Ev τ 1 (.slice A m c) ∧ Ev τ 5 (.pointer (some ⟨b5, 0, none⟩)) ∧ Ev τ 7 (.pointer (some ⟨q, 0, none⟩)) ∧ Ev τ 9 (.pointer (some ⟨b9, 0, none⟩)) ∧ Ev τ 11 (.bool true) ∧ Ev τ 12 (.int .i64 (k : Int)) ∧ Lk w' w NoB) (m) ?start ?round
 case start =>
  exact ⟨rfl, 0, D, R, rfl, Nat.zero_le _, hP8, hp, fun j e => Nat.le_trans Ge.le (hnw j e), inferInstance, hb5l, inferInstance, inferInstance, inferInstance, inferInstance, inferInstance, evc, lkc⟩
 case round =>
  intro m τ7 ds7 w7 hI
  clear hP8 hb5l
  obtain ⟨rfl, k, D, R, rfl, hk, hP, hpr, hq, kb9, hb5l, e1, e5, e7, e9, e11, e12, lk⟩ := hI
  haveI kb5 : Blk w7 b5 _ := ⟨hb5l⟩
  haveI nb9 : NotS (QuB q D) b9 := ⟨(hP.xl b9 (.inr rfl)).2⟩
  haveI nb5 : NotS (QuB q D) b5 := ⟨(hP.xl b5 (.inl rfl)).2⟩
  haveI sD : SubF (QuB q D) NoB w := ⟨fun j hj e => by have := hq j e; omega⟩
  refine x_seq ?_
  refine x_seq ?_
  refine x_regionL ?_
  refine xl_v v_move ?_
  refine xl_v v_move ?_
  refine xl_v v_len ?_
  refine xl_v v_lss ?_
  refine xl_v v_move ?_
  refine xl_split 36 (fun g36 => ?_) (fun g36 => ?_)
  ·
   refine xl_gv rfl EvO.eq v_move ?_
   refine xl_Pk ?_
   refine xl_nil ?_
   refine x_condE (fun c1 => ?_) (fun c1 => ?_)
   ·
    have hk1 : k < l.length := by
     first
      | omega
      | (simp at g36; omega)
      | (simp at c1; omega)
    haveI hoA : OldA w A := old_pk hrow.row (by omega)
    refine x_skip ?_
    refine x_seq ?_
    refine x_block ?_
    refine x_seq ?_
    refine x_drawL (NewS w7) (allS) (.take 0 (.take 1 (.take 2 (.take 3 (.take 4 (.fork 5 (.take 6 (.take 7 (.take 8 (.eff 9 (.eff 10 (.take 11 .done)))))) 9 (.eff 5 (.take 6 (.take 7 (.take 8 (.eff 10 (.take 11 .done)))))))))))) mixed (by kernel_rfl) (fun _ _ _ _ _ h => h) (fun w8 l8 => ?_)
    refine xt_Lb rfl ?_
    refine xt_v rfl v_move ?_
    refine xt_v rfl v_move ?_
    refine xt_v rfl (v_indexF k (by decide) rfl (by omega) hk1) ?_
    refine xt_v rfl (v_loadF (k := k) (by decide) hk1) ?_
    refine xt_fork ?_ ?_
    ·
     refine xt_call rfl (stepD_p _ q D R l[k] w8 (hP.mid (kpc : Keep NoB _ w8))) ?_
     rintro _ w9 ⟨⟨R1, rfl, hP1⟩, lk8⟩
     refine ⟨kpc, ?_⟩
     refine xt_v rfl v_move ?_
     refine xt_v rfl v_extract ?_
     refine xt_v rfl v_extract ?_
     refine xt_e rfl (e_alloc fun b10 w10 n10 l10 k10 => ?_)
     refine xt_s rfl (e_storeA fun w11 l11 k11 => ?_)
     refine xt_v rfl v_assign ?_
     refine xt_nil ?_
     refine x_seq ?_
     haveI nb10 : NotS (QuB q D) b10 := ⟨(hP.up b10 (by rw [n10.eq]; exact Ge.le)).1⟩
     have hP3 : PairQ (fun j => Ap1 b5 j ∨ j = b9) q D R1 (D.pure.step l[k]).1.tell w11 := by
      first
       | exact (hP1.ext (kpc : Keep NoB _ w11)).less (fun _ e => .inl e)
       | exact (hP1.keep (kpc : Keep (OneB b10) _ w11) (fun k _ e => .inr (by have e2 : k = b10 := e; subst e2; exact ⟨by rw [n10.eq]; exact Ge.le, Has.lt⟩))).less (fun _ e => .inl e)
     refine x_regionL ?_
     refine xl_v v_move ?_
     refine xl_v v_move ?_
     refine xl_v v_move ?_
     refine xl_v (v_indexF k (by decide) rfl (by omega) hk1) ?_
     refine xl_v (v_loadF (k := k) (by decide) hk1) ?_
     refine xl_call (stepQ_p _ q D R1 l[k] w11 (hP3.ext (kpc : Keep NoB _ w11))) ?_
     rintro _ w12 ⟨rfl, ⟨D1, hP2, hp2, hb2⟩, lk9⟩
     refine xl_call (num_ok _ _) ?_
     rintro _ _ ⟨rfl, rfl⟩
     refine xl_v v_move ?_
     refine xl_v (v_eqlT rfl) ?_
     refine xl_v v_assign ?_
     refine xl_nil ?_
     refine x_regionL ?_
     refine xl_Lb ?_
     refine xl_s (e_storeA fun w14 l91 k91 => ?_)
     refine xl_nil ?_
     refine x_regionL ?_
     refine xl_v v_move ?_
     refine xl_v (v_add (by omega)) ?_
     refine xl_v v_assign ?_
     refine xl_nil ?_
     refine ⟨_, ?_, rfl, k + 1, D1, R1, rfl, by omega, hP2.keep (kpc : Keep (OneB b9) _ _) (fun _ _ e => .inr e), ?_, fun j e => (hb2 j e).elim (hq j) (fun e => Nat.le_trans Ge.le e), inferInstance, Blk.eq, inferInstance, inferInstance, inferInstance, inferInstance, inferInstance, evc, lkc⟩
     ·omega
     ·rw [hp2, hpr, take_snoc l k hk1, run_snoc]
    ·
     refine xt_e rfl (e_alloc fun b10 w15 n10 l10 k10 => ?_)
     refine xt_call rfl (stepD_p _ q D R l[k] w15 (hP.mid (kpc : Keep NoB _ w15))) ?_
     rintro _ w16 ⟨⟨R1, rfl, hP1⟩, lk8⟩
     refine ⟨kpc, ?_⟩
     refine xt_v rfl v_move ?_
     refine xt_v rfl v_extract ?_
     refine xt_v rfl v_extract ?_
     refine xt_s rfl (e_storeA fun w17 l17 k17 => ?_)
     refine xt_v rfl v_assign ?_
     refine xt_nil ?_
     refine x_seq ?_
     haveI nb10 : NotS (QuB q D) b10 := ⟨(hP.up b10 (by rw [n10.eq]; exact Ge.le)).1⟩
     have hP3 : PairQ (fun j => Ap1 b5 j ∨ j = b9) q D R1 (D.pure.step l[k]).1.tell w17 := by
      first
       | exact (hP1.ext (kpc : Keep NoB _ w17)).less (fun _ e => .inl e)
       | exact (hP1.keep (kpc : Keep (OneB b10) _ w17) (fun k _ e => .inr (by have e2 : k = b10 := e; subst e2; exact ⟨by rw [n10.eq]; exact Ge.le, Has.lt⟩))).less (fun _ e => .inl e)
     refine x_regionL ?_
     refine xl_v v_move ?_
     refine xl_v v_move ?_
     refine xl_v v_move ?_
     refine xl_v (v_indexF k (by decide) rfl (by omega) hk1) ?_
     refine xl_v (v_loadF (k := k) (by decide) hk1) ?_
     refine xl_call (stepQ_p _ q D R1 l[k] w17 (hP3.ext (kpc : Keep NoB _ w17))) ?_
     rintro _ w18 ⟨rfl, ⟨D1, hP2, hp2, hb2⟩, lk9⟩
     refine xl_call (num_ok _ _) ?_
     rintro _ _ ⟨rfl, rfl⟩
     refine xl_v v_move ?_
     refine xl_v (v_eqlT rfl) ?_
     refine xl_v v_assign ?_
     refine xl_nil ?_
     refine x_regionL ?_
     refine xl_Lb ?_
     refine xl_s (e_storeA fun w20 l91 k91 => ?_)
     refine xl_nil ?_
     refine x_regionL ?_
     refine xl_v v_move ?_
     refine xl_v (v_add (by omega)) ?_
     refine xl_v v_assign ?_
     refine xl_nil ?_
     refine ⟨_, ?_, rfl, k + 1, D1, R1, rfl, by omega, hP2.keep (kpc : Keep (OneB b9) _ _) (fun _ _ e => .inr e), ?_, fun j e => (hb2 j e).elim (hq j) (fun e => Nat.le_trans Ge.le e), inferInstance, Blk.eq, inferInstance, inferInstance, inferInstance, inferInstance, inferInstance, evc, lkc⟩
     ·omega
     ·rw [hp2, hpr, take_snoc l k hk1, run_snoc]
   ·
    refine x_exit ?_
    refine x_seq ?_
    have hkm : k = m := by
     first
      | omega
      | (simp at g36; omega)
      | (simp at c1; omega)
      | (simp at c1; done)
    refine x_drawL (OneB b5) (allS) (.take 0 (.take 1 (.take 2 (.take 3 (.take 4 (.take 5 (.eff 6 (.take 7 (.take 8 (.eff 9 (.take 10 .done))))))))))) mixed (by kernel_rfl) (fun _ _ _ _ _ h => h) (fun w21 l21 => ?_)
    refine xt_v rfl v_move ?_
    refine xt_Lb rfl ?_
    refine xt_v rfl v_move ?_
    refine xt_v rfl v_move ?_
    refine xt_gv rfl rfl EvO.eq v_move ?_
    refine xt_gLb rfl rfl EvO.eq ?_
    refine xt_gcall rfl rfl EvO.eq (is_ok _ q D R w21 (hP.ext (kpc : Keep NoB _ w21))) ?_
    rintro _ w22 ⟨rfl, lk106⟩
    refine ⟨kpc, ?_⟩
    refine xt_Pk rfl ?_
    refine xt_v rfl v_assign ?_
    refine xt_s rfl (e_storeA fun w23 l109 k109 => ?_)
    refine xt_v rfl v_assign ?_
    refine xt_nil ?_
    refine x_ret ?_
    refine finR (rs := [.tmp 4, .cell 5 32, .tmp 6]) rfl ?_
    rw [hkm, List.take_of_length_le (by omega)] at hpr
    exact ⟨⟨q, D, R, by simp [outV], (hP.keep (kpc : Keep (OneB b5) _ _) (fun _ _ e => .inl e)).less (fun _ e => e.elim), hpr, hq⟩, lkc⟩
  ·
   refine xl_gs rfl EvO.eq ?_
   refine xl_Pk ?_
   refine xl_nil ?_
   refine x_condF ?_
   refine x_exit ?_
   refine x_seq ?_
   have hkm : k = m := by
    first
     | omega
     | (simp at g36; omega)
     | (simp at c1; omega)
     | (simp at c1; done)
   refine x_drawL (OneB b5) (allS) (.take 0 (.take 1 (.take 2 (.take 3 (.take 4 (.take 5 (.eff 6 (.take 7 (.take 8 (.eff 9 (.take 10 .done))))))))))) mixed (by kernel_rfl) (fun _ _ _ _ _ h => h) (fun w24 l24 => ?_)
   refine xt_v rfl v_move ?_
   refine xt_Lb rfl ?_
   refine xt_v rfl v_move ?_
   refine xt_v rfl v_move ?_
   refine xt_gv rfl rfl EvO.eq v_move ?_
   refine xt_gLb rfl rfl EvO.eq ?_
   refine xt_gcall rfl rfl EvO.eq (is_ok _ q D R w24 (hP.ext (kpc : Keep NoB _ w24))) ?_
   rintro _ w25 ⟨rfl, lk106⟩
   refine ⟨kpc, ?_⟩
   refine xt_Pk rfl ?_
   refine xt_v rfl v_assign ?_
   refine xt_s rfl (e_storeA fun w26 l109 k109 => ?_)
   refine xt_v rfl v_assign ?_
   refine xt_nil ?_
   refine x_ret ?_
   refine finR (rs := [.tmp 4, .cell 5 32, .tmp 6]) rfl ?_
   rw [hkm, List.take_of_length_le (by omega)] at hpr
   exact ⟨⟨q, D, R, by simp [outV], (hP.keep (kpc : Keep (OneB b5) _ _) (fun _ _ e => .inl e)).less (fun _ e => e.elim), hpr, hq⟩, lkc⟩
end Go.Proofs.YtljdkelgapndgaaGreat
