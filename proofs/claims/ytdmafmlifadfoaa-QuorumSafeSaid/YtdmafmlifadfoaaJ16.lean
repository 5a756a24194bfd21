/-
 Walks, printed by a program of this workplace (wip/tools/sx.py) off the functions' code and a text of contracts.
-/
import Derived.Test.YtdmafmlifadfoaaJ15
set_option linter.all false
set_option maxRecDepth 100000
set_option synthInstance.maxSize 100000
set_option synthInstance.maxHeartbeats 400000
namespace Go.Proofs.Ytdmafmlifadfoaa
open Go.Wst
open Go.Wst.Qm
section
variable {w w' : World} {q : Nat} {D : LQu} {R : LDq} {M : Dq} {X S : Nat → Prop} {F : Nat → Prop}
theorem stepD_p (X : Nat → Prop) (q : Nat) (D : LQu) (R : LDq) (p : Pk) (w : World) (h : PairQ X q D R D.pure.tell w) :
    Ret Try.prog 22 #[.agg (dqC R).toArray, .agg (pkC p).toArray] w (fun v w' => (∃ R', v = .tuple #[.agg (dqC R').toArray, .int .i64 (D.pure.step p).2] ∧ PairQ X q D R' (D.pure.step p).1.tell w') ∧ Lk w' w NoB) := by
 obtain ⟨F, G, hQ, hInv, hX⟩ := h.ex
 refine (stepD_ok (OutQ X q D) R p w h.up h.ref (by rw [h.eq]; exact DFit.of_inv hInv)).mono ?_
 rintro v w' ⟨⟨R', rfl, hR', hA⟩, lk⟩
 have ht := tell_step hInv.fit p
 rw [h.eq, ← ht] at hR'
 refine ⟨⟨R', by rw [h.eq, ← ht], ⟨⟨F, G, hQ.ext lk.keep, hInv, hX⟩, hA, hR', fun k e => ⟨Nat.lt_of_lt_of_le (h.xl k e).1 lk.keep.size, (h.xl k e).2⟩⟩⟩, lk⟩
theorem stepQ_p (X : Nat → Prop) (q : Nat) (D : LQu) (R : LDq) (p : Pk) (w : World) (h : PairQ X q D R (D.pure.step p).1.tell w) :
    Ret Try.prog 15 #[.pointer (some ⟨q, 0, none⟩), .agg (pkC p).toArray] w (fun v w' => v = .int .i64 (D.pure.step p).2 ∧ (∃ D', PairQ X q D' R D'.pure.tell w' ∧ D'.pure = (D.pure.step p).1 ∧ ∀ k, QuB q D' k → QuB q D k ∨ w.heap.size ≤ k) ∧ Lk w' w (QuB q D)) := by
 obtain ⟨F, G, hQ, hInv, hX⟩ := h.ex
 refine (step_ok q D F G p w hQ hInv).mono ?_
 rintro v w' ⟨rfl, ⟨D', F', hQ', hp', hs', hb'⟩, lk⟩
 obtain ⟨G', hG'⟩ := hInv.step p
 refine ⟨rfl, ⟨D', ⟨⟨F', G', hQ', by rw [hp']; exact hG', fun k e e2 => ?_⟩, RefAt.step h.ref lk.keep hb', by rw [h.eq, hp'], fun k e => ⟨Nat.lt_of_lt_of_le (h.xl k e).1 lk.keep.size, fun e2 => ?_⟩⟩, hp', hb'⟩, lk⟩
 ·rcases hs' k e with e3 | e3
  ·exact hX k e3 e2
  ·have := (h.xl k e2).1; omega
 ·rcases hb' k e2 with e3 | e3
  ·exact (h.xl k e).2 e3
  ·have := (h.xl k e).1; omega
theorem newQ_p (n : Int) (hn : n = 1 ∨ n = 3 ∨ n = 5) (w : World) :
    Ret Try.prog 14 #[.int .i64 n] w (fun v w' => (∃ q D, v = .tuple #[.pointer (some ⟨q, 0, none⟩), .int .i64 0] ∧ QuAt w' (fun _ => False) q D ∧ D.pure = Qu.new n.toNat ∧ (∀ k, QuB q D k → w.heap.size ≤ k)) ∧ Lk w' w NoB) := by
 refine (new_ok n w).mono ?_
 rintro v w' ⟨h | h, lk⟩
 ·exact ⟨h.2, lk⟩
 ·exact absurd hn h.1
theorem inv_newN {n : Int} (hn : n = 1 ∨ n = 3 ∨ n = 5) : Inv (Qu.new n.toNat) ⟨fun _ => [], fun _ => none, fun _ _ _ => False, fun _ _ => [], fun _ _ _ => False⟩ := Inv.new (by omega)
theorem newD_p (n : Int) (hn : n = 1 ∨ n = 3 ∨ n = 5) (q : Nat) (D : LQu) (w : World) (hQ : QuAt w (fun _ => False) q D) (hp : D.pure = Qu.new n.toNat) :
    Ret Try.prog 21 #[.int .i64 n] w (fun v w' => (∃ R, v = .tuple #[.agg (dqC R).toArray, .int .i64 0] ∧ PairQ NoB q D R D.pure.tell w') ∧ Lk w' w NoB) := by
 refine (newD_ok n w).mono ?_
 rintro v w' ⟨h | h, lk⟩
 ·obtain ⟨_, R, rfl, hR, hA⟩ := h
  refine ⟨⟨R, rfl, ⟨⟨_, _, hQ.ext lk.keep, by rw [hp]; exact inv_newN hn, fun k e => e.elim⟩, hA.wide (fun k _ e => ⟨fun e2 => ?_, fun e2 => e2⟩), by rw [hR, hp, tell_newQ], fun k e => e.elim⟩⟩, lk⟩
  have := hQ.lt k e2
  omega
 ·exact absurd hn h.1
end
/-! ### runs, as they are told -/
def _root_.Go.Wst.Qm.Dq.run (q : Dq) (l : List Pk) : Dq := l.foldl (fun q p => (q.step p).1) q
def _root_.Go.Wst.Qm.Dq.errs (q : Dq) : List Pk → List Int
 | [] => []
 | p :: l => (q.step p).2 :: (q.step p).1.errs l
theorem tell_run {q : Qu} {G : Gh} (h : Inv q G) (l : List Pk) : (q.run l).tell = q.tell.run l ∧ q.errs l = q.tell.errs l := by
 induction l generalizing q G with
 | nil => exact ⟨rfl, rfl⟩
 | cons p l ih =>
   obtain ⟨G', h'⟩ := h.step p
   have ht := tell_step h.fit p
   have e1 : (q.step p).1.tell = (q.tell.step p).1 := congrArg Prod.fst ht
   have e2 : (q.step p).2 = (q.tell.step p).2 := congrArg Prod.snd ht
   obtain ⟨i1, i2⟩ := ih h'
   rw [e1] at i1 i2
   refine ⟨i1, ?_⟩
   show (q.step p).2 :: _ = (q.tell.step p).2 :: _
   rw [e2, i2]
/-- The choices of a vote, and of a command that is committed. -/
def works7 : List Pk := [⟨1, 0, 0⟩, ⟨5, 0, 0⟩, ⟨5, 1, 0⟩, ⟨2, 0, 7⟩, ⟨3, 0, 1⟩, ⟨5, 1, 0⟩, ⟨5, 1, 0⟩]
theorem works_errs : (Dq.new 3).errs works7 = [0, 0, 0, 0, 0, 0, 0] := by decide
theorem works_run : ((Dq.new 3).run works7).committed = [⟨1, 7⟩] ∧ (((Dq.new 3).run works7).step ⟨2, 1, 1⟩).2 = 160 ∧ ((Dq.new 3).run works7).nodes.length = 3 ∧ (((Dq.new 3).run works7).node 0).role = 3 ∧ (((Dq.new 3).run works7).node 0).term = 1 ∧ (((Dq.new 3).run works7).node 0).commit = 1 := by decide

end Go.Proofs.Ytdmafmlifadfoaa
set_option linter.all false
set_option maxRecDepth 100000
set_option synthInstance.maxSize 100000
set_option synthInstance.maxHeartbeats 400000
namespace Go.Proofs.Ytdmafmlifadfoaa
open Go.Wst
open Go.Wst.Qm
theorem node0 {D : LQu} (h : 0 < D.ns.length) : D.pure.node 0 = D.ns[0].x := by
 unfold Qu.node
 simp [LQu.pure, List.getD_eq_getElem?_getD, h]
set_option maxHeartbeats 2000000 in
/-- waystation/waystationlaw06.works -/
theorem works_ok (w : World) : Ret Try.prog 13 #[] w (fun v w' => v = .bool true ∧ Lk w' w NoB) := by
 refine ret_of_x (N := 86) (l := []) Try.func13 rfl rfl (Nat.le_of_ble_eq_true rfl) ?_
 refine x_seq ?_
 refine x_regionL ?_
 refine xl_v v_assign ?_
 refine xl_nil ?_
 refine x_seq ?_
 refine x_regionL ?_
 refine xl_call (newQ_p 3 (by omega) w) ?_
 rintro _ w1 ⟨⟨q, D, rfl, hQ, hp, hnw⟩, lk1⟩
 obtain ⟨G0, hI0⟩ : ∃ G, Inv D.pure G := ⟨_, by rw [hp]; exact inv_newN (n := 3) (by omega)⟩
 obtain ⟨t1, t2⟩ := tell_run hI0 works7
 have herr : D.pure.errs works7 = [0, 0, 0, 0, 0, 0, 0] := by rw [t2, hp, tell_newQ]; exact works_errs
 have hrun := works_run
 rw [show Dq.new 3 = D.pure.tell from by rw [hp, tell_newQ]; rfl, ← t1] at hrun
 obtain ⟨hr1, hr2, hr3, hr4, hr5, hr6⟩ := hrun
 refine xl_v v_move ?_
 refine xl_v v_extract ?_
 refine xl_v v_extract ?_
 refine xl_v v_assign ?_
 refine xl_v v_assign ?_
 refine xl_nil ?_
 refine x_seq ?_
 refine x_regionL ?_
 refine xl_v v_move ?_
 refine xl_call (pick_ok 1 0 0 w1) ?_
 rintro _ w2 ⟨rfl, lk2⟩
 refine xl_call (pick_ok 5 0 0 w2) ?_
 rintro _ w3 ⟨rfl, lk3⟩
 refine xl_call (pick_ok 5 1 0 w3) ?_
 rintro _ w4 ⟨rfl, lk4⟩
 refine xl_call (pick_ok 2 0 7 w4) ?_
 rintro _ w5 ⟨rfl, lk5⟩
 refine xl_call (pick_ok 3 0 1 w5) ?_
 rintro _ w6 ⟨rfl, lk6⟩
 refine xl_call (pick_ok 5 1 0 w6) ?_
 rintro _ w7 ⟨rfl, lk7⟩
 refine xl_call (pick_ok 5 1 0 w7) ?_
 rintro _ w8 ⟨rfl, lk8⟩
 refine xl_e (e_buildSliceM (vs := works7.flatMap pkC) rfl rfl rfl fun b8 w9 n8 l8 k8 => ?_)
 haveI hr : Row w9 (some ⟨b8, 0, none⟩) (works7.flatMap pkC) := ⟨row_blk k8.eq⟩
 haveI hold8 : OldA w9 (some ⟨b8, 0, none⟩) := ⟨fun a ha => by cases ha; exact Has.lt⟩
 have hb8 : ∀ k, QuB q D k → k < b8 := fun k e => by
  have h1 := hQ.lt k e
  rw [n8.eq]
  exact Nat.lt_of_lt_of_le h1 Ge.le
 have hb9 : ∀ k, blkA (some ⟨b8, 0, none⟩) = some k → ¬ QuB q D k := fun k e e2 => by
  have := hb8 k e2
  have e3 : b8 = k := by simpa [blkA] using e
  omega
 refine xl_call (run_ok q D (fun _ => False) G0 (some ⟨b8, 0, none⟩) 7 7 works7 w9 hb9 rfl (by omega) (hQ.ext (kpc : Keep NoB _ w9)) hI0) ?_
 rintro _ w10 ⟨⟨A3, c3, rfl, ho3, D', F', hQ', hp', hs', hb', hap⟩, lk9⟩
 haveI sD : SubF (QuB q D) NoB w := ⟨fun k hk e => by have := hnw k e; omega⟩
 rw [← hp'] at hr1 hr2 hr3 hr4 hr5 hr6
 have hIr := inv_run hI0 works7
 rw [← hp'] at hIr
 obtain ⟨G', hI'⟩ := hIr
 rw [herr] at ho3
 have hl3 : D'.ns.length = 3 := by rw [tell_len, pure_len] at hr3; exact hr3
 have hn5 : D'.ns.length ≤ 5 := by omega
 haveI sD' : SubF (QuB q D') NoB w := ⟨fun k hk e => by
  rcases hb' k e with e2 | e2
  ·have := hnw k e2; omega
  ·have := (Ge.le : w.heap.size ≤ (w9).heap.size); omega⟩
 have hns0 : D'.ns[0]? = some D'.ns[0] := List.getElem?_eq_getElem (by omega)
 rw [tell_node, node0 (by omega), pure_len] at hr4 hr5 hr6
 have hz7 : ∀ (k : Nat) (h : k < [(0 : Int), 0, 0, 0, 0, 0, 0].length), [(0 : Int), 0, 0, 0, 0, 0, 0][k] = 0 := by decide
 refine xl_v v_assign ?_
 refine xl_nil ?_
 refine x_seq ?_
 refine x_seq ?_
 refine x_regionL ?_
 refine xl_v v_assign ?_
 refine xl_nil ?_
 refine x_block ?_
 obtain ⟨wL, hwL⟩ : ∃ x, x = w10 := ⟨_, rfl⟩
 have hwwL : Keep NoB w wL := by rw [hwL]; exact kpc
 haveI lkLw : Lk wL w NoB := ⟨hwwL⟩
 have hQL : QuAt wL F' q D' := by rw [hwL]; exact hQ'.ext kpc
 haveI hrL : RowB wL A3 wL (ints [(0 : Int), 0, 0, 0, 0, 0, 0]) := by rw [hwL]; exact rowB_of (FRow.of_own ho3).row
 refine x_loop (fun t τ ds w' => ds = [] ∧ ∃ (k : Nat), t = 7 - k ∧ k ≤ 7 ∧ Ev τ 1 (.pointer (some ⟨q, 0, none⟩)) ∧ Ev τ 2 (.int .i64 0) ∧ Ev τ 3 (.slice A3 7 c3) ∧ Ev τ 4 (.int .i64 (k : Int)) ∧ Lk w' wL NoB) (7) ?start ?round
 case start =>
  exact ⟨rfl, 0, rfl, Nat.zero_le _, inferInstance, inferInstance, inferInstance, evc, by rw [hwL]; exact lkc⟩
 case round =>
  intro m τ11 ds11 w11 hI
  obtain ⟨rfl, k, rfl, hk, e1, e2, e3, e4, lk⟩ := hI
  refine x_seq ?_
  refine x_seq ?_
  refine x_regionL ?_
  refine xl_v v_move ?_
  refine xl_v v_move ?_
  refine xl_v v_len ?_
  refine xl_v v_lss ?_
  refine xl_nil ?_
  first | refine x_condP (fun c1 => ?_) (fun c1 => ?_) | refine x_condN (fun c1 => ?_) (fun c1 => ?_) | refine x_condE (fun c1 => ?_) (fun c1 => ?_)
  ·
   have hk1 : k < [(0 : Int), 0, 0, 0, 0, 0, 0].length := by simp; omega
   refine x_skip ?_
   refine x_seq ?_
   refine x_block ?_
   refine x_seq ?_
   refine x_regionL ?_
   refine xl_v v_move ?_
   refine xl_v v_move ?_
   refine xl_v (v_indexO k rfl (by omega) hk1) ?_
   refine xl_v (v_loadO (k := k) hk1) ?_
   refine xl_call (num_ok _ _) ?_
   rintro _ _ ⟨rfl, rfl⟩
   refine xl_v (v_neqF (hz7 k hk1)) ?_
   refine xl_nil ?_
   refine x_condF ?_
   refine x_skip ?_
   refine x_regionL ?_
   refine xl_v v_move ?_
   refine xl_v (v_add (by omega)) ?_
   refine xl_v v_assign ?_
   refine xl_nil ?_
   refine ⟨_, ?_, rfl, k + 1, rfl, by omega, inferInstance, inferInstance, inferInstance, evc, lkc⟩
   omega
  ·
   refine x_exit ?_
   refine x_seq ?_
   refine x_regionL ?_
   refine xl_v v_move ?_
   refine xl_call (node_ok q D' F' 0 D'.ns[0] w11 (hQL.ext (kpc : Keep NoB _ w11)) hns0 hn5 (node_ok_of hI' _ (List.getElem_mem (by omega)))) ?_
   rintro _ w13 ⟨⟨z, rfl, hzx, hz⟩, lk10⟩
   rw [← hzx] at hr4 hr5 hr6
   refine xl_v v_move ?_
   refine xl_v v_extract ?_
   refine xl_v v_extract ?_
   refine xl_e (e_alloc fun b5 w14 n5 l5 k5 => ?_)
   refine xl_s (e_storeA fun w15 l15 k15 => ?_)
   refine xl_v v_assign ?_
   refine xl_nil ?_
   refine x_seq ?_
   refine x_regionL ?_
   refine xl_v v_move ?_
   refine xl_call (committed_ok q D' F' w15 (hQL.ext (kpc : Keep NoB _ w15)) (node_ok_of hI') hn5) ?_
   rintro _ w16 ⟨⟨A7, c7, rfl, ho7, hl7⟩, lk11⟩
   rw [tell_committed] at hr1
   rw [hr1] at ho7 ⊢
   haveI r7 : RowB w16 A7 w16 (cmdsC [⟨1, 7⟩]) := rowB_of (FRow.of_own ho7).row
   have hA7 : A7.isSome = true := row_some (w := w16) (A := A7) (cs := cmdsC [⟨1, 7⟩]) inferInstance (by decide)
   refine xl_v v_assign ?_
   refine xl_nil ?_
   refine x_seq ?_
   refine x_regionL ?_
   refine xl_v v_move ?_
   refine xl_call (num_ok _ _) ?_
   rintro _ _ ⟨rfl, rfl⟩
   refine xl_v v_move ?_
   refine xl_call (num_ok _ _) ?_
   rintro _ _ ⟨rfl, rfl⟩
   refine xl_v (v_add (by omega)) ?_
   refine xl_v (v_eqlT rfl) ?_
   refine xl_v v_move ?_
   refine xl_gv rfl EvO.eq v_move ?_
   refine xl_gv rfl EvO.eq v_len ?_
   refine xl_gv rfl EvO.eq (v_eqlT rfl) ?_
   refine xl_Pk ?_
   refine xl_v v_move ?_
   refine xl_gFb rfl EvO.eq ?_
   refine xl_gLc rfl EvO.eq ?_
   refine xl_gv rfl EvO.eq (v_eqlT hr4) ?_
   refine xl_Pk ?_
   refine xl_v v_move ?_
   refine xl_gFb rfl EvO.eq ?_
   refine xl_gLc rfl EvO.eq ?_
   refine xl_gv rfl EvO.eq (v_eqlT hr5) ?_
   refine xl_Pk ?_
   refine xl_v v_move ?_
   refine xl_gFb rfl EvO.eq ?_
   refine xl_gLc rfl EvO.eq ?_
   refine xl_gv rfl EvO.eq (v_eqlT hr6) ?_
   refine xl_Pk ?_
   refine xl_v v_move ?_
   refine xl_gv rfl EvO.eq v_move ?_
   refine xl_gv rfl EvO.eq v_len ?_
   refine xl_gv rfl EvO.eq (v_eqlT rfl) ?_
   refine xl_Pk ?_
   refine xl_v v_move ?_
   refine xl_gv rfl EvO.eq v_move ?_
   refine xl_gv rfl EvO.eq (v_indexF 0 (by decide) rfl (by decide) (show 0 < [(⟨1, 7⟩ : Cmd)].length from Nat.zero_lt_one)) ?_
   refine xl_gFb rfl EvO.eq ?_
   refine xl_gv rfl EvO.eq (v_loadFf (k := 0) (show 0 < [(⟨1, 7⟩ : Cmd)].length from Nat.zero_lt_one)) ?_
   refine xl_gv rfl EvO.eq (v_eqlT rfl) ?_
   refine xl_Pk ?_
   refine xl_v v_move ?_
   refine xl_gv rfl EvO.eq v_move ?_
   refine xl_gcall rfl EvO.eq (pick_ok 2 1 1 w16) ?_
   rintro _ w19 ⟨rfl, lk12⟩
   refine xl_gcall rfl EvO.eq (step_ok q D' F' G' ⟨2, 1, 1⟩ w19 (hQL.ext (kpc : Keep NoB _ w19)) hI') ?_
   rintro _ w20 ⟨rfl, _, lk13⟩
   refine xl_gcall rfl EvO.eq (num_ok _ _) ?_
   rintro _ _ ⟨rfl, rfl⟩
   refine xl_gv rfl EvO.eq (v_eqlT (by have h1 := congrArg Prod.snd (tell_step hI'.fit ⟨2, 1, 1⟩); exact h1.trans hr2)) ?_
   refine xl_Pk ?_
   refine xl_v v_assign ?_
   refine xl_nil ?_
   refine x_ret ?_
   refine fin1 rfl ?_
   exact ⟨rfl, lkc⟩
end Go.Proofs.Ytdmafmlifadfoaa
