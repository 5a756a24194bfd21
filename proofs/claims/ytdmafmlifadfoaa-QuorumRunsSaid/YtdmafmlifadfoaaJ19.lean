/-
 Walks, printed by a program of this workplace (wip/tools/sx.py) off the functions' code and a text of contracts.
-/
import Derived.Test.YtdmafmlifadfoaaJAN
set_option linter.all false
set_option maxRecDepth 100000
set_option synthInstance.maxSize 100000
set_option synthInstance.maxHeartbeats 400000
namespace Go.Proofs.Ytdmafmlifadfoaa
open Go.Wst
open Go.Wst.Qm
theorem stepD_q (X : Nat → Prop) (q : Nat) (D : LQu) (R : LDq) (Q : Qu) (G0 : Gh) (p : Pk) (w : World) (h : PairQ X q D R Q.tell w) (hQI : Inv Q G0) :
    Ret Try.prog 22 #[.agg (dqC R).toArray, .agg (pkC p).toArray] w (fun v w' => (∃ R', v = .tuple #[.agg (dqC R').toArray, .int .i64 (Q.step p).2] ∧ PairQ X q D R' (Q.step p).1.tell w') ∧ Lk w' w NoB) := by
 obtain ⟨F, G, hQ, hInv, hX⟩ := h.ex
 refine (stepD_ok (OutQ X q D) R p w h.up h.ref (by rw [h.eq]; exact DFit.of_inv hQI)).mono ?_
 rintro v w' ⟨⟨R', rfl, hR', hA⟩, lk⟩
 have ht := tell_step hQI.fit p
 rw [h.eq, ← ht] at hR'
 refine ⟨⟨R', by rw [h.eq, ← ht], ⟨⟨F, G, hQ.ext lk.keep, hInv, hX⟩, hA, hR', fun k e => ⟨Nat.lt_of_lt_of_le (h.xl k e).1 lk.keep.size, (h.xl k e).2⟩⟩⟩, lk⟩
theorem newD_r (n : Int) (hn : n = 1 ∨ n = 3 ∨ n = 5) (q : Nat) (D : LQu) (F : Nat → Prop) (G : Gh) (w : World) (hQ : QuAt w F q D) (hI : Inv D.pure G) :
    Ret Try.prog 21 #[.int .i64 n] w (fun v w' => (∃ R, v = .tuple #[.agg (dqC R).toArray, .int .i64 0] ∧ PairQ NoB q D R (Qu.new n.toNat).tell w') ∧ Lk w' w NoB) := by
 refine (newD_ok n w).mono ?_
 rintro v w' ⟨h | h, lk⟩
 ·obtain ⟨_, R, rfl, hR, hA⟩ := h
  refine ⟨⟨R, rfl, ⟨⟨_, _, hQ.ext lk.keep, hI, fun k _ e => e.elim⟩, hA.wide (fun k _ e => ⟨fun e2 => ?_, fun e2 => e2⟩), by rw [hR, tell_newQ], fun k e => e.elim⟩⟩, lk⟩
  have := hQ.lt k e2
  omega
 ·exact absurd hn h.1
theorem errs_get (q : Qu) (l : List Pk) (k : Nat) (h : k < l.length) (h2 : k < (q.errs l).length) : (q.errs l)[k] = ((q.run (l.take k)).step l[k]).2 := by
 induction l generalizing q k with
 | nil => cases h
 | cons p l ih =>
   cases k with
   | zero => rfl
   | succ k => exact ih (q.step p).1 k (by simpa using h) _
set_option maxHeartbeats 4000000 in
/-- waystation/waystationlaw06.QuorumRuns -/
theorem runs_ok (n : Int) (A : Option Addr) (m c : Nat) (l : List Pk) (w : World) [hrow : Row w A (l.flatMap pkC)] (hl : l.length = m) : Ret Try.prog 5 #[.int .i64 n, .slice A m c] w (fun v w' => v = .bool true ∧ Lk w' w NoB) := by
 haveI hrw : RowB w A w (l.flatMap pkC) := rowB_of hrow.row
 refine ret_of_x (N := 108) (l := [.int .i64 n, .slice A m c]) Try.func5 rfl rfl (Nat.le_of_ble_eq_true rfl) ?_
 refine x_seq ?_
 refine x_regionL ?_
 refine xl_v v_assign ?_
 refine xl_nil ?_
 refine x_seq ?_
 refine x_seq ?_
 refine x_regionL ?_
 refine xl_v v_move ?_
 refine xl_call (right_ok _ _) ?_
 rintro _ _ ⟨rfl, rfl⟩
 refine xl_v v_not ?_
 refine xl_v v_move ?_
 refine xl_split 17 (fun g17 => ?_) (fun g17 => ?_)
 ·
  refine xl_gs rfl EvO.eq ?_
  refine xl_gs rfl EvO.eq ?_
  refine xl_gs rfl EvO.eq ?_
  refine xl_Pk ?_
  refine xl_nil ?_
  refine x_condT ?_
  refine x_seq ?_
  refine x_regionL ?_
  refine xl_call (works_ok w) ?_
  rintro _ w2 ⟨rfl, lk2⟩
  refine xl_v v_assign ?_
  refine xl_nil ?_
  refine x_ret ?_
  refine fin1 rfl ?_
  exact ⟨rfl, lkc⟩
 ·
  refine xl_gv rfl EvO.eq v_move ?_
  refine xl_gv rfl EvO.eq v_len ?_
  refine xl_gv rfl EvO.eq v_gtr ?_
  refine xl_Pk ?_
  refine xl_nil ?_
  refine x_condE (fun c1 => ?_) (fun c1 => ?_)
  ·
   refine x_seq ?_
   refine x_regionL ?_
   refine xl_call (works_ok w) ?_
   rintro _ w3 ⟨rfl, lk2⟩
   refine xl_v v_assign ?_
   refine xl_nil ?_
   refine x_ret ?_
   refine fin1 rfl ?_
   exact ⟨rfl, lkc⟩
  ·
   refine x_skip ?_
   refine x_seq ?_
   have hn : n = 1 ∨ n = 3 ∨ n = 5 := by
    first
     | (simp at g17 c1; omega)
     | (simp at g17; omega)
   have hm : m ≤ 100 := by
    first
     | (simp at g17 c1; omega)
     | (simp at c1; omega)
   refine x_regionL ?_
   refine xl_e (e_buildSlice0 fun b4 w4 n4 l4 k4 => ?_)
   refine xl_v v_move ?_
   refine xl_e (e_appE (by simp [flat_len (enc := pkC) (sz := 3) (fun _ => rfl), hl]) (by decide) (by omega) (by omega) fun Aa ca w5 oa la aa fa => ?_)
   refine xl_v v_build ?_
   refine xl_e (e_buildSlice1 rfl fun b5 w6 n5 l5 k5 => ?_)
   refine xl_e (e_app (by first | omega | simp) (by decide) (by omega) (by omega) (by first | exact Ge.le | omega) fun Ab cb w7 ob lb ab fb => ?_)
   have hob := (OwnI.own : World.ownsRow w7 _ _ _ (.slice Ab _ cb) _ _)
   have hcb := own_le hob
   refine xl_v v_move ?_
   refine xl_v v_len ?_
   refine xl_v (v_sliceH m rfl (by omega)) ?_
   refine xl_v v_assign ?_
   refine xl_nil ?_
   refine x_seq ?_
   have hfl : (l ++ [(⟨0, 77, 0⟩ : Pk)]).flatMap pkC = l.flatMap pkC ++ pkC ⟨0, 77, 0⟩ := by simp
   have hrl : RowP w7 Ab ((l ++ [(⟨0, 77, 0⟩ : Pk)]).flatMap pkC) := by rw [hfl]; exact (FRow.of_own hob).row
   have hrm : RowP w7 Ab (l.flatMap pkC) := by
    have h1 := row_take hrl (l.length * 3)
    rw [← flat_take (enc := pkC) (sz := 3) (fun _ => rfl)] at h1
    simpa using h1
   have hAb : ∀ k, blkA Ab = some k → w.heap.size ≤ k ∧ k < (w7).heap.size := fun k e => own_blk hob e
   obtain ⟨w4, hw4, lk40⟩ : ∃ x, x = w7 ∧ Lk w7 x NoB := ⟨w7, rfl, ⟨Keep.refl _ _⟩⟩
   haveI := lk40
   rw [← hw4] at hrl hrm hAb
   haveI hrl4 : RowB w4 Ab w4 ((l ++ [(⟨0, 77, 0⟩ : Pk)]).flatMap pkC) := rowB_of hrl
   refine x_regionL ?_
   refine xl_v v_move ?_
   refine xl_call (newQ_p n hn w7) ?_
   rintro _ w8 ⟨⟨q, D, rfl, hQ, hp, hnw⟩, lk3⟩
   obtain ⟨G0, hI0⟩ : ∃ G, Inv D.pure G := ⟨_, by rw [hp]; exact inv_newN hn⟩
   refine xl_v v_move ?_
   refine xl_v v_extract ?_
   refine xl_v v_extract ?_
   refine xl_v v_assign ?_
   refine xl_v v_assign ?_
   refine xl_nil ?_
   refine x_seq ?_
   have hwp : w4.heap.size ≤ (w8).heap.size := Ge.le
   have hw0 : w.heap.size ≤ w4.heap.size := by rw [hw4]; exact Ge.le
   have hnw4 : ∀ k, QuB q D k → w4.heap.size ≤ k := fun k e => Nat.le_trans Ge.le (hnw k e)
   haveI sD : SubF (QuB q D) NoB w := ⟨fun j hj e => by have := hnw4 j e; omega⟩
   haveI ab4 : Above (QuB q D) w4 := ⟨hnw4⟩
   haveI ab0 : Above (QuB q D) w := ⟨fun k e => Nat.le_trans hw0 (hnw4 k e)⟩
   haveI hold : OldA w8 Ab := ⟨fun a ha => Nat.lt_of_lt_of_le (hAb a.block (by rw [ha]; rfl)).2 hwp⟩
   have hAbq : ∀ k, blkA Ab = some k → ¬ QuB q D k := fun k e e2 => by have := (hAb k e).2; have := hnw4 k e2; omega
   refine x_regionL ?_
   refine xl_v v_move ?_
   refine xl_v v_move ?_
   refine xl_call (run_ok q D (fun _ => False) G0 Ab m cb l w8 (hrow := ⟨hrm.keep (kpc : Keep NoB w4 w8) (fun _ _ e => e)⟩) hAbq hl (by omega) (hQ.ext (kpc : Keep NoB _ w8)) hI0) ?_
   rintro _ w9 ⟨⟨A3, c3, rfl, ho3, D', F', hQ', hp', hs', hb', hap⟩, lk5⟩
   have hnw' : ∀ j, QuB q D' j → w4.heap.size ≤ j := fun j e => (hb' j e).elim (hnw4 j) (fun e => Nat.le_trans (Ge.le : w4.heap.size ≤ (w8).heap.size) e)
   have hIr := inv_run hI0 l
   rw [← hp'] at hIr
   obtain ⟨G', hI'⟩ := hIr
   rw [hp] at hp' hI0 ho3
   haveI hr3 : RowB w9 A3 w9 (ints ((Qu.new n.toNat).errs l)) := rowB_of (FRow.of_own ho3).row
   have hel := errs_len (Qu.new n.toNat) l
   refine xl_v v_assign ?_
   refine xl_nil ?_
   refine x_seq ?_
   refine x_regionL ?_
   refine xl_v v_move ?_
   refine xl_call (newD_r n hn q D' F' G' w9 (hQ'.ext (kpc : Keep NoB _ w9)) hI') ?_
   rintro _ w10 ⟨⟨R, rfl, hP⟩, lk6⟩
   refine xl_v v_move ?_
   refine xl_v v_extract ?_
   refine xl_v v_extract ?_
   refine xl_e (e_alloc fun b9 w11 n9 l9 k9 => ?_)
   have hP7 := hP.one (kpc : Keep NoB _ w11) n9.eq Has.lt
   refine xl_s (e_storeA fun w12 l66 k66 => ?_)
   refine xl_v v_assign ?_
   refine xl_nil ?_
   refine x_seq ?_
   refine x_seq ?_
   have hml : m < (l ++ [(⟨0, 77, 0⟩ : Pk)]).length := by simp; omega
   have h77 : (l ++ [(⟨0, 77, 0⟩ : Pk)])[m].a = 77 := by simp [← hl]
   have hAs : Ab.isSome = true := row_some (w := w12) (A := Ab) (cs := (l ++ [(⟨0, 77, 0⟩ : Pk)]).flatMap pkC) inferInstance (by rw [flat_len (enc := pkC) (sz := 3) (fun _ => rfl)]; omega)
   refine x_regionL ?_
   refine xl_v v_move ?_
   refine xl_v v_len ?_
   refine xl_v v_move ?_
   refine xl_v v_len ?_
   refine xl_v (v_neqF rfl) ?_
   refine xl_v v_move ?_
   refine xl_gv rfl EvO.eq v_move ?_
   refine xl_gv rfl EvO.eq v_move ?_
   refine xl_gv rfl EvO.eq v_len ?_
   refine xl_gv rfl EvO.eq (v_add (by omega)) ?_
   refine xl_gv rfl EvO.eq (v_sliceH (m + 1) rfl (by omega)) ?_
   refine xl_gv rfl EvO.eq v_move ?_
   refine xl_gv rfl EvO.eq v_len ?_
   refine xl_gv rfl EvO.eq (v_indexF m (by decide) rfl (by omega) hml) ?_
   refine xl_gFb rfl EvO.eq ?_
   refine xl_gv rfl EvO.eq (v_congr (u := .int .i64 77) (v_loadFf (k := m) hml) (by rw [h77])) ?_
   refine xl_gv rfl EvO.eq (v_neqF rfl) ?_
   refine xl_Pk ?_
   refine xl_nil ?_
   refine x_condF ?_
   refine x_skip ?_
   refine x_seq ?_
   refine x_seq ?_
   refine x_regionL ?_
   refine xl_v v_assign ?_
   refine xl_nil ?_
   refine x_block ?_
   have hP8 := hP7.keep (kpc : Keep (OneB b9) _ w12) (fun _ _ e => e)
   refine x_loop (fun t τ ds w' => ds = [] ∧ ∃ (k : Nat) (R : LDq), t = m - k ∧ k ≤ m ∧ PairQ (Ap1 b9) q D' R ((Qu.new n.toNat).run (l.take k)).tell w' ∧ Blk w' b9 (.cells (dqC R).toArray 48 (0, 0)) ∧ Ev τ 1 (.slice A m c) ∧ Ev τ 5 (.slice Ab m cb) ∧ Ev τ 6 (.pointer (some ⟨q, 0, none⟩)) ∧ Ev τ 7 (.int .i64 0) ∧ Ev τ 8 (.slice A3 m c3) ∧ Ev τ 9 (.pointer (some ⟨b9, 0, none⟩)) ∧ Ev τ 11 (.int .i64 (k : Int)) ∧ Lk w' w12 (OneB b9)) (m) ?start ?round
   case start =>
    exact ⟨rfl, 0, R, rfl, Nat.zero_le _, hP8, inferInstance, inferInstance, inferInstance, inferInstance, inferInstance, inferInstance, inferInstance, evc, lkc⟩
   case round =>
    intro m τ13 ds13 w13 hI
    obtain ⟨rfl, k, R, rfl, hk, hP, kb9, e1, e5, e6, e7, e8, e9, e11, lk⟩ := hI
    obtain ⟨Gk, hGk⟩ := inv_run hI0 (l.take k)
    refine x_seq ?_
    refine x_seq ?_
    refine x_regionL ?_
    refine xl_v v_move ?_
    refine xl_v v_move ?_
    refine xl_v v_len ?_
    refine xl_v v_lss ?_
    refine xl_nil ?_
    first | refine x_condP (fun c3 => ?_) (fun c3 => ?_) | refine x_condN (fun c3 => ?_) (fun c3 => ?_) | refine x_condE (fun c3 => ?_) (fun c3 => ?_)
    ·
     have hk1 : k < l.length := by omega
     have hk2 : k < (l ++ [(⟨0, 77, 0⟩ : Pk)]).length := by simp; omega
     have hk3 : k < ((Qu.new n.toNat).errs l).length := by omega
     have hge : (l ++ [(⟨0, 77, 0⟩ : Pk)])[k] = l[k] := List.getElem_append_left hk1
     haveI hoA : OldA w A := old_pk hrow.row (by omega)
     refine x_skip ?_
     refine x_seq ?_
     refine x_block ?_
     refine x_seq ?_
     refine x_drawL (NewS w13) (allS) (.take 0 (.take 1 (.take 2 (.take 3 (.take 4 (.fork 5 (.take 6 (.take 7 (.take 8 (.eff 9 (.eff 10 (.take 11 .done)))))) 9 (.eff 5 (.take 6 (.take 7 (.take 8 (.eff 10 (.take 11 .done)))))))))))) mixed (by kernel_rfl) (fun _ _ _ _ _ h => h) (fun w14 l14 => ?_)
     refine xt_Lb rfl ?_
     refine xt_v rfl v_move ?_
     refine xt_v rfl v_move ?_
     refine xt_v rfl (v_indexF k (by decide) rfl (by omega) hk1) ?_
     refine xt_v rfl (v_loadF (k := k) (by decide) hk1) ?_
     refine xt_fork ?_ ?_
     ·
      refine xt_call rfl (stepD_q _ q D' R _ Gk l[k] w14 (hP.mid (kpc : Keep NoB _ w14)) hGk) ?_
      rintro _ w15 ⟨⟨R1, rfl, hP1⟩, lk8⟩
      refine ⟨kpc, ?_⟩
      refine xt_v rfl v_move ?_
      refine xt_v rfl v_extract ?_
      refine xt_v rfl v_extract ?_
      refine xt_e rfl (e_alloc fun b10 w16 n10 l10 k10 => ?_)
      refine xt_s rfl (e_storeA fun w17 l17 k17 => ?_)
      refine xt_v rfl v_assign ?_
      refine xt_nil ?_
      refine x_seq ?_
      refine x_seq ?_
      have hP3 : PairQ (Ap1 b9) q D' R1 (((Qu.new n.toNat).run (l.take k)).step l[k]).1.tell w17 := by
       first
        | exact (hP1.ext (kpc : Keep NoB _ w17)).less (fun _ e => .inl e)
        | exact (hP1.keep (kpc : Keep (OneB b10) _ w17) (fun k _ e => .inr (by have e2 : k = b10 := e; subst e2; exact ⟨by rw [n10.eq]; exact Ge.le, Has.lt⟩))).less (fun _ e => .inl e)
      refine x_drawL (NoB) (allS) (.take 0 (.take 1 (.take 2 (.take 3 (.take 5 (.eff 4 (.take 6 (.take 7 (.take 8 (.take 9 (.take 10 (.take 11 (.take 12 (.take 13 (.take 14 (.take 15 (.take 16 (.take 17 .done)))))))))))))))))) mixed (by kernel_rfl) (fun _ _ _ _ _ h => h) (fun w18 l18 => ?_)
      refine xt_v rfl v_move ?_
      refine xt_v rfl v_move ?_
      refine xt_v rfl (v_indexO k rfl (by omega) hk3) ?_
      refine xt_v rfl (v_congr (u := .int .i64 (((Qu.new n.toNat).run (l.take k)).step l[k]).2) (v_loadO (k := k) hk3) (by rw [errs_get _ _ _ hk1])) ?_
      refine xt_v rfl v_move ?_
      refine xt_call rfl (num_ok _ _) ?_
      rintro _ _ ⟨rfl, rfl⟩
      refine ⟨kpc, ?_⟩
      refine xt_v rfl (v_neqF rfl) ?_
      refine xt_v rfl v_move ?_
      refine xt_gv rfl rfl EvO.eq v_move ?_
      refine xt_gv rfl rfl EvO.eq v_move ?_
      refine xt_gv rfl rfl EvO.eq (v_indexF k (by decide) rfl (by omega) hk2) ?_
      refine xt_gv rfl rfl EvO.eq (v_congr (u := .agg (pkC l[k]).toArray) (v_loadF (k := k) (by decide) hk2) (by rw [hge])) ?_
      refine xt_gv rfl rfl EvO.eq v_move ?_
      refine xt_gv rfl rfl EvO.eq v_move ?_
      refine xt_gv rfl rfl EvO.eq (v_indexF k (by decide) rfl (by omega) hk1) ?_
      refine xt_gv rfl rfl EvO.eq (v_loadF (k := k) (by decide) hk1) ?_
      refine xt_gv rfl rfl EvO.eq (v_congr (u := .bool false) v_neq_struct (by simp)) ?_
      refine xt_Pk rfl ?_
      refine xt_nil ?_
      refine x_condF ?_
      refine x_skip ?_
      refine x_regionL ?_
      refine xl_Lb ?_
      refine xl_s (e_storeA fun w20 l151 k151 => ?_)
      refine xl_nil ?_
      refine x_regionL ?_
      refine xl_v v_move ?_
      refine xl_v (v_add (by omega)) ?_
      refine xl_v v_assign ?_
      refine xl_nil ?_
      refine ⟨_, ?_, rfl, k + 1, R1, rfl, by omega, ?_, inferInstance, inferInstance, inferInstance, inferInstance, inferInstance, inferInstance, inferInstance, evc, lkc⟩
      ·omega
      ·rw [take_snoc l k hk1, run_snoc]
       exact hP3.keep (kpc : Keep (OneB b9) _ _) (fun _ _ e => e)
     ·
      refine xt_e rfl (e_alloc fun b10 w21 n10 l10 k10 => ?_)
      refine xt_call rfl (stepD_q _ q D' R _ Gk l[k] w21 (hP.mid (kpc : Keep NoB _ w21)) hGk) ?_
      rintro _ w22 ⟨⟨R1, rfl, hP1⟩, lk8⟩
      refine ⟨kpc, ?_⟩
      refine xt_v rfl v_move ?_
      refine xt_v rfl v_extract ?_
      refine xt_v rfl v_extract ?_
      refine xt_s rfl (e_storeA fun w23 l23 k23 => ?_)
      refine xt_v rfl v_assign ?_
      refine xt_nil ?_
      refine x_seq ?_
      refine x_seq ?_
      have hP3 : PairQ (Ap1 b9) q D' R1 (((Qu.new n.toNat).run (l.take k)).step l[k]).1.tell w23 := by
       first
        | exact (hP1.ext (kpc : Keep NoB _ w23)).less (fun _ e => .inl e)
        | exact (hP1.keep (kpc : Keep (OneB b10) _ w23) (fun k _ e => .inr (by have e2 : k = b10 := e; subst e2; exact ⟨by rw [n10.eq]; exact Ge.le, Has.lt⟩))).less (fun _ e => .inl e)
      refine x_drawL (NoB) (allS) (.take 0 (.take 1 (.take 2 (.take 3 (.take 5 (.eff 4 (.take 6 (.take 7 (.take 8 (.take 9 (.take 10 (.take 11 (.take 12 (.take 13 (.take 14 (.take 15 (.take 16 (.take 17 .done)))))))))))))))))) mixed (by kernel_rfl) (fun _ _ _ _ _ h => h) (fun w24 l24 => ?_)
      refine xt_v rfl v_move ?_
      refine xt_v rfl v_move ?_
      refine xt_v rfl (v_indexO k rfl (by omega) hk3) ?_
      refine xt_v rfl (v_congr (u := .int .i64 (((Qu.new n.toNat).run (l.take k)).step l[k]).2) (v_loadO (k := k) hk3) (by rw [errs_get _ _ _ hk1])) ?_
      refine xt_v rfl v_move ?_
      refine xt_call rfl (num_ok _ _) ?_
      rintro _ _ ⟨rfl, rfl⟩
      refine ⟨kpc, ?_⟩
      refine xt_v rfl (v_neqF rfl) ?_
      refine xt_v rfl v_move ?_
      refine xt_gv rfl rfl EvO.eq v_move ?_
      refine xt_gv rfl rfl EvO.eq v_move ?_
      refine xt_gv rfl rfl EvO.eq (v_indexF k (by decide) rfl (by omega) hk2) ?_
      refine xt_gv rfl rfl EvO.eq (v_congr (u := .agg (pkC l[k]).toArray) (v_loadF (k := k) (by decide) hk2) (by rw [hge])) ?_
      refine xt_gv rfl rfl EvO.eq v_move ?_
      refine xt_gv rfl rfl EvO.eq v_move ?_
      refine xt_gv rfl rfl EvO.eq (v_indexF k (by decide) rfl (by omega) hk1) ?_
      refine xt_gv rfl rfl EvO.eq (v_loadF (k := k) (by decide) hk1) ?_
      refine xt_gv rfl rfl EvO.eq (v_congr (u := .bool false) v_neq_struct (by simp)) ?_
      refine xt_Pk rfl ?_
      refine xt_nil ?_
      refine x_condF ?_
      refine x_skip ?_
      refine x_regionL ?_
      refine xl_Lb ?_
      refine xl_s (e_storeA fun w26 l151 k151 => ?_)
      refine xl_nil ?_
      refine x_regionL ?_
      refine xl_v v_move ?_
      refine xl_v (v_add (by omega)) ?_
      refine xl_v v_assign ?_
      refine xl_nil ?_
      refine ⟨_, ?_, rfl, k + 1, R1, rfl, by omega, ?_, inferInstance, inferInstance, inferInstance, inferInstance, inferInstance, inferInstance, inferInstance, evc, lkc⟩
      ·omega
      ·rw [take_snoc l k hk1, run_snoc]
       exact hP3.keep (kpc : Keep (OneB b9) _ _) (fun _ _ e => e)
    ·
     refine x_exit ?_
     refine x_seq ?_
     have hkm : k = m := by omega
     rw [hkm, List.take_of_length_le (by omega), ← hp'] at hP
     refine x_regionL ?_
     refine xl_v v_move ?_
     refine xl_call (num_ok _ _) ?_
     rintro _ _ ⟨rfl, rfl⟩
     refine xl_v (v_eqlT rfl) ?_
     refine xl_v v_move ?_
     refine xl_gv rfl EvO.eq v_move ?_
     refine xl_gLb rfl EvO.eq ?_
     refine xl_gcall rfl EvO.eq (is_ok _ q D' R w13 (hP.ext (kpc : Keep NoB _ w13))) ?_
     rintro _ w28 ⟨rfl, lk166⟩
     refine xl_Pk ?_
     refine xl_v v_move ?_
     refine xl_gcall rfl EvO.eq (works_ok w28) ?_
     rintro _ w29 ⟨rfl, lk169⟩
     refine xl_Pk ?_
     refine xl_v v_assign ?_
     refine xl_nil ?_
     refine x_ret ?_
     refine fin1 rfl ?_
     exact ⟨rfl, lkc⟩
end Go.Proofs.Ytdmafmlifadfoaa
