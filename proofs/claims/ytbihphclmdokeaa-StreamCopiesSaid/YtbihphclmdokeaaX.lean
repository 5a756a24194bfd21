/-
  Walks, printed by a program of this workplace (wip/tools/sx.py) off the functions' code and a text of contracts.
-/
import Derived.Test.YtbihphclmdokeaaW
set_option linter.all false
set_option maxRecDepth 100000
set_option synthInstance.maxSize 100000
set_option synthInstance.maxHeartbeats 400000
namespace Go.Proofs.Ytbihphclmdokeaa
open Go.Wst
open Go.Wst.Sm
theorem refAt_rows {w : World} {F : Nat → Prop} {D : RD} {R : RefM} {A B : Option Addr} {c c' : Nat} {rows : List (Rule × Nat)} (h : RefAt w F D R) (hr : FRow w F A (rows.flatMap rowC)) (hq : FRow w F B (rows.map posC)) :
    RefAt w F { D with RA := A, rc := c, QA := B, qc := c' } { R with rows := rows } := ⟨h.p, h.pn, h.pi, hr, hq, h.lt⟩
theorem owns_len {w : World} {base : Nat} {e : TypeId} {sz n : Nat} {v : Value} {xs : List Value} {L : Nat} (h : w.ownsRow base e sz v n xs) [hL : LenC xs L] : L = n * sz := hL.eq.symm.trans h.1
theorem ref_fin {w w' : World} {F : Nat → Prop} {D : RD} {R : RefM} {A B : Option Addr} {c c' n base base' : Nat} {rows : List (Rule × Nat)} (h : RefAt w F D R) (hk : Lk w' w NoB) (oR : w'.ownsRow base 23 5 (.slice A n c) n (rows.flatMap rowC)) (oQ : w'.ownsRow base' 3 1 (.slice B n c') n (rows.map posC)) (hb : w.heap.size ≤ base) (hb' : w.heap.size ≤ base') :
    (∃ F', RefAt w' F' { D with RA := A, rc := c, QA := B, qc := c' } { R with rows := rows } ∧ Sub F' F w) ∧ rows.length = n := by
  have hn : rows.length = n := by have := owns_len oQ; omega
  have hG : ∀ k, (F k ∨ OwnB (.slice A n c) k ∨ OwnB (.slice B n c') k) → k < w'.heap.size := by
    rintro k (e | e | e)
    · exact Nat.lt_of_lt_of_le (h.lt k e) hk.keep.size
    · exact (ownB_lt oR k e).2
    · exact (ownB_lt oQ k e).2
  refine ⟨⟨_, refAt_rows ((h.ext hk).mono (fun k e => .inl e) hG) ((FRow.of_own oR).mono (fun k e => .inr (.inl e))) ((FRow.of_own oQ).mono (fun k e => .inr (.inr e))), ?_⟩, hn⟩
  rintro k (e | e | e)
  · exact .inl e
  · exact .inr (Nat.le_trans hb (ownB_lt oR k e).1)
  · exact .inr (Nat.le_trans hb' (ownB_lt oQ k e).1)

/-- (waystation/waystationref14.Machine).Rule -/
theorem refRule_ok (F : Nat → Prop) (D : RD) (R : RefM) (r : Rule) (w : World) (h : RefAt w F D R) (hok : R.ok) : Ret Try.prog 56 #[refV D R, .agg (ruleC r).toArray] w (fun x w' => (∃ F' D', x = .tuple #[refV D' (R.ruleR r), .int .i64 (if R.ruleB r = true then 0 else 2)] ∧ RefAt w' F' D' (R.ruleR r) ∧ Sub F' F w) ∧ Lk w' w NoB) := by
  haveI : Row w D.RA _ := ⟨h.r.row⟩
  haveI : Row w D.QA _ := ⟨h.q.row⟩
  haveI := h.r.old h.lt
  haveI := h.q.old h.lt
  have hfew := hok.few
  refine ret_of_x (N := 94) (l := [refV D R, .agg (ruleC r).toArray]) Try.func56 rfl rfl (Nat.le_of_ble_eq_true rfl) ?_
  refine x_seq ?_
  refine x_regionL ?_
  refine xl_e (e_box fun b1 w1 n1 l1 k1 => ?_)
  refine xl_e (e_box fun b2 w2 n2 l2 k2 => ?_)
  refine xl_e (e_alloc fun b3 w3 n3 l3 k3 => ?_)
  refine xl_v v_assign ?_
  refine xl_nil ?_
  refine x_seq ?_
  refine x_seq ?_
  refine x_regionL ?_
  refine xl_v (by first | exact v_loadA | exact v_loadF (by decide) (by omega)) ?_
  refine xl_call (right14_ok _ _) ?_
  rintro _ w4 ⟨rfl, lk⟩
  refine xl_v v_not ?_
  refine xl_v v_move ?_
  refine xl_split 13 (fun g13 => ?_) (fun g13 => ?_)
  ·
    refine xl_gs rfl EvO.eq ?_
    refine xl_gs rfl EvO.eq ?_
    refine xl_gs rfl EvO.eq ?_
    refine xl_gs rfl EvO.eq ?_
    refine xl_gs rfl EvO.eq ?_
    refine xl_v (by first | exact v_pickT | exact v_pickF | exact v_pick) ?_
    refine xl_v v_move ?_
    refine xl_gs rfl EvO.eq ?_
    refine xl_gs rfl EvO.eq ?_
    refine xl_gs rfl EvO.eq ?_
    refine xl_gs rfl EvO.eq ?_
    refine xl_gs rfl EvO.eq ?_
    refine xl_gs rfl EvO.eq ?_
    refine xl_v (by first | exact v_pickT | exact v_pickF | exact v_pick) ?_
    refine xl_v v_move ?_
    refine xl_gs rfl EvO.eq ?_
    refine xl_gs rfl EvO.eq ?_
    refine xl_gs rfl EvO.eq ?_
    refine xl_gs rfl EvO.eq ?_
    refine xl_gs rfl EvO.eq ?_
    refine xl_gs rfl EvO.eq ?_
    refine xl_v (by first | exact v_pickT | exact v_pickF | exact v_pick) ?_
    refine xl_nil ?_
    refine x_condT ?_
    refine x_seq ?_
    refine x_regionL ?_
    refine xl_v (by first | exact v_loadA | exact v_loadF (by decide) (by omega)) ?_
    refine xl_s (e_storeA fun w5 l5 k5 => ?_)
    refine xl_v v_assign ?_
    refine xl_nil ?_
    refine x_ret ?_
    refine finR (rs := [.cell 4 51, .tmp 5]) rfl ?_
    have hr : R.ruleB r = false := by simp_all [RefM.ruleB]; try omega
    refine ⟨⟨F, D, ?_, ?_, Sub.refl _ _⟩, lkc⟩
    · rw [RefM.ruleR, if_neg (by simp [hr]), if_neg (by simp [hr])]; rfl
    · rw [RefM.ruleR, if_neg (by simp [hr])]; exact h.ext lkc
  ·
    refine xl_gv rfl EvO.eq (by first | exact v_loadA | exact v_loadF (by decide) (by omega)) ?_
    refine xl_gv rfl EvO.eq (by first | exact v_fieldAddr | exact v_fieldAddrF (by decide) (by omega) | exact v_fieldAddrR (by first | assumption | rfl)) ?_
    refine xl_gv rfl EvO.eq (by first | exact v_load | exact v_loadO (by omega) | exact v_loadFf (by omega) | exact v_loadF0 (by omega)) ?_
    refine xl_gcall rfl EvO.eq (refAt_ok F D R r.id _ (h.ext lkc) hfew) ?_
    rintro _ w6 ⟨rfl, lka⟩
    refine xl_gv rfl EvO.eq v_geq ?_
    refine xl_v (by first | exact v_pickT | exact v_pickF | exact v_pick) ?_
    refine xl_v v_move ?_
    refine xl_split 20 (fun g20 => ?_) (fun g20 => ?_)
    ·
      refine xl_gs rfl EvO.eq ?_
      refine xl_gs rfl EvO.eq ?_
      refine xl_gs rfl EvO.eq ?_
      refine xl_gs rfl EvO.eq ?_
      refine xl_gs rfl EvO.eq ?_
      refine xl_gs rfl EvO.eq ?_
      refine xl_v (by first | exact v_pickT | exact v_pickF | exact v_pick) ?_
      refine xl_v v_move ?_
      refine xl_gs rfl EvO.eq ?_
      refine xl_gs rfl EvO.eq ?_
      refine xl_gs rfl EvO.eq ?_
      refine xl_gs rfl EvO.eq ?_
      refine xl_gs rfl EvO.eq ?_
      refine xl_gs rfl EvO.eq ?_
      refine xl_v (by first | exact v_pickT | exact v_pickF | exact v_pick) ?_
      refine xl_nil ?_
      refine x_condT ?_
      refine x_seq ?_
      refine x_regionL ?_
      refine xl_v (by first | exact v_loadA | exact v_loadF (by decide) (by omega)) ?_
      refine xl_s (e_storeA fun w7 l7 k7 => ?_)
      refine xl_v v_assign ?_
      refine xl_nil ?_
      refine x_ret ?_
      refine finR (rs := [.cell 4 51, .tmp 5]) rfl ?_
      have hr : R.ruleB r = false := by simp_all [RefM.ruleB]; try omega
      refine ⟨⟨F, D, ?_, ?_, Sub.refl _ _⟩, lkc⟩
      · rw [RefM.ruleR, if_neg (by simp [hr]), if_neg (by simp [hr])]; rfl
      · rw [RefM.ruleR, if_neg (by simp [hr])]; exact h.ext lkc
    ·
      refine xl_gv rfl EvO.eq (by first | exact v_fieldAddr | exact v_fieldAddrF (by decide) (by omega) | exact v_fieldAddrR (by first | assumption | rfl)) ?_
      refine xl_gv rfl EvO.eq (by first | exact v_load | exact v_loadO (by omega) | exact v_loadFf (by omega) | exact v_loadF0 (by omega)) ?_
      refine xl_gv rfl EvO.eq (by first | exact v_fieldAddr | exact v_fieldAddrF (by decide) (by omega) | exact v_fieldAddrR (by first | assumption | rfl)) ?_
      refine xl_gv rfl EvO.eq (by first | exact v_load | exact v_loadO (by omega) | exact v_loadFf (by omega) | exact v_loadF0 (by omega)) ?_
      refine xl_gv rfl EvO.eq v_len ?_
      refine xl_gv rfl EvO.eq v_geq ?_
      refine xl_v (by first | exact v_pickT | exact v_pickF | exact v_pick) ?_
      refine xl_v v_move ?_
      refine xl_split 28 (fun g28 => ?_) (fun g28 => ?_)
      ·
        refine xl_gs rfl EvO.eq ?_
        refine xl_gs rfl EvO.eq ?_
        refine xl_gs rfl EvO.eq ?_
        refine xl_gs rfl EvO.eq ?_
        refine xl_gs rfl EvO.eq ?_
        refine xl_gs rfl EvO.eq ?_
        refine xl_v (by first | exact v_pickT | exact v_pickF | exact v_pick) ?_
        refine xl_nil ?_
        refine x_condT ?_
        refine x_seq ?_
        refine x_regionL ?_
        refine xl_v (by first | exact v_loadA | exact v_loadF (by decide) (by omega)) ?_
        refine xl_s (e_storeA fun w8 l8 k8 => ?_)
        refine xl_v v_assign ?_
        refine xl_nil ?_
        refine x_ret ?_
        refine finR (rs := [.cell 4 51, .tmp 5]) rfl ?_
        have hr : R.ruleB r = false := by simp_all [RefM.ruleB]; try omega
        refine ⟨⟨F, D, ?_, ?_, Sub.refl _ _⟩, lkc⟩
        · rw [RefM.ruleR, if_neg (by simp [hr]), if_neg (by simp [hr])]; rfl
        · rw [RefM.ruleR, if_neg (by simp [hr])]; exact h.ext lkc
      ·
        refine xl_gv rfl EvO.eq (by first | exact v_fieldAddr | exact v_fieldAddrF (by decide) (by omega) | exact v_fieldAddrR (by first | assumption | rfl)) ?_
        refine xl_gv rfl EvO.eq (by first | exact v_load | exact v_loadO (by omega) | exact v_loadFf (by omega) | exact v_loadF0 (by omega)) ?_
        refine xl_gv rfl EvO.eq (by first | exact v_fieldAddr | exact v_fieldAddrF (by decide) (by omega) | exact v_fieldAddrR (by first | assumption | rfl)) ?_
        refine xl_gv rfl EvO.eq (by first | exact v_load | exact v_loadO (by omega) | exact v_loadFf (by omega) | exact v_loadF0 (by omega)) ?_
        refine xl_gv rfl EvO.eq v_len ?_
        refine xl_gv rfl EvO.eq v_geq ?_
        refine xl_v (by first | exact v_pickT | exact v_pickF | exact v_pick) ?_
        refine xl_nil ?_
        refine x_condE (fun c1 => ?_) (fun c1 => ?_)
        ·
          refine x_seq ?_
          refine x_regionL ?_
          refine xl_v (by first | exact v_loadA | exact v_loadF (by decide) (by omega)) ?_
          refine xl_s (e_storeA fun w9 l9 k9 => ?_)
          refine xl_v v_assign ?_
          refine xl_nil ?_
          refine x_ret ?_
          refine finR (rs := [.cell 4 51, .tmp 5]) rfl ?_
          have hr : R.ruleB r = false := by simp_all [RefM.ruleB]; try omega
          refine ⟨⟨F, D, ?_, ?_, Sub.refl _ _⟩, lkc⟩
          · rw [RefM.ruleR, if_neg (by simp [hr]), if_neg (by simp [hr])]; rfl
          · rw [RefM.ruleR, if_neg (by simp [hr])]; exact h.ext lkc
        ·
          have hr : R.ruleB r = true := by simp_all [RefM.ruleB]; try omega
          refine x_skip ?_
          refine x_seq ?_
          refine x_regionL ?_
          refine xl_v v_assign ?_
          refine xl_nil ?_
          refine x_seq ?_
          refine x_regionL ?_
          refine xl_v v_assign ?_
          refine xl_nil ?_
          refine x_seq ?_
          refine x_regionL ?_
          refine xl_v v_assign ?_
          refine xl_nil ?_
          refine x_seq ?_
          refine x_seq ?_
          refine x_regionL ?_
          refine xl_v v_assign ?_
          refine xl_nil ?_
          refine x_block ?_
          have hws : w.heap.size ≤ w3.heap.size := Ge.le
          refine x_loop (fun m τ ds w' => ds = [] ∧ ∃ (k nr : Nat) (Ar Aq : Option Addr) (cr cq : Nat), m = R.rows.length - k ∧ k ≤ R.rows.length ∧ nr = (insRun r (R.rows.take k)).1.length ∧ nr ≤ k + 1 ∧ OwnI w' Ar nr cr w3.heap.size 23 5 nr ((insRun r (R.rows.take k)).1.flatMap rowC) ∧ NewA Ar w3 ∧ OwnI w' Aq nr cq w3.heap.size 3 1 nr ((insRun r (R.rows.take k)).1.map posC) ∧ NewA Aq w3 ∧ ApA Ar Aq ∧ Ev τ 2 (.pointer (some ⟨b1, 0, none⟩)) ∧ Ev τ 3 (.pointer (some ⟨b2, 0, none⟩)) ∧ Ev τ 4 (.pointer (some ⟨b3, 0, none⟩)) ∧ Ev τ 6 (.slice Ar nr cr) ∧ Ev τ 7 (.slice Aq nr cq) ∧ Ev τ 8 (.bool (insRun r (R.rows.take k)).2) ∧ Ev τ 9 (.int .i64 (k : Int)) ∧ Lk w' w3 NoB) (R.rows.length) ?start ?round
          case start =>
            exact ⟨rfl, 0, 0, none, none, 0, 0, rfl, Nat.zero_le _, rfl, by omega, ⟨World.ownsRow_nil _ _ _ _⟩, ⟨fun a h => by cases h⟩, ⟨World.ownsRow_nil _ _ _ _⟩, ⟨fun a h => by cases h⟩, inferInstance, inferInstance, inferInstance, inferInstance, inferInstance, inferInstance, inferInstance, evc, lkc⟩
          case round =>
            intro m τ10 ds10 w10 hI
            obtain ⟨rfl, k, nr, Ar, Aq, cr, cq, rfl, hk, hnr, hnk, oR, aR, oQ, aQ, ap, e2, e3, e4, e6, e7, e8, e9, lk⟩ := hI
            haveI ap' := ap.symm
            refine x_seq ?_
            refine x_seq ?_
            refine x_regionL ?_
            refine xl_v v_move ?_
            refine xl_v (by first | exact v_fieldAddr | exact v_fieldAddrF (by decide) (by omega) | exact v_fieldAddrR (by first | assumption | rfl)) ?_
            refine xl_v (by first | exact v_load | exact v_loadO (by omega) | exact v_loadFf (by omega) | exact v_loadF0 (by omega)) ?_
            refine xl_v v_len ?_
            refine xl_v v_lss ?_
            refine xl_nil ?_
            first | refine x_condP (fun c2 => ?_) (fun c2 => ?_) | refine x_condN (fun c2 => ?_) (fun c2 => ?_) | refine x_condE (fun c2 => ?_) (fun c2 => ?_)
            ·
              have hk1 : k < R.rows.length := by omega
              have hst0 : insRun r (R.rows.take (k + 1)) = insStep r (insRun r (R.rows.take k)) R.rows[k] := by rw [take_snoc _ _ hk1, insRun_snoc]
              refine x_skip ?_
              refine x_seq ?_
              refine x_block ?_
              refine x_seq ?_
              refine x_seq ?_
              refine x_drawL (NoB) (allS) (.take 0 (.take 1 (.take 2 (.take 3 (.take 4 (.take 5 (.take 6 (.take 7 (.take 8 (.take 9 (.take 10 (.take 11 (.take 12 .done))))))))))))) mixed (by kernel_rfl) (fun _ _ _ _ _ h => h) (fun w11 l11 => ?_)
              refine xt_v rfl v_move ?_
              refine xt_v rfl v_not ?_
              refine xt_v rfl v_move ?_
              refine xt_split 46 (fun g46 => ?_) (fun g46 => ?_)
              ·
                refine xt_gv rfl rfl EvO.eq (by first | exact v_fieldAddr | exact v_fieldAddrF (by decide) (by omega) | exact v_fieldAddrR (by first | assumption | rfl)) ?_
                refine xt_gv rfl rfl EvO.eq (by first | exact v_load | exact v_loadO (by omega) | exact v_loadFf (by omega) | exact v_loadF0 (by omega)) ?_
                refine xt_gv rfl rfl EvO.eq v_move ?_
                refine xt_gv rfl rfl EvO.eq (by first | exact v_indexAddr _ rfl (by omega) (by assumption) | exact v_indexO _ rfl (by omega) (by omega) | exact v_indexF _ (by decide) rfl (by omega) (by omega)) ?_
                refine xt_gv rfl rfl EvO.eq (by first | exact v_fieldAddr | exact v_fieldAddrF (by decide) (by omega) | exact v_fieldAddrR (by first | assumption | rfl)) ?_
                refine xt_gv rfl rfl EvO.eq (by first | exact v_load | exact v_loadO (by omega) | exact v_loadFf (by omega) | exact v_loadF0 (by omega)) ?_
                refine xt_gv rfl rfl EvO.eq (by first | exact v_fieldAddr | exact v_fieldAddrF (by decide) (by omega) | exact v_fieldAddrR (by first | assumption | rfl)) ?_
                refine xt_gv rfl rfl EvO.eq (by first | exact v_load | exact v_loadO (by omega) | exact v_loadFf (by omega) | exact v_loadF0 (by omega)) ?_
                refine xt_gv rfl rfl EvO.eq v_gtr ?_
                refine xt_v rfl (by first | exact v_pickT | exact v_pickF | exact v_pick) ?_
                refine xt_nil ?_
                first | refine x_condP (fun c3 => ?_) (fun c3 => ?_) | refine x_condN (fun c3 => ?_) (fun c3 => ?_) | refine x_condE (fun c3 => ?_) (fun c3 => ?_)
                ·
                  have hth : (insRun r (R.rows.take k)).2 = false := by simpa using g46
                  have hst : insRun r (R.rows.take (k + 1)) = ((insRun r (R.rows.take k)).1 ++ [(r, 0)] ++ [R.rows[k]], true) := by rw [hst0, insStep, if_pos ⟨hth, c3⟩]
                  refine x_regionL ?_
                  refine xl_v v_move ?_
                  refine xl_v (by first | exact v_loadA | exact v_loadF (by decide) (by omega)) ?_
                  refine xl_e (e_buildSlice1 rfl fun b12 w12 n12 l12 k12 => ?_)
                  first | refine xl_e (e_appN (by omega) (by decide) (by omega) (by omega) fun A13 c13 w13 o13 l13 a13 f13 => ?_) | refine xl_e (e_appE (by omega) (by decide) (by omega) (by omega) fun A13 c13 w13 o13 l13 a13 f13 => ?_) | refine xl_e (e_app (by omega) (by decide) (by omega) (by omega) (by first | exact Ge.le | omega) fun A13 c13 w13 o13 l13 a13 f13 => ?_)
                  refine xl_v v_move ?_
                  refine xl_e (e_buildSlice1 rfl fun b14 w14 n14 l14 k14 => ?_)
                  first | refine xl_e (e_appN (by omega) (by decide) (by omega) (by omega) fun A15 c15 w15 o15 l15 a15 f15 => ?_) | refine xl_e (e_appE (by omega) (by decide) (by omega) (by omega) fun A15 c15 w15 o15 l15 a15 f15 => ?_) | refine xl_e (e_app (by omega) (by decide) (by omega) (by omega) (by first | exact Ge.le | omega) fun A15 c15 w15 o15 l15 a15 f15 => ?_)
                  refine xl_v v_assign ?_
                  refine xl_v v_assign ?_
                  refine xl_v v_assign ?_
                  refine xl_nil ?_
                  refine x_drawL (NewS w3) (allS) (.take 0 (.take 1 (.take 2 (.take 3 (.take 4 (.take 5 (.take 8 (.take 9 (.take 10 (.take 11 (.take 12 (.take 13 (.fork 6 (.fork 7 (.eff 14 (.eff 15 (.take 16 (.take 17 .done)))) 14 (.eff 7 (.eff 15 (.take 16 (.take 17 .done))))) 14 (.eff 6 (.eff 7 (.eff 15 (.take 16 (.take 17 .done)))))))))))))))))) mixed (by kernel_rfl) (fun _ _ _ _ _ h => h) (fun w16 l16 => ?_)
                  refine xt_v rfl v_move ?_
                  refine xt_v rfl (by first | exact v_fieldAddr | exact v_fieldAddrF (by decide) (by omega) | exact v_fieldAddrR (by first | assumption | rfl)) ?_
                  refine xt_v rfl (by first | exact v_load | exact v_loadO (by omega) | exact v_loadFf (by omega) | exact v_loadF0 (by omega)) ?_
                  refine xt_v rfl v_move ?_
                  refine xt_v rfl (by first | exact v_indexAddr _ rfl (by omega) (by assumption) | exact v_indexO _ rfl (by omega) (by omega) | exact v_indexF _ (by decide) rfl (by omega) (by omega)) ?_
                  refine xt_v rfl (by first | exact v_loadA | exact v_loadF (by decide) (by omega)) ?_
                  refine xt_v rfl v_move ?_
                  refine xt_v rfl (by first | exact v_fieldAddr | exact v_fieldAddrF (by decide) (by omega) | exact v_fieldAddrR (by first | assumption | rfl)) ?_
                  refine xt_v rfl (by first | exact v_load | exact v_loadO (by omega) | exact v_loadFf (by omega) | exact v_loadF0 (by omega)) ?_
                  refine xt_v rfl v_move ?_
                  refine xt_v rfl (by first | exact v_indexAddr _ rfl (by omega) (by assumption) | exact v_indexO _ rfl (by omega) (by omega) | exact v_indexF _ (by decide) rfl (by omega) (by omega)) ?_
                  refine xt_v rfl (by first | exact v_load | exact v_loadO (by omega) | exact v_loadFf (by omega) | exact v_loadF0 (by omega)) ?_
                  refine xt_fork ?_ ?_
                  ·
                    refine xt_e rfl (e_buildSlice1 rfl fun b17 w17 n17 l17 k17 => ?_)
                    refine xt_fork ?_ ?_
                    ·
                      refine xt_e rfl (e_app (by omega) (by decide) (by omega) (by omega) Ge.le fun A7 c7 w18 o7 l7 a7 f7 => ?_)
                      refine xt_e rfl (e_buildSlice1 rfl fun b19 w19 n19 l19 k19 => ?_)
                      refine xt_e rfl (e_app (by omega) (by decide) (by omega) (by omega) Ge.le fun A15 c15 w20 o15 l15 a15 f15 => ?_)
                      refine xt_v rfl v_assign ?_
                      refine xt_v rfl v_assign ?_
                      refine xt_nil ?_
                      refine x_regionL ?_
                      refine xl_v v_move ?_
                      refine xl_v (v_add (by omega)) ?_
                      refine xl_v v_assign ?_
                      refine xl_nil ?_
                      first
                      | exact ⟨_, by omega, rfl, k + 1, nr + 1 + 1, A7, A15, c7, c15, rfl, by omega, by rw [hst]; simp [hnr], by rw [hnr]; have := (insRun_len r (R.rows.take k)).2 hth; simp at this; omega, ⟨by have := (OwnI.own : World.ownsRow w20 _ _ _ (.slice A7 _ c7) _ _); rw [hst]; simpa [rowC, ruleC] using this⟩, inferInstance, ⟨by have := (OwnI.own : World.ownsRow w20 _ _ _ (.slice A15 _ c15) _ _); rw [hst]; simpa [posC] using this⟩, inferInstance, inferInstance, inferInstance, inferInstance, inferInstance, inferInstance, inferInstance, evc (by rw [hst]), evc, lkc⟩
                      | exact ⟨_, by omega, rfl, k + 1, nr + 1, A7, A15, c7, c15, rfl, by omega, by rw [hst]; simp [hnr], by omega, ⟨by have := (OwnI.own : World.ownsRow w20 _ _ _ (.slice A7 _ c7) _ _); rw [hst]; simpa [rowC, ruleC] using this⟩, inferInstance, ⟨by have := (OwnI.own : World.ownsRow w20 _ _ _ (.slice A15 _ c15) _ _); rw [hst]; simpa [posC] using this⟩, inferInstance, inferInstance, inferInstance, inferInstance, inferInstance, inferInstance, inferInstance, evc (by rw [hst]), evc, lkc⟩
                    ·
                      refine xt_e rfl (e_buildSlice1 rfl fun b21 w21 n21 l21 k21 => ?_)
                      refine xt_e rfl (e_app (by omega) (by decide) (by omega) (by omega) Ge.le fun A7 c7 w22 o7 l7 a7 f7 => ?_)
                      refine xt_e rfl (e_app (by omega) (by decide) (by omega) (by omega) Ge.le fun A15 c15 w23 o15 l15 a15 f15 => ?_)
                      refine xt_v rfl v_assign ?_
                      refine xt_v rfl v_assign ?_
                      refine xt_nil ?_
                      refine x_regionL ?_
                      refine xl_v v_move ?_
                      refine xl_v (v_add (by omega)) ?_
                      refine xl_v v_assign ?_
                      refine xl_nil ?_
                      first
                      | exact ⟨_, by omega, rfl, k + 1, nr + 1 + 1, A7, A15, c7, c15, rfl, by omega, by rw [hst]; simp [hnr], by rw [hnr]; have := (insRun_len r (R.rows.take k)).2 hth; simp at this; omega, ⟨by have := (OwnI.own : World.ownsRow w23 _ _ _ (.slice A7 _ c7) _ _); rw [hst]; simpa [rowC, ruleC] using this⟩, inferInstance, ⟨by have := (OwnI.own : World.ownsRow w23 _ _ _ (.slice A15 _ c15) _ _); rw [hst]; simpa [posC] using this⟩, inferInstance, inferInstance, inferInstance, inferInstance, inferInstance, inferInstance, inferInstance, evc (by rw [hst]), evc, lkc⟩
                      | exact ⟨_, by omega, rfl, k + 1, nr + 1, A7, A15, c7, c15, rfl, by omega, by rw [hst]; simp [hnr], by omega, ⟨by have := (OwnI.own : World.ownsRow w23 _ _ _ (.slice A7 _ c7) _ _); rw [hst]; simpa [rowC, ruleC] using this⟩, inferInstance, ⟨by have := (OwnI.own : World.ownsRow w23 _ _ _ (.slice A15 _ c15) _ _); rw [hst]; simpa [posC] using this⟩, inferInstance, inferInstance, inferInstance, inferInstance, inferInstance, inferInstance, inferInstance, evc (by rw [hst]), evc, lkc⟩
                  ·
                    refine xt_e rfl (e_buildSlice1 rfl fun b24 w24 n24 l24 k24 => ?_)
                    refine xt_e rfl (e_buildSlice1 rfl fun b25 w25 n25 l25 k25 => ?_)
                    refine xt_e rfl (e_app (by omega) (by decide) (by omega) (by omega) Ge.le fun A7 c7 w26 o7 l7 a7 f7 => ?_)
                    refine xt_e rfl (e_app (by omega) (by decide) (by omega) (by omega) Ge.le fun A15 c15 w27 o15 l15 a15 f15 => ?_)
                    refine xt_v rfl v_assign ?_
                    refine xt_v rfl v_assign ?_
                    refine xt_nil ?_
                    refine x_regionL ?_
                    refine xl_v v_move ?_
                    refine xl_v (v_add (by omega)) ?_
                    refine xl_v v_assign ?_
                    refine xl_nil ?_
                    first
                    | exact ⟨_, by omega, rfl, k + 1, nr + 1 + 1, A7, A15, c7, c15, rfl, by omega, by rw [hst]; simp [hnr], by rw [hnr]; have := (insRun_len r (R.rows.take k)).2 hth; simp at this; omega, ⟨by have := (OwnI.own : World.ownsRow w27 _ _ _ (.slice A7 _ c7) _ _); rw [hst]; simpa [rowC, ruleC] using this⟩, inferInstance, ⟨by have := (OwnI.own : World.ownsRow w27 _ _ _ (.slice A15 _ c15) _ _); rw [hst]; simpa [posC] using this⟩, inferInstance, inferInstance, inferInstance, inferInstance, inferInstance, inferInstance, inferInstance, evc (by rw [hst]), evc, lkc⟩
                    | exact ⟨_, by omega, rfl, k + 1, nr + 1, A7, A15, c7, c15, rfl, by omega, by rw [hst]; simp [hnr], by omega, ⟨by have := (OwnI.own : World.ownsRow w27 _ _ _ (.slice A7 _ c7) _ _); rw [hst]; simpa [rowC, ruleC] using this⟩, inferInstance, ⟨by have := (OwnI.own : World.ownsRow w27 _ _ _ (.slice A15 _ c15) _ _); rw [hst]; simpa [posC] using this⟩, inferInstance, inferInstance, inferInstance, inferInstance, inferInstance, inferInstance, inferInstance, evc (by rw [hst]), evc, lkc⟩
                ·
                  have hst : insRun r (R.rows.take (k + 1)) = ((insRun r (R.rows.take k)).1 ++ [R.rows[k]], (insRun r (R.rows.take k)).2) := by rw [hst0, insStep, if_neg (fun h => c3 h.2)]
                  refine x_skip ?_
                  refine x_drawL (NewS w3) (allS) (.take 0 (.take 1 (.take 2 (.take 3 (.take 4 (.take 5 (.take 8 (.take 9 (.take 10 (.take 11 (.take 12 (.take 13 (.fork 6 (.fork 7 (.eff 14 (.eff 15 (.take 16 (.take 17 .done)))) 14 (.eff 7 (.eff 15 (.take 16 (.take 17 .done))))) 14 (.eff 6 (.eff 7 (.eff 15 (.take 16 (.take 17 .done)))))))))))))))))) mixed (by kernel_rfl) (fun _ _ _ _ _ h => h) (fun w28 l28 => ?_)
                  refine xt_v rfl v_move ?_
                  refine xt_v rfl (by first | exact v_fieldAddr | exact v_fieldAddrF (by decide) (by omega) | exact v_fieldAddrR (by first | assumption | rfl)) ?_
                  refine xt_v rfl (by first | exact v_load | exact v_loadO (by omega) | exact v_loadFf (by omega) | exact v_loadF0 (by omega)) ?_
                  refine xt_v rfl v_move ?_
                  refine xt_v rfl (by first | exact v_indexAddr _ rfl (by omega) (by assumption) | exact v_indexO _ rfl (by omega) (by omega) | exact v_indexF _ (by decide) rfl (by omega) (by omega)) ?_
                  refine xt_v rfl (by first | exact v_loadA | exact v_loadF (by decide) (by omega)) ?_
                  refine xt_v rfl v_move ?_
                  refine xt_v rfl (by first | exact v_fieldAddr | exact v_fieldAddrF (by decide) (by omega) | exact v_fieldAddrR (by first | assumption | rfl)) ?_
                  refine xt_v rfl (by first | exact v_load | exact v_loadO (by omega) | exact v_loadFf (by omega) | exact v_loadF0 (by omega)) ?_
                  refine xt_v rfl v_move ?_
                  refine xt_v rfl (by first | exact v_indexAddr _ rfl (by omega) (by assumption) | exact v_indexO _ rfl (by omega) (by omega) | exact v_indexF _ (by decide) rfl (by omega) (by omega)) ?_
                  refine xt_v rfl (by first | exact v_load | exact v_loadO (by omega) | exact v_loadFf (by omega) | exact v_loadF0 (by omega)) ?_
                  refine xt_fork ?_ ?_
                  ·
                    refine xt_e rfl (e_buildSlice1 rfl fun b29 w29 n29 l29 k29 => ?_)
                    refine xt_fork ?_ ?_
                    ·
                      refine xt_e rfl (e_app (by omega) (by decide) (by omega) (by omega) Ge.le fun A7 c7 w30 o7 l7 a7 f7 => ?_)
                      refine xt_e rfl (e_buildSlice1 rfl fun b31 w31 n31 l31 k31 => ?_)
                      refine xt_e rfl (e_app (by omega) (by decide) (by omega) (by omega) Ge.le fun A15 c15 w32 o15 l15 a15 f15 => ?_)
                      refine xt_v rfl v_assign ?_
                      refine xt_v rfl v_assign ?_
                      refine xt_nil ?_
                      refine x_regionL ?_
                      refine xl_v v_move ?_
                      refine xl_v (v_add (by omega)) ?_
                      refine xl_v v_assign ?_
                      refine xl_nil ?_
                      first
                      | exact ⟨_, by omega, rfl, k + 1, nr + 1 + 1, A7, A15, c7, c15, rfl, by omega, by rw [hst]; simp [hnr], by rw [hnr]; have := (insRun_len r (R.rows.take k)).2 hth; simp at this; omega, ⟨by have := (OwnI.own : World.ownsRow w32 _ _ _ (.slice A7 _ c7) _ _); rw [hst]; simpa [rowC, ruleC] using this⟩, inferInstance, ⟨by have := (OwnI.own : World.ownsRow w32 _ _ _ (.slice A15 _ c15) _ _); rw [hst]; simpa [posC] using this⟩, inferInstance, inferInstance, inferInstance, inferInstance, inferInstance, inferInstance, inferInstance, evc (by rw [hst]), evc, lkc⟩
                      | exact ⟨_, by omega, rfl, k + 1, nr + 1, A7, A15, c7, c15, rfl, by omega, by rw [hst]; simp [hnr], by omega, ⟨by have := (OwnI.own : World.ownsRow w32 _ _ _ (.slice A7 _ c7) _ _); rw [hst]; simpa [rowC, ruleC] using this⟩, inferInstance, ⟨by have := (OwnI.own : World.ownsRow w32 _ _ _ (.slice A15 _ c15) _ _); rw [hst]; simpa [posC] using this⟩, inferInstance, inferInstance, inferInstance, inferInstance, inferInstance, inferInstance, inferInstance, evc (by rw [hst]), evc, lkc⟩
                    ·
                      refine xt_e rfl (e_buildSlice1 rfl fun b33 w33 n33 l33 k33 => ?_)
                      refine xt_e rfl (e_app (by omega) (by decide) (by omega) (by omega) Ge.le fun A7 c7 w34 o7 l7 a7 f7 => ?_)
                      refine xt_e rfl (e_app (by omega) (by decide) (by omega) (by omega) Ge.le fun A15 c15 w35 o15 l15 a15 f15 => ?_)
                      refine xt_v rfl v_assign ?_
                      refine xt_v rfl v_assign ?_
                      refine xt_nil ?_
                      refine x_regionL ?_
                      refine xl_v v_move ?_
                      refine xl_v (v_add (by omega)) ?_
                      refine xl_v v_assign ?_
                      refine xl_nil ?_
                      first
                      | exact ⟨_, by omega, rfl, k + 1, nr + 1 + 1, A7, A15, c7, c15, rfl, by omega, by rw [hst]; simp [hnr], by rw [hnr]; have := (insRun_len r (R.rows.take k)).2 hth; simp at this; omega, ⟨by have := (OwnI.own : World.ownsRow w35 _ _ _ (.slice A7 _ c7) _ _); rw [hst]; simpa [rowC, ruleC] using this⟩, inferInstance, ⟨by have := (OwnI.own : World.ownsRow w35 _ _ _ (.slice A15 _ c15) _ _); rw [hst]; simpa [posC] using this⟩, inferInstance, inferInstance, inferInstance, inferInstance, inferInstance, inferInstance, inferInstance, evc (by rw [hst]), evc, lkc⟩
                      | exact ⟨_, by omega, rfl, k + 1, nr + 1, A7, A15, c7, c15, rfl, by omega, by rw [hst]; simp [hnr], by omega, ⟨by have := (OwnI.own : World.ownsRow w35 _ _ _ (.slice A7 _ c7) _ _); rw [hst]; simpa [rowC, ruleC] using this⟩, inferInstance, ⟨by have := (OwnI.own : World.ownsRow w35 _ _ _ (.slice A15 _ c15) _ _); rw [hst]; simpa [posC] using this⟩, inferInstance, inferInstance, inferInstance, inferInstance, inferInstance, inferInstance, inferInstance, evc (by rw [hst]), evc, lkc⟩
                  ·
                    refine xt_e rfl (e_buildSlice1 rfl fun b36 w36 n36 l36 k36 => ?_)
                    refine xt_e rfl (e_buildSlice1 rfl fun b37 w37 n37 l37 k37 => ?_)
                    refine xt_e rfl (e_app (by omega) (by decide) (by omega) (by omega) Ge.le fun A7 c7 w38 o7 l7 a7 f7 => ?_)
                    refine xt_e rfl (e_app (by omega) (by decide) (by omega) (by omega) Ge.le fun A15 c15 w39 o15 l15 a15 f15 => ?_)
                    refine xt_v rfl v_assign ?_
                    refine xt_v rfl v_assign ?_
                    refine xt_nil ?_
                    refine x_regionL ?_
                    refine xl_v v_move ?_
                    refine xl_v (v_add (by omega)) ?_
                    refine xl_v v_assign ?_
                    refine xl_nil ?_
                    first
                    | exact ⟨_, by omega, rfl, k + 1, nr + 1 + 1, A7, A15, c7, c15, rfl, by omega, by rw [hst]; simp [hnr], by rw [hnr]; have := (insRun_len r (R.rows.take k)).2 hth; simp at this; omega, ⟨by have := (OwnI.own : World.ownsRow w39 _ _ _ (.slice A7 _ c7) _ _); rw [hst]; simpa [rowC, ruleC] using this⟩, inferInstance, ⟨by have := (OwnI.own : World.ownsRow w39 _ _ _ (.slice A15 _ c15) _ _); rw [hst]; simpa [posC] using this⟩, inferInstance, inferInstance, inferInstance, inferInstance, inferInstance, inferInstance, inferInstance, evc (by rw [hst]), evc, lkc⟩
                    | exact ⟨_, by omega, rfl, k + 1, nr + 1, A7, A15, c7, c15, rfl, by omega, by rw [hst]; simp [hnr], by omega, ⟨by have := (OwnI.own : World.ownsRow w39 _ _ _ (.slice A7 _ c7) _ _); rw [hst]; simpa [rowC, ruleC] using this⟩, inferInstance, ⟨by have := (OwnI.own : World.ownsRow w39 _ _ _ (.slice A15 _ c15) _ _); rw [hst]; simpa [posC] using this⟩, inferInstance, inferInstance, inferInstance, inferInstance, inferInstance, inferInstance, inferInstance, evc (by rw [hst]), evc, lkc⟩
              ·
                have hst : insRun r (R.rows.take (k + 1)) = ((insRun r (R.rows.take k)).1 ++ [R.rows[k]], (insRun r (R.rows.take k)).2) := by rw [hst0, insStep, if_neg (fun h => by rw [h.1] at g46; simp at g46)]
                refine xt_gs rfl rfl EvO.eq ?_
                refine xt_gs rfl rfl EvO.eq ?_
                refine xt_gs rfl rfl EvO.eq ?_
                refine xt_gs rfl rfl EvO.eq ?_
                refine xt_gs rfl rfl EvO.eq ?_
                refine xt_gs rfl rfl EvO.eq ?_
                refine xt_gs rfl rfl EvO.eq ?_
                refine xt_gs rfl rfl EvO.eq ?_
                refine xt_gs rfl rfl EvO.eq ?_
                refine xt_v rfl (by first | exact v_pickT | exact v_pickF | exact v_pick) ?_
                refine xt_nil ?_
                refine x_condF ?_
                refine x_skip ?_
                refine x_drawL (NewS w3) (allS) (.take 0 (.take 1 (.take 2 (.take 3 (.take 4 (.take 5 (.take 8 (.take 9 (.take 10 (.take 11 (.take 12 (.take 13 (.fork 6 (.fork 7 (.eff 14 (.eff 15 (.take 16 (.take 17 .done)))) 14 (.eff 7 (.eff 15 (.take 16 (.take 17 .done))))) 14 (.eff 6 (.eff 7 (.eff 15 (.take 16 (.take 17 .done)))))))))))))))))) mixed (by kernel_rfl) (fun _ _ _ _ _ h => h) (fun w40 l40 => ?_)
                refine xt_v rfl v_move ?_
                refine xt_v rfl (by first | exact v_fieldAddr | exact v_fieldAddrF (by decide) (by omega) | exact v_fieldAddrR (by first | assumption | rfl)) ?_
                refine xt_v rfl (by first | exact v_load | exact v_loadO (by omega) | exact v_loadFf (by omega) | exact v_loadF0 (by omega)) ?_
                refine xt_v rfl v_move ?_
                refine xt_v rfl (by first | exact v_indexAddr _ rfl (by omega) (by assumption) | exact v_indexO _ rfl (by omega) (by omega) | exact v_indexF _ (by decide) rfl (by omega) (by omega)) ?_
                refine xt_v rfl (by first | exact v_loadA | exact v_loadF (by decide) (by omega)) ?_
                refine xt_v rfl v_move ?_
                refine xt_v rfl (by first | exact v_fieldAddr | exact v_fieldAddrF (by decide) (by omega) | exact v_fieldAddrR (by first | assumption | rfl)) ?_
                refine xt_v rfl (by first | exact v_load | exact v_loadO (by omega) | exact v_loadFf (by omega) | exact v_loadF0 (by omega)) ?_
                refine xt_v rfl v_move ?_
                refine xt_v rfl (by first | exact v_indexAddr _ rfl (by omega) (by assumption) | exact v_indexO _ rfl (by omega) (by omega) | exact v_indexF _ (by decide) rfl (by omega) (by omega)) ?_
                refine xt_v rfl (by first | exact v_load | exact v_loadO (by omega) | exact v_loadFf (by omega) | exact v_loadF0 (by omega)) ?_
                refine xt_fork ?_ ?_
                ·
                  refine xt_e rfl (e_buildSlice1 rfl fun b41 w41 n41 l41 k41 => ?_)
                  refine xt_fork ?_ ?_
                  ·
                    refine xt_e rfl (e_app (by omega) (by decide) (by omega) (by omega) Ge.le fun A7 c7 w42 o7 l7 a7 f7 => ?_)
                    refine xt_e rfl (e_buildSlice1 rfl fun b43 w43 n43 l43 k43 => ?_)
                    refine xt_e rfl (e_app (by omega) (by decide) (by omega) (by omega) Ge.le fun A15 c15 w44 o15 l15 a15 f15 => ?_)
                    refine xt_v rfl v_assign ?_
                    refine xt_v rfl v_assign ?_
                    refine xt_nil ?_
                    refine x_regionL ?_
                    refine xl_v v_move ?_
                    refine xl_v (v_add (by omega)) ?_
                    refine xl_v v_assign ?_
                    refine xl_nil ?_
                    first
                    | exact ⟨_, by omega, rfl, k + 1, nr + 1 + 1, A7, A15, c7, c15, rfl, by omega, by rw [hst]; simp [hnr], by rw [hnr]; have := (insRun_len r (R.rows.take k)).2 hth; simp at this; omega, ⟨by have := (OwnI.own : World.ownsRow w44 _ _ _ (.slice A7 _ c7) _ _); rw [hst]; simpa [rowC, ruleC] using this⟩, inferInstance, ⟨by have := (OwnI.own : World.ownsRow w44 _ _ _ (.slice A15 _ c15) _ _); rw [hst]; simpa [posC] using this⟩, inferInstance, inferInstance, inferInstance, inferInstance, inferInstance, inferInstance, inferInstance, evc (by rw [hst]), evc, lkc⟩
                    | exact ⟨_, by omega, rfl, k + 1, nr + 1, A7, A15, c7, c15, rfl, by omega, by rw [hst]; simp [hnr], by omega, ⟨by have := (OwnI.own : World.ownsRow w44 _ _ _ (.slice A7 _ c7) _ _); rw [hst]; simpa [rowC, ruleC] using this⟩, inferInstance, ⟨by have := (OwnI.own : World.ownsRow w44 _ _ _ (.slice A15 _ c15) _ _); rw [hst]; simpa [posC] using this⟩, inferInstance, inferInstance, inferInstance, inferInstance, inferInstance, inferInstance, inferInstance, evc (by rw [hst]), evc, lkc⟩
                  ·
                    refine xt_e rfl (e_buildSlice1 rfl fun b45 w45 n45 l45 k45 => ?_)
                    refine xt_e rfl (e_app (by omega) (by decide) (by omega) (by omega) Ge.le fun A7 c7 w46 o7 l7 a7 f7 => ?_)
                    refine xt_e rfl (e_app (by omega) (by decide) (by omega) (by omega) Ge.le fun A15 c15 w47 o15 l15 a15 f15 => ?_)
                    refine xt_v rfl v_assign ?_
                    refine xt_v rfl v_assign ?_
                    refine xt_nil ?_
                    refine x_regionL ?_
                    refine xl_v v_move ?_
                    refine xl_v (v_add (by omega)) ?_
                    refine xl_v v_assign ?_
                    refine xl_nil ?_
                    first
                    | exact ⟨_, by omega, rfl, k + 1, nr + 1 + 1, A7, A15, c7, c15, rfl, by omega, by rw [hst]; simp [hnr], by rw [hnr]; have := (insRun_len r (R.rows.take k)).2 hth; simp at this; omega, ⟨by have := (OwnI.own : World.ownsRow w47 _ _ _ (.slice A7 _ c7) _ _); rw [hst]; simpa [rowC, ruleC] using this⟩, inferInstance, ⟨by have := (OwnI.own : World.ownsRow w47 _ _ _ (.slice A15 _ c15) _ _); rw [hst]; simpa [posC] using this⟩, inferInstance, inferInstance, inferInstance, inferInstance, inferInstance, inferInstance, inferInstance, evc (by rw [hst]), evc, lkc⟩
                    | exact ⟨_, by omega, rfl, k + 1, nr + 1, A7, A15, c7, c15, rfl, by omega, by rw [hst]; simp [hnr], by omega, ⟨by have := (OwnI.own : World.ownsRow w47 _ _ _ (.slice A7 _ c7) _ _); rw [hst]; simpa [rowC, ruleC] using this⟩, inferInstance, ⟨by have := (OwnI.own : World.ownsRow w47 _ _ _ (.slice A15 _ c15) _ _); rw [hst]; simpa [posC] using this⟩, inferInstance, inferInstance, inferInstance, inferInstance, inferInstance, inferInstance, inferInstance, evc (by rw [hst]), evc, lkc⟩
                ·
                  refine xt_e rfl (e_buildSlice1 rfl fun b48 w48 n48 l48 k48 => ?_)
                  refine xt_e rfl (e_buildSlice1 rfl fun b49 w49 n49 l49 k49 => ?_)
                  refine xt_e rfl (e_app (by omega) (by decide) (by omega) (by omega) Ge.le fun A7 c7 w50 o7 l7 a7 f7 => ?_)
                  refine xt_e rfl (e_app (by omega) (by decide) (by omega) (by omega) Ge.le fun A15 c15 w51 o15 l15 a15 f15 => ?_)
                  refine xt_v rfl v_assign ?_
                  refine xt_v rfl v_assign ?_
                  refine xt_nil ?_
                  refine x_regionL ?_
                  refine xl_v v_move ?_
                  refine xl_v (v_add (by omega)) ?_
                  refine xl_v v_assign ?_
                  refine xl_nil ?_
                  first
                  | exact ⟨_, by omega, rfl, k + 1, nr + 1 + 1, A7, A15, c7, c15, rfl, by omega, by rw [hst]; simp [hnr], by rw [hnr]; have := (insRun_len r (R.rows.take k)).2 hth; simp at this; omega, ⟨by have := (OwnI.own : World.ownsRow w51 _ _ _ (.slice A7 _ c7) _ _); rw [hst]; simpa [rowC, ruleC] using this⟩, inferInstance, ⟨by have := (OwnI.own : World.ownsRow w51 _ _ _ (.slice A15 _ c15) _ _); rw [hst]; simpa [posC] using this⟩, inferInstance, inferInstance, inferInstance, inferInstance, inferInstance, inferInstance, inferInstance, evc (by rw [hst]), evc, lkc⟩
                  | exact ⟨_, by omega, rfl, k + 1, nr + 1, A7, A15, c7, c15, rfl, by omega, by rw [hst]; simp [hnr], by omega, ⟨by have := (OwnI.own : World.ownsRow w51 _ _ _ (.slice A7 _ c7) _ _); rw [hst]; simpa [rowC, ruleC] using this⟩, inferInstance, ⟨by have := (OwnI.own : World.ownsRow w51 _ _ _ (.slice A15 _ c15) _ _); rw [hst]; simpa [posC] using this⟩, inferInstance, inferInstance, inferInstance, inferInstance, inferInstance, inferInstance, inferInstance, evc (by rw [hst]), evc, lkc⟩
            ·
              have hkn : k = R.rows.length := by omega
              subst hkn
              rw [List.take_of_length_le (Nat.le_refl _)] at hnr
              have oR' := oR.own
              have oQ' := oQ.own
              rw [List.take_of_length_le (Nat.le_refl _)] at oR' oQ' e8
              refine x_exit ?_
              refine x_seq ?_
              refine x_seq ?_
              refine x_regionL ?_
              refine xl_v v_move ?_
              refine xl_v v_not ?_
              refine xl_nil ?_
              refine x_condE (fun c4 => ?_) (fun c4 => ?_)
              ·
                have hth : (insRun r R.rows).2 = false := by simpa using c4
                have hif : insFin r R.rows = (insRun r R.rows).1 ++ [(r, 0)] := by rw [insFin, if_neg (by simp [hth])]
                refine x_regionL ?_
                refine xl_v v_move ?_
                refine xl_v (by first | exact v_loadA | exact v_loadF (by decide) (by omega)) ?_
                refine xl_e (e_buildSlice1 rfl fun b52 w52 n52 l52 k52 => ?_)
                refine xl_e (e_app (by omega) (by decide) (by omega) (by omega) Ge.le fun A3 c3 w53 o3 l3' a3 f3 => ?_)
                refine xl_v v_move ?_
                refine xl_e (e_buildSlice1 rfl fun b54 w54 n54 l54 k54 => ?_)
                refine xl_e (e_app (by omega) (by decide) (by omega) (by omega) Ge.le fun A6 c6 w55 o6 l6 a6 f6 => ?_)
                refine xl_v v_assign ?_
                refine xl_v v_assign ?_
                refine xl_nil ?_
                refine x_seq ?_
                refine x_regionL ?_
                refine xl_v v_move ?_
                refine xl_v v_move ?_
                refine xl_v (by first | exact v_fieldAddr | exact v_fieldAddrF (by decide) (by omega) | exact v_fieldAddrR (by first | assumption | rfl)) ?_
                refine xl_s (e_store fun w56 l56 k56 => ?_)
                refine xl_v (by first | exact v_fieldAddr | exact v_fieldAddrF (by decide) (by omega) | exact v_fieldAddrR (by first | assumption | rfl)) ?_
                refine xl_s (e_store fun w57 l57 k57 => ?_)
                refine xl_nil ?_
                refine x_seq ?_
                refine x_regionL ?_
                refine xl_v (by first | exact v_loadA | exact v_loadF (by decide) (by omega)) ?_
                refine xl_s (e_storeA fun w58 l58 k58 => ?_)
                refine xl_v v_assign ?_
                refine xl_nil ?_
                refine x_ret ?_
                refine finR (rs := [.cell 4 51, .tmp 5]) rfl ?_
                rw [if_pos hr, RefM.ruleR, if_pos hr]
                first
                  | (obtain ⟨⟨F', h1, h2⟩, h3⟩ := ref_fin (A := A3) (B := A6) (c := c3) (c' := c6) (n := nr + 1) (rows := insFin r R.rows) h (lkc : Lk w58 w NoB) (by rw [hif]; have := (OwnI.own : World.ownsRow w58 _ _ _ (.slice A3 _ c3) _ _); simpa [rowC, ruleC] using this) (by rw [hif]; have := (OwnI.own : World.ownsRow w58 _ _ _ (.slice A6 _ c6) _ _); simpa [posC] using this) hws hws
                     exact ⟨⟨F', _, by rw [← h3]; rfl, h1, h2⟩, lkc⟩)
                  | (haveI : OwnI w10 Ar nr cr w3.heap.size 23 5 nr ((insRun r R.rows).1.flatMap rowC) := ⟨oR'⟩
                     haveI : OwnI w10 Aq nr cq w3.heap.size 3 1 nr ((insRun r R.rows).1.map posC) := ⟨oQ'⟩
                     obtain ⟨⟨F', h1, h2⟩, h3⟩ := ref_fin (A := Ar) (B := Aq) (c := cr) (c' := cq) (n := nr) (rows := insFin r R.rows) h (lkc : Lk w58 w NoB) (by rw [hif]; exact (OwnI.own : World.ownsRow w58 _ _ _ (.slice Ar _ cr) _ _)) (by rw [hif]; exact (OwnI.own : World.ownsRow w58 _ _ _ (.slice Aq _ cq) _ _)) hws hws
                     exact ⟨⟨F', _, by rw [← h3]; rfl, h1, h2⟩, lkc⟩)
              ·
                have hth : (insRun r R.rows).2 = true := by simpa using c4
                have hif : insFin r R.rows = (insRun r R.rows).1 := by rw [insFin, if_pos hth]
                refine x_skip ?_
                refine x_seq ?_
                refine x_regionL ?_
                refine xl_v v_move ?_
                refine xl_v v_move ?_
                refine xl_v (by first | exact v_fieldAddr | exact v_fieldAddrF (by decide) (by omega) | exact v_fieldAddrR (by first | assumption | rfl)) ?_
                refine xl_s (e_store fun w59 l59 k59 => ?_)
                refine xl_v (by first | exact v_fieldAddr | exact v_fieldAddrF (by decide) (by omega) | exact v_fieldAddrR (by first | assumption | rfl)) ?_
                refine xl_s (e_store fun w60 l60 k60 => ?_)
                refine xl_nil ?_
                refine x_seq ?_
                refine x_regionL ?_
                refine xl_v (by first | exact v_loadA | exact v_loadF (by decide) (by omega)) ?_
                refine xl_s (e_storeA fun w61 l61 k61 => ?_)
                refine xl_v v_assign ?_
                refine xl_nil ?_
                refine x_ret ?_
                refine finR (rs := [.cell 4 51, .tmp 5]) rfl ?_
                rw [if_pos hr, RefM.ruleR, if_pos hr]
                first
                  | (obtain ⟨⟨F', h1, h2⟩, h3⟩ := ref_fin (A := A3) (B := A6) (c := c3) (c' := c6) (n := nr + 1) (rows := insFin r R.rows) h (lkc : Lk w61 w NoB) (by rw [hif]; have := (OwnI.own : World.ownsRow w61 _ _ _ (.slice A3 _ c3) _ _); simpa [rowC, ruleC] using this) (by rw [hif]; have := (OwnI.own : World.ownsRow w61 _ _ _ (.slice A6 _ c6) _ _); simpa [posC] using this) hws hws
                     exact ⟨⟨F', _, by rw [← h3]; rfl, h1, h2⟩, lkc⟩)
                  | (haveI : OwnI w10 Ar nr cr w3.heap.size 23 5 nr ((insRun r R.rows).1.flatMap rowC) := ⟨oR'⟩
                     haveI : OwnI w10 Aq nr cq w3.heap.size 3 1 nr ((insRun r R.rows).1.map posC) := ⟨oQ'⟩
                     obtain ⟨⟨F', h1, h2⟩, h3⟩ := ref_fin (A := Ar) (B := Aq) (c := cr) (c' := cq) (n := nr) (rows := insFin r R.rows) h (lkc : Lk w61 w NoB) (by rw [hif]; exact (OwnI.own : World.ownsRow w61 _ _ _ (.slice Ar _ cr) _ _)) (by rw [hif]; exact (OwnI.own : World.ownsRow w61 _ _ _ (.slice Aq _ cq) _ _)) hws hws
                     exact ⟨⟨F', _, by rw [← h3]; rfl, h1, h2⟩, lkc⟩)
end Go.Proofs.Ytbihphclmdokeaa
