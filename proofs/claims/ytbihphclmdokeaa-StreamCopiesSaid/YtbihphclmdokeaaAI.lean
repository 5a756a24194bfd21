/-
  Walks, printed by a program of this workplace (wip/tools/sx.py) off the functions' code and a text of contracts.
-/
import Derived.Test.YtbihphclmdokeaaAH
set_option linter.all false
set_option maxRecDepth 100000
set_option synthInstance.maxSize 100000
set_option synthInstance.maxHeartbeats 400000
namespace Go.Proofs.Ytbihphclmdokeaa
open Go.Wst
open Go.Wst.Sm
theorem row_at {l m : List (Rule × Nat)} {i : Nat} (h : l = m) (h1 : i < l.length) (h2 : i < m.length) : l[i] = m[i] := by subst h; rfl
set_option maxHeartbeats 2000000 in
/-- waystation/waystationref14.Same -/
theorem refSame_ok (F F2 : Nat → Prop) (D D2 : RD) (R R2 : RefM) (w : World) (h : RefAt w F D R) (h2 : RefAt w F2 D2 R2) (o : R.ok) (o2 : R2.ok) : Ret Try.prog 38 #[refV D R, refV D2 R2] w (fun v w' => v = .bool (decide (R.parts = R2.parts ∧ R.rows = R2.rows)) ∧ Lk w' w NoB) := by
  haveI p1 : Row w D.PA _ := ⟨h.p.row⟩
  haveI r1 : Row w D.RA _ := ⟨h.r.row⟩
  haveI q1 : Row w D.QA _ := ⟨h.q.row⟩
  haveI p2 : Row w D2.PA _ := ⟨h2.p.row⟩
  haveI r2 : Row w D2.RA _ := ⟨h2.r.row⟩
  haveI q2 : Row w D2.QA _ := ⟨h2.q.row⟩
  haveI := h.p.old h.lt
  haveI := h.r.old h.lt
  haveI := h.q.old h.lt
  haveI := h2.p.old h2.lt
  haveI := h2.r.old h2.lt
  haveI := h2.q.old h2.lt
  have hfour := o.four
  have hfour2 := o2.four
  have hfew := o.few
  have hfew2 := o2.few
  have hpn := h.pn
  have hpn2 := h2.pn
  refine ret_of_x (N := 73) (l := [refV D R, refV D2 R2]) Try.func38 rfl rfl (Nat.le_of_ble_eq_true rfl) ?_
  refine x_seq ?_
  refine x_regionL ?_
  refine xl_e (e_box fun b2 w1 n2 l2 k2 => ?_)
  refine xl_e (e_box fun b3 w2 n3 l3 k3 => ?_)
  refine xl_v v_assign ?_
  refine xl_nil ?_
  refine x_seq ?_
  refine x_seq ?_
  refine x_regionL ?_
  refine xl_v (by first | exact v_fieldAddr | exact v_fieldAddrF (by decide) (by omega) | exact v_fieldAddrR (by first | assumption | rfl)) ?_
  refine xl_v (by first | exact v_load | exact v_loadO (by omega) | exact v_loadFf (by omega) | exact v_loadF0 (by omega)) ?_
  refine xl_v v_len ?_
  refine xl_v (by first | exact v_fieldAddr | exact v_fieldAddrF (by decide) (by omega) | exact v_fieldAddrR (by first | assumption | rfl)) ?_
  refine xl_v (by first | exact v_load | exact v_loadO (by omega) | exact v_loadFf (by omega) | exact v_loadF0 (by omega)) ?_
  refine xl_v v_len ?_
  refine xl_v v_neq ?_
  refine xl_v v_move ?_
  refine xl_split 14 (fun g14 => ?_) (fun g14 => ?_)
  ·
    refine xl_gs rfl EvO.eq ?_
    refine xl_gs rfl EvO.eq ?_
    refine xl_gs rfl EvO.eq ?_
    refine xl_gs rfl EvO.eq ?_
    refine xl_gs rfl EvO.eq ?_
    refine xl_gs rfl EvO.eq ?_
    refine xl_gs rfl EvO.eq ?_
    refine xl_v (by first | exact v_pickT | exact v_pickF | exact v_pick) ?_
    refine xl_nil ?_
    refine x_condT ?_
    refine x_seq ?_
    refine x_regionL ?_
    refine xl_v v_assign ?_
    refine xl_nil ?_
    refine x_ret ?_
    refine fin1 rfl ?_
    have hne : ¬ (R.parts.length = R2.parts.length ∧ R.rows.length = R2.rows.length) := by
      first
        | (simp at g14; omega)
        | (simp at g14 c1; omega)
    exact ⟨congrArg Value.bool (decide_eq_false fun e => hne ⟨congrArg List.length e.1, congrArg List.length e.2⟩).symm, lkc⟩
  ·
    refine xl_gv rfl EvO.eq (by first | exact v_fieldAddr | exact v_fieldAddrF (by decide) (by omega) | exact v_fieldAddrR (by first | assumption | rfl)) ?_
    refine xl_gv rfl EvO.eq (by first | exact v_load | exact v_loadO (by omega) | exact v_loadFf (by omega) | exact v_loadF0 (by omega)) ?_
    refine xl_gv rfl EvO.eq v_len ?_
    refine xl_gv rfl EvO.eq (by first | exact v_fieldAddr | exact v_fieldAddrF (by decide) (by omega) | exact v_fieldAddrR (by first | assumption | rfl)) ?_
    refine xl_gv rfl EvO.eq (by first | exact v_load | exact v_loadO (by omega) | exact v_loadFf (by omega) | exact v_loadF0 (by omega)) ?_
    refine xl_gv rfl EvO.eq v_len ?_
    refine xl_gv rfl EvO.eq v_neq ?_
    refine xl_v (by first | exact v_pickT | exact v_pickF | exact v_pick) ?_
    refine xl_nil ?_
    refine x_condE (fun c1 => ?_) (fun c1 => ?_)
    ·
      refine x_seq ?_
      refine x_regionL ?_
      refine xl_v v_assign ?_
      refine xl_nil ?_
      refine x_ret ?_
      refine fin1 rfl ?_
      have hne : ¬ (R.parts.length = R2.parts.length ∧ R.rows.length = R2.rows.length) := by
        first
          | (simp at g14; omega)
          | (simp at g14 c1; omega)
      exact ⟨congrArg Value.bool (decide_eq_false fun e => hne ⟨congrArg List.length e.1, congrArg List.length e.2⟩).symm, lkc⟩
    ·
      refine x_skip ?_
      refine x_seq ?_
      refine x_seq ?_
      have hle : R.parts.length = R2.parts.length ∧ R.rows.length = R2.rows.length := by
        first
          | (simp at g14 c1; omega)
          | (simp at g14; omega)
      obtain ⟨hl1, hl2⟩ := hle
      refine x_regionL ?_
      refine xl_v v_assign ?_
      refine xl_nil ?_
      refine x_block ?_
      have hb2l : (w2).heap[b2]? = _ := Blk.eq
      have hb3l : (w2).heap[b3]? = _ := Blk.eq
      obtain ⟨wL, hwL⟩ : ∃ x, x = w2 := ⟨_, rfl⟩
      have hwwL : Keep NoB w wL := by rw [hwL]; exact kpc
      haveI lkLw : Lk wL w NoB := ⟨hwwL⟩
      rw [← hwL] at hb2l hb3l
      haveI : Blk wL b2 _ := ⟨hb2l⟩
      haveI : Blk wL b3 _ := ⟨hb3l⟩
      refine x_loop (fun t τ ds w' => ds = [] ∧ ∃ (k : Nat), t = R.rows.length - k ∧ k ≤ R.rows.length ∧ R.rows.take k = R2.rows.take k ∧ Ev τ 2 (.pointer (some ⟨b2, 0, none⟩)) ∧ Ev τ 3 (.pointer (some ⟨b3, 0, none⟩)) ∧ Ev τ 5 (.int .i64 (k : Int)) ∧ Lk w' wL NoB) (R.rows.length) ?start ?round
      case start =>
        exact ⟨rfl, 0, rfl, Nat.zero_le _, by simp, inferInstance, inferInstance, evc, by rw [hwL]; exact lkc⟩
      case round =>
        intro m τ3 ds3 w3 hI
        obtain ⟨rfl, k, rfl, hk, hpre, e2, e3, e5, lk⟩ := hI
        refine x_seq ?_
        refine x_seq ?_
        refine x_regionL ?_
        refine xl_v v_move ?_
        refine xl_v (by first | exact v_fieldAddr | exact v_fieldAddrF (by decide) (by omega) | exact v_fieldAddrR (by first | assumption | rfl)) ?_
        refine xl_v (by first | exact v_load | exact v_loadO (by omega) | exact v_loadFf (by omega) | exact v_loadF0 (by omega)) ?_
        refine xl_v v_len ?_
        refine xl_v v_lss ?_
        refine xl_nil ?_
        first | refine x_condP (fun c2 => ?_) (fun c2 => ?_) | refine x_condN (fun c2 => ?_) (fun c2 => ?_) | refine x_condE (fun c2 => ?_) (fun c2 => ?_)
        ·
          have hk1 : k < R.rows.length := by omega
          have hk2 : k < R2.rows.length := by omega
          refine x_skip ?_
          refine x_seq ?_
          refine x_block ?_
          refine x_seq ?_
          refine x_drawL (NoB) (allS) (.take 0 (.take 1 (.take 2 (.take 3 (.take 4 (.take 5 (.take 6 (.take 7 (.take 8 (.take 9 (.take 10 (.take 11 (.take 12 (.take 13 (.take 14 (.take 15 (.take 16 (.take 17 (.take 18 (.take 19 (.take 20 (.take 21 (.take 22 (.take 23 .done)))))))))))))))))))))))) mixed (by kernel_rfl) (fun _ _ _ _ _ h => h) (fun w4 l4 => ?_)
          refine xt_v rfl (by first | exact v_fieldAddr | exact v_fieldAddrF (by decide) (by omega) | exact v_fieldAddrR (by first | assumption | rfl)) ?_
          refine xt_v rfl (by first | exact v_load | exact v_loadO (by omega) | exact v_loadFf (by omega) | exact v_loadF0 (by omega)) ?_
          refine xt_v rfl v_move ?_
          refine xt_v rfl (by first | exact v_indexAddr _ rfl (by omega) (by assumption) | exact v_indexO _ rfl (by omega) (by omega) | exact v_indexF _ (by decide) rfl (by omega) (by omega)) ?_
          refine xt_v rfl (by first | exact v_loadA | exact v_loadF (by decide) (by omega)) ?_
          refine xt_v rfl (by first | exact v_fieldAddr | exact v_fieldAddrF (by decide) (by omega) | exact v_fieldAddrR (by first | assumption | rfl)) ?_
          refine xt_v rfl (by first | exact v_load | exact v_loadO (by omega) | exact v_loadFf (by omega) | exact v_loadF0 (by omega)) ?_
          refine xt_v rfl v_move ?_
          refine xt_v rfl (by first | exact v_indexAddr _ rfl (by omega) (by assumption) | exact v_indexO _ rfl (by omega) (by omega) | exact v_indexF _ (by decide) rfl (by omega) (by omega)) ?_
          refine xt_v rfl (by first | exact v_loadA | exact v_loadF (by decide) (by omega)) ?_
          refine xt_v rfl v_neq_struct ?_
          refine xt_v rfl v_move ?_
          refine xt_split 41 (fun g41 => ?_) (fun g41 => ?_)
          ·
            refine xt_gs rfl rfl EvO.eq ?_
            refine xt_gs rfl rfl EvO.eq ?_
            refine xt_gs rfl rfl EvO.eq ?_
            refine xt_gs rfl rfl EvO.eq ?_
            refine xt_gs rfl rfl EvO.eq ?_
            refine xt_gs rfl rfl EvO.eq ?_
            refine xt_gs rfl rfl EvO.eq ?_
            refine xt_gs rfl rfl EvO.eq ?_
            refine xt_gs rfl rfl EvO.eq ?_
            refine xt_gs rfl rfl EvO.eq ?_
            refine xt_gs rfl rfl EvO.eq ?_
            refine xt_v rfl (by first | exact v_pickT | exact v_pickF | exact v_pick) ?_
            refine xt_nil ?_
            refine x_condT ?_
            refine x_seq ?_
            refine x_regionL ?_
            refine xl_v v_assign ?_
            refine xl_nil ?_
            refine x_ret ?_
            refine fin1 rfl ?_
            refine ⟨congrArg Value.bool (decide_eq_false fun e => ?_).symm, lkc⟩
            have e1 := row_at e.2 hk1 hk2
            first
              | (rw [e1] at g41; simp at g41; done)
              | (rw [e1] at c3; simp at c3; done)
          ·
            refine xt_gv rfl rfl EvO.eq (by first | exact v_fieldAddr | exact v_fieldAddrF (by decide) (by omega) | exact v_fieldAddrR (by first | assumption | rfl)) ?_
            refine xt_gv rfl rfl EvO.eq (by first | exact v_load | exact v_loadO (by omega) | exact v_loadFf (by omega) | exact v_loadF0 (by omega)) ?_
            refine xt_gv rfl rfl EvO.eq v_move ?_
            refine xt_gv rfl rfl EvO.eq (by first | exact v_indexAddr _ rfl (by omega) (by assumption) | exact v_indexO _ rfl (by omega) (by omega) | exact v_indexF _ (by decide) rfl (by omega) (by omega)) ?_
            refine xt_gv rfl rfl EvO.eq (by first | exact v_load | exact v_loadO (by omega) | exact v_loadFf (by omega) | exact v_loadF0 (by omega)) ?_
            refine xt_gv rfl rfl EvO.eq (by first | exact v_fieldAddr | exact v_fieldAddrF (by decide) (by omega) | exact v_fieldAddrR (by first | assumption | rfl)) ?_
            refine xt_gv rfl rfl EvO.eq (by first | exact v_load | exact v_loadO (by omega) | exact v_loadFf (by omega) | exact v_loadF0 (by omega)) ?_
            refine xt_gv rfl rfl EvO.eq v_move ?_
            refine xt_gv rfl rfl EvO.eq (by first | exact v_indexAddr _ rfl (by omega) (by assumption) | exact v_indexO _ rfl (by omega) (by omega) | exact v_indexF _ (by decide) rfl (by omega) (by omega)) ?_
            refine xt_gv rfl rfl EvO.eq (by first | exact v_load | exact v_loadO (by omega) | exact v_loadFf (by omega) | exact v_loadF0 (by omega)) ?_
            refine xt_gv rfl rfl EvO.eq v_neq ?_
            refine xt_v rfl (by first | exact v_pickT | exact v_pickF | exact v_pick) ?_
            refine xt_nil ?_
            refine x_condE (fun c3 => ?_) (fun c3 => ?_)
            ·
              refine x_seq ?_
              refine x_regionL ?_
              refine xl_v v_assign ?_
              refine xl_nil ?_
              refine x_ret ?_
              refine fin1 rfl ?_
              refine ⟨congrArg Value.bool (decide_eq_false fun e => ?_).symm, lkc⟩
              have e1 := row_at e.2 hk1 hk2
              first
                | (rw [e1] at g41; simp at g41; done)
                | (rw [e1] at c3; simp at c3; done)
            ·
              refine x_skip ?_
              refine x_regionL ?_
              refine xl_v v_move ?_
              refine xl_v (v_add (by omega)) ?_
              refine xl_v v_assign ?_
              refine xl_nil ?_
              refine ⟨_, ?_, rfl, k + 1, rfl, by omega, ?_, inferInstance, inferInstance, evc, lkc⟩
              · omega
              · rw [take_snoc _ _ hk1, take_snoc _ _ hk2, hpre]
                congr 2
                have e1 : R.rows[k].1 = R2.rows[k].1 := rule_eq (by simp at g41; exact g41)
                have e2 : R.rows[k].2 = R2.rows[k].2 := by simp at c3; omega
                exact Prod.ext e1 e2
        ·
          have hrows : R.rows = R2.rows := by
            rw [List.take_of_length_le (by omega), List.take_of_length_le (by omega)] at hpre
            exact hpre
          refine x_exit ?_
          refine x_seq ?_
          refine x_seq ?_
          refine x_regionL ?_
          refine xl_v v_assign ?_
          refine xl_nil ?_
          refine x_block ?_
          obtain ⟨wM, hwM⟩ : ∃ x, x = w3 := ⟨_, rfl⟩
          have hlM : Lk wM wL NoB := by rw [hwM]; exact lkc
          refine x_loop (fun t τ ds w' => ds = [] ∧ ∃ (k : Nat), t = R.parts.length - k ∧ k ≤ R.parts.length ∧ R.parts.take k = R2.parts.take k ∧ Ev τ 2 (.pointer (some ⟨b2, 0, none⟩)) ∧ Ev τ 3 (.pointer (some ⟨b3, 0, none⟩)) ∧ Ev τ 6 (.int .i64 (k : Int)) ∧ Lk w' wM NoB) (R.parts.length) ?start ?round
          case start =>
            exact ⟨rfl, 0, rfl, Nat.zero_le _, by simp, inferInstance, inferInstance, evc, by rw [hwM]; exact lkc⟩
          case round =>
            intro m τ5 ds5 w5 hI
            clear e2 e3 e5 lk hpre
            obtain ⟨rfl, k, rfl, hk, hpre, e2, e3, e6, lk⟩ := hI
            haveI hlM2 := hlM
            refine x_seq ?_
            refine x_seq ?_
            refine x_regionL ?_
            refine xl_v v_move ?_
            refine xl_v (by first | exact v_fieldAddr | exact v_fieldAddrF (by decide) (by omega) | exact v_fieldAddrR (by first | assumption | rfl)) ?_
            refine xl_v (by first | exact v_load | exact v_loadO (by omega) | exact v_loadFf (by omega) | exact v_loadF0 (by omega)) ?_
            refine xl_v v_len ?_
            refine xl_v v_lss ?_
            refine xl_nil ?_
            first | refine x_condP (fun c4 => ?_) (fun c4 => ?_) | refine x_condN (fun c4 => ?_) (fun c4 => ?_) | refine x_condE (fun c4 => ?_) (fun c4 => ?_)
            ·
              have hk1 : k < R.parts.length := by omega
              have hk2 : k < R2.parts.length := by omega
              obtain ⟨B1, c1', hV1, hB1⟩ := h.pi k (by omega) hk1
              obtain ⟨B2, c2', hV2, hB2⟩ := h2.pi k (by omega) hk2
              haveI : Row w B1 _ := ⟨hB1.row⟩
              haveI : Row w B2 _ := ⟨hB2.row⟩
              have hP1 : D.PA.isSome = true := row_some (cs := D.pv) (w := w) inferInstance (by omega)
              have hP2 : D2.PA.isSome = true := row_some (cs := D2.pv) (w := w) inferInstance (by omega)
              have hG1 : D.pv[k]? = some (.slice B1 R.parts[k].length c1') := by rw [← hV1]; exact List.getElem?_eq_getElem _
              have hG2 : D2.pv[k]? = some (.slice B2 R2.parts[k].length c2') := by rw [← hV2]; exact List.getElem?_eq_getElem _
              have hlong := o.long _ (List.getElem_mem hk1)
              refine x_skip ?_
              refine x_seq ?_
              refine x_block ?_
              refine x_seq ?_
              refine x_drawL (NoB) (allS) (.take 0 (.take 1 (.take 2 (.take 3 (.take 4 (.take 5 (.take 6 (.take 7 (.take 8 (.take 9 (.eff 10 (.take 11 .done)))))))))))) mixed (by kernel_rfl) (fun _ _ _ _ _ h => h) (fun w6 l6 => ?_)
              refine xt_v rfl (by first | exact v_fieldAddr | exact v_fieldAddrF (by decide) (by omega) | exact v_fieldAddrR (by first | assumption | rfl)) ?_
              refine xt_v rfl (by first | exact v_load | exact v_loadO (by omega) | exact v_loadFf (by omega) | exact v_loadF0 (by omega)) ?_
              refine xt_v rfl v_move ?_
              refine xt_v rfl (v_indexAddr k rfl (by omega) hP1) ?_
              refine xt_v rfl (v_loadR (by simpa using hG1)) ?_
              refine xt_v rfl (by first | exact v_fieldAddr | exact v_fieldAddrF (by decide) (by omega) | exact v_fieldAddrR (by first | assumption | rfl)) ?_
              refine xt_v rfl (by first | exact v_load | exact v_loadO (by omega) | exact v_loadFf (by omega) | exact v_loadF0 (by omega)) ?_
              refine xt_v rfl v_move ?_
              refine xt_v rfl (v_indexAddr k rfl (by omega) hP2) ?_
              refine xt_v rfl (v_loadR (by simpa using hG2)) ?_
              refine xt_call rfl (sameItems_ok B1 _ c1' R.parts[k] B2 _ c2' R2.parts[k] w6 rfl rfl (by omega)) ?_
              rintro _ w7 ⟨rfl, lk13⟩
              refine ⟨kpc, ?_⟩
              refine xt_v rfl v_not ?_
              refine xt_nil ?_
              refine x_condE (fun c5 => ?_) (fun c5 => ?_)
              ·
                refine x_seq ?_
                refine x_regionL ?_
                refine xl_v v_assign ?_
                refine xl_nil ?_
                refine x_ret ?_
                refine fin1 rfl ?_
                refine ⟨congrArg Value.bool (decide_eq_false fun e => ?_).symm, lkc⟩
                have e1 : R.parts[k]? = R2.parts[k]? := by rw [e.1]
                rw [List.getElem?_eq_getElem hk1, List.getElem?_eq_getElem hk2] at e1
                have e2 := Option.some.inj e1
                rw [e2] at c5
                simp at c5
              ·
                refine x_skip ?_
                refine x_regionL ?_
                refine xl_v v_move ?_
                refine xl_v (v_add (by omega)) ?_
                refine xl_v v_assign ?_
                refine xl_nil ?_
                refine ⟨_, ?_, rfl, k + 1, rfl, by omega, ?_, inferInstance, inferInstance, evc, lkc⟩
                · omega
                · rw [take_snoc _ _ hk1, take_snoc _ _ hk2, hpre]
                  congr 2
                  simpa using c5
            ·
              have hparts : R.parts = R2.parts := by
                rw [List.take_of_length_le (by omega), List.take_of_length_le (by omega)] at hpre
                exact hpre
              refine x_exit ?_
              refine x_seq ?_
              refine x_regionL ?_
              refine xl_v v_assign ?_
              refine xl_nil ?_
              refine x_ret ?_
              refine fin1 rfl ?_
              exact ⟨congrArg Value.bool (decide_eq_true ⟨hparts, hrows⟩).symm, lkc⟩
set_option maxHeartbeats 4000000 in
/-- waystation/waystationlaw14.StreamCopies -/
theorem StreamCopies_ok (parts : Int) (A : Option Addr) (n c : Nat) (xs : List ActD) (x : ActD) (w : World) [hrow : Row w A (xs.flatMap actC)] (hl : xs.length = n) (hA : A.isSome = true ∨ n = 0) (hn : n ≤ 9223372036854775807) : Ret Try.prog 12 #[.int .i64 parts, .slice A n c, .agg (actC x).toArray] w (fun v w' => v = .bool true ∧ Lk w' w NoB) := by
  refine ret_of_x (N := 100) (l := [.int .i64 parts, .slice A n c, .agg (actC x).toArray]) Try.func12 rfl rfl (Nat.le_of_ble_eq_true rfl) ?_
  refine x_seq ?_
  refine x_regionL ?_
  refine xl_e (e_box fun b5 w1 n5 l5 k5 => ?_)
  refine xl_v v_assign ?_
  refine xl_nil ?_
  refine x_seq ?_
  refine x_seq ?_
  refine x_regionL ?_
  refine xl_v v_move ?_
  refine xl_v v_move ?_
  refine xl_call (few_ok parts A n c w1) ?_
  rintro _ w2 ⟨rfl, lkf⟩
  refine xl_v v_not ?_
  refine xl_nil ?_
  refine x_condE (fun c1 => ?_) (fun c1 => ?_)
  ·
    refine x_seq ?_
    refine x_regionL ?_
    refine xl_call (works_ok _) ?_
    rintro _ w3 ⟨rfl, lk⟩
    refine xl_v v_assign ?_
    refine xl_nil ?_
    refine x_ret ?_
    refine fin1 rfl ?_
    exact ⟨rfl, lkc⟩
  ·
    have hfew : 1 ≤ parts ∧ parts ≤ 4 ∧ n ≤ 40 := by simp at c1; omega
    refine x_skip ?_
    refine x_seq ?_
    refine x_regionL ?_
    refine xl_v v_move ?_
    refine xl_v v_move ?_
    refine xl_call (played_ok parts A n c xs w2 hl ⟨hfew.1, hfew.2.1⟩ (by omega)) ?_
    rintro _ w4 ⟨⟨b, pb, mb, vs, M, F, D, small, rfl, hB, hm, hf, hp⟩, lkp⟩
    have hmw : ∀ k, MachF b pb mb vs k → w.heap.size ≤ k := fun k e => Nat.le_trans (Ge.le : w.heap.size ≤ (w2).heap.size) (hm k e)
    haveI nb5 : NotS (MachF b pb mb vs) b5 := ⟨fun e => by have h1 := hm b5 e; have h2 : b5 < (w2).heap.size := Has.lt; omega⟩
    refine xl_v v_move ?_
    refine xl_v v_extract ?_
    refine xl_v v_extract ?_
    refine xl_v v_extract ?_
    refine xl_v v_extract ?_
    refine xl_e (e_alloc fun b8 w5 n8 l8 k8 => ?_)
    have hm8 : ¬ MachF b pb mb vs b8 := fun e => by have := hB.m.lt _ e; have := n8.eq; omega
    have hf8 : ¬ F b8 := fun e => by have := hB.r.lt _ e; have := n8.eq; omega
    haveI nb8 : NotS (MachF b pb mb vs) b8 := ⟨hm8⟩
    refine xl_v v_assign ?_
    refine xl_s (e_storeA fun w6 l6 k6 => ?_)
    have hB2 : Both w6 b pb mb vs M F D := hB.keep (kpc : Keep (OneB b8) _ w6) (fun k hk e => hm8 (by have e' : k = b8 := e; exact e' ▸ hk)) (fun k hk e => hf8 (by have e' : k = b8 := e; exact e' ▸ hk))
    refine xl_v v_assign ?_
    refine xl_v v_assign ?_
    refine xl_nil ?_
    refine x_seq ?_
    refine x_seq ?_
    refine x_regionL ?_
    refine xl_v v_move ?_
    refine xl_v v_not ?_
    refine xl_nil ?_
    refine x_condE (fun c2 => ?_) (fun c2 => ?_)
    ·
      refine x_seq ?_
      refine x_regionL ?_
      refine xl_v v_move ?_
      refine xl_v v_move ?_
      refine xl_gcall rfl EvO.eq (works_ok _) ?_
      rintro _ w7 ⟨rfl, lk⟩
      refine xl_v (by first | exact v_pickT | exact v_pickF | exact v_pick) ?_
      refine xl_v v_assign ?_
      refine xl_nil ?_
      refine x_ret ?_
      refine fin1 rfl ?_
      exact ⟨rfl, lkc⟩
    ·
      refine x_skip ?_
      refine x_seq ?_
      refine x_regionL ?_
      refine xl_v v_move ?_
      refine xl_call (copy_ok b pb mb vs M w6 (hB2.ext (kpc : Keep NoB _ w6)).m hB.ok) ?_
      rintro _ w8 ⟨⟨d, pd, md, us, rfl, hC, hCn⟩, lk6⟩
      have hB3 := (hB2.ext (kpc : Keep NoB _ w6)).ext lk6.keep
      have hap : ∀ k, MachF d pd md us k → ¬ MachF b pb mb vs k := fun k e e2 => by have := hCn k e; have := (hB2.ext (kpc : Keep NoB _ w6)).m.lt k e2; omega
      have hapF : ∀ k, F k → ¬ MachF d pd md us k := fun k e e2 => by have := hCn k e2; have := (hB2.ext (kpc : Keep NoB _ w6)).r.lt k e; omega
      refine xl_v v_assign ?_
      refine xl_nil ?_
      refine x_seq ?_
      refine x_seq ?_
      refine x_regionL ?_
      refine xl_v v_move ?_
      refine xl_v (v_congr (u := .bool false) v_not rfl) ?_
      refine xl_v v_move ?_
      refine xl_gv rfl EvO.eq v_move ?_
      refine xl_gv rfl EvO.eq v_move ?_
      refine xl_gcall rfl EvO.eq (same_ok b pb mb vs M d pd md us M w8 (hB3.ext (kpc : Keep NoB _ w8)).m (hC.keep (kpc : Keep NoB _ w8) (fun _ _ h => h)) hB.ok hB.ok) ?_
      rintro _ w9 ⟨hv, lk7⟩
      rw [sameM_refl hB.ok.keys] at hv
      subst hv
      refine xl_gv rfl EvO.eq (v_congr (u := .bool false) v_not rfl) ?_
      refine xl_v (by first | exact v_pickT | exact v_pickF | exact v_pick) ?_
      refine xl_nil ?_
      refine x_condF ?_
      refine x_skip ?_
      refine x_seq ?_
      refine x_regionL ?_
      refine xl_v v_move ?_
      refine xl_v (by first | exact v_loadA | exact v_loadF (by decide) (by omega)) ?_
      refine xl_v (by first | exact v_loadA | exact v_loadF (by decide) (by omega)) ?_
      refine xl_call (act_ok b pb mb vs M F D x w9 (hB3.ext (kpc : Keep NoB _ w9))) ?_
      rintro _ w10 ⟨⟨vs3, F3, D3, rfl, hB4, hsm, hsf⟩, lk9⟩
      haveI sM : SubF (MachF b pb mb vs) NoB w := ⟨fun j hj e => by have := hmw j e; omega⟩
      have hC4 := (hC.keep (kpc : Keep NoB _ w9) (fun _ _ h => h)).keep lk9.keep hap
      have hR4 := (hB3.ext (kpc : Keep NoB _ w9)).r.keep lk9.keep hB.ap
      refine xl_v v_move ?_
      refine xl_v v_extract ?_
      refine xl_v v_extract ?_
      refine xl_e (e_alloc fun b12 w11 n12 l12 k12 => ?_)
      refine xl_s (e_storeA fun w12 l12 k12 => ?_)
      refine xl_v v_assign ?_
      refine xl_nil ?_
      refine x_seq ?_
      obtain ⟨w4, hw4⟩ : ∃ x, x = w12 := ⟨_, rfl⟩
      have hB5 : Both w4 b pb mb vs3 (actM M x) F3 D3 := by rw [hw4]; exact hB4.ext kpc
      have hC5 : MachAt w4 d pd md us M := by rw [hw4]; exact hC4.keep (kpc : Keep NoB _ _) (fun _ _ h => h)
      have hR5 : RefAt w4 F D (refOf M) := by rw [hw4]; exact hR4.keep (kpc : Keep NoB _ _) (fun _ _ h => h)
      haveI k84 : Blk w4 b8 (.cells (refC D (refOf M)).toArray 51 (0, 0)) := ⟨by rw [hw4]; exact Blk.eq⟩
      haveI k124 : Blk w4 b12 (.cells (refC D3 (refOf (actM M x))).toArray 51 (0, 0)) := ⟨by rw [hw4]; exact Blk.eq⟩
      have lk4w : Lk w4 w NoB := ⟨by rw [hw4]; exact kpc⟩
      have hh0 : M.hasB 0 = true := by have := hB.ok.one; simp [Mach.hasB]; omega
      have hlong0 := hB.ok.part_long 0
      refine x_regionL ?_
      refine xl_v v_move ?_
      refine xl_call (items_ok d pd md us M 0 w12 (by rw [← hw4]; exact hC5) hB.ok) ?_
      rintro _ w13 ⟨hv, lk10⟩
      rw [if_pos hh0] at hv
      obtain ⟨A10, c10, rfl, ho10⟩ := hv
      have hw4p : w4.heap.size = (w12).heap.size := by rw [hw4]
      have hA4 : ∀ k, (Value.slice A10 (M.part 0).length c10).ownBlock = some k → w4.heap.size ≤ k := fun k e => by have := (ho10.lt k e).1; omega
      refine xl_v v_move ?_
      refine xl_v v_extract ?_
      refine xl_v v_extract ?_
      refine xl_v v_assign ?_
      refine xl_v v_assign ?_
      refine xl_nil ?_
      refine x_seq ?_
      refine x_seq ?_
      refine x_regionL ?_
      refine xl_v v_assign ?_
      refine xl_nil ?_
      refine x_block ?_
      refine x_loop (fun t τ ds w' => ds = [] ∧ ∃ (k : Nat) (cs : List Value), t = (M.part 0).length - k ∧ k ≤ (M.part 0).length ∧ w'.ownsRow 0 74 3 (.slice A10 (M.part 0).length c10) (M.part 0).length cs ∧ Ev τ 5 (.pointer (some ⟨b5, 0, none⟩)) ∧ Ev τ 7 (.pointer (some ⟨b, 0, none⟩)) ∧ Ev τ 8 (.pointer (some ⟨b8, 0, none⟩)) ∧ Ev τ 9 (.bool true) ∧ Ev τ 11 (.pointer (some ⟨d, 0, none⟩)) ∧ Ev τ 12 (.pointer (some ⟨b12, 0, none⟩)) ∧ Ev τ 13 (.bool true) ∧ Ev τ 14 (.slice A10 (M.part 0).length c10) ∧ Ev τ 16 (.int .i64 (k : Int)) ∧ Lk w' w4 NoB) ((M.part 0).length) ?start ?round
      case start =>
        exact ⟨rfl, 0, _, rfl, Nat.zero_le _, own_mono (own_ext ho10 lkc) (Nat.zero_le _), inferInstance, inferInstance, inferInstance, inferInstance, inferInstance, inferInstance, inferInstance, inferInstance, evc, by rw [hw4]; exact lkc⟩
      case round =>
        intro m τ14 ds14 w14 hI
        obtain ⟨rfl, k, cs, rfl, hk, hoA, e5, e7, e8, e9, e11, e12, e13, e14, e16, lk⟩ := hI
        haveI := lk4w
        haveI sL : ∀ (S : Nat → Prop), SubF (OwnB (.slice A10 (M.part 0).length c10)) S w4 := fun S => ⟨fun j hj e => by have := hA4 j e.symm; omega⟩
        refine x_seq ?_
        refine x_seq ?_
        refine x_regionL ?_
        refine xl_v v_move ?_
        refine xl_v v_move ?_
        refine xl_v v_len ?_
        refine xl_v v_lss ?_
        refine xl_nil ?_
        first | refine x_condP (fun c4 => ?_) (fun c4 => ?_) | refine x_condN (fun c4 => ?_) (fun c4 => ?_) | refine x_condE (fun c4 => ?_) (fun c4 => ?_)
        ·
          have hk1 : k < (M.part 0).length := by omega
          have hAs : A10.isSome = true := by
            obtain ⟨_, _, e, _, _, hr⟩ := ownsRow_form hoA
            cases e
            exact row_some (cs := cs) ⟨hr⟩ (by rw [hoA.1]; omega)
          refine x_skip ?_
          refine x_seq ?_
          refine x_block ?_
          refine x_regionL ?_
          refine xl_v v_move ?_
          refine xl_v v_move ?_
          refine xl_v (v_indexAddr k rfl (by omega) hAs) ?_
          refine xl_v (by first | exact v_fieldAddr | exact v_fieldAddrF (by decide) (by omega) | exact v_fieldAddrR (by first | assumption | rfl)) ?_
          refine xl_s (e_storeOwn hoA (by omega) (by decide) fun w15 l5' ho5 => ?_)
          refine xl_nil ?_
          refine x_regionL ?_
          refine xl_v v_move ?_
          refine xl_v (v_add (by omega)) ?_
          refine xl_v v_assign ?_
          refine xl_nil ?_
          refine ⟨_, ?_, rfl, k + 1, _, rfl, by omega, ho5, inferInstance, inferInstance, inferInstance, inferInstance, inferInstance, inferInstance, inferInstance, inferInstance, evc, lkc⟩
          omega
        ·
          refine x_exit ?_
          refine x_seq ?_
          refine x_regionL ?_
          refine xl_v (by first | exact v_loadA | exact v_loadF (by decide) (by omega)) ?_
          refine xl_v (by first | exact v_loadA | exact v_loadF (by decide) (by omega)) ?_
          refine xl_call (refSame_ok F F3 D D3 (refOf M) (refOf (actM M x)) w14 (hR5.keep (kpc : Keep NoB w4 w14) (fun _ _ h => h)) (hB5.r.keep (kpc : Keep NoB w4 w14) (fun _ _ h => h)) (refOf_ok hB.ok) (refOf_ok hB5.ok)) ?_
          rintro _ w16 ⟨rfl, lk15⟩
          have hsame : sameM (actM M x) M = decide ((refOf M).parts = (refOf (actM M x)).parts ∧ (refOf M).rows = (refOf (actM M x)).rows) := by
            rw [same_ref hB5.ok hB.ok]; exact decide_eq_decide.2 ⟨fun e => ⟨e.1.symm, e.2.symm⟩, fun e => ⟨e.1.symm, e.2.symm⟩⟩
          have hsame2 : sameM M (actM M x) = decide ((refOf M).parts = (refOf (actM M x)).parts ∧ (refOf M).rows = (refOf (actM M x)).rows) := by
            rw [same_ref hB.ok hB5.ok]; rfl
          refine xl_v v_assign ?_
          refine xl_nil ?_
          refine x_seq ?_
          refine x_regionL ?_
          refine xl_v v_move ?_
          refine xl_v v_move ?_
          refine xl_gv rfl EvO.eq v_move ?_
          refine xl_gv rfl EvO.eq (by first | exact v_loadA | exact v_loadF (by decide) (by omega)) ?_
          refine xl_gcall rfl EvO.eq (is_ok d pd md us M F D w16 ⟨hC5.keep (kpc : Keep NoB w4 w16) (fun _ _ h => h), hR5.keep (kpc : Keep NoB w4 w16) (fun _ _ h => h), hB.ok, hB.ok2, hapF⟩) ?_
          rintro _ w17 ⟨rfl, lk164⟩
          refine xl_v (by first | exact v_pickT | exact v_pickF | exact v_pick) ?_
          refine xl_v v_move ?_
          refine xl_gv rfl EvO.eq v_move ?_
          refine xl_gv rfl EvO.eq (by first | exact v_loadA | exact v_loadF (by decide) (by omega)) ?_
          refine xl_gcall rfl EvO.eq (is_ok b pb mb vs3 (actM M x) F3 D3 w17 (hB5.ext (kpc : Keep NoB w4 w17))) ?_
          rintro _ w18 ⟨rfl, lk169⟩
          refine xl_v (by first | exact v_pickT | exact v_pickF | exact v_pick) ?_
          refine xl_v v_move ?_
          refine xl_gv rfl EvO.eq v_move ?_
          refine xl_gv rfl EvO.eq v_move ?_
          refine xl_gcall rfl EvO.eq (same_ok b pb mb vs3 (actM M x) d pd md us M w18 (hB5.ext (kpc : Keep NoB w4 w18)).m (hC5.keep (kpc : Keep NoB w4 w18) (fun _ _ h => h)) hB5.ok hB.ok) ?_
          rintro _ w19 ⟨hv, lk1614⟩
          rw [hsame] at hv
          subst hv
          refine xl_gv rfl EvO.eq v_move ?_
          refine xl_gv rfl EvO.eq (v_congr (u := .bool true) v_beqlC (congrArg Value.bool (beq_self_eq_true _))) ?_
          refine xl_v (by first | exact v_pickT | exact v_pickF | exact v_pick) ?_
          refine xl_v v_move ?_
          refine xl_gv rfl EvO.eq v_move ?_
          refine xl_gv rfl EvO.eq v_move ?_
          refine xl_gcall rfl EvO.eq (same_ok d pd md us M b pb mb vs3 (actM M x) w19 (hC5.keep (kpc : Keep NoB w4 w19) (fun _ _ h => h)) (hB5.ext (kpc : Keep NoB w4 w19)).m hB.ok hB5.ok) ?_
          rintro _ w20 ⟨hv, lk1621⟩
          rw [hsame2] at hv
          subst hv
          refine xl_gv rfl EvO.eq v_move ?_
          refine xl_gv rfl EvO.eq (v_congr (u := .bool true) v_beqlC (congrArg Value.bool (beq_self_eq_true _))) ?_
          refine xl_v (by first | exact v_pickT | exact v_pickF | exact v_pick) ?_
          refine xl_v v_move ?_
          refine xl_gcall rfl EvO.eq (works_ok _) ?_
          rintro _ w21 ⟨rfl, lk⟩
          refine xl_v (by first | exact v_pickT | exact v_pickF | exact v_pick) ?_
          refine xl_v v_assign ?_
          refine xl_nil ?_
          refine x_ret ?_
          refine fin1 rfl ?_
          exact ⟨rfl, lkc⟩
end Go.Proofs.Ytbihphclmdokeaa
