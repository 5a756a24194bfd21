/-
  Walks, printed by a program of this workplace (wip/tools/sx.py) off the functions' code and a text of contracts.
-/
import Derived.Test.YtbihphclmdokeaaH
set_option linter.all false
set_option maxRecDepth 100000
set_option synthInstance.maxSize 100000
set_option synthInstance.maxHeartbeats 400000
namespace Go.Proofs.Ytbihphclmdokeaa
open Go.Wst
open Go.Wst.Sm
abbrev twR : Rule := ⟨0, 0, 1, 2, 1⟩

/-- waystation/waystationlaw14.num -/
theorem num_ok (n : Int) (w : World) : Ret Try.prog 19 #[.int .i64 n] w (fun v w' => v = .int .i64 n ∧ w = w') := by
  refine ret_of_x (N := 4) (l := [.int .i64 n]) Try.func19 rfl rfl (Nat.le_of_ble_eq_true rfl) ?_
  refine x_seq ?_
  refine x_regionL ?_
  refine xl_v v_assign ?_
  refine xl_nil ?_
  refine x_seq ?_
  refine x_regionL ?_
  refine xl_v v_move ?_
  refine xl_v v_assign ?_
  refine xl_nil ?_
  refine x_ret ?_
  refine fin1 rfl ?_
  exact ⟨rfl, rfl⟩

/-- waystation/waystationlaw14.twice -/
theorem twice_ok (w : World) : Ret Try.prog 25 #[] w (fun v w' => v = .agg (ruleC twR).toArray ∧ Lk w' w NoB) := by
  refine ret_of_x (N := 2) (l := []) Try.func25 rfl rfl (Nat.le_of_ble_eq_true rfl) ?_
  refine x_seq ?_
  refine x_regionL ?_
  refine xl_e (e_alloc fun b1 w1 n1 l1 k1 => ?_)
  refine xl_nil ?_
  refine x_seq ?_
  refine x_regionL ?_
  refine xl_v v_build ?_
  refine xl_s (e_storeA fun w2 l2 k2 => ?_)
  refine xl_nil ?_
  refine x_ret ?_
  refine finR (rs := [.cell 0 23]) rfl ?_
  exact ⟨rfl, lkc⟩

/-- waystation/waystationref14.Right -/
theorem right14_ok (r : Rule) (w : World) : Ret Try.prog 15 #[.agg (ruleC r).toArray] w (fun v w' => v = .bool (mayB r) ∧ Lk w' w NoB) := by
  refine ret_of_x (N := 33) (l := [.agg (ruleC r).toArray]) Try.func15 rfl rfl (Nat.le_of_ble_eq_true rfl) ?_
  refine x_seq ?_
  refine x_regionL ?_
  refine xl_e (e_box fun b1 w1 n1 l1 k1 => ?_)
  refine xl_v v_assign ?_
  refine xl_nil ?_
  refine x_seq ?_
  refine x_regionL ?_
  refine xl_v (by first | exact v_fieldAddr | exact v_fieldAddrF (by decide) (by omega) | exact v_fieldAddrR (by first | assumption | rfl)) ?_
  refine xl_v (by first | exact v_load | exact v_loadO (by omega) | exact v_loadFf (by omega) | exact v_loadF0 (by omega)) ?_
  refine xl_call (within_ok _ _ _ _) ?_
  rintro _ _ ⟨rfl, rfl⟩
  refine xl_v v_move ?_
  refine xl_split 6 (fun g6 => ?_) (fun g6 => ?_)
  ·
    refine xl_gv rfl EvO.eq (by first | exact v_fieldAddr | exact v_fieldAddrF (by decide) (by omega) | exact v_fieldAddrR (by first | assumption | rfl)) ?_
    refine xl_gv rfl EvO.eq (by first | exact v_load | exact v_loadO (by omega) | exact v_loadFf (by omega) | exact v_loadF0 (by omega)) ?_
    refine xl_gcall rfl EvO.eq (within_ok _ _ _ _) ?_
    rintro _ _ ⟨rfl, rfl⟩
    refine xl_v (by first | exact v_pickT | exact v_pickF | exact v_pick) ?_
    refine xl_v v_move ?_
    refine xl_split 11 (fun g11 => ?_) (fun g11 => ?_)
    ·
      refine xl_gv rfl EvO.eq (by first | exact v_fieldAddr | exact v_fieldAddrF (by decide) (by omega) | exact v_fieldAddrR (by first | assumption | rfl)) ?_
      refine xl_gv rfl EvO.eq (by first | exact v_load | exact v_loadO (by omega) | exact v_loadFf (by omega) | exact v_loadF0 (by omega)) ?_
      refine xl_gcall rfl EvO.eq (within_ok _ _ _ _) ?_
      rintro _ _ ⟨rfl, rfl⟩
      refine xl_v (by first | exact v_pickT | exact v_pickF | exact v_pick) ?_
      refine xl_v v_move ?_
      refine xl_split 16 (fun g16 => ?_) (fun g16 => ?_)
      ·
        refine xl_gv rfl EvO.eq (by first | exact v_fieldAddr | exact v_fieldAddrF (by decide) (by omega) | exact v_fieldAddrR (by first | assumption | rfl)) ?_
        refine xl_gv rfl EvO.eq (by first | exact v_load | exact v_loadO (by omega) | exact v_loadFf (by omega) | exact v_loadF0 (by omega)) ?_
        refine xl_gv rfl EvO.eq (by first | exact v_fieldAddr | exact v_fieldAddrF (by decide) (by omega) | exact v_fieldAddrR (by first | assumption | rfl)) ?_
        refine xl_gv rfl EvO.eq (by first | exact v_load | exact v_loadO (by omega) | exact v_loadFf (by omega) | exact v_loadF0 (by omega)) ?_
        refine xl_gv rfl EvO.eq v_neq ?_
        refine xl_v (by first | exact v_pickT | exact v_pickF | exact v_pick) ?_
        refine xl_v v_move ?_
        refine xl_split 23 (fun g23 => ?_) (fun g23 => ?_)
        ·
          refine xl_gv rfl EvO.eq (by first | exact v_fieldAddr | exact v_fieldAddrF (by decide) (by omega) | exact v_fieldAddrR (by first | assumption | rfl)) ?_
          refine xl_gv rfl EvO.eq (by first | exact v_load | exact v_loadO (by omega) | exact v_loadFf (by omega) | exact v_loadF0 (by omega)) ?_
          refine xl_gcall rfl EvO.eq (within_ok _ _ _ _) ?_
          rintro _ _ ⟨rfl, rfl⟩
          refine xl_v (by first | exact v_pickT | exact v_pickF | exact v_pick) ?_
          refine xl_v v_move ?_
          refine xl_split 28 (fun g28 => ?_) (fun g28 => ?_)
          ·
            refine xl_gv rfl EvO.eq (by first | exact v_fieldAddr | exact v_fieldAddrF (by decide) (by omega) | exact v_fieldAddrR (by first | assumption | rfl)) ?_
            refine xl_gv rfl EvO.eq (by first | exact v_load | exact v_loadO (by omega) | exact v_loadFf (by omega) | exact v_loadF0 (by omega)) ?_
            refine xl_gcall rfl EvO.eq (within_ok _ _ _ _) ?_
            rintro _ _ ⟨rfl, rfl⟩
            refine xl_v (by first | exact v_pickT | exact v_pickF | exact v_pick) ?_
            refine xl_v v_assign ?_
            refine xl_nil ?_
            refine x_ret ?_
            refine fin1 rfl ?_
            exact ⟨by simp_all [mayB]; try omega, lkc⟩
          ·
            refine xl_gs rfl EvO.eq ?_
            refine xl_gs rfl EvO.eq ?_
            refine xl_gs rfl EvO.eq ?_
            refine xl_v (by first | exact v_pickT | exact v_pickF | exact v_pick) ?_
            refine xl_v v_assign ?_
            refine xl_nil ?_
            refine x_ret ?_
            refine fin1 rfl ?_
            exact ⟨by simp_all [mayB]; try omega, lkc⟩
        ·
          refine xl_gs rfl EvO.eq ?_
          refine xl_gs rfl EvO.eq ?_
          refine xl_gs rfl EvO.eq ?_
          refine xl_v (by first | exact v_pickT | exact v_pickF | exact v_pick) ?_
          refine xl_v v_move ?_
          refine xl_gs rfl EvO.eq ?_
          refine xl_gs rfl EvO.eq ?_
          refine xl_gs rfl EvO.eq ?_
          refine xl_v (by first | exact v_pickT | exact v_pickF | exact v_pick) ?_
          refine xl_v v_assign ?_
          refine xl_nil ?_
          refine x_ret ?_
          refine fin1 rfl ?_
          exact ⟨by simp_all [mayB]; try omega, lkc⟩
      ·
        refine xl_gs rfl EvO.eq ?_
        refine xl_gs rfl EvO.eq ?_
        refine xl_gs rfl EvO.eq ?_
        refine xl_gs rfl EvO.eq ?_
        refine xl_gs rfl EvO.eq ?_
        refine xl_v (by first | exact v_pickT | exact v_pickF | exact v_pick) ?_
        refine xl_v v_move ?_
        refine xl_gs rfl EvO.eq ?_
        refine xl_gs rfl EvO.eq ?_
        refine xl_gs rfl EvO.eq ?_
        refine xl_v (by first | exact v_pickT | exact v_pickF | exact v_pick) ?_
        refine xl_v v_move ?_
        refine xl_gs rfl EvO.eq ?_
        refine xl_gs rfl EvO.eq ?_
        refine xl_gs rfl EvO.eq ?_
        refine xl_v (by first | exact v_pickT | exact v_pickF | exact v_pick) ?_
        refine xl_v v_assign ?_
        refine xl_nil ?_
        refine x_ret ?_
        refine fin1 rfl ?_
        exact ⟨by simp_all [mayB]; try omega, lkc⟩
    ·
      refine xl_gs rfl EvO.eq ?_
      refine xl_gs rfl EvO.eq ?_
      refine xl_gs rfl EvO.eq ?_
      refine xl_v (by first | exact v_pickT | exact v_pickF | exact v_pick) ?_
      refine xl_v v_move ?_
      refine xl_gs rfl EvO.eq ?_
      refine xl_gs rfl EvO.eq ?_
      refine xl_gs rfl EvO.eq ?_
      refine xl_gs rfl EvO.eq ?_
      refine xl_gs rfl EvO.eq ?_
      refine xl_v (by first | exact v_pickT | exact v_pickF | exact v_pick) ?_
      refine xl_v v_move ?_
      refine xl_gs rfl EvO.eq ?_
      refine xl_gs rfl EvO.eq ?_
      refine xl_gs rfl EvO.eq ?_
      refine xl_v (by first | exact v_pickT | exact v_pickF | exact v_pick) ?_
      refine xl_v v_move ?_
      refine xl_gs rfl EvO.eq ?_
      refine xl_gs rfl EvO.eq ?_
      refine xl_gs rfl EvO.eq ?_
      refine xl_v (by first | exact v_pickT | exact v_pickF | exact v_pick) ?_
      refine xl_v v_assign ?_
      refine xl_nil ?_
      refine x_ret ?_
      refine fin1 rfl ?_
      exact ⟨by simp_all [mayB]; try omega, lkc⟩
  ·
    refine xl_gs rfl EvO.eq ?_
    refine xl_gs rfl EvO.eq ?_
    refine xl_gs rfl EvO.eq ?_
    refine xl_v (by first | exact v_pickT | exact v_pickF | exact v_pick) ?_
    refine xl_v v_move ?_
    refine xl_gs rfl EvO.eq ?_
    refine xl_gs rfl EvO.eq ?_
    refine xl_gs rfl EvO.eq ?_
    refine xl_v (by first | exact v_pickT | exact v_pickF | exact v_pick) ?_
    refine xl_v v_move ?_
    refine xl_gs rfl EvO.eq ?_
    refine xl_gs rfl EvO.eq ?_
    refine xl_gs rfl EvO.eq ?_
    refine xl_gs rfl EvO.eq ?_
    refine xl_gs rfl EvO.eq ?_
    refine xl_v (by first | exact v_pickT | exact v_pickF | exact v_pick) ?_
    refine xl_v v_move ?_
    refine xl_gs rfl EvO.eq ?_
    refine xl_gs rfl EvO.eq ?_
    refine xl_gs rfl EvO.eq ?_
    refine xl_v (by first | exact v_pickT | exact v_pickF | exact v_pick) ?_
    refine xl_v v_move ?_
    refine xl_gs rfl EvO.eq ?_
    refine xl_gs rfl EvO.eq ?_
    refine xl_gs rfl EvO.eq ?_
    refine xl_v (by first | exact v_pickT | exact v_pickF | exact v_pick) ?_
    refine xl_v v_assign ?_
    refine xl_nil ?_
    refine x_ret ?_
    refine fin1 rfl ?_
    exact ⟨by simp_all [mayB]; try omega, lkc⟩

/-- waystation/waystationref14.Make -/
theorem make14_ok (r : Rule) (v : Int) (hm : mayB r = true) (hb : valB v = true) (w : World) : Ret Try.prog 17 #[.agg (ruleC r).toArray, .int .i64 v] w (fun x w' => x = .int .i64 (make r v) ∧ Lk w' w NoB) := by
  have h1 := mul_bd hm hb
  have h2 := may_add hm
  have h3 : make r v = max (-2147483648) (min 2147483647 (v * r.mul + r.add)) := by simp [make, hm, hb, mk]
  refine ret_of_x (N := 18) (l := [.agg (ruleC r).toArray, .int .i64 v]) Try.func17 rfl rfl (Nat.le_of_ble_eq_true rfl) ?_
  refine x_seq ?_
  refine x_regionL ?_
  refine xl_e (e_box fun b1 w1 n1 l1 k1 => ?_)
  refine xl_v v_assign ?_
  refine xl_nil ?_
  refine x_seq ?_
  refine x_regionL ?_
  refine xl_v v_move ?_
  refine xl_v (by first | exact v_fieldAddr | exact v_fieldAddrF (by decide) (by omega) | exact v_fieldAddrR (by first | assumption | rfl)) ?_
  refine xl_v (by first | exact v_load | exact v_loadO (by omega) | exact v_loadFf (by omega) | exact v_loadF0 (by omega)) ?_
  refine xl_v (v_mul (by omega)) ?_
  refine xl_v (by first | exact v_fieldAddr | exact v_fieldAddrF (by decide) (by omega) | exact v_fieldAddrR (by first | assumption | rfl)) ?_
  refine xl_v (by first | exact v_load | exact v_loadO (by omega) | exact v_loadFf (by omega) | exact v_loadF0 (by omega)) ?_
  refine xl_v (v_add (by omega)) ?_
  refine xl_v v_assign ?_
  refine xl_nil ?_
  refine x_seq ?_
  refine x_seq ?_
  refine x_regionL ?_
  refine xl_v v_move ?_
  refine xl_v v_gtr ?_
  refine xl_nil ?_
  first | refine x_condP (fun c1 => ?_) (fun c1 => ?_) | refine x_condN (fun c1 => ?_) (fun c1 => ?_) | refine x_condE (fun c1 => ?_) (fun c1 => ?_)
  ·
    refine x_seq ?_
    refine x_regionL ?_
    refine xl_v v_assign ?_
    refine xl_nil ?_
    refine x_ret ?_
    refine fin1 rfl ?_
    exact ⟨by rw [h3]; congr 1; omega, lkc⟩
  ·
    refine x_skip ?_
    refine x_seq ?_
    refine x_seq ?_
    refine x_regionL ?_
    refine xl_v v_move ?_
    refine xl_v v_lss ?_
    refine xl_nil ?_
    first | refine x_condP (fun c2 => ?_) (fun c2 => ?_) | refine x_condN (fun c2 => ?_) (fun c2 => ?_) | refine x_condE (fun c2 => ?_) (fun c2 => ?_)
    ·
      refine x_seq ?_
      refine x_regionL ?_
      refine xl_v v_assign ?_
      refine xl_nil ?_
      refine x_ret ?_
      refine fin1 rfl ?_
      exact ⟨by rw [h3]; congr 1; omega, lkc⟩
    ·
      refine x_skip ?_
      refine x_seq ?_
      refine x_regionL ?_
      refine xl_v v_move ?_
      refine xl_v v_assign ?_
      refine xl_nil ?_
      refine x_ret ?_
      refine fin1 rfl ?_
      exact ⟨by rw [h3]; congr 1; omega, lkc⟩

/-- waystation/waystationref14.SameValues -/
theorem sameV_ok (A : Option Addr) (n c : Nat) (xs : List Int) (B : Option Addr) (n' c' : Nat) (ys : List Int) (w : World) [Row w A (ints xs)] [Row w B (ints ys)] (hl : xs.length = n) (hl' : ys.length = n') (hn : n ≤ 1000000000) : Ret Try.prog 18 #[.slice A n c, .slice B n' c'] w (fun v w' => v = .bool (decide (xs = ys)) ∧ Lk w' w NoB) := by
  refine ret_of_x (N := 26) (l := [.slice A n c, .slice B n' c']) Try.func18 rfl rfl (Nat.le_of_ble_eq_true rfl) ?_
  refine x_seq ?_
  refine x_regionL ?_
  refine xl_v v_assign ?_
  refine xl_nil ?_
  refine x_seq ?_
  refine x_seq ?_
  refine x_regionL ?_
  refine xl_v v_move ?_
  refine xl_v v_len ?_
  refine xl_v v_move ?_
  refine xl_v v_len ?_
  refine xl_v v_neq ?_
  refine xl_nil ?_
  first | refine x_condP (fun c1 => ?_) (fun c1 => ?_) | refine x_condN (fun c1 => ?_) (fun c1 => ?_) | refine x_condE (fun c1 => ?_) (fun c1 => ?_)
  ·
    refine x_seq ?_
    refine x_regionL ?_
    refine xl_v v_assign ?_
    refine xl_nil ?_
    refine x_ret ?_
    refine fin1 rfl ?_
    exact ⟨by rw [decide_eq_false]; intro e; subst e; omega, lkc⟩
  ·
    have hnn : n = n' := by omega
    refine x_skip ?_
    refine x_seq ?_
    refine x_seq ?_
    refine x_regionL ?_
    refine xl_v v_assign ?_
    refine xl_nil ?_
    refine x_block ?_
    refine x_loop (fun m τ ds w' => ds = [] ∧ ∃ k : Nat, m = n - k ∧ k ≤ n ∧ xs.take k = ys.take k ∧ Ev τ 0 (.slice A n c) ∧ Ev τ 1 (.slice B n' c') ∧ Ev τ 5 (.int .i64 (k : Int)) ∧ Lk w' w NoB) (n) ?start ?round
    case start =>
      exact ⟨rfl, 0, rfl, Nat.zero_le _, by simp, inferInstance, inferInstance, evc, lkc⟩
    case round =>
      intro m τ1 ds1 w1 hI
      obtain ⟨rfl, k, rfl, hk, heq, e0, e1, e5, lk⟩ := hI
      refine x_seq ?_
      refine x_seq ?_
      refine x_regionL ?_
      refine xl_v v_move ?_
      refine xl_v v_move ?_
      refine xl_v v_len ?_
      refine xl_v v_lss ?_
      refine xl_nil ?_
      first | refine x_condP (fun c2 => ?_) (fun c2 => ?_) | refine x_condN (fun c2 => ?_) (fun c2 => ?_) | refine x_condE (fun c2 => ?_) (fun c2 => ?_)
      ·
        have hk1 : k < xs.length := by omega
        have hk2 : k < ys.length := by omega
        have hA := row_some (w := w) (A := A) (cs := ints xs) inferInstance (by simp [ints]; omega)
        have hB := row_some (w := w) (A := B) (cs := ints ys) inferInstance (by simp [ints]; omega)
        refine x_skip ?_
        refine x_seq ?_
        refine x_block ?_
        refine x_seq ?_
        refine x_drawL (NoB) (allS) (.take 0 (.take 1 (.take 2 (.take 3 (.take 4 (.take 5 (.take 6 (.take 7 (.take 8 .done))))))))) mixed (by kernel_rfl) (fun _ _ _ _ _ h => h) (fun w2 l2 => ?_)
        refine xt_v rfl v_move ?_
        refine xt_v rfl v_move ?_
        refine xt_v rfl (v_indexAddr k rfl (by omega) hA) ?_
        refine xt_v rfl (v_loadR (by simpa using ints_get hk1)) ?_
        refine xt_v rfl v_move ?_
        refine xt_v rfl v_move ?_
        refine xt_v rfl (v_indexAddr k rfl (by omega) hB) ?_
        refine xt_v rfl (v_loadR (by simpa using ints_get hk2)) ?_
        refine xt_v rfl v_neq ?_
        refine xt_nil ?_
        refine x_condN (fun c3 => ?_) (fun c3 => ?_)
        ·
          refine x_seq ?_
          refine x_regionL ?_
          refine xl_v v_assign ?_
          refine xl_nil ?_
          refine x_ret ?_
          refine fin1 rfl ?_
          refine ⟨?_, lkc⟩
          rw [decide_eq_false]
          intro e
          subst e
          exact c3 rfl
        ·
          refine x_skip ?_
          refine x_regionL ?_
          refine xl_v v_move ?_
          refine xl_v (v_add (by omega)) ?_
          refine xl_v v_assign ?_
          refine xl_nil ?_
          refine ⟨_, ?_, rfl, k + 1, rfl, by omega, ?_, inferInstance, inferInstance, evc, lkc⟩
          · omega
          · rw [take_snoc _ _ hk1, take_snoc _ _ hk2, heq, c3]
      ·
        refine x_exit ?_
        refine x_seq ?_
        refine x_regionL ?_
        refine xl_v v_assign ?_
        refine xl_nil ?_
        refine x_ret ?_
        refine fin1 rfl ?_
        refine ⟨?_, lkc⟩
        rw [decide_eq_true]
        rw [List.take_of_length_le (by omega), List.take_of_length_le (by omega)] at heq
        exact heq
end Go.Proofs.Ytbihphclmdokeaa
