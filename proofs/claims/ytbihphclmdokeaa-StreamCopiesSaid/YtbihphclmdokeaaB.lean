/-
  Walks, printed by a program of this workplace (wip/tools/sx.py) off the functions' code and a text of contracts.
-/
import Derived.Test.YtbihphclmdokeaaA
set_option linter.all false
set_option maxRecDepth 100000
set_option synthInstance.maxSize 100000
set_option synthInstance.maxHeartbeats 400000
namespace Go.Proofs.Ytbihphclmdokeaa
open Go.Wst
open Go.Wst.Sm

/-- waystation/client.Make -/
theorem cmake_ok (r : Rule) (v : Int) (hv : In64 v) (w : World) : Ret Try.prog 45 #[.agg (ruleC r).toArray, .int .i64 v] w (fun x w' => x = .int .i64 (make r v) ∧ Lk w' w NoB) := by
  refine ret_of_x (N := 25) (l := [.agg (ruleC r).toArray, .int .i64 v]) Try.func45 rfl rfl (Nat.le_of_ble_eq_true rfl) ?_
  refine x_seq ?_
  refine x_regionL ?_
  refine xl_e (e_box fun b1 w1 n1 l1 k1 => ?_)
  refine xl_v v_assign ?_
  refine xl_nil ?_
  refine x_seq ?_
  refine x_seq ?_
  refine x_regionL ?_
  refine xl_v (by first | exact v_loadA | exact v_loadF (by decide) (by omega)) ?_
  refine xl_call (may_ok _ _) ?_
  rintro _ w2 ⟨rfl, lk⟩
  refine xl_v v_not ?_
  refine xl_v v_move ?_
  refine xl_split 8 (fun g8 => ?_) (fun g8 => ?_)
  ·
    refine xl_gs rfl EvO.eq ?_
    refine xl_gs rfl EvO.eq ?_
    refine xl_v (by first | exact v_pickT | exact v_pickF | exact v_pick) ?_
    refine xl_v v_move ?_
    refine xl_gs rfl EvO.eq ?_
    refine xl_gs rfl EvO.eq ?_
    refine xl_v (by first | exact v_pickT | exact v_pickF | exact v_pick) ?_
    refine xl_nil ?_
    refine x_condT ?_
    refine x_seq ?_
    refine x_regionL ?_
    refine xl_v v_assign ?_
    refine xl_nil ?_
    refine x_ret ?_
    refine fin1 rfl ?_
    refine ⟨?_, lkc⟩
    have : ¬ (mayB r = true ∧ valB v = true) := by
      intro h
      obtain ⟨h1, h2⟩ := h
      simp [h1, valB] at *
      try omega
    simp [make, this]
  ·
    refine xl_gv rfl EvO.eq v_move ?_
    refine xl_gv rfl EvO.eq v_lss ?_
    refine xl_v (by first | exact v_pickT | exact v_pickF | exact v_pick) ?_
    refine xl_v v_move ?_
    refine xl_split 12 (fun g12 => ?_) (fun g12 => ?_)
    ·
      refine xl_gs rfl EvO.eq ?_
      refine xl_gs rfl EvO.eq ?_
      refine xl_v (by first | exact v_pickT | exact v_pickF | exact v_pick) ?_
      refine xl_nil ?_
      refine x_condT ?_
      refine x_seq ?_
      refine x_regionL ?_
      refine xl_v v_assign ?_
      refine xl_nil ?_
      refine x_ret ?_
      refine fin1 rfl ?_
      refine ⟨?_, lkc⟩
      have : ¬ (mayB r = true ∧ valB v = true) := by
        intro h
        obtain ⟨h1, h2⟩ := h
        simp [h1, valB] at *
        try omega
      simp [make, this]
    ·
      refine xl_gv rfl EvO.eq v_move ?_
      refine xl_gv rfl EvO.eq v_gtr ?_
      refine xl_v (by first | exact v_pickT | exact v_pickF | exact v_pick) ?_
      refine xl_nil ?_
      first | refine x_condP (fun c1 => ?_) (fun c1 => ?_) | refine x_condN (fun c1 => ?_) (fun c1 => ?_) | refine x_condE (fun c1 => ?_) (fun c1 => ?_)
      ·
        refine x_seq ?_
        refine x_regionL ?_
        refine xl_v v_assign ?_
        refine xl_nil ?_
        refine x_ret ?_
        refine fin1 rfl ?_
        refine ⟨?_, lkc⟩
        have : ¬ (mayB r = true ∧ valB v = true) := by
          intro h
          obtain ⟨h1, h2⟩ := h
          simp [h1, valB] at *
          try omega
        simp [make, this]
      ·
        have hm : mayB r = true := by simpa using g8
        have hb : valB v = true := by simp [valB] at g12 c1 ⊢; omega
        have h1 := mul_bd hm hb
        have h2 := may_add hm
        refine x_skip ?_
        refine x_seq ?_
        refine x_regionL ?_
        refine xl_v v_move ?_
        refine xl_v (by first | exact v_fieldAddr | exact v_fieldAddrF (by decide) (by omega) | exact v_fieldAddrR (by first | assumption | rfl)) ?_
        refine xl_v (by first | exact v_load | exact v_loadO (by omega) | exact v_loadFf (by omega) | exact v_loadF0 (by omega)) ?_
        refine xl_v (v_mul (by omega)) ?_
        refine xl_v (by first | exact v_fieldAddr | exact v_fieldAddrF (by decide) (by omega) | exact v_fieldAddrR (by first | assumption | rfl)) ?_
        refine xl_v (by first | exact v_load | exact v_loadO (by omega) | exact v_loadFf (by omega) | exact v_loadF0 (by omega)) ?_
        refine xl_v (v_add (by omega)) ?_
        refine xl_v v_min ?_
        refine xl_v v_max ?_
        refine xl_v v_assign ?_
        refine xl_nil ?_
        refine x_ret ?_
        refine fin1 rfl ?_
        refine ⟨?_, lkc⟩
        simp [make, hm, hb, mk]

/-- waystation/stream.Fold$1 -/
theorem fold1_ok (v : Int) (w : World) : Ret Try.prog 41 #[.int .i64 v] w (fun x w' => x = .bool (!valB v) ∧ w = w') := by
  refine ret_of_x (N := 6) (l := [.int .i64 v]) Try.func41 rfl rfl (Nat.le_of_ble_eq_true rfl) ?_
  refine x_seq ?_
  refine x_regionL ?_
  refine xl_v v_assign ?_
  refine xl_nil ?_
  refine x_seq ?_
  refine x_regionL ?_
  refine xl_v v_move ?_
  refine xl_call (value_ok _ _) ?_
  rintro _ _ ⟨rfl, rfl⟩
  refine xl_v v_not ?_
  refine xl_v v_assign ?_
  refine xl_nil ?_
  refine x_ret ?_
  refine fin1 rfl ?_
  exact ⟨rfl, rfl⟩

/-- waystation/stream.Fold$2 -/
theorem fold2_ok (i : Int) (v : Int) (hv : In64 v) (r : Rule) (b : Nat) (w : World) [Blk w b (.cells (ruleC r).toArray 23 (0, 0))] : Ret Try.prog 44 #[.int .i64 i, .int .i64 v, .pointer (some ⟨b, 0, none⟩)] w (fun x w' => x = .int .i64 (make r v) ∧ Lk w' w NoB) := by
  refine ret_of_x (N := 9) (l := [.int .i64 i, .int .i64 v, .pointer (some ⟨b, 0, none⟩)]) Try.func44 rfl rfl (Nat.le_of_ble_eq_true rfl) ?_
  refine x_seq ?_
  refine x_regionL ?_
  refine xl_v v_assign ?_
  refine xl_nil ?_
  refine x_seq ?_
  refine x_regionL ?_
  refine xl_v (by first | exact v_loadA | exact v_loadF (by decide) (by omega)) ?_
  refine xl_v v_move ?_
  refine xl_call (cmake_ok _ _ (by first | assumption | omega) _) ?_
  rintro _ w1 ⟨rfl, lk⟩
  refine xl_v v_assign ?_
  refine xl_nil ?_
  refine x_ret ?_
  refine fin1 rfl ?_
  exact ⟨rfl, lkc⟩

/-- slices.IndexFunc[[]int64,int64] -/
theorem index_ok (A : Option Addr) (n c : Nat) (xs : List Int) (f : FuncId) (cl : List Value) (p : Int → Bool) (w : World) [Fun Try.prog f] [Row w A (ints xs)] (hl : xs.length = n) (hn : n ≤ 1000000000) (hp : ∀ x ∈ xs, ∀ W, Lk W w NoB → Ret Try.prog f ((.int .i64 x :: cl) : List Value).toArray W (fun v w' => v = .bool (p x) ∧ Lk w' W NoB)) : Ret Try.prog 71 #[.slice A n c, .func (.func f) ([] : List Value).toArray cl.toArray] w (fun v w' => v = .int .i64 (idx p xs) ∧ Lk w' w NoB) := by
  refine ret_of_x (N := 19) (l := [.slice A n c, .func (.func f) ([] : List Value).toArray cl.toArray]) Try.func71 rfl rfl (Nat.le_of_ble_eq_true rfl) ?_
  refine x_seq ?_
  refine x_regionL ?_
  refine xl_v v_assign ?_
  refine xl_nil ?_
  refine x_seq ?_
  refine x_seq ?_
  refine x_regionL ?_
  refine xl_v v_move ?_
  refine xl_v v_len ?_
  refine xl_v v_move ?_
  refine xl_nil ?_
  refine x_block ?_
  refine x_loop (fun m τ ds w' => ds = [] ∧ ∃ k : Nat, m = n - k ∧ k ≤ n ∧ (∀ j (h : j < xs.length), j < k → p xs[j] = false) ∧ Ev τ 0 (.slice A n c) ∧ Ev τ 1 (.func (.func f) ([] : List Value).toArray cl.toArray) ∧ Ev τ 7 (.int .i64 (n : Int)) ∧ Ev τ 8 (.int .i64 (k : Int)) ∧ Lk w' w NoB) (n) ?start ?round
  case start =>
    exact ⟨rfl, 0, rfl, Nat.zero_le _, fun _ _ h => absurd h (Nat.not_lt_zero _), inferInstance, inferInstance, inferInstance, evc, lkc⟩
  case round =>
    intro m τ1 ds1 w1 hI
    obtain ⟨rfl, k, rfl, hk, hno, e0, e1, e7, e8, lk⟩ := hI
    refine x_seq ?_
    refine x_regionL ?_
    refine xl_v v_lss ?_
    refine xl_nil ?_
    refine x_seq ?_
    first | refine x_condP (fun c1 => ?_) (fun c1 => ?_) | refine x_condN (fun c1 => ?_) (fun c1 => ?_) | refine x_condE (fun c1 => ?_) (fun c1 => ?_)
    ·
      have hk1 : k < xs.length := by omega
      have hA := row_some (w := w) (A := A) (cs := ints xs) inferInstance (by simp [ints]; omega)
      refine x_skip ?_
      refine x_seq ?_
      refine x_block ?_
      refine x_seq ?_
      refine x_regionL ?_
      refine xl_v v_move ?_
      refine xl_v v_assign ?_
      refine xl_nil ?_
      refine x_seq ?_
      refine x_regionL ?_
      refine xl_v v_move ?_
      refine xl_v v_move ?_
      refine xl_v v_move ?_
      refine xl_v (v_indexAddr k rfl (by omega) hA) ?_
      refine xl_v (v_loadR (by simpa using ints_get hk1)) ?_
      refine xl_call (hp xs[k] (List.getElem_mem hk1) w1 lkc) ?_
      rintro _ w2 ⟨rfl, lk2⟩
      refine xl_nil ?_
      refine x_condE (fun c2 => ?_) (fun c2 => ?_)
      ·
        refine x_seq ?_
        refine x_regionL ?_
        refine xl_v v_move ?_
        refine xl_v v_assign ?_
        refine xl_nil ?_
        refine x_ret ?_
        refine fin1 rfl ?_
        exact ⟨by rw [idx_found hk1 hno c2], lkc⟩
      ·
        refine x_skip ?_
        refine x_regionL ?_
        refine xl_v (v_add (by omega)) ?_
        refine xl_v v_move ?_
        refine xl_nil ?_
        refine ⟨_, ?_, rfl, k + 1, rfl, by omega, ?_, inferInstance, inferInstance, inferInstance, evc, lkc⟩
        · omega
        · intro j hj hjk
          by_cases h : j = k
          · subst h; exact c2
          · exact hno j hj (by omega)
    ·
      refine x_exit ?_
      refine x_seq ?_
      refine x_regionL ?_
      refine xl_v v_assign ?_
      refine xl_nil ?_
      refine x_ret ?_
      refine fin1 rfl ?_
      exact ⟨by rw [idx_none fun j hj => hno j hj (by omega)], lkc⟩
end Go.Proofs.Ytbihphclmdokeaa
