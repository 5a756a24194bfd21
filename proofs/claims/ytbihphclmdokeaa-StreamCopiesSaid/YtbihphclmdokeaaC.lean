/-
  Walks, printed by a program of this workplace (wip/tools/sx.py) off the functions' code and a text of contracts.
-/
import Derived.Test.YtbihphclmdokeaaB
set_option linter.all false
set_option maxRecDepth 100000
set_option synthInstance.maxSize 100000
set_option synthInstance.maxHeartbeats 400000
namespace Go.Proofs.Ytbihphclmdokeaa
open Go.Wst
open Go.Wst.Sm

/-- slices.ContainsFunc[[]int64,int64] -/
theorem contains_ok (A : Option Addr) (n c : Nat) (xs : List Int) (f : FuncId) (cl : List Value) (p : Int → Bool) (w : World) [Fun Try.prog f] [Row w A (ints xs)] (hl : xs.length = n) (hn : n ≤ 1000000000) (hp : ∀ x ∈ xs, ∀ W, Lk W w NoB → Ret Try.prog f ((.int .i64 x :: cl) : List Value).toArray W (fun v w' => v = .bool (p x) ∧ Lk w' W NoB)) : Ret Try.prog 40 #[.slice A n c, .func (.func f) ([] : List Value).toArray cl.toArray] w (fun v w' => v = .bool (xs.any p) ∧ Lk w' w NoB) := by
  refine ret_of_x (N := 9) (l := [.slice A n c, .func (.func f) ([] : List Value).toArray cl.toArray]) Try.func40 rfl rfl (Nat.le_of_ble_eq_true rfl) ?_
  refine x_seq ?_
  refine x_regionL ?_
  refine xl_v v_assign ?_
  refine xl_nil ?_
  refine x_seq ?_
  refine x_regionL ?_
  refine xl_v v_move ?_
  refine xl_v v_move ?_
  refine xl_call (index_ok A n c xs f cl p _ hl hn hp) ?_
  rintro _ w1 ⟨rfl, lk⟩
  refine xl_v v_geq ?_
  refine xl_v v_assign ?_
  refine xl_nil ?_
  refine x_ret ?_
  refine fin1 rfl ?_
  exact ⟨by rw [← idx_any], lkc⟩

/-- waystation/stream.each[int64,int64] -/
theorem eachii_ok (A : Option Addr) (n c : Nat) (xs : List Int) (f : FuncId) (cl : List Value) (g : Nat → Int → Int) (w : World) [Fun Try.prog f] [Row w A (ints xs)] (hl : xs.length = n) (hn : n ≤ 1000000000) (hp : ∀ i (h : i < xs.length), ∀ W, Lk W w NoB → Ret Try.prog f ((.int .i64 (i : Int) :: .int .i64 xs[i] :: cl) : List Value).toArray W (fun v w' => v = .int .i64 (g i xs[i]) ∧ Lk w' W NoB)) : Ret Try.prog 43 #[.slice A n c, .func (.func f) ([] : List Value).toArray cl.toArray] w (fun v w' => (∃ A' c', v = .slice A' n c' ∧ w'.ownsRow w.heap.size 2 1 v n (ints (xs.mapIdx g))) ∧ Lk w' w NoB) := by
  refine ret_of_x (N := 24) (l := [.slice A n c, .func (.func f) ([] : List Value).toArray cl.toArray]) Try.func43 rfl rfl (Nat.le_of_ble_eq_true rfl) ?_
  refine x_seq ?_
  refine x_regionL ?_
  refine xl_v v_assign ?_
  refine xl_nil ?_
  refine x_seq ?_
  refine x_regionL ?_
  refine xl_v v_assign ?_
  refine xl_nil ?_
  refine x_seq ?_
  refine x_seq ?_
  refine x_regionL ?_
  refine xl_v v_move ?_
  refine xl_v v_len ?_
  refine xl_v v_move ?_
  refine xl_nil ?_
  refine x_block ?_
  refine x_loop (fun m τ ds w' => ds = [] ∧ ∃ k : Nat, ∃ V : Value, m = n - k ∧ k ≤ n ∧ w'.ownsRow w.heap.size 2 1 V k (ints ((xs.mapIdx g).take k)) ∧ Ev τ 1 (.func (.func f) ([] : List Value).toArray cl.toArray) ∧ Ev τ 5 V ∧ Ev τ 8 (.slice A n c) ∧ Ev τ 9 (.int .i64 (n : Int)) ∧ Ev τ 10 (.int .i64 (k : Int)) ∧ Lk w' w NoB) (n) ?start ?round
  case start =>
    exact ⟨rfl, 0, _, rfl, Nat.zero_le _, World.ownsRow_nil _ _ _ _, inferInstance, inferInstance, inferInstance, inferInstance, evc, lkc⟩
  case round =>
    intro m τ1 ds1 w1 hI
    obtain ⟨rfl, k, V, rfl, hk, hown, e1, e5, e8, e9, e10, lk⟩ := hI
    refine x_seq ?_
    refine x_regionL ?_
    refine xl_v v_lss ?_
    refine xl_nil ?_
    refine x_seq ?_
    first | refine x_condP (fun c1 => ?_) (fun c1 => ?_) | refine x_condN (fun c1 => ?_) (fun c1 => ?_) | refine x_condE (fun c1 => ?_) (fun c1 => ?_)
    ·
      have hk1 : k < xs.length := by omega
      have hA := row_some (w := w) (A := A) (cs := ints xs) inferInstance (by simp [ints]; omega)
      refine x_skip ?_
      refine x_seq ?_
      refine x_block ?_
      refine x_seq ?_
      refine x_regionL ?_
      refine xl_v v_move ?_
      refine xl_v (v_indexAddr k rfl (by omega) hA) ?_
      refine xl_v (v_loadR (by simpa using ints_get hk1)) ?_
      refine xl_v v_assign ?_
      refine xl_v v_assign ?_
      refine xl_nil ?_
      refine x_regionL ?_
      refine xl_v v_move ?_
      refine xl_v v_move ?_
      refine xl_v v_move ?_
      refine xl_v v_move ?_
      refine xl_call (hp k hk1 w1 lkc) ?_
      rintro _ w2 ⟨rfl, lk2⟩
      refine xl_e (e_buildSlice1 rfl fun b5 w3 n5 l5 k5 => ?_)
      haveI := ownN_of hown (Nat.le_refl _)
      refine xl_e (e_append' (own_ext hown lkc) Ge.le rfl Cell1L.eq (by decide) (.inl rfl) (by omega) (by omega) fun A6 c6 w4 hown2 l6 _ => ?_)
      have hown2 : World.ownsRow w4 w.heap.size 2 1 (.slice A6 (k + 1) c6) (k + 1) (ints ((xs.mapIdx g).take (k + 1))) := by
        rw [take_snoc _ k (by simpa using hk1), ints_append]
        simpa [ints] using hown2
      refine xl_v v_assign ?_
      refine xl_nil ?_
      refine x_regionL ?_
      refine xl_v (v_add (by omega)) ?_
      refine xl_v v_move ?_
      refine xl_nil ?_
      refine ⟨_, ?_, rfl, k + 1, _, rfl, by omega, hown2, inferInstance, inferInstance, inferInstance, inferInstance, evc, lkc⟩
      omega
    ·
      refine x_exit ?_
      refine x_seq ?_
      refine x_regionL ?_
      refine xl_v v_move ?_
      refine xl_v v_assign ?_
      refine xl_nil ?_
      refine x_ret ?_
      refine fin1 rfl ?_
      have hkn : k = n := by omega
      subst hkn
      rw [List.take_of_length_le (by simp; omega)] at hown
      obtain ⟨A', c', rfl, _⟩ := ownsRow_form hown
      exact ⟨⟨A', c', rfl, hown⟩, lkc⟩

/-- waystation/stream.Fold -/
theorem fold_ok (r : Rule) (A : Option Addr) (n c : Nat) (xs : List Int) (w : World) [Row w A (ints xs)] (hl : xs.length = n) (hn : n ≤ 1000000000) (hv : ∀ x ∈ xs, In64 x) : Ret Try.prog 14 #[.agg (ruleC r).toArray, .slice A n c] w (fun v w' => (if mayB r = true ∧ xs.all valB = true then ∃ A' c', v = .tuple #[.slice A' n c', .int .i64 0] ∧ w'.ownsRow w.heap.size 2 1 (.slice A' n c') n (ints (xs.map (make r))) else v = .tuple #[.slice none 0 0, .int .i64 2]) ∧ Lk w' w NoB) := by
  refine ret_of_x (N := 16) (l := [.agg (ruleC r).toArray, .slice A n c]) Try.func14 rfl rfl (Nat.le_of_ble_eq_true rfl) ?_
  refine x_seq ?_
  refine x_regionL ?_
  refine xl_e (e_box fun b1 w1 n1 l1 k1 => ?_)
  refine xl_v v_assign ?_
  refine xl_v v_assign ?_
  refine xl_nil ?_
  refine x_seq ?_
  refine x_seq ?_
  refine x_regionL ?_
  refine xl_v (by first | exact v_loadA | exact v_loadF (by decide) (by omega)) ?_
  refine xl_call (right_ok _ _) ?_
  rintro _ w2 ⟨rfl, lk⟩
  refine xl_v v_not ?_
  refine xl_v v_move ?_
  refine xl_split 9 (fun g9 => ?_) (fun g9 => ?_)
  ·
    refine xl_gs rfl EvO.eq ?_
    refine xl_gs rfl EvO.eq ?_
    refine xl_v (by first | exact v_pickT | exact v_pickF | exact v_pick) ?_
    refine xl_nil ?_
    refine x_condT ?_
    refine x_seq ?_
    refine x_regionL ?_
    refine xl_v v_assign ?_
    refine xl_v v_assign ?_
    refine xl_nil ?_
    refine x_ret ?_
    refine fin2 rfl ?_
    refine ⟨?_, lkc⟩
    rw [if_neg ?_]
    rintro ⟨h1, h2⟩
    simp only [h1, List.any_eq_true, List.all_eq_true, Bool.not_eq_true'] at *
    first
      | (obtain ⟨x, hx, hxv⟩ := c1; simp [h2 x hx] at hxv)
      | simp_all
  ·
    refine xl_gv rfl EvO.eq v_move ?_
    refine xl_gcall rfl EvO.eq (contains_ok A n c xs _ [] (fun v => !valB v) _ hl hn (fun x _ W _ => Ret.mono (fold1_ok x W) fun v w' ⟨h1, h2⟩ => ⟨h1, h2 ▸ ⟨Keep.refl _ _⟩⟩)) ?_
    rintro _ w3 ⟨rfl, lk⟩
    refine xl_v (by first | exact v_pickT | exact v_pickF | exact v_pick) ?_
    refine xl_nil ?_
    refine x_condE (fun c1 => ?_) (fun c1 => ?_)
    ·
      refine x_seq ?_
      refine x_regionL ?_
      refine xl_v v_assign ?_
      refine xl_v v_assign ?_
      refine xl_nil ?_
      refine x_ret ?_
      refine fin2 rfl ?_
      refine ⟨?_, lkc⟩
      rw [if_neg ?_]
      rintro ⟨h1, h2⟩
      simp only [h1, List.any_eq_true, List.all_eq_true, Bool.not_eq_true'] at *
      first
        | (obtain ⟨x, hx, hxv⟩ := c1; simp [h2 x hx] at hxv)
        | simp_all
    ·
      refine x_skip ?_
      refine x_seq ?_
      refine x_regionL ?_
      refine xl_v v_move ?_
      refine xl_v v_makeFunc ?_
      refine xl_call (eachii_ok A n c xs _ [_] (fun _ v => make r v) _ hl hn (fun i hi W l => fold2_ok i xs[i] (hv _ (List.getElem_mem hi)) r _ W)) ?_
      rintro _ w4 ⟨⟨A2, c2, rfl, ho⟩, lk⟩
      refine xl_v v_assign ?_
      refine xl_v v_assign ?_
      refine xl_nil ?_
      refine x_ret ?_
      refine fin2 rfl ?_
      refine ⟨?_, lkc⟩
      rw [if_pos ?_]
      · refine ⟨_, _, rfl, ?_⟩
        rw [← mapIdx_const]
        exact own_mono ho Ge.le
      · constructor
        · simp_all
        · simp_all
end Go.Proofs.Ytbihphclmdokeaa
