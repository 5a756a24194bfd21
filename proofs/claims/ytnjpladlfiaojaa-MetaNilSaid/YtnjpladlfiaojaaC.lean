/-
 Walks, printed by a program of this workplace (wip/tools/sx.py) off the functions' code and a text of contracts.
-/
import Derived.Test.YtnjpladlfiaojaaB
import Derived.Test.YtnjpladlfiaojaaSh
import Derived.Sort.OwnSortedInts
set_option linter.all false
set_option maxRecDepth 100000
set_option synthInstance.maxSize 100000
set_option synthInstance.maxHeartbeats 400000
namespace Go.Proofs.Ytnjpladlfiaojaa
open Go.Wst
open Go.Wst.Ct

/-- slices.IndexFunc[[]*int64,*int64] -/
theorem idxP_ok (A : Option Addr) (n c : Nat) (cs : List Value) (f : FuncId) (fa fc : List Value) (p : Nat → Bool) (w : World) [Row w A cs] (hl : cs.length = n) (hn : n ≤ 1000000000) (hp : ∀ k (h : k < cs.length), (∀ j, j < k → p j = false) → ∀ W, Lk W w NoB → CallV Try.prog (.func (.func f) fa.toArray fc.toArray) [cs[k]] W (fun v w' => v = .bool (p k) ∧ Lk w' W NoB)) : Ret Try.prog 92 #[.slice A n c, .func (.func f) fa.toArray fc.toArray] w (fun v w' => (∃ i : Int, v = .int .i64 i ∧ decide (0 ≤ i) = (List.range n).any p) ∧ Lk w' w NoB) := by
 refine ret_of_x (N := 19) (l := [.slice A n c, .func (.func f) fa.toArray fc.toArray]) Try.func92 rfl rfl (Nat.le_of_ble_eq_true rfl) ?_
 refine x_seq ?_
 refine x_regionL ?_
 refine xl_v v_assign ?_
 refine xl_nil ?_
 refine x_seq ?_
 refine x_seq ?_
 refine x_regionL ?_
 refine xl_v v_move ?_
 refine xl_v v_len ?_
 refine xl_v v_move ?_
 refine xl_nil ?_
 refine x_block ?_
 refine x_loop (fun m τ ds w' => ds = [] ∧ ∃ k : Nat, m = n - k ∧ k ≤ n ∧ (∀ j, j < k → p j = false) ∧ Ev τ 0 (.slice A n c) ∧ Ev τ 1 (.func (.func f) fa.toArray fc.toArray) ∧ Ev τ 7 (.int .i64 (n : Int)) ∧ Ev τ 8 (.int .i64 (k : Int)) ∧ Lk w' w NoB) (n) ?start ?round
 case start =>
  exact ⟨rfl, 0, rfl, Nat.zero_le _, fun _ h => absurd h (Nat.not_lt_zero _), inferInstance, inferInstance, inferInstance, evc, lkc⟩
 case round =>
  intro m τ1 ds1 w1 hI
  obtain ⟨rfl, k, rfl, hk, hno, e0, e1, e7, e8, lk⟩ := hI
  refine x_seq ?_
  refine x_regionL ?_
  refine xl_v v_lss ?_
  refine xl_nil ?_
  refine x_seq ?_
  first | refine x_condP (fun c1 => ?_) (fun c1 => ?_) | refine x_condN (fun c1 => ?_) (fun c1 => ?_) | refine x_condE (fun c1 => ?_) (fun c1 => ?_)
  ·
   have hk1 : k < cs.length := by omega
   have hA := row_some (w := w) (A := A) (cs := cs) inferInstance (by omega)
   refine x_skip ?_
   refine x_seq ?_
   refine x_block ?_
   refine x_seq ?_
   refine x_regionL ?_
   refine xl_v v_move ?_
   refine xl_v v_assign ?_
   refine xl_nil ?_
   refine x_seq ?_
   refine x_regionL ?_
   refine xl_v v_move ?_
   refine xl_v v_move ?_
   refine xl_v v_move ?_
   refine xl_v (v_indexAddr k rfl (by omega) hA) ?_
   refine xl_v (v_loadR (by rw [Nat.mul_one]; exact List.getElem?_eq_getElem hk1)) ?_
   refine xl_callv ((hp k hk1 hno w1 lkc)) ?_
   rintro _ w2 ⟨rfl, lk2⟩
   refine xl_nil ?_
   refine x_condE (fun c2 => ?_) (fun c2 => ?_)
   ·
    refine x_seq ?_
    refine x_regionL ?_
    refine xl_v v_move ?_
    refine xl_v v_assign ?_
    refine xl_nil ?_
    refine x_ret ?_
    refine fin1 rfl ?_
    refine ⟨⟨_, rfl, ?_⟩, lkc⟩
    rw [decide_eq_true (by omega)]
    exact (List.any_eq_true.2 ⟨k, by simp; omega, c2⟩).symm
   ·
    refine x_skip ?_
    refine x_regionL ?_
    refine xl_v (v_add (by omega)) ?_
    refine xl_v v_move ?_
    refine xl_nil ?_
    refine ⟨_, ?_, rfl, k + 1, rfl, by omega, ?_, inferInstance, inferInstance, inferInstance, evc, lkc⟩
    ·omega
    ·intro j hjk
     by_cases h : j = k
     ·subst h; exact c2
     ·exact hno j (by omega)
  ·
   refine x_exit ?_
   refine x_seq ?_
   refine x_regionL ?_
   refine xl_v v_assign ?_
   refine xl_nil ?_
   refine x_ret ?_
   refine fin1 rfl ?_
   refine ⟨⟨_, rfl, ?_⟩, lkc⟩
   rw [decide_eq_false (by omega)]
   refine (List.any_eq_false.2 fun j hj => ?_).symm
   simp at hj
   simp [hno j (by omega)]

/-- slices.IndexFunc[[]int,int] -/
theorem idxI_ok (A : Option Addr) (n c : Nat) (cs : List Value) (f : FuncId) (fa fc : List Value) (p : Nat → Bool) (w : World) [Row w A cs] (hl : cs.length = n) (hn : n ≤ 1000000000) (hp : ∀ k (h : k < cs.length), (∀ j, j < k → p j = false) → ∀ W, Lk W w NoB → CallV Try.prog (.func (.func f) fa.toArray fc.toArray) [cs[k]] W (fun v w' => v = .bool (p k) ∧ Lk w' W NoB)) : Ret Try.prog 91 #[.slice A n c, .func (.func f) fa.toArray fc.toArray] w (fun v w' => (∃ i : Int, v = .int .i64 i ∧ decide (0 ≤ i) = (List.range n).any p) ∧ Lk w' w NoB) := by
 refine ret_of_x (N := 19) (l := [.slice A n c, .func (.func f) fa.toArray fc.toArray]) Try.func91 rfl rfl (Nat.le_of_ble_eq_true rfl) ?_
 refine x_seq ?_
 refine x_regionL ?_
 refine xl_v v_assign ?_
 refine xl_nil ?_
 refine x_seq ?_
 refine x_seq ?_
 refine x_regionL ?_
 refine xl_v v_move ?_
 refine xl_v v_len ?_
 refine xl_v v_move ?_
 refine xl_nil ?_
 refine x_block ?_
 refine x_loop (fun m τ ds w' => ds = [] ∧ ∃ k : Nat, m = n - k ∧ k ≤ n ∧ (∀ j, j < k → p j = false) ∧ Ev τ 0 (.slice A n c) ∧ Ev τ 1 (.func (.func f) fa.toArray fc.toArray) ∧ Ev τ 7 (.int .i64 (n : Int)) ∧ Ev τ 8 (.int .i64 (k : Int)) ∧ Lk w' w NoB) (n) ?start ?round
 case start =>
  exact ⟨rfl, 0, rfl, Nat.zero_le _, fun _ h => absurd h (Nat.not_lt_zero _), inferInstance, inferInstance, inferInstance, evc, lkc⟩
 case round =>
  intro m τ1 ds1 w1 hI
  obtain ⟨rfl, k, rfl, hk, hno, e0, e1, e7, e8, lk⟩ := hI
  refine x_seq ?_
  refine x_regionL ?_
  refine xl_v v_lss ?_
  refine xl_nil ?_
  refine x_seq ?_
  first | refine x_condP (fun c1 => ?_) (fun c1 => ?_) | refine x_condN (fun c1 => ?_) (fun c1 => ?_) | refine x_condE (fun c1 => ?_) (fun c1 => ?_)
  ·
   have hk1 : k < cs.length := by omega
   have hA := row_some (w := w) (A := A) (cs := cs) inferInstance (by omega)
   refine x_skip ?_
   refine x_seq ?_
   refine x_block ?_
   refine x_seq ?_
   refine x_regionL ?_
   refine xl_v v_move ?_
   refine xl_v v_assign ?_
   refine xl_nil ?_
   refine x_seq ?_
   refine x_regionL ?_
   refine xl_v v_move ?_
   refine xl_v v_move ?_
   refine xl_v v_move ?_
   refine xl_v (v_indexAddr k rfl (by omega) hA) ?_
   refine xl_v (v_loadR (by rw [Nat.mul_one]; exact List.getElem?_eq_getElem hk1)) ?_
   refine xl_callv ((hp k hk1 hno w1 lkc)) ?_
   rintro _ w2 ⟨rfl, lk2⟩
   refine xl_nil ?_
   refine x_condE (fun c2 => ?_) (fun c2 => ?_)
   ·
    refine x_seq ?_
    refine x_regionL ?_
    refine xl_v v_move ?_
    refine xl_v v_assign ?_
    refine xl_nil ?_
    refine x_ret ?_
    refine fin1 rfl ?_
    refine ⟨⟨_, rfl, ?_⟩, lkc⟩
    rw [decide_eq_true (by omega)]
    exact (List.any_eq_true.2 ⟨k, by simp; omega, c2⟩).symm
   ·
    refine x_skip ?_
    refine x_regionL ?_
    refine xl_v (v_add (by omega)) ?_
    refine xl_v v_move ?_
    refine xl_nil ?_
    refine ⟨_, ?_, rfl, k + 1, rfl, by omega, ?_, inferInstance, inferInstance, inferInstance, evc, lkc⟩
    ·omega
    ·intro j hjk
     by_cases h : j = k
     ·subst h; exact c2
     ·exact hno j (by omega)
  ·
   refine x_exit ?_
   refine x_seq ?_
   refine x_regionL ?_
   refine xl_v v_assign ?_
   refine xl_nil ?_
   refine x_ret ?_
   refine fin1 rfl ?_
   refine ⟨⟨_, rfl, ?_⟩, lkc⟩
   rw [decide_eq_false (by omega)]
   refine (List.any_eq_false.2 fun j hj => ?_).symm
   simp at hj
   simp [hno j (by omega)]

/-- slices.ContainsFunc[[]*int64,*int64] -/
theorem cfP_ok (A : Option Addr) (n c : Nat) (cs : List Value) (f : FuncId) (fa fc : List Value) (p : Nat → Bool) (w : World) [Row w A cs] (hl : cs.length = n) (hn : n ≤ 1000000000) (hp : ∀ k (h : k < cs.length), (∀ j, j < k → p j = false) → ∀ W, Lk W w NoB → CallV Try.prog (.func (.func f) fa.toArray fc.toArray) [cs[k]] W (fun v w' => v = .bool (p k) ∧ Lk w' W NoB)) : Ret Try.prog 86 #[.slice A n c, .func (.func f) fa.toArray fc.toArray] w (fun v w' => v = .bool ((List.range n).any p) ∧ Lk w' w NoB) := by
 refine ret_of_x (N := 9) (l := [.slice A n c, .func (.func f) fa.toArray fc.toArray]) Try.func86 rfl rfl (Nat.le_of_ble_eq_true rfl) ?_
 refine x_seq ?_
 refine x_regionL ?_
 refine xl_v v_assign ?_
 refine xl_nil ?_
 refine x_seq ?_
 refine x_regionL ?_
 refine xl_v v_move ?_
 refine xl_v v_move ?_
 refine xl_call (idxP_ok A n c cs f fa fc p w hl hn hp) ?_
 rintro _ w1 ⟨⟨i, rfl, hi⟩, lk⟩
 refine xl_v v_geq ?_
 refine xl_v v_assign ?_
 refine xl_nil ?_
 refine x_ret ?_
 refine fin1 rfl ?_
 exact ⟨congrArg Value.bool hi, lkc⟩

/-- slices.ContainsFunc[[]int,int] -/
theorem cfI_ok (A : Option Addr) (n c : Nat) (cs : List Value) (f : FuncId) (fa fc : List Value) (p : Nat → Bool) (w : World) [Row w A cs] (hl : cs.length = n) (hn : n ≤ 1000000000) (hp : ∀ k (h : k < cs.length), (∀ j, j < k → p j = false) → ∀ W, Lk W w NoB → CallV Try.prog (.func (.func f) fa.toArray fc.toArray) [cs[k]] W (fun v w' => v = .bool (p k) ∧ Lk w' W NoB)) : Ret Try.prog 74 #[.slice A n c, .func (.func f) fa.toArray fc.toArray] w (fun v w' => v = .bool ((List.range n).any p) ∧ Lk w' w NoB) := by
 refine ret_of_x (N := 9) (l := [.slice A n c, .func (.func f) fa.toArray fc.toArray]) Try.func74 rfl rfl (Nat.le_of_ble_eq_true rfl) ?_
 refine x_seq ?_
 refine x_regionL ?_
 refine xl_v v_assign ?_
 refine xl_nil ?_
 refine x_seq ?_
 refine x_regionL ?_
 refine xl_v v_move ?_
 refine xl_v v_move ?_
 refine xl_call (idxI_ok A n c cs f fa fc p w hl hn hp) ?_
 rintro _ w1 ⟨⟨i, rfl, hi⟩, lk⟩
 refine xl_v v_geq ?_
 refine xl_v v_assign ?_
 refine xl_nil ?_
 refine x_ret ?_
 refine fin1 rfl ?_
 exact ⟨congrArg Value.bool hi, lkc⟩
def isX (x : Int) : Int → Bool := fun y => decide (x = y)
theorem isX_mem (x : Int) (xs : List Int) : xs.any (isX x) = decide (x ∈ xs) := by
 rw [Bool.eq_iff_iff, List.any_eq_true, decide_eq_true_iff]
 constructor
 ·rintro ⟨y, hy, e⟩
  have : x = y := of_decide_eq_true e
  exact this ▸ hy
 ·exact fun h => ⟨x, h, decide_eq_true rfl⟩

/-- slices.Index[[]int,int] -/
theorem index_ok (A : Option Addr) (n c : Nat) (xs : List Int) (x : Int) (w : World) [Row w A (ints xs)] (hl : xs.length = n) (hn : n ≤ 1000000000) : Ret Try.prog 65 #[.slice A n c, .int .i64 x] w (fun v w' => v = .int .i64 (idx (isX x) xs) ∧ Lk w' w NoB) := by
 refine ret_of_x (N := 19) (l := [.slice A n c, .int .i64 x]) Try.func65 rfl rfl (Nat.le_of_ble_eq_true rfl) ?_
 refine x_seq ?_
 refine x_regionL ?_
 refine xl_v v_assign ?_
 refine xl_nil ?_
 refine x_seq ?_
 refine x_seq ?_
 refine x_regionL ?_
 refine xl_v v_move ?_
 refine xl_v v_len ?_
 refine xl_v v_move ?_
 refine xl_nil ?_
 refine x_block ?_
 refine x_loop (fun m τ ds w' => ds = [] ∧ ∃ k : Nat, m = n - k ∧ k ≤ n ∧ (∀ j (h : j < xs.length), j < k → isX x xs[j] = false) ∧ Ev τ 0 (.slice A n c) ∧ Ev τ 1 (.int .i64 x) ∧ Ev τ 7 (.int .i64 (n : Int)) ∧ Ev τ 8 (.int .i64 (k : Int)) ∧ Lk w' w NoB) (n) ?start ?round
 case start =>
  exact ⟨rfl, 0, rfl, Nat.zero_le _, fun _ _ h => absurd h (Nat.not_lt_zero _), inferInstance, inferInstance, inferInstance, evc, lkc⟩
 case round =>
  intro m τ1 ds1 w1 hI
  obtain ⟨rfl, k, rfl, hk, hno, e0, e1, e7, e8, lk⟩ := hI
  refine x_seq ?_
  refine x_regionL ?_
  refine xl_v v_lss ?_
  refine xl_nil ?_
  refine x_seq ?_
  first | refine x_condP (fun c1 => ?_) (fun c1 => ?_) | refine x_condN (fun c1 => ?_) (fun c1 => ?_) | refine x_condE (fun c1 => ?_) (fun c1 => ?_)
  ·
   have hk1 : k < xs.length := by omega
   refine x_skip ?_
   refine x_seq ?_
   refine x_block ?_
   refine x_seq ?_
   refine x_regionL ?_
   refine xl_v v_move ?_
   refine xl_v v_assign ?_
   refine xl_nil ?_
   refine x_seq ?_
   refine x_regionL ?_
   refine xl_v v_move ?_
   refine xl_v v_move ?_
   refine xl_v v_move ?_
   refine xl_v (v_indexO k rfl (by omega) hk1) ?_
   refine xl_v (v_loadO (k := k) hk1) ?_
   refine xl_v v_eql ?_
   refine xl_nil ?_
   refine x_condE (fun c2 => ?_) (fun c2 => ?_)
   ·
    refine x_seq ?_
    refine x_regionL ?_
    refine xl_v v_move ?_
    refine xl_v v_assign ?_
    refine xl_nil ?_
    refine x_ret ?_
    refine fin1 rfl ?_
    exact ⟨by rw [idx_found hk1 hno c2], lkc⟩
   ·
    refine x_skip ?_
    refine x_regionL ?_
    refine xl_v (v_add (by omega)) ?_
    refine xl_v v_move ?_
    refine xl_nil ?_
    refine ⟨_, ?_, rfl, k + 1, rfl, by omega, ?_, inferInstance, inferInstance, inferInstance, evc, lkc⟩
    ·omega
    ·intro j hj hjk
     by_cases h : j = k
     ·subst h; exact c2
     ·exact hno j hj (by omega)
  ·
   refine x_exit ?_
   refine x_seq ?_
   refine x_regionL ?_
   refine xl_v v_assign ?_
   refine xl_nil ?_
   refine x_ret ?_
   refine fin1 rfl ?_
   exact ⟨by rw [idx_none fun j hj => hno j hj (by omega)], lkc⟩

/-- slices.Contains[[]int,int] -/
theorem contains_ok (A : Option Addr) (n c : Nat) (xs : List Int) (x : Int) (w : World) [Row w A (ints xs)] (hl : xs.length = n) (hn : n ≤ 1000000000) : Ret Try.prog 56 #[.slice A n c, .int .i64 x] w (fun v w' => v = .bool (decide (x ∈ xs)) ∧ Lk w' w NoB) := by
 refine ret_of_x (N := 9) (l := [.slice A n c, .int .i64 x]) Try.func56 rfl rfl (Nat.le_of_ble_eq_true rfl) ?_
 refine x_seq ?_
 refine x_regionL ?_
 refine xl_v v_assign ?_
 refine xl_nil ?_
 refine x_seq ?_
 refine x_regionL ?_
 refine xl_v v_move ?_
 refine xl_v v_move ?_
 refine xl_call (index_ok A n c xs x w hl hn) ?_
 rintro _ w1 ⟨rfl, lk⟩
 refine xl_v v_geq ?_
 refine xl_v v_assign ?_
 refine xl_nil ?_
 refine x_ret ?_
 refine fin1 rfl ?_
 exact ⟨congrArg Value.bool (by rw [← isX_mem, ← idx_any]), lkc⟩

/-- slices.Equal[[]int,int] -/
theorem eqI_ok (A : Option Addr) (n c : Nat) (xs : List Int) (B : Option Addr) (n' c' : Nat) (ys : List Int) (w : World) [Row w A (ints xs)] [Row w B (ints ys)] (hl : xs.length = n) (hl' : ys.length = n') (hn : n ≤ 1000000000) : Ret Try.prog 60 #[.slice A n c, .slice B n' c'] w (fun v w' => v = .bool (decide (xs = ys)) ∧ Lk w' w NoB) := by
 refine ret_of_x (N := 26) (l := [.slice A n c, .slice B n' c']) Try.func60 rfl rfl (Nat.le_of_ble_eq_true rfl) ?_
 refine x_seq ?_
 refine x_regionL ?_
 refine xl_v v_assign ?_
 refine xl_nil ?_
 refine x_seq ?_
 refine x_seq ?_
 refine x_regionL ?_
 refine xl_v v_move ?_
 refine xl_v v_len ?_
 refine xl_v v_move ?_
 refine xl_v v_len ?_
 refine xl_v v_neq ?_
 refine xl_nil ?_
 first | refine x_condP (fun c1 => ?_) (fun c1 => ?_) | refine x_condN (fun c1 => ?_) (fun c1 => ?_) | refine x_condE (fun c1 => ?_) (fun c1 => ?_)
 ·
  refine x_seq ?_
  refine x_regionL ?_
  refine xl_v v_assign ?_
  refine xl_nil ?_
  refine x_ret ?_
  refine fin1 rfl ?_
  exact ⟨by rw [decide_eq_false]; intro e; subst e; omega, lkc⟩
 ·
  have hnn : n = n' := by omega
  refine x_skip ?_
  refine x_seq ?_
  refine x_seq ?_
  refine x_regionL ?_
  refine xl_v v_move ?_
  refine xl_v v_len ?_
  refine xl_v v_move ?_
  refine xl_nil ?_
  refine x_block ?_
  refine x_loop (fun m τ ds w' => ds = [] ∧ ∃ k : Nat, m = n - k ∧ k ≤ n ∧ xs.take k = ys.take k ∧ Ev τ 0 (.slice A n c) ∧ Ev τ 1 (.slice B n' c') ∧ Ev τ 12 (.int .i64 (n : Int)) ∧ Ev τ 13 (.int .i64 (k : Int)) ∧ Lk w' w NoB) (n) ?start ?round
  case start =>
   exact ⟨rfl, 0, rfl, Nat.zero_le _, by simp, inferInstance, inferInstance, inferInstance, evc, lkc⟩
  case round =>
   intro m τ1 ds1 w1 hI
   obtain ⟨rfl, k, rfl, hk, heq, e0, e1, e2, e3, lk⟩ := hI
   refine x_seq ?_
   refine x_regionL ?_
   refine xl_v v_lss ?_
   refine xl_nil ?_
   refine x_seq ?_
   first | refine x_condP (fun c2 => ?_) (fun c2 => ?_) | refine x_condN (fun c2 => ?_) (fun c2 => ?_) | refine x_condE (fun c2 => ?_) (fun c2 => ?_)
   ·
    have hk1 : k < xs.length := by omega
    have hk2 : k < ys.length := by omega
    refine x_skip ?_
    refine x_seq ?_
    refine x_block ?_
    refine x_seq ?_
    refine x_regionL ?_
    refine xl_v v_move ?_
    refine xl_v v_assign ?_
    refine xl_nil ?_
    refine x_seq ?_
    refine x_drawL (NoB) (allS) (.take 0 (.take 1 (.take 2 (.take 3 (.take 4 (.take 5 (.take 6 (.take 7 (.take 8 .done))))))))) mixed (by kernel_rfl) (fun _ _ _ _ _ h => h) (fun w2 l2 => ?_)
    refine xt_v rfl v_move ?_
    refine xt_v rfl v_move ?_
    refine xt_v rfl (v_indexO k rfl (by omega) hk1) ?_
    refine xt_v rfl (v_loadO (k := k) hk1) ?_
    refine xt_v rfl v_move ?_
    refine xt_v rfl v_move ?_
    refine xt_v rfl (v_indexO k rfl (by omega) hk2) ?_
    refine xt_v rfl (v_loadO (k := k) hk2) ?_
    refine xt_v rfl v_neq ?_
    refine xt_nil ?_
    refine x_condE (fun c3 => ?_) (fun c3 => ?_)
    ·
     have hne : xs[k] ≠ ys[k] := fun e => by rw [e] at c3; simp at c3
     refine x_seq ?_
     refine x_regionL ?_
     refine xl_v v_assign ?_
     refine xl_nil ?_
     refine x_ret ?_
     refine fin1 rfl ?_
     refine ⟨?_, lkc⟩
     rw [decide_eq_false]
     intro e
     subst e
     exact hne rfl
    ·
     have heqk : xs[k] = ys[k] := by simpa using c3
     refine x_skip ?_
     refine x_regionL ?_
     refine xl_v (v_add (by omega)) ?_
     refine xl_v v_move ?_
     refine xl_nil ?_
     refine ⟨_, ?_, rfl, k + 1, rfl, by omega, ?_, inferInstance, inferInstance, inferInstance, evc, lkc⟩
     ·omega
     ·rw [take_snoc _ _ hk1, take_snoc _ _ hk2, heq, heqk]
   ·
    refine x_exit ?_
    refine x_seq ?_
    refine x_regionL ?_
    refine xl_v v_assign ?_
    refine xl_nil ?_
    refine x_ret ?_
    refine fin1 rfl ?_
    refine ⟨?_, lkc⟩
    rw [decide_eq_true]
    rw [List.take_of_length_le (by omega), List.take_of_length_le (by omega)] at heq
    exact heq

/-- slices.Equal[[]bool,bool] -/
theorem eqB_ok (A : Option Addr) (n c : Nat) (xs : List Bool) (B : Option Addr) (n' c' : Nat) (ys : List Bool) (w : World) [Row w A (bools xs)] [Row w B (bools ys)] (hl : xs.length = n) (hl' : ys.length = n') (hn : n ≤ 1000000000) : Ret Try.prog 62 #[.slice A n c, .slice B n' c'] w (fun v w' => v = .bool (decide (xs = ys)) ∧ Lk w' w NoB) := by
 refine ret_of_x (N := 26) (l := [.slice A n c, .slice B n' c']) Try.func62 rfl rfl (Nat.le_of_ble_eq_true rfl) ?_
 refine x_seq ?_
 refine x_regionL ?_
 refine xl_v v_assign ?_
 refine xl_nil ?_
 refine x_seq ?_
 refine x_seq ?_
 refine x_regionL ?_
 refine xl_v v_move ?_
 refine xl_v v_len ?_
 refine xl_v v_move ?_
 refine xl_v v_len ?_
 refine xl_v v_neq ?_
 refine xl_nil ?_
 first | refine x_condP (fun c1 => ?_) (fun c1 => ?_) | refine x_condN (fun c1 => ?_) (fun c1 => ?_) | refine x_condE (fun c1 => ?_) (fun c1 => ?_)
 ·
  refine x_seq ?_
  refine x_regionL ?_
  refine xl_v v_assign ?_
  refine xl_nil ?_
  refine x_ret ?_
  refine fin1 rfl ?_
  exact ⟨by rw [decide_eq_false]; intro e; subst e; omega, lkc⟩
 ·
  have hnn : n = n' := by omega
  refine x_skip ?_
  refine x_seq ?_
  refine x_seq ?_
  refine x_regionL ?_
  refine xl_v v_move ?_
  refine xl_v v_len ?_
  refine xl_v v_move ?_
  refine xl_nil ?_
  refine x_block ?_
  refine x_loop (fun m τ ds w' => ds = [] ∧ ∃ k : Nat, m = n - k ∧ k ≤ n ∧ xs.take k = ys.take k ∧ Ev τ 0 (.slice A n c) ∧ Ev τ 1 (.slice B n' c') ∧ Ev τ 12 (.int .i64 (n : Int)) ∧ Ev τ 13 (.int .i64 (k : Int)) ∧ Lk w' w NoB) (n) ?start ?round
  case start =>
   exact ⟨rfl, 0, rfl, Nat.zero_le _, by simp, inferInstance, inferInstance, inferInstance, evc, lkc⟩
  case round =>
   intro m τ1 ds1 w1 hI
   obtain ⟨rfl, k, rfl, hk, heq, e0, e1, e2, e3, lk⟩ := hI
   refine x_seq ?_
   refine x_regionL ?_
   refine xl_v v_lss ?_
   refine xl_nil ?_
   refine x_seq ?_
   first | refine x_condP (fun c2 => ?_) (fun c2 => ?_) | refine x_condN (fun c2 => ?_) (fun c2 => ?_) | refine x_condE (fun c2 => ?_) (fun c2 => ?_)
   ·
    have hk1 : k < xs.length := by omega
    have hk2 : k < ys.length := by omega
    refine x_skip ?_
    refine x_seq ?_
    refine x_block ?_
    refine x_seq ?_
    refine x_regionL ?_
    refine xl_v v_move ?_
    refine xl_v v_assign ?_
    refine xl_nil ?_
    refine x_seq ?_
    refine x_drawL (NoB) (allS) (.take 0 (.take 1 (.take 2 (.take 3 (.take 4 (.take 5 (.take 6 (.take 7 (.take 8 .done))))))))) mixed (by kernel_rfl) (fun _ _ _ _ _ h => h) (fun w2 l2 => ?_)
    refine xt_v rfl v_move ?_
    refine xt_v rfl v_move ?_
    refine xt_v rfl (v_indexO k rfl (by omega) hk1) ?_
    refine xt_v rfl (v_loadO (k := k) hk1) ?_
    refine xt_v rfl v_move ?_
    refine xt_v rfl v_move ?_
    refine xt_v rfl (v_indexO k rfl (by omega) hk2) ?_
    refine xt_v rfl (v_loadO (k := k) hk2) ?_
    refine xt_v rfl v_bneq ?_
    refine xt_nil ?_
    refine x_condE (fun c3 => ?_) (fun c3 => ?_)
    ·
     have hne : xs[k] ≠ ys[k] := fun e => by rw [e] at c3; simp at c3
     refine x_seq ?_
     refine x_regionL ?_
     refine xl_v v_assign ?_
     refine xl_nil ?_
     refine x_ret ?_
     refine fin1 rfl ?_
     refine ⟨?_, lkc⟩
     rw [decide_eq_false]
     intro e
     subst e
     exact hne rfl
    ·
     have heqk : xs[k] = ys[k] := by simpa using c3
     refine x_skip ?_
     refine x_regionL ?_
     refine xl_v (v_add (by omega)) ?_
     refine xl_v v_move ?_
     refine xl_nil ?_
     refine ⟨_, ?_, rfl, k + 1, rfl, by omega, ?_, inferInstance, inferInstance, inferInstance, evc, lkc⟩
     ·omega
     ·rw [take_snoc _ _ hk1, take_snoc _ _ hk2, heq, heqk]
   ·
    refine x_exit ?_
    refine x_seq ?_
    refine x_regionL ?_
    refine xl_v v_assign ?_
    refine xl_nil ?_
    refine x_ret ?_
    refine fin1 rfl ?_
    refine ⟨?_, lkc⟩
    rw [decide_eq_true]
    rw [List.take_of_length_le (by omega), List.take_of_length_le (by omega)] at heq
    exact heq

/-- slices.EqualFunc[[]waystation/api.View,[]waystation/api.View,waystation/api.View,waystation/api.View] -/
theorem eqFV_ok (A : Option Addr) (n c : Nat) (xs : List LV) (B : Option Addr) (n' c' : Nat) (ys : List LV) (f : FuncId) (fa fc : List Value) (p : Nat → Bool) (w : World) [Row w A (xs.flatMap viewC)] [Row w B (ys.flatMap viewC)] (hl : xs.length = n) (hl' : ys.length = n') (hn : n ≤ 1000000000) (hp : ∀ i (h : i < xs.length) (h' : i < ys.length) W, Lk W w NoB → CallV Try.prog (.func (.func f) fa.toArray fc.toArray) [.agg (viewC xs[i]).toArray, .agg (viewC ys[i]).toArray] W (fun v w' => v = .bool (p i) ∧ Lk w' W NoB)) : Ret Try.prog 63 #[.slice A n c, .slice B n' c', .func (.func f) fa.toArray fc.toArray] w (fun v w' => v = .bool (decide (n = n') && (List.range n).all p) ∧ Lk w' w NoB) := by
 refine ret_of_x (N := 32) (l := [.slice A n c, .slice B n' c', .func (.func f) fa.toArray fc.toArray]) Try.func63 rfl rfl (Nat.le_of_ble_eq_true rfl) ?_
 refine x_seq ?_
 refine x_regionL ?_
 refine xl_v v_assign ?_
 refine xl_nil ?_
 refine x_seq ?_
 refine x_seq ?_
 refine x_regionL ?_
 refine xl_v v_move ?_
 refine xl_v v_len ?_
 refine xl_v v_move ?_
 refine xl_v v_len ?_
 refine xl_v v_neq ?_
 refine xl_nil ?_
 first | refine x_condP (fun c1 => ?_) (fun c1 => ?_) | refine x_condN (fun c1 => ?_) (fun c1 => ?_) | refine x_condE (fun c1 => ?_) (fun c1 => ?_)
 ·
  refine x_seq ?_
  refine x_regionL ?_
  refine xl_v v_assign ?_
  refine xl_nil ?_
  refine x_ret ?_
  refine fin1 rfl ?_
  exact ⟨by rw [decide_eq_false (by omega)]; rfl, lkc⟩
 ·
  have hnn : n = n' := by omega
  refine x_skip ?_
  refine x_seq ?_
  refine x_seq ?_
  refine x_regionL ?_
  refine xl_v v_move ?_
  refine xl_v v_len ?_
  refine xl_v v_move ?_
  refine xl_nil ?_
  refine x_block ?_
  refine x_loop (fun m τ ds w' => ds = [] ∧ ∃ k : Nat, m = n - k ∧ k ≤ n ∧ (∀ i, i < k → p i = true) ∧ Ev τ 1 (.slice B n' c') ∧ Ev τ 2 (.func (.func f) fa.toArray fc.toArray) ∧ Ev τ 15 (.slice A n c) ∧ Ev τ 16 (.int .i64 (n : Int)) ∧ Ev τ 17 (.int .i64 (k : Int)) ∧ Lk w' w NoB) (n) ?start ?round
  case start =>
   exact ⟨rfl, 0, rfl, Nat.zero_le _, fun _ h => absurd h (Nat.not_lt_zero _), inferInstance, inferInstance, inferInstance, inferInstance, evc, lkc⟩
  case round =>
   intro m τ1 ds1 w1 hI
   obtain ⟨rfl, k, rfl, hk, hall, e1, e2, e15, e16, e17, lk⟩ := hI
   refine x_seq ?_
   refine x_regionL ?_
   refine xl_v v_lss ?_
   refine xl_nil ?_
   refine x_seq ?_
   first | refine x_condP (fun c2 => ?_) (fun c2 => ?_) | refine x_condN (fun c2 => ?_) (fun c2 => ?_) | refine x_condE (fun c2 => ?_) (fun c2 => ?_)
   ·
    have hk1 : k < xs.length := by omega
    have hk2 : k < ys.length := by omega
    refine x_skip ?_
    refine x_seq ?_
    refine x_block ?_
    refine x_seq ?_
    refine x_regionL ?_
    refine xl_v v_move ?_
    refine xl_v (v_indexF k (by decide) rfl (by omega) hk1) ?_
    refine xl_v (v_loadF (k := k) (by decide) hk1) ?_
    refine xl_e (e_alloc fun b2 w2 n2 l2 k2 => ?_)
    refine xl_v v_assign ?_
    refine xl_s (e_storeA fun w3 l3 k3 => ?_)
    refine xl_nil ?_
    haveI : Row w3 B (ys.flatMap viewC) := by
     haveI lkx : Lk w3 w NoB := lkc
     exact inferInstance
    refine x_seq ?_
    refine x_regionL ?_
    refine xl_v v_move ?_
    refine xl_v v_move ?_
    refine xl_v (v_indexF k (by decide) rfl (by omega) hk2) ?_
    refine xl_v (v_loadF (k := k) (by decide) hk2) ?_
    refine xl_e (e_alloc fun b4 w4 n4 l4 k4 => ?_)
    refine xl_s (e_storeA fun w5 l5 k5 => ?_)
    refine xl_nil ?_
    refine x_seq ?_
    refine x_regionL ?_
    refine xl_v v_move ?_
    refine xl_La ?_
    refine xl_La ?_
    refine xl_callv ((hp k hk1 hk2 w5 lkc)) ?_
    rintro _ w6 ⟨rfl, lk3⟩
    refine xl_v v_not ?_
    refine xl_nil ?_
    refine x_condE (fun c3 => ?_) (fun c3 => ?_)
    ·
     refine x_seq ?_
     refine x_regionL ?_
     refine xl_v v_assign ?_
     refine xl_nil ?_
     refine x_ret ?_
     refine fin1 rfl ?_
     refine ⟨?_, lkc⟩
     have h1 : (List.range n).all p = false := by
      rw [List.all_eq_false]
      exact ⟨k, by simp; omega, by simpa using c3⟩
     rw [h1, Bool.and_false]
    ·
     refine x_skip ?_
     refine x_regionL ?_
     refine xl_v (v_add (by omega)) ?_
     refine xl_v v_move ?_
     refine xl_nil ?_
     refine ⟨_, ?_, rfl, k + 1, rfl, by omega, ?_, inferInstance, inferInstance, inferInstance, inferInstance, evc, lkc⟩
     ·omega
     ·intro i hi
      by_cases h : i = k
      ·subst h; simpa using c3
      ·exact hall i (by omega)
   ·
    refine x_exit ?_
    refine x_seq ?_
    refine x_regionL ?_
    refine xl_v v_assign ?_
    refine xl_nil ?_
    refine x_ret ?_
    refine fin1 rfl ?_
    refine ⟨?_, lkc⟩
    have h1 : (List.range n).all p = true := by
     rw [List.all_eq_true]
     intro i hi
     exact hall i (by simp at hi; omega)
    rw [h1, decide_eq_true hnn]
    rfl

/-- slices.EqualFunc[[]waystation/api.Writing,[]waystation/api.Writing,waystation/api.Writing,waystation/api.Writing] -/
theorem eqFW_ok (A : Option Addr) (n c : Nat) (xs : List LW) (B : Option Addr) (n' c' : Nat) (ys : List LW) (f : FuncId) (fa fc : List Value) (p : Nat → Bool) (w : World) [Row w A (xs.flatMap wrC)] [Row w B (ys.flatMap wrC)] (hl : xs.length = n) (hl' : ys.length = n') (hn : n ≤ 1000000000) (hp : ∀ i (h : i < xs.length) (h' : i < ys.length) W, Lk W w NoB → CallV Try.prog (.func (.func f) fa.toArray fc.toArray) [.agg (wrC xs[i]).toArray, .agg (wrC ys[i]).toArray] W (fun v w' => v = .bool (p i) ∧ Lk w' W NoB)) : Ret Try.prog 64 #[.slice A n c, .slice B n' c', .func (.func f) fa.toArray fc.toArray] w (fun v w' => v = .bool (decide (n = n') && (List.range n).all p) ∧ Lk w' w NoB) := by
 refine ret_of_x (N := 32) (l := [.slice A n c, .slice B n' c', .func (.func f) fa.toArray fc.toArray]) Try.func64 rfl rfl (Nat.le_of_ble_eq_true rfl) ?_
 refine x_seq ?_
 refine x_regionL ?_
 refine xl_v v_assign ?_
 refine xl_nil ?_
 refine x_seq ?_
 refine x_seq ?_
 refine x_regionL ?_
 refine xl_v v_move ?_
 refine xl_v v_len ?_
 refine xl_v v_move ?_
 refine xl_v v_len ?_
 refine xl_v v_neq ?_
 refine xl_nil ?_
 first | refine x_condP (fun c1 => ?_) (fun c1 => ?_) | refine x_condN (fun c1 => ?_) (fun c1 => ?_) | refine x_condE (fun c1 => ?_) (fun c1 => ?_)
 ·
  refine x_seq ?_
  refine x_regionL ?_
  refine xl_v v_assign ?_
  refine xl_nil ?_
  refine x_ret ?_
  refine fin1 rfl ?_
  exact ⟨by rw [decide_eq_false (by omega)]; rfl, lkc⟩
 ·
  have hnn : n = n' := by omega
  refine x_skip ?_
  refine x_seq ?_
  refine x_seq ?_
  refine x_regionL ?_
  refine xl_v v_move ?_
  refine xl_v v_len ?_
  refine xl_v v_move ?_
  refine xl_nil ?_
  refine x_block ?_
  refine x_loop (fun m τ ds w' => ds = [] ∧ ∃ k : Nat, m = n - k ∧ k ≤ n ∧ (∀ i, i < k → p i = true) ∧ Ev τ 1 (.slice B n' c') ∧ Ev τ 2 (.func (.func f) fa.toArray fc.toArray) ∧ Ev τ 15 (.slice A n c) ∧ Ev τ 16 (.int .i64 (n : Int)) ∧ Ev τ 17 (.int .i64 (k : Int)) ∧ Lk w' w NoB) (n) ?start ?round
  case start =>
   exact ⟨rfl, 0, rfl, Nat.zero_le _, fun _ h => absurd h (Nat.not_lt_zero _), inferInstance, inferInstance, inferInstance, inferInstance, evc, lkc⟩
  case round =>
   intro m τ1 ds1 w1 hI
   obtain ⟨rfl, k, rfl, hk, hall, e1, e2, e15, e16, e17, lk⟩ := hI
   refine x_seq ?_
   refine x_regionL ?_
   refine xl_v v_lss ?_
   refine xl_nil ?_
   refine x_seq ?_
   first | refine x_condP (fun c2 => ?_) (fun c2 => ?_) | refine x_condN (fun c2 => ?_) (fun c2 => ?_) | refine x_condE (fun c2 => ?_) (fun c2 => ?_)
   ·
    have hk1 : k < xs.length := by omega
    have hk2 : k < ys.length := by omega
    refine x_skip ?_
    refine x_seq ?_
    refine x_block ?_
    refine x_seq ?_
    refine x_regionL ?_
    refine xl_v v_move ?_
    refine xl_v (v_indexF k (by decide) rfl (by omega) hk1) ?_
    refine xl_v (v_loadF (k := k) (by decide) hk1) ?_
    refine xl_e (e_alloc fun b2 w2 n2 l2 k2 => ?_)
    refine xl_v v_assign ?_
    refine xl_s (e_storeA fun w3 l3 k3 => ?_)
    refine xl_nil ?_
    haveI : Row w3 B (ys.flatMap wrC) := by
     haveI lkx : Lk w3 w NoB := lkc
     exact inferInstance
    refine x_seq ?_
    refine x_regionL ?_
    refine xl_v v_move ?_
    refine xl_v v_move ?_
    refine xl_v (v_indexF k (by decide) rfl (by omega) hk2) ?_
    refine xl_v (v_loadF (k := k) (by decide) hk2) ?_
    refine xl_e (e_alloc fun b4 w4 n4 l4 k4 => ?_)
    refine xl_s (e_storeA fun w5 l5 k5 => ?_)
    refine xl_nil ?_
    refine x_seq ?_
    refine x_regionL ?_
    refine xl_v v_move ?_
    refine xl_La ?_
    refine xl_La ?_
    refine xl_callv ((hp k hk1 hk2 w5 lkc)) ?_
    rintro _ w6 ⟨rfl, lk3⟩
    refine xl_v v_not ?_
    refine xl_nil ?_
    refine x_condE (fun c3 => ?_) (fun c3 => ?_)
    ·
     refine x_seq ?_
     refine x_regionL ?_
     refine xl_v v_assign ?_
     refine xl_nil ?_
     refine x_ret ?_
     refine fin1 rfl ?_
     refine ⟨?_, lkc⟩
     have h1 : (List.range n).all p = false := by
      rw [List.all_eq_false]
      exact ⟨k, by simp; omega, by simpa using c3⟩
     rw [h1, Bool.and_false]
    ·
     refine x_skip ?_
     refine x_regionL ?_
     refine xl_v (v_add (by omega)) ?_
     refine xl_v v_move ?_
     refine xl_nil ?_
     refine ⟨_, ?_, rfl, k + 1, rfl, by omega, ?_, inferInstance, inferInstance, inferInstance, inferInstance, evc, lkc⟩
     ·omega
     ·intro i hi
      by_cases h : i = k
      ·subst h; simpa using c3
      ·exact hall i (by omega)
   ·
    refine x_exit ?_
    refine x_seq ?_
    refine x_regionL ?_
    refine xl_v v_assign ?_
    refine xl_nil ?_
    refine x_ret ?_
    refine fin1 rfl ?_
    refine ⟨?_, lkc⟩
    have h1 : (List.range n).all p = true := by
     rw [List.all_eq_true]
     intro i hi
     exact hall i (by simp at hi; omega)
    rw [h1, decide_eq_true hnn]
    rfl

/-- slices.Clone[[]int,int] -/
theorem cloneI_ok (A : Option Addr) (n c : Nat) (cs : List Value) (w : World) [Row w A cs] (hl : cs.length = n * 1) (hn : n ≤ 100000000) (h1 : ∀ u ∈ cs, u.oneCell' = true) (hA : A.isSome = true ∨ n = 0) : Ret Try.prog 34 #[.slice A n c] w (fun v w' => (∃ A' c', v = .slice A' n c' ∧ w'.ownsRow w.heap.size 3 1 v n cs) ∧ Lk w' w NoB) := by
 refine ret_of_x (N := 8) (l := [.slice A n c]) Try.func34 rfl rfl (Nat.le_of_ble_eq_true rfl) ?_
 refine x_seq ?_
 refine x_regionL ?_
 refine xl_v v_assign ?_
 refine xl_nil ?_
 refine x_seq ?_
 refine x_seq ?_
 refine x_regionL ?_
 refine xl_v v_move ?_
 refine xl_v v_eql_slice ?_
 refine xl_nil ?_
 refine x_condE (fun c1 => ?_) (fun c1 => ?_)
 ·
  have hn0 : n = 0 := hA.resolve_left (by cases A <;> simp_all)
  refine x_seq ?_
  refine x_regionL ?_
  refine xl_v v_assign ?_
  refine xl_nil ?_
  refine x_ret ?_
  refine fin1 rfl ?_
  subst hn0
  obtain rfl : cs = [] := List.eq_nil_of_length_eq_zero (by simpa using hl)
  exact ⟨⟨none, 0, rfl, World.ownsRow_nil _ _ _ _⟩, lkc⟩
 ·
  refine x_skip ?_
  refine x_seq ?_
  refine x_regionL ?_
  refine xl_e (e_buildSlice0 fun b0 w1 n0 l0 k0 => ?_)
  refine xl_v v_move ?_
  have ho0 : World.ownsRow w1 w.heap.size 3 1 (.slice (some ⟨b0, 0, none⟩) 0 0) 0 [] := ownsRow_blk (by rw [n0.eq]; exact Nat.le_refl _) k0.eq (by simp) (by omega)
  haveI := ownN_of ho0 (Nat.le_refl _)
  refine xl_e (e_append' ho0 Ge.le hl h1 (by decide) hA (by omega) (by omega) fun A2 c2 w2 ho2 l2 _ => ?_)
  refine xl_v v_assign ?_
  refine xl_nil ?_
  refine x_ret ?_
  refine fin1 rfl ?_
  exact ⟨⟨A2, c2, by rw [Nat.zero_add], by simpa using ho2⟩, lkc⟩

/-- slices.Clone[[]bool,bool] -/
theorem cloneB_ok (A : Option Addr) (n c : Nat) (cs : List Value) (w : World) [Row w A cs] (hl : cs.length = n * 1) (hn : n ≤ 100000000) (h1 : ∀ u ∈ cs, u.oneCell' = true) (hA : A.isSome = true ∨ n = 0) : Ret Try.prog 36 #[.slice A n c] w (fun v w' => (∃ A' c', v = .slice A' n c' ∧ w'.ownsRow w.heap.size 4 1 v n cs) ∧ Lk w' w NoB) := by
 refine ret_of_x (N := 8) (l := [.slice A n c]) Try.func36 rfl rfl (Nat.le_of_ble_eq_true rfl) ?_
 refine x_seq ?_
 refine x_regionL ?_
 refine xl_v v_assign ?_
 refine xl_nil ?_
 refine x_seq ?_
 refine x_seq ?_
 refine x_regionL ?_
 refine xl_v v_move ?_
 refine xl_v v_eql_slice ?_
 refine xl_nil ?_
 refine x_condE (fun c1 => ?_) (fun c1 => ?_)
 ·
  have hn0 : n = 0 := hA.resolve_left (by cases A <;> simp_all)
  refine x_seq ?_
  refine x_regionL ?_
  refine xl_v v_assign ?_
  refine xl_nil ?_
  refine x_ret ?_
  refine fin1 rfl ?_
  subst hn0
  obtain rfl : cs = [] := List.eq_nil_of_length_eq_zero (by simpa using hl)
  exact ⟨⟨none, 0, rfl, World.ownsRow_nil _ _ _ _⟩, lkc⟩
 ·
  refine x_skip ?_
  refine x_seq ?_
  refine x_regionL ?_
  refine xl_e (e_buildSlice0 fun b0 w1 n0 l0 k0 => ?_)
  refine xl_v v_move ?_
  have ho0 : World.ownsRow w1 w.heap.size 4 1 (.slice (some ⟨b0, 0, none⟩) 0 0) 0 [] := ownsRow_blk (by rw [n0.eq]; exact Nat.le_refl _) k0.eq (by simp) (by omega)
  haveI := ownN_of ho0 (Nat.le_refl _)
  refine xl_e (e_append' ho0 Ge.le hl h1 (by decide) hA (by omega) (by omega) fun A2 c2 w2 ho2 l2 _ => ?_)
  refine xl_v v_assign ?_
  refine xl_nil ?_
  refine x_ret ?_
  refine fin1 rfl ?_
  exact ⟨⟨A2, c2, by rw [Nat.zero_add], by simpa using ho2⟩, lkc⟩

/-- waystation/meta.rising[int] -/
theorem rising_ok (A : Option Addr) (n c : Nat) (xs : List Int) (w : World) [Row w A (ints xs)] (hl : xs.length = n) (hn : n ≤ 1000000000) : Ret Try.prog 71 #[.slice A n c] w (fun v w' => v = .bool (decide (xs.Pairwise (· < ·))) ∧ Lk w' w NoB) := by
 refine ret_of_x (N := 20) (l := [.slice A n c]) Try.func71 rfl rfl (Nat.le_of_ble_eq_true rfl) ?_
 refine x_seq ?_
 refine x_regionL ?_
 refine xl_v v_assign ?_
 refine xl_nil ?_
 refine x_seq ?_
 refine x_seq ?_
 refine x_regionL ?_
 refine xl_v v_assign ?_
 refine xl_nil ?_
 refine x_block ?_
 refine x_loop (fun m τ ds w' => ds = [] ∧ ∃ k : Nat, m = n - k ∧ (xs.take (k + 1)).Pairwise (· < ·) ∧ Ev τ 0 (.slice A n c) ∧ Ev τ 3 (.int .i64 ((k + 1 : Nat) : Int)) ∧ Lk w' w NoB) (n) ?start ?round
 case start =>
  refine ⟨rfl, 0, rfl, ?_, inferInstance, evc, lkc⟩
  cases xs <;> simp
 case round =>
  intro m τ1 ds1 w1 hI
  obtain ⟨rfl, k, rfl, hpw, e0, e3, lk⟩ := hI
  refine x_seq ?_
  refine x_seq ?_
  refine x_regionL ?_
  refine xl_v v_move ?_
  refine xl_v v_move ?_
  refine xl_v v_len ?_
  refine xl_v v_lss ?_
  refine xl_nil ?_
  first | refine x_condP (fun c1 => ?_) (fun c1 => ?_) | refine x_condN (fun c1 => ?_) (fun c1 => ?_) | refine x_condE (fun c1 => ?_) (fun c1 => ?_)
  ·
   have hk1 : k + 1 < xs.length := by omega
   refine x_skip ?_
   refine x_seq ?_
   refine x_block ?_
   refine x_seq ?_
   refine x_drawL (NoB) (allS) (.take 0 (.take 1 (.take 2 (.take 3 (.take 4 (.take 5 (.take 6 (.take 7 (.take 8 (.take 9 .done)))))))))) mixed (by kernel_rfl) (fun _ _ _ _ _ h => h) (fun w2 l2 => ?_)
   refine xt_v rfl v_move ?_
   refine xt_v rfl v_move ?_
   refine xt_v rfl (v_indexO (k + 1) rfl (by omega) hk1) ?_
   refine xt_v rfl (v_loadO (k := k + 1) hk1) ?_
   refine xt_v rfl v_move ?_
   refine xt_v rfl v_move ?_
   refine xt_v rfl (v_sub (by omega)) ?_
   refine xt_v rfl (v_indexO k (by omega) (by omega) (by omega : k < xs.length)) ?_
   refine xt_v rfl (v_loadO (k := k) (by omega : k < xs.length)) ?_
   refine xt_v rfl v_leq ?_
   refine xt_nil ?_
   first | refine x_condP (fun c2 => ?_) (fun c2 => ?_) | refine x_condN (fun c2 => ?_) (fun c2 => ?_) | refine x_condE (fun c2 => ?_) (fun c2 => ?_)
   ·
    refine x_seq ?_
    refine x_regionL ?_
    refine xl_v v_assign ?_
    refine xl_nil ?_
    refine x_ret ?_
    refine fin1 rfl ?_
    refine ⟨congrArg Value.bool (decide_eq_false fun h => ?_).symm, lkc⟩
    have := List.pairwise_iff_getElem.1 h k (k + 1) (by omega) hk1 (by omega)
    omega
   ·
    refine x_skip ?_
    refine x_regionL ?_
    refine xl_v v_move ?_
    refine xl_v (v_add (by omega)) ?_
    refine xl_v v_assign ?_
    refine xl_nil ?_
    refine ⟨_, ?_, rfl, k + 1, rfl, ?_, inferInstance, evc, lkc⟩
    ·omega
    ·rw [take_snoc _ _ hk1, List.pairwise_append]
     refine ⟨hpw, List.pairwise_singleton _ _, fun a ha b hb => ?_⟩
     obtain rfl : b = xs[k + 1] := by simpa using hb
     rw [take_snoc _ _ (by omega : k < xs.length)] at ha hpw
     rcases List.mem_append.1 ha with ha | ha
     ·have := (List.pairwise_append.1 hpw).2.2 a ha xs[k] (by simp)
      omega
     ·obtain rfl : a = xs[k] := by simpa using ha
      omega
  ·
   refine x_exit ?_
   refine x_seq ?_
   refine x_regionL ?_
   refine xl_v v_assign ?_
   refine xl_nil ?_
   refine x_ret ?_
   refine fin1 rfl ?_
   refine ⟨congrArg Value.bool (decide_eq_true ?_).symm, lkc⟩
   rw [List.take_of_length_le (by omega)] at hpw
   exact hpw
end Go.Proofs.Ytnjpladlfiaojaa
