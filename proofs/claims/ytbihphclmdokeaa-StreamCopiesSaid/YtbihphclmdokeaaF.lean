/-
  Walks, printed by a program of this workplace (wip/tools/sx.py) off the functions' code and a text of contracts.
-/
import Derived.Test.YtbihphclmdokeaaE
set_option linter.all false
set_option maxRecDepth 100000
set_option synthInstance.maxSize 100000
set_option synthInstance.maxHeartbeats 400000
namespace Go.Proofs.Ytbihphclmdokeaa
open Go.Wst
open Go.Wst.Sm

/-- waystation/stream.each[waystation/api.Item,waystation/api.Item] -/
theorem eachxx_ok (A : Option Addr) (n c : Nat) (xs : List Itm) (f : FuncId) (cl : List Value) (g : Nat → Itm → Itm) (w : World) [Fun Try.prog f] [Row w A (xs.flatMap itemC)] (hl : xs.length = n) (hn : n ≤ 1000000000) (hp : ∀ i (h : i < xs.length), ∀ W, Lk W w NoB → Ret Try.prog f ((.int .i64 (i : Int) :: .agg (itemC xs[i]).toArray :: cl) : List Value).toArray W (fun v w' => v = .agg (itemC (g i xs[i])).toArray ∧ Lk w' W NoB)) : Ret Try.prog 49 #[.slice A n c, .func (.func f) ([] : List Value).toArray cl.toArray] w (fun v w' => (∃ A' c', v = .slice A' n c' ∧ w'.ownsRow w.heap.size 74 3 v n ((xs.mapIdx g).flatMap itemC)) ∧ Lk w' w NoB) := by
  refine ret_of_x (N := 24) (l := [.slice A n c, .func (.func f) ([] : List Value).toArray cl.toArray]) Try.func49 rfl rfl (Nat.le_of_ble_eq_true rfl) ?_
  refine x_seq ?_
  refine x_regionL ?_
  refine xl_v v_assign ?_
  refine xl_nil ?_
  refine x_seq ?_
  refine x_regionL ?_
  refine xl_v v_assign ?_
  refine xl_nil ?_
  refine x_seq ?_
  refine x_seq ?_
  refine x_regionL ?_
  refine xl_v v_move ?_
  refine xl_v v_len ?_
  refine xl_v v_move ?_
  refine xl_nil ?_
  refine x_block ?_
  refine x_loop (fun m τ ds w' => ds = [] ∧ ∃ k : Nat, ∃ V : Value, m = n - k ∧ k ≤ n ∧ w'.ownsRow w.heap.size 74 3 V k (((xs.mapIdx g).take k).flatMap itemC) ∧ Ev τ 1 (.func (.func f) ([] : List Value).toArray cl.toArray) ∧ Ev τ 5 V ∧ Ev τ 8 (.slice A n c) ∧ Ev τ 9 (.int .i64 (n : Int)) ∧ Ev τ 10 (.int .i64 (k : Int)) ∧ Lk w' w NoB) (n) ?start ?round
  case start =>
    exact ⟨rfl, 0, _, rfl, Nat.zero_le _, World.ownsRow_nil _ _ _ _, inferInstance, inferInstance, inferInstance, inferInstance, evc, lkc⟩
  case round =>
    intro m τ1 ds1 w1 hI
    obtain ⟨rfl, k, V, rfl, hk, hown, e1, e5, e8, e9, e10, lk⟩ := hI
    refine x_seq ?_
    refine x_regionL ?_
    refine xl_v v_lss ?_
    refine xl_nil ?_
    refine x_seq ?_
    first | refine x_condP (fun c1 => ?_) (fun c1 => ?_) | refine x_condN (fun c1 => ?_) (fun c1 => ?_) | refine x_condE (fun c1 => ?_) (fun c1 => ?_)
    ·
      have hk1 : k < xs.length := by omega
      have hA := row_some (w := w) (A := A) (cs := xs.flatMap itemC) inferInstance (by rw [flat_len (sz := 3) (fun _ => rfl)]; omega)
      refine x_skip ?_
      refine x_seq ?_
      refine x_block ?_
      refine x_seq ?_
      refine x_regionL ?_
      refine xl_v v_move ?_
      refine xl_v (v_indexAddr k rfl (by omega) hA) ?_
      refine xl_v (v_loadRA (vs := itemC xs[k]) rfl hA (flat_get (enc := itemC) (fun _ => rfl) xs k hk1)) ?_
      refine xl_e (e_alloc fun b2 w2 n2 l2 k2 => ?_)
      refine xl_v v_assign ?_
      refine xl_s (e_storeA fun w3 l3 k3 => ?_)
      refine xl_nil ?_
      refine x_regionL ?_
      refine xl_v v_move ?_
      refine xl_v v_move ?_
      refine xl_v v_move ?_
      refine xl_v (by first | exact v_loadA | exact v_loadF (by decide) (by omega)) ?_
      refine xl_call (hp k hk1 w3 lkc) ?_
      rintro _ w4 ⟨rfl, lk2⟩
      refine xl_e (e_buildSlice1 rfl fun b5 w5 n5 l5 k5 => ?_)
      haveI := ownN_of hown (Nat.le_refl _)
      refine xl_e (e_append' (own_ext hown lkc) Ge.le rfl Cell1L.eq (by decide) (.inl rfl) (by omega) (by omega) fun A6 c6 w6 hown2 l6 _ => ?_)
      have hown2 : World.ownsRow w6 w.heap.size 74 3 (.slice A6 (k + 1) c6) (k + 1) (((xs.mapIdx g).take (k + 1)).flatMap itemC) := by
        rw [take_snoc _ k (by simpa using hk1), List.flatMap_append]
        simpa using hown2
      refine xl_v v_assign ?_
      refine xl_nil ?_
      refine x_regionL ?_
      refine xl_v (v_add (by omega)) ?_
      refine xl_v v_move ?_
      refine xl_nil ?_
      refine ⟨_, ?_, rfl, k + 1, _, rfl, by omega, hown2, inferInstance, inferInstance, inferInstance, inferInstance, evc, lkc⟩
      omega
    ·
      refine x_exit ?_
      refine x_seq ?_
      refine x_regionL ?_
      refine xl_v v_move ?_
      refine xl_v v_assign ?_
      refine xl_nil ?_
      refine x_ret ?_
      refine fin1 rfl ?_
      have hkn : k = n := by omega
      subst hkn
      rw [List.take_of_length_le (by simp; omega)] at hown
      obtain ⟨A', c', rfl, _⟩ := ownsRow_form hown
      exact ⟨⟨A', c', rfl, hown⟩, lkc⟩

/-- waystation/stream.each[waystation/api.Item,int64] -/
theorem eachxi_ok (A : Option Addr) (n c : Nat) (xs : List Itm) (f : FuncId) (cl : List Value) (g : Nat → Itm → Int) (w : World) [Fun Try.prog f] [Row w A (xs.flatMap itemC)] (hl : xs.length = n) (hn : n ≤ 1000000000) (hp : ∀ i (h : i < xs.length), ∀ W, Lk W w NoB → Ret Try.prog f ((.int .i64 (i : Int) :: .agg (itemC xs[i]).toArray :: cl) : List Value).toArray W (fun v w' => v = .int .i64 (g i xs[i]) ∧ Lk w' W NoB)) : Ret Try.prog 65 #[.slice A n c, .func (.func f) ([] : List Value).toArray cl.toArray] w (fun v w' => (∃ A' c', v = .slice A' n c' ∧ w'.ownsRow w.heap.size 2 1 v n ((xs.mapIdx g).flatMap intC)) ∧ Lk w' w NoB) := by
  refine ret_of_x (N := 24) (l := [.slice A n c, .func (.func f) ([] : List Value).toArray cl.toArray]) Try.func65 rfl rfl (Nat.le_of_ble_eq_true rfl) ?_
  refine x_seq ?_
  refine x_regionL ?_
  refine xl_v v_assign ?_
  refine xl_nil ?_
  refine x_seq ?_
  refine x_regionL ?_
  refine xl_v v_assign ?_
  refine xl_nil ?_
  refine x_seq ?_
  refine x_seq ?_
  refine x_regionL ?_
  refine xl_v v_move ?_
  refine xl_v v_len ?_
  refine xl_v v_move ?_
  refine xl_nil ?_
  refine x_block ?_
  refine x_loop (fun m τ ds w' => ds = [] ∧ ∃ k : Nat, ∃ V : Value, m = n - k ∧ k ≤ n ∧ w'.ownsRow w.heap.size 2 1 V k (((xs.mapIdx g).take k).flatMap intC) ∧ Ev τ 1 (.func (.func f) ([] : List Value).toArray cl.toArray) ∧ Ev τ 5 V ∧ Ev τ 8 (.slice A n c) ∧ Ev τ 9 (.int .i64 (n : Int)) ∧ Ev τ 10 (.int .i64 (k : Int)) ∧ Lk w' w NoB) (n) ?start ?round
  case start =>
    exact ⟨rfl, 0, _, rfl, Nat.zero_le _, World.ownsRow_nil _ _ _ _, inferInstance, inferInstance, inferInstance, inferInstance, evc, lkc⟩
  case round =>
    intro m τ1 ds1 w1 hI
    obtain ⟨rfl, k, V, rfl, hk, hown, e1, e5, e8, e9, e10, lk⟩ := hI
    refine x_seq ?_
    refine x_regionL ?_
    refine xl_v v_lss ?_
    refine xl_nil ?_
    refine x_seq ?_
    first | refine x_condP (fun c1 => ?_) (fun c1 => ?_) | refine x_condN (fun c1 => ?_) (fun c1 => ?_) | refine x_condE (fun c1 => ?_) (fun c1 => ?_)
    ·
      have hk1 : k < xs.length := by omega
      have hA := row_some (w := w) (A := A) (cs := xs.flatMap itemC) inferInstance (by rw [flat_len (sz := 3) (fun _ => rfl)]; omega)
      refine x_skip ?_
      refine x_seq ?_
      refine x_block ?_
      refine x_seq ?_
      refine x_regionL ?_
      refine xl_v v_move ?_
      refine xl_v (v_indexAddr k rfl (by omega) hA) ?_
      refine xl_v (v_loadRA (vs := itemC xs[k]) rfl hA (flat_get (enc := itemC) (fun _ => rfl) xs k hk1)) ?_
      refine xl_e (e_alloc fun b2 w2 n2 l2 k2 => ?_)
      refine xl_v v_assign ?_
      refine xl_s (e_storeA fun w3 l3 k3 => ?_)
      refine xl_nil ?_
      refine x_regionL ?_
      refine xl_v v_move ?_
      refine xl_v v_move ?_
      refine xl_v v_move ?_
      refine xl_v (by first | exact v_loadA | exact v_loadF (by decide) (by omega)) ?_
      refine xl_call (hp k hk1 w3 lkc) ?_
      rintro _ w4 ⟨rfl, lk2⟩
      refine xl_e (e_buildSlice1 rfl fun b5 w5 n5 l5 k5 => ?_)
      haveI := ownN_of hown (Nat.le_refl _)
      refine xl_e (e_append' (own_ext hown lkc) Ge.le rfl Cell1L.eq (by decide) (.inl rfl) (by omega) (by omega) fun A6 c6 w6 hown2 l6 _ => ?_)
      have hown2 : World.ownsRow w6 w.heap.size 2 1 (.slice A6 (k + 1) c6) (k + 1) (((xs.mapIdx g).take (k + 1)).flatMap intC) := by
        rw [take_snoc _ k (by simpa using hk1), List.flatMap_append]
        simpa using hown2
      refine xl_v v_assign ?_
      refine xl_nil ?_
      refine x_regionL ?_
      refine xl_v (v_add (by omega)) ?_
      refine xl_v v_move ?_
      refine xl_nil ?_
      refine ⟨_, ?_, rfl, k + 1, _, rfl, by omega, hown2, inferInstance, inferInstance, inferInstance, inferInstance, evc, lkc⟩
      omega
    ·
      refine x_exit ?_
      refine x_seq ?_
      refine x_regionL ?_
      refine xl_v v_move ?_
      refine xl_v v_assign ?_
      refine xl_nil ?_
      refine x_ret ?_
      refine fin1 rfl ?_
      have hkn : k = n := by omega
      subst hkn
      rw [List.take_of_length_le (by simp; omega)] at hown
      obtain ⟨A', c', rfl, _⟩ := ownsRow_form hown
      exact ⟨⟨A', c', rfl, hown⟩, lkc⟩

/-- slices.IndexFunc[[]waystation/api.Item,waystation/api.Item] -/
theorem indexx_ok (A : Option Addr) (n c : Nat) (xs : List Itm) (f : FuncId) (cl : List Value) (p : Itm → Bool) (w : World) [Fun Try.prog f] [Row w A (xs.flatMap itemC)] (hl : xs.length = n) (hn : n ≤ 1000000000) (hp : ∀ x ∈ xs, ∀ W, Lk W w NoB → Ret Try.prog f ((.agg (itemC x).toArray :: cl) : List Value).toArray W (fun v w' => v = .bool (p x) ∧ Lk w' W NoB)) : Ret Try.prog 77 #[.slice A n c, .func (.func f) ([] : List Value).toArray cl.toArray] w (fun v w' => v = .int .i64 (idx p xs) ∧ Lk w' w NoB) := by
  refine ret_of_x (N := 19) (l := [.slice A n c, .func (.func f) ([] : List Value).toArray cl.toArray]) Try.func77 rfl rfl (Nat.le_of_ble_eq_true rfl) ?_
  refine x_seq ?_
  refine x_regionL ?_
  refine xl_v v_assign ?_
  refine xl_nil ?_
  refine x_seq ?_
  refine x_seq ?_
  refine x_regionL ?_
  refine xl_v v_move ?_
  refine xl_v v_len ?_
  refine xl_v v_move ?_
  refine xl_nil ?_
  refine x_block ?_
  refine x_loop (fun m τ ds w' => ds = [] ∧ ∃ k : Nat, m = n - k ∧ k ≤ n ∧ (∀ j (h : j < xs.length), j < k → p xs[j] = false) ∧ Ev τ 0 (.slice A n c) ∧ Ev τ 1 (.func (.func f) ([] : List Value).toArray cl.toArray) ∧ Ev τ 7 (.int .i64 (n : Int)) ∧ Ev τ 8 (.int .i64 (k : Int)) ∧ Lk w' w NoB) (n) ?start ?round
  case start =>
    exact ⟨rfl, 0, rfl, Nat.zero_le _, fun _ _ h => absurd h (Nat.not_lt_zero _), inferInstance, inferInstance, inferInstance, evc, lkc⟩
  case round =>
    intro m τ1 ds1 w1 hI
    obtain ⟨rfl, k, rfl, hk, hno, e0, e1, e7, e8, lk⟩ := hI
    refine x_seq ?_
    refine x_regionL ?_
    refine xl_v v_lss ?_
    refine xl_nil ?_
    refine x_seq ?_
    first | refine x_condP (fun c1 => ?_) (fun c1 => ?_) | refine x_condN (fun c1 => ?_) (fun c1 => ?_) | refine x_condE (fun c1 => ?_) (fun c1 => ?_)
    ·
      have hk1 : k < xs.length := by omega
      have hA := row_some (w := w) (A := A) (cs := xs.flatMap itemC) inferInstance (by rw [flat_len (sz := 3) (fun _ => rfl)]; omega)
      refine x_skip ?_
      refine x_seq ?_
      refine x_block ?_
      refine x_seq ?_
      refine x_regionL ?_
      refine xl_v v_move ?_
      refine xl_v v_assign ?_
      refine xl_nil ?_
      refine x_seq ?_
      refine x_regionL ?_
      refine xl_v v_move ?_
      refine xl_v v_move ?_
      refine xl_v v_move ?_
      refine xl_v (v_indexAddr k rfl (by omega) hA) ?_
      refine xl_v (v_loadRA (vs := itemC xs[k]) rfl hA (flat_get (enc := itemC) (fun _ => rfl) xs k hk1)) ?_
      refine xl_call (hp xs[k] (List.getElem_mem hk1) w1 lkc) ?_
      rintro _ w2 ⟨rfl, lk2⟩
      refine xl_nil ?_
      refine x_condE (fun c2 => ?_) (fun c2 => ?_)
      ·
        refine x_seq ?_
        refine x_regionL ?_
        refine xl_v v_move ?_
        refine xl_v v_assign ?_
        refine xl_nil ?_
        refine x_ret ?_
        refine fin1 rfl ?_
        exact ⟨by rw [idx_found hk1 hno c2], lkc⟩
      ·
        refine x_skip ?_
        refine x_regionL ?_
        refine xl_v (v_add (by omega)) ?_
        refine xl_v v_move ?_
        refine xl_nil ?_
        refine ⟨_, ?_, rfl, k + 1, rfl, by omega, ?_, inferInstance, inferInstance, inferInstance, evc, lkc⟩
        · omega
        · intro j hj hjk
          by_cases h : j = k
          · subst h; exact c2
          · exact hno j hj (by omega)
    ·
      refine x_exit ?_
      refine x_seq ?_
      refine x_regionL ?_
      refine xl_v v_assign ?_
      refine xl_nil ?_
      refine x_ret ?_
      refine fin1 rfl ?_
      exact ⟨by rw [idx_none fun j hj => hno j hj (by omega)], lkc⟩

/-- slices.Clone[[]waystation/api.Item,waystation/api.Item] -/
theorem clonex_ok (A : Option Addr) (n c : Nat) (cs : List Value) (w : World) [Row w A cs] (hl : cs.length = n * 3) (hn : n ≤ 100000000) (h1 : ∀ u ∈ cs, u.oneCell' = true) (hA : A.isSome = true ∨ n = 0) : Ret Try.prog 62 #[.slice A n c] w (fun v w' => (∃ A' c', v = .slice A' n c' ∧ w'.ownsRow w.heap.size 74 3 v n cs) ∧ Lk w' w NoB) := by
  refine ret_of_x (N := 8) (l := [.slice A n c]) Try.func62 rfl rfl (Nat.le_of_ble_eq_true rfl) ?_
  refine x_seq ?_
  refine x_regionL ?_
  refine xl_v v_assign ?_
  refine xl_nil ?_
  refine x_seq ?_
  refine x_seq ?_
  refine x_regionL ?_
  refine xl_v v_move ?_
  refine xl_v v_eql_slice ?_
  refine xl_nil ?_
  refine x_condE (fun c1 => ?_) (fun c1 => ?_)
  ·
    have hn0 : n = 0 := hA.resolve_left (by cases A <;> simp_all)
    refine x_seq ?_
    refine x_regionL ?_
    refine xl_v v_assign ?_
    refine xl_nil ?_
    refine x_ret ?_
    refine fin1 rfl ?_
    subst hn0
    obtain rfl : cs = [] := List.eq_nil_of_length_eq_zero (by simpa using hl)
    exact ⟨⟨none, 0, rfl, World.ownsRow_nil _ _ _ _⟩, lkc⟩
  ·
    refine x_skip ?_
    refine x_seq ?_
    refine x_regionL ?_
    refine xl_e (e_buildSlice0 fun b0 w1 n0 l0 k0 => ?_)
    refine xl_v v_move ?_
    have ho0 : World.ownsRow w1 w.heap.size 74 3 (.slice (some ⟨b0, 0, none⟩) 0 0) 0 [] := ownsRow_blk (by rw [n0.eq]; exact Nat.le_refl _) k0.eq (by simp) (by omega)
    haveI := ownN_of ho0 (Nat.le_refl _)
    refine xl_e (e_append' ho0 Ge.le hl h1 (by decide) hA (by omega) (by omega) fun A2 c2 w2 ho2 l2 _ => ?_)
    refine xl_v v_assign ?_
    refine xl_nil ?_
    refine x_ret ?_
    refine fin1 rfl ?_
    exact ⟨⟨A2, c2, by rw [Nat.zero_add], by simpa using ho2⟩, lkc⟩

/-- slices.DeleteFunc[[]waystation/api.Item,waystation/api.Item] -/
theorem deletex_ok (A : Option Addr) (n c base : Nat) (xs : List Itm) (f : FuncId) (cl : List Value) (p : Itm → Bool) (w : World) [Fun Try.prog f] (hown : w.ownsRow base 74 3 (.slice A n c) n (xs.flatMap itemC)) (hl : xs.length = n) (hn : n ≤ 1000000000) (hp : ∀ x ∈ xs, ∀ W, Lk W w (OwnB (.slice A n c)) → Ret Try.prog f ((.agg (itemC x).toArray :: cl) : List Value).toArray W (fun v w' => v = .bool (p x) ∧ Lk w' W NoB)) : Ret Try.prog 63 #[.slice A n c, .func (.func f) ([] : List Value).toArray cl.toArray] w (fun v w' => (∃ k : Nat, v = .slice A k c ∧ w'.ownsRow base 74 3 v k ((xs.filter (fun x => !p x)).flatMap itemC) ∧ k = (xs.filter (fun x => !p x)).length) ∧ Lk w' w (OwnB (.slice A n c))) := by
  obtain ⟨A0, cap0, hA0, _, hcap, hrow⟩ := ownsRow_form hown
  cases hA0
  haveI : Row w A _ := ⟨hrow⟩
  refine ret_of_x (N := 42) (l := [.slice A n c, .func (.func f) ([] : List Value).toArray cl.toArray]) Try.func63 rfl rfl (Nat.le_of_ble_eq_true rfl) ?_
  refine x_seq ?_
  refine x_regionL ?_
  refine xl_v v_assign ?_
  refine xl_nil ?_
  refine x_seq ?_
  refine x_regionL ?_
  refine xl_v v_move ?_
  refine xl_v v_move ?_
  refine xl_call (indexx_ok A n c xs f cl p _ hl hn (fun x hx W l => hp x hx W ⟨l.keep.mono (fun _ _ h => h.elim)⟩)) ?_
  rintro _ w1 ⟨rfl, lk⟩
  refine xl_v v_assign ?_
  refine xl_nil ?_
  refine x_seq ?_
  refine x_seq ?_
  refine x_regionL ?_
  refine xl_v v_move ?_
  refine xl_v v_eql ?_
  refine xl_nil ?_
  first | refine x_condP (fun c1 => ?_) (fun c1 => ?_) | refine x_condN (fun c1 => ?_) (fun c1 => ?_) | refine x_condE (fun c1 => ?_) (fun c1 => ?_)
  ·
    have hall : xs.filter (fun x => !p x) = xs := by
      rcases idx_cases p xs with ⟨_, h⟩ | ⟨k, _, h, _⟩
      · exact filter_none h
      · omega
    refine x_seq ?_
    refine x_regionL ?_
    refine xl_v v_move ?_
    refine xl_v v_assign ?_
    refine xl_nil ?_
    refine x_ret ?_
    refine fin1 rfl ?_
    refine ⟨⟨n, rfl, ?_, by rw [hall, hl]⟩, lkc⟩
    rw [hall]
    exact own_ext hown lkc
  ·
    obtain ⟨k0, hk0, hidx, hpk, hbefore⟩ : ∃ k : Nat, ∃ h : k < xs.length, idx p xs = (k : Int) ∧ p xs[k] = true ∧ ∀ x ∈ xs.take k, p x = false := by
      rcases idx_cases p xs with ⟨h, _⟩ | h
      · exact absurd h c1
      · exact h
    refine x_skip ?_
    refine x_seq ?_
    refine x_seq ?_
    refine x_regionL ?_
    refine xl_v v_move ?_
    refine xl_v (v_add (by omega)) ?_
    refine xl_v v_assign ?_
    refine xl_nil ?_
    refine x_block ?_
    have hw0 := lk
    refine x_loop (fun m τ ds w' => ds = [] ∧ ∃ i j : Nat, ∃ ys : List Itm, m = n - j ∧ i < j ∧ j ≤ n ∧ ys.length = n ∧ ys.take i = (xs.take j).filter (fun x => !p x) ∧ ys.drop j = xs.drop j ∧ w'.ownsRow base 74 3 (.slice A n c) n (ys.flatMap itemC) ∧ Ev τ 0 (.slice A n c) ∧ Ev τ 1 (.func (.func f) ([] : List Value).toArray cl.toArray) ∧ Ev τ 5 (.int .i64 (i : Int)) ∧ Ev τ 6 (.int .i64 (j : Int)) ∧ Lk w' w (OwnB (.slice A n c))) (n - (k0 + 1)) ?start ?round
    case start =>
      refine ⟨rfl, k0, k0 + 1, xs, rfl, by omega, by omega, hl, ?_, rfl, own_ext hown lkc, inferInstance, inferInstance, evc (by rw [hidx]), evc (by rw [hidx]; rfl), lkc⟩
      rw [take_snoc _ _ hk0, List.filter_append, filter_none hbefore]
      simp [hpk]
    case round =>
      intro m τ2 ds2 w2 hI
      obtain ⟨rfl, i, j, ys, rfl, hij, hjn, hyl, hyt, hyd, ho, e0, e1, e5, e6, lk⟩ := hI
      obtain ⟨A1, cap1, hA1, _, _, hrow1⟩ := ownsRow_form ho
      cases hA1
      haveI : Row w2 A _ := ⟨hrow1⟩
      refine x_seq ?_
      refine x_seq ?_
      refine x_regionL ?_
      refine xl_v v_move ?_
      refine xl_v v_move ?_
      refine xl_v v_len ?_
      refine xl_v v_lss ?_
      refine xl_nil ?_
      first | refine x_condP (fun c2 => ?_) (fun c2 => ?_) | refine x_condN (fun c2 => ?_) (fun c2 => ?_) | refine x_condE (fun c2 => ?_) (fun c2 => ?_)
      ·
        have hj1 : j < ys.length := by omega
        have hA := row_some (A := A) (cs := ys.flatMap itemC) (w := w2) inferInstance (by rw [flat_len (sz := 3) (fun _ => rfl)]; omega)
        have hxj : ys[j] = xs[j] := by
          have h1 : ys[j]? = xs[j]? := by
            have := congrArg (fun l => l[0]?) hyd
            simpa using this
          rw [List.getElem?_eq_getElem hj1, List.getElem?_eq_getElem (by omega)] at h1
          exact Option.some.inj h1
        refine x_skip ?_
        refine x_seq ?_
        refine x_block ?_
        refine x_seq ?_
        refine x_regionL ?_
        refine xl_v v_move ?_
        refine xl_v v_move ?_
        refine xl_v (v_indexAddr j rfl (by omega) hA) ?_
        refine xl_v (v_loadRA (vs := itemC ys[j]) rfl hA (flat_get (enc := itemC) (fun _ => rfl) ys j hj1)) ?_
        refine xl_e (e_alloc fun b3 w3 n3 l3 k3 => ?_)
        refine xl_s (e_storeA fun w4 l4 k4 => ?_)
        refine xl_nil ?_
        refine x_seq ?_
        refine x_regionL ?_
        refine xl_v v_move ?_
        refine xl_v (by first | exact v_loadA | exact v_loadF (by decide) (by omega)) ?_
        refine xl_call (hp ys[j] (by rw [hxj]; exact List.getElem_mem _) w4 lkc) ?_
        rintro _ w5 ⟨rfl, lk2⟩
        refine xl_v v_not ?_
        refine xl_nil ?_
        refine x_condE (fun c3 => ?_) (fun c3 => ?_)
        ·
          rw [hxj] at c3
          refine x_seq ?_
          refine x_regionL ?_
          refine xl_v v_move ?_
          refine xl_v v_move ?_
          refine xl_v (by first | exact v_loadA | exact v_loadF (by decide) (by omega)) ?_
          refine xl_v (v_indexAddr i rfl (by omega) hA) ?_
          refine xl_s (e_storeOwn (own_ext ho lkc) (by omega) (by decide) fun w6 l9 ho9 => ?_)
          rw [flat_set (enc := itemC) (fun _ => rfl) ys i ys[j] (by omega)] at ho9
          refine xl_nil ?_
          refine x_regionL ?_
          refine xl_v v_move ?_
          refine xl_v (v_add (by omega)) ?_
          refine xl_v v_assign ?_
          refine xl_nil ?_
          refine x_regionL ?_
          refine xl_v v_move ?_
          refine xl_v (v_add (by omega)) ?_
          refine xl_v v_assign ?_
          refine xl_nil ?_
          first
          | refine ⟨_, ?_, rfl, i + 1, j + 1, ys.set i ys[j], rfl, by omega, by omega, by simpa using hyl, ?_, ?_, ho9, inferInstance, inferInstance, evc, evc, lkc⟩
            · omega
            · rw [take_snoc _ _ (by simp; omega), List.take_set, List.set_eq_of_length_le (by simp; omega), hyt, take_snoc xs j (by omega), List.filter_append]
              simp [hxj, c3]
            · rw [List.drop_set_of_lt (by omega), ← List.drop_drop, hyd, List.drop_drop]
          | refine ⟨_, ?_, rfl, i, j + 1, ys, rfl, by omega, by omega, hyl, ?_, ?_, own_ext ho lkc, inferInstance, inferInstance, inferInstance, evc, lkc⟩
            · omega
            · rw [hyt, take_snoc xs j (by omega), List.filter_append]
              simp [c3]
            · rw [← List.drop_drop, hyd, List.drop_drop]
        ·
          rw [hxj] at c3
          refine x_skip ?_
          refine x_regionL ?_
          refine xl_v v_move ?_
          refine xl_v (v_add (by omega)) ?_
          refine xl_v v_assign ?_
          refine xl_nil ?_
          first
          | refine ⟨_, ?_, rfl, i + 1, j + 1, ys.set i ys[j], rfl, by omega, by omega, by simpa using hyl, ?_, ?_, ho9, inferInstance, inferInstance, evc, evc, lkc⟩
            · omega
            · rw [take_snoc _ _ (by simp; omega), List.take_set, List.set_eq_of_length_le (by simp; omega), hyt, take_snoc xs j (by omega), List.filter_append]
              simp [hxj, c3]
            · rw [List.drop_set_of_lt (by omega), ← List.drop_drop, hyd, List.drop_drop]
          | refine ⟨_, ?_, rfl, i, j + 1, ys, rfl, by omega, by omega, hyl, ?_, ?_, own_ext ho lkc, inferInstance, inferInstance, inferInstance, evc, lkc⟩
            · omega
            · rw [hyt, take_snoc xs j (by omega), List.filter_append]
              simp [c3]
            · rw [← List.drop_drop, hyd, List.drop_drop]
      ·
        refine x_exit ?_
        refine x_seq ?_
        refine x_regionL ?_
        refine xl_v v_move ?_
        refine xl_v v_move ?_
        refine xl_v (v_sliceL i rfl (by omega)) ?_
        refine xl_e0 (e_clearEnd ho rfl rfl (by omega) (by simp [Value.oneCell']) (by decide) fun w7 l11 ho11 => ?_)
        refine xl_nil ?_
        refine x_seq ?_
        refine x_regionL ?_
        refine xl_v v_move ?_
        refine xl_v v_move ?_
        refine xl_v (v_sliceH i rfl (by omega)) ?_
        refine xl_v v_assign ?_
        refine xl_nil ?_
        refine x_ret ?_
        refine fin1 rfl ?_
        have hjn2 : j = n := by omega
        have hfil : ys.take i = xs.filter (fun x => !p x) := by rw [hyt, List.take_of_length_le (by omega)]
        refine ⟨⟨i, rfl, ?_, ?_⟩, lkc⟩
        · rw [← hfil, flat_take (enc := itemC) (sz := 3) (fun _ => rfl)]
          exact ho11
        · rw [← hfil]; simp; omega
end Go.Proofs.Ytbihphclmdokeaa
