/-
 Walks, printed by a program of this workplace (wip/tools/sx.py) off the functions' code and a text of contracts.
-/
import Derived.Test.YtnjpladlfiaojaaQ
set_option linter.all false
set_option maxRecDepth 100000
set_option synthInstance.maxSize 100000
set_option synthInstance.maxHeartbeats 400000
namespace Go.Proofs.Ytnjpladlfiaojaa
open Go.Wst
open Go.Wst.Ct

/-- waystation/waystationref10.In -/
theorem refin_ok (A : Option Addr) (n c : Nat) (xs : List Int) (x : Int) (w : World) [Row w A (ints xs)] (hl : xs.length = n) (hn : n ≤ 1000000000) : Ret Try.prog 20 #[.slice A n c, .int .i64 x] w (fun v w' => v = .bool (decide (x ∈ xs)) ∧ Lk w' w NoB) := by
 refine ret_of_x (N := 18) (l := [.slice A n c, .int .i64 x]) Try.func20 rfl rfl (Nat.le_of_ble_eq_true rfl) ?_
 refine x_seq ?_
 refine x_regionL ?_
 refine xl_v v_assign ?_
 refine xl_nil ?_
 refine x_seq ?_
 refine x_seq ?_
 refine x_regionL ?_
 refine xl_v v_assign ?_
 refine xl_nil ?_
 refine x_block ?_
 refine x_loop (fun m τ ds w' => ds = [] ∧ ∃ k : Nat, m = n - k ∧ k ≤ n ∧ x ∉ xs.take k ∧ Ev τ 0 (.slice A n c) ∧ Ev τ 1 (.int .i64 x) ∧ Ev τ 5 (.int .i64 (k : Int)) ∧ Lk w' w NoB) (n) ?start ?round
 case start =>
  exact ⟨rfl, 0, rfl, Nat.zero_le _, by simp, inferInstance, inferInstance, evc, lkc⟩
 case round =>
  intro m τ1 ds1 w1 hI
  obtain ⟨rfl, k, rfl, hk, hno, e0, e1, e5, lk⟩ := hI
  refine x_seq ?_
  refine x_seq ?_
  refine x_regionL ?_
  refine xl_v v_move ?_
  refine xl_v v_move ?_
  refine xl_v v_len ?_
  refine xl_v v_lss ?_
  refine xl_nil ?_
  first | refine x_condP (fun c1 => ?_) (fun c1 => ?_) | refine x_condN (fun c1 => ?_) (fun c1 => ?_) | refine x_condE (fun c1 => ?_) (fun c1 => ?_)
  ·
   have hk1 : k < xs.length := by omega
   refine x_skip ?_
   refine x_seq ?_
   refine x_block ?_
   refine x_seq ?_
   refine x_regionL ?_
   refine xl_v v_move ?_
   refine xl_v v_move ?_
   refine xl_v (v_indexO k rfl (by omega) hk1) ?_
   refine xl_v (v_loadO (k := k) hk1) ?_
   refine xl_v v_move ?_
   refine xl_v v_eql ?_
   refine xl_nil ?_
   first | refine x_condP (fun c2 => ?_) (fun c2 => ?_) | refine x_condN (fun c2 => ?_) (fun c2 => ?_) | refine x_condE (fun c2 => ?_) (fun c2 => ?_)
   ·
    refine x_seq ?_
    refine x_regionL ?_
    refine xl_v v_assign ?_
    refine xl_nil ?_
    refine x_ret ?_
    refine fin1 rfl ?_
    exact ⟨congrArg Value.bool (decide_eq_true (c2 ▸ List.getElem_mem hk1)).symm, lkc⟩
   ·
    refine x_skip ?_
    refine x_regionL ?_
    refine xl_v v_move ?_
    refine xl_v (v_add (by omega)) ?_
    refine xl_v v_assign ?_
    refine xl_nil ?_
    refine ⟨_, ?_, rfl, k + 1, rfl, by omega, ?_, inferInstance, inferInstance, evc, lkc⟩
    ·omega
    ·rw [take_snoc _ _ hk1]
     intro h
     rcases List.mem_append.1 h with h | h
     ·exact hno h
     ·have := List.mem_singleton.1 h; omega
  ·
   refine x_exit ?_
   refine x_seq ?_
   refine x_regionL ?_
   refine xl_v v_assign ?_
   refine xl_nil ?_
   refine x_ret ?_
   refine fin1 rfl ?_
   refine ⟨congrArg Value.bool (decide_eq_false ?_).symm, lkc⟩
   rw [List.take_of_length_le (by omega)] at hno
   exact hno

/-- waystation/waystationref10.Without -/
theorem refwithout_ok (A : Option Addr) (n c : Nat) (xs : List Int) (x : Int) (w : World) [hrx : Row w A (ints xs)] (hl : xs.length = n) (hn : n ≤ 1000000) : Ret Try.prog 76 #[.slice A n c, .int .i64 x] w (fun v w' => (∃ (A' : Option Addr) (c' : Nat), v = .slice A' (xs.filter (fun y => !decide (y = x))).length c' ∧ w'.ownsRow w.heap.size 3 1 (.slice A' (xs.filter (fun y => !decide (y = x))).length c') (xs.filter (fun y => !decide (y = x))).length (ints (xs.filter (fun y => !decide (y = x))))) ∧ Lk w' w NoB) := by
 haveI hrb : RowB w A w (ints xs) := rowB_of hrx.row
 refine ret_of_x (N := 27) (l := [.slice A n c, .int .i64 x]) Try.func76 rfl rfl (Nat.le_of_ble_eq_true rfl) ?_
 refine x_seq ?_
 refine x_regionL ?_
 refine xl_v v_assign ?_
 refine xl_nil ?_
 refine x_seq ?_
 refine x_regionL ?_
 refine xl_v v_assign ?_
 refine xl_nil ?_
 refine x_seq ?_
 refine x_seq ?_
 refine x_regionL ?_
 refine xl_v v_assign ?_
 refine xl_nil ?_
 refine x_block ?_
 refine x_loop (fun m τ ds w' => ds = [] ∧ ∃ (k : Nat) (B : Option Addr) (d q : Nat), m = n - k ∧ k ≤ n ∧ q = ((xs.take k).filter (fun y => !decide (y = x))).length ∧ q ≤ k ∧ OwnI w' B q d w.heap.size 3 1 q (ints ((xs.take k).filter (fun y => !decide (y = x)))) ∧ NewA B w ∧ Ev τ 0 (.slice A n c) ∧ Ev τ 1 (.int .i64 x) ∧ Ev τ 5 (.slice B q d) ∧ Ev τ 6 (.int .i64 (k : Int)) ∧ Lk w' w NoB) (n) ?start ?round
 case start =>
  exact ⟨rfl, 0, none, 0, 0, rfl, Nat.zero_le _, by simp, Nat.le_refl _, ⟨by simpa [ints] using World.ownsRow_nil _ _ _ _⟩, newA_none _, inferInstance, inferInstance, inferInstance, evc, lkc⟩
 case round =>
  intro m τ1 ds1 w1 hI
  obtain ⟨rfl, k, B, d, q, rfl, hk, hq, hqk, oB, nB, e0, e1, e5, e6, lk⟩ := hI
  refine x_seq ?_
  refine x_seq ?_
  refine x_regionL ?_
  refine xl_v v_move ?_
  refine xl_v v_move ?_
  refine xl_v v_len ?_
  refine xl_v v_lss ?_
  refine xl_nil ?_
  first | refine x_condP (fun c1 => ?_) (fun c1 => ?_) | refine x_condN (fun c1 => ?_) (fun c1 => ?_) | refine x_condE (fun c1 => ?_) (fun c1 => ?_)
  ·
   have hk1 : k < xs.length := by omega
   refine x_skip ?_
   refine x_seq ?_
   refine x_block ?_
   refine x_seq ?_
   refine x_regionL ?_
   refine xl_v v_move ?_
   refine xl_v v_move ?_
   refine xl_v (v_indexO k rfl (by omega) hk1) ?_
   refine xl_v (v_loadO (k := k) hk1) ?_
   refine xl_v v_move ?_
   refine xl_v v_neq ?_
   refine xl_nil ?_
   first | refine x_condP (fun c2 => ?_) (fun c2 => ?_) | refine x_condN (fun c2 => ?_) (fun c2 => ?_) | refine x_condE (fun c2 => ?_) (fun c2 => ?_)
   ·
    refine x_regionL ?_
    refine xl_v v_move ?_
    refine xl_v v_move ?_
    refine xl_v v_move ?_
    refine xl_v (v_indexO k rfl (by omega) hk1) ?_
    refine xl_v (v_loadO (k := k) hk1) ?_
    refine xl_e (e_buildSlice1 rfl fun b9 w2 n9 l9 k9 => ?_)
    refine xl_e (e_app (by omega) (by decide) (by omega) (by omega) (by first | exact Ge.le | omega) fun B2 d2 w3 o9 l10 nB2 f9 => ?_)
    refine xl_v v_assign ?_
    obtain ⟨q2, hq2e⟩ : ∃ q2, q2 = q + 1 := ⟨_, rfl⟩
    have hE : (xs.take (k + 1)).filter (fun y => !decide (y = x)) = (xs.take k).filter (fun y => !decide (y = x)) ++ [xs[k]] := by rw [take_snoc _ _ hk1, List.filter_append]; simp [c2]
    have hq2 : q2 = ((xs.take (k + 1)).filter (fun y => !decide (y = x))).length := by rw [hE, hq2e, hq]; simp
    have ho2 : (w3).ownsRow w.heap.size 3 1 (.slice B2 q2 d2) q2 (ints ((xs.take (k + 1)).filter (fun y => !decide (y = x)))) := by rw [hE, hq2e, ints_append]; exact o9.own
    rw [← hq2e]
    refine xl_nil ?_
    refine x_regionL ?_
    refine xl_v v_move ?_
    refine xl_v (v_add (by omega)) ?_
    refine xl_v v_assign ?_
    refine xl_nil ?_
    refine ⟨_, ?_, rfl, k + 1, B2, d2, q2, rfl, by omega, hq2, by omega, ⟨ho2⟩, nB2, inferInstance, inferInstance, inferInstance, evc, lkc⟩
    omega
   ·
    obtain ⟨B2, d2, q2, hB2, hd2, hq2e⟩ : ∃ B2 d2 q2, B2 = B ∧ d2 = d ∧ q2 = q := ⟨_, _, _, rfl, rfl, rfl⟩
    have hE : (xs.take (k + 1)).filter (fun y => !decide (y = x)) = (xs.take k).filter (fun y => !decide (y = x)) := by rw [take_snoc _ _ hk1, List.filter_append]; simp [c2]
    have hq2 : q2 = ((xs.take (k + 1)).filter (fun y => !decide (y = x))).length := by rw [hE, hq2e]; exact hq
    have ho2 : (w1).ownsRow w.heap.size 3 1 (.slice B2 q2 d2) q2 (ints ((xs.take (k + 1)).filter (fun y => !decide (y = x)))) := by rw [hE, hB2, hd2, hq2e]; exact oB.own
    have nB2 : NewA B2 w := by rw [hB2]; exact nB
    rw [← hB2, ← hd2, ← hq2e] at e5
    refine x_skip ?_
    refine x_regionL ?_
    refine xl_v v_move ?_
    refine xl_v (v_add (by omega)) ?_
    refine xl_v v_assign ?_
    refine xl_nil ?_
    refine ⟨_, ?_, rfl, k + 1, B2, d2, q2, rfl, by omega, hq2, by omega, ⟨ho2⟩, nB2, inferInstance, inferInstance, inferInstance, evc, lkc⟩
    omega
  ·
   refine x_exit ?_
   refine x_seq ?_
   refine x_regionL ?_
   refine xl_v v_move ?_
   refine xl_v v_assign ?_
   refine xl_nil ?_
   refine x_ret ?_
   refine fin1 rfl ?_
   have hkn : k = n := by omega
   subst hkn
   rw [List.take_of_length_le (by omega)] at hq oB
   refine ⟨⟨B, d, by rw [hq], ?_⟩, lkc⟩
   have := oB.own
   rw [hq] at this
   exact own_ext this lkc

/-- waystation/waystationref10.Ints -/
theorem refints_ok (A : Option Addr) (n c : Nat) (xs : List Int) (B : Option Addr) (n' c' : Nat) (ys : List Int) (w : World) [Row w A (ints xs)] [Row w B (ints ys)] (hl : xs.length = n) (hl' : ys.length = n') (hn : n ≤ 1000000000) : Ret Try.prog 83 #[.slice A n c, .slice B n' c'] w (fun v w' => v = .bool (decide (xs = ys)) ∧ Lk w' w NoB) := by
 refine ret_of_x (N := 26) (l := [.slice A n c, .slice B n' c']) Try.func83 rfl rfl (Nat.le_of_ble_eq_true rfl) ?_
 refine x_seq ?_
 refine x_regionL ?_
 refine xl_v v_assign ?_
 refine xl_nil ?_
 refine x_seq ?_
 refine x_seq ?_
 refine x_regionL ?_
 refine xl_v v_move ?_
 refine xl_v v_len ?_
 refine xl_v v_move ?_
 refine xl_v v_len ?_
 refine xl_v v_neq ?_
 refine xl_nil ?_
 first | refine x_condP (fun c1 => ?_) (fun c1 => ?_) | refine x_condN (fun c1 => ?_) (fun c1 => ?_) | refine x_condE (fun c1 => ?_) (fun c1 => ?_)
 ·
  refine x_seq ?_
  refine x_regionL ?_
  refine xl_v v_assign ?_
  refine xl_nil ?_
  refine x_ret ?_
  refine fin1 rfl ?_
  exact ⟨by rw [decide_eq_false]; intro e; subst e; omega, lkc⟩
 ·
  have hnn : n = n' := by omega
  refine x_skip ?_
  refine x_seq ?_
  refine x_seq ?_
  refine x_regionL ?_
  refine xl_v v_assign ?_
  refine xl_nil ?_
  refine x_block ?_
  refine x_loop (fun m τ ds w' => ds = [] ∧ ∃ k : Nat, m = n - k ∧ k ≤ n ∧ xs.take k = ys.take k ∧ Ev τ 0 (.slice A n c) ∧ Ev τ 1 (.slice B n' c') ∧ Ev τ 5 (.int .i64 (k : Int)) ∧ Lk w' w NoB) (n) ?start ?round
  case start =>
   exact ⟨rfl, 0, rfl, Nat.zero_le _, by simp, inferInstance, inferInstance, evc, lkc⟩
  case round =>
   intro m τ1 ds1 w1 hI
   obtain ⟨rfl, k, rfl, hk, heq, e0, e1, e3, lk⟩ := hI
   refine x_seq ?_
   refine x_seq ?_
   refine x_regionL ?_
   refine xl_v v_move ?_
   refine xl_v v_move ?_
   refine xl_v v_len ?_
   refine xl_v v_lss ?_
   refine xl_nil ?_
   first | refine x_condP (fun c2 => ?_) (fun c2 => ?_) | refine x_condN (fun c2 => ?_) (fun c2 => ?_) | refine x_condE (fun c2 => ?_) (fun c2 => ?_)
   ·
    have hk1 : k < xs.length := by omega
    have hk2 : k < ys.length := by omega
    refine x_skip ?_
    refine x_seq ?_
    refine x_block ?_
    refine x_seq ?_
    refine x_drawL (NoB) (allS) (.take 0 (.take 1 (.take 2 (.take 3 (.take 4 (.take 5 (.take 6 (.take 7 (.take 8 .done))))))))) mixed (by kernel_rfl) (fun _ _ _ _ _ h => h) (fun w2 l2 => ?_)
    refine xt_v rfl v_move ?_
    refine xt_v rfl v_move ?_
    refine xt_v rfl (v_indexO k rfl (by omega) hk1) ?_
    refine xt_v rfl (v_loadO (k := k) hk1) ?_
    refine xt_v rfl v_move ?_
    refine xt_v rfl v_move ?_
    refine xt_v rfl (v_indexO k rfl (by omega) hk2) ?_
    refine xt_v rfl (v_loadO (k := k) hk2) ?_
    refine xt_v rfl v_neq ?_
    refine xt_nil ?_
    refine x_condE (fun c3 => ?_) (fun c3 => ?_)
    ·
     have hne : xs[k] ≠ ys[k] := fun e => by rw [e] at c3; simp at c3
     refine x_seq ?_
     refine x_regionL ?_
     refine xl_v v_assign ?_
     refine xl_nil ?_
     refine x_ret ?_
     refine fin1 rfl ?_
     refine ⟨?_, lkc⟩
     rw [decide_eq_false]
     intro e
     subst e
     exact hne rfl
    ·
     have heqk : xs[k] = ys[k] := by simpa using c3
     refine x_skip ?_
     refine x_regionL ?_
     refine xl_v v_move ?_
     refine xl_v (v_add (by omega)) ?_
     refine xl_v v_assign ?_
     refine xl_nil ?_
     refine ⟨_, ?_, rfl, k + 1, rfl, by omega, ?_, inferInstance, inferInstance, evc, lkc⟩
     ·omega
     ·rw [take_snoc _ _ hk1, take_snoc _ _ hk2, heq, heqk]
   ·
    refine x_exit ?_
    refine x_seq ?_
    refine x_regionL ?_
    refine xl_v v_assign ?_
    refine xl_nil ?_
    refine x_ret ?_
    refine fin1 rfl ?_
    refine ⟨?_, lkc⟩
    rw [decide_eq_true]
    rw [List.take_of_length_le (by omega), List.take_of_length_le (by omega)] at heq
    exact heq

/-- waystation/waystationref10.Rises -/
theorem refrises_ok (A : Option Addr) (n c : Nat) (xs : List Int) (many : Nat) (w : World) [Row w A (ints xs)] (hl : xs.length = n) (hn : n ≤ 1000000) : Ret Try.prog 78 #[.slice A n c, .int .i64 (many : Int)] w (fun v w' => v = .bool (decide (Rises many xs)) ∧ Lk w' w NoB) := by
 refine ret_of_x (N := 41) (l := [.slice A n c, .int .i64 (many : Int)]) Try.func78 rfl rfl (Nat.le_of_ble_eq_true rfl) ?_
 refine x_seq ?_
 refine x_regionL ?_
 refine xl_v v_assign ?_
 refine xl_nil ?_
 refine x_seq ?_
 refine x_seq ?_
 refine x_regionL ?_
 refine xl_v v_assign ?_
 refine xl_nil ?_
 refine x_block ?_
 refine x_loop (fun m τ ds w' => ds = [] ∧ ∃ k : Nat, m = n - k ∧ k ≤ n ∧ Rises many (xs.take k) ∧ Ev τ 0 (.slice A n c) ∧ Ev τ 1 (.int .i64 (many : Int)) ∧ Ev τ 5 (.int .i64 (k : Int)) ∧ Lk w' w NoB) (n) ?start ?round
 case start =>
  exact ⟨rfl, 0, rfl, Nat.zero_le _, ⟨by simp, by simp⟩, inferInstance, inferInstance, evc, lkc⟩
 case round =>
  intro m τ1 ds1 w1 hI
  obtain ⟨rfl, k, rfl, hk, hri, e0, e1, e5, lk⟩ := hI
  refine x_seq ?_
  refine x_seq ?_
  refine x_regionL ?_
  refine xl_v v_move ?_
  refine xl_v v_move ?_
  refine xl_v v_len ?_
  refine xl_v v_lss ?_
  refine xl_nil ?_
  first | refine x_condP (fun c1 => ?_) (fun c1 => ?_) | refine x_condN (fun c1 => ?_) (fun c1 => ?_) | refine x_condE (fun c1 => ?_) (fun c1 => ?_)
  ·
   have hk1 : k < xs.length := by omega
   refine x_skip ?_
   refine x_seq ?_
   refine x_block ?_
   refine x_seq ?_
   refine x_drawL (NoB) (allS) (.take 0 (.take 1 (.take 2 (.take 3 (.take 4 (.take 5 (.take 6 (.take 7 (.take 8 (.take 9 (.take 10 (.take 11 (.take 12 (.take 13 (.take 14 (.take 15 (.take 16 (.take 17 (.take 18 (.take 19 (.take 20 (.take 21 (.take 22 (.take 23 (.take 24 (.take 25 (.take 26 (.take 27 (.take 28 .done))))))))))))))))))))))))))))) mixed (by kernel_rfl) (fun _ _ _ _ _ h => h) (fun w2 l2 => ?_)
   refine xt_v rfl v_move ?_
   refine xt_v rfl v_move ?_
   refine xt_v rfl (v_indexO k rfl (by omega) hk1) ?_
   refine xt_v rfl (v_loadO (k := k) hk1) ?_
   refine xt_v rfl v_lss ?_
   refine xt_v rfl v_move ?_
   refine xt_split 17 (fun g17 => ?_) (fun g17 => ?_)
   ·
    refine xt_gs rfl rfl EvO.eq ?_
    refine xt_gs rfl rfl EvO.eq ?_
    refine xt_gs rfl rfl EvO.eq ?_
    refine xt_gs rfl rfl EvO.eq ?_
    refine xt_gs rfl rfl EvO.eq ?_
    refine xt_gs rfl rfl EvO.eq ?_
    refine xt_Pk rfl ?_
    refine xt_v rfl v_move ?_
    refine xt_gs rfl rfl EvO.eq ?_
    refine xt_gs rfl rfl EvO.eq ?_
    refine xt_gs rfl rfl EvO.eq ?_
    refine xt_gu rfl rfl EvO.eq ?_
    refine xt_gu rfl rfl EvO.eq ?_
    refine xt_gu rfl rfl EvO.eq ?_
    refine xt_gu rfl rfl EvO.eq ?_
    refine xt_gu rfl rfl EvO.eq ?_
    refine xt_gu rfl rfl EvO.eq ?_
    refine xt_gu rfl rfl EvO.eq ?_
    refine xt_gu rfl rfl EvO.eq ?_
    refine xt_gu rfl rfl EvO.eq ?_
    refine xt_gu rfl rfl EvO.eq ?_
    refine xt_gs rfl rfl EvO.eq ?_
    refine xt_Pk rfl ?_
    refine xt_nil ?_
    refine x_condT ?_
    refine x_seq ?_
    refine x_regionL ?_
    refine xl_v v_assign ?_
    refine xl_nil ?_
    refine x_ret ?_
    refine fin1 rfl ?_
    refine ⟨congrArg Value.bool (decide_eq_false fun h => ?_).symm, lkc⟩
    have h1 := h.2 xs[k] (List.getElem_mem hk1)
    first
     | (have : xs[k] < 0 := by simpa using g17
        omega)
     | (have : (many : Int) ≤ xs[k] := by simpa using g25
        omega)
     | (have := List.pairwise_iff_getElem.1 h.1 (k - 1) k (by omega) hk1 (by omega)
        omega)
   ·
    refine xt_gv rfl rfl EvO.eq v_move ?_
    refine xt_gv rfl rfl EvO.eq v_move ?_
    refine xt_gv rfl rfl EvO.eq (v_indexO k rfl (by omega) hk1) ?_
    refine xt_gv rfl rfl EvO.eq (v_loadO (k := k) hk1) ?_
    refine xt_gv rfl rfl EvO.eq v_move ?_
    refine xt_gv rfl rfl EvO.eq v_geq ?_
    refine xt_Pk rfl ?_
    refine xt_v rfl v_move ?_
    refine xt_split 25 (fun g25 => ?_) (fun g25 => ?_)
    ·
     refine xt_gs rfl rfl EvO.eq ?_
     refine xt_gs rfl rfl EvO.eq ?_
     refine xt_gs rfl rfl EvO.eq ?_
     refine xt_gu rfl rfl EvO.eq ?_
     refine xt_gu rfl rfl EvO.eq ?_
     refine xt_gu rfl rfl EvO.eq ?_
     refine xt_gu rfl rfl EvO.eq ?_
     refine xt_gu rfl rfl EvO.eq ?_
     refine xt_gu rfl rfl EvO.eq ?_
     refine xt_gu rfl rfl EvO.eq ?_
     refine xt_gu rfl rfl EvO.eq ?_
     refine xt_gu rfl rfl EvO.eq ?_
     refine xt_gu rfl rfl EvO.eq ?_
     refine xt_gs rfl rfl EvO.eq ?_
     refine xt_Pk rfl ?_
     refine xt_nil ?_
     refine x_condT ?_
     refine x_seq ?_
     refine x_regionL ?_
     refine xl_v v_assign ?_
     refine xl_nil ?_
     refine x_ret ?_
     refine fin1 rfl ?_
     refine ⟨congrArg Value.bool (decide_eq_false fun h => ?_).symm, lkc⟩
     have h1 := h.2 xs[k] (List.getElem_mem hk1)
     first
      | (have : xs[k] < 0 := by simpa using g17
         omega)
      | (have : (many : Int) ≤ xs[k] := by simpa using g25
         omega)
      | (have := List.pairwise_iff_getElem.1 h.1 (k - 1) k (by omega) hk1 (by omega)
         omega)
    ·
     refine xt_gv rfl rfl EvO.eq v_move ?_
     refine xt_gv rfl rfl EvO.eq v_gtr ?_
     refine xt_gv rfl rfl EvO.eq v_move ?_
     refine xt_split 28 (fun g28 => ?_) (fun g28 => ?_)
     ·
      have hk00 : (0 : Int) < (k : Int) := by simpa using g28
      have hk0 : 0 < k := by omega
      refine xt_gv rfl rfl EvO.eq v_move ?_
      refine xt_gv rfl rfl EvO.eq v_move ?_
      refine xt_gv rfl rfl EvO.eq (v_indexO k rfl (by omega) hk1) ?_
      refine xt_gv rfl rfl EvO.eq (v_loadO (k := k) hk1) ?_
      refine xt_gv rfl rfl EvO.eq v_move ?_
      refine xt_gv rfl rfl EvO.eq v_move ?_
      refine xt_gv rfl rfl EvO.eq (v_sub (by omega)) ?_
      refine xt_gv rfl rfl EvO.eq (v_indexO (k - 1) (by omega) (by omega) (by omega : k - 1 < xs.length)) ?_
      refine xt_gv rfl rfl EvO.eq (v_loadO (k := k - 1) (by omega : k - 1 < xs.length)) ?_
      refine xt_gv rfl rfl EvO.eq v_leq ?_
      refine xt_gPk rfl rfl EvO.eq ?_
      refine xt_Pk rfl ?_
      refine xt_nil ?_
      first | refine x_condP (fun c2 => ?_) (fun c2 => ?_) | refine x_condN (fun c2 => ?_) (fun c2 => ?_) | refine x_condE (fun c2 => ?_) (fun c2 => ?_)
      ·
       refine x_seq ?_
       refine x_regionL ?_
       refine xl_v v_assign ?_
       refine xl_nil ?_
       refine x_ret ?_
       refine fin1 rfl ?_
       refine ⟨congrArg Value.bool (decide_eq_false fun h => ?_).symm, lkc⟩
       have h1 := h.2 xs[k] (List.getElem_mem hk1)
       first
        | (have : xs[k] < 0 := by simpa using g17
           omega)
        | (have : (many : Int) ≤ xs[k] := by simpa using g25
           omega)
        | (have := List.pairwise_iff_getElem.1 h.1 (k - 1) k (by omega) hk1 (by omega)
           omega)
      ·
       refine x_skip ?_
       refine x_regionL ?_
       refine xl_v v_move ?_
       refine xl_v (v_add (by omega)) ?_
       refine xl_v v_assign ?_
       refine xl_nil ?_
       refine ⟨_, ?_, rfl, k + 1, rfl, by omega, ?_, inferInstance, inferInstance, evc, lkc⟩
       ·omega
       ·have hlo : ¬ xs[k] < 0 := by simpa using g17
        have hhi : ¬ (many : Int) ≤ xs[k] := by simpa using g25
        have hst : k = 0 ∨ ∃ h : k - 1 < xs.length, xs[k - 1] < xs[k] := by
         first
          | (have : ¬ (0 : Int) < (k : Int) := by simpa using g28
             exact .inl (by omega))
          | exact .inr ⟨by omega, by omega⟩
        refine ⟨?_, ?_⟩
        ·rw [take_snoc _ _ hk1, List.pairwise_append]
         refine ⟨hri.1, List.pairwise_singleton _ _, fun a ha b hb => ?_⟩
         obtain rfl : b = xs[k] := by simpa using hb
         rcases hst with h0 | ⟨hk2, hlt⟩
         ·subst h0; simp at ha
         ·obtain ⟨j, hj, rfl⟩ := List.getElem_of_mem ha
          have hj2 : j < k := by simpa using (Nat.lt_of_lt_of_le hj (by simp; omega))
          rw [List.getElem_take]
          by_cases e : j = k - 1
          ·subst e; exact hlt
          ·have h1 := List.pairwise_iff_getElem.1 hri.1 j (k - 1) hj (by simp; omega) (by omega)
           rw [List.getElem_take, List.getElem_take] at h1
           omega
        ·rw [take_snoc _ _ hk1]
         intro b hb
         rcases List.mem_append.1 hb with hb | hb
         ·exact hri.2 b hb
         ·obtain rfl : b = xs[k] := by simpa using hb
          omega
     ·
      refine xt_gs rfl rfl EvO.eq ?_
      refine xt_gs rfl rfl EvO.eq ?_
      refine xt_gs rfl rfl EvO.eq ?_
      refine xt_gs rfl rfl EvO.eq ?_
      refine xt_gs rfl rfl EvO.eq ?_
      refine xt_gs rfl rfl EvO.eq ?_
      refine xt_gs rfl rfl EvO.eq ?_
      refine xt_gs rfl rfl EvO.eq ?_
      refine xt_gs rfl rfl EvO.eq ?_
      refine xt_gs rfl rfl EvO.eq ?_
      refine xt_gPk rfl rfl EvO.eq ?_
      refine xt_Pk rfl ?_
      refine xt_nil ?_
      refine x_condF ?_
      refine x_skip ?_
      refine x_regionL ?_
      refine xl_v v_move ?_
      refine xl_v (v_add (by omega)) ?_
      refine xl_v v_assign ?_
      refine xl_nil ?_
      refine ⟨_, ?_, rfl, k + 1, rfl, by omega, ?_, inferInstance, inferInstance, evc, lkc⟩
      ·omega
      ·have hlo : ¬ xs[k] < 0 := by simpa using g17
       have hhi : ¬ (many : Int) ≤ xs[k] := by simpa using g25
       have hst : k = 0 ∨ ∃ h : k - 1 < xs.length, xs[k - 1] < xs[k] := by
        first
         | (have : ¬ (0 : Int) < (k : Int) := by simpa using g28
            exact .inl (by omega))
         | exact .inr ⟨by omega, by omega⟩
       refine ⟨?_, ?_⟩
       ·rw [take_snoc _ _ hk1, List.pairwise_append]
        refine ⟨hri.1, List.pairwise_singleton _ _, fun a ha b hb => ?_⟩
        obtain rfl : b = xs[k] := by simpa using hb
        rcases hst with h0 | ⟨hk2, hlt⟩
        ·subst h0; simp at ha
        ·obtain ⟨j, hj, rfl⟩ := List.getElem_of_mem ha
         have hj2 : j < k := by simpa using (Nat.lt_of_lt_of_le hj (by simp; omega))
         rw [List.getElem_take]
         by_cases e : j = k - 1
         ·subst e; exact hlt
         ·have h1 := List.pairwise_iff_getElem.1 hri.1 j (k - 1) hj (by simp; omega) (by omega)
          rw [List.getElem_take, List.getElem_take] at h1
          omega
       ·rw [take_snoc _ _ hk1]
        intro b hb
        rcases List.mem_append.1 hb with hb | hb
        ·exact hri.2 b hb
        ·obtain rfl : b = xs[k] := by simpa using hb
         omega
  ·
   refine x_exit ?_
   refine x_seq ?_
   refine x_regionL ?_
   refine xl_v v_assign ?_
   refine xl_nil ?_
   refine x_ret ?_
   refine fin1 rfl ?_
   refine ⟨congrArg Value.bool (decide_eq_true ?_).symm, lkc⟩
   rw [List.take_of_length_le (by omega)] at hri
   exact hri

/-- waystation/waystationref10.Right -/
theorem refright_ok (b p i : Int) (w : World) : Ret Try.prog 22 #[.agg #[.int .i64 b, .int .i64 p, .int .i64 i]] w (fun v w' => v = .bool (decide (formOk b p i)) ∧ Lk w' w NoB) := by
 refine ret_of_x (N := 31) (l := [.agg #[.int .i64 b, .int .i64 p, .int .i64 i]]) Try.func22 rfl rfl (Nat.le_of_ble_eq_true rfl) ?_
 refine x_seq ?_
 refine x_regionL ?_
 refine xl_e (e_box fun b1 w1 n1 l1 k1 => ?_)
 refine xl_v v_assign ?_
 refine xl_nil ?_
 refine x_seq ?_
 refine x_regionL ?_
 refine xl_Fa ?_
 refine xl_Ld ?_
 refine xl_v v_geq ?_
 refine xl_v v_move ?_
 refine xl_split 6 (fun g6 => ?_) (fun g6 => ?_)
 ·
  refine xl_gFa rfl EvO.eq ?_
  refine xl_gLd rfl EvO.eq ?_
  refine xl_gv rfl EvO.eq v_leq ?_
  refine xl_Pk ?_
  refine xl_v v_move ?_
  refine xl_split 11 (fun g11 => ?_) (fun g11 => ?_)
  ·
   refine xl_gFa rfl EvO.eq ?_
   refine xl_gLd rfl EvO.eq ?_
   refine xl_gv rfl EvO.eq v_geq ?_
   refine xl_Pk ?_
   refine xl_v v_move ?_
   refine xl_split 16 (fun g16 => ?_) (fun g16 => ?_)
   ·
    refine xl_gFa rfl EvO.eq ?_
    refine xl_gLd rfl EvO.eq ?_
    refine xl_gv rfl EvO.eq v_leq ?_
    refine xl_Pk ?_
    refine xl_v v_move ?_
    refine xl_split 21 (fun g21 => ?_) (fun g21 => ?_)
    ·
     refine xl_gFa rfl EvO.eq ?_
     refine xl_gLd rfl EvO.eq ?_
     refine xl_gv rfl EvO.eq v_geq ?_
     refine xl_Pk ?_
     refine xl_v v_move ?_
     refine xl_split 26 (fun g26 => ?_) (fun g26 => ?_)
     ·
      refine xl_gFa rfl EvO.eq ?_
      refine xl_gLd rfl EvO.eq ?_
      refine xl_gv rfl EvO.eq v_leq ?_
      refine xl_Pk ?_
      refine xl_v v_assign ?_
      refine xl_nil ?_
      refine x_ret ?_
      refine fin1 rfl ?_
      refine ⟨congrArg Value.bool ?_, lkc⟩
      first
       | (rw [decide_eq_false (p := formOk b p i)]; intro hf; obtain ⟨⟨q1, q2⟩, ⟨q3, q4⟩, q5, q6⟩ := hf; first | (simp at g6; omega) | (simp at g11; omega) | (simp at g16; omega) | (simp at g21; omega) | (simp at g26; omega))
       | (simp at g6 g11 g16 g21 g26
          rw [decide_eq_decide]
          constructor
          ·intro q; exact ⟨⟨by omega, by omega⟩, ⟨by omega, by omega⟩, by omega, by omega⟩
          ·rintro ⟨⟨q1, q2⟩, ⟨q3, q4⟩, q5, q6⟩; omega)
     ·
      refine xl_gs rfl EvO.eq ?_
      refine xl_gs rfl EvO.eq ?_
      refine xl_gs rfl EvO.eq ?_
      refine xl_Pk ?_
      refine xl_v v_assign ?_
      refine xl_nil ?_
      refine x_ret ?_
      refine fin1 rfl ?_
      refine ⟨congrArg Value.bool ?_, lkc⟩
      first
       | (rw [decide_eq_false (p := formOk b p i)]; intro hf; obtain ⟨⟨q1, q2⟩, ⟨q3, q4⟩, q5, q6⟩ := hf; first | (simp at g6; omega) | (simp at g11; omega) | (simp at g16; omega) | (simp at g21; omega) | (simp at g26; omega))
       | (simp at g6 g11 g16 g21 g26
          rw [decide_eq_decide]
          constructor
          ·intro q; exact ⟨⟨by omega, by omega⟩, ⟨by omega, by omega⟩, by omega, by omega⟩
          ·rintro ⟨⟨q1, q2⟩, ⟨q3, q4⟩, q5, q6⟩; omega)
    ·
     refine xl_gs rfl EvO.eq ?_
     refine xl_gs rfl EvO.eq ?_
     refine xl_gs rfl EvO.eq ?_
     refine xl_Pk ?_
     refine xl_v v_move ?_
     refine xl_gs rfl EvO.eq ?_
     refine xl_gs rfl EvO.eq ?_
     refine xl_gs rfl EvO.eq ?_
     refine xl_Pk ?_
     refine xl_v v_assign ?_
     refine xl_nil ?_
     refine x_ret ?_
     refine fin1 rfl ?_
     refine ⟨congrArg Value.bool ?_, lkc⟩
     first
      | (rw [decide_eq_false (p := formOk b p i)]; intro hf; obtain ⟨⟨q1, q2⟩, ⟨q3, q4⟩, q5, q6⟩ := hf; first | (simp at g6; omega) | (simp at g11; omega) | (simp at g16; omega) | (simp at g21; omega) | (simp at g26; omega))
      | (simp at g6 g11 g16 g21 g26
         rw [decide_eq_decide]
         constructor
         ·intro q; exact ⟨⟨by omega, by omega⟩, ⟨by omega, by omega⟩, by omega, by omega⟩
         ·rintro ⟨⟨q1, q2⟩, ⟨q3, q4⟩, q5, q6⟩; omega)
   ·
    refine xl_gs rfl EvO.eq ?_
    refine xl_gs rfl EvO.eq ?_
    refine xl_gs rfl EvO.eq ?_
    refine xl_Pk ?_
    refine xl_v v_move ?_
    refine xl_gs rfl EvO.eq ?_
    refine xl_gs rfl EvO.eq ?_
    refine xl_gs rfl EvO.eq ?_
    refine xl_Pk ?_
    refine xl_v v_move ?_
    refine xl_gs rfl EvO.eq ?_
    refine xl_gs rfl EvO.eq ?_
    refine xl_gs rfl EvO.eq ?_
    refine xl_Pk ?_
    refine xl_v v_assign ?_
    refine xl_nil ?_
    refine x_ret ?_
    refine fin1 rfl ?_
    refine ⟨congrArg Value.bool ?_, lkc⟩
    first
     | (rw [decide_eq_false (p := formOk b p i)]; intro hf; obtain ⟨⟨q1, q2⟩, ⟨q3, q4⟩, q5, q6⟩ := hf; first | (simp at g6; omega) | (simp at g11; omega) | (simp at g16; omega) | (simp at g21; omega) | (simp at g26; omega))
     | (simp at g6 g11 g16 g21 g26
        rw [decide_eq_decide]
        constructor
        ·intro q; exact ⟨⟨by omega, by omega⟩, ⟨by omega, by omega⟩, by omega, by omega⟩
        ·rintro ⟨⟨q1, q2⟩, ⟨q3, q4⟩, q5, q6⟩; omega)
  ·
   refine xl_gs rfl EvO.eq ?_
   refine xl_gs rfl EvO.eq ?_
   refine xl_gs rfl EvO.eq ?_
   refine xl_Pk ?_
   refine xl_v v_move ?_
   refine xl_gs rfl EvO.eq ?_
   refine xl_gs rfl EvO.eq ?_
   refine xl_gs rfl EvO.eq ?_
   refine xl_Pk ?_
   refine xl_v v_move ?_
   refine xl_gs rfl EvO.eq ?_
   refine xl_gs rfl EvO.eq ?_
   refine xl_gs rfl EvO.eq ?_
   refine xl_Pk ?_
   refine xl_v v_move ?_
   refine xl_gs rfl EvO.eq ?_
   refine xl_gs rfl EvO.eq ?_
   refine xl_gs rfl EvO.eq ?_
   refine xl_Pk ?_
   refine xl_v v_assign ?_
   refine xl_nil ?_
   refine x_ret ?_
   refine fin1 rfl ?_
   refine ⟨congrArg Value.bool ?_, lkc⟩
   first
    | (rw [decide_eq_false (p := formOk b p i)]; intro hf; obtain ⟨⟨q1, q2⟩, ⟨q3, q4⟩, q5, q6⟩ := hf; first | (simp at g6; omega) | (simp at g11; omega) | (simp at g16; omega) | (simp at g21; omega) | (simp at g26; omega))
    | (simp at g6 g11 g16 g21 g26
       rw [decide_eq_decide]
       constructor
       ·intro q; exact ⟨⟨by omega, by omega⟩, ⟨by omega, by omega⟩, by omega, by omega⟩
       ·rintro ⟨⟨q1, q2⟩, ⟨q3, q4⟩, q5, q6⟩; omega)
 ·
  refine xl_gs rfl EvO.eq ?_
  refine xl_gs rfl EvO.eq ?_
  refine xl_gs rfl EvO.eq ?_
  refine xl_Pk ?_
  refine xl_v v_move ?_
  refine xl_gs rfl EvO.eq ?_
  refine xl_gs rfl EvO.eq ?_
  refine xl_gs rfl EvO.eq ?_
  refine xl_Pk ?_
  refine xl_v v_move ?_
  refine xl_gs rfl EvO.eq ?_
  refine xl_gs rfl EvO.eq ?_
  refine xl_gs rfl EvO.eq ?_
  refine xl_Pk ?_
  refine xl_v v_move ?_
  refine xl_gs rfl EvO.eq ?_
  refine xl_gs rfl EvO.eq ?_
  refine xl_gs rfl EvO.eq ?_
  refine xl_Pk ?_
  refine xl_v v_move ?_
  refine xl_gs rfl EvO.eq ?_
  refine xl_gs rfl EvO.eq ?_
  refine xl_gs rfl EvO.eq ?_
  refine xl_Pk ?_
  refine xl_v v_assign ?_
  refine xl_nil ?_
  refine x_ret ?_
  refine fin1 rfl ?_
  refine ⟨congrArg Value.bool ?_, lkc⟩
  first
   | (rw [decide_eq_false (p := formOk b p i)]; intro hf; obtain ⟨⟨q1, q2⟩, ⟨q3, q4⟩, q5, q6⟩ := hf; first | (simp at g6; omega) | (simp at g11; omega) | (simp at g16; omega) | (simp at g21; omega) | (simp at g26; omega))
   | (simp at g6 g11 g16 g21 g26
      rw [decide_eq_decide]
      constructor
      ·intro q; exact ⟨⟨by omega, by omega⟩, ⟨by omega, by omega⟩, by omega, by omega⟩
      ·rintro ⟨⟨q1, q2⟩, ⟨q3, q4⟩, q5, q6⟩; omega)

/-- waystation/waystationref10.SameView -/
theorem refsamev_ok (x y : LV) (w : World) [hrx : Row w x.A (ints x.v.isr)] [hry : Row w y.A (ints y.v.isr)] (hl : x.v.isr.length ≤ 1000) : Ret Try.prog 51 #[.agg (viewC x).toArray, .agg (viewC y).toArray] w (fun v w' => v = .bool (decide (x.v = y.v)) ∧ Lk w' w NoB) := by
 haveI rbx : RowB w x.A w (ints x.v.isr) := rowB_of hrx.row
 haveI rby : RowB w y.A w (ints y.v.isr) := rowB_of hry.row
 refine ret_of_x (N := 31) (l := [.agg (viewC x).toArray, .agg (viewC y).toArray]) Try.func51 rfl rfl (Nat.le_of_ble_eq_true rfl) ?_
 refine x_seq ?_
 refine x_regionL ?_
 refine xl_e (e_box fun b1 w1 n1 l1 k1 => ?_)
 refine xl_e (e_box fun b2 w2 n2 l2 k2 => ?_)
 refine xl_v v_assign ?_
 refine xl_nil ?_
 refine x_seq ?_
 refine x_regionL ?_
 refine xl_Fa ?_
 refine xl_Ld ?_
 refine xl_Fa ?_
 refine xl_Ld ?_
 refine xl_v v_eql ?_
 refine xl_v v_move ?_
 refine xl_split 10 (fun g10 => ?_) (fun g10 => ?_)
 ·
  refine xl_gFa rfl EvO.eq ?_
  refine xl_gLd rfl EvO.eq ?_
  refine xl_gFa rfl EvO.eq ?_
  refine xl_gLd rfl EvO.eq ?_
  refine xl_gv rfl EvO.eq v_eql ?_
  refine xl_Pk ?_
  refine xl_v v_move ?_
  refine xl_split 17 (fun g17 => ?_) (fun g17 => ?_)
  ·
   refine xl_gFa rfl EvO.eq ?_
   refine xl_gLd rfl EvO.eq ?_
   refine xl_gFa rfl EvO.eq ?_
   refine xl_gLd rfl EvO.eq ?_
   refine xl_gv rfl EvO.eq v_eql ?_
   refine xl_Pk ?_
   refine xl_v v_move ?_
   refine xl_split 24 (fun g24 => ?_) (fun g24 => ?_)
   ·
    refine xl_gFa rfl EvO.eq ?_
    refine xl_gLd rfl EvO.eq ?_
    refine xl_gFa rfl EvO.eq ?_
    refine xl_gLd rfl EvO.eq ?_
    refine xl_gcall rfl EvO.eq (refints_ok x.A _ x.c x.v.isr y.A _ y.c y.v.isr w2 rfl rfl (by omega)) ?_
    rintro _ w3 ⟨rfl, lk1⟩
    refine xl_Pk ?_
    refine xl_v v_assign ?_
    refine xl_nil ?_
    refine x_ret ?_
    refine fin1 rfl ?_
    refine ⟨congrArg Value.bool ?_, lkc⟩
    obtain ⟨⟨a1, a2, a3, a4⟩, a5, a6⟩ := x
    obtain ⟨⟨b1, b2, b3, b4⟩, b5, b6⟩ := y
    simp at *
    simp_all
   ·
    refine xl_gs rfl EvO.eq ?_
    refine xl_gs rfl EvO.eq ?_
    refine xl_gs rfl EvO.eq ?_
    refine xl_gs rfl EvO.eq ?_
    refine xl_gs rfl EvO.eq ?_
    refine xl_Pk ?_
    refine xl_v v_assign ?_
    refine xl_nil ?_
    refine x_ret ?_
    refine fin1 rfl ?_
    refine ⟨congrArg Value.bool ?_, lkc⟩
    obtain ⟨⟨a1, a2, a3, a4⟩, a5, a6⟩ := x
    obtain ⟨⟨b1, b2, b3, b4⟩, b5, b6⟩ := y
    simp at *
    simp_all
  ·
   refine xl_gs rfl EvO.eq ?_
   refine xl_gs rfl EvO.eq ?_
   refine xl_gs rfl EvO.eq ?_
   refine xl_gs rfl EvO.eq ?_
   refine xl_gs rfl EvO.eq ?_
   refine xl_Pk ?_
   refine xl_v v_move ?_
   refine xl_gs rfl EvO.eq ?_
   refine xl_gs rfl EvO.eq ?_
   refine xl_gs rfl EvO.eq ?_
   refine xl_gs rfl EvO.eq ?_
   refine xl_gs rfl EvO.eq ?_
   refine xl_Pk ?_
   refine xl_v v_assign ?_
   refine xl_nil ?_
   refine x_ret ?_
   refine fin1 rfl ?_
   refine ⟨congrArg Value.bool ?_, lkc⟩
   obtain ⟨⟨a1, a2, a3, a4⟩, a5, a6⟩ := x
   obtain ⟨⟨b1, b2, b3, b4⟩, b5, b6⟩ := y
   simp at *
   simp_all
 ·
  refine xl_gs rfl EvO.eq ?_
  refine xl_gs rfl EvO.eq ?_
  refine xl_gs rfl EvO.eq ?_
  refine xl_gs rfl EvO.eq ?_
  refine xl_gs rfl EvO.eq ?_
  refine xl_Pk ?_
  refine xl_v v_move ?_
  refine xl_gs rfl EvO.eq ?_
  refine xl_gs rfl EvO.eq ?_
  refine xl_gs rfl EvO.eq ?_
  refine xl_gs rfl EvO.eq ?_
  refine xl_gs rfl EvO.eq ?_
  refine xl_Pk ?_
  refine xl_v v_move ?_
  refine xl_gs rfl EvO.eq ?_
  refine xl_gs rfl EvO.eq ?_
  refine xl_gs rfl EvO.eq ?_
  refine xl_gs rfl EvO.eq ?_
  refine xl_gs rfl EvO.eq ?_
  refine xl_Pk ?_
  refine xl_v v_assign ?_
  refine xl_nil ?_
  refine x_ret ?_
  refine fin1 rfl ?_
  refine ⟨congrArg Value.bool ?_, lkc⟩
  obtain ⟨⟨a1, a2, a3, a4⟩, a5, a6⟩ := x
  obtain ⟨⟨b1, b2, b3, b4⟩, b5, b6⟩ := y
  simp at *
  simp_all

/-- waystation/waystationref10.SameWriting -/
theorem refsamew_ok (x y : LW) (w : World) [hrx : Row w x.A (ints x.w.parts)] [hry : Row w y.A (ints y.w.parts)] (hl : x.w.parts.length ≤ 1000) : Ret Try.prog 52 #[.agg (wrC x).toArray, .agg (wrC y).toArray] w (fun v w' => v = .bool (decide (x.w = y.w)) ∧ Lk w' w NoB) := by
 haveI rbx : RowB w x.A w (ints x.w.parts) := rowB_of hrx.row
 haveI rby : RowB w y.A w (ints y.w.parts) := rowB_of hry.row
 refine ret_of_x (N := 45) (l := [.agg (wrC x).toArray, .agg (wrC y).toArray]) Try.func52 rfl rfl (Nat.le_of_ble_eq_true rfl) ?_
 refine x_seq ?_
 refine x_regionL ?_
 refine xl_e (e_box fun b1 w1 n1 l1 k1 => ?_)
 refine xl_e (e_box fun b2 w2 n2 l2 k2 => ?_)
 refine xl_v v_assign ?_
 refine xl_nil ?_
 refine x_seq ?_
 refine x_regionL ?_
 refine xl_Fa ?_
 refine xl_Ld ?_
 refine xl_Fa ?_
 refine xl_Ld ?_
 refine xl_v v_eql ?_
 refine xl_v v_move ?_
 refine xl_split 10 (fun g10 => ?_) (fun g10 => ?_)
 ·
  refine xl_gFa rfl EvO.eq ?_
  refine xl_gLd rfl EvO.eq ?_
  refine xl_gFa rfl EvO.eq ?_
  refine xl_gLd rfl EvO.eq ?_
  refine xl_gv rfl EvO.eq v_eql ?_
  refine xl_Pk ?_
  refine xl_v v_move ?_
  refine xl_split 17 (fun g17 => ?_) (fun g17 => ?_)
  ·
   refine xl_gFa rfl EvO.eq ?_
   refine xl_gLd rfl EvO.eq ?_
   refine xl_gFa rfl EvO.eq ?_
   refine xl_gLd rfl EvO.eq ?_
   refine xl_gv rfl EvO.eq v_eql ?_
   refine xl_Pk ?_
   refine xl_v v_move ?_
   refine xl_split 24 (fun g24 => ?_) (fun g24 => ?_)
   ·
    refine xl_gFa rfl EvO.eq ?_
    refine xl_gLd rfl EvO.eq ?_
    refine xl_gFa rfl EvO.eq ?_
    refine xl_gLd rfl EvO.eq ?_
    refine xl_gcall rfl EvO.eq (refints_ok x.A _ x.c x.w.parts y.A _ y.c y.w.parts w2 rfl rfl (by omega)) ?_
    rintro _ w3 ⟨rfl, lk1⟩
    refine xl_Pk ?_
    refine xl_v v_move ?_
    refine xl_split 31 (fun g31 => ?_) (fun g31 => ?_)
    ·
     refine xl_gFa rfl EvO.eq ?_
     refine xl_gLd rfl EvO.eq ?_
     refine xl_gFa rfl EvO.eq ?_
     refine xl_gLd rfl EvO.eq ?_
     refine xl_gv rfl EvO.eq v_eql ?_
     refine xl_Pk ?_
     refine xl_v v_move ?_
     refine xl_split 38 (fun g38 => ?_) (fun g38 => ?_)
     ·
      refine xl_gFa rfl EvO.eq ?_
      refine xl_gLd rfl EvO.eq ?_
      refine xl_gFa rfl EvO.eq ?_
      refine xl_gLd rfl EvO.eq ?_
      refine xl_gv rfl EvO.eq v_eql ?_
      refine xl_Pk ?_
      refine xl_v v_assign ?_
      refine xl_nil ?_
      refine x_ret ?_
      refine fin1 rfl ?_
      refine ⟨congrArg Value.bool ?_, lkc⟩
      obtain ⟨⟨a1, a2, a3, a4, a7, a8⟩, a5, a6⟩ := x
      obtain ⟨⟨b1, b2, b3, b4, b7, b8⟩, b5, b6⟩ := y
      simp at *
      simp_all
     ·
      refine xl_gs rfl EvO.eq ?_
      refine xl_gs rfl EvO.eq ?_
      refine xl_gs rfl EvO.eq ?_
      refine xl_gs rfl EvO.eq ?_
      refine xl_gs rfl EvO.eq ?_
      refine xl_Pk ?_
      refine xl_v v_assign ?_
      refine xl_nil ?_
      refine x_ret ?_
      refine fin1 rfl ?_
      refine ⟨congrArg Value.bool ?_, lkc⟩
      obtain ⟨⟨a1, a2, a3, a4, a7, a8⟩, a5, a6⟩ := x
      obtain ⟨⟨b1, b2, b3, b4, b7, b8⟩, b5, b6⟩ := y
      simp at *
      simp_all
    ·
     refine xl_gs rfl EvO.eq ?_
     refine xl_gs rfl EvO.eq ?_
     refine xl_gs rfl EvO.eq ?_
     refine xl_gs rfl EvO.eq ?_
     refine xl_gs rfl EvO.eq ?_
     refine xl_Pk ?_
     refine xl_v v_move ?_
     refine xl_gs rfl EvO.eq ?_
     refine xl_gs rfl EvO.eq ?_
     refine xl_gs rfl EvO.eq ?_
     refine xl_gs rfl EvO.eq ?_
     refine xl_gs rfl EvO.eq ?_
     refine xl_Pk ?_
     refine xl_v v_assign ?_
     refine xl_nil ?_
     refine x_ret ?_
     refine fin1 rfl ?_
     refine ⟨congrArg Value.bool ?_, lkc⟩
     obtain ⟨⟨a1, a2, a3, a4, a7, a8⟩, a5, a6⟩ := x
     obtain ⟨⟨b1, b2, b3, b4, b7, b8⟩, b5, b6⟩ := y
     simp at *
     simp_all
   ·
    refine xl_gs rfl EvO.eq ?_
    refine xl_gs rfl EvO.eq ?_
    refine xl_gs rfl EvO.eq ?_
    refine xl_gs rfl EvO.eq ?_
    refine xl_gs rfl EvO.eq ?_
    refine xl_Pk ?_
    refine xl_v v_move ?_
    refine xl_gs rfl EvO.eq ?_
    refine xl_gs rfl EvO.eq ?_
    refine xl_gs rfl EvO.eq ?_
    refine xl_gs rfl EvO.eq ?_
    refine xl_gs rfl EvO.eq ?_
    refine xl_Pk ?_
    refine xl_v v_move ?_
    refine xl_gs rfl EvO.eq ?_
    refine xl_gs rfl EvO.eq ?_
    refine xl_gs rfl EvO.eq ?_
    refine xl_gs rfl EvO.eq ?_
    refine xl_gs rfl EvO.eq ?_
    refine xl_Pk ?_
    refine xl_v v_assign ?_
    refine xl_nil ?_
    refine x_ret ?_
    refine fin1 rfl ?_
    refine ⟨congrArg Value.bool ?_, lkc⟩
    obtain ⟨⟨a1, a2, a3, a4, a7, a8⟩, a5, a6⟩ := x
    obtain ⟨⟨b1, b2, b3, b4, b7, b8⟩, b5, b6⟩ := y
    simp at *
    simp_all
  ·
   refine xl_gs rfl EvO.eq ?_
   refine xl_gs rfl EvO.eq ?_
   refine xl_gs rfl EvO.eq ?_
   refine xl_gs rfl EvO.eq ?_
   refine xl_gs rfl EvO.eq ?_
   refine xl_Pk ?_
   refine xl_v v_move ?_
   refine xl_gs rfl EvO.eq ?_
   refine xl_gs rfl EvO.eq ?_
   refine xl_gs rfl EvO.eq ?_
   refine xl_gs rfl EvO.eq ?_
   refine xl_gs rfl EvO.eq ?_
   refine xl_Pk ?_
   refine xl_v v_move ?_
   refine xl_gs rfl EvO.eq ?_
   refine xl_gs rfl EvO.eq ?_
   refine xl_gs rfl EvO.eq ?_
   refine xl_gs rfl EvO.eq ?_
   refine xl_gs rfl EvO.eq ?_
   refine xl_Pk ?_
   refine xl_v v_move ?_
   refine xl_gs rfl EvO.eq ?_
   refine xl_gs rfl EvO.eq ?_
   refine xl_gs rfl EvO.eq ?_
   refine xl_gs rfl EvO.eq ?_
   refine xl_gs rfl EvO.eq ?_
   refine xl_Pk ?_
   refine xl_v v_assign ?_
   refine xl_nil ?_
   refine x_ret ?_
   refine fin1 rfl ?_
   refine ⟨congrArg Value.bool ?_, lkc⟩
   obtain ⟨⟨a1, a2, a3, a4, a7, a8⟩, a5, a6⟩ := x
   obtain ⟨⟨b1, b2, b3, b4, b7, b8⟩, b5, b6⟩ := y
   simp at *
   simp_all
 ·
  refine xl_gs rfl EvO.eq ?_
  refine xl_gs rfl EvO.eq ?_
  refine xl_gs rfl EvO.eq ?_
  refine xl_gs rfl EvO.eq ?_
  refine xl_gs rfl EvO.eq ?_
  refine xl_Pk ?_
  refine xl_v v_move ?_
  refine xl_gs rfl EvO.eq ?_
  refine xl_gs rfl EvO.eq ?_
  refine xl_gs rfl EvO.eq ?_
  refine xl_gs rfl EvO.eq ?_
  refine xl_gs rfl EvO.eq ?_
  refine xl_Pk ?_
  refine xl_v v_move ?_
  refine xl_gs rfl EvO.eq ?_
  refine xl_gs rfl EvO.eq ?_
  refine xl_gs rfl EvO.eq ?_
  refine xl_gs rfl EvO.eq ?_
  refine xl_gs rfl EvO.eq ?_
  refine xl_Pk ?_
  refine xl_v v_move ?_
  refine xl_gs rfl EvO.eq ?_
  refine xl_gs rfl EvO.eq ?_
  refine xl_gs rfl EvO.eq ?_
  refine xl_gs rfl EvO.eq ?_
  refine xl_gs rfl EvO.eq ?_
  refine xl_Pk ?_
  refine xl_v v_move ?_
  refine xl_gs rfl EvO.eq ?_
  refine xl_gs rfl EvO.eq ?_
  refine xl_gs rfl EvO.eq ?_
  refine xl_gs rfl EvO.eq ?_
  refine xl_gs rfl EvO.eq ?_
  refine xl_Pk ?_
  refine xl_v v_assign ?_
  refine xl_nil ?_
  refine x_ret ?_
  refine fin1 rfl ?_
  refine ⟨congrArg Value.bool ?_, lkc⟩
  obtain ⟨⟨a1, a2, a3, a4, a7, a8⟩, a5, a6⟩ := x
  obtain ⟨⟨b1, b2, b3, b4, b7, b8⟩, b5, b6⟩ := y
  simp at *
  simp_all
end Go.Proofs.Ytnjpladlfiaojaa
