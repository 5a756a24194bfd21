/-
  Walks, printed by a program of this workplace (wip/tools/sx.py) off the functions' code and a text of contracts.
-/
import Derived.Test.YtbihphclmdokeaaN
set_option linter.all false
set_option maxRecDepth 100000
set_option synthInstance.maxSize 100000
set_option synthInstance.maxHeartbeats 400000
namespace Go.Proofs.Ytbihphclmdokeaa
open Go.Wst
open Go.Wst.Sm
theorem itm_eq {x y : Itm} (h : x.val = y.val ∧ x.rule = y.rule ∧ x.of_ = y.of_) : x = y := by
  cases x; cases y; simp_all
theorem rule_eq {x y : Rule} (h : x.id = y.id ∧ x.inp = y.inp ∧ x.out = y.out ∧ x.mul = y.mul ∧ x.add = y.add) : x = y := by
  cases x; cases y; simp_all
theorem rpC_inj {a b : Rule × Nat} (h : Value.agg (rpC a).toArray = Value.agg (rpC b).toArray) : a = b := by
  obtain ⟨⟨a1, a2, a3, a4, a5⟩, a6⟩ := a
  obtain ⟨⟨b1, b2, b3, b4, b5⟩, b6⟩ := b
  simp at h
  obtain ⟨rfl, rfl, rfl, rfl, rfl, h6⟩ := h
  have : a6 = b6 := by omega
  rw [this]

/-- slices.Equal[[]waystation/api.Item,waystation/api.Item] -/
theorem equalx_ok (A : Option Addr) (n c : Nat) (xs : List Itm) (B : Option Addr) (n' c' : Nat) (ys : List Itm) (w : World) [Row w A (xs.flatMap itemC)] [Row w B (ys.flatMap itemC)] (hl : xs.length = n) (hl' : ys.length = n') (hn : n ≤ 1000000000) : Ret Try.prog 52 #[.slice A n c, .slice B n' c'] w (fun v w' => v = .bool (decide (xs = ys)) ∧ Lk w' w NoB) := by
  refine ret_of_x (N := 26) (l := [.slice A n c, .slice B n' c']) Try.func52 rfl rfl (Nat.le_of_ble_eq_true rfl) ?_
  refine x_seq ?_
  refine x_regionL ?_
  refine xl_v v_assign ?_
  refine xl_nil ?_
  refine x_seq ?_
  refine x_seq ?_
  refine x_regionL ?_
  refine xl_v v_move ?_
  refine xl_v v_len ?_
  refine xl_v v_move ?_
  refine xl_v v_len ?_
  refine xl_v v_neq ?_
  refine xl_nil ?_
  first | refine x_condP (fun c1 => ?_) (fun c1 => ?_) | refine x_condN (fun c1 => ?_) (fun c1 => ?_) | refine x_condE (fun c1 => ?_) (fun c1 => ?_)
  ·
    refine x_seq ?_
    refine x_regionL ?_
    refine xl_v v_assign ?_
    refine xl_nil ?_
    refine x_ret ?_
    refine fin1 rfl ?_
    exact ⟨by rw [decide_eq_false]; intro e; subst e; omega, lkc⟩
  ·
    have hnn : n = n' := by omega
    refine x_skip ?_
    refine x_seq ?_
    refine x_seq ?_
    refine x_regionL ?_
    refine xl_v v_move ?_
    refine xl_v v_len ?_
    refine xl_v v_move ?_
    refine xl_nil ?_
    refine x_block ?_
    refine x_loop (fun m τ ds w' => ds = [] ∧ ∃ k : Nat, m = n - k ∧ k ≤ n ∧ xs.take k = ys.take k ∧ Ev τ 0 (.slice A n c) ∧ Ev τ 1 (.slice B n' c') ∧ Ev τ 12 (.int .i64 (n : Int)) ∧ Ev τ 13 (.int .i64 (k : Int)) ∧ Lk w' w NoB) (n) ?start ?round
    case start =>
      exact ⟨rfl, 0, rfl, Nat.zero_le _, by simp, inferInstance, inferInstance, inferInstance, evc, lkc⟩
    case round =>
      intro m τ1 ds1 w1 hI
      obtain ⟨rfl, k, rfl, hk, heq, e0, e1, e2, e3, lk⟩ := hI
      refine x_seq ?_
      refine x_regionL ?_
      refine xl_v v_lss ?_
      refine xl_nil ?_
      refine x_seq ?_
      first | refine x_condP (fun c2 => ?_) (fun c2 => ?_) | refine x_condN (fun c2 => ?_) (fun c2 => ?_) | refine x_condE (fun c2 => ?_) (fun c2 => ?_)
      ·
        have hk1 : k < xs.length := by omega
        have hk2 : k < ys.length := by omega
        have hA := row_some (w := w) (A := A) (cs := xs.flatMap itemC) inferInstance (by rw [flat_len (sz := 3) (fun _ => rfl)]; omega)
        have hB := row_some (w := w) (A := B) (cs := ys.flatMap itemC) inferInstance (by rw [flat_len (sz := 3) (fun _ => rfl)]; omega)
        refine x_skip ?_
        refine x_seq ?_
        refine x_block ?_
        refine x_seq ?_
        refine x_regionL ?_
        refine xl_v v_move ?_
        refine xl_v v_assign ?_
        refine xl_nil ?_
        refine x_seq ?_
        refine x_drawL (NoB) (allS) (.take 0 (.take 1 (.take 2 (.take 3 (.take 4 (.take 5 (.take 6 (.take 7 (.take 8 .done))))))))) mixed (by kernel_rfl) (fun _ _ _ _ _ h => h) (fun w2 l2 => ?_)
        refine xt_v rfl v_move ?_
        refine xt_v rfl v_move ?_
        refine xt_v rfl (v_indexAddr k rfl (by omega) hA) ?_
        refine xt_v rfl (v_loadRA (vs := itemC xs[k]) rfl hA (flat_get (enc := itemC) (fun _ => rfl) xs k hk1)) ?_
        refine xt_v rfl v_move ?_
        refine xt_v rfl v_move ?_
        refine xt_v rfl (v_indexAddr k rfl (by omega) hB) ?_
        refine xt_v rfl (v_loadRA (vs := itemC ys[k]) rfl hB (flat_get (enc := itemC) (fun _ => rfl) ys k hk2)) ?_
        refine xt_v rfl v_neq_struct ?_
        refine xt_nil ?_
        refine x_condE (fun c3 => ?_) (fun c3 => ?_)
        ·
          have hne : xs[k] ≠ ys[k] := fun e => by rw [e] at c3; simp at c3
          refine x_seq ?_
          refine x_regionL ?_
          refine xl_v v_assign ?_
          refine xl_nil ?_
          refine x_ret ?_
          refine fin1 rfl ?_
          refine ⟨?_, lkc⟩
          rw [decide_eq_false]
          intro e
          subst e
          exact hne rfl
        ·
          have heqk : xs[k] = ys[k] := by
            simp at c3
            exact itm_eq c3
          refine x_skip ?_
          refine x_regionL ?_
          refine xl_v (v_add (by omega)) ?_
          refine xl_v v_move ?_
          refine xl_nil ?_
          refine ⟨_, ?_, rfl, k + 1, rfl, by omega, ?_, inferInstance, inferInstance, inferInstance, evc, lkc⟩
          · omega
          · rw [take_snoc _ _ hk1, take_snoc _ _ hk2, heq, heqk]
      ·
        refine x_exit ?_
        refine x_seq ?_
        refine x_regionL ?_
        refine xl_v v_assign ?_
        refine xl_nil ?_
        refine x_ret ?_
        refine fin1 rfl ?_
        refine ⟨?_, lkc⟩
        rw [decide_eq_true]
        rw [List.take_of_length_le (by omega), List.take_of_length_le (by omega)] at heq
        exact heq

/-- slices.EqualFunc[[][]waystation/api.Item,[][]waystation/api.Item,[]waystation/api.Item,[]waystation/api.Item] -/
theorem equalFuncx_ok (A : Option Addr) (n c : Nat) (vs : List Value) (B : Option Addr) (n' c' : Nat) (us : List Value) (f : FuncId) (cl : List Value) (p : Nat → Bool) (w : World) [Fun Try.prog f] [Row w A vs] [Row w B us] (hl : vs.length = n) (hl' : us.length = n') (hn : n ≤ 1000000000) (hp : ∀ i (h : i < vs.length) (h' : i < us.length) W, Lk W w NoB → Ret Try.prog f ((vs[i] :: us[i] :: cl) : List Value).toArray W (fun v w' => v = .bool (p i) ∧ Lk w' W NoB)) : Ret Try.prog 51 #[.slice A n c, .slice B n' c', .func (.func f) ([] : List Value).toArray cl.toArray] w (fun v w' => v = .bool (decide (n = n') && (List.range n).all p) ∧ Lk w' w NoB) := by
  refine ret_of_x (N := 32) (l := [.slice A n c, .slice B n' c', .func (.func f) ([] : List Value).toArray cl.toArray]) Try.func51 rfl rfl (Nat.le_of_ble_eq_true rfl) ?_
  refine x_seq ?_
  refine x_regionL ?_
  refine xl_v v_assign ?_
  refine xl_nil ?_
  refine x_seq ?_
  refine x_seq ?_
  refine x_regionL ?_
  refine xl_v v_move ?_
  refine xl_v v_len ?_
  refine xl_v v_move ?_
  refine xl_v v_len ?_
  refine xl_v v_neq ?_
  refine xl_nil ?_
  first | refine x_condP (fun c1 => ?_) (fun c1 => ?_) | refine x_condN (fun c1 => ?_) (fun c1 => ?_) | refine x_condE (fun c1 => ?_) (fun c1 => ?_)
  ·
    refine x_seq ?_
    refine x_regionL ?_
    refine xl_v v_assign ?_
    refine xl_nil ?_
    refine x_ret ?_
    refine fin1 rfl ?_
    exact ⟨by rw [decide_eq_false (by omega)]; rfl, lkc⟩
  ·
    have hnn : n = n' := by omega
    refine x_skip ?_
    refine x_seq ?_
    refine x_seq ?_
    refine x_regionL ?_
    refine xl_v v_move ?_
    refine xl_v v_len ?_
    refine xl_v v_move ?_
    refine xl_nil ?_
    refine x_block ?_
    refine x_loop (fun m τ ds w' => ds = [] ∧ ∃ k : Nat, m = n - k ∧ k ≤ n ∧ (∀ i, i < k → p i = true) ∧ Ev τ 1 (.slice B n' c') ∧ Ev τ 2 (.func (.func f) ([] : List Value).toArray cl.toArray) ∧ Ev τ 15 (.slice A n c) ∧ Ev τ 16 (.int .i64 (n : Int)) ∧ Ev τ 17 (.int .i64 (k : Int)) ∧ Lk w' w NoB) (n) ?start ?round
    case start =>
      exact ⟨rfl, 0, rfl, Nat.zero_le _, fun _ h => absurd h (Nat.not_lt_zero _), inferInstance, inferInstance, inferInstance, inferInstance, evc, lkc⟩
    case round =>
      intro m τ1 ds1 w1 hI
      obtain ⟨rfl, k, rfl, hk, hall, e1, e2, e15, e16, e17, lk⟩ := hI
      refine x_seq ?_
      refine x_regionL ?_
      refine xl_v v_lss ?_
      refine xl_nil ?_
      refine x_seq ?_
      first | refine x_condP (fun c2 => ?_) (fun c2 => ?_) | refine x_condN (fun c2 => ?_) (fun c2 => ?_) | refine x_condE (fun c2 => ?_) (fun c2 => ?_)
      ·
        have hk1 : k < vs.length := by omega
        have hk2 : k < us.length := by omega
        have hA := row_some (w := w) (A := A) (cs := vs) inferInstance (by omega)
        have hB := row_some (w := w) (A := B) (cs := us) inferInstance (by omega)
        refine x_skip ?_
        refine x_seq ?_
        refine x_block ?_
        refine x_seq ?_
        refine x_regionL ?_
        refine xl_v v_move ?_
        refine xl_v (v_indexAddr k rfl (by omega) hA) ?_
        refine xl_v (v_loadR (by rw [Nat.mul_one]; exact List.getElem?_eq_getElem hk1)) ?_
        refine xl_v v_assign ?_
        refine xl_v v_assign ?_
        refine xl_nil ?_
        refine x_seq ?_
        refine x_regionL ?_
        refine xl_v v_move ?_
        refine xl_v v_move ?_
        refine xl_v (v_indexAddr k rfl (by omega) hB) ?_
        refine xl_v (v_loadR (by rw [Nat.mul_one]; exact List.getElem?_eq_getElem hk2)) ?_
        refine xl_v v_assign ?_
        refine xl_nil ?_
        refine x_seq ?_
        refine x_regionL ?_
        refine xl_v v_move ?_
        refine xl_v v_move ?_
        refine xl_v v_move ?_
        refine xl_call (hp k hk1 hk2 w1 lkc) ?_
        rintro _ w2 ⟨rfl, lk3⟩
        refine xl_v v_not ?_
        refine xl_nil ?_
        refine x_condE (fun c3 => ?_) (fun c3 => ?_)
        ·
          refine x_seq ?_
          refine x_regionL ?_
          refine xl_v v_assign ?_
          refine xl_nil ?_
          refine x_ret ?_
          refine fin1 rfl ?_
          refine ⟨?_, lkc⟩
          have h1 : (List.range n).all p = false := by
            rw [List.all_eq_false]
            exact ⟨k, by simp; omega, by simpa using c3⟩
          rw [h1, Bool.and_false]
        ·
          refine x_skip ?_
          refine x_regionL ?_
          refine xl_v (v_add (by omega)) ?_
          refine xl_v v_move ?_
          refine xl_nil ?_
          refine ⟨_, ?_, rfl, k + 1, rfl, by omega, ?_, inferInstance, inferInstance, inferInstance, inferInstance, evc, lkc⟩
          · omega
          · intro i hi
            by_cases h : i = k
            · subst h; simpa using c3
            · exact hall i (by omega)
      ·
        refine x_exit ?_
        refine x_seq ?_
        refine x_regionL ?_
        refine xl_v v_assign ?_
        refine xl_nil ?_
        refine x_ret ?_
        refine fin1 rfl ?_
        refine ⟨?_, lkc⟩
        have h1 : (List.range n).all p = true := by
          rw [List.all_eq_true]
          intro i hi
          exact hall i (by simp at hi; omega)
        rw [h1, decide_eq_true hnn]
        rfl

/-- maps.Equal[map[int]waystation/stream.rule,map[int]waystation/stream.rule,int,waystation/stream.rule] -/
theorem mapsEqual_ok (m1 m2 : Nat) (l1 l2 : List (Int × Rule × Nat)) (w : World) [h1 : MapI w m1 Int (Value.int .i64) (rulesV l1)] [h2 : MapI w m2 Int (Value.int .i64) (rulesV l2)] : Ret Try.prog 53 #[.map (some m1), .map (some m2)] w (fun v w' => v = .bool (decide (l1.length = l2.length) && l1.all (fun p => decide (akey l2 p.1 = some p.2))) ∧ Lk w' w NoB) := by
  refine ret_of_x (N := 34) (l := [.map (some m1), .map (some m2)]) Try.func53 rfl rfl (Nat.le_of_ble_eq_true rfl) ?_
  refine x_seq ?_
  refine x_regionL ?_
  refine xl_v v_assign ?_
  refine xl_nil ?_
  refine x_seq ?_
  refine x_seq ?_
  refine x_regionL ?_
  refine xl_v v_move ?_
  refine xl_v v_lenm ?_
  refine xl_v v_move ?_
  refine xl_v v_lenm ?_
  refine xl_v v_neq ?_
  refine xl_nil ?_
  first | refine x_condP (fun c1 => ?_) (fun c1 => ?_) | refine x_condN (fun c1 => ?_) (fun c1 => ?_) | refine x_condE (fun c1 => ?_) (fun c1 => ?_)
  ·
    refine x_seq ?_
    refine x_regionL ?_
    refine xl_v v_assign ?_
    refine xl_nil ?_
    refine x_ret ?_
    refine fin1 rfl ?_
    refine ⟨?_, lkc⟩
    have h3 : ¬ l1.length = l2.length := by simp [rulesV] at c1; omega
    rw [decide_eq_false h3]
    rfl
  ·
    have hll : l1.length = l2.length := by simp [rulesV] at c1; omega
    have hm1 := h1.m.lt
    have hm2 := h2.m.lt
    refine x_skip ?_
    refine x_seq ?_
    refine x_seq ?_
    refine x_regionL ?_
    refine xl_v v_move ?_
    refine xl_e (e_range fun it w1 ni li hit hhas => ?_)
    refine xl_nil ?_
    refine x_block ?_
    refine x_loop (fun m τ ds w' => ds = [] ∧ ∃ (ks rest : List (Int × Value)), m = rest.length ∧ MapIt w' it m1 (Value.int .i64) (rulesV l1) ks rest ∧ (∀ p ∈ ks, ∃ q, p = (q.1, Value.agg (rpC q.2).toArray) ∧ q ∈ l1 ∧ akey l2 q.1 = some q.2) ∧ Ev τ 1 (.map (some m2)) ∧ Ev τ 15 (.pointer (some ⟨it, 0, none⟩)) ∧ Lk w' w NoB) ((rulesV l1).length) ?start ?round
    case start =>
      exact ⟨rfl, [], rulesV l1, rfl, hit, by simp, inferInstance, inferInstance, lkc⟩
    case round =>
      intro m τ2 ds2 w2 hI
      obtain ⟨rfl, ks, rest, rfl, hmit, hks, e1, e15, lk⟩ := hI
      have hit1 := hmit.lt.1
      have hitw : it = w.heap.size := ni.eq
      have hne : it ≠ m1 := by omega
      haveI hit2 : NotS (OneB it) m2 := ⟨fun e => by have e' : m2 = it := e; omega⟩
      haveI hm2' : MapI w2 m2 _ _ _ := ⟨h2.m.keep lk.keep (fun h => h)⟩
      haveI sit : SubF (OneB it) NoB w := ⟨fun k hk e => by have e' : k = it := e; omega⟩
      refine x_seq ?_
      refine x_regionL ?_
      refine xl_e (e_next hmit hne fun bb qs w3 l1' hb0 hb1 => ?_)
      refine xl_v v_extract ?_
      refine xl_nil ?_
      refine x_seq ?_
      refine x_condE (fun c2 => ?_) (fun c2 => ?_)
      ·
        obtain ⟨⟨k, u⟩, rest', hperm, hmi2⟩ := hb1 c2
        obtain ⟨q, hql, hqe⟩ : ∃ q, q ∈ l1 ∧ (q.1, Value.agg (rpC q.2).toArray) = (k, u) := by
          have : (k, u) ∈ rulesV l1 := hmi2.perm.mem_iff.1 (by simp)
          simpa [rulesV] using this
        cases hqe
        obtain ⟨z1, z2⟩ := rules_get l2 q.1
        refine x_skip ?_
        refine x_block ?_
        refine x_seq ?_
        refine x_regionL ?_
        refine xl_v (v_entry hmi2 (fun h => h) (fun h => h)) ?_
        refine xl_v v_extract ?_
        refine xl_v v_extract ?_
        refine xl_e (e_alloc fun b4 w4 n4 l4 k4 => ?_)
        refine xl_v v_assign ?_
        refine xl_s (e_storeA fun w5 l5 k5 => ?_)
        refine xl_nil ?_
        refine x_seq ?_
        refine x_regionL ?_
        refine xl_v v_move ?_
        refine xl_v v_move ?_
        refine xl_v (v_lookup2v q.1 _ _ rfl z1 z2) ?_
        refine xl_v v_move ?_
        refine xl_v v_extract ?_
        refine xl_v v_extract ?_
        refine xl_e (e_alloc fun b6 w6 n6 l6 k6 => ?_)
        refine xl_s (e_storeA fun w7 l7 k7 => ?_)
        refine xl_v v_assign ?_
        refine xl_nil ?_
        refine x_seq ?_
        refine x_regionL ?_
        refine xl_v v_move ?_
        refine xl_v v_not ?_
        refine xl_v v_move ?_
        refine xl_split 29 (fun g29 => ?_) (fun g29 => ?_)
        ·
          refine xl_gs rfl EvO.eq ?_
          refine xl_gs rfl EvO.eq ?_
          refine xl_gs rfl EvO.eq ?_
          refine xl_v (by first | exact v_pickT | exact v_pickF | exact v_pick) ?_
          refine xl_nil ?_
          refine x_condT ?_
          refine x_seq ?_
          refine x_regionL ?_
          refine xl_v v_assign ?_
          refine xl_nil ?_
          refine x_ret ?_
          refine fin1 rfl ?_
          refine ⟨?_, lkc⟩
          have hne2 : akey l2 q.1 ≠ some q.2 := fun e => by first | (simp [e] at g29; done) | (simp [e] at c3; done)
          have h3 : l1.all (fun p => decide (akey l2 p.1 = some p.2)) = false := by
            rw [List.all_eq_false]
            exact ⟨q, hql, by simpa using hne2⟩
          rw [h3, Bool.and_false]
        ·
          refine xl_gv rfl EvO.eq (by first | exact v_loadA | exact v_loadF (by decide) (by omega)) ?_
          refine xl_gv rfl EvO.eq (by first | exact v_loadA | exact v_loadF (by decide) (by omega)) ?_
          refine xl_gv rfl EvO.eq v_neq_struct ?_
          refine xl_v (by first | exact v_pickT | exact v_pickF | exact v_pick) ?_
          refine xl_nil ?_
          refine x_condE (fun c3 => ?_) (fun c3 => ?_)
          ·
            refine x_seq ?_
            refine x_regionL ?_
            refine xl_v v_assign ?_
            refine xl_nil ?_
            refine x_ret ?_
            refine fin1 rfl ?_
            refine ⟨?_, lkc⟩
            have hne2 : akey l2 q.1 ≠ some q.2 := fun e => by first | (simp [e] at g29; done) | (simp [e] at c3; done)
            have h3 : l1.all (fun p => decide (akey l2 p.1 = some p.2)) = false := by
              rw [List.all_eq_false]
              exact ⟨q, hql, by simpa using hne2⟩
            rw [h3, Bool.and_false]
          ·
            have heqq : akey l2 q.1 = some q.2 := by
              cases hq' : akey l2 q.1 with
              | none => simp [hq'] at g29
              | some q' =>
                simp [hq'] at c3
                obtain ⟨e1, e2⟩ := c3
                congr 1
                exact Prod.ext (rule_eq ⟨e1.1.symm, e1.2.1.symm, e1.2.2.1.symm, e1.2.2.2.1.symm, e1.2.2.2.2.symm⟩) (by omega)
            refine x_skip ?_
            refine ⟨_, ?_, rfl, ks ++ [(q.1, Value.agg (rpC q.2).toArray)], rest', rfl, hmi2.keep (kpc : Keep (NewS w2) _ w7) (fun e => by have e' : (w2).heap.size ≤ it := e; omega) (fun e => by have e' : (w2).heap.size ≤ m1 := e; have := hmit.lt.2; omega), ?_, inferInstance, inferInstance, lkc⟩
            · rw [hperm.length_eq]; simp
            · intro p hp
              rcases List.mem_append.1 hp with hp | hp
              · exact hks p hp
              · exact ⟨q, by simpa using hp, hql, heqq⟩
      ·
        refine x_exit ?_
        refine x_seq ?_
        refine x_regionL ?_
        refine xl_v v_assign ?_
        refine xl_nil ?_
        refine x_ret ?_
        refine fin1 rfl ?_
        refine ⟨?_, lkc⟩
        obtain ⟨hrest, hmi2⟩ := hb0 c2
        subst hrest
        have h3 : l1.all (fun p => decide (akey l2 p.1 = some p.2)) = true := by
          rw [List.all_eq_true]
          intro p hp
          have hpk : (p.1, Value.agg (rpC p.2).toArray) ∈ ks := by
            have h4 : (p.1, Value.agg (rpC p.2).toArray) ∈ rulesV l1 := List.mem_map.2 ⟨p, hp, rfl⟩
            have := hmi2.perm.mem_iff.2 h4
            simpa using this
          obtain ⟨q, hq1, hq2, hq3⟩ := hks _ hpk
          simp only [Prod.mk.injEq] at hq1
          rw [hq1.1, rpC_inj hq1.2]
          simpa using hq3
        rw [h3, decide_eq_true hll]
        rfl
end Go.Proofs.Ytbihphclmdokeaa
