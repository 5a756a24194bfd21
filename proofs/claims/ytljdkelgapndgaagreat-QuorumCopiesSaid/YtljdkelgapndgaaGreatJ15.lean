/-
 Walks, printed by a program of this workplace (wip/tools/sx.py) off the functions' code and a text of contracts.
-/
import Derived.Test.YtljdkelgapndgaaGreatJ14
set_option linter.all false
set_option maxRecDepth 100000
set_option synthInstance.maxSize 100000
set_option synthInstance.maxHeartbeats 400000
namespace Go.Proofs.YtljdkelgapndgaaGreat
open Go.Wst
open Go.Wst.Qm
theorem cmd_dec (x y : Cmd) : decide (x = y) = (decide (x.term = y.term) && decide (x.val = y.val)) := by
 obtain ⟨a, b⟩ := x; obtain ⟨c, d⟩ := y
 simp

theorem sameC_ok (A : Option Addr) (n c : Nat) (xs : List Cmd) (B : Option Addr) (n' c' : Nat) (ys : List Cmd) (w : World) [Row w A (cmdsC xs)] [Row w B (cmdsC ys)] (hl : xs.length = n) (hl' : ys.length = n') (hn : n ≤ 1000000000) : Ret Tryz.prog 44 #[.slice A n c, .slice B n' c'] w (fun v w' => v = .bool (decide (xs = ys)) ∧ Lk w' w NoB) := by
 refine ret_of_x (N := 26) (l := [.slice A n c, .slice B n' c']) Tryz.func44 rfl rfl (Nat.le_of_ble_eq_true rfl) ?_
 refine x_seq ?_
 refine x_regionL ?_
 refine xl_v v_assign ?_
 refine xl_nil ?_
 refine x_seq ?_
 refine x_seq ?_
 refine x_regionL ?_
 refine xl_v v_move ?_
 refine xl_v v_len ?_
 refine xl_v v_move ?_
 refine xl_v v_len ?_
 refine xl_v v_neq ?_
 refine xl_nil ?_
 first | refine x_condP (fun c1 => ?_) (fun c1 => ?_) | refine x_condN (fun c1 => ?_) (fun c1 => ?_) | refine x_condE (fun c1 => ?_) (fun c1 => ?_)
 ·
  refine x_seq ?_
  refine x_regionL ?_
  refine xl_v v_assign ?_
  refine xl_nil ?_
  refine x_ret ?_
  refine fin1 rfl ?_
  exact ⟨by rw [decide_eq_false]; intro e; subst e; omega, lkc⟩
 ·
  have hnn : n = n' := by omega
  refine x_skip ?_
  refine x_seq ?_
  refine x_seq ?_
  refine x_regionL ?_
  refine xl_v v_assign ?_
  refine xl_nil ?_
  refine x_block ?_
  refine x_loop (fun m τ ds w' => ds = [] ∧ ∃ k : Nat, m = n - k ∧ k ≤ n ∧ xs.take k = ys.take k ∧ Ev τ 0 (.slice A n c) ∧ Ev τ 1 (.slice B n' c') ∧ Ev τ 5 (.int .i64 (k : Int)) ∧ Lk w' w NoB) (n) ?start ?round
  case start =>
   exact ⟨rfl, 0, rfl, Nat.zero_le _, by simp, inferInstance, inferInstance, evc, lkc⟩
  case round =>
   intro m τ1 ds1 w1 hI
   obtain ⟨rfl, k, rfl, hk, heq, e0, e1, e3, lk⟩ := hI
   refine x_seq ?_
   refine x_seq ?_
   refine x_regionL ?_
   refine xl_v v_move ?_
   refine xl_v v_move ?_
   refine xl_v v_len ?_
   refine xl_v v_lss ?_
   refine xl_nil ?_
   first | refine x_condP (fun c2 => ?_) (fun c2 => ?_) | refine x_condN (fun c2 => ?_) (fun c2 => ?_) | refine x_condE (fun c2 => ?_) (fun c2 => ?_)
   ·
    have hk1 : k < xs.length := by omega
    have hk2 : k < ys.length := by omega
    refine x_skip ?_
    refine x_seq ?_
    refine x_block ?_
    refine x_seq ?_
    refine x_drawL (NoB) (allS) (.take 0 (.take 1 (.take 2 (.take 3 (.take 4 (.take 5 (.take 6 (.take 7 (.take 8 .done))))))))) mixed (by kernel_rfl) (fun _ _ _ _ _ h => h) (fun w2 l2 => ?_)
    refine xt_v rfl v_move ?_
    refine xt_v rfl v_move ?_
    refine xt_v rfl (v_indexF k (by decide) rfl (by omega) hk1) ?_
    refine xt_v rfl (v_loadF (k := k) (by decide) hk1) ?_
    refine xt_v rfl v_move ?_
    refine xt_v rfl v_move ?_
    refine xt_v rfl (v_indexF k (by decide) rfl (by omega) hk2) ?_
    refine xt_v rfl (v_loadF (k := k) (by decide) hk2) ?_
    refine xt_v rfl (v_congr (u := .bool (!decide (xs[k] = ys[k]))) v_neq_struct (by rw [cmd_dec]; simp)) ?_
    refine xt_nil ?_
    refine x_condE (fun c3 => ?_) (fun c3 => ?_)
    ·
     have hne : xs[k] ≠ ys[k] := by simpa using c3
     refine x_seq ?_
     refine x_regionL ?_
     refine xl_v v_assign ?_
     refine xl_nil ?_
     refine x_ret ?_
     refine fin1 rfl ?_
     refine ⟨?_, lkc⟩
     rw [decide_eq_false]
     intro e
     subst e
     exact hne rfl
    ·
     have heqk : xs[k] = ys[k] := by simpa using c3
     refine x_skip ?_
     refine x_regionL ?_
     refine xl_v v_move ?_
     refine xl_v (v_add (by omega)) ?_
     refine xl_v v_assign ?_
     refine xl_nil ?_
     refine ⟨_, ?_, rfl, k + 1, rfl, by omega, ?_, inferInstance, inferInstance, evc, lkc⟩
     ·omega
     ·rw [take_snoc _ _ hk1, take_snoc _ _ hk2, heq, heqk]
   ·
    refine x_exit ?_
    refine x_seq ?_
    refine x_regionL ?_
    refine xl_v v_assign ?_
    refine xl_nil ?_
    refine x_ret ?_
    refine fin1 rfl ?_
    refine ⟨?_, lkc⟩
    rw [decide_eq_true]
    rw [List.take_of_length_le (by omega), List.take_of_length_le (by omega)] at heq
    exact heq

theorem refints_ok (A : Option Addr) (n c : Nat) (xs : List Int) (B : Option Addr) (n' c' : Nat) (ys : List Int) (w : World) [Row w A (ints xs)] [Row w B (ints ys)] (hl : xs.length = n) (hl' : ys.length = n') (hn : n ≤ 1000000000) : Ret Tryz.prog 65 #[.slice A n c, .slice B n' c'] w (fun v w' => v = .bool (decide (xs = ys)) ∧ Lk w' w NoB) := by
 refine ret_of_x (N := 26) (l := [.slice A n c, .slice B n' c']) Tryz.func65 rfl rfl (Nat.le_of_ble_eq_true rfl) ?_
 refine x_seq ?_
 refine x_regionL ?_
 refine xl_v v_assign ?_
 refine xl_nil ?_
 refine x_seq ?_
 refine x_seq ?_
 refine x_regionL ?_
 refine xl_v v_move ?_
 refine xl_v v_len ?_
 refine xl_v v_move ?_
 refine xl_v v_len ?_
 refine xl_v v_neq ?_
 refine xl_nil ?_
 first | refine x_condP (fun c1 => ?_) (fun c1 => ?_) | refine x_condN (fun c1 => ?_) (fun c1 => ?_) | refine x_condE (fun c1 => ?_) (fun c1 => ?_)
 ·
  refine x_seq ?_
  refine x_regionL ?_
  refine xl_v v_assign ?_
  refine xl_nil ?_
  refine x_ret ?_
  refine fin1 rfl ?_
  exact ⟨by rw [decide_eq_false]; intro e; subst e; omega, lkc⟩
 ·
  have hnn : n = n' := by omega
  refine x_skip ?_
  refine x_seq ?_
  refine x_seq ?_
  refine x_regionL ?_
  refine xl_v v_assign ?_
  refine xl_nil ?_
  refine x_block ?_
  refine x_loop (fun m τ ds w' => ds = [] ∧ ∃ k : Nat, m = n - k ∧ k ≤ n ∧ xs.take k = ys.take k ∧ Ev τ 0 (.slice A n c) ∧ Ev τ 1 (.slice B n' c') ∧ Ev τ 5 (.int .i64 (k : Int)) ∧ Lk w' w NoB) (n) ?start ?round
  case start =>
   exact ⟨rfl, 0, rfl, Nat.zero_le _, by simp, inferInstance, inferInstance, evc, lkc⟩
  case round =>
   intro m τ1 ds1 w1 hI
   obtain ⟨rfl, k, rfl, hk, heq, e0, e1, e3, lk⟩ := hI
   refine x_seq ?_
   refine x_seq ?_
   refine x_regionL ?_
   refine xl_v v_move ?_
   refine xl_v v_move ?_
   refine xl_v v_len ?_
   refine xl_v v_lss ?_
   refine xl_nil ?_
   first | refine x_condP (fun c2 => ?_) (fun c2 => ?_) | refine x_condN (fun c2 => ?_) (fun c2 => ?_) | refine x_condE (fun c2 => ?_) (fun c2 => ?_)
   ·
    have hk1 : k < xs.length := by omega
    have hk2 : k < ys.length := by omega
    refine x_skip ?_
    refine x_seq ?_
    refine x_block ?_
    refine x_seq ?_
    refine x_drawL (NoB) (allS) (.take 0 (.take 1 (.take 2 (.take 3 (.take 4 (.take 5 (.take 6 (.take 7 (.take 8 .done))))))))) mixed (by kernel_rfl) (fun _ _ _ _ _ h => h) (fun w2 l2 => ?_)
    refine xt_v rfl v_move ?_
    refine xt_v rfl v_move ?_
    refine xt_v rfl (v_indexO k rfl (by omega) hk1) ?_
    refine xt_v rfl (v_loadO (k := k) hk1) ?_
    refine xt_v rfl v_move ?_
    refine xt_v rfl v_move ?_
    refine xt_v rfl (v_indexO k rfl (by omega) hk2) ?_
    refine xt_v rfl (v_loadO (k := k) hk2) ?_
    refine xt_v rfl v_neq ?_
    refine xt_nil ?_
    refine x_condE (fun c3 => ?_) (fun c3 => ?_)
    ·
     have hne : xs[k] ≠ ys[k] := fun e => by rw [e] at c3; simp at c3
     refine x_seq ?_
     refine x_regionL ?_
     refine xl_v v_assign ?_
     refine xl_nil ?_
     refine x_ret ?_
     refine fin1 rfl ?_
     refine ⟨?_, lkc⟩
     rw [decide_eq_false]
     intro e
     subst e
     exact hne rfl
    ·
     have heqk : xs[k] = ys[k] := by simpa using c3
     refine x_skip ?_
     refine x_regionL ?_
     refine xl_v v_move ?_
     refine xl_v (v_add (by omega)) ?_
     refine xl_v v_assign ?_
     refine xl_nil ?_
     refine ⟨_, ?_, rfl, k + 1, rfl, by omega, ?_, inferInstance, inferInstance, evc, lkc⟩
     ·omega
     ·rw [take_snoc _ _ hk1, take_snoc _ _ hk2, heq, heqk]
   ·
    refine x_exit ?_
    refine x_seq ?_
    refine x_regionL ?_
    refine xl_v v_assign ?_
    refine xl_nil ?_
    refine x_ret ?_
    refine fin1 rfl ?_
    refine ⟨?_, lkc⟩
    rw [decide_eq_true]
    rw [List.take_of_length_le (by omega), List.take_of_length_le (by omega)] at heq
    exact heq
end Go.Proofs.YtljdkelgapndgaaGreat
set_option linter.all false
set_option maxRecDepth 100000
set_option synthInstance.maxSize 100000
set_option synthInstance.maxHeartbeats 400000
namespace Go.Proofs.YtljdkelgapndgaaGreat
open Go.Wst
open Go.Wst.Qm
theorem an_dec (x y : An) : decide (x = y) = (decide (x.role = y.role) && decide (x.term = y.term) && decide (x.vote = y.vote) && decide (x.commit = y.commit) && decide (x.log = y.log) && decide (x.votes = y.votes) && decide (x.next = y.next) && decide (x.mat = y.mat)) := by
 obtain ⟨a1, a2, a3, a4, a5, a6, a7, a8⟩ := x; obtain ⟨b1, b2, b3, b4, b5, b6, b7, b8⟩ := y
 simp [Bool.and_assoc]
theorem bl_dec (x y : Bl) : decide (x = y) = (decide (x.kind = y.kind) && decide (x.frm = y.frm) && decide (x.to = y.to) && decide (x.term = y.term) && decide (x.last = y.last) && decide (x.prev = y.prev) && decide (x.mat = y.mat) && decide (x.commit = y.commit) && decide (x.lastT = y.lastT) && decide (x.prevT = y.prevT) && decide (x.ok = y.ok) && decide (x.cmds = y.cmds)) := by
 obtain ⟨a1, a2, a3, a4, a5, a6, a7, a8, a9, a10, a11, a12⟩ := x; obtain ⟨b1, b2, b3, b4, b5, b6, b7, b8, b9, b10, b11, b12⟩ := y
 simp [Bool.and_assoc]
section
variable {P : Program} {r : Option Nat} {N : Nat} {S : Nat → Prop} {τ : Tau} {w : World} {ty : TypeId}
theorem v_beql {x y : Operand} {t t' : TypeId} {a b : Bool} [hx : EvO N τ x (.bool a)] [hy : EvO N τ y (.bool b)] [h : Und P t .bool] : Val P r N S (.binOp .eql t x y t') ty τ w (.bool (a == b)) := ⟨fun _ => nofun, fun W _ => by
 have e := run_equalIn_bool W 9999 t a b h.eq
 simp [execOp, hx.eq, hy.eq, eqGuard, binOp, Op.equal, show Op.maxDepth = 9999 + 1 from rfl, e]⟩
end
set_option maxHeartbeats 2000000 in
theorem sameN_ok (P Q : Nat → Prop) (x y : LAn) (w : World) (hx : RowsAn w P x) (hy : RowsAn w Q y) (hl : x.x.log.length ≤ 1000 ∧ x.x.votes.length ≤ 1000 ∧ x.x.next.length ≤ 1000 ∧ x.x.mat.length ≤ 1000) : Ret Tryz.prog 41 #[.agg (anC x).toArray, .agg (anC y).toArray] w (fun v w' => v = .bool (decide (x.x = y.x)) ∧ Lk w' w NoB) := by
 haveI x1 : RowB w x.LA w (cmdsC x.x.log) := rowB_of hx.log.row
 haveI x2 : RowB w x.VA w (ints x.x.votes) := rowB_of hx.votes.row
 haveI x3 : RowB w x.XA w (ints x.x.next) := rowB_of hx.next.row
 haveI x4 : RowB w x.MA w (ints x.x.mat) := rowB_of hx.mat.row
 haveI y1 : RowB w y.LA w (cmdsC y.x.log) := rowB_of hy.log.row
 haveI y2 : RowB w y.VA w (ints y.x.votes) := rowB_of hy.votes.row
 haveI y3 : RowB w y.XA w (ints y.x.next) := rowB_of hy.next.row
 haveI y4 : RowB w y.MA w (ints y.x.mat) := rowB_of hy.mat.row
 refine ret_of_x (N := 59) (l := [.agg (anC x).toArray, .agg (anC y).toArray]) Tryz.func41 rfl rfl (Nat.le_of_ble_eq_true rfl) ?_
 refine x_seq ?_
 refine x_regionL ?_
 refine xl_e (e_box fun b1 w1 n1 l1 k1 => ?_)
 refine xl_e (e_box fun b2 w2 n2 l2 k2 => ?_)
 refine xl_v v_assign ?_
 refine xl_nil ?_
 refine x_seq ?_
 refine x_regionL ?_
 refine xl_Fb ?_
 refine xl_Lc ?_
 refine xl_Fb ?_
 refine xl_Lc ?_
 refine xl_v v_eql ?_
 refine xl_v v_move ?_
 refine xl_split 10 (fun g10 => ?_) (fun g10 => ?_)
 ·
  refine xl_gFb rfl EvO.eq ?_
  refine xl_gLc rfl EvO.eq ?_
  refine xl_gFb rfl EvO.eq ?_
  refine xl_gLc rfl EvO.eq ?_
  refine xl_gv rfl EvO.eq v_eql ?_
  refine xl_Pk ?_
  refine xl_v v_move ?_
  refine xl_split 17 (fun g17 => ?_) (fun g17 => ?_)
  ·
   refine xl_gFb rfl EvO.eq ?_
   refine xl_gLc rfl EvO.eq ?_
   refine xl_gFb rfl EvO.eq ?_
   refine xl_gLc rfl EvO.eq ?_
   refine xl_gv rfl EvO.eq v_eql ?_
   refine xl_Pk ?_
   refine xl_v v_move ?_
   refine xl_split 24 (fun g24 => ?_) (fun g24 => ?_)
   ·
    refine xl_gFb rfl EvO.eq ?_
    refine xl_gLc rfl EvO.eq ?_
    refine xl_gFb rfl EvO.eq ?_
    refine xl_gLc rfl EvO.eq ?_
    refine xl_gv rfl EvO.eq v_eql ?_
    refine xl_Pk ?_
    refine xl_v v_move ?_
    refine xl_split 31 (fun g31 => ?_) (fun g31 => ?_)
    ·
     refine xl_gFb rfl EvO.eq ?_
     refine xl_gLc rfl EvO.eq ?_
     refine xl_gFb rfl EvO.eq ?_
     refine xl_gLc rfl EvO.eq ?_
     refine xl_gcall rfl EvO.eq (sameC_ok x.LA _ x.lc x.x.log y.LA _ y.lc y.x.log w2 rfl rfl (by omega)) ?_
     rintro _ w3 ⟨rfl, lk31⟩
     refine xl_Pk ?_
     refine xl_v v_move ?_
     refine xl_split 38 (fun g38 => ?_) (fun g38 => ?_)
     ·
      refine xl_gFb rfl EvO.eq ?_
      refine xl_gLc rfl EvO.eq ?_
      refine xl_gFb rfl EvO.eq ?_
      refine xl_gLc rfl EvO.eq ?_
      refine xl_gcall rfl EvO.eq (refints_ok x.VA _ x.vc x.x.votes y.VA _ y.vc y.x.votes w3 rfl rfl (by omega)) ?_
      rintro _ w4 ⟨rfl, lk38⟩
      refine xl_Pk ?_
      refine xl_v v_move ?_
      refine xl_split 45 (fun g45 => ?_) (fun g45 => ?_)
      ·
       refine xl_gFb rfl EvO.eq ?_
       refine xl_gLc rfl EvO.eq ?_
       refine xl_gFb rfl EvO.eq ?_
       refine xl_gLc rfl EvO.eq ?_
       refine xl_gcall rfl EvO.eq (refints_ok x.XA _ x.xc x.x.next y.XA _ y.xc y.x.next w4 rfl rfl (by omega)) ?_
       rintro _ w5 ⟨rfl, lk45⟩
       refine xl_Pk ?_
       refine xl_v v_move ?_
       refine xl_split 52 (fun g52 => ?_) (fun g52 => ?_)
       ·
        refine xl_gFb rfl EvO.eq ?_
        refine xl_gLc rfl EvO.eq ?_
        refine xl_gFb rfl EvO.eq ?_
        refine xl_gLc rfl EvO.eq ?_
        refine xl_gcall rfl EvO.eq (refints_ok x.MA _ x.mc x.x.mat y.MA _ y.mc y.x.mat w5 rfl rfl (by omega)) ?_
        rintro _ w6 ⟨rfl, lk52⟩
        refine xl_Pk ?_
        refine xl_v v_assign ?_
        refine xl_nil ?_
        refine x_ret ?_
        refine fin1 rfl ?_
        exact ⟨congrArg Value.bool (by rw [an_dec]; simp_all), lkc⟩
       ·
        refine xl_gs rfl EvO.eq ?_
        refine xl_gs rfl EvO.eq ?_
        refine xl_gs rfl EvO.eq ?_
        refine xl_gs rfl EvO.eq ?_
        refine xl_gs rfl EvO.eq ?_
        refine xl_Pk ?_
        refine xl_v v_assign ?_
        refine xl_nil ?_
        refine x_ret ?_
        refine fin1 rfl ?_
        exact ⟨congrArg Value.bool (by rw [an_dec]; simp_all), lkc⟩
      ·
       refine xl_gs rfl EvO.eq ?_
       refine xl_gs rfl EvO.eq ?_
       refine xl_gs rfl EvO.eq ?_
       refine xl_gs rfl EvO.eq ?_
       refine xl_gs rfl EvO.eq ?_
       refine xl_Pk ?_
       refine xl_v v_move ?_
       refine xl_gs rfl EvO.eq ?_
       refine xl_gs rfl EvO.eq ?_
       refine xl_gs rfl EvO.eq ?_
       refine xl_gs rfl EvO.eq ?_
       refine xl_gs rfl EvO.eq ?_
       refine xl_Pk ?_
       refine xl_v v_assign ?_
       refine xl_nil ?_
       refine x_ret ?_
       refine fin1 rfl ?_
       exact ⟨congrArg Value.bool (by rw [an_dec]; simp_all), lkc⟩
     ·
      refine xl_gs rfl EvO.eq ?_
      refine xl_gs rfl EvO.eq ?_
      refine xl_gs rfl EvO.eq ?_
      refine xl_gs rfl EvO.eq ?_
      refine xl_gs rfl EvO.eq ?_
      refine xl_Pk ?_
      refine xl_v v_move ?_
      refine xl_gs rfl EvO.eq ?_
      refine xl_gs rfl EvO.eq ?_
      refine xl_gs rfl EvO.eq ?_
      refine xl_gs rfl EvO.eq ?_
      refine xl_gs rfl EvO.eq ?_
      refine xl_Pk ?_
      refine xl_v v_move ?_
      refine xl_gs rfl EvO.eq ?_
      refine xl_gs rfl EvO.eq ?_
      refine xl_gs rfl EvO.eq ?_
      refine xl_gs rfl EvO.eq ?_
      refine xl_gs rfl EvO.eq ?_
      refine xl_Pk ?_
      refine xl_v v_assign ?_
      refine xl_nil ?_
      refine x_ret ?_
      refine fin1 rfl ?_
      exact ⟨congrArg Value.bool (by rw [an_dec]; simp_all), lkc⟩
    ·
     refine xl_gs rfl EvO.eq ?_
     refine xl_gs rfl EvO.eq ?_
     refine xl_gs rfl EvO.eq ?_
     refine xl_gs rfl EvO.eq ?_
     refine xl_gs rfl EvO.eq ?_
     refine xl_Pk ?_
     refine xl_v v_move ?_
     refine xl_gs rfl EvO.eq ?_
     refine xl_gs rfl EvO.eq ?_
     refine xl_gs rfl EvO.eq ?_
     refine xl_gs rfl EvO.eq ?_
     refine xl_gs rfl EvO.eq ?_
     refine xl_Pk ?_
     refine xl_v v_move ?_
     refine xl_gs rfl EvO.eq ?_
     refine xl_gs rfl EvO.eq ?_
     refine xl_gs rfl EvO.eq ?_
     refine xl_gs rfl EvO.eq ?_
     refine xl_gs rfl EvO.eq ?_
     refine xl_Pk ?_
     refine xl_v v_move ?_
     refine xl_gs rfl EvO.eq ?_
     refine xl_gs rfl EvO.eq ?_
     refine xl_gs rfl EvO.eq ?_
     refine xl_gs rfl EvO.eq ?_
     refine xl_gs rfl EvO.eq ?_
     refine xl_Pk ?_
     refine xl_v v_assign ?_
     refine xl_nil ?_
     refine x_ret ?_
     refine fin1 rfl ?_
     exact ⟨congrArg Value.bool (by rw [an_dec]; simp_all), lkc⟩
   ·
    refine xl_gs rfl EvO.eq ?_
    refine xl_gs rfl EvO.eq ?_
    refine xl_gs rfl EvO.eq ?_
    refine xl_gs rfl EvO.eq ?_
    refine xl_gs rfl EvO.eq ?_
    refine xl_Pk ?_
    refine xl_v v_move ?_
    refine xl_gs rfl EvO.eq ?_
    refine xl_gs rfl EvO.eq ?_
    refine xl_gs rfl EvO.eq ?_
    refine xl_gs rfl EvO.eq ?_
    refine xl_gs rfl EvO.eq ?_
    refine xl_Pk ?_
    refine xl_v v_move ?_
    refine xl_gs rfl EvO.eq ?_
    refine xl_gs rfl EvO.eq ?_
    refine xl_gs rfl EvO.eq ?_
    refine xl_gs rfl EvO.eq ?_
    refine xl_gs rfl EvO.eq ?_
    refine xl_Pk ?_
    refine xl_v v_move ?_
    refine xl_gs rfl EvO.eq ?_
    refine xl_gs rfl EvO.eq ?_
    refine xl_gs rfl EvO.eq ?_
    refine xl_gs rfl EvO.eq ?_
    refine xl_gs rfl EvO.eq ?_
    refine xl_Pk ?_
    refine xl_v v_move ?_
    refine xl_gs rfl EvO.eq ?_
    refine xl_gs rfl EvO.eq ?_
    refine xl_gs rfl EvO.eq ?_
    refine xl_gs rfl EvO.eq ?_
    refine xl_gs rfl EvO.eq ?_
    refine xl_Pk ?_
    refine xl_v v_assign ?_
    refine xl_nil ?_
    refine x_ret ?_
    refine fin1 rfl ?_
    exact ⟨congrArg Value.bool (by rw [an_dec]; simp_all), lkc⟩
  ·
   refine xl_gs rfl EvO.eq ?_
   refine xl_gs rfl EvO.eq ?_
   refine xl_gs rfl EvO.eq ?_
   refine xl_gs rfl EvO.eq ?_
   refine xl_gs rfl EvO.eq ?_
   refine xl_Pk ?_
   refine xl_v v_move ?_
   refine xl_gs rfl EvO.eq ?_
   refine xl_gs rfl EvO.eq ?_
   refine xl_gs rfl EvO.eq ?_
   refine xl_gs rfl EvO.eq ?_
   refine xl_gs rfl EvO.eq ?_
   refine xl_Pk ?_
   refine xl_v v_move ?_
   refine xl_gs rfl EvO.eq ?_
   refine xl_gs rfl EvO.eq ?_
   refine xl_gs rfl EvO.eq ?_
   refine xl_gs rfl EvO.eq ?_
   refine xl_gs rfl EvO.eq ?_
   refine xl_Pk ?_
   refine xl_v v_move ?_
   refine xl_gs rfl EvO.eq ?_
   refine xl_gs rfl EvO.eq ?_
   refine xl_gs rfl EvO.eq ?_
   refine xl_gs rfl EvO.eq ?_
   refine xl_gs rfl EvO.eq ?_
   refine xl_Pk ?_
   refine xl_v v_move ?_
   refine xl_gs rfl EvO.eq ?_
   refine xl_gs rfl EvO.eq ?_
   refine xl_gs rfl EvO.eq ?_
   refine xl_gs rfl EvO.eq ?_
   refine xl_gs rfl EvO.eq ?_
   refine xl_Pk ?_
   refine xl_v v_move ?_
   refine xl_gs rfl EvO.eq ?_
   refine xl_gs rfl EvO.eq ?_
   refine xl_gs rfl EvO.eq ?_
   refine xl_gs rfl EvO.eq ?_
   refine xl_gs rfl EvO.eq ?_
   refine xl_Pk ?_
   refine xl_v v_assign ?_
   refine xl_nil ?_
   refine x_ret ?_
   refine fin1 rfl ?_
   exact ⟨congrArg Value.bool (by rw [an_dec]; simp_all), lkc⟩
 ·
  refine xl_gs rfl EvO.eq ?_
  refine xl_gs rfl EvO.eq ?_
  refine xl_gs rfl EvO.eq ?_
  refine xl_gs rfl EvO.eq ?_
  refine xl_gs rfl EvO.eq ?_
  refine xl_Pk ?_
  refine xl_v v_move ?_
  refine xl_gs rfl EvO.eq ?_
  refine xl_gs rfl EvO.eq ?_
  refine xl_gs rfl EvO.eq ?_
  refine xl_gs rfl EvO.eq ?_
  refine xl_gs rfl EvO.eq ?_
  refine xl_Pk ?_
  refine xl_v v_move ?_
  refine xl_gs rfl EvO.eq ?_
  refine xl_gs rfl EvO.eq ?_
  refine xl_gs rfl EvO.eq ?_
  refine xl_gs rfl EvO.eq ?_
  refine xl_gs rfl EvO.eq ?_
  refine xl_Pk ?_
  refine xl_v v_move ?_
  refine xl_gs rfl EvO.eq ?_
  refine xl_gs rfl EvO.eq ?_
  refine xl_gs rfl EvO.eq ?_
  refine xl_gs rfl EvO.eq ?_
  refine xl_gs rfl EvO.eq ?_
  refine xl_Pk ?_
  refine xl_v v_move ?_
  refine xl_gs rfl EvO.eq ?_
  refine xl_gs rfl EvO.eq ?_
  refine xl_gs rfl EvO.eq ?_
  refine xl_gs rfl EvO.eq ?_
  refine xl_gs rfl EvO.eq ?_
  refine xl_Pk ?_
  refine xl_v v_move ?_
  refine xl_gs rfl EvO.eq ?_
  refine xl_gs rfl EvO.eq ?_
  refine xl_gs rfl EvO.eq ?_
  refine xl_gs rfl EvO.eq ?_
  refine xl_gs rfl EvO.eq ?_
  refine xl_Pk ?_
  refine xl_v v_move ?_
  refine xl_gs rfl EvO.eq ?_
  refine xl_gs rfl EvO.eq ?_
  refine xl_gs rfl EvO.eq ?_
  refine xl_gs rfl EvO.eq ?_
  refine xl_gs rfl EvO.eq ?_
  refine xl_Pk ?_
  refine xl_v v_assign ?_
  refine xl_nil ?_
  refine x_ret ?_
  refine fin1 rfl ?_
  exact ⟨congrArg Value.bool (by rw [an_dec]; simp_all), lkc⟩
set_option maxHeartbeats 2000000 in
theorem sameB_ok (x y : LBl) (w : World) [hrx : Row w x.A (cmdsC x.m.cmds)] [hry : Row w y.A (cmdsC y.m.cmds)] (hl : x.m.cmds.length ≤ 1000) : Ret Tryz.prog 42 #[.agg (blC x).toArray, .agg (blC y).toArray] w (fun v w' => v = .bool (decide (x.m = y.m)) ∧ Lk w' w NoB) := by
 haveI x1 : RowB w x.A w (cmdsC x.m.cmds) := rowB_of hrx.row
 haveI y1 : RowB w y.A w (cmdsC y.m.cmds) := rowB_of hry.row
 refine ret_of_x (N := 87) (l := [.agg (blC x).toArray, .agg (blC y).toArray]) Tryz.func42 rfl rfl (Nat.le_of_ble_eq_true rfl) ?_
 refine x_seq ?_
 refine x_regionL ?_
 refine xl_e (e_box fun b1 w1 n1 l1 k1 => ?_)
 refine xl_e (e_box fun b2 w2 n2 l2 k2 => ?_)
 refine xl_v v_assign ?_
 refine xl_nil ?_
 refine x_seq ?_
 refine x_regionL ?_
 refine xl_Fb ?_
 refine xl_Lc ?_
 refine xl_Fb ?_
 refine xl_Lc ?_
 refine xl_v v_eql ?_
 refine xl_v v_move ?_
 refine xl_split 10 (fun g10 => ?_) (fun g10 => ?_)
 ·
  refine xl_gFb rfl EvO.eq ?_
  refine xl_gLc rfl EvO.eq ?_
  refine xl_gFb rfl EvO.eq ?_
  refine xl_gLc rfl EvO.eq ?_
  refine xl_gv rfl EvO.eq v_eql ?_
  refine xl_Pk ?_
  refine xl_v v_move ?_
  refine xl_split 17 (fun g17 => ?_) (fun g17 => ?_)
  ·
   refine xl_gFb rfl EvO.eq ?_
   refine xl_gLc rfl EvO.eq ?_
   refine xl_gFb rfl EvO.eq ?_
   refine xl_gLc rfl EvO.eq ?_
   refine xl_gv rfl EvO.eq v_eql ?_
   refine xl_Pk ?_
   refine xl_v v_move ?_
   refine xl_split 24 (fun g24 => ?_) (fun g24 => ?_)
   ·
    refine xl_gFb rfl EvO.eq ?_
    refine xl_gLc rfl EvO.eq ?_
    refine xl_gFb rfl EvO.eq ?_
    refine xl_gLc rfl EvO.eq ?_
    refine xl_gv rfl EvO.eq v_eql ?_
    refine xl_Pk ?_
    refine xl_v v_move ?_
    refine xl_split 31 (fun g31 => ?_) (fun g31 => ?_)
    ·
     refine xl_gFb rfl EvO.eq ?_
     refine xl_gLc rfl EvO.eq ?_
     refine xl_gFb rfl EvO.eq ?_
     refine xl_gLc rfl EvO.eq ?_
     refine xl_gv rfl EvO.eq v_eql ?_
     refine xl_Pk ?_
     refine xl_v v_move ?_
     refine xl_split 38 (fun g38 => ?_) (fun g38 => ?_)
     ·
      refine xl_gFb rfl EvO.eq ?_
      refine xl_gLc rfl EvO.eq ?_
      refine xl_gFb rfl EvO.eq ?_
      refine xl_gLc rfl EvO.eq ?_
      refine xl_gv rfl EvO.eq v_eql ?_
      refine xl_Pk ?_
      refine xl_v v_move ?_
      refine xl_split 45 (fun g45 => ?_) (fun g45 => ?_)
      ·
       refine xl_gFb rfl EvO.eq ?_
       refine xl_gLc rfl EvO.eq ?_
       refine xl_gFb rfl EvO.eq ?_
       refine xl_gLc rfl EvO.eq ?_
       refine xl_gv rfl EvO.eq v_eql ?_
       refine xl_Pk ?_
       refine xl_v v_move ?_
       refine xl_split 52 (fun g52 => ?_) (fun g52 => ?_)
       ·
        refine xl_gFb rfl EvO.eq ?_
        refine xl_gLc rfl EvO.eq ?_
        refine xl_gFb rfl EvO.eq ?_
        refine xl_gLc rfl EvO.eq ?_
        refine xl_gv rfl EvO.eq v_eql ?_
        refine xl_Pk ?_
        refine xl_v v_move ?_
        refine xl_split 59 (fun g59 => ?_) (fun g59 => ?_)
        ·
         refine xl_gFb rfl EvO.eq ?_
         refine xl_gLc rfl EvO.eq ?_
         refine xl_gFb rfl EvO.eq ?_
         refine xl_gLc rfl EvO.eq ?_
         refine xl_gv rfl EvO.eq v_eql ?_
         refine xl_Pk ?_
         refine xl_v v_move ?_
         refine xl_split 66 (fun g66 => ?_) (fun g66 => ?_)
         ·
          refine xl_gFb rfl EvO.eq ?_
          refine xl_gLc rfl EvO.eq ?_
          refine xl_gFb rfl EvO.eq ?_
          refine xl_gLc rfl EvO.eq ?_
          refine xl_gv rfl EvO.eq v_eql ?_
          refine xl_Pk ?_
          refine xl_v v_move ?_
          refine xl_split 73 (fun g73 => ?_) (fun g73 => ?_)
          ·
           refine xl_gFb rfl EvO.eq ?_
           refine xl_gLc rfl EvO.eq ?_
           refine xl_gFb rfl EvO.eq ?_
           refine xl_gLc rfl EvO.eq ?_
           refine xl_gv rfl EvO.eq (v_beql) ?_
           refine xl_Pk ?_
           refine xl_v v_move ?_
           refine xl_split 80 (fun g80 => ?_) (fun g80 => ?_)
           ·
            refine xl_gFb rfl EvO.eq ?_
            refine xl_gLc rfl EvO.eq ?_
            refine xl_gFb rfl EvO.eq ?_
            refine xl_gLc rfl EvO.eq ?_
            refine xl_gcall rfl EvO.eq (sameC_ok x.A _ x.c x.m.cmds y.A _ y.c y.m.cmds w2 rfl rfl (by omega)) ?_
            rintro _ w3 ⟨rfl, lk31⟩
            refine xl_Pk ?_
            refine xl_v v_assign ?_
            refine xl_nil ?_
            refine x_ret ?_
            refine fin1 rfl ?_
            exact ⟨congrArg Value.bool (by rw [bl_dec]; simp_all), lkc⟩
           ·
            refine xl_gs rfl EvO.eq ?_
            refine xl_gs rfl EvO.eq ?_
            refine xl_gs rfl EvO.eq ?_
            refine xl_gs rfl EvO.eq ?_
            refine xl_gs rfl EvO.eq ?_
            refine xl_Pk ?_
            refine xl_v v_assign ?_
            refine xl_nil ?_
            refine x_ret ?_
            refine fin1 rfl ?_
            exact ⟨congrArg Value.bool (by rw [bl_dec]; simp_all), lkc⟩
          ·
           refine xl_gs rfl EvO.eq ?_
           refine xl_gs rfl EvO.eq ?_
           refine xl_gs rfl EvO.eq ?_
           refine xl_gs rfl EvO.eq ?_
           refine xl_gs rfl EvO.eq ?_
           refine xl_Pk ?_
           refine xl_v v_move ?_
           refine xl_gs rfl EvO.eq ?_
           refine xl_gs rfl EvO.eq ?_
           refine xl_gs rfl EvO.eq ?_
           refine xl_gs rfl EvO.eq ?_
           refine xl_gs rfl EvO.eq ?_
           refine xl_Pk ?_
           refine xl_v v_assign ?_
           refine xl_nil ?_
           refine x_ret ?_
           refine fin1 rfl ?_
           exact ⟨congrArg Value.bool (by rw [bl_dec]; simp_all), lkc⟩
         ·
          refine xl_gs rfl EvO.eq ?_
          refine xl_gs rfl EvO.eq ?_
          refine xl_gs rfl EvO.eq ?_
          refine xl_gs rfl EvO.eq ?_
          refine xl_gs rfl EvO.eq ?_
          refine xl_Pk ?_
          refine xl_v v_move ?_
          refine xl_gs rfl EvO.eq ?_
          refine xl_gs rfl EvO.eq ?_
          refine xl_gs rfl EvO.eq ?_
          refine xl_gs rfl EvO.eq ?_
          refine xl_gs rfl EvO.eq ?_
          refine xl_Pk ?_
          refine xl_v v_move ?_
          refine xl_gs rfl EvO.eq ?_
          refine xl_gs rfl EvO.eq ?_
          refine xl_gs rfl EvO.eq ?_
          refine xl_gs rfl EvO.eq ?_
          refine xl_gs rfl EvO.eq ?_
          refine xl_Pk ?_
          refine xl_v v_assign ?_
          refine xl_nil ?_
          refine x_ret ?_
          refine fin1 rfl ?_
          exact ⟨congrArg Value.bool (by rw [bl_dec]; simp_all), lkc⟩
        ·
         refine xl_gs rfl EvO.eq ?_
         refine xl_gs rfl EvO.eq ?_
         refine xl_gs rfl EvO.eq ?_
         refine xl_gs rfl EvO.eq ?_
         refine xl_gs rfl EvO.eq ?_
         refine xl_Pk ?_
         refine xl_v v_move ?_
         refine xl_gs rfl EvO.eq ?_
         refine xl_gs rfl EvO.eq ?_
         refine xl_gs rfl EvO.eq ?_
         refine xl_gs rfl EvO.eq ?_
         refine xl_gs rfl EvO.eq ?_
         refine xl_Pk ?_
         refine xl_v v_move ?_
         refine xl_gs rfl EvO.eq ?_
         refine xl_gs rfl EvO.eq ?_
         refine xl_gs rfl EvO.eq ?_
         refine xl_gs rfl EvO.eq ?_
         refine xl_gs rfl EvO.eq ?_
         refine xl_Pk ?_
         refine xl_v v_move ?_
         refine xl_gs rfl EvO.eq ?_
         refine xl_gs rfl EvO.eq ?_
         refine xl_gs rfl EvO.eq ?_
         refine xl_gs rfl EvO.eq ?_
         refine xl_gs rfl EvO.eq ?_
         refine xl_Pk ?_
         refine xl_v v_assign ?_
         refine xl_nil ?_
         refine x_ret ?_
         refine fin1 rfl ?_
         exact ⟨congrArg Value.bool (by rw [bl_dec]; simp_all), lkc⟩
       ·
        refine xl_gs rfl EvO.eq ?_
        refine xl_gs rfl EvO.eq ?_
        refine xl_gs rfl EvO.eq ?_
        refine xl_gs rfl EvO.eq ?_
        refine xl_gs rfl EvO.eq ?_
        refine xl_Pk ?_
        refine xl_v v_move ?_
        refine xl_gs rfl EvO.eq ?_
        refine xl_gs rfl EvO.eq ?_
        refine xl_gs rfl EvO.eq ?_
        refine xl_gs rfl EvO.eq ?_
        refine xl_gs rfl EvO.eq ?_
        refine xl_Pk ?_
        refine xl_v v_move ?_
        refine xl_gs rfl EvO.eq ?_
        refine xl_gs rfl EvO.eq ?_
        refine xl_gs rfl EvO.eq ?_
        refine xl_gs rfl EvO.eq ?_
        refine xl_gs rfl EvO.eq ?_
        refine xl_Pk ?_
        refine xl_v v_move ?_
        refine xl_gs rfl EvO.eq ?_
        refine xl_gs rfl EvO.eq ?_
        refine xl_gs rfl EvO.eq ?_
        refine xl_gs rfl EvO.eq ?_
        refine xl_gs rfl EvO.eq ?_
        refine xl_Pk ?_
        refine xl_v v_move ?_
        refine xl_gs rfl EvO.eq ?_
        refine xl_gs rfl EvO.eq ?_
        refine xl_gs rfl EvO.eq ?_
        refine xl_gs rfl EvO.eq ?_
        refine xl_gs rfl EvO.eq ?_
        refine xl_Pk ?_
        refine xl_v v_assign ?_
        refine xl_nil ?_
        refine x_ret ?_
        refine fin1 rfl ?_
        exact ⟨congrArg Value.bool (by rw [bl_dec]; simp_all), lkc⟩
      ·
       refine xl_gs rfl EvO.eq ?_
       refine xl_gs rfl EvO.eq ?_
       refine xl_gs rfl EvO.eq ?_
       refine xl_gs rfl EvO.eq ?_
       refine xl_gs rfl EvO.eq ?_
       refine xl_Pk ?_
       refine xl_v v_move ?_
       refine xl_gs rfl EvO.eq ?_
       refine xl_gs rfl EvO.eq ?_
       refine xl_gs rfl EvO.eq ?_
       refine xl_gs rfl EvO.eq ?_
       refine xl_gs rfl EvO.eq ?_
       refine xl_Pk ?_
       refine xl_v v_move ?_
       refine xl_gs rfl EvO.eq ?_
       refine xl_gs rfl EvO.eq ?_
       refine xl_gs rfl EvO.eq ?_
       refine xl_gs rfl EvO.eq ?_
       refine xl_gs rfl EvO.eq ?_
       refine xl_Pk ?_
       refine xl_v v_move ?_
       refine xl_gs rfl EvO.eq ?_
       refine xl_gs rfl EvO.eq ?_
       refine xl_gs rfl EvO.eq ?_
       refine xl_gs rfl EvO.eq ?_
       refine xl_gs rfl EvO.eq ?_
       refine xl_Pk ?_
       refine xl_v v_move ?_
       refine xl_gs rfl EvO.eq ?_
       refine xl_gs rfl EvO.eq ?_
       refine xl_gs rfl EvO.eq ?_
       refine xl_gs rfl EvO.eq ?_
       refine xl_gs rfl EvO.eq ?_
       refine xl_Pk ?_
       refine xl_v v_move ?_
       refine xl_gs rfl EvO.eq ?_
       refine xl_gs rfl EvO.eq ?_
       refine xl_gs rfl EvO.eq ?_
       refine xl_gs rfl EvO.eq ?_
       refine xl_gs rfl EvO.eq ?_
       refine xl_Pk ?_
       refine xl_v v_assign ?_
       refine xl_nil ?_
       refine x_ret ?_
       refine fin1 rfl ?_
       exact ⟨congrArg Value.bool (by rw [bl_dec]; simp_all), lkc⟩
     ·
      refine xl_gs rfl EvO.eq ?_
      refine xl_gs rfl EvO.eq ?_
      refine xl_gs rfl EvO.eq ?_
      refine xl_gs rfl EvO.eq ?_
      refine xl_gs rfl EvO.eq ?_
      refine xl_Pk ?_
      refine xl_v v_move ?_
      refine xl_gs rfl EvO.eq ?_
      refine xl_gs rfl EvO.eq ?_
      refine xl_gs rfl EvO.eq ?_
      refine xl_gs rfl EvO.eq ?_
      refine xl_gs rfl EvO.eq ?_
      refine xl_Pk ?_
      refine xl_v v_move ?_
      refine xl_gs rfl EvO.eq ?_
      refine xl_gs rfl EvO.eq ?_
      refine xl_gs rfl EvO.eq ?_
      refine xl_gs rfl EvO.eq ?_
      refine xl_gs rfl EvO.eq ?_
      refine xl_Pk ?_
      refine xl_v v_move ?_
      refine xl_gs rfl EvO.eq ?_
      refine xl_gs rfl EvO.eq ?_
      refine xl_gs rfl EvO.eq ?_
      refine xl_gs rfl EvO.eq ?_
      refine xl_gs rfl EvO.eq ?_
      refine xl_Pk ?_
      refine xl_v v_move ?_
      refine xl_gs rfl EvO.eq ?_
      refine xl_gs rfl EvO.eq ?_
      refine xl_gs rfl EvO.eq ?_
      refine xl_gs rfl EvO.eq ?_
      refine xl_gs rfl EvO.eq ?_
      refine xl_Pk ?_
      refine xl_v v_move ?_
      refine xl_gs rfl EvO.eq ?_
      refine xl_gs rfl EvO.eq ?_
      refine xl_gs rfl EvO.eq ?_
      refine xl_gs rfl EvO.eq ?_
      refine xl_gs rfl EvO.eq ?_
      refine xl_Pk ?_
      refine xl_v v_move ?_
      refine xl_gs rfl EvO.eq ?_
      refine xl_gs rfl EvO.eq ?_
      refine xl_gs rfl EvO.eq ?_
      refine xl_gs rfl EvO.eq ?_
      refine xl_gs rfl EvO.eq ?_
      refine xl_Pk ?_
      refine xl_v v_assign ?_
      refine xl_nil ?_
      refine x_ret ?_
      refine fin1 rfl ?_
      exact ⟨congrArg Value.bool (by rw [bl_dec]; simp_all), lkc⟩
    ·
     refine xl_gs rfl EvO.eq ?_
     refine xl_gs rfl EvO.eq ?_
     refine xl_gs rfl EvO.eq ?_
     refine xl_gs rfl EvO.eq ?_
     refine xl_gs rfl EvO.eq ?_
     refine xl_Pk ?_
     refine xl_v v_move ?_
     refine xl_gs rfl EvO.eq ?_
     refine xl_gs rfl EvO.eq ?_
     refine xl_gs rfl EvO.eq ?_
     refine xl_gs rfl EvO.eq ?_
     refine xl_gs rfl EvO.eq ?_
     refine xl_Pk ?_
     refine xl_v v_move ?_
     refine xl_gs rfl EvO.eq ?_
     refine xl_gs rfl EvO.eq ?_
     refine xl_gs rfl EvO.eq ?_
     refine xl_gs rfl EvO.eq ?_
     refine xl_gs rfl EvO.eq ?_
     refine xl_Pk ?_
     refine xl_v v_move ?_
     refine xl_gs rfl EvO.eq ?_
     refine xl_gs rfl EvO.eq ?_
     refine xl_gs rfl EvO.eq ?_
     refine xl_gs rfl EvO.eq ?_
     refine xl_gs rfl EvO.eq ?_
     refine xl_Pk ?_
     refine xl_v v_move ?_
     refine xl_gs rfl EvO.eq ?_
     refine xl_gs rfl EvO.eq ?_
     refine xl_gs rfl EvO.eq ?_
     refine xl_gs rfl EvO.eq ?_
     refine xl_gs rfl EvO.eq ?_
     refine xl_Pk ?_
     refine xl_v v_move ?_
     refine xl_gs rfl EvO.eq ?_
     refine xl_gs rfl EvO.eq ?_
     refine xl_gs rfl EvO.eq ?_
     refine xl_gs rfl EvO.eq ?_
     refine xl_gs rfl EvO.eq ?_
     refine xl_Pk ?_
     refine xl_v v_move ?_
     refine xl_gs rfl EvO.eq ?_
     refine xl_gs rfl EvO.eq ?_
     refine xl_gs rfl EvO.eq ?_
     refine xl_gs rfl EvO.eq ?_
     refine xl_gs rfl EvO.eq ?_
     refine xl_Pk ?_
     refine xl_v v_move ?_
     refine xl_gs rfl EvO.eq ?_
     refine xl_gs rfl EvO.eq ?_
     refine xl_gs rfl EvO.eq ?_
     refine xl_gs rfl EvO.eq ?_
     refine xl_gs rfl EvO.eq ?_
     refine xl_Pk ?_
     refine xl_v v_assign ?_
     refine xl_nil ?_
     refine x_ret ?_
     refine fin1 rfl ?_
     exact ⟨congrArg Value.bool (by rw [bl_dec]; simp_all), lkc⟩
   ·
    refine xl_gs rfl EvO.eq ?_
    refine xl_gs rfl EvO.eq ?_
    refine xl_gs rfl EvO.eq ?_
    refine xl_gs rfl EvO.eq ?_
    refine xl_gs rfl EvO.eq ?_
    refine xl_Pk ?_
    refine xl_v v_move ?_
    refine xl_gs rfl EvO.eq ?_
    refine xl_gs rfl EvO.eq ?_
    refine xl_gs rfl EvO.eq ?_
    refine xl_gs rfl EvO.eq ?_
    refine xl_gs rfl EvO.eq ?_
    refine xl_Pk ?_
    refine xl_v v_move ?_
    refine xl_gs rfl EvO.eq ?_
    refine xl_gs rfl EvO.eq ?_
    refine xl_gs rfl EvO.eq ?_
    refine xl_gs rfl EvO.eq ?_
    refine xl_gs rfl EvO.eq ?_
    refine xl_Pk ?_
    refine xl_v v_move ?_
    refine xl_gs rfl EvO.eq ?_
    refine xl_gs rfl EvO.eq ?_
    refine xl_gs rfl EvO.eq ?_
    refine xl_gs rfl EvO.eq ?_
    refine xl_gs rfl EvO.eq ?_
    refine xl_Pk ?_
    refine xl_v v_move ?_
    refine xl_gs rfl EvO.eq ?_
    refine xl_gs rfl EvO.eq ?_
    refine xl_gs rfl EvO.eq ?_
    refine xl_gs rfl EvO.eq ?_
    refine xl_gs rfl EvO.eq ?_
    refine xl_Pk ?_
    refine xl_v v_move ?_
    refine xl_gs rfl EvO.eq ?_
    refine xl_gs rfl EvO.eq ?_
    refine xl_gs rfl EvO.eq ?_
    refine xl_gs rfl EvO.eq ?_
    refine xl_gs rfl EvO.eq ?_
    refine xl_Pk ?_
    refine xl_v v_move ?_
    refine xl_gs rfl EvO.eq ?_
    refine xl_gs rfl EvO.eq ?_
    refine xl_gs rfl EvO.eq ?_
    refine xl_gs rfl EvO.eq ?_
    refine xl_gs rfl EvO.eq ?_
    refine xl_Pk ?_
    refine xl_v v_move ?_
    refine xl_gs rfl EvO.eq ?_
    refine xl_gs rfl EvO.eq ?_
    refine xl_gs rfl EvO.eq ?_
    refine xl_gs rfl EvO.eq ?_
    refine xl_gs rfl EvO.eq ?_
    refine xl_Pk ?_
    refine xl_v v_move ?_
    refine xl_gs rfl EvO.eq ?_
    refine xl_gs rfl EvO.eq ?_
    refine xl_gs rfl EvO.eq ?_
    refine xl_gs rfl EvO.eq ?_
    refine xl_gs rfl EvO.eq ?_
    refine xl_Pk ?_
    refine xl_v v_assign ?_
    refine xl_nil ?_
    refine x_ret ?_
    refine fin1 rfl ?_
    exact ⟨congrArg Value.bool (by rw [bl_dec]; simp_all), lkc⟩
  ·
   refine xl_gs rfl EvO.eq ?_
   refine xl_gs rfl EvO.eq ?_
   refine xl_gs rfl EvO.eq ?_
   refine xl_gs rfl EvO.eq ?_
   refine xl_gs rfl EvO.eq ?_
   refine xl_Pk ?_
   refine xl_v v_move ?_
   refine xl_gs rfl EvO.eq ?_
   refine xl_gs rfl EvO.eq ?_
   refine xl_gs rfl EvO.eq ?_
   refine xl_gs rfl EvO.eq ?_
   refine xl_gs rfl EvO.eq ?_
   refine xl_Pk ?_
   refine xl_v v_move ?_
   refine xl_gs rfl EvO.eq ?_
   refine xl_gs rfl EvO.eq ?_
   refine xl_gs rfl EvO.eq ?_
   refine xl_gs rfl EvO.eq ?_
   refine xl_gs rfl EvO.eq ?_
   refine xl_Pk ?_
   refine xl_v v_move ?_
   refine xl_gs rfl EvO.eq ?_
   refine xl_gs rfl EvO.eq ?_
   refine xl_gs rfl EvO.eq ?_
   refine xl_gs rfl EvO.eq ?_
   refine xl_gs rfl EvO.eq ?_
   refine xl_Pk ?_
   refine xl_v v_move ?_
   refine xl_gs rfl EvO.eq ?_
   refine xl_gs rfl EvO.eq ?_
   refine xl_gs rfl EvO.eq ?_
   refine xl_gs rfl EvO.eq ?_
   refine xl_gs rfl EvO.eq ?_
   refine xl_Pk ?_
   refine xl_v v_move ?_
   refine xl_gs rfl EvO.eq ?_
   refine xl_gs rfl EvO.eq ?_
   refine xl_gs rfl EvO.eq ?_
   refine xl_gs rfl EvO.eq ?_
   refine xl_gs rfl EvO.eq ?_
   refine xl_Pk ?_
   refine xl_v v_move ?_
   refine xl_gs rfl EvO.eq ?_
   refine xl_gs rfl EvO.eq ?_
   refine xl_gs rfl EvO.eq ?_
   refine xl_gs rfl EvO.eq ?_
   refine xl_gs rfl EvO.eq ?_
   refine xl_Pk ?_
   refine xl_v v_move ?_
   refine xl_gs rfl EvO.eq ?_
   refine xl_gs rfl EvO.eq ?_
   refine xl_gs rfl EvO.eq ?_
   refine xl_gs rfl EvO.eq ?_
   refine xl_gs rfl EvO.eq ?_
   refine xl_Pk ?_
   refine xl_v v_move ?_
   refine xl_gs rfl EvO.eq ?_
   refine xl_gs rfl EvO.eq ?_
   refine xl_gs rfl EvO.eq ?_
   refine xl_gs rfl EvO.eq ?_
   refine xl_gs rfl EvO.eq ?_
   refine xl_Pk ?_
   refine xl_v v_move ?_
   refine xl_gs rfl EvO.eq ?_
   refine xl_gs rfl EvO.eq ?_
   refine xl_gs rfl EvO.eq ?_
   refine xl_gs rfl EvO.eq ?_
   refine xl_gs rfl EvO.eq ?_
   refine xl_Pk ?_
   refine xl_v v_assign ?_
   refine xl_nil ?_
   refine x_ret ?_
   refine fin1 rfl ?_
   exact ⟨congrArg Value.bool (by rw [bl_dec]; simp_all), lkc⟩
 ·
  refine xl_gs rfl EvO.eq ?_
  refine xl_gs rfl EvO.eq ?_
  refine xl_gs rfl EvO.eq ?_
  refine xl_gs rfl EvO.eq ?_
  refine xl_gs rfl EvO.eq ?_
  refine xl_Pk ?_
  refine xl_v v_move ?_
  refine xl_gs rfl EvO.eq ?_
  refine xl_gs rfl EvO.eq ?_
  refine xl_gs rfl EvO.eq ?_
  refine xl_gs rfl EvO.eq ?_
  refine xl_gs rfl EvO.eq ?_
  refine xl_Pk ?_
  refine xl_v v_move ?_
  refine xl_gs rfl EvO.eq ?_
  refine xl_gs rfl EvO.eq ?_
  refine xl_gs rfl EvO.eq ?_
  refine xl_gs rfl EvO.eq ?_
  refine xl_gs rfl EvO.eq ?_
  refine xl_Pk ?_
  refine xl_v v_move ?_
  refine xl_gs rfl EvO.eq ?_
  refine xl_gs rfl EvO.eq ?_
  refine xl_gs rfl EvO.eq ?_
  refine xl_gs rfl EvO.eq ?_
  refine xl_gs rfl EvO.eq ?_
  refine xl_Pk ?_
  refine xl_v v_move ?_
  refine xl_gs rfl EvO.eq ?_
  refine xl_gs rfl EvO.eq ?_
  refine xl_gs rfl EvO.eq ?_
  refine xl_gs rfl EvO.eq ?_
  refine xl_gs rfl EvO.eq ?_
  refine xl_Pk ?_
  refine xl_v v_move ?_
  refine xl_gs rfl EvO.eq ?_
  refine xl_gs rfl EvO.eq ?_
  refine xl_gs rfl EvO.eq ?_
  refine xl_gs rfl EvO.eq ?_
  refine xl_gs rfl EvO.eq ?_
  refine xl_Pk ?_
  refine xl_v v_move ?_
  refine xl_gs rfl EvO.eq ?_
  refine xl_gs rfl EvO.eq ?_
  refine xl_gs rfl EvO.eq ?_
  refine xl_gs rfl EvO.eq ?_
  refine xl_gs rfl EvO.eq ?_
  refine xl_Pk ?_
  refine xl_v v_move ?_
  refine xl_gs rfl EvO.eq ?_
  refine xl_gs rfl EvO.eq ?_
  refine xl_gs rfl EvO.eq ?_
  refine xl_gs rfl EvO.eq ?_
  refine xl_gs rfl EvO.eq ?_
  refine xl_Pk ?_
  refine xl_v v_move ?_
  refine xl_gs rfl EvO.eq ?_
  refine xl_gs rfl EvO.eq ?_
  refine xl_gs rfl EvO.eq ?_
  refine xl_gs rfl EvO.eq ?_
  refine xl_gs rfl EvO.eq ?_
  refine xl_Pk ?_
  refine xl_v v_move ?_
  refine xl_gs rfl EvO.eq ?_
  refine xl_gs rfl EvO.eq ?_
  refine xl_gs rfl EvO.eq ?_
  refine xl_gs rfl EvO.eq ?_
  refine xl_gs rfl EvO.eq ?_
  refine xl_Pk ?_
  refine xl_v v_move ?_
  refine xl_gs rfl EvO.eq ?_
  refine xl_gs rfl EvO.eq ?_
  refine xl_gs rfl EvO.eq ?_
  refine xl_gs rfl EvO.eq ?_
  refine xl_gs rfl EvO.eq ?_
  refine xl_Pk ?_
  refine xl_v v_assign ?_
  refine xl_nil ?_
  refine x_ret ?_
  refine fin1 rfl ?_
  exact ⟨congrArg Value.bool (by rw [bl_dec]; simp_all), lkc⟩

theorem num_ok (e : Int) (w : World) : Ret Tryz.prog 17 #[.int .i64 e] w (fun v w' => v = .int .i64 e ∧ w = w') := by
 refine ret_of_x (N := 4) (l := [.int .i64 e]) Tryz.func17 rfl rfl (Nat.le_of_ble_eq_true rfl) ?_
 refine x_seq ?_
 refine x_regionL ?_
 refine xl_v v_assign ?_
 refine xl_nil ?_
 refine x_seq ?_
 refine x_regionL ?_
 refine xl_v v_move ?_
 refine xl_v v_assign ?_
 refine xl_nil ?_
 refine x_ret ?_
 refine fin1 rfl ?_
 exact ⟨rfl, rfl⟩

theorem pick_ok (k a b : Int) (w : World) : Ret Tryz.prog 16 #[.int .i64 k, .int .i64 a, .int .i64 b] w (fun v w' => v = .agg (pkC ⟨k, a, b⟩).toArray ∧ Lk w' w NoB) := by
 refine ret_of_x (N := 11) (l := [.int .i64 k, .int .i64 a, .int .i64 b]) Tryz.func16 rfl rfl (Nat.le_of_ble_eq_true rfl) ?_
 refine x_seq ?_
 refine x_regionL ?_
 refine xl_e (e_alloc fun b1 w1 n1 l1 k1 => ?_)
 refine xl_nil ?_
 refine x_seq ?_
 refine x_regionL ?_
 refine xl_v v_move ?_
 refine xl_v v_move ?_
 refine xl_v v_move ?_
 refine xl_v v_build ?_
 refine xl_s (e_storeA fun w2 l2 k2 => ?_)
 refine xl_nil ?_
 refine x_ret ?_
 refine finR (rs := [.cell 6 25]) rfl ?_
 exact ⟨by simp [outV, pkC], lkc⟩

theorem right_ok (n : Int) (w : World) : Ret Tryz.prog 4 #[.int .i64 n] w (fun v w' => v = .bool (decide (n = 1 ∨ n = 3 ∨ n = 5)) ∧ w = w') := by
 refine ret_of_x (N := 13) (l := [.int .i64 n]) Tryz.func4 rfl rfl (Nat.le_of_ble_eq_true rfl) ?_
 refine x_seq ?_
 refine x_regionL ?_
 refine xl_v v_assign ?_
 refine xl_nil ?_
 refine x_seq ?_
 refine x_regionL ?_
 refine xl_v v_move ?_
 refine xl_v v_eql ?_
 refine xl_v v_move ?_
 refine xl_split 5 (fun g5 => ?_) (fun g5 => ?_)
 ·
  refine xl_gs rfl EvO.eq ?_
  refine xl_gs rfl EvO.eq ?_
  refine xl_Pk ?_
  refine xl_v v_move ?_
  refine xl_gs rfl EvO.eq ?_
  refine xl_gs rfl EvO.eq ?_
  refine xl_Pk ?_
  refine xl_v v_assign ?_
  refine xl_nil ?_
  refine x_ret ?_
  refine fin1 rfl ?_
  refine ⟨congrArg Value.bool ?_, rfl⟩
  first
   | (have : n = 1 := by simpa using g2); simp [this]
   | skip
  by_cases h1 : n = 1 <;> by_cases h3 : n = 3 <;> by_cases h5 : n = 5 <;> simp_all
 ·
  refine xl_gv rfl EvO.eq v_move ?_
  refine xl_gv rfl EvO.eq v_eql ?_
  refine xl_Pk ?_
  refine xl_v v_move ?_
  refine xl_split 9 (fun g9 => ?_) (fun g9 => ?_)
  ·
   refine xl_gs rfl EvO.eq ?_
   refine xl_gs rfl EvO.eq ?_
   refine xl_Pk ?_
   refine xl_v v_assign ?_
   refine xl_nil ?_
   refine x_ret ?_
   refine fin1 rfl ?_
   refine ⟨congrArg Value.bool ?_, rfl⟩
   first
    | (have : n = 1 := by simpa using g2); simp [this]
    | skip
   by_cases h1 : n = 1 <;> by_cases h3 : n = 3 <;> by_cases h5 : n = 5 <;> simp_all
  ·
   refine xl_gv rfl EvO.eq v_move ?_
   refine xl_gv rfl EvO.eq v_eql ?_
   refine xl_Pk ?_
   refine xl_v v_assign ?_
   refine xl_nil ?_
   refine x_ret ?_
   refine fin1 rfl ?_
   refine ⟨congrArg Value.bool ?_, rfl⟩
   first
    | (have : n = 1 := by simpa using g2); simp [this]
    | skip
   by_cases h1 : n = 1 <;> by_cases h3 : n = 3 <;> by_cases h5 : n = 5 <;> simp_all
end Go.Proofs.YtljdkelgapndgaaGreat
set_option linter.all false
set_option maxRecDepth 100000
set_option synthInstance.maxSize 100000
set_option synthInstance.maxHeartbeats 400000
namespace Go.Proofs.YtljdkelgapndgaaGreat
open Go.Wst
open Go.Wst.Qm
def OutQ (X : Nat → Prop) (q : Nat) (D : LQu) : Nat → Prop := fun k => ¬ QuB q D k ∧ ¬ X k
structure PairQ (X : Nat → Prop) (q : Nat) (D : LQu) (R : LDq) (M : Dq) (w : World) : Prop where
 ex : ∃ F G, QuAt w F q D ∧ Inv D.pure G ∧ ∀ k, F k → ¬ X k
 ref : RefAt w (OutQ X q D) R
 eq : R.pure = M
 xl : ∀ k, X k → k < w.heap.size ∧ ¬ QuB q D k
section
variable {w w' : World} {q : Nat} {D : LQu} {R : LDq} {M : Dq} {X S : Nat → Prop}
theorem PairQ.keep (h : PairQ X q D R M w) (hk : Keep S w w') (hs : ∀ k, k < w.heap.size → S k → X k) : PairQ X q D R M w' := by
 obtain ⟨⟨F, G, h1, h2, h5⟩, h3, h4, h6⟩ := h
 refine ⟨⟨F, G, h1.keep hk (fun k e e2 => ?_), h2, h5⟩, h3.keep hk (fun k e1 e2 e3 => e1.2 (hs k e2 e3)), h4, fun k e => ⟨Nat.lt_of_lt_of_le (h6 k e).1 hk.size, (h6 k e).2⟩⟩
 rcases e with e | e
 ·have h7 := hs k (h1.lt k e) e2
  exact (h6 k h7).2 e
 ·exact h5 k e (hs k (h1.fl k e) e2)
theorem PairQ.ext (h : PairQ X q D R M w) (hk : Keep NoB w w') : PairQ X q D R M w' := h.keep hk (fun _ _ e => e.elim)
theorem PairQ.add (h : PairQ X q D R M w) (hk : Keep NoB w w') {b : Nat} (hb : w.heap.size ≤ b) (hb2 : b < w'.heap.size) : PairQ (fun k => X k ∨ k = b) q D R M w' := by
 obtain ⟨⟨F, G, h1, h2, h5⟩, h3, h4, h6⟩ := h
 refine ⟨⟨F, G, h1.ext hk, h2, fun k e e2 => ?_⟩, (h3.wide (P' := fun k => OutQ X q D k ∧ k < w.heap.size) (fun k e e2 => ⟨e2, e⟩)).ext hk |>.wide (fun k _ e => ⟨e.1.1, fun e2 => ?_⟩), h4, fun k e => ?_⟩
 ·have := h1.fl k e
  exact e2.elim (h5 k e) (fun e3 => by omega)
 ·have := e.2
  exact e2.elim e.1.2 (fun e3 => by omega)
 ·rcases e with e | e
  ·exact ⟨Nat.lt_of_lt_of_le (h6 k e).1 hk.size, (h6 k e).2⟩
  ·exact ⟨by omega, fun e2 => by have := h1.lt k e2; omega⟩
theorem PairQ.up (h : PairQ X q D R M w) : ∀ k, w.heap.size ≤ k → OutQ X q D k := fun k hk => by
 obtain ⟨F, G, h1, h2⟩ := h.ex
 refine ⟨fun e => ?_, fun e => ?_⟩
 ·have := h1.lt k e
  omega
 ·have := (h.xl k e).1
  omega
theorem RefAt.step {D' : LQu} (h : RefAt w (OutQ X q D) R) (hk : Keep (QuB q D) w w') (hs : ∀ k, QuB q D' k → QuB q D k ∨ w.heap.size ≤ k) : RefAt w' (OutQ X q D') R := by
 have h1 : RefAt w (fun k => OutQ X q D k ∧ k < w.heap.size) R := h.wide (fun k e1 e2 => ⟨e2, e1⟩)
 exact (h1.keep hk (fun k e1 _ e2 => e1.1.1 e2)).wide (fun k _ e1 => ⟨fun e2 => (hs k e2).elim e1.1.1 (fun e3 => by have := e1.2; omega), e1.1.2⟩)
theorem own_le {base sz n c : Nat} {e : TypeId} {A : Option Addr} {xs : List Value} (h : w.ownsRow base e sz (.slice A n c) n xs) : n ≤ c := by
 rcases h.2 with ⟨he, hn0⟩ | ⟨g, cap', cur, he, hb, hg, hnc, hcm, hcs, htk⟩
 ·omega
 ·cases he; omega
theorem AnAt.rows {base : Nat} {z : LAn} (h : AnAt w base z) : RowsAn w (fun _ => True) z :=
 ⟨(FRow.of_own h.log).mono (fun k e => ⟨trivial, (own_blk h.log (ownB_blk.1 e)).2⟩), (FRow.of_own h.votes).mono (fun k e => ⟨trivial, (own_blk h.votes (ownB_blk.1 e)).2⟩), (FRow.of_own h.next).mono (fun k e => ⟨trivial, (own_blk h.next (ownB_blk.1 e)).2⟩), (FRow.of_own h.mat).mono (fun k e => ⟨trivial, (own_blk h.mat (ownB_blk.1 e)).2⟩), own_le h.log⟩
end
theorem node_ok_of {D : LQu} {G : Gh} (h : Inv D.pure G) : ∀ y ∈ D.ns, y.x.Ok D.ns.length := by
 intro y hy
 obtain ⟨n, hn, rfl⟩ := List.getElem_of_mem hy
 have hl := pure_len D
 have h1 := (h.nd n (by omega)).ok
 rw [hl] at h1
 have e : D.pure.nd n = D.ns[n].x := by
  unfold Qu.nd
  simp [LQu.pure, List.getD_eq_getElem?_getD, hn]
 rwa [e] at h1
theorem bag_of {D : LQu} {G : Gh} (h : Inv D.pure G) : D.bs.length ≤ 256 ∧ ∀ y ∈ D.bs, y.m.cmds.length ≤ 4 := by
 refine ⟨by have := h.bl; simpa [LQu.pure] using this, fun y hy => ?_⟩
 exact (h.bg y.m (List.mem_map_of_mem hy)).ok.cl
theorem tell_at {D : LQu} {R : LDq} (h : R.pure = D.pure.tell) : R.ns.length = D.ns.length ∧ R.bs.map (·.m) = D.bs.map (·.m) ∧ ∀ k (h1 : k < R.ns.length) (h2 : k < D.ns.length), R.ns[k].x = D.ns[k].x.tell D.ns.length := by
 have h1 : R.ns.map (·.x) = D.pure.tell.nodes := congrArg Dq.nodes h
 have h2 : R.bs.map (·.m) = D.pure.tell.bag := congrArg Dq.bag h
 have hl := pure_len D
 have h3 : R.ns.length = D.ns.length := by have := congrArg List.length h1; rw [tell_len, hl, List.length_map] at this; exact this
 refine ⟨h3, h2, fun k e1 e2 => ?_⟩
 have h4 : (R.ns.map (·.x))[k]? = D.pure.tell.nodes[k]? := by rw [h1]
 rw [show D.pure.tell.nodes = D.pure.nodes.map (fun x => x.tell D.pure.nodes.length) from rfl, hl] at h4
 simp [LQu.pure, e1, e2] at h4
 exact h4
theorem tell_lens {x : Nd} {cnt : Nat} (h : x.Ok cnt) (hc : cnt ≤ 5) : (x.tell cnt).log.length ≤ 1000 ∧ (x.tell cnt).votes.length ≤ 1000 ∧ (x.tell cnt).next.length ≤ 1000 ∧ (x.tell cnt).mat.length ≤ 1000 := by
 refine ⟨?_, ?_, ?_, ?_⟩
 ·have := h.ll; show x.log.length ≤ 1000; omega
 ·have := idxs_le h.vl; show (idxs x.votes).length ≤ 1000; omega
 ·show (if x.role = 3 then x.next.take cnt else []).length ≤ 1000
  split
  ·rw [List.length_take]; omega
  ·exact Nat.zero_le _
 ·show (if x.role = 3 then x.mat.take cnt else []).length ≤ 1000
  split
  ·rw [List.length_take]; omega
  ·exact Nat.zero_le _
set_option maxHeartbeats 2000000 in
theorem is_ok (X : Nat → Prop) (q : Nat) (D : LQu) (R : LDq) (w : World) (h : PairQ X q D R D.pure.tell w) : Ret Tryz.prog 13 #[.pointer (some ⟨q, 0, none⟩), .agg (dqC R).toArray] w (fun v w' => v = .bool true ∧ Lk w' w NoB) := by
 obtain ⟨F, G, hQ, hInv, _⟩ := h.ex
 have hok := node_ok_of hInv
 obtain ⟨hb256, hcl⟩ := bag_of hInv
 obtain ⟨hlen, hbags, hns⟩ := tell_at h.eq
 have hbl : R.bs.length = D.bs.length := by have := congrArg List.length hbags; simpa using this
 have hn5 : D.ns.length ≤ 5 := by have := hInv.odd.2; rw [pure_len] at this; exact this
 have hcom : ∀ z ∈ R.ns, 0 ≤ z.x.commit ∧ z.x.commit ≤ z.x.log.length ∧ z.x.log.length ≤ 256 := by
  intro z hz
  obtain ⟨k, hk, rfl⟩ := List.getElem_of_mem hz
  have hk2 : k < D.ns.length := by omega
  rw [hns k hk hk2]
  have := hok _ (List.getElem_mem hk2)
  exact ⟨this.c0, this.c1, this.ll⟩
 haveI hb : Blk w q _ := ⟨hQ.hb⟩
 haveI hrn : RowB w R.NA w (R.ns.flatMap anC) := rowB_of h.ref.nodes.row
 haveI hrb : RowB w R.BA w (R.bs.flatMap blC) := rowB_of h.ref.bag.row
 refine ret_of_x (N := 77) (l := [.pointer (some ⟨q, 0, none⟩), .agg (dqC R).toArray]) Tryz.func13 rfl rfl (Nat.le_of_ble_eq_true rfl) ?_
 refine x_seq ?_
 refine x_regionL ?_
 refine xl_e (e_box fun b3 w1 n3 l3 k3 => ?_)
 refine xl_v v_assign ?_
 refine xl_nil ?_
 refine x_seq ?_
 refine x_seq ?_
 refine x_regionL ?_
 refine xl_v v_assign ?_
 refine xl_nil ?_
 refine x_block ?_
 have hb3l : (w1).heap[b3]? = _ := Blk.eq
 obtain ⟨wL, hwL⟩ : ∃ x, x = w1 := ⟨_, rfl⟩
 have hwwL : Keep NoB w wL := by rw [hwL]; exact kpc
 haveI lkLw : Lk wL w NoB := ⟨hwwL⟩
 rw [← hwL] at hb3l
 haveI : Blk wL b3 _ := ⟨hb3l⟩
 refine x_loop (fun t τ ds w' => ds = [] ∧ ∃ (k : Nat), t = R.ns.length - k ∧ k ≤ R.ns.length ∧ Ev τ 0 (.pointer (some ⟨q, 0, none⟩)) ∧ Ev τ 3 (.pointer (some ⟨b3, 0, none⟩)) ∧ Ev τ 5 (.int .i64 (k : Int)) ∧ Lk w' wL NoB) (R.ns.length) ?start ?round
 case start =>
  exact ⟨rfl, 0, rfl, Nat.zero_le _, inferInstance, inferInstance, evc, by rw [hwL]; exact lkc⟩
 case round =>
  intro m τ2 ds2 w2 hI
  obtain ⟨rfl, k, rfl, hk, e0, e3, e5, lk⟩ := hI
  refine x_seq ?_
  refine x_seq ?_
  refine x_regionL ?_
  refine xl_v v_move ?_
  refine xl_Fb ?_
  refine xl_Lc ?_
  refine xl_v v_len ?_
  refine xl_v v_lss ?_
  refine xl_nil ?_
  first | refine x_condP (fun c1 => ?_) (fun c1 => ?_) | refine x_condN (fun c1 => ?_) (fun c1 => ?_) | refine x_condE (fun c1 => ?_) (fun c1 => ?_)
  ·
   have hkR : k < R.ns.length := by omega
   have hkD : k < D.ns.length := by omega
   have hkx := hns k hkR hkD
   have hoky := hok _ (List.getElem_mem hkD)
   refine x_skip ?_
   refine x_seq ?_
   refine x_block ?_
   refine x_seq ?_
   refine x_regionL ?_
   refine xl_v v_move ?_
   refine xl_v v_move ?_
   refine xl_call (node_ok q D F k D.ns[k] w2 (hQ.ext (kpc : Keep NoB w w2)) (List.getElem?_eq_getElem hkD) hn5 hoky) ?_
   rintro _ w3 ⟨⟨z, rfl, hzx, hz⟩, lk2⟩
   have hzl : z.x.log.length ≤ 1000 := by rw [hzx]; have := hoky.ll; show D.ns[k].x.log.length ≤ 1000; omega
   refine xl_v v_move ?_
   refine xl_v v_extract ?_
   refine xl_v v_extract ?_
   refine xl_e (e_alloc fun b6 w4 n6 l6 k6 => ?_)
   refine xl_s (e_storeA fun w5 l5 k5 => ?_)
   refine xl_v v_assign ?_
   refine xl_nil ?_
   refine x_seq ?_
   refine x_drawL (NoB) (allS) (.take 0 (.eff 1 (.take 2 (.take 3 (.take 4 (.take 5 (.take 6 (.take 7 (.take 8 (.take 9 (.eff 10 (.take 11 (.take 12 .done))))))))))))) mixed (by kernel_rfl) (fun _ _ _ _ _ h => h) (fun w6 l6 => ?_)
   refine xt_v rfl v_move ?_
   refine xt_call rfl (num_ok _ _) ?_
   rintro _ _ ⟨rfl, rfl⟩
   refine ⟨kpc, ?_⟩
   refine xt_v rfl (v_neqF rfl) ?_
   refine xt_v rfl v_move ?_
   refine xt_gLb rfl rfl EvO.eq ?_
   refine xt_gFb rfl rfl EvO.eq ?_
   refine xt_gLc rfl rfl EvO.eq ?_
   refine xt_gv rfl rfl EvO.eq v_move ?_
   refine xt_gv rfl rfl EvO.eq (v_indexF k (by decide) rfl (by omega) hkR) ?_
   refine xt_gv rfl rfl EvO.eq (v_loadF (k := k) (by decide) hkR) ?_
   refine xt_gcall rfl rfl EvO.eq (sameN_ok (fun _ => True) (OutQ X q D) z R.ns[k] w6 (hz.rows.ext kpc) (((h.ref.rows _ (List.getElem_mem hkR))).ext (kpc : Keep NoB w w6)) (by rw [hzx]; exact tell_lens hoky hn5)) ?_
   rintro _ w8 ⟨rfl, lk3⟩
   refine ⟨kpc, ?_⟩
   rw [decide_eq_true (hzx.trans hkx.symm)]
   refine xt_gv rfl rfl EvO.eq (v_congr (u := .bool false) v_not rfl) ?_
   refine xt_Pk rfl ?_
   refine xt_nil ?_
   refine x_condF ?_
   refine x_skip ?_
   refine x_regionL ?_
   refine xl_v v_move ?_
   refine xl_v (v_add (by omega)) ?_
   refine xl_v v_assign ?_
   refine xl_nil ?_
   refine ⟨_, ?_, rfl, k + 1, rfl, by omega, inferInstance, inferInstance, evc, lkc⟩
   omega
  ·
   refine x_exit ?_
   refine x_seq ?_
   refine x_regionL ?_
   refine xl_v v_move ?_
   refine xl_call (bag_ok q D F w2 (hQ.ext (kpc : Keep NoB w w2)) hb256 hcl) ?_
   rintro _ w9 ⟨⟨A8, c8, bs, rfl, hbs, hbag⟩, lk8⟩
   refine xl_v v_assign ?_
   refine xl_nil ?_
   refine x_seq ?_
   refine x_seq ?_
   refine x_drawL (NoB) (allS) (.take 0 (.take 1 (.take 2 (.take 3 (.take 4 (.take 5 (.take 6 (.take 7 (.take 9 (.take 10 (.take 11 (.eff 8 (.take 12 (.take 13 (.take 14 (.take 15 (.take 17 (.eff 16 (.eff 18 (.eff 19 (.take 20 (.take 21 .done)))))))))))))))))))))) mixed (by kernel_rfl) (fun _ _ _ _ _ h => h) (fun w10 l10 => ?_)
   refine xt_v rfl v_move ?_
   refine xt_v rfl v_len ?_
   refine xt_Fb rfl ?_
   refine xt_Lc rfl ?_
   refine xt_v rfl v_len ?_
   refine xt_v rfl (v_neqF (by omega)) ?_
   refine xt_v rfl v_move ?_
   refine xt_gv rfl rfl EvO.eq v_move ?_
   refine xt_gFb rfl rfl EvO.eq ?_
   refine xt_gLc rfl rfl EvO.eq ?_
   refine xt_gv rfl rfl EvO.eq v_len ?_
   refine xt_gcall rfl rfl EvO.eq (nodes_ok q D w10) ?_
   rintro _ w11 ⟨rfl, lk9⟩
   refine ⟨kpc, ?_⟩
   refine xt_gv rfl rfl EvO.eq (v_neqF (by omega)) ?_
   refine xt_Pk rfl ?_
   refine xt_v rfl v_move ?_
   refine xt_gv rfl rfl EvO.eq v_move ?_
   refine xt_gLb rfl rfl EvO.eq ?_
   refine xt_gcall rfl rfl EvO.eq (committed_ok q D F w11 (hQ.ext (kpc : Keep NoB w w11)) hok hn5) ?_
   rintro _ w12 ⟨⟨A9, c9, rfl, ho9, hl9⟩, lk10⟩
   refine ⟨kpc, ?_⟩
   haveI o9 : OwnI w12 A9 _ _ _ _ _ _ _ := ⟨ho9⟩
   refine xt_gcall rfl rfl EvO.eq (committedD_ok (OutQ X q D) R w12 (h.ref.ext (kpc : Keep NoB w w12)) (by omega) hcom) ?_
   rintro _ w13 ⟨⟨A10, c10, rfl, hf10, hl10⟩, lk11⟩
   refine ⟨kpc, ?_⟩
   haveI r10 : Row w13 A10 _ := ⟨hf10.row⟩
   refine xt_gcall rfl rfl EvO.eq (sameC_ok A9 _ c9 D.pure.committed A10 _ c10 R.pure.committed w13 rfl rfl (by omega)) ?_
   rintro _ w14 ⟨rfl, lk12⟩
   refine ⟨kpc, ?_⟩
   rw [decide_eq_true (show D.pure.committed = R.pure.committed from by rw [h.eq, tell_committed])]
   refine xt_gv rfl rfl EvO.eq (v_congr (u := .bool false) v_not rfl) ?_
   refine xt_Pk rfl ?_
   refine xt_nil ?_
   refine x_condF ?_
   refine x_skip ?_
   refine x_seq ?_
   refine x_seq ?_
   refine x_regionL ?_
   refine xl_v v_assign ?_
   refine xl_nil ?_
   refine x_block ?_
   have hxl : bs.length = D.bs.length := by have := congrArg List.length hbs; simpa using this
   obtain ⟨wM, hwM⟩ : ∃ x, x = w14 := ⟨_, rfl⟩
   have hlM : Lk wM wL NoB := by rw [hwM]; exact lkc
   have hbagM : BagAt wM A8 bs := by rw [hwM]; exact ⟨hbag.row.keep (kpc : Keep NoB _ _) (fun _ _ e => e), fun y hy => (hbag.cmds y hy).keep (kpc : Keep NoB _ _) (fun _ _ e => e)⟩
   haveI rb8 : RowB wM A8 wM (bs.flatMap blC) := rowB_of hbagM.row
   refine x_loop (fun t τ ds w' => ds = [] ∧ ∃ (k : Nat), t = D.bs.length - k ∧ k ≤ D.bs.length ∧ Ev τ 3 (.pointer (some ⟨b3, 0, none⟩)) ∧ Ev τ 8 (.slice A8 D.bs.length c8) ∧ Ev τ 9 (.int .i64 (k : Int)) ∧ Lk w' wM NoB) (D.bs.length) ?start ?round
   case start =>
    exact ⟨rfl, 0, rfl, Nat.zero_le _, inferInstance, inferInstance, evc, by rw [hwM]; exact lkc⟩
   case round =>
    intro m τ15 ds15 w15 hI
    clear e0 e3 e5 lk
    obtain ⟨rfl, k, rfl, hk, e3, e8, e9, lk⟩ := hI
    haveI hlM2 := hlM
    refine x_seq ?_
    refine x_seq ?_
    refine x_regionL ?_
    refine xl_v v_move ?_
    refine xl_v v_move ?_
    refine xl_v v_len ?_
    refine xl_v v_lss ?_
    refine xl_nil ?_
    first | refine x_condP (fun c4 => ?_) (fun c4 => ?_) | refine x_condN (fun c4 => ?_) (fun c4 => ?_) | refine x_condE (fun c4 => ?_) (fun c4 => ?_)
    ·
     have hkD : k < D.bs.length := by omega
     have hkR : k < R.bs.length := by omega
     have hkb : k < bs.length := by omega
     have hm1 : bs[k].m = D.bs[k].m := by
      have : (bs.map (·.m))[k]? = (D.bs.map (·.m))[k]? := by rw [hbs]
      simpa [hkD, hkb] using this
     have hm2 : R.bs[k].m = D.bs[k].m := by
      have : (R.bs.map (·.m))[k]? = (D.bs.map (·.m))[k]? := by rw [hbags]
      simpa [hkD, hkR] using this
     haveI q1 : RowB wM bs[k].A wM (cmdsC bs[k].m.cmds) := rowB_of (hbagM.cmds _ (List.getElem_mem hkb))
     haveI q2 : RowB w R.bs[k].A w (cmdsC R.bs[k].m.cmds) := rowB_of ((h.ref.cmds _ (List.getElem_mem hkR))).row
     refine x_skip ?_
     refine x_seq ?_
     refine x_block ?_
     refine x_seq ?_
     refine x_drawL (NoB) (allS) (.take 0 (.take 1 (.take 2 (.take 3 (.take 4 (.take 5 (.take 6 (.take 7 (.take 8 (.eff 9 (.take 10 .done))))))))))) mixed (by kernel_rfl) (fun _ _ _ _ _ h => h) (fun w16 l16 => ?_)
     refine xt_v rfl v_move ?_
     refine xt_v rfl v_move ?_
     refine xt_v rfl (v_indexF k (by decide) rfl (by omega) hkb) ?_
     refine xt_v rfl (v_loadF (k := k) (by decide) hkb) ?_
     refine xt_Fb rfl ?_
     refine xt_Lc rfl ?_
     refine xt_v rfl v_move ?_
     refine xt_v rfl (v_indexF k (by decide) rfl (by omega) hkR) ?_
     refine xt_v rfl (v_loadF (k := k) (by decide) hkR) ?_
     refine xt_call rfl (sameB_ok bs[k] R.bs[k] w16 (by rw [hm1]; have := hcl _ (List.getElem_mem hkD); omega)) ?_
     rintro _ w17 ⟨rfl, lk13⟩
     refine ⟨kpc, ?_⟩
     rw [decide_eq_true (hm1.trans hm2.symm)]
     refine xt_v rfl (v_congr (u := .bool false) v_not rfl) ?_
     refine xt_nil ?_
     refine x_condF ?_
     refine x_skip ?_
     refine x_regionL ?_
     refine xl_v v_move ?_
     refine xl_v (v_add (by omega)) ?_
     refine xl_v v_assign ?_
     refine xl_nil ?_
     refine ⟨_, ?_, rfl, k + 1, rfl, by omega, inferInstance, inferInstance, evc, lkc⟩
     omega
    ·
     refine x_exit ?_
     refine x_seq ?_
     refine x_regionL ?_
     refine xl_v v_assign ?_
     refine xl_nil ?_
     refine x_ret ?_
     refine fin1 rfl ?_
     exact ⟨rfl, lkc⟩
end Go.Proofs.YtljdkelgapndgaaGreat
