/-
 Walks, printed by a program of this workplace (wip/tools/sx.py) off the functions' code and a text of contracts.
-/
import Derived.Test.YtljdkelgapndgaaGreatJ16
set_option linter.all false
set_option maxRecDepth 100000
set_option synthInstance.maxSize 100000
set_option synthInstance.maxHeartbeats 400000
namespace Go.Proofs.YtljdkelgapndgaaGreat
open Go.Wst
open Go.Wst.Qm
theorem run_eqItems {P : Program} {e : TypeId} [ho : One P e] {W : World} {d : Nat} (xs ys : List Value) (f : Nat → Bool) : ∀ (is : List Nat), (∀ i ∈ is, ∃ x y, xs[i]? = some x ∧ ys[i]? = some y ∧ (Op.equalIn d e x y).run P W = .ok (f i) W) → (Op.eqItems d e 1 xs.toArray ys.toArray is).run P W = .ok (is.all f) W
 | [], _ => by simp [Op.eqItems]
 | i :: is, h => by
   obtain ⟨x, y, hx, hy, he⟩ := h i List.mem_cons_self
   have ih := run_eqItems xs ys f is (fun j hj => h j (List.mem_cons_of_mem _ hj))
   haveI : CsGet xs.toArray i x := ⟨by simpa using hx⟩
   haveI : CsGet ys.toArray i y := ⟨by simpa using hy⟩
   have p1 := (partv_one (P := P) e xs i x).eq W
   have p2 := (partv_one (P := P) e ys i y).eq W
   simp only [Op.eqItems, Sem.run_bind, Nat.mul_one]
   rw [p1, Result.andThen_ok, p2, Result.andThen_ok, he, Result.andThen_ok]
   cases hf : f i
   ·simp [hf]
   ·simp only [Bool.not_true, Bool.false_eq_true, if_false, ih]
    simp [hf]
theorem v_eql_arr5 {P : Program} {r : Option Nat} {N : Nat} {S : Nat → Prop} {τ : Tau} {w : World} {ty : TypeId} {x y : Operand} {t e t' : TypeId} {bytes : Nat} {z : Value} {x0 x1 x2 x3 x4 y0 y1 y2 y3 y4 : Value} {c0 c1 c2 c3 c4 : Bool} {n0 n1 n2 n3 n4 : Nat} [hx : EvO N τ x (.agg [x0, x1, x2, x3, x4].toArray)] [hy : EvO N τ y (.agg [y0, y1, y2, y3, y4].toArray)] [hu : Und P t (.array 5 e)] [hi : Inf P e 1 bytes z] [ho : One P e] [k0 : EqV P e x0 y0 n0 c0] [k1 : EqV P e x1 y1 n1 c1] [k2 : EqV P e x2 y2 n2 c2] [k3 : EqV P e x3 y3 n3 c3] [k4 : EqV P e x4 y4 n4 c4] (hn : (Nat.ble n0 9999 && (Nat.ble n1 9999 && (Nat.ble n2 9999 && (Nat.ble n3 9999 && Nat.ble n4 9999)))) = true := by rfl) (hg : P.eqGuardType P.depth t = false := by kernel_rfl) :
    Val P r N S (.binOp .eql t x y t') ty τ w (.bool (c0 && (c1 && (c2 && (c3 && c4))))) := ⟨fun _ => nofun, fun W _ => by
 obtain ⟨i, h5, h6, h7, h8⟩ := hi.ex
 simp only [Bool.and_eq_true, Nat.ble_eq] at hn
 obtain ⟨g0, g1, g2, g3, g4⟩ := hn
 have he1 : (Op.equalIn 10000 t (.agg [x0, x1, x2, x3, x4].toArray) (.agg [y0, y1, y2, y3, y4].toArray)).run P W = .ok (c0 && (c1 && (c2 && (c3 && c4)))) W := by
  have hc : P.cellsOf e = 1 := by simp [Program.cellsOf, h5, h6]
  rw [show (10000 : Nat) = 9999 + 1 from rfl, run_equalIn_array W 9999 _ _ hu.eq h5, hc]
  have := run_eqItems (P := P) (e := e) (W := W) (d := 9999) [x0, x1, x2, x3, x4] [y0, y1, y2, y3, y4] (fun i => match i with | 0 => c0 | 1 => c1 | 2 => c2 | 3 => c3 | _ => c4) (List.range 5) (by
   intro i hi
   rw [show List.range 5 = [0, 1, 2, 3, 4] from rfl] at hi
   simp only [List.mem_cons, List.not_mem_nil, or_false] at hi
   rcases hi with rfl | rfl | rfl | rfl | rfl
   ·exact ⟨_, _, rfl, rfl, k0.eq 9999 W g0⟩
   ·exact ⟨_, _, rfl, rfl, k1.eq 9999 W g1⟩
   ·exact ⟨_, _, rfl, rfl, k2.eq 9999 W g2⟩
   ·exact ⟨_, _, rfl, rfl, k3.eq 9999 W g3⟩
   ·exact ⟨_, _, rfl, rfl, k4.eq 9999 W g4⟩)
  rw [this]
  congr 1
  rw [show List.range 5 = [0, 1, 2, 3, 4] from rfl]
  simp [List.all_cons]
 simp only [execOp, Sem.run_bind, hx.eq, hy.eq, run_eqGuard_agg W .eql t x y _ _ hg, run_eql_struct, he1, Result.andThen_ok, Sem.run_pure]⟩
theorem beq_bd (a b : Bool) : (a == b) = decide (a = b) := by cases a <;> cases b <;> rfl
deriving instance DecidableEq for Nd
theorem five_dec {α : Type} [DecidableEq α] {l m : List α} (d : α) (hl : l.length = 5) (hm : m.length = 5) : decide (l = m) = (decide (l.getD 0 d = m.getD 0 d) && (decide (l.getD 1 d = m.getD 1 d) && (decide (l.getD 2 d = m.getD 2 d) && (decide (l.getD 3 d = m.getD 3 d) && decide (l.getD 4 d = m.getD 4 d))))) := by
 obtain ⟨a0, a1, a2, a3, a4, rfl⟩ := five hl
 obtain ⟨b0, b1, b2, b3, b4, rfl⟩ := five hm
 simp
theorem nd_dec (x y : Nd) : decide (x = y) = (decide (x.term = y.term) && decide (x.vote = y.vote) && decide (x.log = y.log) && decide (x.role = y.role) && decide (x.commit = y.commit) && decide (x.votes = y.votes) && decide (x.next = y.next) && decide (x.mat = y.mat)) := by
 obtain ⟨a1, a2, a3, a4, a5, a6, a7, a8⟩ := x; obtain ⟨b1, b2, b3, b4, b5, b6, b7, b8⟩ := y
 simp [Bool.and_assoc]
set_option maxHeartbeats 2000000 in
theorem same1_ok (x y : LNd) (w : World) [hrx : Row w x.A (cmdsC x.x.log)] [hry : Row w y.A (cmdsC y.x.log)] (hl : x.x.log.length ≤ 1000) (hx : x.x.votes.length = 5 ∧ x.x.next.length = 5 ∧ x.x.mat.length = 5) (hy : y.x.votes.length = 5 ∧ y.x.next.length = 5 ∧ y.x.mat.length = 5) : Ret Tryz.prog 23 #[.agg (ndC x).toArray, .agg (ndC y).toArray] w (fun v w' => v = .bool (decide (x.x = y.x)) ∧ Lk w' w NoB) := by
 haveI x1 : RowB w x.A w (cmdsC x.x.log) := rowB_of hrx.row
 haveI y1 : RowB w y.A w (cmdsC y.x.log) := rowB_of hry.row
 have fv := five_dec false hx.1 hy.1
 have fn := five_dec 0 hx.2.1 hy.2.1
 have fm := five_dec 0 hx.2.2 hy.2.2
 refine ret_of_x (N := 65) (l := [.agg (ndC x).toArray, .agg (ndC y).toArray]) Tryz.func23 rfl rfl (Nat.le_of_ble_eq_true rfl) ?_
 refine x_seq ?_
 refine x_regionL ?_
 refine xl_e (e_box fun b1 w1 n1 l1 k1 => ?_)
 refine xl_e (e_box fun b2 w2 n2 l2 k2 => ?_)
 refine xl_v v_assign ?_
 refine xl_nil ?_
 refine x_seq ?_
 refine x_regionL ?_
 refine xl_Fb ?_
 refine xl_Fb ?_
 refine xl_Lc ?_
 refine xl_Fb ?_
 refine xl_Fb ?_
 refine xl_Lc ?_
 refine xl_v v_eql ?_
 refine xl_v v_move ?_
 refine xl_split 12 (fun g12 => ?_) (fun g12 => ?_)
 ·
  refine xl_gFb rfl EvO.eq ?_
  refine xl_gFb rfl EvO.eq ?_
  refine xl_gLc rfl EvO.eq ?_
  refine xl_gFb rfl EvO.eq ?_
  refine xl_gFb rfl EvO.eq ?_
  refine xl_gLc rfl EvO.eq ?_
  refine xl_gv rfl EvO.eq v_eql ?_
  refine xl_Pk ?_
  refine xl_v v_move ?_
  refine xl_split 21 (fun g21 => ?_) (fun g21 => ?_)
  ·
   refine xl_gFb rfl EvO.eq ?_
   refine xl_gFb rfl EvO.eq ?_
   refine xl_gLc rfl EvO.eq ?_
   refine xl_gFb rfl EvO.eq ?_
   refine xl_gFb rfl EvO.eq ?_
   refine xl_gLc rfl EvO.eq ?_
   refine xl_gcall rfl EvO.eq (eqC_ok x.A _ x.c x.x.log y.A _ y.c y.x.log w2 rfl rfl (by omega)) ?_
   rintro _ w3 ⟨rfl, lk23⟩
   refine xl_Pk ?_
   refine xl_v v_move ?_
   refine xl_split 30 (fun g30 => ?_) (fun g30 => ?_)
   ·
    refine xl_gFb rfl EvO.eq ?_
    refine xl_gLc rfl EvO.eq ?_
    refine xl_gFb rfl EvO.eq ?_
    refine xl_gLc rfl EvO.eq ?_
    refine xl_gv rfl EvO.eq v_eql ?_
    refine xl_Pk ?_
    refine xl_v v_move ?_
    refine xl_split 37 (fun g37 => ?_) (fun g37 => ?_)
    ·
     refine xl_gFb rfl EvO.eq ?_
     refine xl_gLc rfl EvO.eq ?_
     refine xl_gFb rfl EvO.eq ?_
     refine xl_gLc rfl EvO.eq ?_
     refine xl_gv rfl EvO.eq v_eql ?_
     refine xl_Pk ?_
     refine xl_v v_move ?_
     refine xl_split 44 (fun g44 => ?_) (fun g44 => ?_)
     ·
      refine xl_gFb rfl EvO.eq ?_
      refine xl_gLb rfl EvO.eq ?_
      refine xl_gFb rfl EvO.eq ?_
      refine xl_gLb rfl EvO.eq ?_
      refine xl_gv rfl EvO.eq (v_congr (u := .bool (decide (x.x.votes = y.x.votes))) v_eql_arr5 (by rw [fv]; simp only [beq_bd])) ?_
      refine xl_Pk ?_
      refine xl_v v_move ?_
      refine xl_split 51 (fun g51 => ?_) (fun g51 => ?_)
      ·
       refine xl_gFb rfl EvO.eq ?_
       refine xl_gLb rfl EvO.eq ?_
       refine xl_gFb rfl EvO.eq ?_
       refine xl_gLb rfl EvO.eq ?_
       refine xl_gv rfl EvO.eq (v_congr (u := .bool (decide (x.x.next = y.x.next))) v_eql_arr5 (by rw [fn])) ?_
       refine xl_Pk ?_
       refine xl_v v_move ?_
       refine xl_split 58 (fun g58 => ?_) (fun g58 => ?_)
       ·
        refine xl_gFb rfl EvO.eq ?_
        refine xl_gLb rfl EvO.eq ?_
        refine xl_gFb rfl EvO.eq ?_
        refine xl_gLb rfl EvO.eq ?_
        refine xl_gv rfl EvO.eq (v_congr (u := .bool (decide (x.x.mat = y.x.mat))) v_eql_arr5 (by rw [fm])) ?_
        refine xl_Pk ?_
        refine xl_v v_assign ?_
        refine xl_nil ?_
        refine x_ret ?_
        refine fin1 rfl ?_
        clear fv fn fm
        exact ⟨congrArg Value.bool (by rw [nd_dec]; simp_all), lkc⟩
       ·
        refine xl_gs rfl EvO.eq ?_
        refine xl_gs rfl EvO.eq ?_
        refine xl_gs rfl EvO.eq ?_
        refine xl_gs rfl EvO.eq ?_
        refine xl_gs rfl EvO.eq ?_
        refine xl_Pk ?_
        refine xl_v v_assign ?_
        refine xl_nil ?_
        refine x_ret ?_
        refine fin1 rfl ?_
        clear fv fn fm
        exact ⟨congrArg Value.bool (by rw [nd_dec]; simp_all), lkc⟩
      ·
       refine xl_gs rfl EvO.eq ?_
       refine xl_gs rfl EvO.eq ?_
       refine xl_gs rfl EvO.eq ?_
       refine xl_gs rfl EvO.eq ?_
       refine xl_gs rfl EvO.eq ?_
       refine xl_Pk ?_
       refine xl_v v_move ?_
       refine xl_gs rfl EvO.eq ?_
       refine xl_gs rfl EvO.eq ?_
       refine xl_gs rfl EvO.eq ?_
       refine xl_gs rfl EvO.eq ?_
       refine xl_gs rfl EvO.eq ?_
       refine xl_Pk ?_
       refine xl_v v_assign ?_
       refine xl_nil ?_
       refine x_ret ?_
       refine fin1 rfl ?_
       clear fv fn fm
       exact ⟨congrArg Value.bool (by rw [nd_dec]; simp_all), lkc⟩
     ·
      refine xl_gs rfl EvO.eq ?_
      refine xl_gs rfl EvO.eq ?_
      refine xl_gs rfl EvO.eq ?_
      refine xl_gs rfl EvO.eq ?_
      refine xl_gs rfl EvO.eq ?_
      refine xl_Pk ?_
      refine xl_v v_move ?_
      refine xl_gs rfl EvO.eq ?_
      refine xl_gs rfl EvO.eq ?_
      refine xl_gs rfl EvO.eq ?_
      refine xl_gs rfl EvO.eq ?_
      refine xl_gs rfl EvO.eq ?_
      refine xl_Pk ?_
      refine xl_v v_move ?_
      refine xl_gs rfl EvO.eq ?_
      refine xl_gs rfl EvO.eq ?_
      refine xl_gs rfl EvO.eq ?_
      refine xl_gs rfl EvO.eq ?_
      refine xl_gs rfl EvO.eq ?_
      refine xl_Pk ?_
      refine xl_v v_assign ?_
      refine xl_nil ?_
      refine x_ret ?_
      refine fin1 rfl ?_
      clear fv fn fm
      exact ⟨congrArg Value.bool (by rw [nd_dec]; simp_all), lkc⟩
    ·
     refine xl_gs rfl EvO.eq ?_
     refine xl_gs rfl EvO.eq ?_
     refine xl_gs rfl EvO.eq ?_
     refine xl_gs rfl EvO.eq ?_
     refine xl_gs rfl EvO.eq ?_
     refine xl_Pk ?_
     refine xl_v v_move ?_
     refine xl_gs rfl EvO.eq ?_
     refine xl_gs rfl EvO.eq ?_
     refine xl_gs rfl EvO.eq ?_
     refine xl_gs rfl EvO.eq ?_
     refine xl_gs rfl EvO.eq ?_
     refine xl_Pk ?_
     refine xl_v v_move ?_
     refine xl_gs rfl EvO.eq ?_
     refine xl_gs rfl EvO.eq ?_
     refine xl_gs rfl EvO.eq ?_
     refine xl_gs rfl EvO.eq ?_
     refine xl_gs rfl EvO.eq ?_
     refine xl_Pk ?_
     refine xl_v v_move ?_
     refine xl_gs rfl EvO.eq ?_
     refine xl_gs rfl EvO.eq ?_
     refine xl_gs rfl EvO.eq ?_
     refine xl_gs rfl EvO.eq ?_
     refine xl_gs rfl EvO.eq ?_
     refine xl_Pk ?_
     refine xl_v v_assign ?_
     refine xl_nil ?_
     refine x_ret ?_
     refine fin1 rfl ?_
     clear fv fn fm
     exact ⟨congrArg Value.bool (by rw [nd_dec]; simp_all), lkc⟩
   ·
    refine xl_gs rfl EvO.eq ?_
    refine xl_gs rfl EvO.eq ?_
    refine xl_gs rfl EvO.eq ?_
    refine xl_gs rfl EvO.eq ?_
    refine xl_gs rfl EvO.eq ?_
    refine xl_Pk ?_
    refine xl_v v_move ?_
    refine xl_gs rfl EvO.eq ?_
    refine xl_gs rfl EvO.eq ?_
    refine xl_gs rfl EvO.eq ?_
    refine xl_gs rfl EvO.eq ?_
    refine xl_gs rfl EvO.eq ?_
    refine xl_Pk ?_
    refine xl_v v_move ?_
    refine xl_gs rfl EvO.eq ?_
    refine xl_gs rfl EvO.eq ?_
    refine xl_gs rfl EvO.eq ?_
    refine xl_gs rfl EvO.eq ?_
    refine xl_gs rfl EvO.eq ?_
    refine xl_Pk ?_
    refine xl_v v_move ?_
    refine xl_gs rfl EvO.eq ?_
    refine xl_gs rfl EvO.eq ?_
    refine xl_gs rfl EvO.eq ?_
    refine xl_gs rfl EvO.eq ?_
    refine xl_gs rfl EvO.eq ?_
    refine xl_Pk ?_
    refine xl_v v_move ?_
    refine xl_gs rfl EvO.eq ?_
    refine xl_gs rfl EvO.eq ?_
    refine xl_gs rfl EvO.eq ?_
    refine xl_gs rfl EvO.eq ?_
    refine xl_gs rfl EvO.eq ?_
    refine xl_Pk ?_
    refine xl_v v_assign ?_
    refine xl_nil ?_
    refine x_ret ?_
    refine fin1 rfl ?_
    clear fv fn fm
    exact ⟨congrArg Value.bool (by rw [nd_dec]; simp_all), lkc⟩
  ·
   refine xl_gs rfl EvO.eq ?_
   refine xl_gs rfl EvO.eq ?_
   refine xl_gs rfl EvO.eq ?_
   refine xl_gs rfl EvO.eq ?_
   refine xl_gs rfl EvO.eq ?_
   refine xl_gs rfl EvO.eq ?_
   refine xl_gs rfl EvO.eq ?_
   refine xl_Pk ?_
   refine xl_v v_move ?_
   refine xl_gs rfl EvO.eq ?_
   refine xl_gs rfl EvO.eq ?_
   refine xl_gs rfl EvO.eq ?_
   refine xl_gs rfl EvO.eq ?_
   refine xl_gs rfl EvO.eq ?_
   refine xl_Pk ?_
   refine xl_v v_move ?_
   refine xl_gs rfl EvO.eq ?_
   refine xl_gs rfl EvO.eq ?_
   refine xl_gs rfl EvO.eq ?_
   refine xl_gs rfl EvO.eq ?_
   refine xl_gs rfl EvO.eq ?_
   refine xl_Pk ?_
   refine xl_v v_move ?_
   refine xl_gs rfl EvO.eq ?_
   refine xl_gs rfl EvO.eq ?_
   refine xl_gs rfl EvO.eq ?_
   refine xl_gs rfl EvO.eq ?_
   refine xl_gs rfl EvO.eq ?_
   refine xl_Pk ?_
   refine xl_v v_move ?_
   refine xl_gs rfl EvO.eq ?_
   refine xl_gs rfl EvO.eq ?_
   refine xl_gs rfl EvO.eq ?_
   refine xl_gs rfl EvO.eq ?_
   refine xl_gs rfl EvO.eq ?_
   refine xl_Pk ?_
   refine xl_v v_move ?_
   refine xl_gs rfl EvO.eq ?_
   refine xl_gs rfl EvO.eq ?_
   refine xl_gs rfl EvO.eq ?_
   refine xl_gs rfl EvO.eq ?_
   refine xl_gs rfl EvO.eq ?_
   refine xl_Pk ?_
   refine xl_v v_assign ?_
   refine xl_nil ?_
   refine x_ret ?_
   refine fin1 rfl ?_
   clear fv fn fm
   exact ⟨congrArg Value.bool (by rw [nd_dec]; simp_all), lkc⟩
 ·
  refine xl_gs rfl EvO.eq ?_
  refine xl_gs rfl EvO.eq ?_
  refine xl_gs rfl EvO.eq ?_
  refine xl_gs rfl EvO.eq ?_
  refine xl_gs rfl EvO.eq ?_
  refine xl_gs rfl EvO.eq ?_
  refine xl_gs rfl EvO.eq ?_
  refine xl_Pk ?_
  refine xl_v v_move ?_
  refine xl_gs rfl EvO.eq ?_
  refine xl_gs rfl EvO.eq ?_
  refine xl_gs rfl EvO.eq ?_
  refine xl_gs rfl EvO.eq ?_
  refine xl_gs rfl EvO.eq ?_
  refine xl_gs rfl EvO.eq ?_
  refine xl_gs rfl EvO.eq ?_
  refine xl_Pk ?_
  refine xl_v v_move ?_
  refine xl_gs rfl EvO.eq ?_
  refine xl_gs rfl EvO.eq ?_
  refine xl_gs rfl EvO.eq ?_
  refine xl_gs rfl EvO.eq ?_
  refine xl_gs rfl EvO.eq ?_
  refine xl_Pk ?_
  refine xl_v v_move ?_
  refine xl_gs rfl EvO.eq ?_
  refine xl_gs rfl EvO.eq ?_
  refine xl_gs rfl EvO.eq ?_
  refine xl_gs rfl EvO.eq ?_
  refine xl_gs rfl EvO.eq ?_
  refine xl_Pk ?_
  refine xl_v v_move ?_
  refine xl_gs rfl EvO.eq ?_
  refine xl_gs rfl EvO.eq ?_
  refine xl_gs rfl EvO.eq ?_
  refine xl_gs rfl EvO.eq ?_
  refine xl_gs rfl EvO.eq ?_
  refine xl_Pk ?_
  refine xl_v v_move ?_
  refine xl_gs rfl EvO.eq ?_
  refine xl_gs rfl EvO.eq ?_
  refine xl_gs rfl EvO.eq ?_
  refine xl_gs rfl EvO.eq ?_
  refine xl_gs rfl EvO.eq ?_
  refine xl_Pk ?_
  refine xl_v v_move ?_
  refine xl_gs rfl EvO.eq ?_
  refine xl_gs rfl EvO.eq ?_
  refine xl_gs rfl EvO.eq ?_
  refine xl_gs rfl EvO.eq ?_
  refine xl_gs rfl EvO.eq ?_
  refine xl_Pk ?_
  refine xl_v v_assign ?_
  refine xl_nil ?_
  refine x_ret ?_
  refine fin1 rfl ?_
  clear fv fn fm
  exact ⟨congrArg Value.bool (by rw [nd_dec]; simp_all), lkc⟩
set_option maxHeartbeats 2000000 in
theorem same2_ok (x y : LBl) (w : World) [hrx : Row w x.A (cmdsC x.m.cmds)] [hry : Row w y.A (cmdsC y.m.cmds)] (hl : x.m.cmds.length ≤ 1000) : Ret Tryz.prog 25 #[.agg (blC x).toArray, .agg (blC y).toArray] w (fun v w' => v = .bool (decide (x.m = y.m)) ∧ Lk w' w NoB) := by
 haveI x1 : RowB w x.A w (cmdsC x.m.cmds) := rowB_of hrx.row
 haveI y1 : RowB w y.A w (cmdsC y.m.cmds) := rowB_of hry.row
 refine ret_of_x (N := 91) (l := [.agg (blC x).toArray, .agg (blC y).toArray]) Tryz.func25 rfl rfl (Nat.le_of_ble_eq_true rfl) ?_
 refine x_seq ?_
 refine x_regionL ?_
 refine xl_e (e_box fun b1 w1 n1 l1 k1 => ?_)
 refine xl_e (e_box fun b2 w2 n2 l2 k2 => ?_)
 refine xl_v v_assign ?_
 refine xl_nil ?_
 refine x_seq ?_
 refine x_drawL (NoB) (allS) (.take 0 (.take 1 (.take 2 (.take 3 (.take 4 (.take 5 .done)))))) mixed (by kernel_rfl) (fun _ _ _ _ _ h => h) (fun w3 l3 => ?_)
 refine xt_Fb rfl ?_
 refine xt_Lc rfl ?_
 refine xt_Fb rfl ?_
 refine xt_Lc rfl ?_
 refine xt_v rfl v_assign ?_
 refine xt_v rfl v_assign ?_
 refine xt_nil ?_
 refine x_seq ?_
 refine x_regionL ?_
 refine xl_Fb ?_
 refine xl_Lc ?_
 refine xl_Fb ?_
 refine xl_Lc ?_
 refine xl_v v_eql ?_
 refine xl_v v_move ?_
 refine xl_split 16 (fun g16 => ?_) (fun g16 => ?_)
 ·
  refine xl_gFb rfl EvO.eq ?_
  refine xl_gLc rfl EvO.eq ?_
  refine xl_gFb rfl EvO.eq ?_
  refine xl_gLc rfl EvO.eq ?_
  refine xl_gv rfl EvO.eq v_eql ?_
  refine xl_Pk ?_
  refine xl_v v_move ?_
  refine xl_split 23 (fun g23 => ?_) (fun g23 => ?_)
  ·
   refine xl_gFb rfl EvO.eq ?_
   refine xl_gLc rfl EvO.eq ?_
   refine xl_gFb rfl EvO.eq ?_
   refine xl_gLc rfl EvO.eq ?_
   refine xl_gv rfl EvO.eq v_eql ?_
   refine xl_Pk ?_
   refine xl_v v_move ?_
   refine xl_split 30 (fun g30 => ?_) (fun g30 => ?_)
   ·
    refine xl_gFb rfl EvO.eq ?_
    refine xl_gLc rfl EvO.eq ?_
    refine xl_gFb rfl EvO.eq ?_
    refine xl_gLc rfl EvO.eq ?_
    refine xl_gv rfl EvO.eq v_eql ?_
    refine xl_Pk ?_
    refine xl_v v_move ?_
    refine xl_split 37 (fun g37 => ?_) (fun g37 => ?_)
    ·
     refine xl_gFb rfl EvO.eq ?_
     refine xl_gLc rfl EvO.eq ?_
     refine xl_gFb rfl EvO.eq ?_
     refine xl_gLc rfl EvO.eq ?_
     refine xl_gv rfl EvO.eq v_eql ?_
     refine xl_Pk ?_
     refine xl_v v_move ?_
     refine xl_split 44 (fun g44 => ?_) (fun g44 => ?_)
     ·
      refine xl_gFb rfl EvO.eq ?_
      refine xl_gLc rfl EvO.eq ?_
      refine xl_gFb rfl EvO.eq ?_
      refine xl_gLc rfl EvO.eq ?_
      refine xl_gv rfl EvO.eq v_eql ?_
      refine xl_Pk ?_
      refine xl_v v_move ?_
      refine xl_split 51 (fun g51 => ?_) (fun g51 => ?_)
      ·
       refine xl_gFb rfl EvO.eq ?_
       refine xl_gLc rfl EvO.eq ?_
       refine xl_gFb rfl EvO.eq ?_
       refine xl_gLc rfl EvO.eq ?_
       refine xl_gv rfl EvO.eq v_eql ?_
       refine xl_Pk ?_
       refine xl_v v_move ?_
       refine xl_split 58 (fun g58 => ?_) (fun g58 => ?_)
       ·
        refine xl_gFb rfl EvO.eq ?_
        refine xl_gLc rfl EvO.eq ?_
        refine xl_gFb rfl EvO.eq ?_
        refine xl_gLc rfl EvO.eq ?_
        refine xl_gv rfl EvO.eq v_eql ?_
        refine xl_Pk ?_
        refine xl_v v_move ?_
        refine xl_split 65 (fun g65 => ?_) (fun g65 => ?_)
        ·
         refine xl_gFb rfl EvO.eq ?_
         refine xl_gLc rfl EvO.eq ?_
         refine xl_gFb rfl EvO.eq ?_
         refine xl_gLc rfl EvO.eq ?_
         refine xl_gv rfl EvO.eq v_eql ?_
         refine xl_Pk ?_
         refine xl_v v_move ?_
         refine xl_split 72 (fun g72 => ?_) (fun g72 => ?_)
         ·
          refine xl_gFb rfl EvO.eq ?_
          refine xl_gLc rfl EvO.eq ?_
          refine xl_gFb rfl EvO.eq ?_
          refine xl_gLc rfl EvO.eq ?_
          refine xl_gv rfl EvO.eq v_eql ?_
          refine xl_Pk ?_
          refine xl_v v_move ?_
          refine xl_split 79 (fun g79 => ?_) (fun g79 => ?_)
          ·
           refine xl_gFb rfl EvO.eq ?_
           refine xl_gLc rfl EvO.eq ?_
           refine xl_gFb rfl EvO.eq ?_
           refine xl_gLc rfl EvO.eq ?_
           refine xl_gv rfl EvO.eq (v_beql) ?_
           refine xl_Pk ?_
           refine xl_v v_move ?_
           refine xl_split 86 (fun g86 => ?_) (fun g86 => ?_)
           ·
            refine xl_gv rfl EvO.eq v_move ?_
            refine xl_gv rfl EvO.eq v_move ?_
            refine xl_gcall rfl EvO.eq (eqC_ok x.A _ x.c x.m.cmds y.A _ y.c y.m.cmds w3 rfl rfl (by omega)) ?_
            rintro _ w4 ⟨rfl, lk31⟩
            refine xl_Pk ?_
            refine xl_v v_assign ?_
            refine xl_nil ?_
            refine x_ret ?_
            refine fin1 rfl ?_
            exact ⟨congrArg Value.bool (by rw [bl_dec]; simp_all), lkc⟩
           ·
            refine xl_gs rfl EvO.eq ?_
            refine xl_gs rfl EvO.eq ?_
            refine xl_gs rfl EvO.eq ?_
            refine xl_Pk ?_
            refine xl_v v_assign ?_
            refine xl_nil ?_
            refine x_ret ?_
            refine fin1 rfl ?_
            exact ⟨congrArg Value.bool (by rw [bl_dec]; simp_all), lkc⟩
          ·
           refine xl_gs rfl EvO.eq ?_
           refine xl_gs rfl EvO.eq ?_
           refine xl_gs rfl EvO.eq ?_
           refine xl_gs rfl EvO.eq ?_
           refine xl_gs rfl EvO.eq ?_
           refine xl_Pk ?_
           refine xl_v v_move ?_
           refine xl_gs rfl EvO.eq ?_
           refine xl_gs rfl EvO.eq ?_
           refine xl_gs rfl EvO.eq ?_
           refine xl_Pk ?_
           refine xl_v v_assign ?_
           refine xl_nil ?_
           refine x_ret ?_
           refine fin1 rfl ?_
           exact ⟨congrArg Value.bool (by rw [bl_dec]; simp_all), lkc⟩
         ·
          refine xl_gs rfl EvO.eq ?_
          refine xl_gs rfl EvO.eq ?_
          refine xl_gs rfl EvO.eq ?_
          refine xl_gs rfl EvO.eq ?_
          refine xl_gs rfl EvO.eq ?_
          refine xl_Pk ?_
          refine xl_v v_move ?_
          refine xl_gs rfl EvO.eq ?_
          refine xl_gs rfl EvO.eq ?_
          refine xl_gs rfl EvO.eq ?_
          refine xl_gs rfl EvO.eq ?_
          refine xl_gs rfl EvO.eq ?_
          refine xl_Pk ?_
          refine xl_v v_move ?_
          refine xl_gs rfl EvO.eq ?_
          refine xl_gs rfl EvO.eq ?_
          refine xl_gs rfl EvO.eq ?_
          refine xl_Pk ?_
          refine xl_v v_assign ?_
          refine xl_nil ?_
          refine x_ret ?_
          refine fin1 rfl ?_
          exact ⟨congrArg Value.bool (by rw [bl_dec]; simp_all), lkc⟩
        ·
         refine xl_gs rfl EvO.eq ?_
         refine xl_gs rfl EvO.eq ?_
         refine xl_gs rfl EvO.eq ?_
         refine xl_gs rfl EvO.eq ?_
         refine xl_gs rfl EvO.eq ?_
         refine xl_Pk ?_
         refine xl_v v_move ?_
         refine xl_gs rfl EvO.eq ?_
         refine xl_gs rfl EvO.eq ?_
         refine xl_gs rfl EvO.eq ?_
         refine xl_gs rfl EvO.eq ?_
         refine xl_gs rfl EvO.eq ?_
         refine xl_Pk ?_
         refine xl_v v_move ?_
         refine xl_gs rfl EvO.eq ?_
         refine xl_gs rfl EvO.eq ?_
         refine xl_gs rfl EvO.eq ?_
         refine xl_gs rfl EvO.eq ?_
         refine xl_gs rfl EvO.eq ?_
         refine xl_Pk ?_
         refine xl_v v_move ?_
         refine xl_gs rfl EvO.eq ?_
         refine xl_gs rfl EvO.eq ?_
         refine xl_gs rfl EvO.eq ?_
         refine xl_Pk ?_
         refine xl_v v_assign ?_
         refine xl_nil ?_
         refine x_ret ?_
         refine fin1 rfl ?_
         exact ⟨congrArg Value.bool (by rw [bl_dec]; simp_all), lkc⟩
       ·
        refine xl_gs rfl EvO.eq ?_
        refine xl_gs rfl EvO.eq ?_
        refine xl_gs rfl EvO.eq ?_
        refine xl_gs rfl EvO.eq ?_
        refine xl_gs rfl EvO.eq ?_
        refine xl_Pk ?_
        refine xl_v v_move ?_
        refine xl_gs rfl EvO.eq ?_
        refine xl_gs rfl EvO.eq ?_
        refine xl_gs rfl EvO.eq ?_
        refine xl_gs rfl EvO.eq ?_
        refine xl_gs rfl EvO.eq ?_
        refine xl_Pk ?_
        refine xl_v v_move ?_
        refine xl_gs rfl EvO.eq ?_
        refine xl_gs rfl EvO.eq ?_
        refine xl_gs rfl EvO.eq ?_
        refine xl_gs rfl EvO.eq ?_
        refine xl_gs rfl EvO.eq ?_
        refine xl_Pk ?_
        refine xl_v v_move ?_
        refine xl_gs rfl EvO.eq ?_
        refine xl_gs rfl EvO.eq ?_
        refine xl_gs rfl EvO.eq ?_
        refine xl_gs rfl EvO.eq ?_
        refine xl_gs rfl EvO.eq ?_
        refine xl_Pk ?_
        refine xl_v v_move ?_
        refine xl_gs rfl EvO.eq ?_
        refine xl_gs rfl EvO.eq ?_
        refine xl_gs rfl EvO.eq ?_
        refine xl_Pk ?_
        refine xl_v v_assign ?_
        refine xl_nil ?_
        refine x_ret ?_
        refine fin1 rfl ?_
        exact ⟨congrArg Value.bool (by rw [bl_dec]; simp_all), lkc⟩
      ·
       refine xl_gs rfl EvO.eq ?_
       refine xl_gs rfl EvO.eq ?_
       refine xl_gs rfl EvO.eq ?_
       refine xl_gs rfl EvO.eq ?_
       refine xl_gs rfl EvO.eq ?_
       refine xl_Pk ?_
       refine xl_v v_move ?_
       refine xl_gs rfl EvO.eq ?_
       refine xl_gs rfl EvO.eq ?_
       refine xl_gs rfl EvO.eq ?_
       refine xl_gs rfl EvO.eq ?_
       refine xl_gs rfl EvO.eq ?_
       refine xl_Pk ?_
       refine xl_v v_move ?_
       refine xl_gs rfl EvO.eq ?_
       refine xl_gs rfl EvO.eq ?_
       refine xl_gs rfl EvO.eq ?_
       refine xl_gs rfl EvO.eq ?_
       refine xl_gs rfl EvO.eq ?_
       refine xl_Pk ?_
       refine xl_v v_move ?_
       refine xl_gs rfl EvO.eq ?_
       refine xl_gs rfl EvO.eq ?_
       refine xl_gs rfl EvO.eq ?_
       refine xl_gs rfl EvO.eq ?_
       refine xl_gs rfl EvO.eq ?_
       refine xl_Pk ?_
       refine xl_v v_move ?_
       refine xl_gs rfl EvO.eq ?_
       refine xl_gs rfl EvO.eq ?_
       refine xl_gs rfl EvO.eq ?_
       refine xl_gs rfl EvO.eq ?_
       refine xl_gs rfl EvO.eq ?_
       refine xl_Pk ?_
       refine xl_v v_move ?_
       refine xl_gs rfl EvO.eq ?_
       refine xl_gs rfl EvO.eq ?_
       refine xl_gs rfl EvO.eq ?_
       refine xl_Pk ?_
       refine xl_v v_assign ?_
       refine xl_nil ?_
       refine x_ret ?_
       refine fin1 rfl ?_
       exact ⟨congrArg Value.bool (by rw [bl_dec]; simp_all), lkc⟩
     ·
      refine xl_gs rfl EvO.eq ?_
      refine xl_gs rfl EvO.eq ?_
      refine xl_gs rfl EvO.eq ?_
      refine xl_gs rfl EvO.eq ?_
      refine xl_gs rfl EvO.eq ?_
      refine xl_Pk ?_
      refine xl_v v_move ?_
      refine xl_gs rfl EvO.eq ?_
      refine xl_gs rfl EvO.eq ?_
      refine xl_gs rfl EvO.eq ?_
      refine xl_gs rfl EvO.eq ?_
      refine xl_gs rfl EvO.eq ?_
      refine xl_Pk ?_
      refine xl_v v_move ?_
      refine xl_gs rfl EvO.eq ?_
      refine xl_gs rfl EvO.eq ?_
      refine xl_gs rfl EvO.eq ?_
      refine xl_gs rfl EvO.eq ?_
      refine xl_gs rfl EvO.eq ?_
      refine xl_Pk ?_
      refine xl_v v_move ?_
      refine xl_gs rfl EvO.eq ?_
      refine xl_gs rfl EvO.eq ?_
      refine xl_gs rfl EvO.eq ?_
      refine xl_gs rfl EvO.eq ?_
      refine xl_gs rfl EvO.eq ?_
      refine xl_Pk ?_
      refine xl_v v_move ?_
      refine xl_gs rfl EvO.eq ?_
      refine xl_gs rfl EvO.eq ?_
      refine xl_gs rfl EvO.eq ?_
      refine xl_gs rfl EvO.eq ?_
      refine xl_gs rfl EvO.eq ?_
      refine xl_Pk ?_
      refine xl_v v_move ?_
      refine xl_gs rfl EvO.eq ?_
      refine xl_gs rfl EvO.eq ?_
      refine xl_gs rfl EvO.eq ?_
      refine xl_gs rfl EvO.eq ?_
      refine xl_gs rfl EvO.eq ?_
      refine xl_Pk ?_
      refine xl_v v_move ?_
      refine xl_gs rfl EvO.eq ?_
      refine xl_gs rfl EvO.eq ?_
      refine xl_gs rfl EvO.eq ?_
      refine xl_Pk ?_
      refine xl_v v_assign ?_
      refine xl_nil ?_
      refine x_ret ?_
      refine fin1 rfl ?_
      exact ⟨congrArg Value.bool (by rw [bl_dec]; simp_all), lkc⟩
    ·
     refine xl_gs rfl EvO.eq ?_
     refine xl_gs rfl EvO.eq ?_
     refine xl_gs rfl EvO.eq ?_
     refine xl_gs rfl EvO.eq ?_
     refine xl_gs rfl EvO.eq ?_
     refine xl_Pk ?_
     refine xl_v v_move ?_
     refine xl_gs rfl EvO.eq ?_
     refine xl_gs rfl EvO.eq ?_
     refine xl_gs rfl EvO.eq ?_
     refine xl_gs rfl EvO.eq ?_
     refine xl_gs rfl EvO.eq ?_
     refine xl_Pk ?_
     refine xl_v v_move ?_
     refine xl_gs rfl EvO.eq ?_
     refine xl_gs rfl EvO.eq ?_
     refine xl_gs rfl EvO.eq ?_
     refine xl_gs rfl EvO.eq ?_
     refine xl_gs rfl EvO.eq ?_
     refine xl_Pk ?_
     refine xl_v v_move ?_
     refine xl_gs rfl EvO.eq ?_
     refine xl_gs rfl EvO.eq ?_
     refine xl_gs rfl EvO.eq ?_
     refine xl_gs rfl EvO.eq ?_
     refine xl_gs rfl EvO.eq ?_
     refine xl_Pk ?_
     refine xl_v v_move ?_
     refine xl_gs rfl EvO.eq ?_
     refine xl_gs rfl EvO.eq ?_
     refine xl_gs rfl EvO.eq ?_
     refine xl_gs rfl EvO.eq ?_
     refine xl_gs rfl EvO.eq ?_
     refine xl_Pk ?_
     refine xl_v v_move ?_
     refine xl_gs rfl EvO.eq ?_
     refine xl_gs rfl EvO.eq ?_
     refine xl_gs rfl EvO.eq ?_
     refine xl_gs rfl EvO.eq ?_
     refine xl_gs rfl EvO.eq ?_
     refine xl_Pk ?_
     refine xl_v v_move ?_
     refine xl_gs rfl EvO.eq ?_
     refine xl_gs rfl EvO.eq ?_
     refine xl_gs rfl EvO.eq ?_
     refine xl_gs rfl EvO.eq ?_
     refine xl_gs rfl EvO.eq ?_
     refine xl_Pk ?_
     refine xl_v v_move ?_
     refine xl_gs rfl EvO.eq ?_
     refine xl_gs rfl EvO.eq ?_
     refine xl_gs rfl EvO.eq ?_
     refine xl_Pk ?_
     refine xl_v v_assign ?_
     refine xl_nil ?_
     refine x_ret ?_
     refine fin1 rfl ?_
     exact ⟨congrArg Value.bool (by rw [bl_dec]; simp_all), lkc⟩
   ·
    refine xl_gs rfl EvO.eq ?_
    refine xl_gs rfl EvO.eq ?_
    refine xl_gs rfl EvO.eq ?_
    refine xl_gs rfl EvO.eq ?_
    refine xl_gs rfl EvO.eq ?_
    refine xl_Pk ?_
    refine xl_v v_move ?_
    refine xl_gs rfl EvO.eq ?_
    refine xl_gs rfl EvO.eq ?_
    refine xl_gs rfl EvO.eq ?_
    refine xl_gs rfl EvO.eq ?_
    refine xl_gs rfl EvO.eq ?_
    refine xl_Pk ?_
    refine xl_v v_move ?_
    refine xl_gs rfl EvO.eq ?_
    refine xl_gs rfl EvO.eq ?_
    refine xl_gs rfl EvO.eq ?_
    refine xl_gs rfl EvO.eq ?_
    refine xl_gs rfl EvO.eq ?_
    refine xl_Pk ?_
    refine xl_v v_move ?_
    refine xl_gs rfl EvO.eq ?_
    refine xl_gs rfl EvO.eq ?_
    refine xl_gs rfl EvO.eq ?_
    refine xl_gs rfl EvO.eq ?_
    refine xl_gs rfl EvO.eq ?_
    refine xl_Pk ?_
    refine xl_v v_move ?_
    refine xl_gs rfl EvO.eq ?_
    refine xl_gs rfl EvO.eq ?_
    refine xl_gs rfl EvO.eq ?_
    refine xl_gs rfl EvO.eq ?_
    refine xl_gs rfl EvO.eq ?_
    refine xl_Pk ?_
    refine xl_v v_move ?_
    refine xl_gs rfl EvO.eq ?_
    refine xl_gs rfl EvO.eq ?_
    refine xl_gs rfl EvO.eq ?_
    refine xl_gs rfl EvO.eq ?_
    refine xl_gs rfl EvO.eq ?_
    refine xl_Pk ?_
    refine xl_v v_move ?_
    refine xl_gs rfl EvO.eq ?_
    refine xl_gs rfl EvO.eq ?_
    refine xl_gs rfl EvO.eq ?_
    refine xl_gs rfl EvO.eq ?_
    refine xl_gs rfl EvO.eq ?_
    refine xl_Pk ?_
    refine xl_v v_move ?_
    refine xl_gs rfl EvO.eq ?_
    refine xl_gs rfl EvO.eq ?_
    refine xl_gs rfl EvO.eq ?_
    refine xl_gs rfl EvO.eq ?_
    refine xl_gs rfl EvO.eq ?_
    refine xl_Pk ?_
    refine xl_v v_move ?_
    refine xl_gs rfl EvO.eq ?_
    refine xl_gs rfl EvO.eq ?_
    refine xl_gs rfl EvO.eq ?_
    refine xl_Pk ?_
    refine xl_v v_assign ?_
    refine xl_nil ?_
    refine x_ret ?_
    refine fin1 rfl ?_
    exact ⟨congrArg Value.bool (by rw [bl_dec]; simp_all), lkc⟩
  ·
   refine xl_gs rfl EvO.eq ?_
   refine xl_gs rfl EvO.eq ?_
   refine xl_gs rfl EvO.eq ?_
   refine xl_gs rfl EvO.eq ?_
   refine xl_gs rfl EvO.eq ?_
   refine xl_Pk ?_
   refine xl_v v_move ?_
   refine xl_gs rfl EvO.eq ?_
   refine xl_gs rfl EvO.eq ?_
   refine xl_gs rfl EvO.eq ?_
   refine xl_gs rfl EvO.eq ?_
   refine xl_gs rfl EvO.eq ?_
   refine xl_Pk ?_
   refine xl_v v_move ?_
   refine xl_gs rfl EvO.eq ?_
   refine xl_gs rfl EvO.eq ?_
   refine xl_gs rfl EvO.eq ?_
   refine xl_gs rfl EvO.eq ?_
   refine xl_gs rfl EvO.eq ?_
   refine xl_Pk ?_
   refine xl_v v_move ?_
   refine xl_gs rfl EvO.eq ?_
   refine xl_gs rfl EvO.eq ?_
   refine xl_gs rfl EvO.eq ?_
   refine xl_gs rfl EvO.eq ?_
   refine xl_gs rfl EvO.eq ?_
   refine xl_Pk ?_
   refine xl_v v_move ?_
   refine xl_gs rfl EvO.eq ?_
   refine xl_gs rfl EvO.eq ?_
   refine xl_gs rfl EvO.eq ?_
   refine xl_gs rfl EvO.eq ?_
   refine xl_gs rfl EvO.eq ?_
   refine xl_Pk ?_
   refine xl_v v_move ?_
   refine xl_gs rfl EvO.eq ?_
   refine xl_gs rfl EvO.eq ?_
   refine xl_gs rfl EvO.eq ?_
   refine xl_gs rfl EvO.eq ?_
   refine xl_gs rfl EvO.eq ?_
   refine xl_Pk ?_
   refine xl_v v_move ?_
   refine xl_gs rfl EvO.eq ?_
   refine xl_gs rfl EvO.eq ?_
   refine xl_gs rfl EvO.eq ?_
   refine xl_gs rfl EvO.eq ?_
   refine xl_gs rfl EvO.eq ?_
   refine xl_Pk ?_
   refine xl_v v_move ?_
   refine xl_gs rfl EvO.eq ?_
   refine xl_gs rfl EvO.eq ?_
   refine xl_gs rfl EvO.eq ?_
   refine xl_gs rfl EvO.eq ?_
   refine xl_gs rfl EvO.eq ?_
   refine xl_Pk ?_
   refine xl_v v_move ?_
   refine xl_gs rfl EvO.eq ?_
   refine xl_gs rfl EvO.eq ?_
   refine xl_gs rfl EvO.eq ?_
   refine xl_gs rfl EvO.eq ?_
   refine xl_gs rfl EvO.eq ?_
   refine xl_Pk ?_
   refine xl_v v_move ?_
   refine xl_gs rfl EvO.eq ?_
   refine xl_gs rfl EvO.eq ?_
   refine xl_gs rfl EvO.eq ?_
   refine xl_Pk ?_
   refine xl_v v_assign ?_
   refine xl_nil ?_
   refine x_ret ?_
   refine fin1 rfl ?_
   exact ⟨congrArg Value.bool (by rw [bl_dec]; simp_all), lkc⟩
 ·
  refine xl_gs rfl EvO.eq ?_
  refine xl_gs rfl EvO.eq ?_
  refine xl_gs rfl EvO.eq ?_
  refine xl_gs rfl EvO.eq ?_
  refine xl_gs rfl EvO.eq ?_
  refine xl_Pk ?_
  refine xl_v v_move ?_
  refine xl_gs rfl EvO.eq ?_
  refine xl_gs rfl EvO.eq ?_
  refine xl_gs rfl EvO.eq ?_
  refine xl_gs rfl EvO.eq ?_
  refine xl_gs rfl EvO.eq ?_
  refine xl_Pk ?_
  refine xl_v v_move ?_
  refine xl_gs rfl EvO.eq ?_
  refine xl_gs rfl EvO.eq ?_
  refine xl_gs rfl EvO.eq ?_
  refine xl_gs rfl EvO.eq ?_
  refine xl_gs rfl EvO.eq ?_
  refine xl_Pk ?_
  refine xl_v v_move ?_
  refine xl_gs rfl EvO.eq ?_
  refine xl_gs rfl EvO.eq ?_
  refine xl_gs rfl EvO.eq ?_
  refine xl_gs rfl EvO.eq ?_
  refine xl_gs rfl EvO.eq ?_
  refine xl_Pk ?_
  refine xl_v v_move ?_
  refine xl_gs rfl EvO.eq ?_
  refine xl_gs rfl EvO.eq ?_
  refine xl_gs rfl EvO.eq ?_
  refine xl_gs rfl EvO.eq ?_
  refine xl_gs rfl EvO.eq ?_
  refine xl_Pk ?_
  refine xl_v v_move ?_
  refine xl_gs rfl EvO.eq ?_
  refine xl_gs rfl EvO.eq ?_
  refine xl_gs rfl EvO.eq ?_
  refine xl_gs rfl EvO.eq ?_
  refine xl_gs rfl EvO.eq ?_
  refine xl_Pk ?_
  refine xl_v v_move ?_
  refine xl_gs rfl EvO.eq ?_
  refine xl_gs rfl EvO.eq ?_
  refine xl_gs rfl EvO.eq ?_
  refine xl_gs rfl EvO.eq ?_
  refine xl_gs rfl EvO.eq ?_
  refine xl_Pk ?_
  refine xl_v v_move ?_
  refine xl_gs rfl EvO.eq ?_
  refine xl_gs rfl EvO.eq ?_
  refine xl_gs rfl EvO.eq ?_
  refine xl_gs rfl EvO.eq ?_
  refine xl_gs rfl EvO.eq ?_
  refine xl_Pk ?_
  refine xl_v v_move ?_
  refine xl_gs rfl EvO.eq ?_
  refine xl_gs rfl EvO.eq ?_
  refine xl_gs rfl EvO.eq ?_
  refine xl_gs rfl EvO.eq ?_
  refine xl_gs rfl EvO.eq ?_
  refine xl_Pk ?_
  refine xl_v v_move ?_
  refine xl_gs rfl EvO.eq ?_
  refine xl_gs rfl EvO.eq ?_
  refine xl_gs rfl EvO.eq ?_
  refine xl_gs rfl EvO.eq ?_
  refine xl_gs rfl EvO.eq ?_
  refine xl_Pk ?_
  refine xl_v v_move ?_
  refine xl_gs rfl EvO.eq ?_
  refine xl_gs rfl EvO.eq ?_
  refine xl_gs rfl EvO.eq ?_
  refine xl_Pk ?_
  refine xl_v v_assign ?_
  refine xl_nil ?_
  refine x_ret ?_
  refine fin1 rfl ?_
  exact ⟨congrArg Value.bool (by rw [bl_dec]; simp_all), lkc⟩
end Go.Proofs.YtljdkelgapndgaaGreat
set_option linter.all false
set_option maxRecDepth 100000
set_option synthInstance.maxSize 100000
set_option synthInstance.maxHeartbeats 400000
namespace Go.Proofs.YtljdkelgapndgaaGreat
open Go.Wst
open Go.Wst.Qm


theorem eqFN_ok (A : Option Addr) (n c : Nat) (xs : List LNd) (B : Option Addr) (n' c' : Nat) (ys : List LNd) (f : FuncId) (p : Nat → Bool) (w : World) [Fun Tryz.prog f] [hra : Row w A (xs.flatMap ndC)] [hrb : Row w B (ys.flatMap ndC)] (hl : xs.length = n) (hl' : ys.length = n') (hn : n ≤ 1000000000) (hp : ∀ i (h : i < xs.length) (h' : i < ys.length) W, Lk W w NoB → Ret Tryz.prog f ((.agg (ndC xs[i]).toArray :: .agg (ndC ys[i]).toArray :: []) : List Value).toArray W (fun v w' => v = .bool (p i) ∧ Lk w' W NoB)) : Ret Tryz.prog 26 #[.slice A n c, .slice B n' c', .func (.func f) ([] : List Value).toArray ([] : List Value).toArray] w (fun v w' => v = .bool (decide (n = n') && (List.range n).all p) ∧ Lk w' w NoB) := by
 haveI hra2 : RowB w A w (xs.flatMap ndC) := rowB_of hra.row
 haveI hrb2 : RowB w B w (ys.flatMap ndC) := rowB_of hrb.row
 refine ret_of_x (N := 32) (l := [.slice A n c, .slice B n' c', .func (.func f) ([] : List Value).toArray ([] : List Value).toArray]) Tryz.func26 rfl rfl (Nat.le_of_ble_eq_true rfl) ?_
 refine x_seq ?_
 refine x_regionL ?_
 refine xl_v v_assign ?_
 refine xl_nil ?_
 refine x_seq ?_
 refine x_seq ?_
 refine x_regionL ?_
 refine xl_v v_move ?_
 refine xl_v v_len ?_
 refine xl_v v_move ?_
 refine xl_v v_len ?_
 refine xl_v v_neq ?_
 refine xl_nil ?_
 first | refine x_condP (fun c1 => ?_) (fun c1 => ?_) | refine x_condN (fun c1 => ?_) (fun c1 => ?_) | refine x_condE (fun c1 => ?_) (fun c1 => ?_)
 ·
  refine x_seq ?_
  refine x_regionL ?_
  refine xl_v v_assign ?_
  refine xl_nil ?_
  refine x_ret ?_
  refine fin1 rfl ?_
  exact ⟨by rw [decide_eq_false (by omega)]; rfl, lkc⟩
 ·
  have hnn : n = n' := by omega
  refine x_skip ?_
  refine x_seq ?_
  refine x_seq ?_
  refine x_regionL ?_
  refine xl_v v_move ?_
  refine xl_v v_len ?_
  refine xl_v v_move ?_
  refine xl_nil ?_
  refine x_block ?_
  refine x_loop (fun m τ ds w' => ds = [] ∧ ∃ k : Nat, m = n - k ∧ k ≤ n ∧ (∀ i, i < k → p i = true) ∧ Ev τ 1 (.slice B n' c') ∧ Ev τ 2 (.func (.func f) ([] : List Value).toArray ([] : List Value).toArray) ∧ Ev τ 15 (.slice A n c) ∧ Ev τ 16 (.int .i64 (n : Int)) ∧ Ev τ 17 (.int .i64 (k : Int)) ∧ Lk w' w NoB) (n) ?start ?round
  case start =>
   exact ⟨rfl, 0, rfl, Nat.zero_le _, fun _ h => absurd h (Nat.not_lt_zero _), inferInstance, inferInstance, inferInstance, inferInstance, evc, lkc⟩
  case round =>
   intro m τ1 ds1 w1 hI
   obtain ⟨rfl, k, rfl, hk, hall, e1, e2, e15, e16, e17, lk⟩ := hI
   refine x_seq ?_
   refine x_regionL ?_
   refine xl_v v_lss ?_
   refine xl_nil ?_
   refine x_seq ?_
   first | refine x_condP (fun c2 => ?_) (fun c2 => ?_) | refine x_condN (fun c2 => ?_) (fun c2 => ?_) | refine x_condE (fun c2 => ?_) (fun c2 => ?_)
   ·
    have hk1 : k < xs.length := by omega
    have hk2 : k < ys.length := by omega
    refine x_skip ?_
    refine x_seq ?_
    refine x_block ?_
    refine x_seq ?_
    refine x_regionL ?_
    refine xl_v v_move ?_
    refine xl_v (v_indexF k (by decide) rfl (by omega) hk1) ?_
    refine xl_v (v_loadF (k := k) (by decide) hk1) ?_
    refine xl_e (e_alloc fun b53 w2 n53 l53 k53 => ?_)
    refine xl_v v_assign ?_
    refine xl_s (e_storeA fun w3 l3 k3 => ?_)
    refine xl_nil ?_
    refine x_seq ?_
    refine x_regionL ?_
    refine xl_v v_move ?_
    refine xl_v v_move ?_
    refine xl_v (v_indexF k (by decide) rfl (by omega) hk2) ?_
    refine xl_v (v_loadF (k := k) (by decide) hk2) ?_
    refine xl_e (e_alloc fun b64 w4 n64 l64 k64 => ?_)
    refine xl_s (e_storeA fun w5 l5 k5 => ?_)
    refine xl_nil ?_
    refine x_seq ?_
    refine x_regionL ?_
    refine xl_v v_move ?_
    refine xl_Lb ?_
    refine xl_Lb ?_
    refine xl_call (hp k hk1 hk2 w5 lkc) ?_
    rintro _ w6 ⟨rfl, lk3⟩
    refine xl_v v_not ?_
    refine xl_nil ?_
    refine x_condE (fun c3 => ?_) (fun c3 => ?_)
    ·
     refine x_seq ?_
     refine x_regionL ?_
     refine xl_v v_assign ?_
     refine xl_nil ?_
     refine x_ret ?_
     refine fin1 rfl ?_
     refine ⟨?_, lkc⟩
     have h1 : (List.range n).all p = false := by
      rw [List.all_eq_false]
      exact ⟨k, by simp; omega, by simpa using c3⟩
     rw [h1, Bool.and_false]
    ·
     refine x_skip ?_
     refine x_regionL ?_
     refine xl_v (v_add (by omega)) ?_
     refine xl_v v_move ?_
     refine xl_nil ?_
     refine ⟨_, ?_, rfl, k + 1, rfl, by omega, ?_, inferInstance, inferInstance, inferInstance, inferInstance, evc, lkc⟩
     ·omega
     ·intro i hi
      by_cases h : i = k
      ·subst h; simpa using c3
      ·exact hall i (by omega)
   ·
    refine x_exit ?_
    refine x_seq ?_
    refine x_regionL ?_
    refine xl_v v_assign ?_
    refine xl_nil ?_
    refine x_ret ?_
    refine fin1 rfl ?_
    refine ⟨?_, lkc⟩
    have h1 : (List.range n).all p = true := by
     rw [List.all_eq_true]
     intro i hi
     exact hall i (by simp at hi; omega)
    rw [h1, decide_eq_true hnn]
    rfl

theorem eqFB_ok (A : Option Addr) (n c : Nat) (xs : List LBl) (B : Option Addr) (n' c' : Nat) (ys : List LBl) (f : FuncId) (p : Nat → Bool) (w : World) [Fun Tryz.prog f] [hra : Row w A (xs.flatMap blC)] [hrb : Row w B (ys.flatMap blC)] (hl : xs.length = n) (hl' : ys.length = n') (hn : n ≤ 1000000000) (hp : ∀ i (h : i < xs.length) (h' : i < ys.length) W, Lk W w NoB → Ret Tryz.prog f ((.agg (blC xs[i]).toArray :: .agg (blC ys[i]).toArray :: []) : List Value).toArray W (fun v w' => v = .bool (p i) ∧ Lk w' W NoB)) : Ret Tryz.prog 27 #[.slice A n c, .slice B n' c', .func (.func f) ([] : List Value).toArray ([] : List Value).toArray] w (fun v w' => v = .bool (decide (n = n') && (List.range n).all p) ∧ Lk w' w NoB) := by
 haveI hra2 : RowB w A w (xs.flatMap blC) := rowB_of hra.row
 haveI hrb2 : RowB w B w (ys.flatMap blC) := rowB_of hrb.row
 refine ret_of_x (N := 32) (l := [.slice A n c, .slice B n' c', .func (.func f) ([] : List Value).toArray ([] : List Value).toArray]) Tryz.func27 rfl rfl (Nat.le_of_ble_eq_true rfl) ?_
 refine x_seq ?_
 refine x_regionL ?_
 refine xl_v v_assign ?_
 refine xl_nil ?_
 refine x_seq ?_
 refine x_seq ?_
 refine x_regionL ?_
 refine xl_v v_move ?_
 refine xl_v v_len ?_
 refine xl_v v_move ?_
 refine xl_v v_len ?_
 refine xl_v v_neq ?_
 refine xl_nil ?_
 first | refine x_condP (fun c1 => ?_) (fun c1 => ?_) | refine x_condN (fun c1 => ?_) (fun c1 => ?_) | refine x_condE (fun c1 => ?_) (fun c1 => ?_)
 ·
  refine x_seq ?_
  refine x_regionL ?_
  refine xl_v v_assign ?_
  refine xl_nil ?_
  refine x_ret ?_
  refine fin1 rfl ?_
  exact ⟨by rw [decide_eq_false (by omega)]; rfl, lkc⟩
 ·
  have hnn : n = n' := by omega
  refine x_skip ?_
  refine x_seq ?_
  refine x_seq ?_
  refine x_regionL ?_
  refine xl_v v_move ?_
  refine xl_v v_len ?_
  refine xl_v v_move ?_
  refine xl_nil ?_
  refine x_block ?_
  refine x_loop (fun m τ ds w' => ds = [] ∧ ∃ k : Nat, m = n - k ∧ k ≤ n ∧ (∀ i, i < k → p i = true) ∧ Ev τ 1 (.slice B n' c') ∧ Ev τ 2 (.func (.func f) ([] : List Value).toArray ([] : List Value).toArray) ∧ Ev τ 15 (.slice A n c) ∧ Ev τ 16 (.int .i64 (n : Int)) ∧ Ev τ 17 (.int .i64 (k : Int)) ∧ Lk w' w NoB) (n) ?start ?round
  case start =>
   exact ⟨rfl, 0, rfl, Nat.zero_le _, fun _ h => absurd h (Nat.not_lt_zero _), inferInstance, inferInstance, inferInstance, inferInstance, evc, lkc⟩
  case round =>
   intro m τ1 ds1 w1 hI
   obtain ⟨rfl, k, rfl, hk, hall, e1, e2, e15, e16, e17, lk⟩ := hI
   refine x_seq ?_
   refine x_regionL ?_
   refine xl_v v_lss ?_
   refine xl_nil ?_
   refine x_seq ?_
   first | refine x_condP (fun c2 => ?_) (fun c2 => ?_) | refine x_condN (fun c2 => ?_) (fun c2 => ?_) | refine x_condE (fun c2 => ?_) (fun c2 => ?_)
   ·
    have hk1 : k < xs.length := by omega
    have hk2 : k < ys.length := by omega
    refine x_skip ?_
    refine x_seq ?_
    refine x_block ?_
    refine x_seq ?_
    refine x_regionL ?_
    refine xl_v v_move ?_
    refine xl_v (v_indexF k (by decide) rfl (by omega) hk1) ?_
    refine xl_v (v_loadF (k := k) (by decide) hk1) ?_
    refine xl_e (e_alloc fun b53 w2 n53 l53 k53 => ?_)
    refine xl_v v_assign ?_
    refine xl_s (e_storeA fun w3 l3 k3 => ?_)
    refine xl_nil ?_
    refine x_seq ?_
    refine x_regionL ?_
    refine xl_v v_move ?_
    refine xl_v v_move ?_
    refine xl_v (v_indexF k (by decide) rfl (by omega) hk2) ?_
    refine xl_v (v_loadF (k := k) (by decide) hk2) ?_
    refine xl_e (e_alloc fun b64 w4 n64 l64 k64 => ?_)
    refine xl_s (e_storeA fun w5 l5 k5 => ?_)
    refine xl_nil ?_
    refine x_seq ?_
    refine x_regionL ?_
    refine xl_v v_move ?_
    refine xl_Lb ?_
    refine xl_Lb ?_
    refine xl_call (hp k hk1 hk2 w5 lkc) ?_
    rintro _ w6 ⟨rfl, lk3⟩
    refine xl_v v_not ?_
    refine xl_nil ?_
    refine x_condE (fun c3 => ?_) (fun c3 => ?_)
    ·
     refine x_seq ?_
     refine x_regionL ?_
     refine xl_v v_assign ?_
     refine xl_nil ?_
     refine x_ret ?_
     refine fin1 rfl ?_
     refine ⟨?_, lkc⟩
     have h1 : (List.range n).all p = false := by
      rw [List.all_eq_false]
      exact ⟨k, by simp; omega, by simpa using c3⟩
     rw [h1, Bool.and_false]
    ·
     refine x_skip ?_
     refine x_regionL ?_
     refine xl_v (v_add (by omega)) ?_
     refine xl_v v_move ?_
     refine xl_nil ?_
     refine ⟨_, ?_, rfl, k + 1, rfl, by omega, ?_, inferInstance, inferInstance, inferInstance, inferInstance, evc, lkc⟩
     ·omega
     ·intro i hi
      by_cases h : i = k
      ·subst h; simpa using c3
      ·exact hall i (by omega)
   ·
    refine x_exit ?_
    refine x_seq ?_
    refine x_regionL ?_
    refine xl_v v_assign ?_
    refine xl_nil ?_
    refine x_ret ?_
    refine fin1 rfl ?_
    refine ⟨?_, lkc⟩
    have h1 : (List.range n).all p = true := by
     rw [List.all_eq_true]
     intro i hi
     exact hall i (by simp at hi; omega)
    rw [h1, decide_eq_true hnn]
    rfl
end Go.Proofs.YtljdkelgapndgaaGreat
set_option linter.all false
set_option maxRecDepth 100000
set_option synthInstance.maxSize 100000
set_option synthInstance.maxHeartbeats 400000
namespace Go.Proofs.YtljdkelgapndgaaGreat
open Go.Wst
open Go.Wst.Qm
theorem all_iff {n : Nat} {p : Nat → Bool} : (List.range n).all p = true ↔ ∀ i, i < n → p i = true := by
 rw [List.all_eq_true]
 exact ⟨fun h i hi => h i (by simpa using hi), fun h i hi => h i (by simpa using hi)⟩
theorem list_same {α : Type} [DecidableEq α] (l m : List α) (d : α) : (decide (l.length = m.length) && (List.range l.length).all (fun i => decide (l.getD i d = m.getD i d))) = decide (l = m) := by
 rw [Bool.eq_iff_iff]
 simp only [Bool.and_eq_true, all_iff, decide_eq_true_eq]
 constructor
 ·rintro ⟨h1, h2⟩
  apply List.ext_getElem h1
  intro i a b
  have := h2 i a
  simpa [List.getD_eq_getElem?_getD, a, b] using this
 ·rintro rfl
  exact ⟨rfl, fun _ _ => rfl⟩
theorem qu_same (D D2 : LQu) : decide (D.pure.nodes = D2.pure.nodes ∧ D.pure.bag = D2.pure.bag) = ((decide (D.ns.length = D2.ns.length) && (List.range D.ns.length).all (fun i => decide (D.pure.nodes.getD i Nd.new = D2.pure.nodes.getD i Nd.new))) && (decide (D.bs.length = D2.bs.length) && (List.range D.bs.length).all (fun i => decide (D.pure.bag.getD i Bl.zero = D2.pure.bag.getD i Bl.zero)))) := by
 have h1 := list_same D.pure.nodes D2.pure.nodes Nd.new
 have h2 := list_same D.pure.bag D2.pure.bag Bl.zero
 have e1 : D.pure.nodes.length = D.ns.length := pure_len D
 have e2 : D2.pure.nodes.length = D2.ns.length := pure_len D2
 have e3 : D.pure.bag.length = D.bs.length := by simp [LQu.pure]
 have e4 : D2.pure.bag.length = D2.bs.length := by simp [LQu.pure]
 rw [e1, e2] at h1
 rw [e3, e4] at h2
 rw [h1, h2, Bool.decide_and]
set_option maxHeartbeats 2000000 in
theorem same_ok (q : Nat) (D : LQu) (F : Nat → Prop) (q2 : Nat) (D2 : LQu) (F2 : Nat → Prop) (w : World) (h : QuAt w F q D) (h2 : QuAt w F2 q2 D2) (hpos : 0 < D.ns.length) (hpos2 : 0 < D2.ns.length) (hok : ∀ y ∈ D.ns, y.x.Ok D.ns.length) (hok2 : ∀ y ∈ D2.ns, y.x.Ok D2.ns.length) (hn5 : D.ns.length ≤ 5) (hb256 : D.bs.length ≤ 256) (hcl : ∀ y ∈ D.bs, y.m.cmds.length ≤ 4) : Ret Tryz.prog 8 #[.pointer (some ⟨q, 0, none⟩), .pointer (some ⟨q2, 0, none⟩)] w (fun v w' => v = .bool (decide (D.pure.nodes = D2.pure.nodes ∧ D.pure.bag = D2.pure.bag)) ∧ Lk w' w NoB) := by
 haveI hb : Blk w q _ := ⟨h.hb⟩
 haveI hbb : Blk w q2 _ := ⟨h2.hb⟩
 haveI hN : OwnI w D.NA D.ns.length D.nc 0 69 20 D.ns.length (D.ns.flatMap ndC) := ⟨h.nodes⟩
 haveI hB : OwnI w D.BA D.bs.length D.bc 0 75 12 D.bs.length (D.bs.flatMap blC) := ⟨h.bag⟩
 haveI hN2 : OwnI w D2.NA D2.ns.length D2.nc 0 69 20 D2.ns.length (D2.ns.flatMap ndC) := ⟨h2.nodes⟩
 haveI hB2 : OwnI w D2.BA D2.bs.length D2.bc 0 75 12 D2.bs.length (D2.bs.flatMap blC) := ⟨h2.bag⟩
 have hf1 : ∀ i (h : i < D.ns.length) (h' : i < D2.ns.length) W, Lk W w NoB → Ret Tryz.prog 23 ((.agg (ndC D.ns[i]).toArray :: .agg (ndC D2.ns[i]).toArray :: []) : List Value).toArray W (fun v w' => v = .bool ((fun i => decide (D.pure.nodes.getD i Nd.new = D2.pure.nodes.getD i Nd.new)) i) ∧ Lk w' W NoB) := by
  intro i hi hi' W lk
  have o1 := hok _ (List.getElem_mem hi)
  have o2 := hok2 _ (List.getElem_mem hi')
  haveI r1 : Row W D.ns[i].A (cmdsC D.ns[i].x.log) := ⟨((h.logs _ (List.getElem_mem hi)).keep lk.keep (fun _ _ e => e)).row⟩
  haveI r2 : Row W D2.ns[i].A (cmdsC D2.ns[i].x.log) := ⟨((h2.logs _ (List.getElem_mem hi')).keep lk.keep (fun _ _ e => e)).row⟩
  have := same1_ok D.ns[i] D2.ns[i] W (by have := o1.ll; omega) ⟨o1.vl, o1.nl, o1.ml⟩ ⟨o2.vl, o2.nl, o2.ml⟩
  refine this.mono ?_
  rintro v w' ⟨rfl, lk2⟩
  exact ⟨by simp [LQu.pure, List.getD_eq_getElem?_getD, hi, hi'], lk2⟩
 have hf2 : ∀ i (h : i < D.bs.length) (h' : i < D2.bs.length) W, Lk W w NoB → Ret Tryz.prog 25 ((.agg (blC D.bs[i]).toArray :: .agg (blC D2.bs[i]).toArray :: []) : List Value).toArray W (fun v w' => v = .bool ((fun i => decide (D.pure.bag.getD i Bl.zero = D2.pure.bag.getD i Bl.zero)) i) ∧ Lk w' W NoB) := by
  intro i hi hi' W lk
  haveI r1 : Row W D.bs[i].A (cmdsC D.bs[i].m.cmds) := ⟨((h.cmds _ (List.getElem_mem hi)).keep lk.keep (fun _ _ e => e)).row⟩
  haveI r2 : Row W D2.bs[i].A (cmdsC D2.bs[i].m.cmds) := ⟨((h2.cmds _ (List.getElem_mem hi')).keep lk.keep (fun _ _ e => e)).row⟩
  have := same2_ok D.bs[i] D2.bs[i] W (by have := hcl _ (List.getElem_mem hi); omega)
  refine this.mono ?_
  rintro v w' ⟨rfl, lk2⟩
  exact ⟨by simp [LQu.pure, List.getD_eq_getElem?_getD, hi, hi'], lk2⟩
 refine ret_of_x (N := 42) (l := [.pointer (some ⟨q, 0, none⟩), .pointer (some ⟨q2, 0, none⟩)]) Tryz.func8 rfl rfl (Nat.le_of_ble_eq_true rfl) ?_
 refine x_seq ?_
 refine x_regionL ?_
 refine xl_v v_assign ?_
 refine xl_nil ?_
 refine x_seq ?_
 refine x_seq ?_
 refine x_regionL ?_
 refine xl_v v_move ?_
 refine xl_call (nodes_ok q D w) ?_
 rintro _ w1 ⟨rfl, lk1⟩
 refine xl_v (v_eqlF (by omega)) ?_
 refine xl_v v_move ?_
 refine xl_gv rfl EvO.eq v_move ?_
 refine xl_gcall rfl EvO.eq (nodes_ok q2 D2 w1) ?_
 rintro _ w2 ⟨rfl, lk5⟩
 refine xl_gv rfl EvO.eq (v_eqlF (by omega)) ?_
 refine xl_Pk ?_
 refine xl_nil ?_
 refine x_condF ?_
 refine x_skip ?_
 refine x_seq ?_
 refine x_regionL ?_
 refine xl_v v_assign ?_
 refine xl_nil ?_
 refine x_seq ?_
 refine x_regionL ?_
 refine xl_v v_assign ?_
 refine xl_nil ?_
 refine x_seq ?_
 refine x_drawL (NoB) (allS) (.take 0 (.take 1 (.take 2 (.take 3 (.take 4 (.take 5 (.take 6 (.take 7 (.take 8 (.eff 9 (.take 10 (.take 11 (.take 12 (.take 13 (.take 14 (.take 15 (.take 16 (.take 17 (.take 18 (.take 19 (.eff 20 (.take 21 (.take 22 .done))))))))))))))))))))))) mixed (by kernel_rfl) (fun _ _ _ _ _ h => h) (fun w3 l3 => ?_)
 refine xt_v rfl v_move ?_
 refine xt_Nc rfl ?_
 refine xt_Fb rfl ?_
 refine xt_Lc rfl ?_
 refine xt_v rfl v_move ?_
 refine xt_Nc rfl ?_
 refine xt_Fb rfl ?_
 refine xt_Lc rfl ?_
 refine xt_v rfl v_move ?_
 refine xt_call rfl (eqFN_ok D.NA D.ns.length D.nc D.ns D2.NA D2.ns.length D2.nc D2.ns 23 (fun i => decide (D.pure.nodes.getD i Nd.new = D2.pure.nodes.getD i Nd.new)) w3 rfl rfl (by omega) (fun i h h' W l => hf1 i h h' W ⟨Keep.trans (kpc : Keep NoB w w3) l.keep⟩)) ?_
 rintro _ w4 ⟨rfl, lk9⟩
 refine ⟨kpc, ?_⟩
 refine xt_v rfl v_move ?_
 refine xt_split 30 (fun g30 => ?_) (fun g30 => ?_)
 ·
  refine xt_gv rfl rfl EvO.eq v_move ?_
  refine xt_gNc rfl rfl EvO.eq ?_
  refine xt_gFb rfl rfl EvO.eq ?_
  refine xt_gLc rfl rfl EvO.eq ?_
  refine xt_gv rfl rfl EvO.eq v_move ?_
  refine xt_gNc rfl rfl EvO.eq ?_
  refine xt_gFb rfl rfl EvO.eq ?_
  refine xt_gLc rfl rfl EvO.eq ?_
  refine xt_gv rfl rfl EvO.eq v_move ?_
  refine xt_gcall rfl rfl EvO.eq (eqFB_ok D.BA D.bs.length D.bc D.bs D2.BA D2.bs.length D2.bc D2.bs 25 (fun i => decide (D.pure.bag.getD i Bl.zero = D2.pure.bag.getD i Bl.zero)) w4 rfl rfl (by omega) (fun i h h' W l => hf2 i h h' W ⟨Keep.trans (kpc : Keep NoB w w4) l.keep⟩)) ?_
  rintro _ w5 ⟨rfl, lk20⟩
  refine ⟨kpc, ?_⟩
  refine xt_Pk rfl ?_
  refine xt_v rfl v_assign ?_
  refine xt_nil ?_
  refine x_ret ?_
  refine fin1 rfl ?_
  exact ⟨congrArg Value.bool (by first | (rw [qu_same, g30, Bool.true_and]; done) | (rw [qu_same, g30, Bool.false_and]; done) | (rw [qu_same]; simp at g30; simp_all)), lkc⟩
 ·
  refine xt_gs rfl rfl EvO.eq ?_
  refine xt_gs rfl rfl EvO.eq ?_
  refine xt_gs rfl rfl EvO.eq ?_
  refine xt_gs rfl rfl EvO.eq ?_
  refine xt_gs rfl rfl EvO.eq ?_
  refine xt_gs rfl rfl EvO.eq ?_
  refine xt_gs rfl rfl EvO.eq ?_
  refine xt_gs rfl rfl EvO.eq ?_
  refine xt_gs rfl rfl EvO.eq ?_
  refine xt_gse rfl rfl EvO.eq ?_
  refine xt_Pk rfl ?_
  refine xt_v rfl v_assign ?_
  refine xt_nil ?_
  refine x_ret ?_
  refine fin1 rfl ?_
  exact ⟨congrArg Value.bool (by first | (rw [qu_same, g30, Bool.true_and]; done) | (rw [qu_same, g30, Bool.false_and]; done) | (rw [qu_same]; simp at g30; simp_all)), lkc⟩
end Go.Proofs.YtljdkelgapndgaaGreat
