/-
  Walks, printed by a program of this workplace (wip/tools/sx.py) off the functions' code and a text of contracts.
-/
import Derived.Test.YtbihphclmdokeaaAC
set_option linter.all false
set_option maxRecDepth 100000
set_option synthInstance.maxSize 100000
set_option synthInstance.maxHeartbeats 400000
namespace Go.Proofs.Ytbihphclmdokeaa
open Go.Wst
open Go.Wst.Sm
section
variable {P : Program} {r : Option Nat} {N : Nat} {S : Nat → Prop} {Q : Post} {τ : Tau} {ds : List Deferred} {w : World} {ty : TypeId} {ops : Array Oper} {rest : List Oper} {pos : String} {aft : Array Edge} {d : Nat} {op : Op}
/-- The guard was passed over. -/
theorem xl_gu {j e : Nat} {b : Bool} (hj : (ops[j]?).bind (·.dst) = some e) (hb : evO N τ (.tmp e) = undef) (h : XL P r N ops Q rest (upd τ d undef) ds w) :
    XL P r N ops Q (⟨some d, op, ty, pos, aft, some (j, b)⟩ :: rest) τ ds w := by
  show OpE P r N ops _ Q τ ds w _
  unfold OpE
  rw [if_neg (by simp [wantedT, Region.wanted, yieldedT, hj, hb, undef])]
  exact h
theorem xt_gu {p : Plan} {i j e : Nat} {b : Bool} {pos' : String} {aft' : Array Edge} (hi : ops[i]? = some ⟨some d, op, ty, pos', aft', some (j, b)⟩) (hj : (ops[j]?).bind (·.dst) = some e) (hb : evO N τ (.tmp e) = undef) (h : XT P r N ops Q S p (upd τ d undef) ds w) : XT P r N ops Q S (.take i p) τ ds w := by
  show match ops[i]? with | some o => OpP P r N ops S o τ w (fun τ => XT P r N ops Q S p τ ds w) | none => False
  rw [hi]
  exact ⟨undef, .inr ⟨by simp [wantedT, Region.wanted, yieldedT, hj, hb, undef], rfl⟩, h⟩
end
section
variable {P : Program} {r : Option Nat} {N : Nat} {S : Nat → Prop} {τ : Tau} {w : World} {ty : TypeId}
theorem v_beql {x y : Operand} {t t' : TypeId} {a b : Bool} [hx : EvO N τ x (.bool a)] [hy : EvO N τ y (.bool b)] [hu : Und P t .bool] : Val P r N S (.binOp .eql t x y t') ty τ w (.bool (a == b)) := ⟨fun _ => nofun, fun W _ => by
  have h0 : ∀ d, (Op.equalIn (d + 1) t (.bool a) (.bool b)).run P W = .ok (a == b) W := fun d => by simp [Op.equalIn, run_underlying hu.eq]
  have := h0 9999
  simp [execOp, hx.eq, hy.eq, eqGuard, binOp, Op.equal, Op.maxDepth, this]⟩
theorem v_bneq {x y : Operand} {t t' : TypeId} {a b : Bool} [hx : EvO N τ x (.bool a)] [hy : EvO N τ y (.bool b)] [hu : Und P t .bool] : Val P r N S (.binOp .neq t x y t') ty τ w (.bool (!(a == b))) := ⟨fun _ => nofun, fun W _ => by
  have h0 : ∀ d, (Op.equalIn (d + 1) t (.bool a) (.bool b)).run P W = .ok (a == b) W := fun d => by simp [Op.equalIn, run_underlying hu.eq]
  have := h0 9999
  simp [execOp, hx.eq, hy.eq, eqGuard, binOp, Op.equal, Op.maxDepth, this]⟩
theorem v_indexArr {x y : Operand} {t e : TypeId} {sz bytes len : Nat} {z : Value} {a : Addr} {i : Int} (k : Nat) [hx : EvO N τ x (.pointer (some a))] [hy : EvO N τ y (.int .i64 i)] [hu : Und P t (.array len e)] [hi : Inf P e sz bytes z] (hk : i = (k : Int)) (hn : k < len) :
    Val P r N S (.indexAddr t x y) ty τ w (padd (some a) (k * sz)) := ⟨fun _ => nofun, fun W _ => by
  obtain ⟨ii, h1, h2, h3, h4⟩ := hi.ex
  subst hk; subst h2
  simp [execOp, hx.eq, hy.eq, Instr.indexAt, asIntOf, run_underlying hu.eq, hn, sizeOf, typeInfo, h1, padd, Instr.sureAddr]⟩
theorem v_indexArr2 {x y : Operand} {t e : TypeId} {sz bytes len j j' : Nat} {z : Value} {A : Option Addr} {i : Int} (k : Nat) [hx : EvO N τ x (padd A j)] [hy : EvO N τ y (.int .i64 i)] [hu : Und P t (.array len e)] [hi : Inf P e sz bytes z] (hA : A.isSome = true) (hk : i = (k : Int)) (hn : k < len) (hj : j + k * sz = j') :
    Val P r N S (.indexAddr t x y) ty τ w (padd A j') := ⟨fun _ => nofun, fun W _ => by
  obtain ⟨a, rfl⟩ := Option.isSome_iff_exists.1 hA
  obtain ⟨ii, h1, h2, h3, h4⟩ := hi.ex
  subst hk; subst h2; subst hj
  simp [execOp, hx.eq, hy.eq, Instr.indexAt, asIntOf, run_underlying hu.eq, hn, sizeOf, typeInfo, h1, padd, Instr.sureAddr, add_add]⟩
end
theorem items_ok2 (b pb mb : Nat) (vs : List Value) (M : Mach) (part : Int) (w : World) (h : MachAt w b pb mb vs M) (hok : M.ok) :
    Ret Try.prog 33 #[.pointer (some ⟨b, 0, none⟩), .int .i64 part] w (fun v w' => (∃ A n c, v = .tuple #[.slice A n c, .int .i64 (if M.hasB part = true then 0 else 4)] ∧ (M.hasB part = false → n = 0)) ∧ Lk w' w NoB) := by
  refine (items_ok b pb mb vs M part w h hok).mono ?_
  rintro v w' ⟨h1, lk⟩
  by_cases hb : M.hasB part = true
  · rw [if_pos hb] at h1 ⊢
    obtain ⟨A, c, rfl, _⟩ := h1
    exact ⟨⟨A, _, c, rfl, fun e => by rw [hb] at e; cases e⟩, lk⟩
  · rw [if_neg hb] at h1 ⊢
    exact ⟨⟨none, 0, 0, h1, fun _ => rfl⟩, lk⟩
theorem made_ok2 (b pb mb : Nat) (vs : List Value) (M : Mach) (id : Int) (w : World) (h : MachAt w b pb mb vs M) (hok : M.ok) :
    Ret Try.prog 34 #[.pointer (some ⟨b, 0, none⟩), .int .i64 id] w (fun v w' => (∃ A n c, v = .tuple #[.slice A n c, .int .i64 (if (akey M.rules id).isSome = true then 0 else 5)] ∧ ((akey M.rules id).isSome = false → n = 0)) ∧ Lk w' w NoB) := by
  refine (made_ok b pb mb vs M id w h hok).mono ?_
  rintro v w' ⟨h1, lk⟩
  cases hq : akey M.rules id with
  | none => rw [hq] at h1; exact ⟨⟨none, 0, 0, h1, fun _ => rfl⟩, lk⟩
  | some q =>
    rw [hq] at h1
    obtain ⟨A, n, c, rfl, _⟩ := h1
    exact ⟨⟨A, n, c, rfl, fun e => by cases e⟩, lk⟩
/-- waystation/waystationlaw14.StreamAsks -/
theorem StreamAsks_ok (parts : Int) (A : Option Addr) (n c : Nat) (xs : List ActD) (part id : Int) (w : World) [hrow : Row w A (xs.flatMap actC)] (hl : xs.length = n) (hA : A.isSome = true ∨ n = 0) (hn : n ≤ 9223372036854775807) : Ret Try.prog 8 #[.int .i64 parts, .slice A n c, .int .i64 part, .int .i64 id] w (fun v w' => v = .bool true ∧ Lk w' w NoB) := by
  refine ret_of_x (N := 114) (l := [.int .i64 parts, .slice A n c, .int .i64 part, .int .i64 id]) Try.func8 rfl rfl (Nat.le_of_ble_eq_true rfl) ?_
  refine x_seq ?_
  refine x_regionL ?_
  refine xl_v v_assign ?_
  refine xl_nil ?_
  refine x_seq ?_
  refine x_seq ?_
  refine x_regionL ?_
  refine xl_v v_move ?_
  refine xl_v v_move ?_
  refine xl_call (few_ok parts A n c w) ?_
  rintro _ w1 ⟨rfl, lkf⟩
  refine xl_v v_not ?_
  refine xl_nil ?_
  refine x_condE (fun c1 => ?_) (fun c1 => ?_)
  ·
    refine x_seq ?_
    refine x_regionL ?_
    refine xl_call (works_ok _) ?_
    rintro _ w2 ⟨rfl, lk⟩
    refine xl_v v_assign ?_
    refine xl_nil ?_
    refine x_ret ?_
    refine fin1 rfl ?_
    exact ⟨rfl, lkc⟩
  ·
    have hfew : 1 ≤ parts ∧ parts ≤ 4 ∧ n ≤ 40 := by simp at c1; omega
    refine x_skip ?_
    refine x_seq ?_
    refine x_regionL ?_
    refine xl_v v_move ?_
    refine xl_v v_move ?_
    refine xl_call (played_ok parts A n c xs w1 hl ⟨hfew.1, hfew.2.1⟩ (by omega)) ?_
    rintro _ w3 ⟨⟨b, pb, mb, vs, M, F, D, small, rfl, hB, hm, hf, hp⟩, lkp⟩
    have hhas : M.hasB part = true ↔ (0 ≤ part ∧ part < parts) := by simp [Mach.hasB, hp]; omega
    have hE : decide ((if M.hasB part = true then (0 : Int) else 4) = 4) = (decide (part < 0) || decide (parts ≤ part)) := by
      by_cases hb : M.hasB part = true
      · have := hhas.1 hb
        rw [if_pos hb, decide_eq_false (by omega : ¬ part < 0), decide_eq_false (by omega : ¬ parts ≤ part)]; rfl
      · have : part < 0 ∨ parts ≤ part := by
          by_cases h0 : 0 ≤ part
          · exact .inr (by have h9 : ¬ part < parts := fun h => hb (hhas.2 ⟨h0, h⟩); omega)
          · exact .inl (by omega)
        rw [if_neg hb]
        rcases this with h | h
        · rw [decide_eq_true h]; rfl
        · rw [decide_eq_true h, Bool.or_true]; rfl
    have hE2 : decide ((if (akey M.rules id).isSome = true then (0 : Int) else 5) = 5) = decide ((refOf M).at_ id < 0) := by
      have h1 := at_neg hB.ok id
      cases hq : (akey M.rules id).isSome with
      | true => rw [hq] at h1; have h2 := of_decide_eq_true h1; rw [decide_eq_false (by omega : ¬ (refOf M).at_ id < 0)]; rfl
      | false => rw [hq] at h1; have h2 := of_decide_eq_false h1; rw [decide_eq_true (by omega : (refOf M).at_ id < 0)]; rfl
    refine xl_v v_move ?_
    refine xl_v v_extract ?_
    refine xl_v v_extract ?_
    refine xl_v v_extract ?_
    refine xl_v v_extract ?_
    refine xl_e (e_alloc fun bx w4 nx lx kx => ?_)
    refine xl_v v_assign ?_
    refine xl_s (e_storeA fun w5 l5 k5 => ?_)
    have hBx : Both w5 b pb mb vs M F D := hB.keep (kpc : Keep (OneB bx) _ w5) (fun k hk e => by have e' : k = bx := e; have := hB.m.lt k hk; have := nx.eq; omega) (fun k hk e => by have e' : k = bx := e; have := hB.r.lt k hk; have := nx.eq; omega)
    refine xl_v v_assign ?_
    refine xl_v v_assign ?_
    refine xl_nil ?_
    refine x_seq ?_
    refine x_seq ?_
    refine x_regionL ?_
    refine xl_v v_move ?_
    refine xl_v v_not ?_
    refine xl_nil ?_
    refine x_condE (fun c2 => ?_) (fun c2 => ?_)
    ·
      refine x_seq ?_
      refine x_regionL ?_
      refine xl_v v_move ?_
      refine xl_v v_move ?_
      refine xl_gcall rfl EvO.eq (works_ok _) ?_
      rintro _ w6 ⟨rfl, lk⟩
      refine xl_v (by first | exact v_pickT | exact v_pickF | exact v_pick) ?_
      refine xl_v v_assign ?_
      refine xl_nil ?_
      refine x_ret ?_
      refine fin1 rfl ?_
      exact ⟨rfl, lkc⟩
    ·
      refine x_skip ?_
      refine x_seq ?_
      have hrl := len_rules hB.ok
      have hfm := refOf_len M
      have hil := hB.ok.ids_len
      refine x_regionL ?_
      refine xl_v v_move ?_
      refine xl_v v_move ?_
      refine xl_call (items_ok2 b pb mb vs M part w5 (hBx.m.keep (kpc : Keep NoB _ _) (fun _ _ h => h)) hB.ok) ?_
      rintro _ w7 ⟨⟨A6, n6, c6, rfl, hn6⟩, lk6⟩
      refine xl_v v_move ?_
      refine xl_v v_extract ?_
      refine xl_v v_extract ?_
      refine xl_v v_assign ?_
      refine xl_v v_assign ?_
      refine xl_nil ?_
      refine x_seq ?_
      refine x_regionL ?_
      refine xl_v v_move ?_
      refine xl_v v_move ?_
      refine xl_call (pos_ok b pb mb vs M id w7 (hBx.m.keep (kpc : Keep NoB _ _) (fun _ _ h => h))) ?_
      rintro _ w8 ⟨rfl, lk7⟩
      refine xl_v v_move ?_
      refine xl_v v_extract ?_
      refine xl_v v_extract ?_
      refine xl_v v_assign ?_
      refine xl_v v_assign ?_
      refine xl_nil ?_
      refine x_seq ?_
      refine x_regionL ?_
      refine xl_v v_move ?_
      refine xl_v v_move ?_
      refine xl_call (made_ok2 b pb mb vs M id w8 (hBx.m.keep (kpc : Keep NoB _ _) (fun _ _ h => h)) hB.ok) ?_
      rintro _ w9 ⟨⟨A8, n8, c8, rfl, hn8⟩, lk8⟩
      refine xl_v v_move ?_
      refine xl_v v_extract ?_
      refine xl_v v_extract ?_
      refine xl_v v_assign ?_
      refine xl_v v_assign ?_
      refine xl_nil ?_
      refine x_seq ?_
      refine x_regionL ?_
      refine xl_v (by first | exact v_loadA | exact v_loadF (by decide) (by omega)) ?_
      refine xl_v v_move ?_
      refine xl_call (refAt_ok F D (refOf M) id w9 (hBx.r.ext lkc) (by omega)) ?_
      rintro _ w10 ⟨rfl, lk9⟩
      refine xl_v v_assign ?_
      refine xl_nil ?_
      refine x_seq ?_
      refine x_seq ?_
      refine x_regionL ?_
      refine xl_v v_move ?_
      refine xl_call (num_ok _ _) ?_
      rintro _ _ ⟨rfl, rfl⟩
      refine xl_v v_eql ?_
      refine xl_v v_move ?_
      refine xl_v v_lss ?_
      refine xl_v v_move ?_
      refine xl_split 65 (fun g65 => ?_) (fun g65 => ?_)
      ·
        refine xl_gs rfl EvO.eq ?_
        refine xl_gs rfl EvO.eq ?_
        refine xl_gs rfl EvO.eq ?_
        refine xl_v (by first | exact v_pickT | exact v_pickF | exact v_pick) ?_
        refine xl_v (v_congr (u := .bool false) v_bneq (by rw [hE, g65]; simp)) ?_
        refine xl_v v_move ?_
        refine xl_gv rfl EvO.eq v_move ?_
        refine xl_gcall rfl EvO.eq (num_ok _ _) ?_
        rintro _ _ ⟨rfl, rfl⟩
        refine xl_gv rfl EvO.eq v_neq ?_
        refine xl_gv rfl EvO.eq v_move ?_
        refine xl_split 75 (fun g75 => ?_) (fun g75 => ?_)
        ·
          refine xl_gv rfl EvO.eq v_move ?_
          refine xl_gv rfl EvO.eq v_len ?_
          refine xl_gv rfl EvO.eq (v_neqF (by have h0 := hn6 (by cases hb : M.hasB part with | false => rfl | true => (rw [hb] at g75; simp at g75)); omega)) ?_
          refine xl_gv rfl EvO.eq (by first | exact v_pickT | exact v_pickF | exact v_pick) ?_
          refine xl_v (by first | exact v_pickT | exact v_pickF | exact v_pick) ?_
          refine xl_v v_move ?_
          refine xl_gv rfl EvO.eq v_move ?_
          refine xl_gcall rfl EvO.eq (num_ok _ _) ?_
          rintro _ _ ⟨rfl, rfl⟩
          refine xl_gv rfl EvO.eq v_eql ?_
          refine xl_gv rfl EvO.eq v_move ?_
          refine xl_gv rfl EvO.eq v_lss ?_
          refine xl_gv rfl EvO.eq (v_congr (u := .bool false) v_bneq (by rw [hE2]; simp)) ?_
          refine xl_v (by first | exact v_pickT | exact v_pickF | exact v_pick) ?_
          refine xl_v v_move ?_
          refine xl_gv rfl EvO.eq v_move ?_
          refine xl_gcall rfl EvO.eq (num_ok _ _) ?_
          rintro _ _ ⟨rfl, rfl⟩
          refine xl_gv rfl EvO.eq v_move ?_
          refine xl_gcall rfl EvO.eq (num_ok _ _) ?_
          rintro _ _ ⟨rfl, rfl⟩
          refine xl_gv rfl EvO.eq (v_neqF rfl) ?_
          refine xl_v (by first | exact v_pickT | exact v_pickF | exact v_pick) ?_
          refine xl_nil ?_
          refine x_condF ?_
          refine x_skip ?_
          refine x_seq ?_
          refine x_regionL ?_
          refine xl_v v_move ?_
          refine xl_v v_move ?_
          refine xl_gv rfl EvO.eq v_move ?_
          refine xl_gcall rfl EvO.eq (num_ok _ _) ?_
          rintro _ _ ⟨rfl, rfl⟩
          refine xl_gv rfl EvO.eq v_eql ?_
          refine xl_gv rfl EvO.eq v_move ?_
          refine xl_split 101 (fun g101 => ?_) (fun g101 => ?_)
          ·
            refine xl_gs rfl EvO.eq ?_
            refine xl_gs rfl EvO.eq ?_
            refine xl_gs rfl EvO.eq ?_
            refine xl_gu rfl EvO.eq ?_
            refine xl_gu rfl EvO.eq ?_
            refine xl_gu rfl EvO.eq ?_
            refine xl_gs rfl EvO.eq ?_
            refine xl_gv rfl EvO.eq (by first | exact v_pickT | exact v_pickF | exact v_pick) ?_
            refine xl_v (by first | exact v_pickT | exact v_pickF | exact v_pick) ?_
            refine xl_v v_move ?_
            refine xl_gcall rfl EvO.eq (works_ok _) ?_
            rintro _ w17 ⟨rfl, lk⟩
            refine xl_v (by first | exact v_pickT | exact v_pickF | exact v_pick) ?_
            refine xl_v v_assign ?_
            refine xl_nil ?_
            refine x_ret ?_
            refine fin1 rfl ?_
            exact ⟨rfl, lkc⟩
          ·
            refine xl_gv rfl EvO.eq v_move ?_
            refine xl_gv rfl EvO.eq (v_eqlT (by cases hq : akey M.rules id with | none => rfl | some q => (rw [hq] at g101; simp at g101))) ?_
            refine xl_gv rfl EvO.eq v_move ?_
            refine xl_gv rfl EvO.eq v_move ?_
            refine xl_gv rfl EvO.eq v_len ?_
            refine xl_gv rfl EvO.eq (v_eqlT (by have h0 := hn8 (by cases hq : akey M.rules id with | none => rfl | some q => (rw [hq] at g101; simp at g101)); omega)) ?_
            refine xl_gv rfl EvO.eq (by first | exact v_pickT | exact v_pickF | exact v_pick) ?_
            refine xl_gv rfl EvO.eq (by first | exact v_pickT | exact v_pickF | exact v_pick) ?_
            refine xl_v (by first | exact v_pickT | exact v_pickF | exact v_pick) ?_
            refine xl_v v_move ?_
            refine xl_gcall rfl EvO.eq (works_ok _) ?_
            rintro _ w18 ⟨rfl, lk⟩
            refine xl_v (by first | exact v_pickT | exact v_pickF | exact v_pick) ?_
            refine xl_v v_assign ?_
            refine xl_nil ?_
            refine x_ret ?_
            refine fin1 rfl ?_
            exact ⟨rfl, lkc⟩
        ·
          refine xl_gs rfl EvO.eq ?_
          refine xl_gs rfl EvO.eq ?_
          refine xl_gs rfl EvO.eq ?_
          refine xl_gv rfl EvO.eq (by first | exact v_pickT | exact v_pickF | exact v_pick) ?_
          refine xl_v (by first | exact v_pickT | exact v_pickF | exact v_pick) ?_
          refine xl_v v_move ?_
          refine xl_gv rfl EvO.eq v_move ?_
          refine xl_gcall rfl EvO.eq (num_ok _ _) ?_
          rintro _ _ ⟨rfl, rfl⟩
          refine xl_gv rfl EvO.eq v_eql ?_
          refine xl_gv rfl EvO.eq v_move ?_
          refine xl_gv rfl EvO.eq v_lss ?_
          refine xl_gv rfl EvO.eq (v_congr (u := .bool false) v_bneq (by rw [hE2]; simp)) ?_
          refine xl_v (by first | exact v_pickT | exact v_pickF | exact v_pick) ?_
          refine xl_v v_move ?_
          refine xl_gv rfl EvO.eq v_move ?_
          refine xl_gcall rfl EvO.eq (num_ok _ _) ?_
          rintro _ _ ⟨rfl, rfl⟩
          refine xl_gv rfl EvO.eq v_move ?_
          refine xl_gcall rfl EvO.eq (num_ok _ _) ?_
          rintro _ _ ⟨rfl, rfl⟩
          refine xl_gv rfl EvO.eq (v_neqF rfl) ?_
          refine xl_v (by first | exact v_pickT | exact v_pickF | exact v_pick) ?_
          refine xl_nil ?_
          refine x_condF ?_
          refine x_skip ?_
          refine x_seq ?_
          refine x_regionL ?_
          refine xl_v v_move ?_
          refine xl_v v_move ?_
          refine xl_gv rfl EvO.eq v_move ?_
          refine xl_gcall rfl EvO.eq (num_ok _ _) ?_
          rintro _ _ ⟨rfl, rfl⟩
          refine xl_gv rfl EvO.eq v_eql ?_
          refine xl_gv rfl EvO.eq v_move ?_
          refine xl_split 101 (fun g101 => ?_) (fun g101 => ?_)
          ·
            refine xl_gs rfl EvO.eq ?_
            refine xl_gs rfl EvO.eq ?_
            refine xl_gs rfl EvO.eq ?_
            refine xl_gu rfl EvO.eq ?_
            refine xl_gu rfl EvO.eq ?_
            refine xl_gu rfl EvO.eq ?_
            refine xl_gs rfl EvO.eq ?_
            refine xl_gv rfl EvO.eq (by first | exact v_pickT | exact v_pickF | exact v_pick) ?_
            refine xl_v (by first | exact v_pickT | exact v_pickF | exact v_pick) ?_
            refine xl_v v_move ?_
            refine xl_gcall rfl EvO.eq (works_ok _) ?_
            rintro _ w23 ⟨rfl, lk⟩
            refine xl_v (by first | exact v_pickT | exact v_pickF | exact v_pick) ?_
            refine xl_v v_assign ?_
            refine xl_nil ?_
            refine x_ret ?_
            refine fin1 rfl ?_
            exact ⟨rfl, lkc⟩
          ·
            refine xl_gv rfl EvO.eq v_move ?_
            refine xl_gv rfl EvO.eq (v_eqlT (by cases hq : akey M.rules id with | none => rfl | some q => (rw [hq] at g101; simp at g101))) ?_
            refine xl_gv rfl EvO.eq v_move ?_
            refine xl_gv rfl EvO.eq v_move ?_
            refine xl_gv rfl EvO.eq v_len ?_
            refine xl_gv rfl EvO.eq (v_eqlT (by have h0 := hn8 (by cases hq : akey M.rules id with | none => rfl | some q => (rw [hq] at g101; simp at g101)); omega)) ?_
            refine xl_gv rfl EvO.eq (by first | exact v_pickT | exact v_pickF | exact v_pick) ?_
            refine xl_gv rfl EvO.eq (by first | exact v_pickT | exact v_pickF | exact v_pick) ?_
            refine xl_v (by first | exact v_pickT | exact v_pickF | exact v_pick) ?_
            refine xl_v v_move ?_
            refine xl_gcall rfl EvO.eq (works_ok _) ?_
            rintro _ w24 ⟨rfl, lk⟩
            refine xl_v (by first | exact v_pickT | exact v_pickF | exact v_pick) ?_
            refine xl_v v_assign ?_
            refine xl_nil ?_
            refine x_ret ?_
            refine fin1 rfl ?_
            exact ⟨rfl, lkc⟩
      ·
        refine xl_gv rfl EvO.eq v_move ?_
        refine xl_gv rfl EvO.eq v_move ?_
        refine xl_gv rfl EvO.eq v_geq ?_
        refine xl_v (by first | exact v_pickT | exact v_pickF | exact v_pick) ?_
        refine xl_v (v_congr (u := .bool false) v_bneq (by rw [hE, g65]; simp)) ?_
        refine xl_v v_move ?_
        refine xl_gv rfl EvO.eq v_move ?_
        refine xl_gcall rfl EvO.eq (num_ok _ _) ?_
        rintro _ _ ⟨rfl, rfl⟩
        refine xl_gv rfl EvO.eq v_neq ?_
        refine xl_gv rfl EvO.eq v_move ?_
        refine xl_split 75 (fun g75 => ?_) (fun g75 => ?_)
        ·
          refine xl_gv rfl EvO.eq v_move ?_
          refine xl_gv rfl EvO.eq v_len ?_
          refine xl_gv rfl EvO.eq (v_neqF (by have h0 := hn6 (by cases hb : M.hasB part with | false => rfl | true => (rw [hb] at g75; simp at g75)); omega)) ?_
          refine xl_gv rfl EvO.eq (by first | exact v_pickT | exact v_pickF | exact v_pick) ?_
          refine xl_v (by first | exact v_pickT | exact v_pickF | exact v_pick) ?_
          refine xl_v v_move ?_
          refine xl_gv rfl EvO.eq v_move ?_
          refine xl_gcall rfl EvO.eq (num_ok _ _) ?_
          rintro _ _ ⟨rfl, rfl⟩
          refine xl_gv rfl EvO.eq v_eql ?_
          refine xl_gv rfl EvO.eq v_move ?_
          refine xl_gv rfl EvO.eq v_lss ?_
          refine xl_gv rfl EvO.eq (v_congr (u := .bool false) v_bneq (by rw [hE2]; simp)) ?_
          refine xl_v (by first | exact v_pickT | exact v_pickF | exact v_pick) ?_
          refine xl_v v_move ?_
          refine xl_gv rfl EvO.eq v_move ?_
          refine xl_gcall rfl EvO.eq (num_ok _ _) ?_
          rintro _ _ ⟨rfl, rfl⟩
          refine xl_gv rfl EvO.eq v_move ?_
          refine xl_gcall rfl EvO.eq (num_ok _ _) ?_
          rintro _ _ ⟨rfl, rfl⟩
          refine xl_gv rfl EvO.eq (v_neqF rfl) ?_
          refine xl_v (by first | exact v_pickT | exact v_pickF | exact v_pick) ?_
          refine xl_nil ?_
          refine x_condF ?_
          refine x_skip ?_
          refine x_seq ?_
          refine x_regionL ?_
          refine xl_v v_move ?_
          refine xl_v v_move ?_
          refine xl_gv rfl EvO.eq v_move ?_
          refine xl_gcall rfl EvO.eq (num_ok _ _) ?_
          rintro _ _ ⟨rfl, rfl⟩
          refine xl_gv rfl EvO.eq v_eql ?_
          refine xl_gv rfl EvO.eq v_move ?_
          refine xl_split 101 (fun g101 => ?_) (fun g101 => ?_)
          ·
            refine xl_gs rfl EvO.eq ?_
            refine xl_gs rfl EvO.eq ?_
            refine xl_gs rfl EvO.eq ?_
            refine xl_gu rfl EvO.eq ?_
            refine xl_gu rfl EvO.eq ?_
            refine xl_gu rfl EvO.eq ?_
            refine xl_gs rfl EvO.eq ?_
            refine xl_gv rfl EvO.eq (by first | exact v_pickT | exact v_pickF | exact v_pick) ?_
            refine xl_v (by first | exact v_pickT | exact v_pickF | exact v_pick) ?_
            refine xl_v v_move ?_
            refine xl_gcall rfl EvO.eq (works_ok _) ?_
            rintro _ w30 ⟨rfl, lk⟩
            refine xl_v (by first | exact v_pickT | exact v_pickF | exact v_pick) ?_
            refine xl_v v_assign ?_
            refine xl_nil ?_
            refine x_ret ?_
            refine fin1 rfl ?_
            exact ⟨rfl, lkc⟩
          ·
            refine xl_gv rfl EvO.eq v_move ?_
            refine xl_gv rfl EvO.eq (v_eqlT (by cases hq : akey M.rules id with | none => rfl | some q => (rw [hq] at g101; simp at g101))) ?_
            refine xl_gv rfl EvO.eq v_move ?_
            refine xl_gv rfl EvO.eq v_move ?_
            refine xl_gv rfl EvO.eq v_len ?_
            refine xl_gv rfl EvO.eq (v_eqlT (by have h0 := hn8 (by cases hq : akey M.rules id with | none => rfl | some q => (rw [hq] at g101; simp at g101)); omega)) ?_
            refine xl_gv rfl EvO.eq (by first | exact v_pickT | exact v_pickF | exact v_pick) ?_
            refine xl_gv rfl EvO.eq (by first | exact v_pickT | exact v_pickF | exact v_pick) ?_
            refine xl_v (by first | exact v_pickT | exact v_pickF | exact v_pick) ?_
            refine xl_v v_move ?_
            refine xl_gcall rfl EvO.eq (works_ok _) ?_
            rintro _ w31 ⟨rfl, lk⟩
            refine xl_v (by first | exact v_pickT | exact v_pickF | exact v_pick) ?_
            refine xl_v v_assign ?_
            refine xl_nil ?_
            refine x_ret ?_
            refine fin1 rfl ?_
            exact ⟨rfl, lkc⟩
        ·
          refine xl_gs rfl EvO.eq ?_
          refine xl_gs rfl EvO.eq ?_
          refine xl_gs rfl EvO.eq ?_
          refine xl_gv rfl EvO.eq (by first | exact v_pickT | exact v_pickF | exact v_pick) ?_
          refine xl_v (by first | exact v_pickT | exact v_pickF | exact v_pick) ?_
          refine xl_v v_move ?_
          refine xl_gv rfl EvO.eq v_move ?_
          refine xl_gcall rfl EvO.eq (num_ok _ _) ?_
          rintro _ _ ⟨rfl, rfl⟩
          refine xl_gv rfl EvO.eq v_eql ?_
          refine xl_gv rfl EvO.eq v_move ?_
          refine xl_gv rfl EvO.eq v_lss ?_
          refine xl_gv rfl EvO.eq (v_congr (u := .bool false) v_bneq (by rw [hE2]; simp)) ?_
          refine xl_v (by first | exact v_pickT | exact v_pickF | exact v_pick) ?_
          refine xl_v v_move ?_
          refine xl_gv rfl EvO.eq v_move ?_
          refine xl_gcall rfl EvO.eq (num_ok _ _) ?_
          rintro _ _ ⟨rfl, rfl⟩
          refine xl_gv rfl EvO.eq v_move ?_
          refine xl_gcall rfl EvO.eq (num_ok _ _) ?_
          rintro _ _ ⟨rfl, rfl⟩
          refine xl_gv rfl EvO.eq (v_neqF rfl) ?_
          refine xl_v (by first | exact v_pickT | exact v_pickF | exact v_pick) ?_
          refine xl_nil ?_
          refine x_condF ?_
          refine x_skip ?_
          refine x_seq ?_
          refine x_regionL ?_
          refine xl_v v_move ?_
          refine xl_v v_move ?_
          refine xl_gv rfl EvO.eq v_move ?_
          refine xl_gcall rfl EvO.eq (num_ok _ _) ?_
          rintro _ _ ⟨rfl, rfl⟩
          refine xl_gv rfl EvO.eq v_eql ?_
          refine xl_gv rfl EvO.eq v_move ?_
          refine xl_split 101 (fun g101 => ?_) (fun g101 => ?_)
          ·
            refine xl_gs rfl EvO.eq ?_
            refine xl_gs rfl EvO.eq ?_
            refine xl_gs rfl EvO.eq ?_
            refine xl_gu rfl EvO.eq ?_
            refine xl_gu rfl EvO.eq ?_
            refine xl_gu rfl EvO.eq ?_
            refine xl_gs rfl EvO.eq ?_
            refine xl_gv rfl EvO.eq (by first | exact v_pickT | exact v_pickF | exact v_pick) ?_
            refine xl_v (by first | exact v_pickT | exact v_pickF | exact v_pick) ?_
            refine xl_v v_move ?_
            refine xl_gcall rfl EvO.eq (works_ok _) ?_
            rintro _ w36 ⟨rfl, lk⟩
            refine xl_v (by first | exact v_pickT | exact v_pickF | exact v_pick) ?_
            refine xl_v v_assign ?_
            refine xl_nil ?_
            refine x_ret ?_
            refine fin1 rfl ?_
            exact ⟨rfl, lkc⟩
          ·
            refine xl_gv rfl EvO.eq v_move ?_
            refine xl_gv rfl EvO.eq (v_eqlT (by cases hq : akey M.rules id with | none => rfl | some q => (rw [hq] at g101; simp at g101))) ?_
            refine xl_gv rfl EvO.eq v_move ?_
            refine xl_gv rfl EvO.eq v_move ?_
            refine xl_gv rfl EvO.eq v_len ?_
            refine xl_gv rfl EvO.eq (v_eqlT (by have h0 := hn8 (by cases hq : akey M.rules id with | none => rfl | some q => (rw [hq] at g101; simp at g101)); omega)) ?_
            refine xl_gv rfl EvO.eq (by first | exact v_pickT | exact v_pickF | exact v_pick) ?_
            refine xl_gv rfl EvO.eq (by first | exact v_pickT | exact v_pickF | exact v_pick) ?_
            refine xl_v (by first | exact v_pickT | exact v_pickF | exact v_pick) ?_
            refine xl_v v_move ?_
            refine xl_gcall rfl EvO.eq (works_ok _) ?_
            rintro _ w37 ⟨rfl, lk⟩
            refine xl_v (by first | exact v_pickT | exact v_pickF | exact v_pick) ?_
            refine xl_v v_assign ?_
            refine xl_nil ?_
            refine x_ret ?_
            refine fin1 rfl ?_
            exact ⟨rfl, lkc⟩
abbrev numC (p : Int × Int) : List Value := [.int .i64 p.1, .int .i64 p.2]
instance encN_num : EncN numC 2 := ⟨fun _ => rfl⟩
/-- waystation/waystationlaw14.StreamChains -/
theorem StreamChains_ok (ps : List (Int × Int)) (hps : ps.length = 3) (A : Option Addr) (n c : Nat) (xs : List Int) (B : Option Addr) (n' c' : Nat) (sizes : List Int) (w : World) [hrow : Row w A (ints xs)] [hrowB : Row w B (ints sizes)] (hl : xs.length = n) (hl' : sizes.length = n') (hA : A.isSome = true ∨ n = 0) (hB : B.isSome = true ∨ n' = 0) (hn : n ≤ 9223372036854775807) (hn' : n' ≤ 9223372036854775807) : Ret Try.prog 9 #[.agg (ps.flatMap numC).toArray, .slice A n c, .slice B n' c'] w (fun v w' => v = .bool true ∧ Lk w' w NoB) := by
  refine ret_of_x (N := 129) (l := [.agg (ps.flatMap numC).toArray, .slice A n c, .slice B n' c']) Try.func9 rfl rfl (Nat.le_of_ble_eq_true rfl) ?_
  refine x_seq ?_
  refine x_regionL ?_
  refine xl_e (e_box fun b1 w1 n1 l1 k1 => ?_)
  refine xl_v v_assign ?_
  refine xl_nil ?_
  refine x_seq ?_
  refine x_seq ?_
  refine x_regionL ?_
  refine xl_v v_move ?_
  refine xl_v v_len ?_
  refine xl_v v_gtr ?_
  refine xl_v v_move ?_
  refine xl_split 25 (fun g25 => ?_) (fun g25 => ?_)
  ·
    refine xl_gs rfl EvO.eq ?_
    refine xl_gs rfl EvO.eq ?_
    refine xl_gs rfl EvO.eq ?_
    refine xl_v (by first | exact v_pickT | exact v_pickF | exact v_pick) ?_
    refine xl_nil ?_
    refine x_condT ?_
    refine x_seq ?_
    refine x_regionL ?_
    refine xl_call (works_ok _) ?_
    rintro _ w2 ⟨rfl, lk⟩
    refine xl_v v_assign ?_
    refine xl_nil ?_
    refine x_ret ?_
    refine fin1 rfl ?_
    exact ⟨rfl, lkc⟩
  ·
    refine xl_gv rfl EvO.eq v_move ?_
    refine xl_gv rfl EvO.eq v_len ?_
    refine xl_gv rfl EvO.eq v_gtr ?_
    refine xl_v (by first | exact v_pickT | exact v_pickF | exact v_pick) ?_
    refine xl_nil ?_
    refine x_condE (fun c1 => ?_) (fun c1 => ?_)
    ·
      refine x_seq ?_
      refine x_regionL ?_
      refine xl_call (works_ok _) ?_
      rintro _ w3 ⟨rfl, lk⟩
      refine xl_v v_assign ?_
      refine xl_nil ?_
      refine x_ret ?_
      refine fin1 rfl ?_
      exact ⟨rfl, lkc⟩
    ·
      have hn40 : n ≤ 40 ∧ n' ≤ 20 := by simp at g25 c1; omega
      refine x_skip ?_
      refine x_seq ?_
      refine x_regionL ?_
      refine xl_call (new_ok 4 w1) ?_
      rintro _ w4 ⟨hnew, lk1⟩
      rw [if_pos (by decide)] at hnew
      obtain ⟨b, pb, mb, u1, rfl, hM1, hs1⟩ := hnew
      refine xl_v v_move ?_
      refine xl_v v_extract ?_
      refine xl_v v_extract ?_
      refine xl_v v_assign ?_
      refine xl_v v_assign ?_
      refine xl_nil ?_
      refine x_seq ?_
      refine x_regionL ?_
      refine xl_call (refNew_ok 4 w4) ?_
      rintro _ w5 ⟨⟨F1, D1, hnew, hf1⟩, lk2⟩
      rw [if_pos (by decide)] at hnew
      obtain ⟨rfl, hR1⟩ := hnew
      refine xl_v v_move ?_
      refine xl_v v_extract ?_
      refine xl_v v_extract ?_
      refine xl_e (e_alloc fun br w6 nr lr kr => ?_)
      refine xl_s (e_storeA fun w7 l7 k7 => ?_)
      refine xl_v v_assign ?_
      refine xl_nil ?_
      refine x_seq ?_
      refine x_seq ?_
      refine x_regionL ?_
      refine xl_v v_assign ?_
      refine xl_nil ?_
      refine x_block ?_
      have hw1 : w.heap.size ≤ w1.heap.size := l1.keep.size
      have hSin : Since w1 w7 br b pb mb u1 (Mach.new (4 : Int).toNat) F1 D1 := since_new (parts := 4) (by decide) hM1 lk2 hR1 nr.eq (kpc : Keep (OneB br) _ w7) hs1 hf1 Ge.le
      have hbr : w1.heap.size ≤ br := by rw [nr.eq]; exact Ge.le
      have hb1 : b1 < w1.heap.size := Has.lt
      have hb1w : w.heap.size ≤ b1 := Nat.le_of_eq n1.eq.symm
      have hbrw : br < (w7).heap.size := Has.lt
      obtain ⟨wL, hwL⟩ : ∃ wL, wL = w7 := ⟨_, rfl⟩
      haveI hgL : Ge w7 w1 := inferInstance
      refine x_loop (fun m τ ds w' => ds = [] ∧ ∃ (k : Nat) (vs : List Value) (M : Mach) (F : Nat → Prop) (D : RD), m = 3 - k ∧ k ≤ 3 ∧ Since w1 w' br b pb mb vs M F D ∧ Ev τ 1 (.slice A n c) ∧ Ev τ 2 (.slice B n' c') ∧ Ev τ 3 (.pointer (some ⟨b1, 0, none⟩)) ∧ Ev τ 7 (.pointer (some ⟨b, 0, none⟩)) ∧ Ev τ 8 (.int .i64 0) ∧ Ev τ 9 (.pointer (some ⟨br, 0, none⟩)) ∧ Ev τ 11 (.int .i64 (k : Int)) ∧ Blk w' br (.cells (refC D (refOf M)).toArray 51 (0, 0)) ∧ Lk w' w1 NoB) (3) ?start ?round
      case start =>
        exact ⟨rfl, 0, u1, _, F1, D1, rfl, Nat.zero_le _, hSin.ext kpc, inferInstance, inferInstance, inferInstance, inferInstance, inferInstance, inferInstance, evc, inferInstance, lkc⟩
      case round =>
        intro m τ8 ds8 w8 hI
        obtain ⟨rfl, k, vs, M, F, D, rfl, hk, hS, e1, e2, e3, e7, e8, e9, e11, kb, lk⟩ := hI
        haveI := subF_since' (S := NoB) (w := w1) hS.sm (Nat.le_refl _)
        haveI := notS_since hS.sm b1 hb1
        haveI : NotS (MachF b pb mb vs) br := ⟨hS.nm⟩
        haveI : FLt (MachF b pb mb vs) w8 := ⟨hS.B.m.lt⟩
        refine x_seq ?_
        refine x_seq ?_
        refine x_regionL ?_
        refine xl_v v_move ?_
        refine xl_v v_lss ?_
        refine xl_nil ?_
        first | refine x_condP (fun c2 => ?_) (fun c2 => ?_) | refine x_condN (fun c2 => ?_) (fun c2 => ?_) | refine x_condE (fun c2 => ?_) (fun c2 => ?_)
        ·
          have hk1 : k < ps.length := by omega
          refine x_skip ?_
          refine x_seq ?_
          refine x_block ?_
          refine x_seq ?_
          refine x_drawL (fun i => MachF b pb mb vs i ∨ NewS w8 i) (.take 0 (.take 1 (.take 2 (.take 3 (.take 4 (.take 5 (.take 6 (.take 7 (.take 8 (.take 9 (.take 10 (.take 11 (.take 12 (.take 13 (.take 14 (.take 15 (.fork 16 (.take 17 (.take 18 (.take 19 (.eff 20 (.eff 21 (.take 22 .done)))))) 20 (.eff 16 (.take 17 (.take 18 (.take 19 (.eff 21 (.take 22 .done))))))))))))))))))))))) mixed (by kernel_rfl) (fun _ _ _ _ _ h => h) (fun w9 l9 => ?_)
          refine xt_v rfl v_move ?_
          refine xt_v rfl (by first | exact v_loadA | exact v_loadF (by decide) (by omega)) ?_
          refine xt_v rfl v_move ?_
          refine xt_v rfl v_move ?_
          refine xt_v rfl v_move ?_
          refine xt_v rfl (v_add (by omega)) ?_
          refine xt_v rfl v_move ?_
          refine xt_v rfl (v_indexArr k rfl (by omega)) ?_
          refine xt_v rfl (v_indexArr2 0 rfl rfl (by decide) (j' := k * 2) rfl) ?_
          refine xt_v rfl (by first | exact v_load | exact v_loadO (by omega) | exact v_loadFf (by omega) | exact v_loadF0 (by omega)) ?_
          refine xt_v rfl v_move ?_
          refine xt_v rfl (v_indexArr k rfl (by omega)) ?_
          refine xt_v rfl (v_indexArr2 1 rfl rfl (by decide) (j' := k * 2 + 1) rfl) ?_
          refine xt_v rfl (by first | exact v_load | exact v_loadO (by omega) | exact v_loadFf (by omega) | exact v_loadF0 (by omega)) ?_
          refine xt_v rfl v_build ?_
          refine xt_v rfl v_build ?_
          refine xt_fork ?_ ?_
          ·
            refine xt_call rfl (act_ok b pb mb vs M F D ⟨0, 0, 0, 0, 0, ⟨(k : Int), (k : Int), (k : Int) + 1, ps[k].1, ps[k].2⟩⟩ w9 (hS.B.ext kpc)) ?_
            rintro _ w10 ⟨⟨vs2, F2, D2, rfl, hB2, hsm, hsf⟩, lka⟩
            refine ⟨kpc, ?_⟩
            have hS2 := hS.step hB2 hsm hsf (Nat.le_trans lk.keep.size Ge.le) (Has.lt : br < w9.heap.size)
            refine xt_v rfl v_move ?_
            refine xt_v rfl v_extract ?_
            refine xt_v rfl v_extract ?_
            refine xt_e rfl (e_alloc fun bx w11 nx lx kx => ?_)
            refine xt_s rfl (e_storeA fun w12 l12 k12 => ?_)
            have hxm : ¬ MachF b pb mb vs2 bx ∧ ¬ F2 bx := by
              have h1 := hS2.B.m.lt
              have h2 := hS2.B.r.lt
              first
                | exact ⟨fun e => by have := h1 _ e; have := nx.eq; omega, fun e => by have := h2 _ e; have := nx.eq; omega⟩
                | exact ⟨not_new hsm hS.B.m.lt h1 (.inl ⟨by rw [nx.eq]; exact Ge.le, Has.lt⟩), not_new hsf hS.B.r.lt h2 (.inl ⟨by rw [nx.eq]; exact Ge.le, Has.lt⟩)⟩
            have hS3 := hS2.other (kpc : Keep (OneB bx) _ w12) hxm.1 hxm.2
            refine xt_v rfl v_assign ?_
            refine xt_nil ?_
            refine x_seq ?_
            refine x_regionL ?_
            refine xl_v (by first | exact v_loadA | exact v_loadF (by decide) (by omega)) ?_
            refine xl_s (e_storeA fun w13 l9 k9 => ?_)
            have hS4 := (hS3.ext kpc).cell l9.keep
            refine xl_nil ?_
            refine x_seq ?_
            refine x_regionL ?_
            refine xl_v v_move ?_
            refine xl_v v_not ?_
            refine xl_nil ?_
            refine x_condF ?_
            refine x_skip ?_
            refine x_regionL ?_
            refine xl_v v_move ?_
            refine xl_v (v_add (by omega)) ?_
            refine xl_v v_assign ?_
            refine xl_nil ?_
            exact ⟨_, by omega, rfl, k + 1, vs2, actM M _, F2, D2, rfl, by omega, hS4.ext kpc, inferInstance, inferInstance, inferInstance, inferInstance, inferInstance, inferInstance, evc, inferInstance, lkc⟩
          ·
            refine xt_e rfl (e_alloc fun bx w14 nx lx kx => ?_)
            refine xt_call rfl (act_ok b pb mb vs M F D ⟨0, 0, 0, 0, 0, ⟨(k : Int), (k : Int), (k : Int) + 1, ps[k].1, ps[k].2⟩⟩ w14 (hS.B.ext kpc)) ?_
            rintro _ w15 ⟨⟨vs2, F2, D2, rfl, hB2, hsm, hsf⟩, lka⟩
            refine ⟨kpc, ?_⟩
            have hS2 := hS.step hB2 hsm hsf (Nat.le_trans lk.keep.size Ge.le) (Has.lt : br < w14.heap.size)
            refine xt_v rfl v_move ?_
            refine xt_v rfl v_extract ?_
            refine xt_v rfl v_extract ?_
            refine xt_s rfl (e_storeA fun w16 l16 k16 => ?_)
            have hxm : ¬ MachF b pb mb vs2 bx ∧ ¬ F2 bx := by
              have h1 := hS2.B.m.lt
              have h2 := hS2.B.r.lt
              first
                | exact ⟨fun e => by have := h1 _ e; have := nx.eq; omega, fun e => by have := h2 _ e; have := nx.eq; omega⟩
                | exact ⟨not_new hsm hS.B.m.lt h1 (.inl ⟨by rw [nx.eq]; exact Ge.le, Has.lt⟩), not_new hsf hS.B.r.lt h2 (.inl ⟨by rw [nx.eq]; exact Ge.le, Has.lt⟩)⟩
            have hS3 := hS2.other (kpc : Keep (OneB bx) _ w16) hxm.1 hxm.2
            refine xt_v rfl v_assign ?_
            refine xt_nil ?_
            refine x_seq ?_
            refine x_regionL ?_
            refine xl_v (by first | exact v_loadA | exact v_loadF (by decide) (by omega)) ?_
            refine xl_s (e_storeA fun w17 l9 k9 => ?_)
            have hS4 := (hS3.ext kpc).cell l9.keep
            refine xl_nil ?_
            refine x_seq ?_
            refine x_regionL ?_
            refine xl_v v_move ?_
            refine xl_v v_not ?_
            refine xl_nil ?_
            refine x_condF ?_
            refine x_skip ?_
            refine x_regionL ?_
            refine xl_v v_move ?_
            refine xl_v (v_add (by omega)) ?_
            refine xl_v v_assign ?_
            refine xl_nil ?_
            exact ⟨_, by omega, rfl, k + 1, vs2, actM M _, F2, D2, rfl, by omega, hS4.ext kpc, inferInstance, inferInstance, inferInstance, inferInstance, inferInstance, inferInstance, evc, inferInstance, lkc⟩
        ·
          refine x_exit ?_
          refine x_seq ?_
          refine x_seq ?_
          refine x_regionL ?_
          refine xl_v v_assign ?_
          refine xl_nil ?_
          refine x_block ?_
          refine x_loop (fun m τ ds w' => ds = [] ∧ ∃ (k : Nat) (vs : List Value) (M : Mach) (F : Nat → Prop) (D : RD), m = n - k ∧ k ≤ n ∧ Since w1 w' br b pb mb vs M F D ∧ Ev τ 1 (.slice A n c) ∧ Ev τ 2 (.slice B n' c') ∧ Ev τ 7 (.pointer (some ⟨b, 0, none⟩)) ∧ Ev τ 8 (.int .i64 0) ∧ Ev τ 9 (.pointer (some ⟨br, 0, none⟩)) ∧ Ev τ 14 (.int .i64 (k : Int)) ∧ Blk w' br (.cells (refC D (refOf M)).toArray 51 (0, 0)) ∧ Lk w' w1 NoB) (n) ?start ?round
          case start =>
            exact ⟨rfl, 0, vs, M, F, D, rfl, Nat.zero_le _, hS.ext kpc, inferInstance, inferInstance, inferInstance, inferInstance, inferInstance, evc, inferInstance, lkc⟩
          case round =>
            intro m τ18 ds18 w18 hI
            clear hS
            obtain ⟨rfl, k, vs, M, F, D, rfl, hk, hS, e1, e2, e7, e8, e9, e11, kb, lk⟩ := hI
            haveI := subF_since' (S := NoB) (w := w1) hS.sm (Nat.le_refl _)
            haveI : NotS (MachF b pb mb vs) br := ⟨hS.nm⟩
            haveI : FLt (MachF b pb mb vs) w18 := ⟨hS.B.m.lt⟩
            refine x_seq ?_
            refine x_seq ?_
            refine x_regionL ?_
            refine xl_v v_move ?_
            refine xl_v v_move ?_
            refine xl_v v_len ?_
            refine xl_v v_lss ?_
            refine xl_nil ?_
            first | refine x_condP (fun c4 => ?_) (fun c4 => ?_) | refine x_condN (fun c4 => ?_) (fun c4 => ?_) | refine x_condE (fun c4 => ?_) (fun c4 => ?_)
            ·
              have hk1 : k < xs.length := by omega
              haveI hoA : OldA w A := old_of_row hrow.row (by rw [ints_len]; omega)
              haveI hoA1 : OldA w1 A := inferInstance
              haveI := rowOut_sm hS.sm hoA1
              refine x_skip ?_
              refine x_seq ?_
              refine x_block ?_
              refine x_seq ?_
              refine x_drawL (fun i => MachF b pb mb vs i ∨ NewS w18 i) (.take 0 (.take 1 (.take 2 (.take 3 (.take 4 (.take 5 (.take 6 (.fork 7 (.take 8 (.take 9 (.take 10 (.eff 11 (.eff 12 (.take 13 .done)))))) 11 (.eff 7 (.take 8 (.take 9 (.take 10 (.eff 12 (.take 13 .done)))))))))))))) mixed (by kernel_rfl) (fun _ _ _ _ _ h => h) (fun w19 l19 => ?_)
              refine xt_v rfl v_move ?_
              refine xt_v rfl (by first | exact v_loadA | exact v_loadF (by decide) (by omega)) ?_
              refine xt_v rfl v_move ?_
              refine xt_v rfl v_move ?_
              refine xt_v rfl (by first | exact v_indexAddr _ rfl (by omega) (by assumption) | exact v_indexO _ rfl (by omega) (by omega) | exact v_indexF _ (by decide) rfl (by omega) (by omega)) ?_
              refine xt_v rfl (by first | exact v_load | exact v_loadO (by omega) | exact v_loadFf (by omega) | exact v_loadF0 (by omega)) ?_
              refine xt_v rfl v_build ?_
              refine xt_fork ?_ ?_
              ·
                refine xt_call rfl (act_ok b pb mb vs M F D ⟨1, 0, 0, 0, xs[k], ⟨0, 0, 0, 0, 0⟩⟩ w19 (hS.B.ext kpc)) ?_
                rintro _ w20 ⟨⟨vs2, F2, D2, rfl, hB2, hsm, hsf⟩, lka⟩
                refine ⟨kpc, ?_⟩
                have hS2 := hS.step hB2 hsm hsf (Nat.le_trans lk.keep.size Ge.le) (Has.lt : br < w19.heap.size)
                refine xt_v rfl v_move ?_
                refine xt_v rfl v_extract ?_
                refine xt_v rfl v_extract ?_
                refine xt_e rfl (e_alloc fun bx w21 nx lx kx => ?_)
                refine xt_s rfl (e_storeA fun w22 l22 k22 => ?_)
                have hxm : ¬ MachF b pb mb vs2 bx ∧ ¬ F2 bx := by
                  have h1 := hS2.B.m.lt
                  have h2 := hS2.B.r.lt
                  first
                    | exact ⟨fun e => by have := h1 _ e; have := nx.eq; omega, fun e => by have := h2 _ e; have := nx.eq; omega⟩
                    | exact ⟨not_new hsm hS.B.m.lt h1 (.inl ⟨by rw [nx.eq]; exact Ge.le, Has.lt⟩), not_new hsf hS.B.r.lt h2 (.inl ⟨by rw [nx.eq]; exact Ge.le, Has.lt⟩)⟩
                have hS3 := hS2.other (kpc : Keep (OneB bx) _ w22) hxm.1 hxm.2
                refine xt_v rfl v_assign ?_
                refine xt_nil ?_
                refine x_seq ?_
                refine x_regionL ?_
                refine xl_v (by first | exact v_loadA | exact v_loadF (by decide) (by omega)) ?_
                refine xl_s (e_storeA fun w23 l9 k9 => ?_)
                have hS4 := (hS3.ext kpc).cell l9.keep
                refine xl_nil ?_
                refine x_seq ?_
                refine x_regionL ?_
                refine xl_v v_move ?_
                refine xl_v v_not ?_
                refine xl_nil ?_
                refine x_condF ?_
                refine x_skip ?_
                refine x_regionL ?_
                refine xl_v v_move ?_
                refine xl_v (v_add (by omega)) ?_
                refine xl_v v_assign ?_
                refine xl_nil ?_
                exact ⟨_, by omega, rfl, k + 1, vs2, actM M _, F2, D2, rfl, by omega, hS4.ext kpc, inferInstance, inferInstance, inferInstance, inferInstance, inferInstance, evc, inferInstance, lkc⟩
              ·
                refine xt_e rfl (e_alloc fun bx w24 nx lx kx => ?_)
                refine xt_call rfl (act_ok b pb mb vs M F D ⟨1, 0, 0, 0, xs[k], ⟨0, 0, 0, 0, 0⟩⟩ w24 (hS.B.ext kpc)) ?_
                rintro _ w25 ⟨⟨vs2, F2, D2, rfl, hB2, hsm, hsf⟩, lka⟩
                refine ⟨kpc, ?_⟩
                have hS2 := hS.step hB2 hsm hsf (Nat.le_trans lk.keep.size Ge.le) (Has.lt : br < w24.heap.size)
                refine xt_v rfl v_move ?_
                refine xt_v rfl v_extract ?_
                refine xt_v rfl v_extract ?_
                refine xt_s rfl (e_storeA fun w26 l26 k26 => ?_)
                have hxm : ¬ MachF b pb mb vs2 bx ∧ ¬ F2 bx := by
                  have h1 := hS2.B.m.lt
                  have h2 := hS2.B.r.lt
                  first
                    | exact ⟨fun e => by have := h1 _ e; have := nx.eq; omega, fun e => by have := h2 _ e; have := nx.eq; omega⟩
                    | exact ⟨not_new hsm hS.B.m.lt h1 (.inl ⟨by rw [nx.eq]; exact Ge.le, Has.lt⟩), not_new hsf hS.B.r.lt h2 (.inl ⟨by rw [nx.eq]; exact Ge.le, Has.lt⟩)⟩
                have hS3 := hS2.other (kpc : Keep (OneB bx) _ w26) hxm.1 hxm.2
                refine xt_v rfl v_assign ?_
                refine xt_nil ?_
                refine x_seq ?_
                refine x_regionL ?_
                refine xl_v (by first | exact v_loadA | exact v_loadF (by decide) (by omega)) ?_
                refine xl_s (e_storeA fun w27 l9 k9 => ?_)
                have hS4 := (hS3.ext kpc).cell l9.keep
                refine xl_nil ?_
                refine x_seq ?_
                refine x_regionL ?_
                refine xl_v v_move ?_
                refine xl_v v_not ?_
                refine xl_nil ?_
                refine x_condF ?_
                refine x_skip ?_
                refine x_regionL ?_
                refine xl_v v_move ?_
                refine xl_v (v_add (by omega)) ?_
                refine xl_v v_assign ?_
                refine xl_nil ?_
                exact ⟨_, by omega, rfl, k + 1, vs2, actM M _, F2, D2, rfl, by omega, hS4.ext kpc, inferInstance, inferInstance, inferInstance, inferInstance, inferInstance, evc, inferInstance, lkc⟩
            ·
              refine x_exit ?_
              refine x_seq ?_
              refine x_seq ?_
              refine x_regionL ?_
              refine xl_v v_assign ?_
              refine xl_nil ?_
              refine x_block ?_
              refine x_loop (fun m τ ds w' => ds = [] ∧ ∃ (k : Nat) (vs : List Value) (M : Mach) (F : Nat → Prop) (D : RD), m = n' - k ∧ k ≤ n' ∧ Since w1 w' br b pb mb vs M F D ∧ Ev τ 2 (.slice B n' c') ∧ Ev τ 7 (.pointer (some ⟨b, 0, none⟩)) ∧ Ev τ 8 (.int .i64 0) ∧ Ev τ 9 (.pointer (some ⟨br, 0, none⟩)) ∧ Ev τ 17 (.int .i64 (k : Int)) ∧ Blk w' br (.cells (refC D (refOf M)).toArray 51 (0, 0)) ∧ Lk w' w1 NoB) (n') ?start ?round
              case start =>
                exact ⟨rfl, 0, vs, M, F, D, rfl, Nat.zero_le _, hS.ext kpc, inferInstance, inferInstance, inferInstance, inferInstance, evc, inferInstance, lkc⟩
              case round =>
                intro m τ28 ds28 w28 hI
                clear hS
                obtain ⟨rfl, k, vs, M, F, D, rfl, hk, hS, e2, e7, e8, e9, e11, kb, lk⟩ := hI
                haveI := subF_since' (S := NoB) (w := w1) hS.sm (Nat.le_refl _)
                haveI := subF_since' (S := NoB) (w := w) hS.sm hw1
                haveI : NotS (MachF b pb mb vs) br := ⟨hS.nm⟩
                haveI : FLt (MachF b pb mb vs) w28 := ⟨hS.B.m.lt⟩
                refine x_seq ?_
                refine x_seq ?_
                refine x_regionL ?_
                refine xl_v v_move ?_
                refine xl_v v_move ?_
                refine xl_v v_len ?_
                refine xl_v v_lss ?_
                refine xl_nil ?_
                first | refine x_condP (fun c6 => ?_) (fun c6 => ?_) | refine x_condN (fun c6 => ?_) (fun c6 => ?_) | refine x_condE (fun c6 => ?_) (fun c6 => ?_)
                ·
                  have hk1 : k < sizes.length := by omega
                  haveI hoB : OldA w B := old_of_row hrowB.row (by rw [ints_len]; omega)
                  haveI hoB1 : OldA w1 B := inferInstance
                  haveI := rowOut_sm hS.sm hoB1
                  refine x_skip ?_
                  refine x_seq ?_
                  refine x_block ?_
                  refine x_seq ?_
                  refine x_drawL (fun i => MachF b pb mb vs i ∨ NewS w28 i) (.take 0 (.take 1 (.take 2 (.take 3 (.take 4 (.take 5 (.take 6 (.take 7 (.take 8 (.fork 9 (.take 10 (.take 11 (.take 12 (.eff 13 (.eff 14 (.take 15 .done)))))) 13 (.eff 9 (.take 10 (.take 11 (.take 12 (.eff 14 (.take 15 .done)))))))))))))))) mixed (by kernel_rfl) (fun _ _ _ _ _ h => h) (fun w29 l29 => ?_)
                  refine xt_v rfl v_move ?_
                  refine xt_v rfl (by first | exact v_loadA | exact v_loadF (by decide) (by omega)) ?_
                  refine xt_v rfl v_move ?_
                  refine xt_v rfl (v_rem (by omega)) ?_
                  refine xt_v rfl v_move ?_
                  refine xt_v rfl v_move ?_
                  refine xt_v rfl (by first | exact v_indexAddr _ rfl (by omega) (by assumption) | exact v_indexO _ rfl (by omega) (by omega) | exact v_indexF _ (by decide) rfl (by omega) (by omega)) ?_
                  refine xt_v rfl (by first | exact v_load | exact v_loadO (by omega) | exact v_loadFf (by omega) | exact v_loadF0 (by omega)) ?_
                  refine xt_v rfl v_build ?_
                  refine xt_fork ?_ ?_
                  ·
                    refine xt_call rfl (act_ok b pb mb vs M F D ⟨2, 0, (k : Int).tmod 3, sizes[k], 0, ⟨0, 0, 0, 0, 0⟩⟩ w29 (hS.B.ext kpc)) ?_
                    rintro _ w30 ⟨⟨vs2, F2, D2, rfl, hB2, hsm, hsf⟩, lka⟩
                    refine ⟨kpc, ?_⟩
                    have hS2 := hS.step hB2 hsm hsf (Nat.le_trans lk.keep.size Ge.le) (Has.lt : br < w29.heap.size)
                    refine xt_v rfl v_move ?_
                    refine xt_v rfl v_extract ?_
                    refine xt_v rfl v_extract ?_
                    refine xt_e rfl (e_alloc fun bx w31 nx lx kx => ?_)
                    refine xt_s rfl (e_storeA fun w32 l32 k32 => ?_)
                    have hxm : ¬ MachF b pb mb vs2 bx ∧ ¬ F2 bx := by
                      have h1 := hS2.B.m.lt
                      have h2 := hS2.B.r.lt
                      first
                        | exact ⟨fun e => by have := h1 _ e; have := nx.eq; omega, fun e => by have := h2 _ e; have := nx.eq; omega⟩
                        | exact ⟨not_new hsm hS.B.m.lt h1 (.inl ⟨by rw [nx.eq]; exact Ge.le, Has.lt⟩), not_new hsf hS.B.r.lt h2 (.inl ⟨by rw [nx.eq]; exact Ge.le, Has.lt⟩)⟩
                    have hS3 := hS2.other (kpc : Keep (OneB bx) _ w32) hxm.1 hxm.2
                    refine xt_v rfl v_assign ?_
                    refine xt_nil ?_
                    refine x_seq ?_
                    refine x_regionL ?_
                    refine xl_v (by first | exact v_loadA | exact v_loadF (by decide) (by omega)) ?_
                    refine xl_s (e_storeA fun w33 l9 k9 => ?_)
                    have hS4 := (hS3.ext kpc).cell l9.keep
                    refine xl_nil ?_
                    refine x_seq ?_
                    refine x_regionL ?_
                    refine xl_v v_move ?_
                    refine xl_v v_not ?_
                    refine xl_nil ?_
                    refine x_condF ?_
                    refine x_skip ?_
                    refine x_regionL ?_
                    refine xl_v v_move ?_
                    refine xl_v (v_add (by omega)) ?_
                    refine xl_v v_assign ?_
                    refine xl_nil ?_
                    exact ⟨_, by omega, rfl, k + 1, vs2, actM M _, F2, D2, rfl, by omega, hS4.ext kpc, inferInstance, inferInstance, inferInstance, inferInstance, evc, inferInstance, lkc⟩
                  ·
                    refine xt_e rfl (e_alloc fun bx w34 nx lx kx => ?_)
                    refine xt_call rfl (act_ok b pb mb vs M F D ⟨2, 0, (k : Int).tmod 3, sizes[k], 0, ⟨0, 0, 0, 0, 0⟩⟩ w34 (hS.B.ext kpc)) ?_
                    rintro _ w35 ⟨⟨vs2, F2, D2, rfl, hB2, hsm, hsf⟩, lka⟩
                    refine ⟨kpc, ?_⟩
                    have hS2 := hS.step hB2 hsm hsf (Nat.le_trans lk.keep.size Ge.le) (Has.lt : br < w34.heap.size)
                    refine xt_v rfl v_move ?_
                    refine xt_v rfl v_extract ?_
                    refine xt_v rfl v_extract ?_
                    refine xt_s rfl (e_storeA fun w36 l36 k36 => ?_)
                    have hxm : ¬ MachF b pb mb vs2 bx ∧ ¬ F2 bx := by
                      have h1 := hS2.B.m.lt
                      have h2 := hS2.B.r.lt
                      first
                        | exact ⟨fun e => by have := h1 _ e; have := nx.eq; omega, fun e => by have := h2 _ e; have := nx.eq; omega⟩
                        | exact ⟨not_new hsm hS.B.m.lt h1 (.inl ⟨by rw [nx.eq]; exact Ge.le, Has.lt⟩), not_new hsf hS.B.r.lt h2 (.inl ⟨by rw [nx.eq]; exact Ge.le, Has.lt⟩)⟩
                    have hS3 := hS2.other (kpc : Keep (OneB bx) _ w36) hxm.1 hxm.2
                    refine xt_v rfl v_assign ?_
                    refine xt_nil ?_
                    refine x_seq ?_
                    refine x_regionL ?_
                    refine xl_v (by first | exact v_loadA | exact v_loadF (by decide) (by omega)) ?_
                    refine xl_s (e_storeA fun w37 l9 k9 => ?_)
                    have hS4 := (hS3.ext kpc).cell l9.keep
                    refine xl_nil ?_
                    refine x_seq ?_
                    refine x_regionL ?_
                    refine xl_v v_move ?_
                    refine xl_v v_not ?_
                    refine xl_nil ?_
                    refine x_condF ?_
                    refine x_skip ?_
                    refine x_regionL ?_
                    refine xl_v v_move ?_
                    refine xl_v (v_add (by omega)) ?_
                    refine xl_v v_assign ?_
                    refine xl_nil ?_
                    exact ⟨_, by omega, rfl, k + 1, vs2, actM M _, F2, D2, rfl, by omega, hS4.ext kpc, inferInstance, inferInstance, inferInstance, inferInstance, evc, inferInstance, lkc⟩
                ·
                  refine x_exit ?_
                  refine x_seq ?_
                  refine x_regionL ?_
                  refine xl_v v_move ?_
                  refine xl_v (by first | exact v_loadA | exact v_loadF (by decide) (by omega)) ?_
                  refine xl_v v_build ?_
                  refine xl_call (act_ok b pb mb vs M F D ⟨3, 0, 0, 3, 0, ⟨0, 0, 0, 0, 0⟩⟩ w28 (hS.B.ext kpc)) ?_
                  rintro _ w38 ⟨⟨vs2, F2, D2, rfl, hB2, hsm, hsf⟩, lka⟩
                  have hS2 := hS.step hB2 hsm hsf (Nat.le_trans lk.keep.size Ge.le) (Has.lt : br < w28.heap.size)
                  refine xl_v v_move ?_
                  refine xl_v v_extract ?_
                  refine xl_v v_extract ?_
                  refine xl_e (e_alloc fun bx w39 nx lx kx => ?_)
                  refine xl_s (e_storeA fun w40 l40 k40 => ?_)
                  have hS3 := hS2.other (kpc : Keep (OneB bx) _ w40) (fun e => by have := hS2.B.m.lt _ e; have := nx.eq; omega) (fun e => by have := hS2.B.r.lt _ e; have := nx.eq; omega)
                  refine xl_v v_assign ?_
                  refine xl_nil ?_
                  refine x_seq ?_
                  refine x_regionL ?_
                  refine xl_v v_move ?_
                  refine xl_call (num_ok _ _) ?_
                  rintro _ _ ⟨rfl, rfl⟩
                  refine xl_v (v_eqlT rfl) ?_
                  refine xl_v v_move ?_
                  refine xl_gv rfl EvO.eq v_move ?_
                  refine xl_v (by first | exact v_pickT | exact v_pickF | exact v_pick) ?_
                  refine xl_v v_move ?_
                  refine xl_gv rfl EvO.eq v_move ?_
                  refine xl_gv rfl EvO.eq (by first | exact v_loadA | exact v_loadF (by decide) (by omega)) ?_
                  refine xl_gcall rfl EvO.eq (is_ok b pb mb vs2 (actM M _) F2 D2 w40 (hS3.B.ext kpc)) ?_
                  rintro _ w42 ⟨rfl, lki⟩
                  refine xl_v (by first | exact v_pickT | exact v_pickF | exact v_pick) ?_
                  refine xl_v v_move ?_
                  refine xl_gcall rfl EvO.eq (works_ok _) ?_
                  rintro _ w43 ⟨rfl, lk⟩
                  refine xl_v (by first | exact v_pickT | exact v_pickF | exact v_pick) ?_
                  refine xl_v v_assign ?_
                  refine xl_nil ?_
                  refine x_ret ?_
                  refine fin1 rfl ?_
                  exact ⟨rfl, lkc⟩
end Go.Proofs.Ytbihphclmdokeaa
