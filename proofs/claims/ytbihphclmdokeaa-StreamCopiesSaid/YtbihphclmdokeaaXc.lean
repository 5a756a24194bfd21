/-
  The walk's own calculus, third part: operations that make or write memory, calls, a function's beginning and end. No program is named here.
-/
import Derived.Test.YtbihphclmdokeaaXb
set_option linter.all false
namespace Go.Wst

/-- What a call comes to that returns. -/
def Ret (P : Program) (f : FuncId) (args : Array Value) (w : World) (R : Value → World → Prop) : Prop := Calls P f args w fun e w' => ∃ v, e = .returned v ∧ R v w'
theorem Ret.mono {P : Program} {f : FuncId} {args : Array Value} {w : World} {R R' : Value → World → Prop} (h : Ret P f args w R) (hr : ∀ v w', R v w' → R' v w') : Ret P f args w R' :=
  Calls.mono h fun _ _ ⟨v, he, hv⟩ => ⟨v, he, hr _ _ hv⟩

class Fun (P : Program) (f : FuncId) : Prop where ex : ∃ fn c, P.funcs[f]? = some fn ∧ fn.name ≠ "runtime.NumGoroutine" ∧ fn.body = some c
class App (a b : List Value) (c : outParam (List Value)) : Prop where eq : a ++ b = c
instance app_nil (b : List Value) : App [] b b := ⟨rfl⟩
instance app_cons (x : Value) (a b c : List Value) [h : App a b c] : App (x :: a) b (x :: c) := ⟨by rw [List.cons_append, h.eq]⟩

class SubS (T S : Nat → Prop) : Prop where sub : ∀ k, T k → S k
instance subS_no (S : Nat → Prop) : SubS NoB S := ⟨fun _ h => h.elim⟩
instance subS_all (S : Nat → Prop) : SubS S allS := ⟨fun _ _ => trivial⟩
instance subS_refl (S : Nat → Prop) : SubS S S := ⟨fun _ h => h⟩

section laws
variable {P : Program} {r : Option Nat} {N : Nat} {S T U : Nat → Prop} {Q : Post} {τ : Tau} {ds : List Deferred} {w : World} {ty : TypeId} {ops : Array Oper} {rest : List Oper} {pos : String} {aft : Array Edge} {d : Nat} {v : Value} {op : Op}

/-- An operation that yields a value and touches T. -/
def EffV (P : Program) (N : Nat) (T : Nat → Prop) (op : Op) (ty : TypeId) (τ : Tau) (w : World) (G : Value → World → Prop) : Prop :=
  (∀ c, op ≠ .defer c) ∧ ∃ v w', (execOp (evO N τ) ⟨none, op, ty, "", #[], none⟩).run P w = .ok (.value v) w' ∧ Keep T w w' ∧ G v w'
/-- An operation that yields nothing and touches T. -/
def EffS (P : Program) (N : Nat) (T : Nat → Prop) (op : Op) (ty : TypeId) (τ : Tau) (w : World) (G : World → Prop) : Prop :=
  (∀ c, op ≠ .defer c) ∧ ∃ w', (execOp (evO N τ) ⟨none, op, ty, "", #[], none⟩).run P w = .ok .skip w' ∧ Keep T w w' ∧ G w'

theorem semAt_op (o : Oper) (ho : ∀ c, o.op ≠ .defer c) : (o.semAt r (evO N τ)).run P w = (execOp (evO N τ) ⟨none, o.op, o.type, "", #[], none⟩).run P w := by
  rw [Oper.semAt_eq r _ o ho]
  rfl

theorem xl_e (he : EffV P N T op ty τ w (fun v w' => XL P r N ops Q rest (upd τ d v) ds w')) : XL P r N ops Q (⟨some d, op, ty, pos, aft, none⟩ :: rest) τ ds w := by
  obtain ⟨hn, v, w', hr, hk, hG⟩ := he
  show OpE P r N ops _ Q τ ds w _
  unfold OpE
  rw [if_pos (by rfl), semAt_op _ hn, hr]
  exact hG
theorem xl_ge {j e : Nat} {b : Bool} (hj : (ops[j]?).bind (·.dst) = some e) (hb : evO N τ (.tmp e) = .bool b) (he : EffV P N T op ty τ w (fun v w' => XL P r N ops Q rest (upd τ d v) ds w')) : XL P r N ops Q (⟨some d, op, ty, pos, aft, some (j, b)⟩ :: rest) τ ds w := by
  obtain ⟨hn, v, w', hr, hk, hG⟩ := he
  show OpE P r N ops _ Q τ ds w _
  unfold OpE
  rw [if_pos (by simp [wantedT, Region.wanted, yieldedT, hj, hb]), semAt_op _ hn, hr]
  exact hG
theorem xt_ge {p : Plan} {i j e : Nat} {b : Bool} {pos' : String} {aft' : Array Edge} [hS : SubS T S] (hi : ops[i]? = some ⟨some d, op, ty, pos', aft', some (j, b)⟩) (hj : (ops[j]?).bind (·.dst) = some e) (hb : evO N τ (.tmp e) = .bool b) (he : EffV P N T op ty τ w (fun v w' => XT P r N ops Q S U p (upd τ d v) ds w')) : XT P r N ops Q S U (.eff i p) τ ds w := by
  obtain ⟨hn, v, w', hr, hk, hG⟩ := he
  show match ops[i]? with | some o => OpE P r N ops o Q τ ds w (fun τ' ds' w' => Keep S w w' ∧ XT P r N ops Q S U p τ' ds' w') | none => False
  rw [hi]
  show OpE P r N ops _ Q τ ds w _
  unfold OpE
  rw [if_pos (by simp [wantedT, Region.wanted, yieldedT, hj, hb]), semAt_op _ hn, hr]
  exact ⟨hk.mono (fun k _ h => hS.sub k h), hG⟩
theorem xl_e0 (he : EffV P N T op ty τ w (fun v w' => XL P r N ops Q rest τ ds w')) : XL P r N ops Q (⟨none, op, ty, pos, aft, none⟩ :: rest) τ ds w := by
  obtain ⟨hn, v, w', hr, hk, hG⟩ := he
  show OpE P r N ops _ Q τ ds w _
  unfold OpE
  rw [if_pos (by rfl), semAt_op _ hn, hr]
  exact hG
theorem xl_s (he : EffS P N T op ty τ w (fun w' => XL P r N ops Q rest τ ds w')) : XL P r N ops Q (⟨none, op, ty, pos, aft, none⟩ :: rest) τ ds w := by
  obtain ⟨hn, w', hr, hk, hG⟩ := he
  show OpE P r N ops _ Q τ ds w _
  unfold OpE
  rw [if_pos (by rfl), semAt_op _ hn, hr]
  exact hG
theorem xt_e {p : Plan} {i : Nat} {pos' : String} {aft' : Array Edge} [hS : SubS T S] (hi : ops[i]? = some ⟨some d, op, ty, pos', aft', none⟩) (he : EffV P N T op ty τ w (fun v w' => XT P r N ops Q S U p (upd τ d v) ds w')) : XT P r N ops Q S U (.eff i p) τ ds w := by
  obtain ⟨hn, v, w', hr, hk, hG⟩ := he
  show match ops[i]? with | some o => OpE P r N ops o Q τ ds w (fun τ' ds' w' => Keep S w w' ∧ XT P r N ops Q S U p τ' ds' w') | none => False
  rw [hi]
  show OpE P r N ops _ Q τ ds w _
  unfold OpE
  rw [if_pos (by rfl), semAt_op _ hn, hr]
  exact ⟨hk.mono (fun k _ h => hS.sub k h), hG⟩
theorem xt_s {p : Plan} {i : Nat} {pos' : String} {aft' : Array Edge} [hS : SubS T S] (hi : ops[i]? = some ⟨none, op, ty, pos', aft', none⟩) (he : EffS P N T op ty τ w (fun w' => XT P r N ops Q S U p τ ds w')) : XT P r N ops Q S U (.eff i p) τ ds w := by
  obtain ⟨hn, w', hr, hk, hG⟩ := he
  show match ops[i]? with | some o => OpE P r N ops o Q τ ds w (fun τ' ds' w' => Keep S w w' ∧ XT P r N ops Q S U p τ' ds' w') | none => False
  rw [hi]
  show OpE P r N ops _ Q τ ds w _
  unfold OpE
  rw [if_pos (by rfl), semAt_op _ hn, hr]
  exact ⟨hk.mono (fun k _ h => hS.sub k h), hG⟩
theorem xt_last {i : Nat} {pos' : String} {aft' : Array Edge} [hU : SubS T U] (hi : ops[i]? = some ⟨some d, op, ty, pos', aft', none⟩) (he : EffV P N T op ty τ w (fun v w' => Q .normal (upd τ d v) ds w')) : XT P r N ops Q S U (.last i) τ ds w := by
  obtain ⟨hn, v, w', hr, hk, hG⟩ := he
  show match ops[i]? with | some o => OpE P r N ops o Q τ ds w (fun τ' ds' w' => Keep U w w' ∧ Q .normal τ' ds' w') | none => False
  rw [hi]
  show OpE P r N ops _ Q τ ds w _
  unfold OpE
  rw [if_pos (by rfl), semAt_op _ hn, hr]
  exact ⟨hk.mono (fun k _ h => hU.sub k h), hG⟩
theorem xt_lastS {i : Nat} {pos' : String} {aft' : Array Edge} [hU : SubS T U] (hi : ops[i]? = some ⟨none, op, ty, pos', aft', none⟩) (he : EffS P N T op ty τ w (fun w' => Q .normal τ ds w')) : XT P r N ops Q S U (.last i) τ ds w := by
  obtain ⟨hn, w', hr, hk, hG⟩ := he
  show match ops[i]? with | some o => OpE P r N ops o Q τ ds w (fun τ' ds' w' => Keep U w w' ∧ Q .normal τ' ds' w') | none => False
  rw [hi]
  show OpE P r N ops _ Q τ ds w _
  unfold OpE
  rw [if_pos (by rfl), semAt_op _ hn, hr]
  exact ⟨hk.mono (fun k _ h => hU.sub k h), hG⟩
theorem xt_fe {p : Plan} {i : Nat} {pos' : String} {aft' : Array Edge} [hU : SubS T U] (hi : ops[i]? = some ⟨some d, op, ty, pos', aft', none⟩) (he : EffV P N T op ty τ w (fun v w' => XT P r N ops Q S U p (upd τ d v) ds w')) : XT P r N ops Q S U (.free i p) τ ds w := by
  obtain ⟨hn, v, w', hr, hk, hG⟩ := he
  show match ops[i]? with | some o => OpE P r N ops o Q τ ds w (fun τ' ds' w' => Keep U w w' ∧ XT P r N ops Q S U p τ' ds' w') | none => False
  rw [hi]
  show OpE P r N ops _ Q τ ds w _
  unfold OpE
  rw [if_pos (by rfl), semAt_op _ hn, hr]
  exact ⟨hk.mono (fun k _ h => hU.sub k h), hG⟩
theorem xt_fs {p : Plan} {i : Nat} {pos' : String} {aft' : Array Edge} [hU : SubS T U] (hi : ops[i]? = some ⟨none, op, ty, pos', aft', none⟩) (he : EffS P N T op ty τ w (fun w' => XT P r N ops Q S U p τ ds w')) : XT P r N ops Q S U (.free i p) τ ds w := by
  obtain ⟨hn, w', hr, hk, hG⟩ := he
  show match ops[i]? with | some o => OpE P r N ops o Q τ ds w (fun τ' ds' w' => Keep U w w' ∧ XT P r N ops Q S U p τ' ds' w') | none => False
  rw [hi]
  show OpE P r N ops _ Q τ ds w _
  unfold OpE
  rw [if_pos (by rfl), semAt_op _ hn, hr]
  exact ⟨hk.mono (fun k _ h => hU.sub k h), hG⟩
theorem xt_fork {p q : Plan} {i j : Nat} (h1 : XT P r N ops Q S U (.eff i p) τ ds w) (h2 : XT P r N ops Q S U (.eff j q) τ ds w) : XT P r N ops Q S U (.fork i p j q) τ ds w := ⟨h1, h2⟩
/-- An assignment of a value where others wait for it. -/
theorem e_v (h : Val P r N NoB op ty τ w v) {G : Value → World → Prop} (hG : G v w) : EffV P N NoB op ty τ w G := ⟨h.1, v, w, h.2 w (Keep.refl _ _), Keep.refl _ _, hG⟩

/-! calls -/
theorem run_call {g : Operand} {args : List Operand} {at_ : Array TypeId} {f : FuncId} {a c vs as as2 : List Value} [hg : EvO N τ g (.func (.func f) a.toArray c.toArray)] [hv : EvL N τ args vs] [hf : Fun P f] [h1 : App a vs as] [h2 : App as c as2] :
    (execOp (evO N τ) ⟨none, .call { callee := .value g, args := args.toArray, argTypes := at_ }, ty, "", #[], none⟩).run P w = .ok (.enter f as2.toArray) w := by
  obtain ⟨fn, cc, hfn, hnm, hb⟩ := hf.ex
  have e1 : (args.toArray.map (evO N τ)) = vs.toArray := by simp [hv.eq]
  have e2 : a.toArray ++ vs.toArray ++ c.toArray = as2.toArray := by rw [← h2.eq, ← h1.eq]; simp
  have e3 : (a ++ (vs ++ c)).toArray = as2.toArray := by simpa using e2
  simp only [execOp, resolve, Sem.run_bind, hg.eq, Deferred.ofValue, e1, invoke, callFunc, program, Sem.run, hfn, hnm, hb, Sem.run_pure, Result.andThen_ok, beq_iff_eq, if_false, Option.isNone_some, Bool.false_eq_true, List.append_toArray, List.append_assoc, e3]

theorem OpE_call {g : Operand} {args : List Operand} {at_ : Array TypeId} {f : FuncId} {a c vs as as2 : List Value} {R : Value → World → Prop} {K : Tau → List Deferred → World → Prop} {dst : Option Nat}
    [hg : EvO N τ g (.func (.func f) a.toArray c.toArray)] [hv : EvL N τ args vs] [hf : Fun P f] [h1 : App a vs as] [h2 : App as c as2]
    (hc : Ret P f as2.toArray w R) (h : ∀ v w', R v w' → K (updO τ dst v) ds w') : OpE P r N ops ⟨dst, .call { callee := .value g, args := args.toArray, argTypes := at_ }, ty, pos, aft, none⟩ Q τ ds w K := by
  unfold OpE
  rw [if_pos (by rfl), semAt_op _ (fun c h => by cases h)]
  have hr := run_call (P := P) (N := N) (τ := τ) (w := w) (ty := ty) (at_ := at_) (g := g) (args := args) (f := f) (hg := hg) (hv := hv) (h1 := h1) (h2 := h2)
  rw [hr]
  exact Calls.mono hc fun e w'' ⟨v, he, hR⟩ => .inl ⟨v, he, h v w'' hR⟩
theorem xl_call {g : Operand} {args : List Operand} {at_ : Array TypeId} {f : FuncId} {a c vs as as2 : List Value} {R : Value → World → Prop}
    [hg : EvO N τ g (.func (.func f) a.toArray c.toArray)] [hv : EvL N τ args vs] [hf : Fun P f] [h1 : App a vs as] [h2 : App as c as2]
    (hc : Ret P f as2.toArray w R) (h : ∀ v w', R v w' → XL P r N ops Q rest (upd τ d v) ds w') : XL P r N ops Q (⟨some d, .call { callee := .value g, args := args.toArray, argTypes := at_ }, ty, pos, aft, none⟩ :: rest) τ ds w :=
  OpE_call (as2 := as2) hc h
theorem xl_call0 {g : Operand} {args : List Operand} {at_ : Array TypeId} {f : FuncId} {a c vs as as2 : List Value} {R : Value → World → Prop}
    [hg : EvO N τ g (.func (.func f) a.toArray c.toArray)] [hv : EvL N τ args vs] [hf : Fun P f] [h1 : App a vs as] [h2 : App as c as2]
    (hc : Ret P f as2.toArray w R) (h : ∀ v w', R v w' → XL P r N ops Q rest τ ds w') : XL P r N ops Q (⟨none, .call { callee := .value g, args := args.toArray, argTypes := at_ }, ty, pos, aft, none⟩ :: rest) τ ds w :=
  OpE_call (as2 := as2) hc h
theorem xl_gcall {j e' : Nat} {b : Bool} {g : Operand} {args : List Operand} {at_ : Array TypeId} {f : FuncId} {a c vs as as2 : List Value} {R : Value → World → Prop}
    (hj : (ops[j]?).bind (·.dst) = some e') (hb : evO N τ (.tmp e') = .bool b)
    [hg : EvO N τ g (.func (.func f) a.toArray c.toArray)] [hv : EvL N τ args vs] [hf : Fun P f] [h1 : App a vs as] [h2 : App as c as2]
    (hc : Ret P f as2.toArray w R) (h : ∀ v w', R v w' → XL P r N ops Q rest (upd τ d v) ds w') : XL P r N ops Q (⟨some d, .call { callee := .value g, args := args.toArray, argTypes := at_ }, ty, pos, aft, some (j, b)⟩ :: rest) τ ds w := by
  have := OpE_call (P := P) (r := r) (N := N) (Q := Q) (τ := τ) (ds := ds) (w := w) (ty := ty) (ops := ops) (pos := pos) (aft := aft) (at_ := at_) (g := g) (args := args) (as2 := as2) (dst := some d) (hg := hg) (hv := hv) (hf := hf) (h1 := h1) (h2 := h2) hc h
  show OpE P r N ops _ Q τ ds w _
  unfold OpE at *
  rw [if_pos (by simp [wantedT, Region.wanted, yieldedT, hj, hb])]
  rw [if_pos (by rfl)] at this
  exact this
theorem xt_call {p : Plan} {i : Nat} {pos' : String} {aft' : Array Edge} {g : Operand} {args : List Operand} {at_ : Array TypeId} {f : FuncId} {a c vs as as2 : List Value} {R : Value → World → Prop}
    (hi : ops[i]? = some ⟨some d, .call { callee := .value g, args := args.toArray, argTypes := at_ }, ty, pos', aft', none⟩)
    [hg : EvO N τ g (.func (.func f) a.toArray c.toArray)] [hv : EvL N τ args vs] [hf : Fun P f] [h1 : App a vs as] [h2 : App as c as2]
    (hc : Ret P f as2.toArray w R) (h : ∀ v w', R v w' → Keep S w w' ∧ XT P r N ops Q S U p (upd τ d v) ds w') : XT P r N ops Q S U (.eff i p) τ ds w := by
  show match ops[i]? with | some o => OpE P r N ops o Q τ ds w (fun τ' ds' w' => Keep S w w' ∧ XT P r N ops Q S U p τ' ds' w') | none => False
  rw [hi]
  exact OpE_call (as2 := as2) hc h
theorem xt_gcall {p : Plan} {i j e' : Nat} {b : Bool} {pos' : String} {aft' : Array Edge} {g : Operand} {args : List Operand} {at_ : Array TypeId} {f : FuncId} {a c vs as as2 : List Value} {R : Value → World → Prop}
    (hi : ops[i]? = some ⟨some d, .call { callee := .value g, args := args.toArray, argTypes := at_ }, ty, pos', aft', some (j, b)⟩)
    (hj : (ops[j]?).bind (·.dst) = some e') (hb : evO N τ (.tmp e') = .bool b)
    [hg : EvO N τ g (.func (.func f) a.toArray c.toArray)] [hv : EvL N τ args vs] [hf : Fun P f] [h1 : App a vs as] [h2 : App as c as2]
    (hc : Ret P f as2.toArray w R) (h : ∀ v w', R v w' → Keep S w w' ∧ XT P r N ops Q S U p (upd τ d v) ds w') : XT P r N ops Q S U (.eff i p) τ ds w := by
  have := OpE_call (P := P) (r := r) (N := N) (Q := Q) (τ := τ) (ds := ds) (w := w) (ty := ty) (ops := ops) (pos := pos') (aft := aft') (at_ := at_) (g := g) (args := args) (as2 := as2) (dst := some d) (K := fun τ' ds' w' => Keep S w w' ∧ XT P r N ops Q S U p τ' ds' w') (hg := hg) (hv := hv) (hf := hf) (h1 := h1) (h2 := h2) hc h
  show match ops[i]? with | some o => OpE P r N ops o Q τ ds w (fun τ' ds' w' => Keep S w w' ∧ XT P r N ops Q S U p τ' ds' w') | none => False
  rw [hi]
  show OpE P r N ops _ Q τ ds w _
  unfold OpE at *
  rw [if_pos (by simp [wantedT, Region.wanted, yieldedT, hj, hb])]
  rw [if_pos (by rfl)] at this
  exact this

/-! blocks of the call's own -/
theorem run_newVar (t : TypeId) (v : Value) : (newVar t v).run P w = .ok ⟨w.heap.size, 0, none⟩ (w.alloc (.cells v.cells t)) := by
  rfl
/-- What is known of a new block. -/
theorem new_blk (o : Obj) : New w.heap.size w ∧ Lk (w.alloc o) w NoB ∧ Blk (w.alloc o) w.heap.size o := ⟨⟨rfl⟩, ⟨Keep.alloc w o⟩, ⟨heap_alloc_new w o⟩⟩
theorem e_box {t : TypeId} {x : Operand} {cs : Array Value} {G : Value → World → Prop} [hx : EvO N τ x v] [hc : Cells v cs]
    (h : ∀ (b : Nat) (w' : World), New b w → Lk w' w NoB → Blk w' b (.cells cs t (0, 0)) → G (.pointer (some ⟨b, 0, none⟩)) w') : EffV P N NoB (.box t x) ty τ w G := by
  have hcs := hc.eq
  subst hcs
  obtain ⟨h1, h2, h3⟩ := new_blk (w := w) (.cells v.cells t)
  exact ⟨fun _ => nofun, _, _, by simp only [execOp, Instr.box, Sem.run_bind, run_newVar, hx.eq, Result.andThen_ok, Sem.run_pure], h2.keep, h _ _ h1 h2 h3⟩
theorem e_alloc {t : TypeId} {sz bytes : Nat} {z : Value} {cs : Array Value} {G : Value → World → Prop} [hi : Inf P t sz bytes z] [hc : Cells z cs]
    (h : ∀ (b : Nat) (w' : World), New b w → Lk w' w NoB → Blk w' b (.cells cs t (0, 0)) → G (.pointer (some ⟨b, 0, none⟩)) w') : EffV P N NoB (.alloc t) ty τ w G := by
  have hcs := hc.eq
  subst hcs
  obtain ⟨i, h5, h6, h7, h8⟩ := hi.ex
  obtain ⟨h1, h2, h3⟩ := new_blk (w := w) (.cells z.cells t)
  exact ⟨fun _ => nofun, _, _, by simp only [execOp, Instr.alloc, zeroValue, typeInfo, program, Sem.run, Sem.run_bind, run_newVar, h5, h8, Result.andThen_ok, Sem.run_pure], h2.keep, h _ _ h1 h2 h3⟩

theorem keep_setCell (b off : Nat) (v : Value) : Keep (OneB b) w (w.setCell ⟨b, off, none⟩ v) :=
  ⟨rfl, rfl, rfl, by simp [World.setCell], fun k _ hk => Go.RowKit.Below.heap_setCell _ _ _ _ (fun e => hk e)⟩
theorem blk_setCell {b off : Nat} {cs cs' : Array Value} {e : TypeId} {fr : Nat × Nat} (h : w.heap[b]? = some (.cells cs e fr)) (hs : cs.setIfInBounds off v = cs') : (w.setCell ⟨b, off, none⟩ v).heap[b]? = some (.cells cs' e fr) := by
  subst hs
  simp [World.setCell, Array.getElem?_modify, h]
/-- One cell of a block of the call's own. -/
theorem e_store {t e : TypeId} {x y : Operand} {b off bytes : Nat} {z : Value} {cs cs' : Array Value} {G : World → Prop} [hx : EvO N τ x (.pointer (some ⟨b, off, none⟩))] [hy : EvO N τ y v] [h1 : Cell1 v] [hi : Inf P t 1 bytes z]
    [hb : Blk w b (.cells cs e (0, 0))] [hc : CsSet cs off v cs'] (h : ∀ w', Lk w' w (OneB b) → Blk w' b (.cells cs' e (0, 0)) → G w') : EffS P N (OneB b) (.store t x y) ty τ w G := by
  obtain ⟨i, h5, h6, h7, h8⟩ := hi.ex
  obtain ⟨hlt, hset⟩ := hc.eq
  have hcell : w.cell? ⟨b, off, none⟩ = some cs[off] := by rw [cell_of_blk hb.eq]; exact Array.getElem?_eq_getElem hlt
  have hfr : w.frozen? ⟨b, off, none⟩ = false := by have := hb.eq; simp [World.frozen?, this]
  have hcells : v.cells = #[v] := by have := h1.eq; cases v <;> simp_all [Value.oneCell', Value.cells]
  have hst := run_store P w ⟨b, off, none⟩ v .plain h1.eq
  refine ⟨fun _ => nofun, w.setCell ⟨b, off, none⟩ v, ?_, keep_setCell b off v, h _ ⟨keep_setCell b off v⟩ ⟨blk_setCell hb.eq hset⟩⟩
  have ha : (⟨b, off, none⟩ : Addr).add 0 = ⟨b, off, none⟩ := rfl
  simp [execOp, hx.eq, hy.eq, Instr.storeAt, Instr.sureAddr, storeVar, hcells, sizeOf, typeInfo, program, Sem.run, h5, h6, storeCells, ha, hst, hcell, hfr]

/-! a function's beginning and end -/
def bodyQ (P : Program) (fn : Func) (N : Nat) (R : Value → World → Prop) : Post
  | .normal, τ, ds, w => ∀ a, Rel N τ ds a → LeavesInM (FX none) 0 P fn a.tmps (fun e w' => ∃ v, e = .returned v ∧ R v w') ds .returning w
  | .ret, τ, ds, w => ∀ a, Rel N τ ds a → LeavesInM (FX none) 0 P fn a.tmps (fun e w' => ∃ v, e = .returned v ∧ R v w') ds .returning w
  | _, _, _, _ => False

def frame0 (l : List Value) : Tau := fun t => l.getD t undef
instance ev_f0_nil (t : Nat) : Ev (frame0 []) t undef := ⟨rfl⟩
instance ev_f0_zero (v : Value) (l : List Value) : Ev (frame0 (v :: l)) 0 v := ⟨rfl⟩
instance ev_f0_succ (u v : Value) (l : List Value) (t : Nat) [h : Ev (frame0 l) t v] : Ev (frame0 (u :: l)) (t + 1) v := ⟨h.eq⟩

theorem rel_frame0 (l : List Value) (hl : l.length ≤ N) : Rel N (frame0 l) [] { tmps := l.toArray ++ Array.replicate (N - l.toArray.size) undef, defers := [] } := by
  refine ⟨by simp; omega, fun t ht => ?_, rfl⟩
  by_cases h : t < l.length
  · simp [frame0, Array.getElem?_append, h]
  · have h2 : t - l.length < N - l.length := by omega
    simp [frame0, Array.getElem?_append, h, h2]

theorem ret_of_x {f : FuncId} {fn : Func} {c : Code} {l : List Value} {R : Value → World → Prop} (hf : P.funcs[f]? = some fn) (hb : fn.body = some c) (hN : fn.ntmps = N) (hl : l.length ≤ N)
    (h : X P none N c (bodyQ P fn N R) (frame0 l) [] w) : Ret P f l.toArray w R := by
  refine (callsIn_FX (r := none) (n := 0)).1 (callsIn_of_wp_marks hf hb trivial (wpIn_mono (h _ (by rw [hN]; exact rel_frame0 l hl)) ?_))
  intro e a w' hq
  obtain ⟨t, d, hr, hq⟩ := hq
  have hd := hr.dfs
  cases e with
  | normal => have := hq a hr; simp only [bodyPostM, hd]; exact this
  | ret => have := hq a hr; simp only [bodyPostM, hd]; exact this
  | _ => exact hq.elim

theorem Rel.getE {a : Act} {t : Nat} (h : Rel N τ ds a) [hl : LtN t N] [he : Ev τ t v] : a.tmps.getD t undef = v := (h.get t hl.lt).trans he.eq
section fin
variable {fn : Func} {R : Value → World → Prop} {t1 t2 t3 t4 : Nat} {v1 v2 v3 v4 : Value}
theorem fin0 (hr : fn.results = #[]) (hR : R (.tuple #[]) w) : bodyQ P fn N R .normal τ [] w := fun a ha => ⟨_, results_none hr _ _ _, _, rfl, hR⟩
theorem fin0r (hr : fn.results = #[]) (hR : R (.tuple #[]) w) : bodyQ P fn N R .ret τ [] w := fun a ha => ⟨_, results_none hr _ _ _, _, rfl, hR⟩
theorem fin1 (hr : fn.results = #[.tmp t1]) [LtN t1 N] [Ev τ t1 v1] (hR : R v1 w) : bodyQ P fn N R .ret τ [] w := fun a ha => ⟨_, results_tmp hr _ _ _, _, rfl, by rw [ha.getE (t := t1) (v := v1)]; exact hR⟩
theorem fin2 (hr : fn.results = #[.tmp t1, .tmp t2]) [LtN t1 N] [Ev τ t1 v1] [LtN t2 N] [Ev τ t2 v2] (hR : R (.tuple #[v1, v2]) w) : bodyQ P fn N R .ret τ [] w := fun a ha => ⟨_, results_tmp2 hr _ _ _, _, rfl, by rw [ha.getE (t := t1) (v := v1), ha.getE (t := t2) (v := v2)]; exact hR⟩
theorem results_tmp3_ {t u s : Tmp} (h : fn.results = #[.tmp t, .tmp u, .tmp s]) (tmps : Array Value) (P : Program) (w : World) :
    (results fn tmps).run P w = .ok (.tuple #[tmps.getD t undef, tmps.getD u undef, tmps.getD s undef]) w := by simp [results, h]
theorem results_tmp4_ {t u s x : Tmp} (h : fn.results = #[.tmp t, .tmp u, .tmp s, .tmp x]) (tmps : Array Value) (P : Program) (w : World) :
    (results fn tmps).run P w = .ok (.tuple #[tmps.getD t undef, tmps.getD u undef, tmps.getD s undef, tmps.getD x undef]) w := by simp [results, h]
theorem fin3 (hr : fn.results = #[.tmp t1, .tmp t2, .tmp t3]) [LtN t1 N] [Ev τ t1 v1] [LtN t2 N] [Ev τ t2 v2] [LtN t3 N] [Ev τ t3 v3] (hR : R (.tuple #[v1, v2, v3]) w) : bodyQ P fn N R .ret τ [] w := fun a ha =>
  ⟨_, results_tmp3_ hr _ _ _, _, rfl, by rw [ha.getE (t := t1) (v := v1), ha.getE (t := t2) (v := v2), ha.getE (t := t3) (v := v3)]; exact hR⟩
theorem fin4 (hr : fn.results = #[.tmp t1, .tmp t2, .tmp t3, .tmp t4]) [LtN t1 N] [Ev τ t1 v1] [LtN t2 N] [Ev τ t2 v2] [LtN t3 N] [Ev τ t3 v3] [LtN t4 N] [Ev τ t4 v4] (hR : R (.tuple #[v1, v2, v3, v4]) w) : bodyQ P fn N R .ret τ [] w := fun a ha =>
  ⟨_, results_tmp4_ hr _ _ _, _, rfl, by rw [ha.getE (t := t1) (v := v1), ha.getE (t := t2) (v := v2), ha.getE (t := t3) (v := v3), ha.getE (t := t4) (v := v4)]; exact hR⟩
end fin

/-! several steps in one -/
class Ge (w' w : World) : Prop where le : w.heap.size ≤ w'.heap.size
instance (priority := low) ge_step (w' w1 w : World) (T : Nat → Prop) [l : Lk w' w1 T] [g : Ge w1 w] : Ge w' w := ⟨Nat.le_trans g.le l.keep.size⟩
instance ge_refl (w : World) : Ge w w := ⟨Nat.le_refl _⟩
/-- What T touches of what lay at w lies in S. -/
class SubF (T S : Nat → Prop) (w : World) : Prop where sub : ∀ k, k < w.heap.size → T k → S k
instance subF_no (S : Nat → Prop) (w : World) : SubF NoB S w := ⟨fun _ _ h => h.elim⟩
instance subF_refl (S : Nat → Prop) (w : World) : SubF S S w := ⟨fun _ _ h => h⟩
instance subF_new (b : Nat) (S : Nat → Prop) (w w1 : World) [h : New b w1] [g : Ge w1 w] : SubF (OneB b) S w := ⟨fun k hk e => by
  have h1 := h.eq
  have h2 := g.le
  have h3 : k = b := e
  omega⟩
class Chain (w' w : World) (S : Nat → Prop) : Prop where keep : Keep S w w'
instance (priority := low) chain_step (w' w1 w : World) (T S : Nat → Prop) [l : Lk w' w1 T] [c : Chain w1 w S] [s : SubF T S w] : Chain w' w S := ⟨c.keep.then l.keep (fun k hk ht => s.sub k hk ht)⟩
instance chain_refl (w : World) (S : Nat → Prop) : Chain w w S := ⟨Keep.refl _ _⟩
theorem lkc {w' w : World} [h : Chain w' w S] : Lk w' w S := ⟨h.keep⟩
theorem kpc {w' w : World} [h : Chain w' w S] : Keep S w w' := h.keep

/-- A region that draws its order, from the world behind the draw. -/
theorem x_drawL {id : Nat} (S U : Nat → Prop) (p : Plan) (hm : P.follows .mixedOrders = true) (hok : (Region.noSelect ops && p.ok ops p.lastI (Array.replicate ops.size false) && decide (p.size ≤ ops.size)) = true)
    (hQ : ∀ ch τ τ' ds w, Q (.panic ch) τ ds w → Q (.panic ch) τ' ds w) (h : ∀ w1, Lk w1 w NoB → XT P r N ops Q S U p τ ds w1) : X P r N (.region id ops true) Q τ ds w :=
  x_draw S U p hm hok hQ (h _ ⟨Keep.drawn w _⟩)

theorem x_condE {c : Operand} {x y : Code} {b : Bool} [hc : EvO N τ c (.bool b)] (ht : b = true → X P r N x Q τ ds w) (hf : b = false → X P r N y Q τ ds w) : X P r N (.cond c x y) Q τ ds w := x_cond hc.eq ht hf
theorem x_condP {c : Operand} {x y : Code} {p : Prop} [Decidable p] [hc : EvO N τ c (.bool (decide p))] (ht : p → X P r N x Q τ ds w) (hf : ¬ p → X P r N y Q τ ds w) : X P r N (.cond c x y) Q τ ds w :=
  x_cond hc.eq (fun h => ht (of_decide_eq_true h)) (fun h => hf (of_decide_eq_false h))
theorem x_condN {c : Operand} {x y : Code} {p : Prop} [Decidable p] [hc : EvO N τ c (.bool (!decide p))] (ht : ¬ p → X P r N x Q τ ds w) (hf : p → X P r N y Q τ ds w) : X P r N (.cond c x y) Q τ ds w :=
  x_cond hc.eq (fun h => ht (of_decide_eq_false (by simpa using h))) (fun h => hf (of_decide_eq_true (by simpa using h)))
theorem x_condT {c : Operand} {x y : Code} [hc : EvO N τ c (.bool true)] (ht : X P r N x Q τ ds w) : X P r N (.cond c x y) Q τ ds w := x_cond hc.eq (fun _ => ht) (fun h => by cases h)
theorem x_condF {c : Operand} {x y : Code} [hc : EvO N τ c (.bool false)] (hf : X P r N y Q τ ds w) : X P r N (.cond c x y) Q τ ds w := x_cond hc.eq (fun h => by cases h) (fun _ => hf)

end laws
end Go.Wst
