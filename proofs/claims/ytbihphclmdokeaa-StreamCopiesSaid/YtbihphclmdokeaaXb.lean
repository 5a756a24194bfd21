/-
  The walk's own calculus, second part: what is known of slots, blocks and rows is found by instances; one law for each operation that yields a value. No program is named here.
-/
import Derived.Test.YtbihphclmdokeaaXa
import Derived.WalkKit
set_option linter.all false
namespace Go.Wst

/-! ### Numbers of slots -/
class LtN (a b : Nat) : Prop where lt : a < b
instance ltn (k t : Nat) : LtN t (k + t + 1) := ⟨by omega⟩
class NeN (a b : Nat) : Prop where ne : a ≠ b
instance nen1 (a b : Nat) [h : LtN a b] : NeN a b := ⟨Nat.ne_of_lt h.lt⟩
instance nen2 (a b : Nat) [h : LtN b a] : NeN a b := ⟨Nat.ne_of_gt h.lt⟩

/-! ### What a slot holds -/
class Ev (τ : Tau) (t : Nat) (v : outParam Value) : Prop where eq : τ t = v
instance ev_same (τ : Tau) (t : Nat) (v : Value) : Ev (upd τ t v) t v := ⟨upd_same τ t v⟩
instance ev_ne (τ : Tau) (t s : Nat) (v u : Value) [h : NeN t s] [e : Ev τ t u] : Ev (upd τ s v) t u := ⟨(upd_ne τ v h.ne).trans e.eq⟩
class EvO (N : Nat) (τ : Tau) (x : Operand) (v : outParam Value) : Prop where eq : evO N τ x = v
instance evo_tmp (N : Nat) (τ : Tau) (t : Nat) (v : Value) [h : LtN t N] [e : Ev τ t v] : EvO N τ (.tmp t) v := ⟨by simp only [evO]; rw [if_pos h.lt]; exact e.eq⟩
instance evo_const (N : Nat) (τ : Tau) (v : Value) : EvO N τ (.const v) v := ⟨rfl⟩
instance evo_func (N : Nat) (τ : Tau) (f : FuncId) : EvO N τ (.func f) (.func (.func f) #[] #[]) := ⟨rfl⟩
instance evo_global (N : Nat) (τ : Tau) (g : Nat) : EvO N τ (.global g) (.pointer (some ⟨g, 0, none⟩)) := ⟨rfl⟩
/-- Several operands at once. -/
class EvL (N : Nat) (τ : Tau) (xs : List Operand) (vs : outParam (List Value)) : Prop where eq : xs.map (evO N τ) = vs
instance evl_nil (N : Nat) (τ : Tau) : EvL N τ [] [] := ⟨rfl⟩
instance evl_cons (N : Nat) (τ : Tau) (x : Operand) (xs : List Operand) (v : Value) (vs : List Value) [h : EvO N τ x v] [k : EvL N τ xs vs] : EvL N τ (x :: xs) (v :: vs) := ⟨by rw [List.map_cons, h.eq, k.eq]⟩
class EvP (N : Nat) (τ : Tau) (xs : List (Nat × Operand)) (vs : outParam (List (Nat × Value))) : Prop where eq : (xs.map fun p => (p.1, evO N τ p.2)) = vs
instance evp_nil (N : Nat) (τ : Tau) : EvP N τ [] [] := ⟨rfl⟩
instance evp_cons (N : Nat) (τ : Tau) (i : Nat) (x : Operand) (xs : List (Nat × Operand)) (v : Value) (vs : List (Nat × Value)) [h : EvO N τ x v] [k : EvP N τ xs vs] : EvP N τ ((i, x) :: xs) ((i, v) :: vs) := ⟨by rw [List.map_cons, h.eq, k.eq]⟩

/-! ### Types -/
class Und (P : Program) (t : TypeId) (d : outParam TypeDesc) : Prop where eq : P.underlying t = some d
class Inf (P : Program) (t : TypeId) (sz bytes : outParam Nat) (z : outParam Value) : Prop where ex : ∃ i, P.info? t = some i ∧ i.size = sz ∧ i.bytes = bytes ∧ i.zero = some z
/-- Not a struct, not an array. -/
class One (P : Program) (t : TypeId) : Prop where ex : ∃ d, P.underlying t = some d ∧ (match d with | .struct _ | .array _ _ => False | _ => True)
/-- A struct or an array of so many cells. -/
class Many (P : Program) (t : TypeId) (n : outParam Nat) : Prop where ex : ∃ d i, P.underlying t = some d ∧ (match d with | .struct _ | .array _ _ => True | _ => False) ∧ P.info? t = some i ∧ i.size = n
/-- A field's place, of a field that has cells. -/
class Fld (P : Program) (s : TypeId) (f : Nat) (off : outParam Nat) (t : outParam TypeId) : Prop where ex : ∃ fs fd i, P.underlying s = some (.struct fs) ∧ fs[f]? = some fd ∧ P.info? fd.type = some i ∧ i.size ≠ 0 ∧ fd.offset = off ∧ fd.type = t

/-! ### Blocks -/
class Blk (w : World) (b : Nat) (o : outParam Obj) : Prop where eq : w.heap[b]? = some o
class Has (w : World) (b : Nat) : Prop where lt : b < w.heap.size
instance has_blk (w : World) (b : Nat) (o : Obj) [h : Blk w b o] : Has w b := ⟨(Array.getElem?_eq_some_iff.1 h.eq).1⟩
/-- w' comes of w; what lies outside S is as it was. -/
class Lk (w' : World) (w : outParam World) (S : outParam (Nat → Prop)) : Prop where keep : Keep S w w'
class NotS (S : Nat → Prop) (b : Nat) : Prop where not : ¬ S b
instance notS_no (b : Nat) : NotS NoB b := ⟨fun h => h⟩
def OneB (c : Nat) : Nat → Prop := fun b => b = c
class NeB (a b : Nat) : Prop where ne : a ≠ b
instance notS_one (b c : Nat) [h : NeB b c] : NotS (OneB c) b := ⟨h.ne⟩
/-- b was new at w. -/
class New (b : Nat) (w : outParam World) : Prop where eq : b = w.heap.size
instance neB_new1 (b c : Nat) (w : World) [h : New c w] [k : Has w b] : NeB b c := ⟨by have := h.eq; have := k.lt; omega⟩
instance neB_new2 (b c : Nat) (w : World) [h : New c w] [k : Has w b] : NeB c b := ⟨by have := h.eq; have := k.lt; omega⟩
instance blk_lk (w' w : World) (S : Nat → Prop) (b : Nat) (o : Obj) [l : Lk w' w S] [n : NotS S b] [h : Blk w b o] : Blk w' b o := ⟨(l.keep.block b (Array.getElem?_eq_some_iff.1 h.eq).1 n.not).trans h.eq⟩
instance (priority := low) has_lk (w' w : World) (S : Nat → Prop) (b : Nat) [l : Lk w' w S] [h : Has w b] : Has w' b := ⟨Nat.lt_of_lt_of_le h.lt l.keep.size⟩

/-- An element of a written-out array. -/
class CsGet (cs : Array Value) (i : Nat) (v : outParam Value) : Prop where eq : cs[i]? = some v
instance csget_zero (v : Value) (l : List Value) : CsGet (v :: l).toArray 0 v := ⟨rfl⟩
instance csget_succ (u v : Value) (l : List Value) (i : Nat) [h : CsGet l.toArray i v] : CsGet (u :: l).toArray (i + 1) v := ⟨by have := h.eq; simpa using this⟩
class CsSet (cs : Array Value) (i : Nat) (v : Value) (ds : outParam (Array Value)) : Prop where eq : i < cs.size ∧ cs.setIfInBounds i v = ds
instance csset_zero (u v : Value) (l : List Value) : CsSet (u :: l).toArray 0 v (v :: l).toArray := ⟨by simp, by simp⟩
instance csset_succ (u v : Value) (l m : List Value) (i : Nat) [h : CsSet l.toArray i v m.toArray] : CsSet (u :: l).toArray (i + 1) v (u :: m).toArray := ⟨by
  obtain ⟨h1, h2⟩ := h.eq
  refine ⟨by simpa using h1, ?_⟩
  have := congrArg Array.toList h2
  simp at this
  simp [this]⟩
/-- The cells of a value. -/
class Cells (v : Value) (cs : outParam (Array Value)) : Prop where eq : v.cells = cs
instance cells_agg (cs : Array Value) : Cells (.agg cs) cs := ⟨rfl⟩
instance cells_int (k : IntKind) (n : Int) : Cells (.int k n) #[.int k n] := ⟨rfl⟩
instance cells_bool (b : Bool) : Cells (.bool b) #[.bool b] := ⟨rfl⟩
instance cells_string (b : ByteArray) : Cells (.string b) #[.string b] := ⟨rfl⟩
instance cells_ptr (b : Option Addr) : Cells (.pointer b) #[.pointer b] := ⟨rfl⟩
instance cells_slice (b : Option Addr) (n c : Nat) : Cells (.slice b n c) #[.slice b n c] := ⟨rfl⟩
instance cells_map (b : Option Nat) : Cells (.map b) #[.map b] := ⟨rfl⟩
instance cells_func (f : Fn) (a c : Array Value) : Cells (.func f a c) #[.func f a c] := ⟨rfl⟩
instance cells_nilFunc : Cells .nilFunc #[.nilFunc] := ⟨rfl⟩
instance cells_iface (t : TypeId) (v : Value) : Cells (.iface t v) #[.iface t v] := ⟨rfl⟩
instance cells_nilIface : Cells .nilIface #[.nilIface] := ⟨rfl⟩
/-- A value of one cell. -/
class Cell1 (v : Value) : Prop where eq : v.oneCell' = true
instance cell1_int (k : IntKind) (n : Int) : Cell1 (.int k n) := ⟨rfl⟩
instance cell1_bool (b : Bool) : Cell1 (.bool b) := ⟨rfl⟩
instance cell1_string (b : ByteArray) : Cell1 (.string b) := ⟨rfl⟩
instance cell1_ptr (b : Option Addr) : Cell1 (.pointer b) := ⟨rfl⟩
instance cell1_slice (b : Option Addr) (n c : Nat) : Cell1 (.slice b n c) := ⟨rfl⟩
instance cell1_map (b : Option Nat) : Cell1 (.map b) := ⟨rfl⟩
instance cell1_func (f : Fn) (a c : Array Value) : Cell1 (.func f a c) := ⟨rfl⟩
instance cell1_nilFunc : Cell1 .nilFunc := ⟨rfl⟩
instance cell1_iface (t : TypeId) (v : Value) : Cell1 (.iface t v) := ⟨rfl⟩
instance cell1_nilIface : Cell1 .nilIface := ⟨rfl⟩

/-! ### Rows: the cells from an address on -/
def padd (A : Option Addr) (j : Nat) : Value := .pointer (A.map (·.add j))
instance cells_padd (A : Option Addr) (j : Nat) : Cells (padd A j) #[padd A j] := ⟨rfl⟩
instance cell1_padd (A : Option Addr) (j : Nat) : Cell1 (padd A j) := ⟨rfl⟩
def RowP (w : World) (A : Option Addr) (cs : List Value) : Prop := ∀ j v, cs[j]? = some v → ∃ a, A = some a ∧ w.cell? (a.add j) = some v
class Row (w : World) (A : Option Addr) (cs : outParam (List Value)) : Prop where row : RowP w A cs
class RowOut (S : Nat → Prop) (A : Option Addr) : Prop where out : ∀ a, A = some a → ¬ S a.block
instance rowOut_no (A : Option Addr) : RowOut NoB A := ⟨fun _ _ h => h⟩
theorem block_add (a : Addr) (n : Nat) : (a.add n).block = a.block := by unfold Addr.add; split <;> rfl
theorem add_add (a : Addr) (i j : Nat) : (a.add i).add j = a.add (i + j) := by
  unfold Addr.add
  by_cases hi : i = 0 <;> by_cases hj : j = 0 <;> simp [hi, hj, Nat.add_assoc]
theorem add_none (b o j : Nat) : (⟨b, o, none⟩ : Addr).add j = ⟨b, o + j, none⟩ := by unfold Addr.add; split <;> simp_all
theorem RowP.keep {w w' : World} {S : Nat → Prop} {A : Option Addr} {cs : List Value} (h : RowP w A cs) (hk : Keep S w w') (ho : ∀ a, A = some a → ¬ S a.block) : RowP w' A cs := fun j v hv => by
  obtain ⟨a, rfl, hc⟩ := h j v hv
  refine ⟨a, rfl, ?_⟩
  rw [← hc]
  have hlt := World.block_lt_of_cell? w _ hc
  rw [block_add] at hlt
  exact World.cell?_of_block (by rw [block_add]; exact hk.block _ hlt (ho a rfl))
instance row_lk (w' w : World) (S : Nat → Prop) (A : Option Addr) (cs : List Value) [l : Lk w' w S] [n : RowOut S A] [h : Row w A cs] : Row w' A cs := ⟨h.row.keep l.keep n.out⟩

/-! ### Operations that yield a value -/
/-- In whatever world that comes of w while nothing but S is touched. -/
def Val (P : Program) (r : Option Nat) (N : Nat) (S : Nat → Prop) (op : Op) (ty : TypeId) (τ : Tau) (w : World) (v : Value) : Prop :=
  (∀ c, op ≠ .defer c) ∧ ∀ W, Keep S w W → (execOp (evO N τ) ⟨none, op, ty, "", #[], none⟩).run P W = .ok (.value v) W

section laws
variable {P : Program} {r : Option Nat} {N : Nat} {S U : Nat → Prop} {Q : Post} {τ : Tau} {ds : List Deferred} {w : World} {ty : TypeId} {ops : Array Oper} {rest : List Oper} {pos : String} {aft : Array Edge} {d : Nat} {v : Value} {op : Op}

theorem Val.run (h : Val P r N S op ty τ w v) (o : Oper) (ho : o.op = op) (ht : o.type = ty) {W : World} (hW : Keep S w W) : (o.semAt r (evO N τ)).run P W = .ok (.value v) W := by
  rw [Oper.semAt_eq r _ o (by rw [ho]; exact h.1)]
  rw [← h.2 W hW]
  unfold execOp
  simp only [ho, ht]

theorem xl_v (hv : Val P r N NoB op ty τ w v) (h : XL P r N ops Q rest (upd τ d v) ds w) : XL P r N ops Q (⟨some d, op, ty, pos, aft, none⟩ :: rest) τ ds w := by
  show OpE P r N ops _ Q τ ds w _
  unfold OpE
  rw [if_pos (by rfl), hv.run _ rfl rfl (Keep.refl _ _)]
  exact h
theorem xl_nil (h : Q .normal τ ds w) : XL P r N ops Q [] τ ds w := h
/-- The guard says yes. -/
theorem xl_gv {j e : Nat} {b : Bool} (hj : (ops[j]?).bind (·.dst) = some e) (hb : evO N τ (.tmp e) = .bool b) (hv : Val P r N NoB op ty τ w v) (h : XL P r N ops Q rest (upd τ d v) ds w) :
    XL P r N ops Q (⟨some d, op, ty, pos, aft, some (j, b)⟩ :: rest) τ ds w := by
  show OpE P r N ops _ Q τ ds w _
  unfold OpE
  rw [if_pos (by simp [wantedT, Region.wanted, yieldedT, hj, hb]), hv.run _ rfl rfl (Keep.refl _ _)]
  exact h
/-- The guard says no. -/
theorem xl_gs {j e : Nat} {b : Bool} (hj : (ops[j]?).bind (·.dst) = some e) (hb : evO N τ (.tmp e) = .bool (!b)) (h : XL P r N ops Q rest (upd τ d undef) ds w) :
    XL P r N ops Q (⟨some d, op, ty, pos, aft, some (j, b)⟩ :: rest) τ ds w := by
  show OpE P r N ops _ Q τ ds w _
  unfold OpE
  rw [if_neg (by simp [wantedT, Region.wanted, yieldedT, hj, hb])]
  exact h
theorem xt_v {p : Plan} {i : Nat} {pos' : String} {aft' : Array Edge} (hi : ops[i]? = some ⟨some d, op, ty, pos', aft', none⟩) (hv : Val P r N S op ty τ w v) (h : XT P r N ops Q S U p (upd τ d v) ds w) : XT P r N ops Q S U (.take i p) τ ds w := by
  show match ops[i]? with | some o => OpP P r N ops S o τ w (fun τ => XT P r N ops Q S U p τ ds w) | none => False
  rw [hi]
  exact ⟨v, .inl ⟨rfl, fun W hW => hv.run _ rfl rfl hW⟩, h⟩
theorem xt_gv {p : Plan} {i j e : Nat} {b : Bool} {pos' : String} {aft' : Array Edge} (hi : ops[i]? = some ⟨some d, op, ty, pos', aft', some (j, b)⟩) (hj : (ops[j]?).bind (·.dst) = some e) (hb : evO N τ (.tmp e) = .bool b) (hv : Val P r N S op ty τ w v) (h : XT P r N ops Q S U p (upd τ d v) ds w) : XT P r N ops Q S U (.take i p) τ ds w := by
  show match ops[i]? with | some o => OpP P r N ops S o τ w (fun τ => XT P r N ops Q S U p τ ds w) | none => False
  rw [hi]
  exact ⟨v, .inl ⟨by simp [wantedT, Region.wanted, yieldedT, hj, hb], fun W hW => hv.run _ rfl rfl hW⟩, h⟩
theorem xt_gs {p : Plan} {i j e : Nat} {b : Bool} {pos' : String} {aft' : Array Edge} (hi : ops[i]? = some ⟨some d, op, ty, pos', aft', some (j, b)⟩) (hj : (ops[j]?).bind (·.dst) = some e) (hb : evO N τ (.tmp e) = .bool (!b)) (h : XT P r N ops Q S U p (upd τ d undef) ds w) : XT P r N ops Q S U (.take i p) τ ds w := by
  show match ops[i]? with | some o => OpP P r N ops S o τ w (fun τ => XT P r N ops Q S U p τ ds w) | none => False
  rw [hi]
  exact ⟨undef, .inr ⟨by simp [wantedT, Region.wanted, yieldedT, hj, hb], rfl⟩, h⟩
theorem xt_av {p : Plan} {i : Nat} {pos' : String} {aft' : Array Edge} (hi : ops[i]? = some ⟨some d, op, ty, pos', aft', none⟩) (hv : Val P r N (fun k => S k ∨ U k) op ty τ w v) (h : XT P r N ops Q S U p (upd τ d v) ds w) : XT P r N ops Q S U (.takeA i p) τ ds w := by
  show match ops[i]? with | some o => OpP P r N ops (fun k => S k ∨ U k) o τ w (fun τ => XT P r N ops Q S U p τ ds w) | none => False
  rw [hi]
  exact ⟨v, .inl ⟨rfl, fun W hW => hv.run _ rfl rfl hW⟩, h⟩
theorem xt_agv {p : Plan} {i j e : Nat} {b : Bool} {pos' : String} {aft' : Array Edge} (hi : ops[i]? = some ⟨some d, op, ty, pos', aft', some (j, b)⟩) (hj : (ops[j]?).bind (·.dst) = some e) (hb : evO N τ (.tmp e) = .bool b) (hv : Val P r N (fun k => S k ∨ U k) op ty τ w v) (h : XT P r N ops Q S U p (upd τ d v) ds w) : XT P r N ops Q S U (.takeA i p) τ ds w := by
  show match ops[i]? with | some o => OpP P r N ops (fun k => S k ∨ U k) o τ w (fun τ => XT P r N ops Q S U p τ ds w) | none => False
  rw [hi]
  exact ⟨v, .inl ⟨by simp [wantedT, Region.wanted, yieldedT, hj, hb], fun W hW => hv.run _ rfl rfl hW⟩, h⟩
theorem xt_ags {p : Plan} {i j e : Nat} {b : Bool} {pos' : String} {aft' : Array Edge} (hi : ops[i]? = some ⟨some d, op, ty, pos', aft', some (j, b)⟩) (hj : (ops[j]?).bind (·.dst) = some e) (hb : evO N τ (.tmp e) = .bool (!b)) (h : XT P r N ops Q S U p (upd τ d undef) ds w) : XT P r N ops Q S U (.takeA i p) τ ds w := by
  show match ops[i]? with | some o => OpP P r N ops (fun k => S k ∨ U k) o τ w (fun τ => XT P r N ops Q S U p τ ds w) | none => False
  rw [hi]
  exact ⟨undef, .inr ⟨by simp [wantedT, Region.wanted, yieldedT, hj, hb], rfl⟩, h⟩
theorem xt_gse {p : Plan} {i j e : Nat} {b : Bool} {pos' : String} {aft' : Array Edge} (hi : ops[i]? = some ⟨some d, op, ty, pos', aft', some (j, b)⟩) (hj : (ops[j]?).bind (·.dst) = some e) (hb : evO N τ (.tmp e) = .bool (!b)) (h : XT P r N ops Q S U p (upd τ d undef) ds w) : XT P r N ops Q S U (.eff i p) τ ds w := by
  show match ops[i]? with | some o => OpE P r N ops o Q τ ds w (fun τ' ds' w' => Keep S w w' ∧ XT P r N ops Q S U p τ' ds' w') | none => False
  rw [hi]
  show OpE P r N ops _ Q τ ds w _
  unfold OpE
  rw [if_neg (by simp [wantedT, Region.wanted, yieldedT, hj, hb])]
  exact ⟨Keep.refl _ _, h⟩
theorem xt_nil (h : Q .normal τ ds w) : XT P r N ops Q S U .done τ ds w := h
/-- A truth value in a slot, taken apart. -/
theorem upd_self {t : Nat} [e : Ev τ t v] : upd τ t v = τ := by
  funext s
  by_cases h : s = t
  · subst h; rw [upd_same]; exact e.eq.symm
  · rw [upd_ne _ _ h]
theorem xl_split (t : Nat) {c : Bool} {l : List Oper} [e : Ev τ t (.bool c)] (ht : c = true → XL P r N ops Q l (upd τ t (.bool true)) ds w) (hf : c = false → XL P r N ops Q l (upd τ t (.bool false)) ds w) : XL P r N ops Q l τ ds w := by
  cases c with
  | true => have := ht rfl; rwa [upd_self] at this
  | false => have := hf rfl; rwa [upd_self] at this
theorem xt_split (t : Nat) {c : Bool} {p : Plan} [e : Ev τ t (.bool c)] (ht : c = true → XT P r N ops Q S U p (upd τ t (.bool true)) ds w) (hf : c = false → XT P r N ops Q S U p (upd τ t (.bool false)) ds w) : XT P r N ops Q S U p τ ds w := by
  cases c with
  | true => have := ht rfl; rwa [upd_self] at this
  | false => have := hf rfl; rwa [upd_self] at this

/-! moves -/
theorem v_move {x : Operand} [h : EvO N τ x v] : Val P r N S (.move x) ty τ w v := ⟨fun _ => nofun, fun W _ => by simp [execOp, h.eq]⟩
theorem v_assign {x : Operand} [h : EvO N τ x v] : Val P r N S (.assign x) ty τ w v := ⟨fun _ => nofun, fun W _ => by simp [execOp, h.eq]⟩
theorem v_pickT {c x y : Operand} [hc : EvO N τ c (.bool true)] [h : EvO N τ x v] : Val P r N S (.pick c x y) ty τ w v := ⟨fun _ => nofun, fun W _ => by simp [execOp, hc.eq, h.eq, asBool]⟩
theorem v_pickF {c x y : Operand} [hc : EvO N τ c (.bool false)] [h : EvO N τ y v] : Val P r N S (.pick c x y) ty τ w v := ⟨fun _ => nofun, fun W _ => by simp [execOp, hc.eq, h.eq, asBool]⟩
theorem v_pick {c x y : Operand} {b b1 b2 : Bool} [hc : EvO N τ c (.bool b)] [h1 : EvO N τ x (.bool b1)] [h2 : EvO N τ y (.bool b2)] : Val P r N S (.pick c x y) ty τ w (.bool (if b then b1 else b2)) := ⟨fun _ => nofun, fun W _ => by cases b <;> simp [execOp, hc.eq, h1.eq, h2.eq, asBool]⟩

theorem beq_dec {α : Type} [BEq α] [LawfulBEq α] [DecidableEq α] (a b : α) : (a == b) = decide (a = b) := by by_cases h : a = b <;> simp [h]
/-! whole numbers -/
section ints
variable {k : IntKind} {a b : Int} {x y : Operand} {t t' : TypeId} [hx : EvO N τ x (.int k a)] [hy : EvO N τ y (.int k b)]
include hx hy
theorem v_eql : Val P r N S (.binOp .eql t x y t') ty τ w (.bool (decide (a = b))) := ⟨fun _ => nofun, fun W _ => by simp [execOp, hx.eq, hy.eq, eqGuard, binOp, Op.intCmp]; exact beq_dec a b⟩
theorem v_neq : Val P r N S (.binOp .neq t x y t') ty τ w (.bool (!decide (a = b))) := ⟨fun _ => nofun, fun W _ => by simp [execOp, hx.eq, hy.eq, eqGuard, binOp, Op.intCmp, bne]; exact beq_dec a b⟩
theorem v_lss : Val P r N S (.binOp .lss t x y t') ty τ w (.bool (decide (a < b))) := ⟨fun _ => nofun, fun W _ => by simp [execOp, hx.eq, hy.eq, eqGuard, binOp, Op.intCmp]⟩
theorem v_leq : Val P r N S (.binOp .leq t x y t') ty τ w (.bool (decide (a ≤ b))) := ⟨fun _ => nofun, fun W _ => by simp [execOp, hx.eq, hy.eq, eqGuard, binOp, Op.intCmp]⟩
theorem v_gtr : Val P r N S (.binOp .gtr t x y t') ty τ w (.bool (decide (b < a))) := ⟨fun _ => nofun, fun W _ => by simp [execOp, hx.eq, hy.eq, eqGuard, binOp, Op.intCmp]⟩
theorem v_geq : Val P r N S (.binOp .geq t x y t') ty τ w (.bool (decide (b ≤ a))) := ⟨fun _ => nofun, fun W _ => by simp [execOp, hx.eq, hy.eq, eqGuard, binOp, Op.intCmp]⟩
theorem v_addw : Val P r N S (.binOp .add t x y t') ty τ w (.int k (k.wrap (a + b))) := ⟨fun _ => nofun, fun W _ => by simp [execOp, hx.eq, hy.eq, eqGuard, binOp, Op.intArith]⟩
theorem v_subw : Val P r N S (.binOp .sub t x y t') ty τ w (.int k (k.wrap (a - b))) := ⟨fun _ => nofun, fun W _ => by simp [execOp, hx.eq, hy.eq, eqGuard, binOp, Op.intArith]⟩
theorem v_mulw : Val P r N S (.binOp .mul t x y t') ty τ w (.int k (k.wrap (a * b))) := ⟨fun _ => nofun, fun W _ => by simp [execOp, hx.eq, hy.eq, eqGuard, binOp, Op.intArith]⟩
end ints
theorem wrap_in {a : Int} (h1 : -9223372036854775808 ≤ a) (h2 : a ≤ 9223372036854775807) : IntKind.i64.wrap a = a := Go.IntWalk.i64_in a ⟨h1, h2⟩
section i64
variable {a b : Int} {x y : Operand} {t t' : TypeId} [hx : EvO N τ x (.int .i64 a)] [hy : EvO N τ y (.int .i64 b)]
theorem v_add (h : -9223372036854775808 ≤ a + b ∧ a + b ≤ 9223372036854775807) : Val P r N S (.binOp .add t x y t') ty τ w (.int .i64 (a + b)) := by have := v_addw (P := P) (r := r) (N := N) (S := S) (τ := τ) (w := w) (ty := ty) (t := t) (t' := t') (hx := hx) (hy := hy); rwa [wrap_in h.1 h.2] at this
theorem v_sub (h : -9223372036854775808 ≤ a - b ∧ a - b ≤ 9223372036854775807) : Val P r N S (.binOp .sub t x y t') ty τ w (.int .i64 (a - b)) := by have := v_subw (P := P) (r := r) (N := N) (S := S) (τ := τ) (w := w) (ty := ty) (t := t) (t' := t') (hx := hx) (hy := hy); rwa [wrap_in h.1 h.2] at this
theorem v_mul (h : -9223372036854775808 ≤ a * b ∧ a * b ≤ 9223372036854775807) : Val P r N S (.binOp .mul t x y t') ty τ w (.int .i64 (a * b)) := by have := v_mulw (P := P) (r := r) (N := N) (S := S) (τ := τ) (w := w) (ty := ty) (t := t) (t' := t') (hx := hx) (hy := hy); rwa [wrap_in h.1 h.2] at this
theorem v_rem {k : IntKind} {a b : Int} [hx : EvO N τ x (.int k a)] [hy : EvO N τ y (.int k b)] (h : b ≠ 0) : Val P r N S (.binOp .rem t x y t') ty τ w (.int k (a.tmod b)) := ⟨fun _ => nofun, fun W _ => by simp [execOp, hx.eq, hy.eq, eqGuard, binOp, Op.intDiv, h]⟩
theorem v_quo {k : IntKind} {a b : Int} [hx : EvO N τ x (.int k a)] [hy : EvO N τ y (.int k b)] (h : b ≠ 0) : Val P r N S (.binOp .quo t x y t') ty τ w (.int k (k.wrap (a.tdiv b))) := ⟨fun _ => nofun, fun W _ => by simp [execOp, hx.eq, hy.eq, eqGuard, binOp, Op.intDiv, h]⟩
theorem v_neg {a : Int} {t : TypeId} {x : Operand} [hx : EvO N τ x (.int .i64 a)] (h : -9223372036854775808 ≤ -a ∧ -a ≤ 9223372036854775807) : Val P r N S (.unOp .neg t x) ty τ w (.int .i64 (-a)) := ⟨fun _ => nofun, fun W _ => by
  have : IntKind.i64.wrap (-a) = -a := wrap_in h.1 h.2
  simp [execOp, hx.eq, Op.unary, Op.intArith, this]⟩
theorem v_not {b : Bool} {t : TypeId} {x : Operand} [hx : EvO N τ x (.bool b)] : Val P r N S (.unOp .not t x) ty τ w (.bool (!b)) := ⟨fun _ => nofun, fun W _ => by simp [execOp, hx.eq, Op.unary]⟩
end i64

/-! strings -/
section strs
variable {a b : ByteArray} {x y : Operand} {t t' : TypeId} [hx : EvO N τ x (.string a)] [hy : EvO N τ y (.string b)]
include hx hy
theorem v_seql : Val P r N S (.binOp .eql t x y t') ty τ w (.bool (decide (a = b))) := ⟨fun _ => nofun, fun W _ => by
  have e : (a.toList == b.toList) = decide (a = b) := by
    rw [beq_dec]; congr 1; rw [eq_iff_iff]
    exact ⟨fun h => ByteArray.ext (by have := congrArg List.toArray h; simpa [ByteArray.toList_eq] using this), fun h => by rw [h]⟩
  simp [execOp, hx.eq, hy.eq, eqGuard, binOp, Op.stringOp, e]⟩
end strs

/-! calls of built-in functions that look alone -/
theorem v_len {x : Operand} {t e : TypeId} {A : Option Addr} {n c : Nat} [hx : EvO N τ x (.slice A n c)] [hu : Und P t (.slice e)] : Val P r N S (.call { callee := .builtin .len, args := #[x], argTypes := #[t] }) ty τ w (.int .i64 (n : Int)) := ⟨fun _ => nofun, fun W _ => by
  simp [execOp, resolve, invoke, builtin, hx.eq, Builtin.len_, run_underlying hu.eq, goInt]⟩
theorem v_lens {x : Operand} {t : TypeId} {s : ByteArray} [hx : EvO N τ x (.string s)] [hu : Und P t .string] : Val P r N S (.call { callee := .builtin .len, args := #[x], argTypes := #[t] }) ty τ w (.int .i64 (s.size : Int)) := ⟨fun _ => nofun, fun W _ => by
  simp [execOp, resolve, invoke, builtin, hx.eq, Builtin.len_, run_underlying hu.eq, goInt]⟩
theorem v_min {x y : Operand} {t : Array TypeId} {k : IntKind} {a b : Int} [hx : EvO N τ x (.int k a)] [hy : EvO N τ y (.int k b)] : Val P r N S (.call { callee := .builtin .min, args := #[x, y], argTypes := t }) ty τ w (.int k (min a b)) := ⟨fun _ => nofun, fun W _ => by
  have e : (if b < a then b else a) = min a b := by split <;> omega
  simp [execOp, resolve, invoke, builtin, hx.eq, hy.eq, Builtin.min_, Builtin.min2, e]⟩

/-! structs and tuples -/
theorem v_extract {x : Operand} {i : Nat} {l : List Value} [hx : EvO N τ x (.tuple l.toArray)] [h : CsGet l.toArray i v] : Val P r N S (.extract x i) ty τ w v := ⟨fun _ => nofun, fun W _ => by
  have := h.eq
  simp [execOp, hx.eq, Instr.extract, this]⟩
theorem v_makeFunc {fn : Fn} {a c : List Operand} {va vc : List Value} [ha : EvL N τ a va] [hc : EvL N τ c vc] : Val P r N S (.makeFunc fn a.toArray c.toArray) ty τ w (.func fn va.toArray vc.toArray) := ⟨fun _ => nofun, fun W _ => by
  simp [execOp, Instr.makeFunc, ha.eq, hc.eq]⟩
theorem v_nilCheckP {x : Operand} {a : Addr} [hx : EvO N τ x (.pointer (some a))] : Val P r N S (.nilCheck x) ty τ w (.pointer (some a)) := ⟨fun _ => nofun, fun W _ => by simp [execOp, hx.eq]⟩
theorem v_nilCheckF {x : Operand} {f : FuncId} {a c : Array Value} [hx : EvO N τ x (.func (.func f) a c)] : Val P r N S (.nilCheck x) ty τ w (.func (.func f) a c) := ⟨fun _ => nofun, fun W _ => by simp [execOp, hx.eq]⟩
/-- A struct's part by value: one cell. -/
theorem v_field {x : Operand} {s : TypeId} {f off : Nat} {t : TypeId} {cs : Array Value} [hx : EvO N τ x (.agg cs)] [hf : Fld P s f off t] [ho : One P t] [hc : CsGet cs off v] : Val P r N S (.field s x f) ty τ w v := ⟨fun _ => nofun, fun W _ => by
  obtain ⟨fs, fd, i, h1, h2, h3, h4, h5, h6⟩ := hf.ex
  obtain ⟨dd, h7, h8⟩ := ho.ex
  have hc' := hc.eq
  subst h5; subst h6
  have hagg : (isAgg fd.type).run P W = .ok false W := by
    unfold isAgg
    cases dd <;> simp_all [run_underlying h7]
  simp [execOp, hx.eq, Instr.field, run_underlying h1, h2, asAgg, part, hagg, hc']⟩

/-! addresses -/
class AddN (a b : Nat) (c : outParam Nat) : Prop where eq : a + b = c
instance (priority := low) addn_any (a b : Nat) : AddN a b (a + b) := ⟨rfl⟩
instance addn_zl (b : Nat) : AddN 0 b b := ⟨Nat.zero_add b⟩
instance addn_zr (a : Nat) : AddN a 0 a := ⟨rfl⟩
instance addn_1 (a : Nat) : AddN a 1 (a + 1) := ⟨rfl⟩
theorem run_fieldPlace {s : TypeId} {f off : Nat} {t : TypeId} (hf : Fld P s f off t) (a : Addr) (W : World) : (Instr.fieldAt s (.pointer (some a)) f).run P W = .ok (.pointer (some (a.add off))) W := by
  obtain ⟨fs, fd, i, h1, h2, h3, h4, h5, h6⟩ := hf.ex
  subst h5; subst h6
  simp [Instr.fieldAt, run_underlying h1, h2, Instr.sureAddr, fieldPlace, sizeOf, typeInfo, h3, h4]
theorem v_fieldAddr {x : Operand} {s : TypeId} {f off b o o' : Nat} {t : TypeId} [hx : EvO N τ x (.pointer (some ⟨b, o, none⟩))] [hf : Fld P s f off t] [ha : AddN o off o'] : Val P r N S (.fieldAddr s x f) ty τ w (.pointer (some ⟨b, o', none⟩)) := ⟨fun _ => nofun, fun W _ => by
  have := ha.eq
  simp [execOp, hx.eq, run_fieldPlace hf, add_none, this]⟩
theorem v_fieldAddrR {x : Operand} {s : TypeId} {f off j : Nat} {t : TypeId} {j' : Nat} {A : Option Addr} [hx : EvO N τ x (padd A j)] [hf : Fld P s f off t] [ha : AddN j off j'] (hA : A.isSome = true) : Val P r N S (.fieldAddr s x f) ty τ w (padd A j') := ⟨fun _ => nofun, fun W _ => by
  obtain ⟨a, rfl⟩ := Option.isSome_iff_exists.1 hA
  have e : (a.add j).add off = a.add (j + off) := add_add a j off
  have := ha.eq
  simp [execOp, hx.eq, padd, run_fieldPlace hf, e, this]⟩
theorem v_indexAddr {x y : Operand} {t e : TypeId} {sz bytes : Nat} {z : Value} {A : Option Addr} {n c : Nat} {i : Int} (k : Nat) [hx : EvO N τ x (.slice A n c)] [hy : EvO N τ y (.int .i64 i)] [hu : Und P t (.slice e)] [hi : Inf P e sz bytes z]
    (hk : i = (k : Int)) (hn : k < n) (hA : A.isSome = true) : Val P r N S (.indexAddr t x y) ty τ w (padd A (k * sz)) := ⟨fun _ => nofun, fun W _ => by
  obtain ⟨a, rfl⟩ := Option.isSome_iff_exists.1 hA
  obtain ⟨ii, h1, h2, h3, h4⟩ := hi.ex
  subst hk; subst h2
  simp [execOp, hx.eq, hy.eq, Instr.indexAt, asIntOf, run_underlying hu.eq, hn, sizeOf, typeInfo, h1, padd]⟩

/-! loads -/
theorem run_isAgg_one {t : TypeId} (h : One P t) (W : World) : (isAgg t).run P W = .ok false W := by
  obtain ⟨dd, h7, h8⟩ := h.ex
  unfold isAgg
  cases dd <;> simp_all [run_underlying h7]
theorem cell_of_blk {b off : Nat} {cs : Array Value} {e : TypeId} {fr : Nat × Nat} (h : w.heap[b]? = some (.cells cs e fr)) : w.cell? ⟨b, off, none⟩ = cs[off]? := by simp [World.cell?, h]
theorem v_load {x : Operand} {t e : TypeId} {b off : Nat} {cs : Array Value} {fr : Nat × Nat} [hx : EvO N τ x (.pointer (some ⟨b, off, none⟩))] [ho : One P t] [hb : Blk w b (.cells cs e fr)] [hs : NotS S b] [hc : CsGet cs off v] : Val P r N S (.load t x) ty τ w v := ⟨fun _ => nofun, fun W hW => by
  have h1 := (hW.block b (Array.getElem?_eq_some_iff.1 hb.eq).1 hs.not).trans hb.eq
  have h2 := (cell_of_blk (off := off) h1).trans hc.eq
  simp [execOp, hx.eq, Instr.loadAt, Instr.sureAddr, loadVar, run_isAgg_one ho, h2]⟩
/-- A cell of a row. -/
theorem v_loadR {x : Operand} {t : TypeId} {A : Option Addr} {j : Nat} {cs : List Value} [hx : EvO N τ x (padd A j)] [ho : One P t] [hr : Row w A cs] [hs : RowOut S A] (hv : cs[j]? = some v) : Val P r N S (.load t x) ty τ w v := ⟨fun _ => nofun, fun W hW => by
  obtain ⟨a, rfl, hc⟩ := (hr.row.keep hW hs.out) j v hv
  simp [execOp, hx.eq, padd, Instr.loadAt, Instr.sureAddr, loadVar, run_isAgg_one ho, hc]⟩

end laws
end Go.Wst
