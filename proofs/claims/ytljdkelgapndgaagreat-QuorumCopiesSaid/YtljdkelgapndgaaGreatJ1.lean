/-
  The walk's own calculus: a function's code is stepped through over frames that are functions of slots; regions that draw their order are walked in one order. No program is named here.
-/
import Derived.RangeFuncLeaves
import Derived.OrdersIn
import Derived.Below
import Derived.WalkKit
import Derived.Great.BuildSlice
import Derived.Laws.StructEq
import Derived.Laws.OwnMore
import Derived.Maps.AppendAt
import Derived.MapKept
import Derived.Laws.Cover3
import Derived.Laws.Pointers
set_option linter.all false
namespace Go.Wst

abbrev Tau := Nat → Value
def upd (τ : Tau) (t : Nat) (v : Value) : Tau := fun s => bif Nat.beq s t then v else τ s
theorem upd_same (τ : Tau) (t : Nat) (v : Value) : upd τ t v t = v := by simp [upd]
theorem upd_ne (τ : Tau) {t s : Nat} (v : Value) (h : s ≠ t) : upd τ t v s = τ s := by
  have : Nat.beq s t = false := by rw [← Bool.not_eq_true, Nat.beq_eq]; exact h
  simp [upd, this]
def updO (τ : Tau) (d : Option Nat) (v : Value) : Tau := match d with | some t => upd τ t v | none => τ
theorem upd_comm (τ : Tau) {t s : Nat} (v u : Value) (h : s ≠ t) : upd (upd τ t v) s u = upd (upd τ s u) t v := by
  funext x
  by_cases h1 : x = s
  · subst h1; rw [upd_same, upd_ne _ _ h, upd_same]
  · rw [upd_ne _ _ h1]
    by_cases h2 : x = t
    · subst h2; rw [upd_same, upd_same]
    · rw [upd_ne _ _ h2, upd_ne _ _ h2, upd_ne _ _ h1]
theorem updO_comm (τ : Tau) (x y : Option Nat) (v u : Value) (h : ∀ d, x = some d → y ≠ some d) : updO (updO τ x v) y u = updO (updO τ y u) x v := by
  cases x with
  | none => rfl
  | some d =>
    cases y with
    | none => rfl
    | some e => exact upd_comm τ v u (fun he => h d rfl (he ▸ rfl))

structure Rel (N : Nat) (τ : Tau) (ds : List Deferred) (a : Act) : Prop where
  size : a.tmps.size = N
  get : ∀ t, t < N → a.tmps.getD t undef = τ t
  dfs : a.defers = ds

theorem Rel.put {N : Nat} {τ : Tau} {ds : List Deferred} {a : Act} (h : Rel N τ ds a) (d : Option Nat) (v : Value) : Rel N (updO τ d v) ds (a.put d v) := by
  cases d with
  | none => exact h
  | some t =>
    refine ⟨by simp [Act.put, h.size], fun s hs => ?_, by simp [Act.put, h.dfs]⟩
    simp only [Act.put, updO]
    have hs' : s < a.tmps.size := by rw [h.size]; exact hs
    by_cases hst : s = t
    · subst hst
      rw [upd_same]
      simp [hs']
    · rw [upd_ne _ _ hst, ← h.get s hs]
      simp [Array.getElem?_setIfInBounds_ne (Ne.symm hst)]

def evO (N : Nat) (τ : Tau) : Operand → Value
  | .tmp t => if t < N then τ t else undef
  | .const v => v
  | .global g => .pointer (some ⟨g, 0, none⟩)
  | .func f => .func (.func f) #[] #[]

theorem Rel.eval {N : Nat} {τ : Tau} {ds : List Deferred} {a : Act} (h : Rel N τ ds a) : a.eval = evO N τ := by
  funext x
  cases x with
  | tmp t =>
    simp only [Act.eval, evO]
    by_cases ht : t < N
    · rw [if_pos ht]; exact h.get t ht
    · rw [if_neg ht]
      have : a.tmps.size ≤ t := by rw [h.size]; exact Nat.le_of_not_lt ht
      simp [Array.getD_eq_getD_getElem?, Array.getElem?_eq_none this]
  | _ => rfl

def yieldedT (N : Nat) (ops : Array Oper) (τ : Tau) (j : Nat) : Option Bool :=
  match (ops[j]?).bind (·.dst) with
  | some d => match evO N τ (.tmp d) with | .bool b => some b | _ => none
  | none => none

theorem Rel.yielded {N : Nat} {τ : Tau} {ds : List Deferred} {a : Act} (h : Rel N τ ds a) (ops : Array Oper) : yielded ops a.tmps = yieldedT N ops τ := by
  funext j
  unfold Go.yielded yieldedT
  cases hd : (ops[j]?).bind (·.dst) with
  | none => simp
  | some d =>
    simp only [Option.bind_some]
    rw [← h.eval]
    simp only [Act.eval]
    by_cases hlt : d < a.tmps.size
    · have e1 : a.tmps[d]? = some a.tmps[d] := Array.getElem?_eq_getElem hlt
      simp only [e1, Array.getD_eq_getD_getElem?, Option.getD_some]
      cases a.tmps[d] <;> rfl
    · simp [Array.getElem?_eq_none (Nat.le_of_not_lt hlt), undef]

structure Keep (S : Nat → Prop) (w w' : World) : Prop where
  os : w'.os = w.os
  tape : w'.tape = w.tape
  output : w'.output = w.output
  size : w.heap.size ≤ w'.heap.size
  block : ∀ k, k < w.heap.size → ¬ S k → w'.heap[k]? = w.heap[k]?

theorem Keep.refl (S : Nat → Prop) (w : World) : Keep S w w := ⟨rfl, rfl, rfl, Nat.le_refl _, fun _ _ _ => rfl⟩
theorem Keep.trans {S : Nat → Prop} {a b c : World} (h : Keep S a b) (k : Keep S b c) : Keep S a c :=
  ⟨k.os.trans h.os, k.tape.trans h.tape, k.output.trans h.output, Nat.le_trans h.size k.size, fun i hi hs => (k.block i (Nat.lt_of_lt_of_le hi h.size) hs).trans (h.block i hi hs)⟩
theorem Keep.mono {S S' : Nat → Prop} {a b : World} (h : Keep S a b) (hs : ∀ k, k < a.heap.size → S k → S' k) : Keep S' a b :=
  ⟨h.os, h.tape, h.output, h.size, fun i hi hn => h.block i hi (fun hk => hn (hs i hi hk))⟩
def NoB : Nat → Prop := fun _ => False
abbrev Ext (w w' : World) : Prop := Keep NoB w w'
theorem Ext.keep {S : Nat → Prop} {a b : World} (h : Ext a b) : Keep S a b := h.mono (fun _ _ h => h.elim)
theorem Ext.below {a b : World} (h : Ext a b) : Go.RowKit.Below a.heap.size a b := ⟨h.os, h.tape, h.output, h.size, fun k hk => h.block k hk (fun h => h)⟩
theorem Ext.of_below {a b : World} (h : Go.RowKit.Below a.heap.size a b) : Ext a b := ⟨h.os, h.tape, h.output, h.size, fun k hk _ => h.block k hk⟩
theorem Keep.of_grown {a b : World} {row : Option Nat} (h : a.grownBy b row) : Keep (fun k => some k = row) a b := ⟨h.os, h.tape, h.output, h.size, fun k hk hn => h.block k hk hn⟩
theorem Keep.drawn (w : World) (n : Nat) : Ext w { w with drawn := n } := ⟨rfl, rfl, rfl, Nat.le_refl _, fun _ _ _ => rfl⟩
theorem Keep.drew (w : World) : Ext w w.drew := ⟨rfl, rfl, rfl, Nat.le_refl _, fun _ _ _ => rfl⟩
theorem Keep.alloc (w : World) (o : Obj) : Ext w (w.alloc o) := ⟨rfl, rfl, rfl, by simp, fun k hk _ => Go.RowKit.Below.heap_alloc _ _ _ hk⟩
theorem Keep.then {S T : Nat → Prop} {a b c : World} (h : Keep S a b) (k : Keep T b c) (hT : ∀ i, i < a.heap.size → T i → S i) : Keep S a c :=
  ⟨k.os.trans h.os, k.tape.trans h.tape, k.output.trans h.output, Nat.le_trans h.size k.size, fun i hi hs => (k.block i (Nat.lt_of_lt_of_le hi h.size) (fun ht => hs (hT i hi ht))).trans (h.block i hi hs)⟩

def FX (r : Option Nat) : Fence := { fn := fun _ => True, depth := none, alive := false, round := r }
theorem callsIn_FX {r : Option Nat} {n : Nat} {P : Program} {f : FuncId} {args : Array Value} {w : World} {R : Ending → World → Prop} : CallsIn (FX r) n P f args w R ↔ Calls P f args w R := by
  have h : CallsIn (FX r) n P f args w R ↔ CallsIn Fence.wide n P f args w R := Iff.rfl
  rw [h]; exact callsIn_wide

abbrev Post := Exit → Tau → List Deferred → World → Prop
def lift (N : Nat) (Q : Post) : Exit → Act → World → Prop := fun e a w => ∃ τ ds, Rel N τ ds a ∧ Q e τ ds w
def X (P : Program) (r : Option Nat) (N : Nat) (c : Code) (Q : Post) (τ : Tau) (ds : List Deferred) (w : World) : Prop :=
  ∀ a, Rel N τ ds a → c.wpIn (FX r) 0 P (lift N Q) a w

def thn (K : Tau → List Deferred → World → Prop) (Q : Post) : Post
  | .normal, τ, ds, w => K τ ds w
  | e, τ, ds, w => Q e τ ds w
def inb (id : Nat) (Q : Post) : Post
  | .exit i, τ, ds, w => bif Nat.beq i id then Q .normal τ ds w else Q (.exit i) τ ds w
  | e, τ, ds, w => Q e τ ds w

section rules
variable {P : Program} {r : Option Nat} {N : Nat} {Q : Post} {τ : Tau} {ds : List Deferred} {w : World}

theorem x_mono {c : Code} {Q' : Post} (h : X P r N c Q τ ds w) (hq : ∀ e τ ds w, Q e τ ds w → Q' e τ ds w) : X P r N c Q' τ ds w :=
  fun a ha => wpIn_mono (h a ha) fun _ _ _ ⟨t, d, hr, hQ⟩ => ⟨t, d, hr, hq _ _ _ _ hQ⟩
theorem x_skip (h : Q .normal τ ds w) : X P r N .skip Q τ ds w := fun _ ha => wpIn_skip ⟨τ, ds, ha, h⟩
theorem x_label {l : Nat} (h : Q .normal τ ds w) : X P r N (.label l) Q τ ds w := fun _ ha => wpIn_label ⟨τ, ds, ha, h⟩
theorem x_exit {id : Nat} (h : Q (.exit id) τ ds w) : X P r N (.exit id) Q τ ds w := fun _ ha => wpIn_exit ⟨τ, ds, ha, h⟩
theorem x_ret (h : Q .ret τ ds w) : X P r N .ret Q τ ds w := fun _ ha => wpIn_ret ⟨τ, ds, ha, h⟩
theorem x_seq {x y : Code} (h : X P r N x (thn (fun τ ds w => X P r N y Q τ ds w) Q) τ ds w) : X P r N (.seq x y) Q τ ds w := fun a ha =>
  wpIn_seq (wpIn_mono (h a ha) fun e _ _ ⟨t, d, hr, hQ⟩ => by
    cases e with
    | normal => exact hQ _ hr
    | _ => exact ⟨t, d, hr, hQ⟩)
theorem x_cut {x y : Code} (I : Tau → List Deferred → World → Prop) (h : X P r N x (thn I Q) τ ds w) (hk : ∀ τ ds w, I τ ds w → X P r N y Q τ ds w) : X P r N (.seq x y) Q τ ds w :=
  x_seq (x_mono h fun e t d w' hq => by
    cases e with
    | normal => exact hk _ _ _ hq
    | _ => exact hq)
theorem x_block {id : Nat} {c : Code} (h : X P r N c (inb id Q) τ ds w) : X P r N (.block id c) Q τ ds w := fun a ha =>
  wpIn_block (wpIn_mono (h a ha) fun e _ _ ⟨t, d, hr, hQ⟩ => by
    cases e with
    | exit i =>
      simp only [Exit.inBlock, inb] at hQ ⊢
      by_cases hi : i = id
      · subst hi
        have hb : Nat.beq i i = true := Nat.beq_refl i
        simp only [hb, cond_true] at hQ
        rw [if_pos rfl]; exact ⟨t, d, hr, hQ⟩
      · have hb : Nat.beq i id = false := by rw [← Bool.not_eq_true, Nat.beq_eq]; exact hi
        simp only [hb, cond_false] at hQ
        rw [if_neg hi]; exact ⟨t, d, hr, hQ⟩
    | _ => exact ⟨t, d, hr, hQ⟩)
theorem x_cond {c : Operand} {x y : Code} {b : Bool} (hc : evO N τ c = .bool b) (ht : b = true → X P r N x Q τ ds w) (hf : b = false → X P r N y Q τ ds w) : X P r N (.cond c x y) Q τ ds w := fun a ha =>
  wpIn_cond_split (t := b) (by rw [ha.eval]; exact hc) (fun h => ht h a ha) (fun h => hf h a ha)
theorem x_loop {c : Code} (I : Nat → Tau → List Deferred → World → Prop) (m : Nat) (h0 : I m τ ds w)
    (round : ∀ m τ ds w, I m τ ds w → X P r N c (thn (fun τ' ds' w' => ∃ m', m' < m ∧ I m' τ' ds' w') Q) τ ds w) : X P r N (.loop c) Q τ ds w := by
  intro a ha b k cs hro hb hr
  have key : ∀ j a τ ds w, Rel N τ ds a → I j τ ds w →
      ∃ e a' w', lift N Q e a' w' ∧ ArrivesIn (Machine.fenced P (FX r)) P (lone (b.atR a (.code c :: .inLoop c :: k)) cs w) b k cs e a' w' := by
    intro j
    induction j using Nat.strongRecOn with
    | _ j ih =>
      intro a τ ds w hrel hI
      obtain ⟨e, a₁, w₁, hq, harr⟩ := round j τ ds w hI a hrel b (.inLoop c :: k) cs hro hb hr
      obtain ⟨t1, d1, hr1, hq⟩ := hq
      cases e with
      | normal =>
        obtain ⟨m', hlt, hI₁⟩ := hq
        obtain ⟨e₂, a₂, w₂, hq₂, harr₂⟩ := ih m' hlt a₁ t1 d1 w₁ hr1 hI₁
        exact ⟨e₂, a₂, w₂, hq₂, .of_steps (StepsIn.trans harr (.one (fenced_calm hb hr rfl) stepR_inLoop)) harr₂⟩
      | exit id => exact ⟨_, a₁, w₁, ⟨t1, d1, hr1, hq⟩, .pass (x := .inLoop c) rfl (fun _ _ => .inl (by simp)) harr⟩
      | goto l => exact ⟨_, a₁, w₁, ⟨t1, d1, hr1, hq⟩, .pass (x := .inLoop c) rfl (fun _ _ => .inl (by simp)) harr⟩
      | ret => exact ⟨_, a₁, w₁, ⟨t1, d1, hr1, hq⟩, .pass (x := .inLoop c) rfl (fun _ _ => .inl (by simp)) harr⟩
      | panic ch => exact ⟨_, a₁, w₁, ⟨t1, d1, hr1, hq⟩, .pass (x := .inLoop c) rfl (fun _ _ => .inl (by simp)) harr⟩
      | outgrown => exact ⟨_, a₁, w₁, ⟨t1, d1, hr1, hq⟩, .pass (x := .inLoop c) rfl (fun _ _ => .inl (by simp)) harr⟩
  obtain ⟨e, a', w', hq, harr⟩ := key m a τ ds w ha h0
  exact ⟨e, a', w', hq, .of_steps (.one (fenced_calm hb hr rfl) stepR_loop) harr⟩

def Upon (P : Program) (r : Option Nat) (o : Oper) (τ : Tau) (ds : List Deferred) (next : Tau → List Deferred → World → Prop) (Q : Post) : Result Next → Prop
  | .ok (.value v) w' => next (updO τ o.dst v) ds w'
  | .ok .skip w' => next (updO τ o.dst undef) ds w'
  | .ok (.defer d) w' => next (updO τ o.dst undef) (d :: ds) w'
  | .ok (.enter f args) w' => Calls P f args w' fun e w'' => (∃ v, e = .returned v ∧ next (updO τ o.dst v) ds w'') ∨ (∃ ch, e = .panicked ch ∧ Q (.panic ch) τ ds w'')
  | .ok (.round l f tmps assign body) w' => RoundIn (FX r) 0 P l f tmps assign body w' fun e w'' => (∃ v, e = .returned v ∧ next (updO τ o.dst v) ds w'') ∨ (∃ ch, e = .panicked ch ∧ Q (.panic ch) τ ds w'')
  | .halt (.panic v) w' => Q (.panic [{ v, recovered := false }]) τ ds w'
  | _ => False

theorem Upon.mono {o : Oper} {next next' : Tau → List Deferred → World → Prop} {R : Result Next} (h : ∀ τ ds w, next τ ds w → next' τ ds w) (hu : Upon P r o τ ds next Q R) : Upon P r o τ ds next' Q R := by
  cases R with
  | ok n w' =>
    cases n <;> simp only [Upon] at hu ⊢ <;>
      first
        | exact h _ _ _ hu
        | exact hu.mono (fun e w'' he => he.imp (fun ⟨v, hv, hn⟩ => ⟨v, hv, h _ _ _ hn⟩) id)
  | halt x w' => cases x <;> simp only [Upon] at hu ⊢ <;> exact hu

def wantedT (N : Nat) (ops : Array Oper) (o : Oper) (τ : Tau) : Bool := Region.wanted o (yieldedT N ops τ)

def OpE (P : Program) (r : Option Nat) (N : Nat) (ops : Array Oper) (o : Oper) (Q : Post) (τ : Tau) (ds : List Deferred) (w : World) (K : Tau → List Deferred → World → Prop) : Prop :=
  if wantedT N ops o τ = true then Upon P r o τ ds K Q ((o.semAt r (evO N τ)).run P w) else K (updO τ o.dst undef) ds w

theorem OpE.mono {ops : Array Oper} {o : Oper} {K K' : Tau → List Deferred → World → Prop} (h : ∀ τ ds w, K τ ds w → K' τ ds w) (hh : OpE P r N ops o Q τ ds w K) : OpE P r N ops o Q τ ds w K' := by
  unfold OpE at *
  split
  · rename_i hw; rw [if_pos hw] at hh; exact Upon.mono h hh
  · rename_i hw; rw [if_neg hw] at hh; exact h _ _ _ hh

theorem wpIn_of_upon {o : Oper} {a : Act} {K : Tau → List Deferred → World → Prop} (ha : Rel N τ ds a) (h : Upon P r o τ ds K Q ((o.semAt r (evO N τ)).run P w)) :
    o.wpIn (FX r) 0 P a w (fun a w => ∃ τ ds, Rel N τ ds a ∧ K τ ds w) (lift N Q) := by
  refine ⟨fun _ _ => trivial, ?_⟩
  show Oper.uponIn (FX r) 0 P o a _ (lift N Q) ((o.semAt r a.eval).run P w)
  rw [ha.eval]
  generalize (o.semAt r (evO N τ)).run P w = R at h
  cases R with
  | ok n w' =>
    cases n <;> simp only [Upon] at h <;> simp only [Oper.uponIn]
    case value v => exact ⟨_, _, ha.put _ _, h⟩
    case skip => exact ⟨_, _, ha.put _ _, h⟩
    case defer d =>
      have h2 : Rel N τ (d :: ds) { a with defers := d :: a.defers } := ⟨ha.size, ha.get, by rw [ha.dfs]⟩
      exact ⟨_, _, h2.put _ _, h⟩
    case enter f args =>
      refine ⟨fun h => by simp [FX] at h, callsIn_FX.2 (h.mono fun e w'' he => ?_)⟩
      rcases he with ⟨v, rfl, hn⟩ | ⟨ch, rfl, hn⟩
      · exact ⟨_, _, ha.put _ _, hn⟩
      · exact ⟨_, _, ha, hn⟩
    case round l f tmps assign body =>
      refine ⟨fun h => by simp [FX] at h, h.mono fun e w'' he => ?_⟩
      rcases he with ⟨v, rfl, hn⟩ | ⟨ch, rfl, hn⟩
      · exact ⟨_, _, ha.put _ _, hn⟩
      · exact ⟨_, _, ha, hn⟩
  | halt x w' =>
    cases x <;> simp only [Upon] at h <;> simp only [Oper.uponIn]
    case panic v => exact ⟨_, _, ha, h⟩

theorem wpOpIn_of_opE {ops : Array Oper} {i : Nat} {o : Oper} {a : Act} {K : Tau → List Deferred → World → Prop} (hi : ops[i]? = some o) (ha : Rel N τ ds a) (h : OpE P r N ops o Q τ ds w K) :
    wpOpIn (FX r) 0 P ops (lift N Q) i (fun a w => ∃ τ ds, Rel N τ ds a ∧ K τ ds w) a w := by
  unfold wpOpIn
  simp only [hi]
  unfold OpE wantedT at h
  rw [ha.yielded]
  split
  · rename_i hw; rw [if_pos hw] at h; exact wpIn_of_upon ha h
  · rename_i hw; rw [if_neg hw] at h; exact ⟨fun _ _ => trivial, _, _, ha.put _ _, h⟩

def XL (P : Program) (r : Option Nat) (N : Nat) (ops : Array Oper) (Q : Post) : List Oper → Tau → List Deferred → World → Prop
  | [], τ, ds, w => Q .normal τ ds w
  | o :: rest, τ, ds, w => OpE P r N ops o Q τ ds w (XL P r N ops Q rest)

theorem x_region_aux {ops : Array Oper} (l : List Oper) : ∀ (k : Nat), (∀ j, l[j]? = ops[k + j]?) → ∀ (τ : Tau) (ds : List Deferred) (w : World), XL P r N ops Q l τ ds w →
    ∀ a, Rel N τ ds a → wpOpsIn (FX r) 0 P ops (lift N Q) (List.range' k l.length) a w := by
  induction l with
  | nil => intro k _ τ ds w h a ha; exact ⟨τ, ds, ha, h⟩
  | cons o l ih =>
    intro k hk τ ds w h a ha
    have h0 : ops[k]? = some o := by simpa using (hk 0).symm
    have ih' := ih (k + 1) (fun j => by have := hk (j + 1); simpa [Nat.add_assoc, Nat.add_comm 1 j] using this)
    rw [List.length_cons, List.range'_succ, wpOpsIn_cons]
    exact wpOpIn_mono (fun a w ⟨t, d, hr, hX⟩ => ih' t d w hX a hr) (wpOpIn_of_opE h0 ha h)

theorem x_region {id : Nat} {ops : Array Oper} (h : XL P r N ops Q ops.toList τ ds w) : X P r N (.region id ops false) Q τ ds w := fun a ha =>
  wpIn_region (by rw [List.range_eq_range', ← Array.length_toList]; exact x_region_aux ops.toList 0 (by simp) τ ds w h a ha)
theorem x_regionL {id : Nat} {l : List Oper} (h : XL P r N l.toArray Q l τ ds w) : X P r N (.region id l.toArray false) Q τ ds w := x_region (by simpa using h)

theorem semAt_congr {ρ ρ' : Operand → Value} (r : Option Nat) (o : Oper) (hs : ∀ cs b, o.op ≠ .select cs b) (h : ∀ x ∈ o.op.operands, ρ x = ρ' x) : o.semAt r ρ = o.semAt r ρ' := by
  by_cases hd : ∃ c, o.op = .defer c
  · obtain ⟨c, hc⟩ := hd
    cases r with
    | none => exact execOp_congr o hs h
    | some l =>
      unfold Oper.semAt
      rw [hc]
      simp only []
      rw [resolve_congr (ρ := ρ) (ρ' := ρ') c o.type (fun x hx => h x (by rw [hc]; exact hx))]
  · have hn : ∀ c, o.op ≠ .defer c := fun c hc => hd ⟨c, hc⟩
    rw [Oper.semAt_eq r ρ o hn, Oper.semAt_eq r ρ' o hn]
    exact execOp_congr o hs h

theorem evO_updO {x : Operand} {d : Option Nat} {v : Value} (h : ∀ t, d = some t → x ≠ .tmp t) : evO N (updO τ d v) x = evO N τ x := by
  cases d with
  | none => rfl
  | some t =>
    cases x with
    | tmp s =>
      have hne : s ≠ t := fun e => h t rfl (e ▸ rfl)
      simp only [evO, updO, upd_ne _ _ hne]
    | _ => rfl

theorem operands_looks {ops : Array Oper} {o : Oper} {d : Option Nat} (h : ∀ t, d = some t → t ∉ o.looksAt ops) : ∀ x ∈ o.op.operands, ∀ t, d = some t → x ≠ .tmp t := fun x hx t hd hxt => h t hd (by
  subst hxt
  exact List.mem_append_left _ (List.mem_filterMap.2 ⟨.tmp t, by simpa using hx, rfl⟩))

theorem semAt_updO {ops : Array Oper} (o : Oper) (hs : ∀ cs b, o.op ≠ .select cs b) (d : Option Nat) (v : Value) (h : ∀ t, d = some t → t ∉ o.looksAt ops) : o.semAt r (evO N (updO τ d v)) = o.semAt r (evO N τ) :=
  semAt_congr r o hs fun x hx => evO_updO (operands_looks h x hx)

theorem wantedT_updO {ops : Array Oper} (o : Oper) (d : Option Nat) (v : Value) (h : ∀ t, d = some t → t ∉ o.looksAt ops) : wantedT N ops o (updO τ d v) = wantedT N ops o τ := by
  unfold wantedT Region.wanted
  cases hg : o.guard with
  | none => rfl
  | some p =>
    obtain ⟨g, want⟩ := p
    simp only []
    have : yieldedT N ops (updO τ d v) g = yieldedT N ops τ g := by
      unfold yieldedT
      cases hd : (ops[g]?).bind (·.dst) with
      | none => rfl
      | some e =>
        simp only []
        rw [evO_updO (x := .tmp e) fun t ht hx => h t ht (by
          have he : e = t := by injection hx
          subst he
          exact List.mem_append_right _ (by rw [hg]; simp [hd]))]
    rw [this]

def Yld (P : Program) (r : Option Nat) (N : Nat) (ops : Array Oper) (S : Nat → Prop) (o : Oper) (v : Value) (τ : Tau) (w : World) : Prop :=
  (wantedT N ops o τ = true ∧ ∀ W, Keep S w W → (o.semAt r (evO N τ)).run P W = .ok (.value v) W) ∨ (wantedT N ops o τ = false ∧ v = undef)

theorem Yld.later {ops : Array Oper} {S : Nat → Prop} {o : Oper} {v : Value} {w' : World} (h : Yld P r N ops S o v τ w) (hk : Keep S w w') : Yld P r N ops S o v τ w' :=
  h.imp (fun ⟨a, b⟩ => ⟨a, fun W hW => b W (hk.trans hW)⟩) id

theorem Yld.opE {ops : Array Oper} {S : Nat → Prop} {o : Oper} {v : Value} (h : Yld P r N ops S o v τ w) {K : Tau → List Deferred → World → Prop} (hK : K (updO τ o.dst v) ds w) : OpE P r N ops o Q τ ds w K := by
  unfold OpE
  rcases h with ⟨hw, hv⟩ | ⟨hw, rfl⟩
  · rw [if_pos hw, hv w (Keep.refl _ _)]; exact hK
  · rw [if_neg (by simp [hw])]; exact hK

theorem Yld.updO_ {ops : Array Oper} {S : Nat → Prop} {o : Oper} {v : Value} (hs : ∀ cs b, o.op ≠ .select cs b) (h : Yld P r N ops S o v τ w) (d : Option Nat) (u : Value) (hd : ∀ t, d = some t → t ∉ o.looksAt ops) : Yld P r N ops S o v (updO τ d u) w := by
  unfold Yld at *
  rw [wantedT_updO o d u hd, semAt_updO o hs d u hd]
  exact h

theorem OpE_put {ops : Array Oper} {S : Nat → Prop} {oi oj : Oper} {v : Value} (hap : oi.apart ops oj = true) (hsi : ∀ cs b, oi.op ≠ .select cs b) (hsj : ∀ cs b, oj.op ≠ .select cs b)
    (hQ : ∀ ch τ τ' ds w, Q (.panic ch) τ ds w → Q (.panic ch) τ' ds w) {K : Tau → List Deferred → World → Prop}
    (hy : Yld P r N ops S oi v τ w) (h : OpE P r N ops oj Q (updO τ oi.dst v) ds w (fun τ' ds' w' => Keep S w w' ∧ K τ' ds' w')) :
    OpE P r N ops oj Q τ ds w (fun τ' ds' w' => Keep S w w' ∧ Yld P r N ops S oi v τ' w' ∧ K (updO τ' oi.dst v) ds' w') := by
  obtain ⟨h1, h2, h3⟩ := Oper.apart_spec hap
  have keep : ∀ u w', Keep S w w' → Yld P r N ops S oi v (updO τ oj.dst u) w' := fun u w' hk => (hy.updO_ hsi oj.dst u h3).later hk
  unfold OpE at *
  rw [wantedT_updO oj oi.dst v h1] at h
  split
  · rename_i hw
    rw [if_pos hw, semAt_updO oj hsj oi.dst v h1] at h
    generalize (oj.semAt r (evO N τ)).run P w = R at *
    cases R with
    | ok n w' =>
      cases n <;> simp only [Upon] at h ⊢
      case value u => rw [← updO_comm τ oi.dst oj.dst v u h2]; exact ⟨h.1, keep u w' h.1, h.2⟩
      case skip => rw [← updO_comm τ oi.dst oj.dst v undef h2]; exact ⟨h.1, keep _ w' h.1, h.2⟩
      case defer d => rw [← updO_comm τ oi.dst oj.dst v undef h2]; exact ⟨h.1, keep _ w' h.1, h.2⟩
      case enter f args =>
        refine h.mono fun e w'' he => ?_
        rcases he with ⟨u, rfl, hk, hn⟩ | ⟨ch, rfl, hn⟩
        · exact .inl ⟨u, rfl, by rw [← updO_comm τ oi.dst oj.dst v u h2]; exact ⟨hk, keep u w'' hk, hn⟩⟩
        · exact .inr ⟨ch, rfl, hQ _ _ _ _ _ hn⟩
      case round l f tmps assign body =>
        refine h.mono fun e w'' he => ?_
        rcases he with ⟨u, rfl, hk, hn⟩ | ⟨ch, rfl, hn⟩
        · exact .inl ⟨u, rfl, by rw [← updO_comm τ oi.dst oj.dst v u h2]; exact ⟨hk, keep u w'' hk, hn⟩⟩
        · exact .inr ⟨ch, rfl, hQ _ _ _ _ _ hn⟩
    | halt x w' =>
      cases x <;> simp only [Upon] at h ⊢
      case panic u => exact hQ _ _ _ _ _ h
  · rename_i hw
    rw [if_neg hw] at h
    refine ⟨h.1, keep _ w h.1, ?_⟩
    rw [← updO_comm τ oi.dst oj.dst v undef h2]
    exact h.2

def allS : Nat → Prop := fun _ => True
theorem Keep.all {S : Nat → Prop} {a b : World} (h : Keep S a b) : Keep allS a b := h.mono (fun _ _ _ => trivial)
def XA (P : Program) (r : Option Nat) (N : Nat) (ops : Array Oper) (Q : Post) (S T : Nat → Prop) (h : List Nat) : Nat → Array Bool → Tau → List Deferred → World → Prop
  | 0, listed, τ, ds, w => Region.ready .any ops listed = [] ∧ Q .normal τ ds w
  | fuel + 1, listed, τ, ds, w =>
    (Region.ready .any ops listed = [] → Q .normal τ ds w) ∧
    ∀ i ∈ Region.ready .any ops listed, ∀ o, ops[i]? = some o → OpE P r N ops o Q τ ds w (fun τ' ds' w' => Keep (if i ∈ h then (fun k => S k ∨ T k) else S) w w' ∧ XA P r N ops Q S T h fuel (listed.setIfInBounds i true) τ' ds' w')

theorem XA_sound {ops : Array Oper} {S T : Nat → Prop} {h : List Nat} : ∀ (fuel : Nat) (listed : Array Bool) (τ : Tau) (ds : List Deferred) (w : World), XA P r N ops Q S T h fuel listed τ ds w →
    ∀ a, Rel N τ ds a → wpAnyIn (FX r) 0 P .any ops (lift N Q) fuel listed a w
  | 0, _, τ, ds, _, h, a, ha => ⟨h.1, τ, ds, ha, h.2⟩
  | fuel + 1, listed, τ, ds, w, h, a, ha => by
    refine ⟨fun he => ⟨τ, ds, ha, h.1 he⟩, fun i hi => ?_⟩
    obtain ⟨_, o, ho, _⟩ := mem_ready.1 hi
    exact wpOpIn_mono (fun a w ⟨t, d, hr, hX⟩ => XA_sound fuel _ t d w hX.2 a hr) (wpOpIn_of_opE ho ha (h.2 i hi o ho))

def waitsN (ops : Array Oper) (listed : Array Bool) (i : Nat) : Nat → Nat → Bool
  | 0, _ => false
  | n + 1, e => match ops[e]? with
    | some o => o.after.any (fun x => Region.binds .any x && x.on == i) || o.after.any (fun x => Region.binds .any x && !listed.getD x.on false && waitsN ops listed i n x.on)
    | none => false
theorem waitsN_ready {ops : Array Oper} {listed : Array Bool} {i j n : Nat} (h : waitsN ops listed i n j = true) (hj : j ∈ Region.ready .any ops listed) (hi : listed.getD i false = false) : False := by
  cases n with
  | zero => cases h
  | succ n =>
    obtain ⟨_, o, ho, hall⟩ := mem_ready.1 hj
    simp only [waitsN, ho, Bool.or_eq_true] at h
    rcases h with h | h
    · obtain ⟨x, hx, hb⟩ := Array.any_eq_true'.1 h
      simp only [Bool.and_eq_true, beq_iff_eq] at hb
      have := hall x hx hb.1
      rw [hb.2, hi] at this
      cases this
    · obtain ⟨x, hx, hb⟩ := Array.any_eq_true'.1 h
      simp only [Bool.and_eq_true, Bool.not_eq_true'] at hb
      have := hall x hx hb.1.1
      rw [hb.1.2] at this
      cases this
theorem waitsN_later {ops : Array Oper} {listed : Array Bool} {i j : Nat} (hj : j ∈ Region.ready .any ops listed) (hi : listed.getD i false = false) : ∀ (n e : Nat), waitsN ops listed i n e = true → waitsN ops (listed.setIfInBounds j true) i n e = true := by
  intro n
  induction n with
  | zero => intro e h; cases h
  | succ n ih =>
    intro e h
    unfold waitsN at h ⊢
    cases ho : ops[e]? with
    | none => simp [ho] at h
    | some o =>
      simp only [ho, Bool.or_eq_true] at h ⊢
      rcases h with h | h
      · exact .inl h
      · refine .inr ?_
        obtain ⟨x, hx, hb⟩ := Array.any_eq_true'.1 h
        simp only [Bool.and_eq_true, Bool.not_eq_true'] at hb
        refine Array.any_eq_true'.2 ⟨x, hx, ?_⟩
        simp only [Bool.and_eq_true, Bool.not_eq_true']
        have hne : j ≠ x.on := fun e => waitsN_ready (e ▸ hb.2) hj hi
        exact ⟨⟨hb.1.1, by rw [getD_set_ne false hne]; exact hb.1.2⟩, ih _ hb.2⟩
theorem ready_un {ops : Array Oper} {listed : Array Bool} {i : Nat} (h : i ∈ Region.ready .any ops listed) : listed.getD i false = false := by
  have h0 := (mem_ready.1 h).1
  rcases Nat.lt_or_ge i listed.size with h' | h'
  · simp [h'] at h0 ⊢; exact h0
  · simp [Array.getElem?_eq_none h']
theorem XA_first {ops : Array Oper} {S S' T : Nat → Prop} {h : List Nat} {i : Nat} {oi : Oper} {v : Value} (hi : ops[i]? = some oi) (hsel : ∀ (j : Nat) (o : Oper) cs b, ops[j]? = some o → o.op ≠ .select cs b)
    (hQ : ∀ ch τ τ' ds w, Q (.panic ch) τ ds w → Q (.panic ch) τ' ds w) :
    ∀ (fuel : Nat) (listed : Array Bool) (τ : Tau) (ds : List Deferred) (w : World),
      (∀ j oj, ops[j]? = some oj → j ≠ i → listed.getD j true = false → (∀ e ∈ oj.after, Region.binds .any e = true → e.on ≠ i) → oi.apart ops oj = true) →
      (S' = (fun k => S k ∨ T k) ∨ (S' = S ∧ ∀ e, e ∈ h → listed.getD e true = false → e ≠ i → ∃ n, waitsN ops listed i n e = true)) →
      i ∈ Region.ready .any ops listed → Yld P r N ops S' oi v τ w →
      XA P r N ops Q S T h fuel (listed.setIfInBounds i true) (updO τ oi.dst v) ds w → XA P r N ops Q S T h (fuel + 1) listed τ ds w := by
  intro fuel
  induction fuel with
  | zero =>
    intro listed τ ds w _ _ hr hy H
    refine ⟨fun h => (by rw [h] at hr; cases hr), fun j hj o ho => ?_⟩
    by_cases hji : j = i
    · subst hji
      rw [hi] at ho; injection ho with ho; subst ho
      exact hy.opE ⟨Keep.refl _ _, H⟩
    · have := ready_mono hj hji
      rw [H.1] at this
      cases this
  | succ fuel ih =>
    intro listed τ ds w hfree hlast hr hy H
    refine ⟨fun h => (by rw [h] at hr; cases hr), fun j hj oj hoj => ?_⟩
    by_cases hji : j = i
    · subst hji
      rw [hi] at hoj; injection hoj with hoj; subst hoj
      exact hy.opE ⟨Keep.refl _ _, H⟩
    · have h1 := H.2 j (ready_mono hj hji) oj hoj
      obtain ⟨hjun, oj', hoj', hall⟩ := mem_ready.1 hj
      rw [hoj] at hoj'; injection hoj' with hoj'; subst hoj'
      have hnot : ∀ e ∈ oj.after, Region.binds .any e = true → e.on ≠ i := fun e he hb heq => by
        have h1 := hall e he hb
        have h0 := (mem_ready.1 hr).1
        rw [heq] at h1
        rcases Nat.lt_or_ge i listed.size with h' | h'
        · simp [h'] at h0 h1; rw [h0] at h1; cases h1
        · simp [Array.getElem?_eq_none h'] at h1
      have hS : ∀ a b : World, Keep (if j ∈ h then (fun k => S k ∨ T k) else S) a b → Keep S' a b := fun a b hk => by
        rcases hlast with hS' | ⟨hS', hlast⟩
        · rw [hS']; exact hk.mono (fun k _ e => by split at e; exact e; exact .inl e)
        · have hne : j ∉ h := fun he => by
            obtain ⟨n, hn⟩ := hlast j he hjun hji
            exact waitsN_ready hn hj (ready_un hr)
          rw [if_neg hne] at hk
          rw [hS']; exact hk
      have h1' := OpE.mono (K' := fun τ' ds' w' => Keep S' w w' ∧ (Keep (if j ∈ h then (fun k => S k ∨ T k) else S) w w' ∧ XA P r N ops Q S T h fuel ((listed.setIfInBounds i true).setIfInBounds j true) τ' ds' w')) (fun τ' ds' w' hh => ⟨hS _ _ hh.1, hh⟩) h1
      have h2 := OpE_put (hfree j oj hoj hji hjun hnot) (fun cs b => hsel i oi cs b hi) (fun cs b => hsel j oj cs b hoj) hQ hy h1'
      have hfree' : ∀ k ok, ops[k]? = some ok → k ≠ i → (listed.setIfInBounds j true).getD k true = false →
          (∀ e ∈ ok.after, Region.binds .any e = true → e.on ≠ i) → oi.apart ops ok = true := fun k ok hk hki hun hno => by
        refine hfree k ok hk hki ?_ hno
        by_cases hjk : j = k
        · subst hjk; exact hjun
        · rw [getD_set_ne true hjk] at hun; exact hun
      have hlast' : S' = (fun k => S k ∨ T k) ∨ (S' = S ∧ ∀ e, e ∈ h → (listed.setIfInBounds j true).getD e true = false → e ≠ i → ∃ n, waitsN ops (listed.setIfInBounds j true) i n e = true) := hlast.imp id (fun ⟨hS', hlast⟩ => ⟨hS', fun e he hun hei => by
        obtain ⟨n, hn⟩ := hlast e he (by
          by_cases hjk : j = e
          · subst hjk; exact hjun
          · rw [getD_set_ne true hjk] at hun; exact hun) hei
        exact ⟨n, waitsN_later hj (ready_un hr) n e hn⟩⟩)
      refine h2.mono fun t d w' h3 => ⟨h3.2.2.1, ih (listed.setIfInBounds j true) t d w' hfree' hlast' (ready_mono hr (Ne.symm hji)) h3.2.1 ?_⟩
      rw [Array.setIfInBounds_comm _ _ hji]
      exact h3.2.2.2

inductive Plan where
  | done
  | take (i : Nat) (p : Plan)
  | takeA (i : Nat) (p : Plan)
  | eff (i : Nat) (p : Plan)
  | fork (i : Nat) (p : Plan) (j : Nat) (q : Plan)
  | free (i : Nat) (p : Plan)
  | last (i : Nat)

def waitsFor (ops : Array Oper) (h : List Nat) (listed : Array Bool) (i : Nat) : Bool := h.all fun e => listed.getD e true || e == i || waitsN ops listed i 8 e
theorem waitsFor_spec {ops : Array Oper} {h : List Nat} {listed : Array Bool} {i : Nat} (hw : waitsFor ops h listed i = true) : ∀ e, e ∈ h → listed.getD e true = false → e ≠ i → ∃ n, waitsN ops listed i n e = true := by
  intro e he hun hne
  have hw1 := List.all_eq_true.1 hw e he
  simp only [hun, Bool.or_eq_true, beq_iff_eq, hne, Bool.false_eq_true, false_or] at hw1
  exact ⟨8, hw1⟩
def Plan.ok (ops : Array Oper) (h : List Nat) : Plan → Array Bool → Bool
  | .done, listed => (Region.ready .any ops listed).isEmpty
  | .take i p, listed => Region.free .any ops listed i && (Region.ready .any ops listed).contains i && waitsFor ops h listed i && p.ok ops h (listed.setIfInBounds i true)
  | .takeA i p, listed => Region.free .any ops listed i && (Region.ready .any ops listed).contains i && p.ok ops h (listed.setIfInBounds i true)
  | .eff i p, listed => (Region.ready .any ops listed == [i]) && p.ok ops h (listed.setIfInBounds i true)
  | .fork i p j q, listed => (Region.ready .any ops listed == [i, j] || Region.ready .any ops listed == [j, i]) && p.ok ops h (listed.setIfInBounds i true) && q.ok ops h (listed.setIfInBounds j true)
  | .last i, listed => (Region.ready .any ops listed == [i]) && (h.contains i) && (Region.ready .any ops (listed.setIfInBounds i true)).isEmpty
  | .free i p, listed => (Region.ready .any ops listed == [i]) && (h.contains i) && p.ok ops h (listed.setIfInBounds i true)
def Plan.lastI : Plan → List Nat
  | .done => []
  | .take _ p => p.lastI
  | .takeA _ p => p.lastI
  | .eff _ p => p.lastI
  | .fork _ p _ q => p.lastI ++ q.lastI
  | .free i p => i :: p.lastI
  | .last i => [i]
def Plan.size : Plan → Nat
  | .done => 0
  | .last _ => 1
  | .free _ p => p.size + 1
  | .take _ p => p.size + 1
  | .takeA _ p => p.size + 1
  | .eff _ p => p.size + 1
  | .fork _ p _ q => max p.size q.size + 1

def OpP (P : Program) (r : Option Nat) (N : Nat) (ops : Array Oper) (S : Nat → Prop) (o : Oper) (τ : Tau) (w : World) (K : Tau → Prop) : Prop := ∃ v, Yld P r N ops S o v τ w ∧ K (updO τ o.dst v)

def XT (P : Program) (r : Option Nat) (N : Nat) (ops : Array Oper) (Q : Post) (S T : Nat → Prop) : Plan → Tau → List Deferred → World → Prop
  | .done, τ, ds, w => Q .normal τ ds w
  | .take i p, τ, ds, w => match ops[i]? with | some o => OpP P r N ops S o τ w (fun τ => XT P r N ops Q S T p τ ds w) | none => False
  | .takeA i p, τ, ds, w => match ops[i]? with | some o => OpP P r N ops (fun k => S k ∨ T k) o τ w (fun τ => XT P r N ops Q S T p τ ds w) | none => False
  | .eff i p, τ, ds, w => match ops[i]? with | some o => OpE P r N ops o Q τ ds w (fun τ' ds' w' => Keep S w w' ∧ XT P r N ops Q S T p τ' ds' w') | none => False
  | .fork i p j q, τ, ds, w => (match ops[i]? with | some o => OpE P r N ops o Q τ ds w (fun τ' ds' w' => Keep S w w' ∧ XT P r N ops Q S T p τ' ds' w') | none => False) ∧
      (match ops[j]? with | some o => OpE P r N ops o Q τ ds w (fun τ' ds' w' => Keep S w w' ∧ XT P r N ops Q S T q τ' ds' w') | none => False)
  | .free i p, τ, ds, w => match ops[i]? with | some o => OpE P r N ops o Q τ ds w (fun τ' ds' w' => Keep T w w' ∧ XT P r N ops Q S T p τ' ds' w') | none => False
  | .last i, τ, ds, w => match ops[i]? with | some o => OpE P r N ops o Q τ ds w (fun τ' ds' w' => Keep T w w' ∧ Q .normal τ' ds' w') | none => False

theorem ifK {S T : Nat → Prop} {c : Prop} [Decidable c] {a b : World} (h : Keep S a b) : Keep (if c then (fun k => S k ∨ T k) else S) a b := by
  split
  · exact h.mono (fun _ _ e => .inl e)
  · exact h
theorem XA_done {ops : Array Oper} {S T : Nat → Prop} {h : List Nat} {listed : Array Bool} (hr : Region.ready .any ops listed = []) (hq : Q .normal τ ds w) : ∀ fuel, XA P r N ops Q S T h fuel listed τ ds w
  | 0 => ⟨hr, hq⟩
  | _ + 1 => ⟨fun _ => hq, by rw [hr]; simp⟩

theorem XA_of_XT {ops : Array Oper} {S T : Nat → Prop} {h : List Nat} (hs : Region.noSelect ops = true) (hQ : ∀ ch τ τ' ds w, Q (.panic ch) τ ds w → Q (.panic ch) τ' ds w) :
    ∀ (p : Plan) (listed : Array Bool) (τ : Tau) (ds : List Deferred) (w : World) (fuel : Nat), p.ok ops h listed = true → p.size ≤ fuel → XT P r N ops Q S T p τ ds w → XA P r N ops Q S T h fuel listed τ ds w
  | .done, listed, τ, ds, w, fuel, hok, _, hx => XA_done (by simpa [Plan.ok] using hok) hx fuel
  | .take i p, listed, τ, ds, w, fuel, hok, hf, hx => by
    simp only [Plan.ok, Bool.and_eq_true] at hok
    obtain ⟨⟨⟨hfree, hrdy⟩, hwait⟩, hok⟩ := hok
    simp only [Plan.size] at hf
    obtain ⟨fuel, rfl⟩ : ∃ n, fuel = n + 1 := ⟨fuel - 1, by omega⟩
    simp only [XT] at hx
    cases hi : ops[i]? with
    | none => simp [hi] at hx
    | some o =>
      simp only [hi] at hx
      obtain ⟨v, hy, hK⟩ := hx
      exact XA_first hi (Region.noSelect_spec hs) hQ fuel listed τ ds w (Region.free_spec hi hfree) (.inr ⟨rfl, waitsFor_spec hwait⟩) (by simpa using hrdy) hy (XA_of_XT hs hQ p _ _ ds w fuel hok (by omega) hK)
  | .takeA i p, listed, τ, ds, w, fuel, hok, hf, hx => by
    simp only [Plan.ok, Bool.and_eq_true] at hok
    obtain ⟨⟨hfree, hrdy⟩, hok⟩ := hok
    simp only [Plan.size] at hf
    obtain ⟨fuel, rfl⟩ : ∃ n, fuel = n + 1 := ⟨fuel - 1, by omega⟩
    simp only [XT] at hx
    cases hi : ops[i]? with
    | none => simp [hi] at hx
    | some o =>
      simp only [hi] at hx
      obtain ⟨v, hy, hK⟩ := hx
      exact XA_first hi (Region.noSelect_spec hs) hQ fuel listed τ ds w (Region.free_spec hi hfree) (.inl rfl) (by simpa using hrdy) hy (XA_of_XT hs hQ p _ _ ds w fuel hok (by omega) hK)
  | .eff i p, listed, τ, ds, w, fuel, hok, hf, hx => by
    simp only [Plan.ok, Bool.and_eq_true, beq_iff_eq] at hok
    obtain ⟨hrdy, hok⟩ := hok
    simp only [Plan.size] at hf
    obtain ⟨fuel, rfl⟩ : ∃ n, fuel = n + 1 := ⟨fuel - 1, by omega⟩
    simp only [XT] at hx
    refine ⟨fun h0 => (by rw [hrdy] at h0; cases h0), fun j hj o ho => ?_⟩
    rw [hrdy, List.mem_singleton] at hj
    subst hj
    simp only [ho] at hx
    exact hx.mono fun t d w' ⟨hk, hx⟩ => ⟨ifK hk, XA_of_XT hs hQ p _ t d w' fuel hok (by omega) hx⟩
  | .last i, listed, τ, ds, w, fuel, hok, hf, hx => by
    simp only [Plan.ok, Bool.and_eq_true, beq_iff_eq] at hok
    obtain ⟨⟨hrdy, hh⟩, hok⟩ := hok
    simp only [Plan.size] at hf
    obtain ⟨fuel, rfl⟩ : ∃ n, fuel = n + 1 := ⟨fuel - 1, by omega⟩
    simp only [XT] at hx
    refine ⟨fun h0 => (by rw [hrdy] at h0; cases h0), fun j hj o ho => ?_⟩
    rw [hrdy, List.mem_singleton] at hj
    subst hj
    simp only [ho] at hx
    exact hx.mono fun t d w' ⟨hk, hx⟩ => ⟨by rw [if_pos (by simpa using hh)]; exact hk.mono (fun _ _ e => .inr e), XA_done (by simpa using hok) hx fuel⟩
  | .free i p, listed, τ, ds, w, fuel, hok, hf, hx => by
    simp only [Plan.ok, Bool.and_eq_true, beq_iff_eq] at hok
    obtain ⟨⟨hrdy, hh⟩, hok⟩ := hok
    simp only [Plan.size] at hf
    obtain ⟨fuel, rfl⟩ : ∃ n, fuel = n + 1 := ⟨fuel - 1, by omega⟩
    simp only [XT] at hx
    refine ⟨fun h0 => (by rw [hrdy] at h0; cases h0), fun j hj o ho => ?_⟩
    rw [hrdy, List.mem_singleton] at hj
    subst hj
    simp only [ho] at hx
    exact hx.mono fun t d w' ⟨hk, hx⟩ => ⟨by rw [if_pos (by simpa using hh)]; exact hk.mono (fun _ _ e => .inr e), XA_of_XT hs hQ p _ t d w' fuel hok (by omega) hx⟩
  | .fork i p j q, listed, τ, ds, w, fuel, hok, hf, hx => by
    simp only [Plan.ok, Bool.and_eq_true, Bool.or_eq_true, beq_iff_eq] at hok
    obtain ⟨⟨hrdy, hokp⟩, hokq⟩ := hok
    simp only [Plan.size] at hf
    obtain ⟨fuel, rfl⟩ : ∃ n, fuel = n + 1 := ⟨fuel - 1, by omega⟩
    simp only [XT] at hx
    obtain ⟨h1, h2⟩ := hx
    refine ⟨fun h0 => (by rcases hrdy with hrdy | hrdy <;> (rw [hrdy] at h0; cases h0)), fun k hk o ho => ?_⟩
    have hk' : k = i ∨ k = j := by
      rcases hrdy with hrdy | hrdy <;> (rw [hrdy] at hk; simp at hk)
      · exact hk
      · exact hk.symm
    rcases hk' with rfl | rfl
    · simp only [ho] at h1
      exact h1.mono fun t d w' ⟨hk, hx⟩ => ⟨ifK hk, XA_of_XT hs hQ p _ t d w' fuel hokp (by have := Nat.le_max_left p.size q.size; omega) hx⟩
    · simp only [ho] at h2
      exact h2.mono fun t d w' ⟨hk, hx⟩ => ⟨ifK hk, XA_of_XT hs hQ q _ t d w' fuel hokq (by have := Nat.le_max_right p.size q.size; omega) hx⟩

theorem x_draw {id : Nat} {ops : Array Oper} (S T : Nat → Prop) (p : Plan) (hm : P.follows .mixedOrders = true) (hok : (Region.noSelect ops && p.ok ops p.lastI (Array.replicate ops.size false) && decide (p.size ≤ ops.size)) = true)
    (hQ : ∀ ch τ τ' ds w, Q (.panic ch) τ ds w → Q (.panic ch) τ' ds w) (h : XT P r N ops Q S T p τ ds { w with drawn := w.drawn + 1 }) : X P r N (.region id ops true) Q τ ds w := fun a ha => by
  simp only [Bool.and_eq_true, decide_eq_true_eq] at hok
  exact wpIn_region_any hm (XA_sound _ _ τ ds _ (XA_of_XT hok.1.1 hQ p _ τ ds _ _ hok.1.2 hok.2 h) a ha)

end rules
end Go.Wst
set_option linter.all false
namespace Go.Wst

class LtN (a b : Nat) : Prop where lt : a < b
instance ltn (k t : Nat) : LtN t (k + t + 1) := ⟨by omega⟩
class NeN (a b : Nat) : Prop where ne : a ≠ b
instance nen1 (a b : Nat) [h : LtN a b] : NeN a b := ⟨Nat.ne_of_lt h.lt⟩
instance nen2 (a b : Nat) [h : LtN b a] : NeN a b := ⟨Nat.ne_of_gt h.lt⟩

class Ev (τ : Tau) (t : Nat) (v : outParam Value) : Prop where eq : τ t = v
instance ev_same (τ : Tau) (t : Nat) (v : Value) : Ev (upd τ t v) t v := ⟨upd_same τ t v⟩
instance ev_ne (τ : Tau) (t s : Nat) (v u : Value) [h : NeN t s] [e : Ev τ t u] : Ev (upd τ s v) t u := ⟨(upd_ne τ v h.ne).trans e.eq⟩
class EvO (N : Nat) (τ : Tau) (x : Operand) (v : outParam Value) : Prop where eq : evO N τ x = v
instance evo_tmp (N : Nat) (τ : Tau) (t : Nat) (v : Value) [h : LtN t N] [e : Ev τ t v] : EvO N τ (.tmp t) v := ⟨by simp only [evO]; rw [if_pos h.lt]; exact e.eq⟩
instance evo_const (N : Nat) (τ : Tau) (v : Value) : EvO N τ (.const v) v := ⟨rfl⟩
instance evo_func (N : Nat) (τ : Tau) (f : FuncId) : EvO N τ (.func f) (.func (.func f) #[] #[]) := ⟨rfl⟩
instance evo_global (N : Nat) (τ : Tau) (g : Nat) : EvO N τ (.global g) (.pointer (some ⟨g, 0, none⟩)) := ⟨rfl⟩
class EvL (N : Nat) (τ : Tau) (xs : List Operand) (vs : outParam (List Value)) : Prop where eq : xs.map (evO N τ) = vs
instance evl_nil (N : Nat) (τ : Tau) : EvL N τ [] [] := ⟨rfl⟩
instance evl_cons (N : Nat) (τ : Tau) (x : Operand) (xs : List Operand) (v : Value) (vs : List Value) [h : EvO N τ x v] [k : EvL N τ xs vs] : EvL N τ (x :: xs) (v :: vs) := ⟨by rw [List.map_cons, h.eq, k.eq]⟩
class EvP (N : Nat) (τ : Tau) (xs : List (Nat × Operand)) (vs : outParam (List (Nat × Value))) : Prop where eq : (xs.map fun p => (p.1, evO N τ p.2)) = vs
instance evp_nil (N : Nat) (τ : Tau) : EvP N τ [] [] := ⟨rfl⟩
instance evp_cons (N : Nat) (τ : Tau) (i : Nat) (x : Operand) (xs : List (Nat × Operand)) (v : Value) (vs : List (Nat × Value)) [h : EvO N τ x v] [k : EvP N τ xs vs] : EvP N τ ((i, x) :: xs) ((i, v) :: vs) := ⟨by rw [List.map_cons, h.eq, k.eq]⟩

class Und (P : Program) (t : TypeId) (d : outParam TypeDesc) : Prop where eq : P.underlying t = some d
class Inf (P : Program) (t : TypeId) (sz bytes : outParam Nat) (z : outParam Value) : Prop where ex : ∃ i, P.info? t = some i ∧ i.size = sz ∧ i.bytes = bytes ∧ i.zero = some z
class One (P : Program) (t : TypeId) : Prop where ex : ∃ d, P.underlying t = some d ∧ (match d with | .struct _ | .array _ _ => False | _ => True)
class Many (P : Program) (t : TypeId) (n : outParam Nat) : Prop where ex : ∃ d i, P.underlying t = some d ∧ (match d with | .struct _ | .array _ _ => True | _ => False) ∧ P.info? t = some i ∧ i.size = n
class Fld (P : Program) (s : TypeId) (f : Nat) (off : outParam Nat) (t : outParam TypeId) : Prop where ex : ∃ fs fd i, P.underlying s = some (.struct fs) ∧ fs[f]? = some fd ∧ P.info? fd.type = some i ∧ i.size ≠ 0 ∧ fd.offset = off ∧ fd.type = t

class Blk (w : World) (b : Nat) (o : outParam Obj) : Prop where eq : w.heap[b]? = some o
class Has (w : World) (b : Nat) : Prop where lt : b < w.heap.size
instance has_blk (w : World) (b : Nat) (o : Obj) [h : Blk w b o] : Has w b := ⟨(Array.getElem?_eq_some_iff.1 h.eq).1⟩
class Lk (w' : World) (w : outParam World) (S : outParam (Nat → Prop)) : Prop where keep : Keep S w w'
class NotS (S : Nat → Prop) (b : Nat) : Prop where not : ¬ S b
instance notS_no (b : Nat) : NotS NoB b := ⟨fun h => h⟩
def OneB (c : Nat) : Nat → Prop := fun b => b = c
class NeB (a b : Nat) : Prop where ne : a ≠ b
instance notS_one (b c : Nat) [h : NeB b c] : NotS (OneB c) b := ⟨h.ne⟩
class New (b : Nat) (w : outParam World) : Prop where eq : b = w.heap.size
instance neB_new1 (b c : Nat) (w : World) [h : New c w] [k : Has w b] : NeB b c := ⟨by have := h.eq; have := k.lt; omega⟩
instance neB_new2 (b c : Nat) (w : World) [h : New c w] [k : Has w b] : NeB c b := ⟨by have := h.eq; have := k.lt; omega⟩
instance blk_lk (w' w : World) (S : Nat → Prop) (b : Nat) (o : Obj) [l : Lk w' w S] [n : NotS S b] [h : Blk w b o] : Blk w' b o := ⟨(l.keep.block b (Array.getElem?_eq_some_iff.1 h.eq).1 n.not).trans h.eq⟩
instance (priority := low) has_lk (w' w : World) (S : Nat → Prop) (b : Nat) [l : Lk w' w S] [h : Has w b] : Has w' b := ⟨Nat.lt_of_lt_of_le h.lt l.keep.size⟩

class CsGet (cs : Array Value) (i : Nat) (v : outParam Value) : Prop where eq : cs[i]? = some v
instance csget_zero (v : Value) (l : List Value) : CsGet (v :: l).toArray 0 v := ⟨rfl⟩
instance csget_succ (u v : Value) (l : List Value) (i : Nat) [h : CsGet l.toArray i v] : CsGet (u :: l).toArray (i + 1) v := ⟨by have := h.eq; simpa using this⟩
class CsSet (cs : Array Value) (i : Nat) (v : Value) (ds : outParam (Array Value)) : Prop where eq : i < cs.size ∧ cs.setIfInBounds i v = ds
instance csset_zero (u v : Value) (l : List Value) : CsSet (u :: l).toArray 0 v (v :: l).toArray := ⟨by simp, by simp⟩
instance csset_succ (u v : Value) (l m : List Value) (i : Nat) [h : CsSet l.toArray i v m.toArray] : CsSet (u :: l).toArray (i + 1) v (u :: m).toArray := ⟨by
  obtain ⟨h1, h2⟩ := h.eq
  refine ⟨by simpa using h1, ?_⟩
  have := congrArg Array.toList h2
  simp at this
  simp [this]⟩
class Cells (v : Value) (cs : outParam (Array Value)) : Prop where eq : v.cells = cs
instance cells_agg (cs : Array Value) : Cells (.agg cs) cs := ⟨rfl⟩
instance cells_int (k : IntKind) (n : Int) : Cells (.int k n) #[.int k n] := ⟨rfl⟩
instance cells_bool (b : Bool) : Cells (.bool b) #[.bool b] := ⟨rfl⟩
instance cells_string (b : ByteArray) : Cells (.string b) #[.string b] := ⟨rfl⟩
instance cells_ptr (b : Option Addr) : Cells (.pointer b) #[.pointer b] := ⟨rfl⟩
instance cells_slice (b : Option Addr) (n c : Nat) : Cells (.slice b n c) #[.slice b n c] := ⟨rfl⟩
instance cells_map (b : Option Nat) : Cells (.map b) #[.map b] := ⟨rfl⟩
instance cells_func (f : Fn) (a c : Array Value) : Cells (.func f a c) #[.func f a c] := ⟨rfl⟩
instance cells_nilFunc : Cells .nilFunc #[.nilFunc] := ⟨rfl⟩
instance cells_iface (t : TypeId) (v : Value) : Cells (.iface t v) #[.iface t v] := ⟨rfl⟩
instance cells_nilIface : Cells .nilIface #[.nilIface] := ⟨rfl⟩
class Cell1 (v : Value) : Prop where eq : v.oneCell' = true
instance cell1_int (k : IntKind) (n : Int) : Cell1 (.int k n) := ⟨rfl⟩
instance cell1_bool (b : Bool) : Cell1 (.bool b) := ⟨rfl⟩
instance cell1_string (b : ByteArray) : Cell1 (.string b) := ⟨rfl⟩
instance cell1_ptr (b : Option Addr) : Cell1 (.pointer b) := ⟨rfl⟩
instance cell1_slice (b : Option Addr) (n c : Nat) : Cell1 (.slice b n c) := ⟨rfl⟩
instance cell1_map (b : Option Nat) : Cell1 (.map b) := ⟨rfl⟩
instance cell1_func (f : Fn) (a c : Array Value) : Cell1 (.func f a c) := ⟨rfl⟩
instance cell1_nilFunc : Cell1 .nilFunc := ⟨rfl⟩
instance cell1_iface (t : TypeId) (v : Value) : Cell1 (.iface t v) := ⟨rfl⟩
instance cell1_nilIface : Cell1 .nilIface := ⟨rfl⟩

def padd (A : Option Addr) (j : Nat) : Value := .pointer (A.map (·.add j))
instance cells_padd (A : Option Addr) (j : Nat) : Cells (padd A j) #[padd A j] := ⟨rfl⟩
instance cell1_padd (A : Option Addr) (j : Nat) : Cell1 (padd A j) := ⟨rfl⟩
def RowP (w : World) (A : Option Addr) (cs : List Value) : Prop := ∀ j v, cs[j]? = some v → ∃ a, A = some a ∧ w.cell? (a.add j) = some v
class Row (w : World) (A : Option Addr) (cs : outParam (List Value)) : Prop where row : RowP w A cs
class RowOut (S : Nat → Prop) (A : Option Addr) : Prop where out : ∀ a, A = some a → ¬ S a.block
instance rowOut_no (A : Option Addr) : RowOut NoB A := ⟨fun _ _ h => h⟩
theorem block_add (a : Addr) (n : Nat) : (a.add n).block = a.block := by unfold Addr.add; split <;> rfl
theorem add_add (a : Addr) (i j : Nat) : (a.add i).add j = a.add (i + j) := by
  unfold Addr.add
  by_cases hi : i = 0 <;> by_cases hj : j = 0 <;> simp [hi, hj, Nat.add_assoc]
theorem add_none (b o j : Nat) : (⟨b, o, none⟩ : Addr).add j = ⟨b, o + j, none⟩ := by unfold Addr.add; split <;> simp_all
theorem RowP.keep {w w' : World} {S : Nat → Prop} {A : Option Addr} {cs : List Value} (h : RowP w A cs) (hk : Keep S w w') (ho : ∀ a, A = some a → ¬ S a.block) : RowP w' A cs := fun j v hv => by
  obtain ⟨a, rfl, hc⟩ := h j v hv
  refine ⟨a, rfl, ?_⟩
  rw [← hc]
  have hlt := World.block_lt_of_cell? w _ hc
  rw [block_add] at hlt
  exact World.cell?_of_block (by rw [block_add]; exact hk.block _ hlt (ho a rfl))
instance row_lk (w' w : World) (S : Nat → Prop) (A : Option Addr) (cs : List Value) [l : Lk w' w S] [n : RowOut S A] [h : Row w A cs] : Row w' A cs := ⟨h.row.keep l.keep n.out⟩

def Val (P : Program) (r : Option Nat) (N : Nat) (S : Nat → Prop) (op : Op) (ty : TypeId) (τ : Tau) (w : World) (v : Value) : Prop :=
  (∀ c, op ≠ .defer c) ∧ ∀ W, Keep S w W → (execOp (evO N τ) ⟨none, op, ty, "", #[], none⟩).run P W = .ok (.value v) W

section laws
variable {P : Program} {r : Option Nat} {N : Nat} {S U : Nat → Prop} {Q : Post} {τ : Tau} {ds : List Deferred} {w : World} {ty : TypeId} {ops : Array Oper} {rest : List Oper} {pos : String} {aft : Array Edge} {d : Nat} {v : Value} {op : Op}

theorem Val.run (h : Val P r N S op ty τ w v) (o : Oper) (ho : o.op = op) (ht : o.type = ty) {W : World} (hW : Keep S w W) : (o.semAt r (evO N τ)).run P W = .ok (.value v) W := by
  rw [Oper.semAt_eq r _ o (by rw [ho]; exact h.1)]
  rw [← h.2 W hW]
  unfold execOp
  simp only [ho, ht]

theorem xl_v (hv : Val P r N NoB op ty τ w v) (h : XL P r N ops Q rest (upd τ d v) ds w) : XL P r N ops Q (⟨some d, op, ty, pos, aft, none⟩ :: rest) τ ds w := by
  show OpE P r N ops _ Q τ ds w _
  unfold OpE
  rw [if_pos (by rfl), hv.run _ rfl rfl (Keep.refl _ _)]
  exact h
theorem xl_nil (h : Q .normal τ ds w) : XL P r N ops Q [] τ ds w := h
theorem xl_gv {j e : Nat} {b : Bool} (hj : (ops[j]?).bind (·.dst) = some e) (hb : evO N τ (.tmp e) = .bool b) (hv : Val P r N NoB op ty τ w v) (h : XL P r N ops Q rest (upd τ d v) ds w) :
    XL P r N ops Q (⟨some d, op, ty, pos, aft, some (j, b)⟩ :: rest) τ ds w := by
  show OpE P r N ops _ Q τ ds w _
  unfold OpE
  rw [if_pos (by simp [wantedT, Region.wanted, yieldedT, hj, hb]), hv.run _ rfl rfl (Keep.refl _ _)]
  exact h
theorem xl_gs {j e : Nat} {b : Bool} (hj : (ops[j]?).bind (·.dst) = some e) (hb : evO N τ (.tmp e) = .bool (!b)) (h : XL P r N ops Q rest (upd τ d undef) ds w) :
    XL P r N ops Q (⟨some d, op, ty, pos, aft, some (j, b)⟩ :: rest) τ ds w := by
  show OpE P r N ops _ Q τ ds w _
  unfold OpE
  rw [if_neg (by simp [wantedT, Region.wanted, yieldedT, hj, hb])]
  exact h
theorem xt_v {p : Plan} {i : Nat} {pos' : String} {aft' : Array Edge} (hi : ops[i]? = some ⟨some d, op, ty, pos', aft', none⟩) (hv : Val P r N S op ty τ w v) (h : XT P r N ops Q S U p (upd τ d v) ds w) : XT P r N ops Q S U (.take i p) τ ds w := by
  show match ops[i]? with | some o => OpP P r N ops S o τ w (fun τ => XT P r N ops Q S U p τ ds w) | none => False
  rw [hi]
  exact ⟨v, .inl ⟨rfl, fun W hW => hv.run _ rfl rfl hW⟩, h⟩
theorem xt_gv {p : Plan} {i j e : Nat} {b : Bool} {pos' : String} {aft' : Array Edge} (hi : ops[i]? = some ⟨some d, op, ty, pos', aft', some (j, b)⟩) (hj : (ops[j]?).bind (·.dst) = some e) (hb : evO N τ (.tmp e) = .bool b) (hv : Val P r N S op ty τ w v) (h : XT P r N ops Q S U p (upd τ d v) ds w) : XT P r N ops Q S U (.take i p) τ ds w := by
  show match ops[i]? with | some o => OpP P r N ops S o τ w (fun τ => XT P r N ops Q S U p τ ds w) | none => False
  rw [hi]
  exact ⟨v, .inl ⟨by simp [wantedT, Region.wanted, yieldedT, hj, hb], fun W hW => hv.run _ rfl rfl hW⟩, h⟩
theorem xt_gs {p : Plan} {i j e : Nat} {b : Bool} {pos' : String} {aft' : Array Edge} (hi : ops[i]? = some ⟨some d, op, ty, pos', aft', some (j, b)⟩) (hj : (ops[j]?).bind (·.dst) = some e) (hb : evO N τ (.tmp e) = .bool (!b)) (h : XT P r N ops Q S U p (upd τ d undef) ds w) : XT P r N ops Q S U (.take i p) τ ds w := by
  show match ops[i]? with | some o => OpP P r N ops S o τ w (fun τ => XT P r N ops Q S U p τ ds w) | none => False
  rw [hi]
  exact ⟨undef, .inr ⟨by simp [wantedT, Region.wanted, yieldedT, hj, hb], rfl⟩, h⟩
theorem xt_av {p : Plan} {i : Nat} {pos' : String} {aft' : Array Edge} (hi : ops[i]? = some ⟨some d, op, ty, pos', aft', none⟩) (hv : Val P r N (fun k => S k ∨ U k) op ty τ w v) (h : XT P r N ops Q S U p (upd τ d v) ds w) : XT P r N ops Q S U (.takeA i p) τ ds w := by
  show match ops[i]? with | some o => OpP P r N ops (fun k => S k ∨ U k) o τ w (fun τ => XT P r N ops Q S U p τ ds w) | none => False
  rw [hi]
  exact ⟨v, .inl ⟨rfl, fun W hW => hv.run _ rfl rfl hW⟩, h⟩
theorem xt_agv {p : Plan} {i j e : Nat} {b : Bool} {pos' : String} {aft' : Array Edge} (hi : ops[i]? = some ⟨some d, op, ty, pos', aft', some (j, b)⟩) (hj : (ops[j]?).bind (·.dst) = some e) (hb : evO N τ (.tmp e) = .bool b) (hv : Val P r N (fun k => S k ∨ U k) op ty τ w v) (h : XT P r N ops Q S U p (upd τ d v) ds w) : XT P r N ops Q S U (.takeA i p) τ ds w := by
  show match ops[i]? with | some o => OpP P r N ops (fun k => S k ∨ U k) o τ w (fun τ => XT P r N ops Q S U p τ ds w) | none => False
  rw [hi]
  exact ⟨v, .inl ⟨by simp [wantedT, Region.wanted, yieldedT, hj, hb], fun W hW => hv.run _ rfl rfl hW⟩, h⟩
theorem xt_ags {p : Plan} {i j e : Nat} {b : Bool} {pos' : String} {aft' : Array Edge} (hi : ops[i]? = some ⟨some d, op, ty, pos', aft', some (j, b)⟩) (hj : (ops[j]?).bind (·.dst) = some e) (hb : evO N τ (.tmp e) = .bool (!b)) (h : XT P r N ops Q S U p (upd τ d undef) ds w) : XT P r N ops Q S U (.takeA i p) τ ds w := by
  show match ops[i]? with | some o => OpP P r N ops (fun k => S k ∨ U k) o τ w (fun τ => XT P r N ops Q S U p τ ds w) | none => False
  rw [hi]
  exact ⟨undef, .inr ⟨by simp [wantedT, Region.wanted, yieldedT, hj, hb], rfl⟩, h⟩
theorem xt_gse {p : Plan} {i j e : Nat} {b : Bool} {pos' : String} {aft' : Array Edge} (hi : ops[i]? = some ⟨some d, op, ty, pos', aft', some (j, b)⟩) (hj : (ops[j]?).bind (·.dst) = some e) (hb : evO N τ (.tmp e) = .bool (!b)) (h : XT P r N ops Q S U p (upd τ d undef) ds w) : XT P r N ops Q S U (.eff i p) τ ds w := by
  show match ops[i]? with | some o => OpE P r N ops o Q τ ds w (fun τ' ds' w' => Keep S w w' ∧ XT P r N ops Q S U p τ' ds' w') | none => False
  rw [hi]
  show OpE P r N ops _ Q τ ds w _
  unfold OpE
  rw [if_neg (by simp [wantedT, Region.wanted, yieldedT, hj, hb])]
  exact ⟨Keep.refl _ _, h⟩
theorem xt_nil (h : Q .normal τ ds w) : XT P r N ops Q S U .done τ ds w := h
theorem upd_self {t : Nat} [e : Ev τ t v] : upd τ t v = τ := by
  funext s
  by_cases h : s = t
  · subst h; rw [upd_same]; exact e.eq.symm
  · rw [upd_ne _ _ h]
theorem xl_split (t : Nat) {c : Bool} {l : List Oper} [e : Ev τ t (.bool c)] (ht : c = true → XL P r N ops Q l (upd τ t (.bool true)) ds w) (hf : c = false → XL P r N ops Q l (upd τ t (.bool false)) ds w) : XL P r N ops Q l τ ds w := by
  cases c with
  | true => have := ht rfl; rwa [upd_self] at this
  | false => have := hf rfl; rwa [upd_self] at this
theorem xt_split (t : Nat) {c : Bool} {p : Plan} [e : Ev τ t (.bool c)] (ht : c = true → XT P r N ops Q S U p (upd τ t (.bool true)) ds w) (hf : c = false → XT P r N ops Q S U p (upd τ t (.bool false)) ds w) : XT P r N ops Q S U p τ ds w := by
  cases c with
  | true => have := ht rfl; rwa [upd_self] at this
  | false => have := hf rfl; rwa [upd_self] at this

theorem v_move {x : Operand} [h : EvO N τ x v] : Val P r N S (.move x) ty τ w v := ⟨fun _ => nofun, fun W _ => by simp [execOp, h.eq]⟩
theorem v_assign {x : Operand} [h : EvO N τ x v] : Val P r N S (.assign x) ty τ w v := ⟨fun _ => nofun, fun W _ => by simp [execOp, h.eq]⟩
theorem v_pickT {c x y : Operand} [hc : EvO N τ c (.bool true)] [h : EvO N τ x v] : Val P r N S (.pick c x y) ty τ w v := ⟨fun _ => nofun, fun W _ => by simp [execOp, hc.eq, h.eq, asBool]⟩
theorem v_pickF {c x y : Operand} [hc : EvO N τ c (.bool false)] [h : EvO N τ y v] : Val P r N S (.pick c x y) ty τ w v := ⟨fun _ => nofun, fun W _ => by simp [execOp, hc.eq, h.eq, asBool]⟩
theorem v_pick {c x y : Operand} {b b1 b2 : Bool} [hc : EvO N τ c (.bool b)] [h1 : EvO N τ x (.bool b1)] [h2 : EvO N τ y (.bool b2)] : Val P r N S (.pick c x y) ty τ w (.bool (if b then b1 else b2)) := ⟨fun _ => nofun, fun W _ => by cases b <;> simp [execOp, hc.eq, h1.eq, h2.eq, asBool]⟩

theorem beq_dec {α : Type} [BEq α] [LawfulBEq α] [DecidableEq α] (a b : α) : (a == b) = decide (a = b) := by by_cases h : a = b <;> simp [h]
section ints
variable {k : IntKind} {a b : Int} {x y : Operand} {t t' : TypeId} [hx : EvO N τ x (.int k a)] [hy : EvO N τ y (.int k b)]
include hx hy
theorem v_eql : Val P r N S (.binOp .eql t x y t') ty τ w (.bool (decide (a = b))) := ⟨fun _ => nofun, fun W _ => by simp [execOp, hx.eq, hy.eq, eqGuard, binOp, Op.intCmp]; exact beq_dec a b⟩
theorem v_neq : Val P r N S (.binOp .neq t x y t') ty τ w (.bool (!decide (a = b))) := ⟨fun _ => nofun, fun W _ => by simp [execOp, hx.eq, hy.eq, eqGuard, binOp, Op.intCmp, bne]; exact beq_dec a b⟩
theorem v_lss : Val P r N S (.binOp .lss t x y t') ty τ w (.bool (decide (a < b))) := ⟨fun _ => nofun, fun W _ => by simp [execOp, hx.eq, hy.eq, eqGuard, binOp, Op.intCmp]⟩
theorem v_leq : Val P r N S (.binOp .leq t x y t') ty τ w (.bool (decide (a ≤ b))) := ⟨fun _ => nofun, fun W _ => by simp [execOp, hx.eq, hy.eq, eqGuard, binOp, Op.intCmp]⟩
theorem v_gtr : Val P r N S (.binOp .gtr t x y t') ty τ w (.bool (decide (b < a))) := ⟨fun _ => nofun, fun W _ => by simp [execOp, hx.eq, hy.eq, eqGuard, binOp, Op.intCmp]⟩
theorem v_geq : Val P r N S (.binOp .geq t x y t') ty τ w (.bool (decide (b ≤ a))) := ⟨fun _ => nofun, fun W _ => by simp [execOp, hx.eq, hy.eq, eqGuard, binOp, Op.intCmp]⟩
theorem v_addw : Val P r N S (.binOp .add t x y t') ty τ w (.int k (k.wrap (a + b))) := ⟨fun _ => nofun, fun W _ => by simp [execOp, hx.eq, hy.eq, eqGuard, binOp, Op.intArith]⟩
theorem v_subw : Val P r N S (.binOp .sub t x y t') ty τ w (.int k (k.wrap (a - b))) := ⟨fun _ => nofun, fun W _ => by simp [execOp, hx.eq, hy.eq, eqGuard, binOp, Op.intArith]⟩
theorem v_mulw : Val P r N S (.binOp .mul t x y t') ty τ w (.int k (k.wrap (a * b))) := ⟨fun _ => nofun, fun W _ => by simp [execOp, hx.eq, hy.eq, eqGuard, binOp, Op.intArith]⟩
end ints
theorem wrap_in {a : Int} (h1 : -9223372036854775808 ≤ a) (h2 : a ≤ 9223372036854775807) : IntKind.i64.wrap a = a := Go.IntWalk.i64_in a ⟨h1, h2⟩
section i64
variable {a b : Int} {x y : Operand} {t t' : TypeId} [hx : EvO N τ x (.int .i64 a)] [hy : EvO N τ y (.int .i64 b)]
theorem v_add (h : -9223372036854775808 ≤ a + b ∧ a + b ≤ 9223372036854775807) : Val P r N S (.binOp .add t x y t') ty τ w (.int .i64 (a + b)) := by have := v_addw (P := P) (r := r) (N := N) (S := S) (τ := τ) (w := w) (ty := ty) (t := t) (t' := t') (hx := hx) (hy := hy); rwa [wrap_in h.1 h.2] at this
theorem v_sub (h : -9223372036854775808 ≤ a - b ∧ a - b ≤ 9223372036854775807) : Val P r N S (.binOp .sub t x y t') ty τ w (.int .i64 (a - b)) := by have := v_subw (P := P) (r := r) (N := N) (S := S) (τ := τ) (w := w) (ty := ty) (t := t) (t' := t') (hx := hx) (hy := hy); rwa [wrap_in h.1 h.2] at this
theorem v_mul (h : -9223372036854775808 ≤ a * b ∧ a * b ≤ 9223372036854775807) : Val P r N S (.binOp .mul t x y t') ty τ w (.int .i64 (a * b)) := by have := v_mulw (P := P) (r := r) (N := N) (S := S) (τ := τ) (w := w) (ty := ty) (t := t) (t' := t') (hx := hx) (hy := hy); rwa [wrap_in h.1 h.2] at this
theorem v_rem {k : IntKind} {a b : Int} [hx : EvO N τ x (.int k a)] [hy : EvO N τ y (.int k b)] (h : b ≠ 0) : Val P r N S (.binOp .rem t x y t') ty τ w (.int k (a.tmod b)) := ⟨fun _ => nofun, fun W _ => by simp [execOp, hx.eq, hy.eq, eqGuard, binOp, Op.intDiv, h]⟩
theorem v_quo {k : IntKind} {a b : Int} [hx : EvO N τ x (.int k a)] [hy : EvO N τ y (.int k b)] (h : b ≠ 0) : Val P r N S (.binOp .quo t x y t') ty τ w (.int k (k.wrap (a.tdiv b))) := ⟨fun _ => nofun, fun W _ => by simp [execOp, hx.eq, hy.eq, eqGuard, binOp, Op.intDiv, h]⟩
theorem v_neg {a : Int} {t : TypeId} {x : Operand} [hx : EvO N τ x (.int .i64 a)] (h : -9223372036854775808 ≤ -a ∧ -a ≤ 9223372036854775807) : Val P r N S (.unOp .neg t x) ty τ w (.int .i64 (-a)) := ⟨fun _ => nofun, fun W _ => by
  have : IntKind.i64.wrap (-a) = -a := wrap_in h.1 h.2
  simp [execOp, hx.eq, Op.unary, Op.intArith, this]⟩
theorem v_not {b : Bool} {t : TypeId} {x : Operand} [hx : EvO N τ x (.bool b)] : Val P r N S (.unOp .not t x) ty τ w (.bool (!b)) := ⟨fun _ => nofun, fun W _ => by simp [execOp, hx.eq, Op.unary]⟩
end i64

section strs
variable {a b : ByteArray} {x y : Operand} {t t' : TypeId} [hx : EvO N τ x (.string a)] [hy : EvO N τ y (.string b)]
include hx hy
theorem v_seql : Val P r N S (.binOp .eql t x y t') ty τ w (.bool (decide (a = b))) := ⟨fun _ => nofun, fun W _ => by
  have e : (a.toList == b.toList) = decide (a = b) := by
    rw [beq_dec]; congr 1; rw [eq_iff_iff]
    exact ⟨fun h => ByteArray.ext (by have := congrArg List.toArray h; simpa [ByteArray.toList_eq] using this), fun h => by rw [h]⟩
  simp [execOp, hx.eq, hy.eq, eqGuard, binOp, Op.stringOp, e]⟩
end strs

theorem v_len {x : Operand} {t e : TypeId} {A : Option Addr} {n c : Nat} [hx : EvO N τ x (.slice A n c)] [hu : Und P t (.slice e)] : Val P r N S (.call { callee := .builtin .len, args := #[x], argTypes := #[t] }) ty τ w (.int .i64 (n : Int)) := ⟨fun _ => nofun, fun W _ => by
  simp [execOp, resolve, invoke, builtin, hx.eq, Builtin.len_, run_underlying hu.eq, goInt]⟩
theorem v_lens {x : Operand} {t : TypeId} {s : ByteArray} [hx : EvO N τ x (.string s)] [hu : Und P t .string] : Val P r N S (.call { callee := .builtin .len, args := #[x], argTypes := #[t] }) ty τ w (.int .i64 (s.size : Int)) := ⟨fun _ => nofun, fun W _ => by
  simp [execOp, resolve, invoke, builtin, hx.eq, Builtin.len_, run_underlying hu.eq, goInt]⟩
theorem v_min {x y : Operand} {t : Array TypeId} {k : IntKind} {a b : Int} [hx : EvO N τ x (.int k a)] [hy : EvO N τ y (.int k b)] : Val P r N S (.call { callee := .builtin .min, args := #[x, y], argTypes := t }) ty τ w (.int k (min a b)) := ⟨fun _ => nofun, fun W _ => by
  have e : (if b < a then b else a) = min a b := by split <;> omega
  simp [execOp, resolve, invoke, builtin, hx.eq, hy.eq, Builtin.min_, Builtin.min2, e]⟩

theorem v_extract {x : Operand} {i : Nat} {l : List Value} [hx : EvO N τ x (.tuple l.toArray)] [h : CsGet l.toArray i v] : Val P r N S (.extract x i) ty τ w v := ⟨fun _ => nofun, fun W _ => by
  have := h.eq
  simp [execOp, hx.eq, Instr.extract, this]⟩
theorem v_makeFunc {fn : Fn} {a c : List Operand} {va vc : List Value} [ha : EvL N τ a va] [hc : EvL N τ c vc] : Val P r N S (.makeFunc fn a.toArray c.toArray) ty τ w (.func fn va.toArray vc.toArray) := ⟨fun _ => nofun, fun W _ => by
  simp [execOp, Instr.makeFunc, ha.eq, hc.eq]⟩
theorem v_nilCheckP {x : Operand} {a : Addr} [hx : EvO N τ x (.pointer (some a))] : Val P r N S (.nilCheck x) ty τ w (.pointer (some a)) := ⟨fun _ => nofun, fun W _ => by simp [execOp, hx.eq]⟩
theorem v_nilCheckF {x : Operand} {f : FuncId} {a c : Array Value} [hx : EvO N τ x (.func (.func f) a c)] : Val P r N S (.nilCheck x) ty τ w (.func (.func f) a c) := ⟨fun _ => nofun, fun W _ => by simp [execOp, hx.eq]⟩
theorem v_field {x : Operand} {s : TypeId} {f off : Nat} {t : TypeId} {cs : Array Value} [hx : EvO N τ x (.agg cs)] [hf : Fld P s f off t] [ho : One P t] [hc : CsGet cs off v] : Val P r N S (.field s x f) ty τ w v := ⟨fun _ => nofun, fun W _ => by
  obtain ⟨fs, fd, i, h1, h2, h3, h4, h5, h6⟩ := hf.ex
  obtain ⟨dd, h7, h8⟩ := ho.ex
  have hc' := hc.eq
  subst h5; subst h6
  have hagg : (isAgg fd.type).run P W = .ok false W := by
    unfold isAgg
    cases dd <;> simp_all [run_underlying h7]
  simp [execOp, hx.eq, Instr.field, run_underlying h1, h2, asAgg, part, hagg, hc']⟩

class AddN (a b : Nat) (c : outParam Nat) : Prop where eq : a + b = c
instance (priority := low) addn_any (a b : Nat) : AddN a b (a + b) := ⟨rfl⟩
instance addn_zl (b : Nat) : AddN 0 b b := ⟨Nat.zero_add b⟩
instance addn_zr (a : Nat) : AddN a 0 a := ⟨rfl⟩
instance addn_1 (a : Nat) : AddN a 1 (a + 1) := ⟨rfl⟩
theorem run_fieldPlace {s : TypeId} {f off : Nat} {t : TypeId} (hf : Fld P s f off t) (a : Addr) (W : World) : (Instr.fieldAt s (.pointer (some a)) f).run P W = .ok (.pointer (some (a.add off))) W := by
  obtain ⟨fs, fd, i, h1, h2, h3, h4, h5, h6⟩ := hf.ex
  subst h5; subst h6
  simp [Instr.fieldAt, run_underlying h1, h2, Instr.sureAddr, fieldPlace, sizeOf, typeInfo, h3, h4]
theorem v_fieldAddr {x : Operand} {s : TypeId} {f off b o o' : Nat} {t : TypeId} [hx : EvO N τ x (.pointer (some ⟨b, o, none⟩))] [hf : Fld P s f off t] [ha : AddN o off o'] : Val P r N S (.fieldAddr s x f) ty τ w (.pointer (some ⟨b, o', none⟩)) := ⟨fun _ => nofun, fun W _ => by
  have := ha.eq
  simp [execOp, hx.eq, run_fieldPlace hf, add_none, this]⟩
theorem v_fieldAddrR {x : Operand} {s : TypeId} {f off j : Nat} {t : TypeId} {j' : Nat} {A : Option Addr} [hx : EvO N τ x (padd A j)] [hf : Fld P s f off t] [ha : AddN j off j'] (hA : A.isSome = true) : Val P r N S (.fieldAddr s x f) ty τ w (padd A j') := ⟨fun _ => nofun, fun W _ => by
  obtain ⟨a, rfl⟩ := Option.isSome_iff_exists.1 hA
  have e : (a.add j).add off = a.add (j + off) := add_add a j off
  have := ha.eq
  simp [execOp, hx.eq, padd, run_fieldPlace hf, e, this]⟩
theorem v_indexAddr {x y : Operand} {t e : TypeId} {sz bytes : Nat} {z : Value} {A : Option Addr} {n c : Nat} {i : Int} (k : Nat) [hx : EvO N τ x (.slice A n c)] [hy : EvO N τ y (.int .i64 i)] [hu : Und P t (.slice e)] [hi : Inf P e sz bytes z]
    (hk : i = (k : Int)) (hn : k < n) (hA : A.isSome = true) : Val P r N S (.indexAddr t x y) ty τ w (padd A (k * sz)) := ⟨fun _ => nofun, fun W _ => by
  obtain ⟨a, rfl⟩ := Option.isSome_iff_exists.1 hA
  obtain ⟨ii, h1, h2, h3, h4⟩ := hi.ex
  subst hk; subst h2
  simp [execOp, hx.eq, hy.eq, Instr.indexAt, asIntOf, run_underlying hu.eq, hn, sizeOf, typeInfo, h1, padd]⟩

theorem run_isAgg_one {t : TypeId} (h : One P t) (W : World) : (isAgg t).run P W = .ok false W := by
  obtain ⟨dd, h7, h8⟩ := h.ex
  unfold isAgg
  cases dd <;> simp_all [run_underlying h7]
theorem cell_of_blk {b off : Nat} {cs : Array Value} {e : TypeId} {fr : Nat × Nat} (h : w.heap[b]? = some (.cells cs e fr)) : w.cell? ⟨b, off, none⟩ = cs[off]? := by simp [World.cell?, h]
theorem v_load {x : Operand} {t e : TypeId} {b off : Nat} {cs : Array Value} {fr : Nat × Nat} [hx : EvO N τ x (.pointer (some ⟨b, off, none⟩))] [ho : One P t] [hb : Blk w b (.cells cs e fr)] [hs : NotS S b] [hc : CsGet cs off v] : Val P r N S (.load t x) ty τ w v := ⟨fun _ => nofun, fun W hW => by
  have h1 := (hW.block b (Array.getElem?_eq_some_iff.1 hb.eq).1 hs.not).trans hb.eq
  have h2 := (cell_of_blk (off := off) h1).trans hc.eq
  simp [execOp, hx.eq, Instr.loadAt, Instr.sureAddr, loadVar, run_isAgg_one ho, h2]⟩
theorem v_loadR {x : Operand} {t : TypeId} {A : Option Addr} {j : Nat} {cs : List Value} [hx : EvO N τ x (padd A j)] [ho : One P t] [hr : Row w A cs] [hs : RowOut S A] (hv : cs[j]? = some v) : Val P r N S (.load t x) ty τ w v := ⟨fun _ => nofun, fun W hW => by
  obtain ⟨a, rfl, hc⟩ := (hr.row.keep hW hs.out) j v hv
  simp [execOp, hx.eq, padd, Instr.loadAt, Instr.sureAddr, loadVar, run_isAgg_one ho, hc]⟩

end laws
end Go.Wst
set_option linter.all false
namespace Go.Wst

def Ret (P : Program) (f : FuncId) (args : Array Value) (w : World) (R : Value → World → Prop) : Prop := Calls P f args w fun e w' => ∃ v, e = .returned v ∧ R v w'
theorem Ret.mono {P : Program} {f : FuncId} {args : Array Value} {w : World} {R R' : Value → World → Prop} (h : Ret P f args w R) (hr : ∀ v w', R v w' → R' v w') : Ret P f args w R' :=
  Calls.mono h fun _ _ ⟨v, he, hv⟩ => ⟨v, he, hr _ _ hv⟩

class Fun (P : Program) (f : FuncId) : Prop where ex : ∃ fn c, P.funcs[f]? = some fn ∧ fn.name ≠ "runtime.NumGoroutine" ∧ fn.body = some c
class App (a b : List Value) (c : outParam (List Value)) : Prop where eq : a ++ b = c
instance app_nil (b : List Value) : App [] b b := ⟨rfl⟩
instance app_cons (x : Value) (a b c : List Value) [h : App a b c] : App (x :: a) b (x :: c) := ⟨by rw [List.cons_append, h.eq]⟩

class SubS (T S : Nat → Prop) : Prop where sub : ∀ k, T k → S k
instance subS_no (S : Nat → Prop) : SubS NoB S := ⟨fun _ h => h.elim⟩
instance subS_all (S : Nat → Prop) : SubS S allS := ⟨fun _ _ => trivial⟩
instance subS_refl (S : Nat → Prop) : SubS S S := ⟨fun _ h => h⟩

section laws
variable {P : Program} {r : Option Nat} {N : Nat} {S T U : Nat → Prop} {Q : Post} {τ : Tau} {ds : List Deferred} {w : World} {ty : TypeId} {ops : Array Oper} {rest : List Oper} {pos : String} {aft : Array Edge} {d : Nat} {v : Value} {op : Op}

def EffV (P : Program) (N : Nat) (T : Nat → Prop) (op : Op) (ty : TypeId) (τ : Tau) (w : World) (G : Value → World → Prop) : Prop :=
  (∀ c, op ≠ .defer c) ∧ ∃ v w', (execOp (evO N τ) ⟨none, op, ty, "", #[], none⟩).run P w = .ok (.value v) w' ∧ Keep T w w' ∧ G v w'
def EffS (P : Program) (N : Nat) (T : Nat → Prop) (op : Op) (ty : TypeId) (τ : Tau) (w : World) (G : World → Prop) : Prop :=
  (∀ c, op ≠ .defer c) ∧ ∃ w', (execOp (evO N τ) ⟨none, op, ty, "", #[], none⟩).run P w = .ok .skip w' ∧ Keep T w w' ∧ G w'

theorem semAt_op (o : Oper) (ho : ∀ c, o.op ≠ .defer c) : (o.semAt r (evO N τ)).run P w = (execOp (evO N τ) ⟨none, o.op, o.type, "", #[], none⟩).run P w := by
  rw [Oper.semAt_eq r _ o ho]
  rfl

theorem xl_e (he : EffV P N T op ty τ w (fun v w' => XL P r N ops Q rest (upd τ d v) ds w')) : XL P r N ops Q (⟨some d, op, ty, pos, aft, none⟩ :: rest) τ ds w := by
  obtain ⟨hn, v, w', hr, hk, hG⟩ := he
  show OpE P r N ops _ Q τ ds w _
  unfold OpE
  rw [if_pos (by rfl), semAt_op _ hn, hr]
  exact hG
theorem xl_ge {j e : Nat} {b : Bool} (hj : (ops[j]?).bind (·.dst) = some e) (hb : evO N τ (.tmp e) = .bool b) (he : EffV P N T op ty τ w (fun v w' => XL P r N ops Q rest (upd τ d v) ds w')) : XL P r N ops Q (⟨some d, op, ty, pos, aft, some (j, b)⟩ :: rest) τ ds w := by
  obtain ⟨hn, v, w', hr, hk, hG⟩ := he
  show OpE P r N ops _ Q τ ds w _
  unfold OpE
  rw [if_pos (by simp [wantedT, Region.wanted, yieldedT, hj, hb]), semAt_op _ hn, hr]
  exact hG
theorem xt_ge {p : Plan} {i j e : Nat} {b : Bool} {pos' : String} {aft' : Array Edge} [hS : SubS T S] (hi : ops[i]? = some ⟨some d, op, ty, pos', aft', some (j, b)⟩) (hj : (ops[j]?).bind (·.dst) = some e) (hb : evO N τ (.tmp e) = .bool b) (he : EffV P N T op ty τ w (fun v w' => XT P r N ops Q S U p (upd τ d v) ds w')) : XT P r N ops Q S U (.eff i p) τ ds w := by
  obtain ⟨hn, v, w', hr, hk, hG⟩ := he
  show match ops[i]? with | some o => OpE P r N ops o Q τ ds w (fun τ' ds' w' => Keep S w w' ∧ XT P r N ops Q S U p τ' ds' w') | none => False
  rw [hi]
  show OpE P r N ops _ Q τ ds w _
  unfold OpE
  rw [if_pos (by simp [wantedT, Region.wanted, yieldedT, hj, hb]), semAt_op _ hn, hr]
  exact ⟨hk.mono (fun k _ h => hS.sub k h), hG⟩
theorem xl_e0 (he : EffV P N T op ty τ w (fun v w' => XL P r N ops Q rest τ ds w')) : XL P r N ops Q (⟨none, op, ty, pos, aft, none⟩ :: rest) τ ds w := by
  obtain ⟨hn, v, w', hr, hk, hG⟩ := he
  show OpE P r N ops _ Q τ ds w _
  unfold OpE
  rw [if_pos (by rfl), semAt_op _ hn, hr]
  exact hG
theorem xl_s (he : EffS P N T op ty τ w (fun w' => XL P r N ops Q rest τ ds w')) : XL P r N ops Q (⟨none, op, ty, pos, aft, none⟩ :: rest) τ ds w := by
  obtain ⟨hn, w', hr, hk, hG⟩ := he
  show OpE P r N ops _ Q τ ds w _
  unfold OpE
  rw [if_pos (by rfl), semAt_op _ hn, hr]
  exact hG
theorem xt_e {p : Plan} {i : Nat} {pos' : String} {aft' : Array Edge} [hS : SubS T S] (hi : ops[i]? = some ⟨some d, op, ty, pos', aft', none⟩) (he : EffV P N T op ty τ w (fun v w' => XT P r N ops Q S U p (upd τ d v) ds w')) : XT P r N ops Q S U (.eff i p) τ ds w := by
  obtain ⟨hn, v, w', hr, hk, hG⟩ := he
  show match ops[i]? with | some o => OpE P r N ops o Q τ ds w (fun τ' ds' w' => Keep S w w' ∧ XT P r N ops Q S U p τ' ds' w') | none => False
  rw [hi]
  show OpE P r N ops _ Q τ ds w _
  unfold OpE
  rw [if_pos (by rfl), semAt_op _ hn, hr]
  exact ⟨hk.mono (fun k _ h => hS.sub k h), hG⟩
theorem xt_s {p : Plan} {i : Nat} {pos' : String} {aft' : Array Edge} [hS : SubS T S] (hi : ops[i]? = some ⟨none, op, ty, pos', aft', none⟩) (he : EffS P N T op ty τ w (fun w' => XT P r N ops Q S U p τ ds w')) : XT P r N ops Q S U (.eff i p) τ ds w := by
  obtain ⟨hn, w', hr, hk, hG⟩ := he
  show match ops[i]? with | some o => OpE P r N ops o Q τ ds w (fun τ' ds' w' => Keep S w w' ∧ XT P r N ops Q S U p τ' ds' w') | none => False
  rw [hi]
  show OpE P r N ops _ Q τ ds w _
  unfold OpE
  rw [if_pos (by rfl), semAt_op _ hn, hr]
  exact ⟨hk.mono (fun k _ h => hS.sub k h), hG⟩
theorem xt_last {i : Nat} {pos' : String} {aft' : Array Edge} [hU : SubS T U] (hi : ops[i]? = some ⟨some d, op, ty, pos', aft', none⟩) (he : EffV P N T op ty τ w (fun v w' => Q .normal (upd τ d v) ds w')) : XT P r N ops Q S U (.last i) τ ds w := by
  obtain ⟨hn, v, w', hr, hk, hG⟩ := he
  show match ops[i]? with | some o => OpE P r N ops o Q τ ds w (fun τ' ds' w' => Keep U w w' ∧ Q .normal τ' ds' w') | none => False
  rw [hi]
  show OpE P r N ops _ Q τ ds w _
  unfold OpE
  rw [if_pos (by rfl), semAt_op _ hn, hr]
  exact ⟨hk.mono (fun k _ h => hU.sub k h), hG⟩
theorem xt_lastS {i : Nat} {pos' : String} {aft' : Array Edge} [hU : SubS T U] (hi : ops[i]? = some ⟨none, op, ty, pos', aft', none⟩) (he : EffS P N T op ty τ w (fun w' => Q .normal τ ds w')) : XT P r N ops Q S U (.last i) τ ds w := by
  obtain ⟨hn, w', hr, hk, hG⟩ := he
  show match ops[i]? with | some o => OpE P r N ops o Q τ ds w (fun τ' ds' w' => Keep U w w' ∧ Q .normal τ' ds' w') | none => False
  rw [hi]
  show OpE P r N ops _ Q τ ds w _
  unfold OpE
  rw [if_pos (by rfl), semAt_op _ hn, hr]
  exact ⟨hk.mono (fun k _ h => hU.sub k h), hG⟩
theorem xt_fe {p : Plan} {i : Nat} {pos' : String} {aft' : Array Edge} [hU : SubS T U] (hi : ops[i]? = some ⟨some d, op, ty, pos', aft', none⟩) (he : EffV P N T op ty τ w (fun v w' => XT P r N ops Q S U p (upd τ d v) ds w')) : XT P r N ops Q S U (.free i p) τ ds w := by
  obtain ⟨hn, v, w', hr, hk, hG⟩ := he
  show match ops[i]? with | some o => OpE P r N ops o Q τ ds w (fun τ' ds' w' => Keep U w w' ∧ XT P r N ops Q S U p τ' ds' w') | none => False
  rw [hi]
  show OpE P r N ops _ Q τ ds w _
  unfold OpE
  rw [if_pos (by rfl), semAt_op _ hn, hr]
  exact ⟨hk.mono (fun k _ h => hU.sub k h), hG⟩
theorem xt_fs {p : Plan} {i : Nat} {pos' : String} {aft' : Array Edge} [hU : SubS T U] (hi : ops[i]? = some ⟨none, op, ty, pos', aft', none⟩) (he : EffS P N T op ty τ w (fun w' => XT P r N ops Q S U p τ ds w')) : XT P r N ops Q S U (.free i p) τ ds w := by
  obtain ⟨hn, w', hr, hk, hG⟩ := he
  show match ops[i]? with | some o => OpE P r N ops o Q τ ds w (fun τ' ds' w' => Keep U w w' ∧ XT P r N ops Q S U p τ' ds' w') | none => False
  rw [hi]
  show OpE P r N ops _ Q τ ds w _
  unfold OpE
  rw [if_pos (by rfl), semAt_op _ hn, hr]
  exact ⟨hk.mono (fun k _ h => hU.sub k h), hG⟩
theorem xt_fork {p q : Plan} {i j : Nat} (h1 : XT P r N ops Q S U (.eff i p) τ ds w) (h2 : XT P r N ops Q S U (.eff j q) τ ds w) : XT P r N ops Q S U (.fork i p j q) τ ds w := ⟨h1, h2⟩
theorem e_v (h : Val P r N NoB op ty τ w v) {G : Value → World → Prop} (hG : G v w) : EffV P N NoB op ty τ w G := ⟨h.1, v, w, h.2 w (Keep.refl _ _), Keep.refl _ _, hG⟩

theorem run_call {g : Operand} {args : List Operand} {at_ : Array TypeId} {f : FuncId} {a c vs as as2 : List Value} [hg : EvO N τ g (.func (.func f) a.toArray c.toArray)] [hv : EvL N τ args vs] [hf : Fun P f] [h1 : App a vs as] [h2 : App as c as2] :
    (execOp (evO N τ) ⟨none, .call { callee := .value g, args := args.toArray, argTypes := at_ }, ty, "", #[], none⟩).run P w = .ok (.enter f as2.toArray) w := by
  obtain ⟨fn, cc, hfn, hnm, hb⟩ := hf.ex
  have e1 : (args.toArray.map (evO N τ)) = vs.toArray := by simp [hv.eq]
  have e2 : a.toArray ++ vs.toArray ++ c.toArray = as2.toArray := by rw [← h2.eq, ← h1.eq]; simp
  have e3 : (a ++ (vs ++ c)).toArray = as2.toArray := by simpa using e2
  simp only [execOp, resolve, Sem.run_bind, hg.eq, Deferred.ofValue, e1, invoke, callFunc, program, Sem.run, hfn, hnm, hb, Sem.run_pure, Result.andThen_ok, beq_iff_eq, if_false, Option.isNone_some, Bool.false_eq_true, List.append_toArray, List.append_assoc, e3]

theorem OpE_call {g : Operand} {args : List Operand} {at_ : Array TypeId} {f : FuncId} {a c vs as as2 : List Value} {R : Value → World → Prop} {K : Tau → List Deferred → World → Prop} {dst : Option Nat}
    [hg : EvO N τ g (.func (.func f) a.toArray c.toArray)] [hv : EvL N τ args vs] [hf : Fun P f] [h1 : App a vs as] [h2 : App as c as2]
    (hc : Ret P f as2.toArray w R) (h : ∀ v w', R v w' → K (updO τ dst v) ds w') : OpE P r N ops ⟨dst, .call { callee := .value g, args := args.toArray, argTypes := at_ }, ty, pos, aft, none⟩ Q τ ds w K := by
  unfold OpE
  rw [if_pos (by rfl), semAt_op _ (fun c h => by cases h)]
  have hr := run_call (P := P) (N := N) (τ := τ) (w := w) (ty := ty) (at_ := at_) (g := g) (args := args) (f := f) (hg := hg) (hv := hv) (h1 := h1) (h2 := h2)
  rw [hr]
  exact Calls.mono hc fun e w'' ⟨v, he, hR⟩ => .inl ⟨v, he, h v w'' hR⟩
theorem xl_call {g : Operand} {args : List Operand} {at_ : Array TypeId} {f : FuncId} {a c vs as as2 : List Value} {R : Value → World → Prop}
    [hg : EvO N τ g (.func (.func f) a.toArray c.toArray)] [hv : EvL N τ args vs] [hf : Fun P f] [h1 : App a vs as] [h2 : App as c as2]
    (hc : Ret P f as2.toArray w R) (h : ∀ v w', R v w' → XL P r N ops Q rest (upd τ d v) ds w') : XL P r N ops Q (⟨some d, .call { callee := .value g, args := args.toArray, argTypes := at_ }, ty, pos, aft, none⟩ :: rest) τ ds w :=
  OpE_call (as2 := as2) hc h
theorem xl_call0 {g : Operand} {args : List Operand} {at_ : Array TypeId} {f : FuncId} {a c vs as as2 : List Value} {R : Value → World → Prop}
    [hg : EvO N τ g (.func (.func f) a.toArray c.toArray)] [hv : EvL N τ args vs] [hf : Fun P f] [h1 : App a vs as] [h2 : App as c as2]
    (hc : Ret P f as2.toArray w R) (h : ∀ v w', R v w' → XL P r N ops Q rest τ ds w') : XL P r N ops Q (⟨none, .call { callee := .value g, args := args.toArray, argTypes := at_ }, ty, pos, aft, none⟩ :: rest) τ ds w :=
  OpE_call (as2 := as2) hc h
theorem xl_gcall {j e' : Nat} {b : Bool} {g : Operand} {args : List Operand} {at_ : Array TypeId} {f : FuncId} {a c vs as as2 : List Value} {R : Value → World → Prop}
    (hj : (ops[j]?).bind (·.dst) = some e') (hb : evO N τ (.tmp e') = .bool b)
    [hg : EvO N τ g (.func (.func f) a.toArray c.toArray)] [hv : EvL N τ args vs] [hf : Fun P f] [h1 : App a vs as] [h2 : App as c as2]
    (hc : Ret P f as2.toArray w R) (h : ∀ v w', R v w' → XL P r N ops Q rest (upd τ d v) ds w') : XL P r N ops Q (⟨some d, .call { callee := .value g, args := args.toArray, argTypes := at_ }, ty, pos, aft, some (j, b)⟩ :: rest) τ ds w := by
  have := OpE_call (P := P) (r := r) (N := N) (Q := Q) (τ := τ) (ds := ds) (w := w) (ty := ty) (ops := ops) (pos := pos) (aft := aft) (at_ := at_) (g := g) (args := args) (as2 := as2) (dst := some d) (hg := hg) (hv := hv) (hf := hf) (h1 := h1) (h2 := h2) hc h
  show OpE P r N ops _ Q τ ds w _
  unfold OpE at *
  rw [if_pos (by simp [wantedT, Region.wanted, yieldedT, hj, hb])]
  rw [if_pos (by rfl)] at this
  exact this
theorem xt_call {p : Plan} {i : Nat} {pos' : String} {aft' : Array Edge} {g : Operand} {args : List Operand} {at_ : Array TypeId} {f : FuncId} {a c vs as as2 : List Value} {R : Value → World → Prop}
    (hi : ops[i]? = some ⟨some d, .call { callee := .value g, args := args.toArray, argTypes := at_ }, ty, pos', aft', none⟩)
    [hg : EvO N τ g (.func (.func f) a.toArray c.toArray)] [hv : EvL N τ args vs] [hf : Fun P f] [h1 : App a vs as] [h2 : App as c as2]
    (hc : Ret P f as2.toArray w R) (h : ∀ v w', R v w' → Keep S w w' ∧ XT P r N ops Q S U p (upd τ d v) ds w') : XT P r N ops Q S U (.eff i p) τ ds w := by
  show match ops[i]? with | some o => OpE P r N ops o Q τ ds w (fun τ' ds' w' => Keep S w w' ∧ XT P r N ops Q S U p τ' ds' w') | none => False
  rw [hi]
  exact OpE_call (as2 := as2) hc h
theorem xt_gcall {p : Plan} {i j e' : Nat} {b : Bool} {pos' : String} {aft' : Array Edge} {g : Operand} {args : List Operand} {at_ : Array TypeId} {f : FuncId} {a c vs as as2 : List Value} {R : Value → World → Prop}
    (hi : ops[i]? = some ⟨some d, .call { callee := .value g, args := args.toArray, argTypes := at_ }, ty, pos', aft', some (j, b)⟩)
    (hj : (ops[j]?).bind (·.dst) = some e') (hb : evO N τ (.tmp e') = .bool b)
    [hg : EvO N τ g (.func (.func f) a.toArray c.toArray)] [hv : EvL N τ args vs] [hf : Fun P f] [h1 : App a vs as] [h2 : App as c as2]
    (hc : Ret P f as2.toArray w R) (h : ∀ v w', R v w' → Keep S w w' ∧ XT P r N ops Q S U p (upd τ d v) ds w') : XT P r N ops Q S U (.eff i p) τ ds w := by
  have := OpE_call (P := P) (r := r) (N := N) (Q := Q) (τ := τ) (ds := ds) (w := w) (ty := ty) (ops := ops) (pos := pos') (aft := aft') (at_ := at_) (g := g) (args := args) (as2 := as2) (dst := some d) (K := fun τ' ds' w' => Keep S w w' ∧ XT P r N ops Q S U p τ' ds' w') (hg := hg) (hv := hv) (hf := hf) (h1 := h1) (h2 := h2) hc h
  show match ops[i]? with | some o => OpE P r N ops o Q τ ds w (fun τ' ds' w' => Keep S w w' ∧ XT P r N ops Q S U p τ' ds' w') | none => False
  rw [hi]
  show OpE P r N ops _ Q τ ds w _
  unfold OpE at *
  rw [if_pos (by simp [wantedT, Region.wanted, yieldedT, hj, hb])]
  rw [if_pos (by rfl)] at this
  exact this

theorem run_newVar (t : TypeId) (v : Value) : (newVar t v).run P w = .ok ⟨w.heap.size, 0, none⟩ (w.alloc (.cells v.cells t)) := by
  rfl
theorem new_blk (o : Obj) : New w.heap.size w ∧ Lk (w.alloc o) w NoB ∧ Blk (w.alloc o) w.heap.size o := ⟨⟨rfl⟩, ⟨Keep.alloc w o⟩, ⟨heap_alloc_new w o⟩⟩
theorem e_box {t : TypeId} {x : Operand} {cs : Array Value} {G : Value → World → Prop} [hx : EvO N τ x v] [hc : Cells v cs]
    (h : ∀ (b : Nat) (w' : World), New b w → Lk w' w NoB → Blk w' b (.cells cs t (0, 0)) → G (.pointer (some ⟨b, 0, none⟩)) w') : EffV P N NoB (.box t x) ty τ w G := by
  have hcs := hc.eq
  subst hcs
  obtain ⟨h1, h2, h3⟩ := new_blk (w := w) (.cells v.cells t)
  exact ⟨fun _ => nofun, _, _, by simp only [execOp, Instr.box, Sem.run_bind, run_newVar, hx.eq, Result.andThen_ok, Sem.run_pure], h2.keep, h _ _ h1 h2 h3⟩
theorem e_alloc {t : TypeId} {sz bytes : Nat} {z : Value} {cs : Array Value} {G : Value → World → Prop} [hi : Inf P t sz bytes z] [hc : Cells z cs]
    (h : ∀ (b : Nat) (w' : World), New b w → Lk w' w NoB → Blk w' b (.cells cs t (0, 0)) → G (.pointer (some ⟨b, 0, none⟩)) w') : EffV P N NoB (.alloc t) ty τ w G := by
  have hcs := hc.eq
  subst hcs
  obtain ⟨i, h5, h6, h7, h8⟩ := hi.ex
  obtain ⟨h1, h2, h3⟩ := new_blk (w := w) (.cells z.cells t)
  exact ⟨fun _ => nofun, _, _, by simp only [execOp, Instr.alloc, zeroValue, typeInfo, program, Sem.run, Sem.run_bind, run_newVar, h5, h8, Result.andThen_ok, Sem.run_pure], h2.keep, h _ _ h1 h2 h3⟩

theorem keep_setCell (b off : Nat) (v : Value) : Keep (OneB b) w (w.setCell ⟨b, off, none⟩ v) :=
  ⟨rfl, rfl, rfl, by simp [World.setCell], fun k _ hk => Go.RowKit.Below.heap_setCell _ _ _ _ (fun e => hk e)⟩
theorem blk_setCell {b off : Nat} {cs cs' : Array Value} {e : TypeId} {fr : Nat × Nat} (h : w.heap[b]? = some (.cells cs e fr)) (hs : cs.setIfInBounds off v = cs') : (w.setCell ⟨b, off, none⟩ v).heap[b]? = some (.cells cs' e fr) := by
  subst hs
  simp [World.setCell, Array.getElem?_modify, h]
theorem e_store {t e : TypeId} {x y : Operand} {b off bytes : Nat} {z : Value} {cs cs' : Array Value} {G : World → Prop} [hx : EvO N τ x (.pointer (some ⟨b, off, none⟩))] [hy : EvO N τ y v] [h1 : Cell1 v] [hi : Inf P t 1 bytes z]
    [hb : Blk w b (.cells cs e (0, 0))] [hc : CsSet cs off v cs'] (h : ∀ w', Lk w' w (OneB b) → Blk w' b (.cells cs' e (0, 0)) → G w') : EffS P N (OneB b) (.store t x y) ty τ w G := by
  obtain ⟨i, h5, h6, h7, h8⟩ := hi.ex
  obtain ⟨hlt, hset⟩ := hc.eq
  have hcell : w.cell? ⟨b, off, none⟩ = some cs[off] := by rw [cell_of_blk hb.eq]; exact Array.getElem?_eq_getElem hlt
  have hfr : w.frozen? ⟨b, off, none⟩ = false := by have := hb.eq; simp [World.frozen?, this]
  have hcells : v.cells = #[v] := by have := h1.eq; cases v <;> simp_all [Value.oneCell', Value.cells]
  have hst := run_store P w ⟨b, off, none⟩ v .plain h1.eq
  refine ⟨fun _ => nofun, w.setCell ⟨b, off, none⟩ v, ?_, keep_setCell b off v, h _ ⟨keep_setCell b off v⟩ ⟨blk_setCell hb.eq hset⟩⟩
  have ha : (⟨b, off, none⟩ : Addr).add 0 = ⟨b, off, none⟩ := rfl
  simp [execOp, hx.eq, hy.eq, Instr.storeAt, Instr.sureAddr, storeVar, hcells, sizeOf, typeInfo, program, Sem.run, h5, h6, storeCells, ha, hst, hcell, hfr]

def bodyQ (P : Program) (fn : Func) (N : Nat) (R : Value → World → Prop) : Post
  | .normal, τ, ds, w => ∀ a, Rel N τ ds a → LeavesInM (FX none) 0 P fn a.tmps (fun e w' => ∃ v, e = .returned v ∧ R v w') ds .returning w
  | .ret, τ, ds, w => ∀ a, Rel N τ ds a → LeavesInM (FX none) 0 P fn a.tmps (fun e w' => ∃ v, e = .returned v ∧ R v w') ds .returning w
  | _, _, _, _ => False

def frame0 (l : List Value) : Tau := fun t => l.getD t undef
instance ev_f0_nil (t : Nat) : Ev (frame0 []) t undef := ⟨rfl⟩
instance ev_f0_zero (v : Value) (l : List Value) : Ev (frame0 (v :: l)) 0 v := ⟨rfl⟩
instance ev_f0_succ (u v : Value) (l : List Value) (t : Nat) [h : Ev (frame0 l) t v] : Ev (frame0 (u :: l)) (t + 1) v := ⟨h.eq⟩

theorem rel_frame0 (l : List Value) (hl : l.length ≤ N) : Rel N (frame0 l) [] { tmps := l.toArray ++ Array.replicate (N - l.toArray.size) undef, defers := [] } := by
  refine ⟨by simp; omega, fun t ht => ?_, rfl⟩
  by_cases h : t < l.length
  · simp [frame0, Array.getElem?_append, h]
  · have h2 : t - l.length < N - l.length := by omega
    simp [frame0, Array.getElem?_append, h, h2]

theorem ret_of_x {f : FuncId} {fn : Func} {c : Code} {l : List Value} {R : Value → World → Prop} (hf : P.funcs[f]? = some fn) (hb : fn.body = some c) (hN : fn.ntmps = N) (hl : l.length ≤ N)
    (h : X P none N c (bodyQ P fn N R) (frame0 l) [] w) : Ret P f l.toArray w R := by
  refine (callsIn_FX (r := none) (n := 0)).1 (callsIn_of_wp_marks hf hb trivial (wpIn_mono (h _ (by rw [hN]; exact rel_frame0 l hl)) ?_))
  intro e a w' hq
  obtain ⟨t, d, hr, hq⟩ := hq
  have hd := hr.dfs
  cases e with
  | normal => have := hq a hr; simp only [bodyPostM, hd]; exact this
  | ret => have := hq a hr; simp only [bodyPostM, hd]; exact this
  | _ => exact hq.elim

theorem Rel.getE {a : Act} {t : Nat} (h : Rel N τ ds a) [hl : LtN t N] [he : Ev τ t v] : a.tmps.getD t undef = v := (h.get t hl.lt).trans he.eq
section fin
variable {fn : Func} {R : Value → World → Prop} {t1 t2 t3 t4 : Nat} {v1 v2 v3 v4 : Value}
theorem fin0 (hr : fn.results = #[]) (hR : R (.tuple #[]) w) : bodyQ P fn N R .normal τ [] w := fun a ha => ⟨_, results_none hr _ _ _, _, rfl, hR⟩
theorem fin0r (hr : fn.results = #[]) (hR : R (.tuple #[]) w) : bodyQ P fn N R .ret τ [] w := fun a ha => ⟨_, results_none hr _ _ _, _, rfl, hR⟩
theorem fin1 (hr : fn.results = #[.tmp t1]) [LtN t1 N] [Ev τ t1 v1] (hR : R v1 w) : bodyQ P fn N R .ret τ [] w := fun a ha => ⟨_, results_tmp hr _ _ _, _, rfl, by rw [ha.getE (t := t1) (v := v1)]; exact hR⟩
theorem fin2 (hr : fn.results = #[.tmp t1, .tmp t2]) [LtN t1 N] [Ev τ t1 v1] [LtN t2 N] [Ev τ t2 v2] (hR : R (.tuple #[v1, v2]) w) : bodyQ P fn N R .ret τ [] w := fun a ha => ⟨_, results_tmp2 hr _ _ _, _, rfl, by rw [ha.getE (t := t1) (v := v1), ha.getE (t := t2) (v := v2)]; exact hR⟩
theorem results_tmp3_ {t u s : Tmp} (h : fn.results = #[.tmp t, .tmp u, .tmp s]) (tmps : Array Value) (P : Program) (w : World) :
    (results fn tmps).run P w = .ok (.tuple #[tmps.getD t undef, tmps.getD u undef, tmps.getD s undef]) w := by simp [results, h]
theorem results_tmp4_ {t u s x : Tmp} (h : fn.results = #[.tmp t, .tmp u, .tmp s, .tmp x]) (tmps : Array Value) (P : Program) (w : World) :
    (results fn tmps).run P w = .ok (.tuple #[tmps.getD t undef, tmps.getD u undef, tmps.getD s undef, tmps.getD x undef]) w := by simp [results, h]
theorem fin3 (hr : fn.results = #[.tmp t1, .tmp t2, .tmp t3]) [LtN t1 N] [Ev τ t1 v1] [LtN t2 N] [Ev τ t2 v2] [LtN t3 N] [Ev τ t3 v3] (hR : R (.tuple #[v1, v2, v3]) w) : bodyQ P fn N R .ret τ [] w := fun a ha =>
  ⟨_, results_tmp3_ hr _ _ _, _, rfl, by rw [ha.getE (t := t1) (v := v1), ha.getE (t := t2) (v := v2), ha.getE (t := t3) (v := v3)]; exact hR⟩
theorem fin4 (hr : fn.results = #[.tmp t1, .tmp t2, .tmp t3, .tmp t4]) [LtN t1 N] [Ev τ t1 v1] [LtN t2 N] [Ev τ t2 v2] [LtN t3 N] [Ev τ t3 v3] [LtN t4 N] [Ev τ t4 v4] (hR : R (.tuple #[v1, v2, v3, v4]) w) : bodyQ P fn N R .ret τ [] w := fun a ha =>
  ⟨_, results_tmp4_ hr _ _ _, _, rfl, by rw [ha.getE (t := t1) (v := v1), ha.getE (t := t2) (v := v2), ha.getE (t := t3) (v := v3), ha.getE (t := t4) (v := v4)]; exact hR⟩
end fin

class Ge (w' w : World) : Prop where le : w.heap.size ≤ w'.heap.size
instance (priority := low) ge_step (w' w1 w : World) (T : Nat → Prop) [l : Lk w' w1 T] [g : Ge w1 w] : Ge w' w := ⟨Nat.le_trans g.le l.keep.size⟩
instance ge_refl (w : World) : Ge w w := ⟨Nat.le_refl _⟩
class SubF (T S : Nat → Prop) (w : World) : Prop where sub : ∀ k, k < w.heap.size → T k → S k
instance subF_no (S : Nat → Prop) (w : World) : SubF NoB S w := ⟨fun _ _ h => h.elim⟩
instance subF_refl (S : Nat → Prop) (w : World) : SubF S S w := ⟨fun _ _ h => h⟩
instance subF_new (b : Nat) (S : Nat → Prop) (w w1 : World) [h : New b w1] [g : Ge w1 w] : SubF (OneB b) S w := ⟨fun k hk e => by
  have h1 := h.eq
  have h2 := g.le
  have h3 : k = b := e
  omega⟩
class Chain (w' w : World) (S : Nat → Prop) : Prop where keep : Keep S w w'
instance (priority := low) chain_step (w' w1 w : World) (T S : Nat → Prop) [l : Lk w' w1 T] [c : Chain w1 w S] [s : SubF T S w] : Chain w' w S := ⟨c.keep.then l.keep (fun k hk ht => s.sub k hk ht)⟩
instance chain_refl (w : World) (S : Nat → Prop) : Chain w w S := ⟨Keep.refl _ _⟩
theorem lkc {w' w : World} [h : Chain w' w S] : Lk w' w S := ⟨h.keep⟩
theorem kpc {w' w : World} [h : Chain w' w S] : Keep S w w' := h.keep

theorem x_drawL {id : Nat} (S U : Nat → Prop) (p : Plan) (hm : P.follows .mixedOrders = true) (hok : (Region.noSelect ops && p.ok ops p.lastI (Array.replicate ops.size false) && decide (p.size ≤ ops.size)) = true)
    (hQ : ∀ ch τ τ' ds w, Q (.panic ch) τ ds w → Q (.panic ch) τ' ds w) (h : ∀ w1, Lk w1 w NoB → XT P r N ops Q S U p τ ds w1) : X P r N (.region id ops true) Q τ ds w :=
  x_draw S U p hm hok hQ (h _ ⟨Keep.drawn w _⟩)

theorem x_condE {c : Operand} {x y : Code} {b : Bool} [hc : EvO N τ c (.bool b)] (ht : b = true → X P r N x Q τ ds w) (hf : b = false → X P r N y Q τ ds w) : X P r N (.cond c x y) Q τ ds w := x_cond hc.eq ht hf
theorem x_condP {c : Operand} {x y : Code} {p : Prop} [Decidable p] [hc : EvO N τ c (.bool (decide p))] (ht : p → X P r N x Q τ ds w) (hf : ¬ p → X P r N y Q τ ds w) : X P r N (.cond c x y) Q τ ds w :=
  x_cond hc.eq (fun h => ht (of_decide_eq_true h)) (fun h => hf (of_decide_eq_false h))
theorem x_condN {c : Operand} {x y : Code} {p : Prop} [Decidable p] [hc : EvO N τ c (.bool (!decide p))] (ht : ¬ p → X P r N x Q τ ds w) (hf : p → X P r N y Q τ ds w) : X P r N (.cond c x y) Q τ ds w :=
  x_cond hc.eq (fun h => ht (of_decide_eq_false (by simpa using h))) (fun h => hf (of_decide_eq_true (by simpa using h)))
theorem x_condT {c : Operand} {x y : Code} [hc : EvO N τ c (.bool true)] (ht : X P r N x Q τ ds w) : X P r N (.cond c x y) Q τ ds w := x_cond hc.eq (fun _ => ht) (fun h => by cases h)
theorem x_condF {c : Operand} {x y : Code} [hc : EvO N τ c (.bool false)] (hf : X P r N y Q τ ds w) : X P r N (.cond c x y) Q τ ds w := x_cond hc.eq (fun h => by cases h) (fun _ => hf)

end laws
end Go.Wst
set_option linter.all false
namespace Go.Wst

class CsSub (cs : List Value) (off n : Nat) (ds : outParam (List Value)) : Prop where eq : (cs.drop off).take n = ds ∧ off + n ≤ cs.length
instance cssub_nil (cs : List Value) : CsSub cs 0 0 [] := ⟨by simp⟩
instance cssub_cons (v : Value) (l ds : List Value) (n : Nat) [h : CsSub l 0 n ds] : CsSub (v :: l) 0 (n + 1) (v :: ds) := ⟨by have := h.eq; simp at this ⊢; exact ⟨this.1, by omega⟩⟩
instance cssub_succ (v : Value) (l ds : List Value) (i n : Nat) [h : CsSub l i n ds] : CsSub (v :: l) (i + 1) n ds := ⟨by have := h.eq; simp at this ⊢; exact ⟨this.1, by omega⟩⟩
def setMany (cs : Array Value) (off : Nat) : List Value → Array Value | [] => cs | v :: r => setMany (cs.setIfInBounds off v) (off + 1) r
theorem size_setMany : ∀ (vs : List Value) (cs : Array Value) (off : Nat), (setMany cs off vs).size = cs.size
  | [], _, _ => rfl
  | v :: r, cs, off => by rw [setMany, size_setMany r]; simp
class CsPut (cs : Array Value) (off : Nat) (vs : List Value) (ds : outParam (Array Value)) : Prop where eq : setMany cs off vs = ds ∧ off + vs.length ≤ cs.size
class LeN (a b : Nat) : Prop where le : a ≤ b
instance len (k t : Nat) : LeN t (k + t) := ⟨by omega⟩
class Siz (cs : Array Value) (n : outParam Nat) : Prop where eq : cs.size = n
instance siz_nil : Siz #[] 0 := ⟨rfl⟩
instance siz_cons (v : Value) (l : List Value) (n : Nat) [h : Siz l.toArray n] : Siz (v :: l).toArray (n + 1) := ⟨by have := h.eq; simpa using this⟩
instance csput_nil (cs : Array Value) (off n : Nat) [h : Siz cs n] [k : LeN off n] : CsPut cs off [] cs := ⟨rfl, by rw [h.eq]; exact k.le⟩
instance csput_cons (cs cs1 ds : Array Value) (off : Nat) (v : Value) (vs : List Value) [h : CsSet cs off v cs1] [k : CsPut cs1 (off + 1) vs ds] : CsPut cs off (v :: vs) ds := ⟨by
  obtain ⟨h1, h2⟩ := h.eq
  obtain ⟨k1, k2⟩ := k.eq
  subst h2
  refine ⟨k1, ?_⟩
  simp only [Array.size_setIfInBounds] at k2
  simp only [List.length_cons]; omega⟩

class Places (P : Program) (t : TypeId) (pl : outParam (List (Nat × Nat))) : Prop where ex : ∃ fs, P.underlying t = some (.struct fs) ∧ fs.toList.mapM (fun f => (P.info? f.type).map fun i => (f.offset, i.size)) = some pl
class PlGet (pl : List (Nat × Nat)) (i : Nat) (off sz : outParam Nat) : Prop where eq : pl[i]? = some (off, sz)
instance plget_zero (o s : Nat) (l : List (Nat × Nat)) : PlGet ((o, s) :: l) 0 o s := ⟨rfl⟩
instance plget_succ (p : Nat × Nat) (l : List (Nat × Nat)) (i o s : Nat) [h : PlGet l i o s] : PlGet (p :: l) (i + 1) o s := ⟨by simpa using h.eq⟩
class FillC (pl : List (Nat × Nat)) (cs : Array Value) (parts : List (Nat × Value)) (ds : outParam (Array Value)) : Prop where eq : Instr.fill (pl[·]?) cs parts = some ds
instance fillc_nil (pl : List (Nat × Nat)) (cs : Array Value) : FillC pl cs [] cs := ⟨rfl⟩
theorem foldl_setMany (off : Nat) : ∀ (l : List Value) (s : Nat) (cs : Array Value), (l.zipIdx s).foldl (fun cs (x : Value × Nat) => cs.setIfInBounds (off + x.2) x.1) cs = setMany cs (off + s) l
  | [], _, _ => rfl
  | v :: l, s, cs => by rw [List.zipIdx_cons, List.foldl_cons, foldl_setMany off l (s + 1)]; rfl
theorem fill_cons {place : Nat → Option (Nat × Nat)} {cs : Array Value} {i off sz : Nat} {v : Value} {vs : List Value} {rest : List (Nat × Value)} (hp : place i = some (off, sz)) (hv : v.cells = vs.toArray) (hs : vs.length = sz) (hl : off + vs.length ≤ cs.size) :
    Instr.fill place cs ((i, v) :: rest) = Instr.fill place (setMany cs off vs) rest := by
  rw [Instr.fill]
  simp only [hp, hv]
  have h1 : ¬ (vs.toArray.size ≠ sz || decide (off + vs.toArray.size > cs.size)) = true := by simp [hs]; omega
  rw [if_neg h1]
  congr 1
  have := foldl_setMany off vs 0 cs
  simpa [Array.zipIdx_toArray] using this
class LenL (vs : List Value) (n : outParam Nat) : Prop where eq : vs.length = n
instance lenl_nil : LenL [] 0 := ⟨rfl⟩
instance lenl_cons (v : Value) (l : List Value) (n : Nat) [h : LenL l n] : LenL (v :: l) (n + 1) := ⟨by rw [List.length_cons, h.eq]⟩
class EqN (a b : Nat) : Prop where eq : a = b
instance eqn (a : Nat) : EqN a a := ⟨rfl⟩
instance fillc_cons (pl : List (Nat × Nat)) (cs cs1 ds : Array Value) (i off sz n : Nat) (v : Value) (vs : List Value) (rest : List (Nat × Value)) [hp : PlGet pl i off sz] [hv : Cells v vs.toArray] [hn : LenL vs n] [he : EqN n sz] [h1 : CsPut cs off vs cs1] [k : FillC pl cs1 rest ds] :
    FillC pl cs ((i, v) :: rest) ds := ⟨by
  obtain ⟨e1, e2⟩ := h1.eq
  rw [fill_cons hp.eq hv.eq (hn.eq.trans he.eq) e2, e1]
  exact k.eq⟩

section laws
variable {P : Program} {r : Option Nat} {N : Nat} {S T : Nat → Prop} {Q : Post} {τ : Tau} {ds : List Deferred} {w : World} {ty : TypeId} {ops : Array Oper} {rest : List Oper} {pos : String} {aft : Array Edge} {d : Nat} {v : Value} {op : Op}

theorem v_build {t : TypeId} {parts : List (Nat × Operand)} {vs : List (Nat × Value)} {pl : List (Nat × Nat)} {sz bytes : Nat} {z : Value} {zc cs : Array Value} [hv : EvP N τ parts vs] [hp : Places P t pl] [hi : Inf P t sz bytes z] [hz : Cells z zc] [hf : FillC pl zc vs cs] :
    Val P r N S (.build t parts.toArray) ty τ w (.agg cs) := ⟨fun _ => nofun, fun W _ => by
  obtain ⟨fs, h1, h2⟩ := hp.ex
  obtain ⟨i, h3, h4, h5, h6⟩ := hi.ex
  have hpl := run_places (P := P) W fs.toList pl h2
  have hm : (fs.mapM fun f => do pure (f.offset, ← sizeOf f.type) : Sem (Array (Nat × Nat))).run P W = .ok pl.toArray W := by
    have e : (fun (f : Field) => (do pure (f.offset, ← sizeOf f.type) : Sem (Nat × Nat))) = (fun f => Prod.mk f.offset <$> sizeOf f.type) := by funext f; rw [map_eq_pure_bind]
    rw [Array.mapM_eq_mapM_toList, Sem.run_map, e, hpl]
    rfl
  have hfill := hf.eq
  have hpf : (fun (i : Nat) => pl.toArray[i]?) = (fun (i : Nat) => pl[i]?) := by funext i; simp
  simp only [execOp, Instr.build, Sem.run_bind, zeroValue, typeInfo, program, Sem.run, h3, h6, Sem.run_pure, Result.andThen_ok, run_underlying h1, hm, hz.eq]
  have e1 : (parts.toArray.map fun (x : Nat × Operand) => (x.1, evO N τ x.2)).toList = vs := by simp [hv.eq]
  simp only [e1, hpf, hfill, Sem.run_pure, Result.andThen_ok]⟩

theorem e_buildSlice1 {t e : TypeId} {x : Operand} {sz bytes : Nat} {z : Value} {vs : List Value} {G : Value → World → Prop} [hx : EvO N τ x v] [hu : Und P t (.slice e)] [hi : Inf P e sz bytes z] [hc : Cells v vs.toArray] [hn : LenL vs sz] (hpos : (Nat.ble 1 sz && Nat.ble sz 1000) = true)
    (h : ∀ (b : Nat) (w' : World), New b w → Lk w' w NoB → Blk w' b (.cells vs.toArray e (0, 0)) → G (.slice (some ⟨b, 0, none⟩) 1 1) w') : EffV P N NoB (.buildSlice t 1 #[(0, x)]) ty τ w G := by
  obtain ⟨i, h5, h6, h7, h8⟩ := hi.ex
  subst h6
  simp only [Bool.and_eq_true, Nat.ble_eq] at hpos
  obtain ⟨h1, h2, h3⟩ := new_blk (w := w) (.cells vs.toArray e)
  refine ⟨fun _ => nofun, _, _, ?_, h2.keep, h _ _ h1 h2 h3⟩
  have hfill : Instr.fill (fun j => some (j * i.size, i.size)) ((Array.range (1 * i.size)).map (z.cells[· % z.cells.size]!)) [(0, v)] = some vs.toArray := by
    rw [fill_cons (off := 0) (sz := i.size) (by simp) hc.eq hn.eq (by simp [hn.eq]), Instr.fill]
    congr 1
    have hsz : ((Array.range (1 * i.size)).map (z.cells[· % z.cells.size]!)).size = vs.length := by simp [hn.eq]
    generalize ((Array.range (1 * i.size)).map (z.cells[· % z.cells.size]!)) = zs at hsz
    have key : ∀ (l : List Value) (pre : List Value) (cs : Array Value), cs.size = pre.length + l.length → (∀ k, k < pre.length → cs[k]? = pre[k]?) → setMany cs pre.length l = (pre ++ l).toArray := by
      intro l
      induction l with
      | nil =>
        intro pre cs h1 h2
        apply Array.ext_getElem?
        intro k
        by_cases hk : k < pre.length
        · simpa [setMany] using h2 k hk
        · have : cs.size ≤ k := by rw [h1]; simp; omega
          simp only [setMany]
          rw [Array.getElem?_eq_none this, Array.getElem?_eq_none (by simp; omega)]
      | cons a l ih =>
        intro pre cs h1 h2
        rw [setMany]
        have := ih (pre ++ [a]) (cs.setIfInBounds pre.length a) (by simp [h1]; omega) (fun k hk => by
          by_cases hkp : k = pre.length
          · subst hkp
            have hlt : pre.length < cs.size := by rw [h1]; simp
            simp [hlt]
          · have hk' : k < pre.length := by simp at hk; omega
            rw [Array.getElem?_setIfInBounds_ne (Ne.symm hkp), h2 k hk', List.getElem?_append_left hk'])
        simpa using this
    simpa using key vs [] zs (by simpa using hsz) (by simp)
  have hb := Go.run_buildSlice (P := P) w t e 1 #[(0, v)] vs.toArray i z hu.eq h5 h8 (by omega) (by omega) hfill
  simp only [execOp, Sem.run_bind, List.map_toArray, List.map_cons, List.map_nil, hx.eq, hb, Result.andThen_ok, Sem.run_pure]

theorem row_blk {b : Nat} {cs : List Value} {e : TypeId} {fr : Nat × Nat} (h : w.heap[b]? = some (.cells cs.toArray e fr)) : RowP w (some ⟨b, 0, none⟩) cs := fun j v hv => by
  refine ⟨_, rfl, ?_⟩
  rw [add_none, cell_of_blk h]
  simpa using hv
instance rowI_blk (b : Nat) (cs : List Value) (e : TypeId) (fr : Nat × Nat) [h : Blk w b (.cells cs.toArray e fr)] : Row w (some ⟨b, 0, none⟩) cs := ⟨row_blk h.eq⟩

def OwnB (v : Value) : Nat → Prop := fun k => some k = v.ownBlock
theorem ownsRow_form {base : Nat} {e : TypeId} {sz n : Nat} {v : Value} {xs : List Value} (h : w.ownsRow base e sz v n xs) : ∃ A cap, v = .slice A n cap ∧ (∀ a, A = some a → base ≤ a.block ∧ a.off = 0 ∧ a.spot = none) ∧ n ≤ cap ∧ RowP w A xs := by
  rcases h.2 with ⟨rfl, rfl⟩ | ⟨g, cap, cur, rfl, hb, hg, hn, hm, hs, ht⟩
  · have : xs = [] := List.eq_nil_of_length_eq_zero (by simpa using h.1)
    subst this
    exact ⟨none, 0, rfl, fun _ h => (by cases h), Nat.le_refl _, fun j v hv => by simp at hv⟩
  · refine ⟨_, cap, rfl, fun a ha => by cases ha; exact ⟨hb, rfl, rfl⟩, hn, fun j v hv => ⟨_, rfl, ?_⟩⟩
    exact h.cells rfl j v hv
class Cell1L (vs : List Value) : Prop where eq : ∀ u ∈ vs, u.oneCell' = true
instance cell1l_nil : Cell1L [] := ⟨by simp⟩
instance cell1l_cons (v : Value) (l : List Value) [h : Cell1 v] [k : Cell1L l] : Cell1L (v :: l) := ⟨by
  intro u hu
  rcases List.mem_cons.1 hu with rfl | hu
  · exact h.eq
  · exact k.eq u hu⟩
theorem e_append {x y : Operand} {t e : TypeId} {base sz bytes n m c : Nat} {z : Value} {zc : Array Value} {v : Value} {xs news : List Value} {A : Option Addr} {G : Value → World → Prop} [hx : EvO N τ x v] [hy : EvO N τ y (.slice A m c)] [hu : Und P t (.slice e)] [hi : Inf P e sz bytes z] [hz : Cells z zc] [hzs : Siz zc sz]
    [hrow : Row w A news] (hown : w.ownsRow base e sz v n xs) (hbase : base ≤ w.heap.size) (hl : news.length = m * sz) (h1 : ∀ u ∈ news, u.oneCell' = true) (hpos : 0 < sz) (hA : A.isSome = true) (h63 : n + m ≤ 4294967296) (hbytes : (n + m) * bytes ≤ 140737488355328)
    (h : ∀ (A' : Option Addr) (cap' : Nat) (w' : World), w'.ownsRow base e sz (.slice A' (n + m) cap') (n + m) (xs ++ news) → Lk w' w (OwnB v) → G (.slice A' (n + m) cap') w') :
    EffV P N (OwnB v) (.call { callee := .builtin .append, args := #[x, y], argTypes := #[t, t] }) ty τ w G := by
  obtain ⟨i, h5, h6, h7, h8⟩ := hi.ex
  obtain ⟨a, rfl⟩ := Option.isSome_iff_exists.1 hA
  have hnews : ∀ j u, news[j]? = some u → w.cell? (a.add j) = some u := fun j u hj => by
    obtain ⟨a', ha', hc⟩ := hrow.row j u hj
    cases ha'; exact hc
  have hzc : z.cells.size = sz := by rw [hz.eq]; exact hzs.eq
  obtain ⟨v', w', hr, ho, hg, _⟩ := run_append_own (P := P) w base t ty e i z sz bytes hu.eq h5 h8 h6 h7 hzc hpos v n xs hown a m c news hl hnews h1 (by unfold maxLen; omega) hbytes hbase
  have hk : Keep (OwnB v) w w' := Keep.of_grown hg
  obtain ⟨A', cap', rfl, _⟩ := ownsRow_form ho
  exact ⟨fun _ => nofun, _, w', by simp [execOp, resolve, invoke, builtin, hx.eq, hy.eq, hr, Result.andThen], hk, h A' cap' w' ho ⟨hk⟩⟩

theorem own_keep {base : Nat} {e : TypeId} {sz n : Nat} {v : Value} {xs : List Value} {w' : World} (h : w.ownsRow base e sz v n xs) (hk : Keep S w w') (hs : ∀ k, v.ownBlock = some k → ¬ S k) : w'.ownsRow base e sz v n xs := by
  refine ⟨h.1, ?_⟩
  rcases h.2 with hn | ⟨g, cap, cur, rfl, hb, hg, rest⟩
  · exact .inl hn
  · refine .inr ⟨g, cap, cur, rfl, hb, ?_, rest⟩
    rw [hk.block g (Array.getElem?_eq_some_iff.1 hg).1 (hs g rfl)]
    exact hg
theorem own_ext {base : Nat} {e : TypeId} {sz n : Nat} {v : Value} {xs : List Value} {w' : World} (h : w.ownsRow base e sz v n xs) (hk : Lk w' w NoB) : w'.ownsRow base e sz v n xs := own_keep h hk.keep (fun _ _ h => h)
theorem keep_own {base : Nat} {e : TypeId} {sz n : Nat} {v : Value} {xs : List Value} {w0 w' : World} (h : w.ownsRow base e sz v n xs) (h0 : Keep S w0 w) (hk : Keep (OwnB v) w w') (hb : w0.heap.size ≤ base) : Keep S w0 w' :=
  h0.then hk (fun k hlt hT => by
    have := (h.lt k hT.symm).1
    omega)

theorem v_sliceL {x y : Operand} {t e : TypeId} {A : Option Addr} {n c sz bytes : Nat} {z : Value} {i : Int} (k : Nat) [hx : EvO N τ x (.slice A n c)] [hy : EvO N τ y (.int .i64 i)] [hu : Und P t (.slice e)] [hi : Inf P e sz bytes z] (hk : i = (k : Int)) (hn : k ≤ n) :
    Val P r N S (.slice t x (some y) none none) ty τ w (.slice (if c = k then A else A.map (·.add (k * sz))) (n - k) (c - k)) := ⟨fun _ => nofun, fun W _ => by
  obtain ⟨ii, h1, h2, h3, h4⟩ := hi.ex
  subst hk; subst h2
  simp [execOp, hx.eq, hy.eq, Instr.sliceAt, run_underlying hu.eq, Instr.slice, Instr.sliceBounds, Instr.sliceBound, asIntOf, hn, sizeOf, typeInfo, program, Sem.run, h1]⟩
theorem v_sliceH {x y : Operand} {t e : TypeId} {A : Option Addr} {n c sz bytes : Nat} {z : Value} {i : Int} (k : Nat) [hx : EvO N τ x (.slice A n c)] [hy : EvO N τ y (.int .i64 i)] [hu : Und P t (.slice e)] [hi : Inf P e sz bytes z] (hk : i = (k : Int)) (hn : k ≤ c) :
    Val P r N S (.slice t x none (some y) none) ty τ w (.slice A k c) := ⟨fun _ => nofun, fun W _ => by
  obtain ⟨ii, h1, h2, h3, h4⟩ := hi.ex
  subst hk; subst h2
  have : A.map (·.add 0) = A := by cases A <;> simp [Addr.add]
  simp [execOp, hx.eq, hy.eq, Instr.sliceAt, run_underlying hu.eq, Instr.slice, Instr.sliceBounds, Instr.sliceBound, asIntOf, hn, sizeOf, typeInfo, program, Sem.run, h1, this]⟩

theorem run_isAgg_many {t : TypeId} {n : Nat} (h : Many P t n) (W : World) : (isAgg t).run P W = .ok true W := by
  obtain ⟨dd, i, h7, h8, _⟩ := h.ex
  unfold isAgg
  cases dd <;> simp_all [run_underlying h7]
theorem run_loadCellsFrom (W : World) (a : Addr) : ∀ (vs : List Value) (k : Nat) (acc : Array Value), (∀ j v, vs[j]? = some v → W.cell? (a.add (k + j)) = some v) → (loadCellsFrom a k vs.length acc).run P W = .ok (acc ++ vs.toArray) W
  | [], _, acc, _ => by simp [loadCellsFrom]
  | v :: vs, k, acc, h => by
    have h0 : W.cell? (a.add k) = some v := by simpa using h 0 v rfl
    have ih := run_loadCellsFrom W a vs (k + 1) (acc.push v) (fun j u hj => by have := h (j + 1) u (by simpa using hj); rwa [show k + (j + 1) = k + 1 + j by omega] at this)
    simp only [List.length_cons, loadCellsFrom, Sem.run_bind, run_load, h0, Result.andThen_ok, ih]
    simp
theorem run_loadVar_many {t : TypeId} {n : Nat} (ht : Many P t n) (W : World) (a : Addr) (vs : List Value) (hl : vs.length = n) (h : ∀ j v, vs[j]? = some v → W.cell? (a.add j) = some v) : (loadVar t a).run P W = .ok (.agg vs.toArray) W := by
  have hag := run_isAgg_many ht W
  obtain ⟨dd, i, h7, h8, h9, h10⟩ := ht.ex
  have hsz : (sizeOf t).run P W = .ok n W := by simp [sizeOf, typeInfo, program, Sem.run, h9, h10]
  have hlc := run_loadCellsFrom (P := P) W a vs 0 #[] (by simpa using h)
  rw [hl] at hlc
  simp [loadVar, hag, hsz, loadCells, hlc]
theorem v_loadA {x : Operand} {t e : TypeId} {b off n : Nat} {cs vs : List Value} {fr : Nat × Nat} [hx : EvO N τ x (.pointer (some ⟨b, off, none⟩))] [ho : Many P t n] [hb : Blk w b (.cells cs.toArray e fr)] [hs : NotS S b] [hc : CsSub cs off n vs] : Val P r N S (.load t x) ty τ w (.agg vs.toArray) := ⟨fun _ => nofun, fun W hW => by
  have h1 := (hW.block b (Array.getElem?_eq_some_iff.1 hb.eq).1 hs.not).trans hb.eq
  obtain ⟨e1, e2⟩ := hc.eq
  have hl : vs.length = n := by rw [← e1]; simp; omega
  have h2 : ∀ j v, vs[j]? = some v → W.cell? ((⟨b, off, none⟩ : Addr).add j) = some v := fun j v hj => by
    rw [add_none, cell_of_blk h1]
    rw [← e1, List.getElem?_take] at hj
    split at hj
    · rw [List.getElem?_drop] at hj; simpa using hj
    · cases hj
  have := run_loadVar_many ho W ⟨b, off, none⟩ vs hl h2
  simp [execOp, hx.eq, Instr.loadAt, Instr.sureAddr, this]⟩
theorem v_loadRA {x : Operand} {t : TypeId} {A : Option Addr} {j n : Nat} {cs vs : List Value} [hx : EvO N τ x (padd A j)] [ho : Many P t n] [hr : Row w A cs] [hs : RowOut S A] (hl : vs.length = n) (hA : A.isSome = true) (hv : ∀ i u, vs[i]? = some u → cs[j + i]? = some u) : Val P r N S (.load t x) ty τ w (.agg vs.toArray) := ⟨fun _ => nofun, fun W hW => by
  obtain ⟨a, rfl⟩ := Option.isSome_iff_exists.1 hA
  have h2 : ∀ i v, vs[i]? = some v → W.cell? ((a.add j).add i) = some v := fun i v hi => by
    obtain ⟨a', ha', hc⟩ := (hr.row.keep hW hs.out) (j + i) v (hv i v hi)
    cases ha'
    rw [add_add]; exact hc
  have := run_loadVar_many ho W (a.add j) vs hl h2
  simp [execOp, hx.eq, padd, Instr.loadAt, Instr.sureAddr, this]⟩

theorem evc {t : Nat} {u v : Value} [h : Ev τ t v] (e : v = u := by rfl) : Ev τ t u := ⟨h.eq.trans e⟩

theorem v_convert {x : Operand} {s t : TypeId} {k k' : IntKind} {a : Int} {ds : TypeDesc} [hx : EvO N τ x (.int k' a)] [hs : Und P s ds] [hd : Und P t (.int k)] : Val P r N S (.convert s t x) ty τ w (.int k (k.wrap a)) := ⟨fun _ => nofun, fun W _ => by
  simp [execOp, hx.eq, convert, run_underlying hs.eq, run_underlying hd.eq, Conv.intToInt]⟩
theorem v_convertI {x : Operand} {s t : TypeId} {a : Int} {ds : TypeDesc} [hx : EvO N τ x (.int .i64 a)] [hs : Und P s ds] [hd : Und P t (.int .i64)] (h : -9223372036854775808 ≤ a ∧ a ≤ 9223372036854775807) : Val P r N S (.convert s t x) ty τ w (.int .i64 a) := by
  have := v_convert (P := P) (r := r) (N := N) (S := S) (τ := τ) (w := w) (ty := ty) (x := x) (s := s) (t := t) (k := .i64)
  rwa [wrap_in h.1 h.2] at this
theorem v_max {x y : Operand} {t : Array TypeId} {k : IntKind} {a b : Int} [hx : EvO N τ x (.int k a)] [hy : EvO N τ y (.int k b)] : Val P r N S (.call { callee := .builtin .max, args := #[x, y], argTypes := t }) ty τ w (.int k (max a b)) := ⟨fun _ => nofun, fun W _ => by
  have e : (if a < b then b else a) = max a b := by split <;> omega
  simp [execOp, resolve, invoke, builtin, hx.eq, hy.eq, Builtin.max_, Builtin.max2, e]⟩

end laws

def ints (xs : List Int) : List Value := xs.map (Value.int .i64)
theorem ints_get {xs : List Int} {k : Nat} (h : k < xs.length) : (ints xs)[k]? = some (.int .i64 xs[k]) := by simp [ints, h]
theorem ints_len (xs : List Int) : (ints xs).length = xs.length := by simp [ints]
theorem ints_one (xs : List Int) : ∀ u ∈ ints xs, u.oneCell' = true := by intro u hu; simp [ints] at hu; obtain ⟨a, _, rfl⟩ := hu; rfl
theorem ints_append (xs ys : List Int) : ints (xs ++ ys) = ints xs ++ ints ys := by simp [ints]
theorem row_some {w : World} {A : Option Addr} {cs : List Value} (h : Row w A cs) (hl : 0 < cs.length) : A.isSome = true := by
  obtain ⟨a, rfl, _⟩ := h.row 0 cs[0] (List.getElem?_eq_getElem hl)
  rfl
end Go.Wst
set_option linter.all false
namespace Go.Wst

section laws
variable {P : Program} {r : Option Nat} {N : Nat} {S T : Nat → Prop} {Q : Post} {τ : Tau} {ds : List Deferred} {w : World} {ty : TypeId} {ops : Array Oper} {rest : List Oper} {pos : String} {aft : Array Edge} {d : Nat} {v : Value} {op : Op}

def rvRun (tmps : Array Value) : ResultVar → Sem Value
  | .tmp t => pure (tmps.getD t undef)
  | .cell a t => do loadVar t (← asAddr (tmps.getD a undef))
class RsV (P : Program) (N : Nat) (τ : Tau) (w : World) (rs : List ResultVar) (vs : outParam (List Value)) : Prop where
  eq : ∀ tmps : Array Value, (∀ t, t < N → tmps.getD t undef = τ t) → (rs.mapM (rvRun tmps)).run P w = .ok vs w
instance rsv_nil : RsV P N τ w [] [] := ⟨fun _ _ => by simp⟩
instance rsv_tmp (t : Nat) (rs : List ResultVar) (v : Value) (vs : List Value) [h : LtN t N] [e : Ev τ t v] [k : RsV P N τ w rs vs] : RsV P N τ w (.tmp t :: rs) (v :: vs) := ⟨fun tmps ht => by
  rw [List.mapM_cons]
  simp only [rvRun, pure_bind, Sem.run_bind, k.eq tmps ht, Result.andThen_ok, Sem.run_pure, ht t h.lt, e.eq]⟩
theorem rsv_cellv {t : Nat} {ty : TypeId} {rs : List ResultVar} {v : Value} {vs : List Value} {a : Addr} (h : LtN t N) (e : Ev τ t (.pointer (some a))) (hl : (loadVar ty a).run P w = .ok v w) (k : RsV P N τ w rs vs) : RsV P N τ w (.cell t ty :: rs) (v :: vs) := ⟨fun tmps ht => by
  have h1 : (rvRun tmps (.cell t ty)).run P w = .ok v w := by simp [rvRun, ht t h.lt, e.eq, asAddr, hl]
  rw [List.mapM_cons]
  simp only [Sem.run_bind, h1, k.eq tmps ht, Result.andThen_ok, Sem.run_pure]⟩
theorem run_loadA {t e : TypeId} {b off n : Nat} {cs vs : List Value} {fr : Nat × Nat} (ho : Many P t n) (hb : w.heap[b]? = some (.cells cs.toArray e fr)) (hc : CsSub cs off n vs) : (loadVar t ⟨b, off, none⟩).run P w = .ok (.agg vs.toArray) w := by
  obtain ⟨e1, e2⟩ := hc.eq
  have hl : vs.length = n := by rw [← e1]; simp; omega
  exact run_loadVar_many ho w ⟨b, off, none⟩ vs hl (fun j v hj => by
    rw [add_none, cell_of_blk hb]
    rw [← e1, List.getElem?_take] at hj
    split at hj
    · rw [List.getElem?_drop] at hj; simpa using hj
    · cases hj)
instance rsv_cellA (t : Nat) (ty : TypeId) (rs : List ResultVar) (vs us : List Value) (b off n : Nat) (cs : List Value) (el : TypeId) (fr : Nat × Nat) [h : LtN t N] [e : Ev τ t (.pointer (some ⟨b, off, none⟩))] [ho : Many P ty n] [hb : Blk w b (.cells cs.toArray el fr)] [hc : CsSub cs off n us] [k : RsV P N τ w rs vs] :
    RsV P N τ w (.cell t ty :: rs) (.agg us.toArray :: vs) := rsv_cellv h e (run_loadA ho hb.eq hc) k
theorem run_load1 {t e : TypeId} {b off : Nat} {cs : Array Value} {fr : Nat × Nat} (ho : One P t) (hb : w.heap[b]? = some (.cells cs e fr)) (hc : CsGet cs off v) : (loadVar t ⟨b, off, none⟩).run P w = .ok v w := by
  have h2 := (cell_of_blk (off := off) hb).trans hc.eq
  simp [loadVar, run_isAgg_one ho, h2]
instance rsv_cell1 (t : Nat) (ty : TypeId) (rs : List ResultVar) (v : Value) (vs : List Value) (b off : Nat) (cs : Array Value) (el : TypeId) (fr : Nat × Nat) [h : LtN t N] [e : Ev τ t (.pointer (some ⟨b, off, none⟩))] [ho : One P ty] [hb : Blk w b (.cells cs el fr)] [hc : CsGet cs off v] [k : RsV P N τ w rs vs] :
    RsV P N τ w (.cell t ty :: rs) (v :: vs) := rsv_cellv h e (run_load1 ho hb.eq hc) k
def outV : List Value → Value
  | [v] => v
  | vs => .tuple vs.toArray
theorem run_results {fn : Func} {rs : List ResultVar} {vs : List Value} (hr : fn.results = rs.toArray) (h : RsV P N τ w rs vs) (tmps : Array Value) (ht : ∀ t, t < N → tmps.getD t undef = τ t) : (results fn tmps).run P w = .ok (outV vs) w := by
  have e1 : results fn tmps = (do let vs ← fn.results.mapM (rvRun tmps); pure (if h : vs.size = 1 then vs[0] else .tuple vs)) := by
    unfold results
    congr 1
  rw [e1, hr, Array.mapM_eq_mapM_toList]
  simp only [Sem.run_bind, Sem.run_map, h.eq tmps ht, Result.andThen_ok, Sem.run_pure]
  rcases vs with _ | ⟨a, _ | ⟨b, l⟩⟩ <;> simp [outV]
theorem finR {fn : Func} {R : Value → World → Prop} {rs : List ResultVar} {vs : List Value} (hr : fn.results = rs.toArray) [h : RsV P N τ w rs vs] (hR : R (outV vs) w) : bodyQ P fn N R .ret τ [] w := fun a ha =>
  ⟨_, run_results hr h a.tmps (fun t ht => ha.get t ht), _, rfl, hR⟩
theorem finRn {fn : Func} {R : Value → World → Prop} {rs : List ResultVar} {vs : List Value} (hr : fn.results = rs.toArray) [h : RsV P N τ w rs vs] (hR : R (outV vs) w) : bodyQ P fn N R .normal τ [] w := fun a ha =>
  ⟨_, run_results hr h a.tmps (fun t ht => ha.get t ht), _, rfl, hR⟩

theorem v_eql_pointer {x : Operand} {t e t' : TypeId} {p : Option Addr} [hx : EvO N τ x (.pointer p)] [hu : Und P t (.pointer e)] : Val P r N S (.binOp .eql t x (.const (.pointer none)) t') ty τ w (.bool p.isNone) := ⟨fun _ => nofun, fun W _ => by
  have hy : evO N τ (.const (.pointer none)) = .pointer none := rfl
  have h0 : ∀ d, (Op.equalIn (d + 1) t (.pointer p) (.pointer none)).run P W = .ok p.isNone W := fun d => by cases p <;> simp [Op.equalIn, run_underlying hu.eq]
  have := h0 9999
  simp [execOp, hx.eq, hy, eqGuard, binOp, Op.equal, Op.maxDepth, this]⟩
theorem v_neq_pointer {x : Operand} {t e t' : TypeId} {p : Option Addr} [hx : EvO N τ x (.pointer p)] [hu : Und P t (.pointer e)] : Val P r N S (.binOp .neq t x (.const (.pointer none)) t') ty τ w (.bool (!p.isNone)) := ⟨fun _ => nofun, fun W _ => by
  have hy : evO N τ (.const (.pointer none)) = .pointer none := rfl
  have h0 : ∀ d, (Op.equalIn (d + 1) t (.pointer p) (.pointer none)).run P W = .ok p.isNone W := fun d => by cases p <;> simp [Op.equalIn, run_underlying hu.eq]
  have := h0 9999
  simp [execOp, hx.eq, hy, eqGuard, binOp, Op.equal, Op.maxDepth, this]⟩
theorem v_eql_slice {x : Operand} {t e t' : TypeId} {A : Option Addr} {n c : Nat} [hx : EvO N τ x (.slice A n c)] [hu : Und P t (.slice e)] : Val P r N S (.binOp .eql t x (.const (.slice none 0 0)) t') ty τ w (.bool A.isNone) := ⟨fun _ => nofun, fun W _ => by
  have hy : evO N τ (.const (.slice none 0 0)) = .slice none 0 0 := rfl
  have h0 : ∀ d, (Op.equalIn (d + 1) t (.slice A n c) (.slice none 0 0)).run P W = .ok A.isNone W := fun d => by cases A <;> simp [Op.equalIn, run_underlying hu.eq]
  have := h0 9999
  simp [execOp, hx.eq, hy, eqGuard, binOp, Op.equal, Op.maxDepth, this]⟩
theorem v_eql_map {x : Operand} {t k e t' : TypeId} {m : Option Nat} [hx : EvO N τ x (.map m)] [hu : Und P t (.map k e)] : Val P r N S (.binOp .eql t x (.const (.map none)) t') ty τ w (.bool m.isNone) := ⟨fun _ => nofun, fun W _ => by
  have hy : evO N τ (.const (.map none)) = .map none := rfl
  have h0 : ∀ d, (Op.equalIn (d + 1) t (.map m) (.map none)).run P W = .ok m.isNone W := fun d => by cases m <;> simp [Op.equalIn, run_underlying hu.eq]
  have := h0 9999
  simp [execOp, hx.eq, hy, eqGuard, binOp, Op.equal, Op.maxDepth, this]⟩

class EqV (P : Program) (t : TypeId) (x y : Value) (n : outParam Nat) (b : outParam Bool) : Prop where eq : ∀ d W, n ≤ d → (Op.equalIn d t x y).run P W = .ok b W
instance eqv_int (t : TypeId) (k : IntKind) (a b : Int) [h : Und P t (.int k)] : EqV P t (.int k a) (.int k b) 1 (decide (a = b)) := ⟨fun d W hd => by
  obtain ⟨d, rfl⟩ : ∃ m, d = m + 1 := ⟨d - 1, by omega⟩
  rw [run_equalIn_int W d t k k a b h.eq, beq_dec]⟩
instance eqv_bool (t : TypeId) (a b : Bool) [h : Und P t .bool] : EqV P t (.bool a) (.bool b) 1 (a == b) := ⟨fun d W hd => by
  obtain ⟨d, rfl⟩ : ∃ m, d = m + 1 := ⟨d - 1, by omega⟩
  rw [run_equalIn_bool W d t a b h.eq]⟩
class PartV (P : Program) (t : TypeId) (cs : List Value) (off : Nat) (v : outParam Value) : Prop where eq : ∀ W, (part t cs.toArray off).run P W = .ok v W
instance partv_one (t : TypeId) (cs : List Value) (off : Nat) (v : Value) [ho : One P t] [hc : CsGet cs.toArray off v] : PartV P t cs off v := ⟨fun W => by
  have := hc.eq
  simp only [part, Sem.run_bind, run_isAgg_one ho, Result.andThen_ok, Bool.false_eq_true, if_false, this]
  rfl⟩
theorem run_sizeOf_many {t : TypeId} {n : Nat} (h : Many P t n) (W : World) : (sizeOf t).run P W = .ok n W := by
  obtain ⟨dd, i, h7, h8, h9, h10⟩ := h.ex
  simp [sizeOf, typeInfo, program, Sem.run, h9, h10]
instance partv_many (t : TypeId) (cs vs : List Value) (off n : Nat) [ho : Many P t n] [hc : CsSub cs off n vs] : PartV P t cs off (.agg vs.toArray) := ⟨fun W => by
  obtain ⟨e1, e2⟩ := hc.eq
  have hx : cs.toArray.extract off (off + n) = vs.toArray := by
    apply Array.ext'
    simp only [Array.toList_extract, List.extract_eq_take_drop]
    rw [← e1]
    simp
  simp only [part, Sem.run_bind, run_isAgg_many ho, run_sizeOf_many ho, Result.andThen_ok, if_true, hx, Sem.run_pure]⟩
class EqF (P : Program) (fl : List (Nat × TypeId)) (xs ys : List Value) (n : outParam Nat) (b : outParam Bool) : Prop where eq : ∀ fs : List Field, fs.map (fun f => (f.offset, f.type)) = fl → (∀ f ∈ fs, f.name ≠ "_") → ∀ d W, n ≤ d → (Op.eqFields d xs.toArray ys.toArray fs).run P W = .ok b W
instance eqf_nil (xs ys : List Value) : EqF P [] xs ys 0 true := ⟨fun fs hf _ d W _ => by
  obtain rfl : fs = [] := by simpa using hf
  simp [Op.eqFields]⟩
instance eqf_cons (off : Nat) (t : TypeId) (fl : List (Nat × TypeId)) (xs ys : List Value) (x y : Value) (n m : Nat) (b c : Bool) [hx : PartV P t xs off x] [hy : PartV P t ys off y] [he : EqV P t x y n b] [hr : EqF P fl xs ys m c] : EqF P ((off, t) :: fl) xs ys (n + m) (b && c) := ⟨fun fs hf hn d W hd => by
  cases fs with
  | nil => simp at hf
  | cons f fs =>
    simp only [List.map_cons, List.cons.injEq, Prod.mk.injEq] at hf
    obtain ⟨⟨rfl, rfl⟩, hf⟩ := hf
    rw [Op.eqFields]
    have h0 := hn f (List.mem_cons_self ..)
    have h1 := hr.eq fs hf (fun g hg => hn g (List.mem_cons_of_mem _ hg))
    simp only [Sem.run_bind, h0, ne_eq, not_false_eq_true, if_true, hx.eq, hy.eq, he.eq d W (by omega), Result.andThen_ok, Sem.run_ite]
    cases b
    · simp
    · simp [h1 d W (by omega)]⟩
class StE (P : Program) (t : TypeId) (fl : outParam (List (Nat × TypeId))) : Prop where ex : ∃ fs, P.underlying t = some (.struct fs) ∧ fs.toList.map (fun f => (f.offset, f.type)) = fl ∧ fs.toList.all (fun f => f.name != "_") = true ∧ P.stoodInHeld t = false ∧ P.eqGuardType P.depth t = false
instance eqv_struct (t : TypeId) (fl : List (Nat × TypeId)) (xs ys : List Value) (n : Nat) (b : Bool) [h : StE P t fl] [k : EqF P fl xs ys n b] : EqV P t (.agg xs.toArray) (.agg ys.toArray) (n + 1) b := ⟨fun d W hd => by
  obtain ⟨fs, h1, h0, h2, h3, h4⟩ := h.ex
  obtain ⟨d, rfl⟩ : ∃ m, d = m + 1 := ⟨d - 1, by omega⟩
  have e : P.fieldsOf t = fs := by simp [Program.fieldsOf, h1]
  rw [run_equalIn_struct W d t _ _ (by rw [e]; exact h1) h3, e]
  exact k.eq fs.toList h0 (fun f hf => by simpa using List.all_eq_true.1 h2 f hf) d W (by omega)⟩
theorem v_eql_struct {x y : Operand} {t t' : TypeId} {fl : List (Nat × TypeId)} {xs ys : List Value} {n : Nat} {b : Bool} [hx : EvO N τ x (.agg xs.toArray)] [hy : EvO N τ y (.agg ys.toArray)] [h : StE P t fl] [k : EqV P t (.agg xs.toArray) (.agg ys.toArray) n b] (hn : Nat.ble n 10000 = true := by rfl) :
    Val P r N S (.binOp .eql t x y t') ty τ w (.bool b) := ⟨fun _ => nofun, fun W _ => by
  obtain ⟨fs, h1, h0, h2, h3, h4⟩ := h.ex
  have he := k.eq 10000 W (Nat.le_of_ble_eq_true hn)
  simp only [execOp, Sem.run_bind, hx.eq, hy.eq, run_eqGuard_agg W .eql t x y _ _ h4, run_eql_struct, he, Result.andThen_ok, Sem.run_pure]⟩
theorem v_neq_struct {x y : Operand} {t t' : TypeId} {fl : List (Nat × TypeId)} {xs ys : List Value} {n : Nat} {b : Bool} [hx : EvO N τ x (.agg xs.toArray)] [hy : EvO N τ y (.agg ys.toArray)] [h : StE P t fl] [k : EqV P t (.agg xs.toArray) (.agg ys.toArray) n b] (hn : Nat.ble n 10000 = true := by rfl) :
    Val P r N S (.binOp .neq t x y t') ty τ w (.bool (!b)) := ⟨fun _ => nofun, fun W _ => by
  obtain ⟨fs, h1, h0, h2, h3, h4⟩ := h.ex
  have he := k.eq 10000 W (Nat.le_of_ble_eq_true hn)
  simp only [execOp, Sem.run_bind, hx.eq, hy.eq, run_eqGuard_agg W .neq t x y _ _ h4, run_neq_struct, he, Result.andThen_ok, Sem.run_pure]⟩
theorem v_fieldA {x : Operand} {s : TypeId} {f off : Nat} {t : TypeId} {cs vs : List Value} {n : Nat} [hx : EvO N τ x (.agg cs.toArray)] [hf : Fld P s f off t] [ho : Many P t n] [hc : CsSub cs off n vs] : Val P r N S (.field s x f) ty τ w (.agg vs.toArray) := ⟨fun _ => nofun, fun W _ => by
  obtain ⟨fs, fd, i, h1, h2, h3, h4, h5, h6⟩ := hf.ex
  subst h5; subst h6
  have hp := (partv_many (P := P) fd.type cs vs fd.offset n).eq W
  simp [execOp, hx.eq, Instr.field, run_underlying h1, h2, asAgg, hp]⟩

class OwnN (v : Value) (w0 : World) : Prop where le : ∀ k, v.ownBlock = some k → w0.heap.size ≤ k
instance subF_own (v : Value) (S : Nat → Prop) (w0 : World) [h : OwnN v w0] : SubF (OwnB v) S w0 := ⟨fun k hk e => by
  have := h.le k (Eq.symm e)
  omega⟩
instance ownN_nil (w0 : World) : OwnN (.slice none 0 0) w0 := ⟨fun k hk => by cases hk⟩
class OwnA (v : Value) (w0 : outParam World) : Prop where le : ∀ k, v.ownBlock = some k → w0.heap.size ≤ k
instance ownN_A (v : Value) (w0 w : World) [h : OwnA v w0] [g : Ge w0 w] : OwnN v w := ⟨fun k hk => Nat.le_trans g.le (h.le k hk)⟩
instance notS_own (v : Value) (w0 : World) (b : Nat) [h : OwnA v w0] [k : Has w0 b] : NotS (OwnB v) b := ⟨fun e => by
  have h1 := h.le b (Eq.symm e)
  have h2 := k.lt
  omega⟩
instance notS_nilB (n c b : Nat) : NotS (OwnB (.slice none n c)) b := ⟨fun e => by cases e⟩
theorem ownA_of {w0 : World} {base : Nat} {e : TypeId} {sz n : Nat} {v : Value} {xs : List Value} (h : w.ownsRow base e sz v n xs) (hb : w0.heap.size ≤ base) : OwnA v w0 := ⟨fun k hk => Nat.le_trans hb (h.lt k hk).1⟩
theorem ownN_of {w0 : World} {base : Nat} {e : TypeId} {sz n : Nat} {v : Value} {xs : List Value} (h : w.ownsRow base e sz v n xs) (hb : w0.heap.size ≤ base) : OwnN v w0 := ⟨fun k hk => Nat.le_trans hb (h.lt k hk).1⟩
theorem run_append_any {base : Nat} {t e ty : TypeId} {i : TypeInfo} {z : Value} {sz n m c : Nat} {v : Value} {xs news : List Value} {A : Option Addr} (hu : P.underlying t = some (.slice e)) (h5 : P.info? e = some i) (h8 : i.zero = some z) (h6 : i.size = sz) (hzs : z.cells.size = sz) (hpos : 0 < sz)
    (hown : w.ownsRow base e sz v n xs) (hrow : RowP w A news) (hl : news.length = m * sz) (h1 : ∀ u ∈ news, u.oneCell' = true) (hA : A.isSome = true ∨ m = 0) (h63 : n + m ≤ 4294967296) (hbytes : (n + m) * i.bytes ≤ 140737488355328) (hbase : base ≤ w.heap.size) :
    ∃ v' w', (Builtin.append_ #[t, t] ty #[v, .slice A m c]).run P w = .ok v' w' ∧ w'.ownsRow base e sz v' (n + m) (xs ++ news) ∧ w.grownBy w' v.ownBlock ∧ (v'.ownBlock = v.ownBlock ∨ v'.ownBlock = some w.heap.size) := by
  cases A with
  | some a =>
    have hnews : ∀ j u, news[j]? = some u → w.cell? (a.add j) = some u := fun j u hj => by
      obtain ⟨a', ha', hc⟩ := hrow j u hj
      cases ha'; exact hc
    obtain ⟨v', w', h1, h2, h3, _, h4⟩ := run_append_own_at (P := P) w base t ty e i z sz i.bytes hu h5 h8 h6 rfl hzs hpos v n xs hown a m c news hl hnews h1 (by unfold maxLen; omega) hbytes hbase
    exact ⟨v', w', h1, h2, h3, h4⟩
  | none =>
    have hm : m = 0 := hA.resolve_left (by simp)
    subst hm
    obtain rfl : news = [] := List.eq_nil_of_length_eq_zero (by simpa using hl)
    refine ⟨v, w, ?_, by simpa using hown, ⟨rfl, rfl, rfl, Nat.le_refl _, fun _ _ _ => rfl⟩, .inl rfl⟩
    rcases hown.2 with ⟨rfl, rfl⟩ | ⟨g, cap, cur, rfl, _, _, hnc, _⟩
    · simp [Builtin.append_, run_underlying hu, sizeOf, typeInfo, h5, Builtin.lenOf, Builtin.firstCells]
    · simp [Builtin.append_, run_underlying hu, sizeOf, typeInfo, h5, Builtin.lenOf, Builtin.firstCells, hnc, storeCells]
theorem e_append' {x y : Operand} {t e : TypeId} {base sz bytes n m c : Nat} {z : Value} {zc : Array Value} {v : Value} {xs news : List Value} {A : Option Addr} {G : Value → World → Prop} [hx : EvO N τ x v] [hy : EvO N τ y (.slice A m c)] [hu : Und P t (.slice e)] [hi : Inf P e sz bytes z] [hz : Cells z zc] [hzs : Siz zc sz]
    [hrow : Row w A news] (hown : w.ownsRow base e sz v n xs) (hbase : base ≤ w.heap.size) (hl : news.length = m * sz) (h1 : ∀ u ∈ news, u.oneCell' = true) (hpos : 0 < sz) (hA : A.isSome = true ∨ m = 0) (h63 : n + m ≤ 4294967296) (hbytes : (n + m) * bytes ≤ 140737488355328)
    (h : ∀ (A' : Option Addr) (cap' : Nat) (w' : World), w'.ownsRow base e sz (.slice A' (n + m) cap') (n + m) (xs ++ news) → Lk w' w (OwnB v) → ((Value.slice A' (n + m) cap').ownBlock = v.ownBlock ∨ (Value.slice A' (n + m) cap').ownBlock = some w.heap.size) → G (.slice A' (n + m) cap') w') :
    EffV P N (OwnB v) (.call { callee := .builtin .append, args := #[x, y], argTypes := #[t, t] }) ty τ w G := by
  obtain ⟨i, h5, h6, h7, h8⟩ := hi.ex
  subst h7
  obtain ⟨v', w', hr, ho, hg, hw⟩ := run_append_any (P := P) (c := c) (ty := ty) hu.eq h5 h8 h6 (by rw [hz.eq]; exact hzs.eq) hpos hown hrow.row hl h1 hA h63 hbytes hbase
  have hk : Keep (OwnB v) w w' := Keep.of_grown hg
  obtain ⟨A', cap', rfl, _⟩ := ownsRow_form ho
  exact ⟨fun _ => nofun, _, w', by simp [execOp, resolve, invoke, builtin, hx.eq, hy.eq, hr, Result.andThen], hk, h A' cap' w' ho ⟨hk⟩ hw⟩

theorem own_mono {base base' : Nat} {e : TypeId} {sz n : Nat} {v : Value} {xs : List Value} (h : w.ownsRow base e sz v n xs) (hb : base' ≤ base) : w.ownsRow base' e sz v n xs :=
  ⟨h.1, h.2.imp id (fun ⟨g, cap, cur, h1, h2, h3⟩ => ⟨g, cap, cur, h1, Nat.le_trans hb h2, h3⟩)⟩

theorem ownsRow_blk {base b : Nat} {e : TypeId} {sz n : Nat} {cs : List Value} (hb : base ≤ b) (h : w.heap[b]? = some (.cells cs.toArray e (0, 0))) (hl : cs.length = n * sz) (hm : n ≤ 4294967296) : w.ownsRow base e sz (.slice (some ⟨b, 0, none⟩) n n) n cs :=
  ⟨hl, .inr ⟨b, n, cs.toArray, rfl, hb, h, Nat.le_refl _, by unfold maxLen; omega, by simpa using hl, by simp [← hl]⟩⟩
theorem e_buildSlice0 {t e : TypeId} {sz bytes : Nat} {z : Value} {G : Value → World → Prop} [hu : Und P t (.slice e)] [hi : Inf P e sz bytes z]
    (h : ∀ (b : Nat) (w' : World), New b w → Lk w' w NoB → Blk w' b (.cells #[] e (0, 0)) → G (.slice (some ⟨b, 0, none⟩) 0 0) w') : EffV P N NoB (.buildSlice t 0 #[]) ty τ w G := by
  obtain ⟨i, h5, h6, h7, h8⟩ := hi.ex
  obtain ⟨h1, h2, h3⟩ := new_blk (w := w) (.cells #[] e)
  have hb : (Instr.buildSlice t 0 #[]).run P w = .ok (.slice (some ⟨w.heap.size, 0, none⟩) 0 0) (w.alloc (.cells #[] e)) := by
    simp [Instr.buildSlice, run_underlying hu.eq, sizeOf, typeInfo, h5, newRow, Instr.fill, Array.range_zero']
  exact ⟨fun _ => nofun, _, _, by simp only [execOp, Sem.run_bind, List.map_toArray, List.map_nil, hb, Result.andThen_ok, Sem.run_pure], h2.keep, h _ _ h1 h2 h3⟩
class Zip (s : Nat) (l : List (Nat × Value)) (vs : outParam (List Value)) : Prop where eq : l = (vs.zipIdx s).map (fun p => (p.2, p.1)) ∧ ∀ u ∈ vs, u.oneCell' = true
instance zip_nil (s : Nat) : Zip s [] [] := ⟨rfl, by simp⟩
instance zip_cons (s i : Nat) (v : Value) (l : List (Nat × Value)) (vs : List Value) [h : EqN i s] [h1 : Cell1 v] [k : Zip (s + 1) l vs] : Zip s ((i, v) :: l) (v :: vs) := ⟨by rw [h.eq, k.eq.1]; rfl, by
  intro u hu
  rcases List.mem_cons.1 hu with rfl | hu
  · exact h1.eq
  · exact k.eq.2 u hu⟩
theorem setMany_all : ∀ (l : List Value) (pre : List Value) (cs : Array Value), cs.size = pre.length + l.length → (∀ k, k < pre.length → cs[k]? = pre[k]?) → setMany cs pre.length l = (pre ++ l).toArray
  | [], pre, cs, h1, h2 => by
    apply Array.ext_getElem?
    intro k
    by_cases hk : k < pre.length
    · simpa [setMany] using h2 k hk
    · have : cs.size ≤ k := by rw [h1]; simp; omega
      simp only [setMany]
      rw [Array.getElem?_eq_none this, Array.getElem?_eq_none (by simp; omega)]
  | a :: l, pre, cs, h1, h2 => by
    rw [setMany]
    have := setMany_all l (pre ++ [a]) (cs.setIfInBounds pre.length a) (by simp [h1]; omega) (fun k hk => by
      by_cases hkp : k = pre.length
      · subst hkp
        have hlt : pre.length < cs.size := by rw [h1]; simp
        simp [hlt]
      · have hk' : k < pre.length := by simp at hk; omega
        rw [Array.getElem?_setIfInBounds_ne (Ne.symm hkp), h2 k hk', List.getElem?_append_left hk'])
    simpa using this
theorem cells_one {v : Value} (h : v.oneCell' = true) : v.cells = #[v] := by cases v <;> simp_all [Value.oneCell', Value.cells]
theorem fill_zip : ∀ (vs : List Value) (s : Nat) (cs : Array Value), s + vs.length ≤ cs.size → (∀ u ∈ vs, u.oneCell' = true) → Instr.fill (fun j => some (j * 1, 1)) cs ((vs.zipIdx s).map (fun p => (p.2, p.1))) = some (setMany cs s vs)
  | [], _, cs, _, _ => rfl
  | v :: vs, s, cs, h, h1 => by
    have h2 : s + (vs.length + 1) ≤ cs.size := by simpa using h
    rw [List.zipIdx_cons, List.map_cons, fill_cons (cs := cs) (vs := [v]) (off := s * 1) (sz := 1) rfl (cells_one (h1 v (List.mem_cons_self ..))) rfl (by simp; omega)]
    rw [Nat.mul_one]
    exact fill_zip vs (s + 1) _ (by simp [setMany]; omega) (fun u hu => h1 u (List.mem_cons_of_mem _ hu))
theorem e_buildSliceN {t e : TypeId} {parts : List (Nat × Operand)} {vsI : List (Nat × Value)} {vs : List Value} {bytes : Nat} {z : Value} {m n : Nat} {G : Value → World → Prop} [hv : EvP N τ parts vsI] [hzp : Zip 0 vsI vs] [hu : Und P t (.slice e)] [hi : Inf P e 1 bytes z] [hn : LenL vs n] [he : EqN n m] (hpos : (Nat.ble 1 m && Nat.ble m 1000) = true)
    (h : ∀ (b : Nat) (w' : World), New b w → Lk w' w NoB → Blk w' b (.cells vs.toArray e (0, 0)) → G (.slice (some ⟨b, 0, none⟩) m m) w') : EffV P N NoB (.buildSlice t m parts.toArray) ty τ w G := by
  obtain ⟨i, h5, h6, h7, h8⟩ := hi.ex
  have hm := he.eq; subst hm
  simp only [Bool.and_eq_true, Nat.ble_eq] at hpos
  obtain ⟨h1, h2, h3⟩ := new_blk (w := w) (.cells vs.toArray e)
  refine ⟨fun _ => nofun, _, _, ?_, h2.keep, h _ _ h1 h2 h3⟩
  have hfill : Instr.fill (fun j => some (j * i.size, i.size)) ((Array.range (n * i.size)).map (z.cells[· % z.cells.size]!)) vsI = some vs.toArray := by
    rw [h6, hzp.eq.1, fill_zip vs 0 _ (by simp [hn.eq]) hzp.eq.2]
    congr 1
    have := setMany_all vs [] ((Array.range (n * 1)).map (z.cells[· % z.cells.size]!)) (by simp [hn.eq]) (by simp)
    simpa using this
  have hb := Go.run_buildSlice (P := P) w t e n vsI.toArray vs.toArray i z hu.eq h5 h8 (by rw [h6]; omega) (by rw [h6]; omega) (by simpa using hfill)
  have e1 : (parts.toArray.map fun (x : Nat × Operand) => (x.1, evO N τ x.2)) = vsI.toArray := by simp [hv.eq]
  simp only [execOp, Sem.run_bind, e1, hb, Result.andThen_ok, Sem.run_pure]
theorem run_makeSlice0 {t e : TypeId} {i : TypeInfo} {z : Value} (hu : P.underlying t = some (.slice e)) (h5 : P.info? e = some i) (h8 : i.zero = some z) {n c : Nat} (hnc : n ≤ c) (hc : c ≤ 4294967296) (hb : c * i.bytes ≤ 140737488355328) :
    (Instr.makeSlice t (.int .i64 (n : Int)) (.int .i64 (c : Int))).run P w = .ok (.slice (some ⟨w.heap.size, 0, none⟩) n c) (w.alloc (.cells (madeCells z.cells (c * i.size)) e)) := by
  have h1 : ((c * i.bytes : Nat) : Int) ≤ 140737488355328 := by omega
  rw [Int.natCast_mul, Int.mul_comm] at h1
  have := run_make (P := P) w t e i z hu h5 h8 .i64 .i64 (n : Int) (c : Int) (by omega) (by omega) (by omega) (by omega)
  simpa using this
theorem made_replicate {z : Value} (h : z.oneCell' = true) (n : Nat) : madeCells z.cells n = (List.replicate n z).toArray := by
  rw [cells_one h]
  apply Array.ext_getElem?
  intro k
  simp only [madeCells, List.size_toArray, List.length_singleton, Nat.mod_one, Array.getElem?_map, List.getElem?_toArray, List.getElem?_replicate]
  by_cases hk : k < n
  · simp [hk]
  · simp [hk]
theorem e_makeSlice {t e : TypeId} {x y : Operand} {bytes : Nat} {z : Value} {a b : Int} (n c : Nat) {G : Value → World → Prop} [hx : EvO N τ x (.int .i64 a)] [hy : EvO N τ y (.int .i64 b)] [hu : Und P t (.slice e)] [hi : Inf P e 1 bytes z] [h1 : Cell1 z] (ha : a = (n : Int)) (hb : b = (c : Int)) (hnc : n ≤ c) (hc : c ≤ 4294967296) (hbytes : c * bytes ≤ 140737488355328)
    (h : ∀ (g : Nat) (w' : World), New g w → Lk w' w NoB → Blk w' g (.cells (List.replicate c z).toArray e (0, 0)) → G (.slice (some ⟨g, 0, none⟩) n c) w') : EffV P N NoB (.makeSlice t x y) ty τ w G := by
  obtain ⟨i, h5, h6, h7, h8⟩ := hi.ex
  subst ha; subst hb; subst h7
  have hr := run_makeSlice0 (w := w) hu.eq h5 h8 hnc hc hbytes
  rw [h6, Nat.mul_one, made_replicate h1.eq] at hr
  obtain ⟨k1, k2, k3⟩ := new_blk (w := w) (.cells (List.replicate c z).toArray e)
  exact ⟨fun _ => nofun, _, _, by simp only [execOp, Sem.run_bind, hx.eq, hy.eq, hr, Result.andThen_ok, Sem.run_pure], k2.keep, h _ _ k1 k2 k3⟩
theorem e_makeMap {t : TypeId} {G : Value → World → Prop} (h : ∀ (b : Nat) (w' : World), New b w → Lk w' w NoB → Blk w' b (.map #[] 0) → G (.map (some b)) w') : EffV P N NoB (.makeMap t none) ty τ w G := by
  obtain ⟨k1, k2, k3⟩ := new_blk (w := w) (.map #[] 0)
  have hr : (Instr.makeMap t none).run P w = .ok (.map (some w.heap.size)) (w.alloc (.map #[] 0)) := rfl
  exact ⟨fun _ => nofun, _, _, by simp only [execOp, Sem.run_bind, Option.map_none, hr, Result.andThen_ok, Sem.run_pure], k2.keep, h _ _ k1 k2 k3⟩

theorem e_storeB {t e : TypeId} {x y : Operand} {b j bytes : Nat} {z : Value} {cs : Array Value} {G : World → Prop} [hx : EvO N τ x (padd (some ⟨b, 0, none⟩) j)] [hy : EvO N τ y v] [h1 : Cell1 v] [hi : Inf P t 1 bytes z]
    [hb : Blk w b (.cells cs e (0, 0))] (hlt : j < cs.size) (h : ∀ w', Lk w' w (OneB b) → Blk w' b (.cells (cs.setIfInBounds j v) e (0, 0)) → G w') : EffS P N (OneB b) (.store t x y) ty τ w G := by
  obtain ⟨i, h5, h6, h7, h8⟩ := hi.ex
  have ha : (⟨b, 0, none⟩ : Addr).add j = ⟨b, j, none⟩ := by rw [add_none]; simp
  have hcell : w.cell? ⟨b, j, none⟩ = some cs[j] := by rw [cell_of_blk hb.eq]; exact Array.getElem?_eq_getElem hlt
  have hfr : w.frozen? ⟨b, j, none⟩ = false := by have := hb.eq; simp [World.frozen?, this]
  have hcells := cells_one h1.eq
  have hst := run_store P w ⟨b, j, none⟩ v .plain h1.eq
  refine ⟨fun _ => nofun, w.setCell ⟨b, j, none⟩ v, ?_, keep_setCell b j v, h _ ⟨keep_setCell b j v⟩ ⟨blk_setCell hb.eq rfl⟩⟩
  have ha0 : (⟨b, j, none⟩ : Addr).add 0 = ⟨b, j, none⟩ := rfl
  simp [execOp, hx.eq, hy.eq, padd, ha, Instr.storeAt, Instr.sureAddr, storeVar, hcells, sizeOf, typeInfo, program, Sem.run, h5, h6, storeCells, ha0, hst, hcell, hfr]
theorem run_storeMany {b : Nat} {e : TypeId} : ∀ (vs : List Value) (o i : Nat) (cs : Array Value) (W : World), W.heap[b]? = some (.cells cs e (0, 0)) → (∀ u ∈ vs, u.oneCell' = true) → o + i + vs.length ≤ cs.size →
    ∃ W', (storeCells ⟨b, o, none⟩ vs i).run P W = .ok () W' ∧ Keep (OneB b) W W' ∧ W'.heap[b]? = some (.cells (setMany cs (o + i) vs) e (0, 0))
  | [], o, i, cs, W, hb, _, _ => ⟨W, by simp [storeCells], Keep.refl _ _, by simpa [setMany] using hb⟩
  | v :: vs, o, i, cs, W, hb, h1, hl => by
    have hlt : o + i < cs.size := by simp at hl; omega
    have hcell : W.cell? ⟨b, o + i, none⟩ = some cs[o + i] := by rw [cell_of_blk hb]; exact Array.getElem?_eq_getElem hlt
    have hfr : W.frozen? ⟨b, o + i, none⟩ = false := by simp [World.frozen?, hb]
    have hst := run_store P W ⟨b, o + i, none⟩ v .plain (h1 v (List.mem_cons_self ..))
    have hb' : (W.setCell ⟨b, o + i, none⟩ v).heap[b]? = some (.cells (cs.setIfInBounds (o + i) v) e (0, 0)) := blk_setCell hb rfl
    obtain ⟨W', h2, h3, h4⟩ := run_storeMany vs o (i + 1) _ _ hb' (fun u hu => h1 u (List.mem_cons_of_mem _ hu)) (by simp at hl ⊢; omega)
    refine ⟨W', ?_, (keep_setCell b (o + i) v).trans h3, by rw [setMany]; simpa [Nat.add_assoc] using h4⟩
    simp [storeCells, add_none, hst, hcell, hfr, h2]
theorem e_storeA {t e : TypeId} {x y : Operand} {b off sz bytes n : Nat} {z : Value} {vs : List Value} {cs cs' : Array Value} {G : World → Prop} [hx : EvO N τ x (.pointer (some ⟨b, off, none⟩))] [hy : EvO N τ y (.agg vs.toArray)] [h1 : Cell1L vs] [hi : Inf P t sz bytes z] [hn : LenL vs n] [he : EqN n sz]
    [hb : Blk w b (.cells cs e (0, 0))] [hc : CsPut cs off vs cs'] (h : ∀ w', Lk w' w (OneB b) → Blk w' b (.cells cs' e (0, 0)) → G w') : EffS P N (OneB b) (.store t x y) ty τ w G := by
  obtain ⟨i, h5, h6, h7, h8⟩ := hi.ex
  obtain ⟨e1, e2⟩ := hc.eq
  obtain ⟨W', h2, h3, h4⟩ := run_storeMany (P := P) vs off 0 cs w hb.eq h1.eq (by simpa using e2)
  have hsz : vs.toArray.size = i.size := by rw [h6, ← he.eq, ← hn.eq]; simp
  refine ⟨fun _ => nofun, W', ?_, h3, h W' ⟨h3⟩ ⟨by rw [h4, ← e1]; rfl⟩⟩
  simp [execOp, hx.eq, hy.eq, Instr.storeAt, Instr.sureAddr, storeVar, Value.cells, sizeOf, typeInfo, program, Sem.run, h5, hsz, h2]
end laws

section maps
variable {κ : Type} [DecidableEq κ]
def akey {α : Type} (l : List (κ × α)) (k : κ) : Option α := (l.find? (fun p => decide (p.1 = k))).map (·.2)
def aput {α : Type} (l : List (κ × α)) (k : κ) (v : α) : List (κ × α) := if l.any (fun p => decide (p.1 = k)) then l.map (fun p => if p.1 = k then (k, v) else p) else l ++ [(k, v)]
def adel {α : Type} (l : List (κ × α)) (k : κ) : List (κ × α) := l.filter (fun p => !decide (p.1 = k))
def keyKind : TypeDesc → Bool | .int _ => true | .string => true | _ => false
class KeyE (P : Program) (kt : TypeId) (enc : κ → Value) : Prop where ex : ∃ d, P.underlying kt = some d ∧ (∀ a b, Instr.sameNow d (enc a) (enc b) = some (decide (a = b))) ∧ (∀ a n, Instr.sameBits n (enc a) (enc a) = true) ∧ keyKind d = true
instance keyE_int (P : Program) (kt : TypeId) (k : IntKind) [h : Und P kt (.int k)] : KeyE P kt (Value.int k) := ⟨_, h.eq, fun a b => by simp [Instr.sameNow, beq_dec], fun a n => by simp [Instr.sameBits], rfl⟩
instance keyE_string (P : Program) (kt : TypeId) [h : Und P kt .string] : KeyE P kt Value.string := ⟨_, h.eq, fun a b => by
  have e : (a == b) = decide (a = b) := by
    rw [beq_toListBytes, beq_dec]; congr 1; rw [eq_iff_iff]
    exact ⟨fun h => ByteArray.ext (by have := congrArg List.toArray h; simpa [ByteArray.toList_eq] using this), fun h => by rw [h]⟩
  simp [Instr.sameNow, e], fun a n => by
  have e : (a == a) = true := by rw [beq_toListBytes]; exact beq_self_eq_true _
  simp [Instr.sameBits, e], rfl⟩
def MapB (w : World) (b : Nat) (enc : κ → Value) (kvs : List (κ × Value)) : Prop :=
  ∃ es clock, w.heap[b]? = some (.map es clock) ∧ es.toList.map (fun e => (e.key, e.val)) = kvs.map (fun p => (enc p.1, p.2)) ∧ (∀ e ∈ es.toList, e.born < clock) ∧ (es.toList.map (·.born)).Nodup ∧ (kvs.map (·.1)).Nodup
class MapI (w : World) (b : Nat) (κ : outParam Type) (enc : outParam (κ → Value)) (kvs : outParam (List (κ × Value))) : Prop where m : MapB w b enc kvs
theorem MapB.keep {w w' : World} {b : Nat} {enc : κ → Value} {kvs : List (κ × Value)} {S : Nat → Prop} (h : MapB w b enc kvs) (hk : Keep S w w') (hs : ¬ S b) : MapB w' b enc kvs := by
  obtain ⟨es, clock, h1, h2⟩ := h
  exact ⟨es, clock, (hk.block b (Array.getElem?_eq_some_iff.1 h1).1 hs).trans h1, h2⟩
instance mapI_lk (w' w : World) (S : Nat → Prop) (b : Nat) (κ : Type) [DecidableEq κ] (enc : κ → Value) (kvs : List (κ × Value)) [l : Lk w' w S] [n : NotS S b] [h : MapI w b κ enc kvs] : MapI w' b κ enc kvs := ⟨h.m.keep l.keep n.not⟩
theorem MapB.lt {w : World} {b : Nat} {enc : κ → Value} {kvs : List (κ × Value)} (h : MapB w b enc kvs) : b < w.heap.size := by
  obtain ⟨es, clock, h1, _⟩ := h
  exact (Array.getElem?_eq_some_iff.1 h1).1
instance has_map (w : World) (b : Nat) (κ : Type) [DecidableEq κ] (enc : κ → Value) (kvs : List (κ × Value)) [h : MapI w b κ enc kvs] : Has w b := ⟨h.m.lt⟩
theorem mapB_made {w : World} {b : Nat} (enc : κ → Value) (h : Blk w b (.map #[] 0)) : MapB w b enc [] := ⟨_, _, h.eq, rfl, by simp, by simp, by simp⟩

theorem find_now {d : TypeDesc} {enc : κ → Value} (hs : ∀ a b, Instr.sameNow d (enc a) (enc b) = some (decide (a = b))) (k : κ) : ∀ (es : List MapEntry) (kvs : List (κ × Value)) (i : Nat), es.map (fun e => (e.key, e.val)) = kvs.map (fun p => (enc p.1, p.2)) →
    (akey kvs k = none ∧ Instr.findNow d (enc k) es i = some none ∧ kvs.any (fun p => decide (p.1 = k)) = false) ∨
    (∃ j v, akey kvs k = some v ∧ Instr.findNow d (enc k) es i = some (some (i + j, v)) ∧ kvs[j]? = some (k, v) ∧ (∀ m p, m < j → kvs[m]? = some p → p.1 ≠ k))
  | [], [], i, _ => .inl ⟨rfl, rfl, rfl⟩
  | [], _ :: _, _, h => by simp at h
  | _ :: _, [], _, h => by simp at h
  | e :: es, (k', v) :: kvs, i, h => by
    simp only [List.map_cons, List.cons.injEq, Prod.mk.injEq] at h
    obtain ⟨⟨h1, h2⟩, h3⟩ := h
    by_cases hk : k = k'
    · subst hk
      refine .inr ⟨0, v, by simp [akey], ?_, rfl, fun m p hm => by omega⟩
      simp [Instr.findNow, h1, hs, h2]
    · have hk' : ¬ k' = k := fun e => hk e.symm
      have hn : Instr.findNow d (enc k) (e :: es) i = Instr.findNow d (enc k) es (i + 1) := by simp [Instr.findNow, h1, hs, hk]
      rw [hn]
      rcases find_now hs k es kvs (i + 1) h3 with ⟨h4, h5, h6⟩ | ⟨j, u, h4, h5, h6, h7⟩
      · exact .inl ⟨by simpa [akey, hk'] using h4, h5, by simp [hk', h6]⟩
      · refine .inr ⟨j + 1, u, by simpa [akey, hk'] using h4, by rw [h5]; congr 3; omega, by simpa using h6, fun m p hm hp => ?_⟩
        cases m with
        | zero => simp at hp; subst hp; exact hk'
        | succ m => exact h7 m p (by omega) (by simpa using hp)

section mlaws
variable {P : Program} {r : Option Nat} {N : Nat} {S T : Nat → Prop} {τ : Tau} {w : World} {ty : TypeId} {enc : κ → Value} {kvs : List (κ × Value)} {b : Nat} {kt et t : TypeId}
theorem run_chk {kt : TypeId} {d : TypeDesc} (hu : P.underlying kt = some d) (hd : keyKind d = true) (e : Bool) (v : Value) (W : World) : (Instr.checkKey e 10000 kt v).run P W = .ok () W := by
  have h0 : ∀ n, (Instr.checkKey e (n + 1) kt v).run P W = .ok () W := fun n => by
    cases d <;> simp [keyKind] at hd <;> simp [Instr.checkKey, run_underlying hu]
  exact h0 9999
theorem run_findKey {kt : TypeId} [hk : KeyE P kt enc] {es : List MapEntry} (hm : es.map (fun e => (e.key, e.val)) = kvs.map (fun p => (enc p.1, p.2))) (k : κ) (W : World) :
    (akey kvs k = none ∧ (Instr.findKey kt (enc k) es).run P W = .ok none W ∧ kvs.any (fun p => decide (p.1 = k)) = false) ∨
    (∃ j v, akey kvs k = some v ∧ (Instr.findKey kt (enc k) es).run P W = .ok (some (j, v)) W ∧ kvs[j]? = some (k, v) ∧ (∀ m p, m < j → kvs[m]? = some p → p.1 ≠ k)) := by
  obtain ⟨d, hu, hs, hb, hd⟩ := hk.ex
  rcases find_now hs k es kvs 0 hm with ⟨h4, h5, h6⟩ | ⟨j, u, h4, h5, h6⟩
  · exact .inl ⟨h4, by simp [Instr.findKey, run_underlying hu, h5], h6⟩
  · exact .inr ⟨j, u, h4, by simp [Instr.findKey, run_underlying hu, h5], h6⟩
theorem run_lookup [hk : KeyE P kt enc] {sz bytes : Nat} {z : Value} (hu : P.underlying t = some (.map kt et)) (hi : Inf P et sz bytes z) (hb : MapB w b enc kvs) (k : κ) (c : Bool) :
    (Instr.lookup t (.map (some b)) (enc k) c).run P w = .ok (if c then .tuple #[(akey kvs k).getD z, .bool (akey kvs k).isSome] else (akey kvs k).getD z) w := by
  obtain ⟨es, clock, h1, h2, _⟩ := hb
  obtain ⟨d, hd, _, _, hd2⟩ := hk.ex
  obtain ⟨i, h5, h6, h7, h8⟩ := hi.ex
  have hg : (getObj b).run P w = .ok (.map es clock) w := by simp [getObj, Sem.run, h1]
  rcases run_findKey (P := P) (kt := kt) h2 k w with ⟨h4, h5', _⟩ | ⟨j, u, h4, h5', _⟩
  · simp [Instr.lookup, run_underlying hu, hg, run_chk hd hd2, h5', h4, zeroValue, typeInfo, program, Sem.run, h5, h8, Result.andThen]
  · simp [Instr.lookup, run_underlying hu, hg, run_chk hd hd2, h5', h4, Result.andThen]
theorem v_lookup2 {x y : Operand} {sz bytes : Nat} {z u : Value} (k : κ) [hx : EvO N τ x (.map (some b))] [hy : EvO N τ y u] [hu : Und P t (.map kt et)] [hm : MapI w b κ enc kvs] [hk : KeyE P kt enc] [hi : Inf P et sz bytes z] [hs : NotS S b] (he : u = enc k := by rfl) :
    Val P r N S (.lookup t x y true) ty τ w (.tuple #[(akey kvs k).getD z, .bool (akey kvs k).isSome]) := ⟨fun _ => nofun, fun W hW => by
  have := run_lookup (P := P) (kt := kt) hu.eq hi (MapB.keep hm.m hW hs.not) k true
  simp [execOp, hx.eq, hy.eq, he, this]⟩
theorem v_lookup1 {x y : Operand} {sz bytes : Nat} {z u : Value} (k : κ) [hx : EvO N τ x (.map (some b))] [hy : EvO N τ y u] [hu : Und P t (.map kt et)] [hm : MapI w b κ enc kvs] [hk : KeyE P kt enc] [hi : Inf P et sz bytes z] [hs : NotS S b] (he : u = enc k := by rfl) :
    Val P r N S (.lookup t x y false) ty τ w ((akey kvs k).getD z) := ⟨fun _ => nofun, fun W hW => by
  have := run_lookup (P := P) (kt := kt) hu.eq hi (MapB.keep hm.m hW hs.not) k false
  simp [execOp, hx.eq, hy.eq, he, this]⟩
theorem v_lenm {x : Operand} [hx : EvO N τ x (.map (some b))] [hu : Und P t (.map kt et)] [hm : MapI w b κ enc kvs] [hs : NotS S b] : Val P r N S (.call { callee := .builtin .len, args := #[x], argTypes := #[t] }) ty τ w (.int .i64 (kvs.length : Int)) := ⟨fun _ => nofun, fun W hW => by
  obtain ⟨es, clock, h1, h2, _⟩ := MapB.keep hm.m hW hs.not
  have hg : (getObj b).run P W = .ok (.map es clock) W := by simp [getObj, Sem.run, h1]
  have hl := congrArg List.length h2
  simp at hl
  simp [execOp, resolve, invoke, builtin, hx.eq, Builtin.len_, run_underlying hu.eq, hg, goInt, hl]⟩
theorem keep_setObj (b : Nat) (o : Obj) : Keep (OneB b) w { w with heap := w.heap.setIfInBounds b o } := ⟨rfl, rfl, rfl, by simp, fun k _ hk => by
  have : ¬ b = k := fun e => hk e.symm
  simp [Array.getElem?_setIfInBounds, this]⟩
theorem map_modify {enc : κ → Value} {v : Value} : ∀ (es : List MapEntry) (kvs : List (κ × Value)) (j : Nat) (k : κ) (u : Value), es.map (fun e => (e.key, e.val)) = kvs.map (fun p => (enc p.1, p.2)) → kvs[j]? = some (k, u) →
    (es.modify j (fun e => { e with key := enc k, val := v })).map (fun e => (e.key, e.val)) = (kvs.set j (k, v)).map (fun p => (enc p.1, p.2))
  | [], [], _, _, _, _, h => by simp at h
  | [], _ :: _, _, _, _, h, _ => by simp at h
  | _ :: _, [], _, _, _, h, _ => by simp at h
  | e :: es, p :: kvs, 0, k, u, h, hj => by
    simp only [List.map_cons, List.cons.injEq] at h
    simp [h.2]
  | e :: es, p :: kvs, j + 1, k, u, h, hj => by
    simp only [List.map_cons, List.cons.injEq] at h
    simp only [List.modify_succ_cons, List.map_cons, List.set_cons_succ, List.cons.injEq]
    exact ⟨h.1, map_modify es kvs j k u h.2 (by simpa using hj)⟩
theorem nodup_at {β : Type} {l : List β} (h : l.Nodup) {i j : Nat} (hi : i < l.length) (hj : j < l.length) (e : l[i] = l[j]) : i = j := by
  have h1 := List.pairwise_iff_getElem.1 h
  rcases Nat.lt_trichotomy i j with h2 | h2 | h2
  · exact absurd e (h1 i j hi hj h2)
  · exact h2
  · exact absurd e.symm (h1 j i hj hi h2)
theorem aput_at {α : Type} : ∀ (kvs : List (κ × α)) (j : Nat) (k : κ) (u v : α), kvs[j]? = some (k, u) → (∀ m p, m < j → kvs[m]? = some p → p.1 ≠ k) → (kvs.map (·.1)).Nodup → aput kvs k v = kvs.set j (k, v) := by
  intro kvs j k u v hj hlt hnd
  have hany : kvs.any (fun p => decide (p.1 = k)) = true := List.any_eq_true.2 ⟨_, List.mem_of_getElem? hj, by simp⟩
  rw [aput, if_pos hany]
  apply List.ext_getElem?
  intro m
  simp only [List.getElem?_map, List.getElem?_set]
  by_cases hm : j = m
  · subst hm
    obtain ⟨hjl, he⟩ := List.getElem?_eq_some_iff.1 hj
    simp [hjl, he]
  · rw [if_neg hm]
    cases hp : kvs[m]? with
    | none => rfl
    | some p =>
      have hne : p.1 ≠ k := fun e => by
        have h1 : (kvs.map (·.1))[j]? = some k := by simp [hj]
        have h2 : (kvs.map (·.1))[m]? = some k := by simp [hp, e]
        obtain ⟨l1, e1⟩ := List.getElem?_eq_some_iff.1 h1
        obtain ⟨l2, e2⟩ := List.getElem?_eq_some_iff.1 h2
        exact hm (nodup_at hnd l1 l2 (e1.trans e2.symm))
      simp [hne]
theorem aput_none {α : Type} {kvs : List (κ × α)} {k : κ} (v : α) (h : kvs.any (fun p => decide (p.1 = k)) = false) : aput kvs k v = kvs ++ [(k, v)] := by rw [aput, if_neg (by simp [h])]
theorem keys_aput {α : Type} {kvs : List (κ × α)} {k : κ} {v : α} : (aput kvs k v).map (·.1) = if kvs.any (fun p => decide (p.1 = k)) then kvs.map (·.1) else kvs.map (·.1) ++ [k] := by
  unfold aput
  split
  · rw [List.map_map]
    apply List.map_congr_left
    intro p _
    simp only [Function.comp]
    split <;> simp_all
  · simp
theorem nodup_aput {α : Type} {kvs : List (κ × α)} {k : κ} {v : α} (h : (kvs.map (·.1)).Nodup) : ((aput kvs k v).map (·.1)).Nodup := by
  rw [keys_aput]
  split
  · exact h
  · rename_i hn
    simp only [Bool.not_eq_true, List.any_eq_false, decide_eq_true_eq] at hn
    rw [List.nodup_append]
    refine ⟨h, by simp, ?_⟩
    intro a ha b hb
    simp only [List.mem_singleton] at hb
    subst hb
    obtain ⟨p, hp, rfl⟩ := List.mem_map.1 ha
    exact hn p hp
theorem born_modify (f : MapEntry → MapEntry) (hf : ∀ e, (f e).born = e.born) : ∀ (es : List MapEntry) (j : Nat), (es.modify j f).map (·.born) = es.map (·.born)
  | [], _ => by simp
  | e :: es, 0 => by simp [hf]
  | e :: es, j + 1 => by simp [born_modify f hf es j]
theorem run_mapUpdate [hk : KeyE P kt enc] (hu : P.underlying t = some (.map kt et)) (hb : MapB w b enc kvs) (k : κ) (v : Value) :
    ∃ w', (Instr.mapUpdate t (.map (some b)) (enc k) v).run P w = .ok () w' ∧ Keep (OneB b) w w' ∧ MapB w' b enc (aput kvs k v) := by
  obtain ⟨es, clock, h1, h2, h3, h4, h5⟩ := hb
  obtain ⟨d, hd, _, hbits, hd2⟩ := hk.ex
  have hg : (getObj b).run P w = .ok (.map es clock) w := by simp [getObj, Sem.run, h1]
  have hset : ∀ o, (setObj b o).run P w = .ok () { w with heap := w.heap.setIfInBounds b o } := fun o => by simp [setObj, Sem.run, h1]
  have hblt := (Array.getElem?_eq_some_iff.1 h1).1
  rcases run_findKey (P := P) (kt := kt) h2 k w with ⟨h6, h7, h8⟩ | ⟨j, u, h6, h7, h8, h9⟩
  · refine ⟨_, ?_, keep_setObj b (.map (es.push { key := enc k, val := v, born := clock }) (clock + 1)), es.push { key := enc k, val := v, born := clock }, clock + 1, by simp [hblt], ?_, ?_, ?_, nodup_aput h5⟩
    · simp [Instr.mapUpdate, run_underlying hu, hg, run_chk hd hd2, h7, hset, Result.andThen]
    · rw [aput_none v h8]; simp [h2]
    · intro e he
      simp only [Array.toList_push, List.mem_append, List.mem_singleton] at he
      rcases he with he | rfl
      · exact Nat.lt_succ_of_lt (h3 e he)
      · exact Nat.lt_succ_self _
    · simp only [Array.toList_push, List.map_append, List.map_cons, List.map_nil]
      rw [List.nodup_append]
      refine ⟨h4, by simp, ?_⟩
      intro a ha b' hb'
      simp only [List.mem_singleton] at hb'
      obtain ⟨e, he, rfl⟩ := List.mem_map.1 ha
      have := h3 e he
      omega
  · have hkey : ((es[j]?).map (·.key)).getD (enc k) = enc k := by
      have := congrArg (fun l => l[j]?) h2
      simp only [List.getElem?_map, h8, Option.map_some, Array.getElem?_toList] at this
      cases he : es[j]? with
      | none => rfl
      | some e => simp [he] at this; simp [this.1]
    have hstay : (Instr.keyThatStays (enc k) (enc k)).run P w = .ok (enc k) w := by simp [Instr.keyThatStays, hbits]
    refine ⟨_, ?_, keep_setObj b (.map (es.modify j fun e => { e with key := enc k, val := v }) clock), es.modify j fun e => { e with key := enc k, val := v }, clock, by simp [hblt], ?_, ?_, ?_, nodup_aput h5⟩
    · simp [Instr.mapUpdate, run_underlying hu, hg, run_chk hd hd2, h7, hset, hkey, hstay, Result.andThen]
    · rw [aput_at kvs j k u v h8 h9 h5]
      have := map_modify (v := v) es.toList kvs j k u h2 h8
      simpa using this
    · intro e he
      have hbn := born_modify (fun e => { e with key := enc k, val := v }) (fun _ => rfl) es.toList j
      have : e.born ∈ es.toList.map (·.born) := by
        rw [← hbn]
        exact List.mem_map.2 ⟨e, by simpa using he, rfl⟩
      obtain ⟨e', he', hbe⟩ := List.mem_map.1 this
      have := h3 e' he'
      omega
    · have hbn := born_modify (fun e => { e with key := enc k, val := v }) (fun _ => rfl) es.toList j
      have e1 : (es.modify j fun e => { e with key := enc k, val := v }).toList = es.toList.modify j fun e => { e with key := enc k, val := v } := by simp
      rw [e1, hbn]; exact h4
theorem e_mapUpdate {x y q : Operand} {u : Value} {v : Value} (k : κ) {G : World → Prop} [hx : EvO N τ x (.map (some b))] [hy : EvO N τ y u] [hq : EvO N τ q v] [hu : Und P t (.map kt et)] [hm : MapI w b κ enc kvs] [hk : KeyE P kt enc] (he : u = enc k)
    (h : ∀ w', Lk w' w (OneB b) → MapI w' b κ enc (aput kvs k v) → G w') : EffS P N (OneB b) (.mapUpdate t x y q) ty τ w G := by
  obtain ⟨w', h1, h2, h3⟩ := run_mapUpdate (P := P) (kt := kt) hu.eq hm.m k v
  exact ⟨fun _ => nofun, w', by simp [execOp, hx.eq, hy.eq, hq.eq, he, h1, Result.andThen], h2, h w' ⟨h2⟩ ⟨h3⟩⟩
theorem adel_at {α : Type} : ∀ (kvs : List (κ × α)) (j : Nat) (k : κ) (u : α), kvs[j]? = some (k, u) → (kvs.map (·.1)).Nodup → adel kvs k = kvs.eraseIdx j
  | [], _, _, _, h, _ => by simp at h
  | p :: kvs, 0, k, u, h, hnd => by
    simp only [List.getElem?_cons_zero, Option.some.injEq] at h
    subst h
    simp only [List.map_cons, List.nodup_cons] at hnd
    simp only [adel, List.filter_cons, decide_true, Bool.not_true, Bool.false_eq_true, if_false, List.eraseIdx_cons_zero]
    rw [List.filter_eq_self]
    intro q hq
    have : q.1 ≠ k := fun e => hnd.1 (e ▸ List.mem_map.2 ⟨q, hq, rfl⟩)
    simp [this]
  | p :: kvs, j + 1, k, u, h, hnd => by
    simp only [List.map_cons, List.nodup_cons] at hnd
    have hj : kvs[j]? = some (k, u) := by simpa using h
    have hp : p.1 ≠ k := fun e => hnd.1 (e ▸ List.mem_map.2 ⟨_, List.mem_of_getElem? hj, rfl⟩)
    have ih := adel_at kvs j k u hj hnd.2
    rw [List.eraseIdx_cons_succ, ← ih]
    simp [adel, hp]
theorem adel_none {α : Type} {kvs : List (κ × α)} {k : κ} (h : kvs.any (fun p => decide (p.1 = k)) = false) : adel kvs k = kvs := by
  rw [adel, List.filter_eq_self]
  intro p hp
  have := List.any_eq_false.1 h p hp
  simpa using this
theorem toList_erase {α : Type} (es : Array α) (j : Nat) : (es.eraseIdxIfInBounds j).toList = es.toList.eraseIdx j := by
  unfold Array.eraseIdxIfInBounds
  split
  · exact Array.toList_eraseIdx ..
  · rw [List.eraseIdx_of_length_le (by simp; omega)]
theorem map_erase {α β : Type} (f : α → β) : ∀ (l : List α) (j : Nat), (l.eraseIdx j).map f = (l.map f).eraseIdx j
  | [], _ => by simp
  | _ :: _, 0 => by simp
  | x :: l, j + 1 => by simp [map_erase f l j]
theorem run_delete [hk : KeyE P kt enc] (hu : P.underlying t = some (.map kt et)) (hb : MapB w b enc kvs) (k : κ) (at2 : TypeId) :
    ∃ w', (Builtin.delete_ #[t, at2] ty #[.map (some b), enc k]).run P w = .ok (.tuple #[]) w' ∧ Keep (OneB b) w w' ∧ MapB w' b enc (adel kvs k) := by
  obtain ⟨es, clock, h1, h2, h3, h4, h5⟩ := hb
  obtain ⟨d, hd, _, hbits, hd2⟩ := hk.ex
  have hg : (getObj b).run P w = .ok (.map es clock) w := by simp [getObj, Sem.run, h1]
  have hset : ∀ o, (setObj b o).run P w = .ok () { w with heap := w.heap.setIfInBounds b o } := fun o => by simp [setObj, Sem.run, h1]
  have hblt := (Array.getElem?_eq_some_iff.1 h1).1
  rcases run_findKey (P := P) (kt := kt) h2 k w with ⟨h6, h7, h8⟩ | ⟨j, u, h6, h7, h8, h9⟩
  · refine ⟨_, ?_, keep_setObj b (.map es clock), es, clock, by simp [hblt], by rw [adel_none h8]; exact h2, h3, h4, by rw [adel_none h8]; exact h5⟩
    simp [Builtin.delete_, run_underlying hu, hg, run_chk hd hd2, h7, hset, Result.andThen]
  · refine ⟨_, ?_, keep_setObj b (.map (es.eraseIdxIfInBounds j) clock), es.eraseIdxIfInBounds j, clock, by simp [hblt], ?_, ?_, ?_, ?_⟩
    · simp [Builtin.delete_, run_underlying hu, hg, run_chk hd hd2, h7, hset, Result.andThen]
    · rw [adel_at kvs j k u h8 h5, toList_erase, map_erase, map_erase, h2]
    · intro e he
      rw [toList_erase] at he
      exact h3 e (List.mem_of_mem_eraseIdx he)
    · rw [toList_erase, map_erase]
      exact h4.sublist (List.eraseIdx_sublist _ _)
    · rw [adel_at kvs j k u h8 h5, map_erase]
      exact h5.sublist (List.eraseIdx_sublist _ _)
theorem e_delete {x y : Operand} {at2 : TypeId} {u : Value} (k : κ) {G : Value → World → Prop} [hx : EvO N τ x (.map (some b))] [hy : EvO N τ y u] [hu : Und P t (.map kt et)] [hm : MapI w b κ enc kvs] [hk : KeyE P kt enc] (he : u = enc k)
    (h : ∀ w', Lk w' w (OneB b) → MapI w' b κ enc (adel kvs k) → G (.tuple #[]) w') : EffV P N (OneB b) (.call { callee := .builtin .delete, args := #[x, y], argTypes := #[t, at2] }) ty τ w G := by
  obtain ⟨w', h1, h2, h3⟩ := run_delete (P := P) (kt := kt) (ty := ty) hu.eq hm.m k at2
  exact ⟨fun _ => nofun, _, w', by simp [execOp, resolve, invoke, builtin, hx.eq, hy.eq, he, h1, Result.andThen], h2, h w' ⟨h2⟩ ⟨h3⟩⟩
end mlaws
end maps
end Go.Wst
