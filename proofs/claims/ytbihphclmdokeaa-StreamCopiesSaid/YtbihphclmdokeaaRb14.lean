/-
  What the rows of the stream's laws share: arguments opened.
-/
import Derived.Test.YtbihphclmdokeaaAA
import Derived.Test.YtbihphclmdokeaaXz
set_option maxRecDepth 100000
set_option linter.all false
namespace Go.Proofs.Ytbihphclmdokeaa
open Go.Wst Go.Wst.Sm
open Go.ChangeShapes Go.WideShapes Go.ChangeAt Go.RowKit Go.Deep

theorem ownK : ownKnob Try.prog.godebug = none := by kernel_rfl
theorem laidK : laidOutB Try.prog = true := by kernel_rfl
/-- A rule that came in. -/
theorem open_rule {H : Type} {enc : TypeId × Value → H} {w : World} {base : Nat} {spare : Nat → Bool} {held : Bool} (fuel : Nat) (cs : List Value) (x : DataW H × List MemPlace) (h : DataW.trod enc Try.prog w base spare held fuel 23 cs = some x) :
    ∃ r : Rule, cs = ruleC r ∧ In64 r.id ∧ In64 r.inp ∧ In64 r.out ∧ In64 r.mul ∧ In64 r.add := by
  have hl : cs.length = 5 := (trod_field Try.underlying23 h).1.trans (by kernel_rfl)
  have ha := trod_at (pl := [(0, 1, 3), (1, 1, 3), (2, 1, 3), (3, 1, 2), (4, 1, 2)]) ⟨_, Try.underlying23, by kernel_rfl⟩ h
  match cs, hl with
  | [c0, c1, c2, c3, c4], _ =>
    obtain ⟨_, _, h0⟩ := ha 0 _ _ _ rfl
    obtain ⟨_, _, h1⟩ := ha 1 _ _ _ rfl
    obtain ⟨_, _, h2⟩ := ha 2 _ _ _ rfl
    obtain ⟨_, _, h3⟩ := ha 3 _ _ _ rfl
    obtain ⟨_, _, h4⟩ := ha 4 _ _ _ rfl
    obtain ⟨n0, e0, _, w0⟩ := DataW.trod_int Try.underlying3 h0
    obtain ⟨n1, e1, _, w1⟩ := DataW.trod_int Try.underlying3 h1
    obtain ⟨n2, e2, _, w2⟩ := DataW.trod_int Try.underlying3 h2
    obtain ⟨n3, e3, _, w3⟩ := DataW.trod_int Try.underlying2 h3
    obtain ⟨n4, e4, _, w4⟩ := DataW.trod_int Try.underlying2 h4
    simp at e0 e1 e2 e3 e4
    subst e0; subst e1; subst e2; subst e3; subst e4
    exact ⟨⟨n0, n1, n2, n3, n4⟩, rfl, wf_i64 w0, wf_i64 w1, wf_i64 w2, wf_i64 w3, wf_i64 w4⟩
/-- Numbers that came in. -/
theorem open_nums {H : Type} {enc : TypeId × Value → H} {w : World} {base : Nat} {spare : Nat → Bool} {held : Bool} {fuel : Nat} {cs : List Value} {x : DataW H × List MemPlace} (h : DataW.trod enc Try.prog w base spare held fuel 24 cs = some x) :
    ∃ (A : Option Addr) (n c : Nat) (xs : List Int), cs = [.slice A n c] ∧ xs.length = n ∧ RowP w A (ints xs) ∧ (∀ a ∈ xs, In64 a) ∧ (A.isSome = true ∨ n = 0) ∧ n ≤ 9223372036854775807 := by
  have e : ∀ xs : List Int, ints xs = xs.flatMap (fun x => [Value.int .i64 x]) := fun xs => by
    unfold ints
    induction xs with
    | nil => rfl
    | cons x xs ih => simp [ih]
  simp only [e]
  refine open_rows (Q := In64) (fun _ => rfl) Try.underlying24 (by kernel_rfl) (fun fuel cs x h => ?_) h
  obtain ⟨n, rfl, _, hw⟩ := DataW.trod_int Try.underlying2 h
  exact ⟨n, rfl, wf_i64 hw⟩
/-- A value by its cells: a struct. -/
theorem agg_of {w : World} {r : Reach} {b : Nat} {t : TypeId} {fs : Array Field} {v : Value} {cs : List Value} (hs : Try.prog.underlying t = some (.struct fs)) (hv : Value.okWide Try.prog w r b t v) (hc : v.cells.toList = cs) : v = .agg cs.toArray := by
  obtain ⟨c, rfl, _⟩ := okWide_struct hs hv
  subst hc
  simp [Value.cells]
theorem slice_of {w : World} {r : Reach} {b : Nat} {t e : TypeId} {v u : Value} (hs : Try.prog.underlying t = some (.slice e)) (hv : Value.okWide Try.prog w r b t v) (hc : v.cells.toList = [u]) : v = u := by
  obtain ⟨a, l, c, rfl⟩ := okWide_slice hs hv
  simpa [Value.cells] using hc

theorem int_of {w : World} {r : Reach} {b : Nat} {t : TypeId} {v u : Value} {k : IntKind} (hs : Try.prog.underlying t = some (.int k)) (hv : Value.okWide Try.prog w r b t v) (hc : v.cells.toList = [u]) : v = u := by
  obtain ⟨n, rfl⟩ := okWide_int hs hv
  simpa [Value.cells] using hc
/-- Numbers that came in, of the type int. -/
theorem open_ints {H : Type} {enc : TypeId × Value → H} {w : World} {base : Nat} {spare : Nat → Bool} {held : Bool} {fuel : Nat} {cs : List Value} {x : DataW H × List MemPlace} (h : DataW.trod enc Try.prog w base spare held fuel 35 cs = some x) :
    ∃ (A : Option Addr) (n c : Nat) (xs : List Int), cs = [.slice A n c] ∧ xs.length = n ∧ RowP w A (ints xs) ∧ (∀ a ∈ xs, In64 a) ∧ (A.isSome = true ∨ n = 0) ∧ n ≤ 9223372036854775807 := by
  have e : ∀ xs : List Int, ints xs = xs.flatMap (fun x => [Value.int .i64 x]) := fun xs => by
    unfold ints
    induction xs with
    | nil => rfl
    | cons x xs ih => simp [ih]
  simp only [e]
  refine open_rows (Q := In64) (fun _ => rfl) Try.underlying35 (by kernel_rfl) (fun fuel cs x h => ?_) h
  obtain ⟨n, rfl, _, hw⟩ := DataW.trod_int Try.underlying3 h
  exact ⟨n, rfl, wf_i64 hw⟩
/-- Rules that came in. -/
theorem open_rules {H : Type} {enc : TypeId × Value → H} {w : World} {base : Nat} {spare : Nat → Bool} {held : Bool} {fuel : Nat} {cs : List Value} {x : DataW H × List MemPlace} (h : DataW.trod enc Try.prog w base spare held fuel 48 cs = some x) :
    ∃ (A : Option Addr) (n c : Nat) (xs : List Rule), cs = [.slice A n c] ∧ xs.length = n ∧ RowP w A (xs.flatMap ruleC) ∧ (∀ a ∈ xs, True) ∧ (A.isSome = true ∨ n = 0) ∧ n ≤ 9223372036854775807 := by
  refine open_rows (Q := fun _ => True) (ea := ruleC) (sz := 5) (fun _ => rfl) Try.underlying48 (by kernel_rfl) (fun fuel cs x h => ?_) h
  obtain ⟨r, hr, _⟩ := open_rule _ _ _ h
  exact ⟨r, hr, trivial⟩
/-- A call that came in. -/
theorem open_act {H : Type} {enc : TypeId × Value → H} {w : World} {base : Nat} {spare : Nat → Bool} {held : Bool} (fuel : Nat) (cs : List Value) (x : DataW H × List MemPlace) (h : DataW.trod enc Try.prog w base spare held fuel 57 cs = some x) :
    ∃ a : ActD, cs = actC a := by
  have hl : cs.length = 10 := (trod_field Try.underlying57 h).1.trans (by kernel_rfl)
  have ha := trod_at (pl := [(0, 1, 3), (1, 1, 3), (2, 1, 3), (3, 1, 3), (4, 1, 2), (5, 5, 23)]) ⟨_, Try.underlying57, by kernel_rfl⟩ h
  match cs, hl with
  | [c0, c1, c2, c3, c4, c5, c6, c7, c8, c9], _ =>
    obtain ⟨_, _, h0⟩ := ha 0 _ _ _ rfl
    obtain ⟨_, _, h1⟩ := ha 1 _ _ _ rfl
    obtain ⟨_, _, h2⟩ := ha 2 _ _ _ rfl
    obtain ⟨_, _, h3⟩ := ha 3 _ _ _ rfl
    obtain ⟨_, _, h4⟩ := ha 4 _ _ _ rfl
    obtain ⟨_, _, h5⟩ := ha 5 _ _ _ rfl
    obtain ⟨n0, e0, _, w0⟩ := DataW.trod_int Try.underlying3 h0
    obtain ⟨n1, e1, _, w1⟩ := DataW.trod_int Try.underlying3 h1
    obtain ⟨n2, e2, _, w2⟩ := DataW.trod_int Try.underlying3 h2
    obtain ⟨n3, e3, _, w3⟩ := DataW.trod_int Try.underlying3 h3
    obtain ⟨n4, e4, _, w4⟩ := DataW.trod_int Try.underlying2 h4
    obtain ⟨r, hr, _⟩ := open_rule _ _ _ h5
    simp at e0 e1 e2 e3 e4 hr
    obtain ⟨e5, e6, e7, e8, e9⟩ := hr
    subst e0; subst e1; subst e2; subst e3; subst e4; subst e5; subst e6; subst e7; subst e8; subst e9
    exact ⟨⟨n0, n1, n2, n3, n4, r⟩, rfl⟩
/-- Calls that came in. -/
theorem open_acts {H : Type} {enc : TypeId × Value → H} {w : World} {base : Nat} {spare : Nat → Bool} {held : Bool} {fuel : Nat} {cs : List Value} {x : DataW H × List MemPlace} (h : DataW.trod enc Try.prog w base spare held fuel 60 cs = some x) :
    ∃ (A : Option Addr) (n c : Nat) (xs : List ActD), cs = [.slice A n c] ∧ xs.length = n ∧ RowP w A (xs.flatMap actC) ∧ (∀ a ∈ xs, True) ∧ (A.isSome = true ∨ n = 0) ∧ n ≤ 9223372036854775807 := by
  refine open_rows (Q := fun _ => True) (ea := actC) (sz := 10) (fun _ => rfl) Try.underlying60 (by kernel_rfl) (fun fuel cs x h => ?_) h
  obtain ⟨a, ha⟩ := open_act _ _ _ h
  exact ⟨a, ha, trivial⟩
end Go.Proofs.Ytbihphclmdokeaa
