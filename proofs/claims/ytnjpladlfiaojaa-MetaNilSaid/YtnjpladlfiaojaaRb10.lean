/-
  What the rows of the controller's laws share: arguments opened.
-/
import Derived.Test.YtnjpladlfiaojaaZ
import Derived.Test.YtnjpladlfiaojaaXz
set_option maxRecDepth 100000
set_option linter.all false
namespace Go.Proofs.Ytnjpladlfiaojaa
open Go.Wst Go.Wst.Ct
open Go.ChangeShapes Go.WideShapes Go.ChangeAt Go.RowKit Go.Deep

theorem ownK : ownKnob Try.prog.godebug = none := by kernel_rfl
theorem laidK : laidOutB Try.prog = true := by kernel_rfl
theorem wf_i64 {n : Int} (h : (Lit.int .i64 n).wf = true) : In64 n := by
  have h1 : -9223372036854775808 ≤ n ∧ n ≤ 9223372036854775807 := by
    simpa [Lit.wf, IntKind.min, IntKind.max, IntKind.signed, IntKind.bits] using h
  exact h1
theorem agg_of {w : World} {r : Reach} {b : Nat} {t : TypeId} {fs : Array Field} {v : Value} {cs : List Value} (hs : Try.prog.underlying t = some (.struct fs)) (hv : Value.okWide Try.prog w r b t v) (hc : v.cells.toList = cs) : v = .agg cs.toArray := by
  obtain ⟨c, rfl, _⟩ := okWide_struct hs hv
  subst hc
  simp [Value.cells]
theorem slice_of {w : World} {r : Reach} {b : Nat} {t e : TypeId} {v u : Value} (hs : Try.prog.underlying t = some (.slice e)) (hv : Value.okWide Try.prog w r b t v) (hc : v.cells.toList = [u]) : v = u := by
  obtain ⟨a, l, c, rfl⟩ := okWide_slice hs hv
  simpa [Value.cells] using hc
theorem open_ints {H : Type} {enc : TypeId × Value → H} {w : World} {base : Nat} {spare : Nat → Bool} {held : Bool} {fuel : Nat} {cs : List Value} {x : DataW H × List MemPlace} (h : DataW.trod enc Try.prog w base spare held fuel 40 cs = some x) :
    ∃ (A : Option Addr) (n c : Nat) (xs : List Int), cs = [.slice A n c] ∧ xs.length = n ∧ RowP w A (ints xs) ∧ (∀ a ∈ xs, In64 a) ∧ (A.isSome = true ∨ n = 0) ∧ n ≤ 9223372036854775807 := by
  have e : ∀ xs : List Int, ints xs = xs.flatMap (fun x => [Value.int .i64 x]) := fun xs => by
    unfold ints
    induction xs with
    | nil => rfl
    | cons x xs ih => simp [ih]
  simp only [e]
  refine open_rows (Q := In64) (fun _ => rfl) Try.underlying40 (by kernel_rfl) (fun fuel cs x h => ?_) h
  obtain ⟨n, rfl, _, hw⟩ := DataW.trod_int Try.underlying3 h
  exact ⟨n, rfl, wf_i64 hw⟩
theorem open_form {H : Type} {enc : TypeId × Value → H} {w : World} {base : Nat} {spare : Nat → Bool} {held : Bool} (fuel : Nat) (cs : List Value) (x : DataW H × List MemPlace) (h : DataW.trod enc Try.prog w base spare held fuel 26 cs = some x) :
    ∃ b p i : Int, cs = [.int .i64 b, .int .i64 p, .int .i64 i] ∧ In64 b ∧ In64 p ∧ In64 i := by
  have hl : cs.length = 3 := (trod_field Try.underlying26 h).1.trans (by kernel_rfl)
  have ha := trod_at (pl := [(0, 1, 3), (1, 1, 3), (2, 1, 3)]) ⟨_, Try.underlying26, by kernel_rfl⟩ h
  match cs, hl with
  | [c0, c1, c2], _ =>
    obtain ⟨_, _, h0⟩ := ha 0 _ _ _ rfl
    obtain ⟨_, _, h1⟩ := ha 1 _ _ _ rfl
    obtain ⟨_, _, h2⟩ := ha 2 _ _ _ rfl
    obtain ⟨n0, e0, _, w0⟩ := DataW.trod_int Try.underlying3 h0
    obtain ⟨n1, e1, _, w1⟩ := DataW.trod_int Try.underlying3 h1
    obtain ⟨n2, e2, _, w2⟩ := DataW.trod_int Try.underlying3 h2
    simp at e0 e1 e2
    subst e0; subst e1; subst e2
    exact ⟨n0, n1, n2, rfl, wf_i64 w0, wf_i64 w1, wf_i64 w2⟩
theorem open_ending {H : Type} {enc : TypeId × Value → H} {w : World} {base : Nat} {spare : Nat → Bool} {held : Bool} (fuel : Nat) (cs : List Value) (x : DataW H × List MemPlace) (h : DataW.trod enc Try.prog w base spare held fuel 59 cs = some x) :
    ∃ (b : Bool) (o : Int), cs = [.bool b, .int .i64 o] := by
  have hl : cs.length = 2 := (trod_field Try.underlying59 h).1.trans (by kernel_rfl)
  have ha := trod_at (pl := [(0, 1, 4), (1, 1, 2)]) ⟨_, Try.underlying59, by kernel_rfl⟩ h
  match cs, hl with
  | [c0, c1], _ =>
    obtain ⟨_, _, h0⟩ := ha 0 _ _ _ rfl
    obtain ⟨_, _, h1⟩ := ha 1 _ _ _ rfl
    obtain ⟨b, e0, _⟩ := DataW.trod_bool Try.underlying4 h0
    obtain ⟨o, e1, _, w1⟩ := DataW.trod_int Try.underlying2 h1
    simp at e0 e1
    subst e0; subst e1
    exact ⟨b, o, rfl⟩
theorem open_act2 {H : Type} {enc : TypeId × Value → H} {w : World} {base : Nat} {spare : Nat → Bool} {held : Bool} (fuel : Nat) (cs : List Value) (x : DataW H × List MemPlace) (h : DataW.trod enc Try.prog w base spare held fuel 42 cs = some x) :
    ∃ a : LAct, cs = actC a ∧ RowP w a.A (ints a.a.list) ∧ (a.A.isSome = true ∨ a.a.list.length = 0) ∧ a.a.list.length ≤ 9223372036854775807 := by
  have hl : cs.length = 8 := (trod_field Try.underlying42 h).1.trans (by kernel_rfl)
  have ha := trod_at (pl := [(0, 1, 3), (1, 1, 3), (2, 1, 3), (3, 1, 2), (4, 1, 2), (5, 1, 4), (6, 1, 4), (7, 1, 40)]) ⟨_, Try.underlying42, by kernel_rfl⟩ h
  match cs, hl with
  | [c0, c1, c2, c3, c4, c5, c6, c7], _ =>
    obtain ⟨_, _, h0⟩ := ha 0 _ _ _ rfl
    obtain ⟨_, _, h1⟩ := ha 1 _ _ _ rfl
    obtain ⟨_, _, h2⟩ := ha 2 _ _ _ rfl
    obtain ⟨_, _, h3⟩ := ha 3 _ _ _ rfl
    obtain ⟨_, _, h4⟩ := ha 4 _ _ _ rfl
    obtain ⟨_, _, h5⟩ := ha 5 _ _ _ rfl
    obtain ⟨_, _, h6⟩ := ha 6 _ _ _ rfl
    obtain ⟨_, _, h7⟩ := ha 7 _ _ _ rfl
    obtain ⟨n0, e0, _, w0⟩ := DataW.trod_int Try.underlying3 h0
    obtain ⟨n1, e1, _, w1⟩ := DataW.trod_int Try.underlying3 h1
    obtain ⟨n2, e2, _, w2⟩ := DataW.trod_int Try.underlying3 h2
    obtain ⟨n3, e3, _, w3⟩ := DataW.trod_int Try.underlying2 h3
    obtain ⟨n4, e4, _, w4⟩ := DataW.trod_int Try.underlying2 h4
    obtain ⟨b5, e5, _⟩ := DataW.trod_bool Try.underlying4 h5
    obtain ⟨b6, e6, _⟩ := DataW.trod_bool Try.underlying4 h6
    obtain ⟨A, n, c, xs, e7, hxl, hr, _, hA, hn⟩ := open_ints h7
    simp at e0 e1 e2 e3 e4 e5 e6 e7
    subst e0; subst e1; subst e2; subst e3; subst e4; subst e5; subst e6; subst e7; subst hxl
    exact ⟨⟨⟨n0, n1, n2, n3, n4, b5, b6, xs⟩, A, c⟩, rfl, hr, hA, hn⟩
theorem open_acts {H : Type} {enc : TypeId × Value → H} {w : World} {base : Nat} {spare : Nat → Bool} {held : Bool} {fuel : Nat} {cs : List Value} {x : DataW H × List MemPlace} (h : DataW.trod enc Try.prog w base spare held fuel 22 cs = some x) :
    ∃ (A : Option Addr) (n c : Nat) (xs : List LAct), cs = [.slice A n c] ∧ xs.length = n ∧ RowP w A (xs.flatMap actC) ∧ (∀ a ∈ xs, RowP w a.A (ints a.a.list) ∧ (a.A.isSome = true ∨ a.a.list.length = 0) ∧ a.a.list.length ≤ 9223372036854775807) ∧ (A.isSome = true ∨ n = 0) ∧ n ≤ 9223372036854775807 :=
  open_rows (Q := fun a : LAct => RowP w a.A (ints a.a.list) ∧ (a.A.isSome = true ∨ a.a.list.length = 0) ∧ a.a.list.length ≤ 9223372036854775807) (ea := actC) (sz := 8) (fun _ => rfl) Try.underlying22 (by kernel_rfl) (fun fuel cs x h => open_act2 fuel cs x h) h
end Go.Proofs.Ytnjpladlfiaojaa
