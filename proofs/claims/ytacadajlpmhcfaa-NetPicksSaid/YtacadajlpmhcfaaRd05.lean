/-
  What the rows of the net's laws share: calls opened, with their bytes and picks.
-/
import Derived.Test.YtacadajlpmhcfaaRc05
set_option maxRecDepth 100000
set_option linter.all false
namespace Go.Proofs.Ytacadajlpmhcfaa
open Go.Wst Go.Wst.Nm
open Go.ChangeShapes Go.WideShapes Go.ChangeAt Go.RowKit Go.Deep
section
variable {H : Type} {enc : TypeId × Value → H} {w : World} {base : Nat} {spare : Nat → Bool} {held : Bool}
theorem wf_i64 {n : Int} (h : (Lit.int .i64 n).wf = true) : In64 n := by
  have h1 : -9223372036854775808 ≤ n ∧ n ≤ 9223372036854775807 := by
    simpa [Lit.wf, IntKind.min, IntKind.max, IntKind.signed, IntKind.bits] using h
  exact h1
theorem open_act2 (fuel : Nat) (cs : List Value) (x : DataW H × List MemPlace) (h : DataW.trod enc Try.prog w base spare held fuel 42 cs = some x) :
    ∃ a : LAct, cs = actC a ∧ RowP w a.x.A (bytesC a.x.m.bytes) ∧ In64 a.pick := by
  have hl : cs.length = 5 := (trod_field Try.underlying42 h).1.trans (by kernel_rfl)
  have ha := trod_at (pl := [(0, 1, 3), (1, 1, 3), (2, 3, 30)]) ⟨_, Try.underlying42, by kernel_rfl⟩ h
  match cs, hl with
  | [c0, c1, c2, c3, c4], _ =>
    obtain ⟨_, _, h0⟩ := ha 0 _ _ _ rfl
    obtain ⟨_, _, h1⟩ := ha 1 _ _ _ rfl
    obtain ⟨_, _, h2⟩ := ha 2 _ _ _ rfl
    obtain ⟨n0, e0, _, _⟩ := DataW.trod_int Try.underlying3 h0
    obtain ⟨n1, e1, _, hw⟩ := DataW.trod_int Try.underlying3 h1
    obtain ⟨m, e2, hr⟩ := open_parcel _ _ _ h2
    simp at e0 e1 e2
    obtain ⟨e2, e3, e4⟩ := e2
    subst e0; subst e1; subst e2; subst e3; subst e4
    exact ⟨⟨n0, n1, m⟩, rfl, hr, wf_i64 hw⟩
theorem open_acts2 {fuel : Nat} {cs : List Value} {x : DataW H × List MemPlace} (h : DataW.trod enc Try.prog w base spare held fuel 37 cs = some x) :
    ∃ (A : Option Addr) (n c : Nat) (xs : List LAct), cs = [.slice A n c] ∧ xs.length = n ∧ RowP w A (xs.flatMap actC) ∧ (∀ a ∈ xs, RowP w a.x.A (bytesC a.x.m.bytes) ∧ In64 a.pick) ∧ (A.isSome = true ∨ n = 0) ∧ n ≤ 9223372036854775807 := by
  refine open_rows (Q := fun a : LAct => RowP w a.x.A (bytesC a.x.m.bytes) ∧ In64 a.pick) (ea := actC) (sz := 5) (fun _ => rfl) Try.underlying37 (by kernel_rfl) (fun fuel cs x h => ?_) h
  exact open_act2 _ _ _ h
end
end Go.Proofs.Ytacadajlpmhcfaa
