/-
  Triples of bytes, opened.
-/
import Derived.Test.YtnjpladlfiaojaaAE
import Derived.Test.YtnjpladlfiaojaaRb10
import Derived.OpenShut
set_option linter.all false
set_option maxRecDepth 100000
namespace Go.Proofs.Ytnjpladlfiaojaa
open Go.Wst Go.Wst.Ct
open Go.ChangeShapes Go.WideShapes Go.ChangeAt Go.RowKit Go.Deep

theorem open_tri {H : Type} {enc : TypeId × Value → H} {w : World} {base : Nat} {spare : Nat → Bool} {held : Bool} (fuel : Nat) (cs : List Value) (x : DataW H × List MemPlace) (h : DataW.trod enc Try.prog w base spare held fuel 62 cs = some x) :
    ∃ a : Int × Int × Int, cs = triC a ∧ True := by
  obtain ⟨xs, m, _, _, hl, hx, hi⟩ := DataW.trod_array Try.underlying62 h
  have hC : Try.prog.cellsOf 5 = 1 := by kernel_rfl
  have hl3 : cs.length = 3 := hl.trans (by kernel_rfl)
  have h0 := hi 0 (by decide)
  have h1 := hi 1 (by decide)
  have h2 := hi 2 (by decide)
  rw [hC] at h0 h1 h2
  rw [List.getElem?_eq_getElem (by omega)] at h0 h1 h2
  match cs, hl3 with
  | [c0, c1, c2], _ =>
    simp only [Nat.zero_mul, List.drop_zero, List.take_succ_cons, List.take_zero, List.drop_succ_cons, Nat.one_mul] at h0 h1 h2
    obtain ⟨a, ea, _⟩ := DataW.trod_int Try.underlying5 h0
    obtain ⟨b, eb, _⟩ := DataW.trod_int Try.underlying5 h1
    obtain ⟨c, ec, _⟩ := DataW.trod_int Try.underlying5 h2
    simp at ea eb ec
    subst ea; subst eb; subst ec
    exact ⟨(a, b, c), rfl, trivial⟩
theorem open_tris {H : Type} {enc : TypeId × Value → H} {w : World} {base : Nat} {spare : Nat → Bool} {held : Bool} {fuel : Nat} {cs : List Value} {x : DataW H × List MemPlace} (h : DataW.trod enc Try.prog w base spare held fuel 61 cs = some x) :
    ∃ (A : Option Addr) (n c : Nat) (xs : List (Int × Int × Int)), cs = [.slice A n c] ∧ xs.length = n ∧ RowP w A (xs.flatMap triC) ∧ (∀ a ∈ xs, True) ∧ (A.isSome = true ∨ n = 0) ∧ n ≤ 9223372036854775807 :=
  open_rows (Q := fun _ => True) (ea := triC) (sz := 3) (fun _ => rfl) Try.underlying61 (by kernel_rfl) (fun fuel cs x h => open_tri fuel cs x h) h
end Go.Proofs.Ytnjpladlfiaojaa
