/-
  What the rows of the disk's laws share. No law is named here.
-/
import Derived.Test.YtabknhgbijcklaaA
import Derived.Test.YtabknhgbijcklaaXz
set_option maxRecDepth 100000
set_option linter.all false
namespace Go.Proofs.Ytabknhgbijcklaa
open Go.Wst Go.Wst.Dm
open Go.ChangeShapes Go.WideShapes Go.ChangeAt Go.RowKit Go.Deep

theorem ownK : ownKnob Try.prog.godebug = none := by kernel_rfl
theorem laidK : laidOutB Try.prog = true := by kernel_rfl
/-- A value by its cells: a struct. -/
theorem agg_of {w : World} {r : Reach} {b : Nat} {t : TypeId} {fs : Array Field} {v : Value} {cs : List Value} (hs : Try.prog.underlying t = some (.struct fs)) (hv : Value.okWide Try.prog w r b t v) (hc : v.cells.toList = cs) : v = .agg cs.toArray := by
  obtain ⟨c, rfl, _⟩ := okWide_struct hs hv
  subst hc
  simp [Value.cells]
theorem slice_of {w : World} {r : Reach} {b : Nat} {t e : TypeId} {v u : Value} (hs : Try.prog.underlying t = some (.slice e)) (hv : Value.okWide Try.prog w r b t v) (hc : v.cells.toList = [u]) : v = u := by
  obtain ⟨a, l, c, rfl⟩ := okWide_slice hs hv
  simpa [Value.cells] using hc

theorem int_of {w : World} {r : Reach} {b : Nat} {t : TypeId} {v u : Value} {k : IntKind} (hs : Try.prog.underlying t = some (.int k)) (hv : Value.okWide Try.prog w r b t v) (hc : v.cells.toList = [u]) : v = u := by
  obtain ⟨n, rfl⟩ := okWide_int hs hv
  simpa [Value.cells] using hc
theorem string_of {w : World} {r : Reach} {b : Nat} {t : TypeId} {v u : Value} (hs : Try.prog.underlying t = some .string) (hv : Value.okWide Try.prog w r b t v) (hc : v.cells.toList = [u]) : v = u := by
  obtain ⟨n, rfl⟩ := okWide_string hs hv
  simpa [Value.cells] using hc
section
variable {H : Type} {enc : TypeId × Value → H} {w : World} {base : Nat} {spare : Nat → Bool} {held : Bool}
theorem wf_i64 {n : Int} (h : (Lit.int .i64 n).wf = true) : In64 n := by
  have h1 : -9223372036854775808 ≤ n ∧ n ≤ 9223372036854775807 := by
    simpa [Lit.wf, IntKind.min, IntKind.max, IntKind.signed, IntKind.bits] using h
  exact h1
theorem wf_byte {n : Int} (h : (Lit.int .u8 n).wf = true) : 0 ≤ n ∧ n ≤ 255 := by
  simpa [Lit.wf, IntKind.min, IntKind.max, IntKind.signed, IntKind.bits] using h
theorem open_str {fuel : Nat} {cs : List Value} {x : DataW H × List MemPlace} (h : DataW.trod enc Try.prog w base spare held fuel 9 cs = some x) : ∃ s : ByteArray, cs = [.string s] ∧ s.size ≤ maxLen := by
  obtain ⟨s, h1, _, h2⟩ := DataW.trod_string Try.underlying9 h
  exact ⟨s, h1, h2⟩
theorem open_ints {fuel : Nat} {cs : List Value} {x : DataW H × List MemPlace} (h : DataW.trod enc Try.prog w base spare held fuel 22 cs = some x) :
    ∃ (A : Option Addr) (n c : Nat) (xs : List Int), cs = [.slice A n c] ∧ xs.length = n ∧ RowP w A (xs.flatMap (fun i : Int => [Value.int .i64 i])) ∧ (∀ a ∈ xs, In64 a) ∧ (A.isSome = true ∨ n = 0) ∧ n ≤ 9223372036854775807 := by
  refine open_rows (Q := In64) (ea := fun i : Int => [Value.int .i64 i]) (sz := 1) (fun _ => rfl) Try.underlying22 (by kernel_rfl) (fun fuel cs x h => ?_) h
  obtain ⟨n, rfl, _, hw⟩ := DataW.trod_int Try.underlying3 h
  exact ⟨n, rfl, wf_i64 hw⟩
end
end Go.Proofs.Ytabknhgbijcklaa
