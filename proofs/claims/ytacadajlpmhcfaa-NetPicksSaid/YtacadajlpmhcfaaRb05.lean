/-
  What the rows of the net's laws share. No law is named here.
-/
import Derived.Test.YtacadajlpmhcfaaA
import Derived.Test.YtacadajlpmhcfaaXz
set_option maxRecDepth 100000
set_option linter.all false
namespace Go.Proofs.Ytacadajlpmhcfaa
open Go.Wst Go.Wst.Nm
open Go.ChangeShapes Go.WideShapes Go.ChangeAt Go.RowKit Go.Deep

theorem ownK : ownKnob Try.prog.godebug = none := by kernel_rfl
theorem laidK : laidOutB Try.prog = true := by kernel_rfl
/-- A value by its cells: a struct. -/
theorem agg_of {w : World} {r : Reach} {b : Nat} {t : TypeId} {fs : Array Field} {v : Value} {cs : List Value} (hs : Try.prog.underlying t = some (.struct fs)) (hv : Value.okWide Try.prog w r b t v) (hc : v.cells.toList = cs) : v = .agg cs.toArray := by
  obtain ⟨c, rfl, _⟩ := okWide_struct hs hv
  subst hc
  simp [Value.cells]
theorem slice_of {w : World} {r : Reach} {b : Nat} {t e : TypeId} {v u : Value} (hs : Try.prog.underlying t = some (.slice e)) (hv : Value.okWide Try.prog w r b t v) (hc : v.cells.toList = [u]) : v = u := by
  obtain ⟨a, l, c, rfl⟩ := okWide_slice hs hv
  simpa [Value.cells] using hc

theorem int_of {w : World} {r : Reach} {b : Nat} {t : TypeId} {v u : Value} {k : IntKind} (hs : Try.prog.underlying t = some (.int k)) (hv : Value.okWide Try.prog w r b t v) (hc : v.cells.toList = [u]) : v = u := by
  obtain ⟨n, rfl⟩ := okWide_int hs hv
  simpa [Value.cells] using hc
end Go.Proofs.Ytacadajlpmhcfaa
