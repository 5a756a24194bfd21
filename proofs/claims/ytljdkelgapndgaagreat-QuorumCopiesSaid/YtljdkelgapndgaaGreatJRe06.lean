/-
  What the rows of the quorum's laws share: arguments opened.
-/
import Derived.Test.YtljdkelgapndgaaGreatJ7
import Derived.Test.YtljdkelgapndgaaGreatJXz
set_option maxRecDepth 100000
set_option linter.all false
namespace Go.Proofs.YtljdkelgapndgaaGreat
open Go.Wst Go.Wst.Qm
open Go.ChangeShapes Go.WideShapes Go.ChangeAt Go.RowKit Go.Deep

theorem ownK : ownKnob Tryz.prog.godebug = none := by kernel_rfl
theorem laidK : laidOutB Tryz.prog = true := by kernel_rfl
theorem wf_i64 {n : Int} (h : (Lit.int .i64 n).wf = true) : In64 n := by
  have h1 : -9223372036854775808 ≤ n ∧ n ≤ 9223372036854775807 := by
    simpa [Lit.wf, IntKind.min, IntKind.max, IntKind.signed, IntKind.bits] using h
  exact h1
theorem agg_of {w : World} {r : Reach} {b : Nat} {t : TypeId} {fs : Array Field} {v : Value} {cs : List Value} (hs : Tryz.prog.underlying t = some (.struct fs)) (hv : Value.okWide Tryz.prog w r b t v) (hc : v.cells.toList = cs) : v = .agg cs.toArray := by
  obtain ⟨c, rfl, _⟩ := okWide_struct hs hv
  subst hc
  simp [Value.cells]
theorem slice_of {w : World} {r : Reach} {b : Nat} {t e : TypeId} {v u : Value} (hs : Tryz.prog.underlying t = some (.slice e)) (hv : Value.okWide Tryz.prog w r b t v) (hc : v.cells.toList = [u]) : v = u := by
  obtain ⟨a, l, c, rfl⟩ := okWide_slice hs hv
  simpa [Value.cells] using hc
theorem int_of {w : World} {r : Reach} {b : Nat} {t : TypeId} {v u : Value} {k : IntKind} (hs : Tryz.prog.underlying t = some (.int k)) (hv : Value.okWide Tryz.prog w r b t v) (hc : v.cells.toList = [u]) : v = u := by
  obtain ⟨n, rfl⟩ := okWide_int hs hv
  simpa [Value.cells] using hc
theorem bool_of {w : World} {r : Reach} {b : Nat} {t : TypeId} {v u : Value} (hs : Tryz.prog.underlying t = some .bool) (hv : Value.okWide Tryz.prog w r b t v) (hc : v.cells.toList = [u]) : v = u := by
  obtain ⟨n, rfl⟩ := okWide_bool hs hv
  simpa [Value.cells] using hc
theorem open_pick {H : Type} {enc : TypeId × Value → H} {w : World} {base : Nat} {spare : Nat → Bool} {held : Bool} (fuel : Nat) (cs : List Value) (x : DataW H × List MemPlace) (h : DataW.trod enc Tryz.prog w base spare held fuel 25 cs = some x) :
    ∃ p : Pk, cs = pkC p ∧ True := by
  have hl : cs.length = 3 := (trod_field Tryz.underlying25 h).1.trans (by kernel_rfl)
  have ha := trod_at (pl := [(0, 1, 23), (1, 1, 3), (2, 1, 2)]) ⟨_, Tryz.underlying25, by kernel_rfl⟩ h
  match cs, hl with
  | [c0, c1, c2], _ =>
    obtain ⟨_, _, h0⟩ := ha 0 _ _ _ rfl
    obtain ⟨_, _, h1⟩ := ha 1 _ _ _ rfl
    obtain ⟨_, _, h2⟩ := ha 2 _ _ _ rfl
    obtain ⟨n0, e0, _, w0⟩ := DataW.trod_int Tryz.underlying23 h0
    obtain ⟨n1, e1, _, w1⟩ := DataW.trod_int Tryz.underlying3 h1
    obtain ⟨n2, e2, _, w2⟩ := DataW.trod_int Tryz.underlying2 h2
    simp at e0 e1 e2
    subst e0; subst e1; subst e2
    exact ⟨⟨n0, n1, n2⟩, rfl, trivial⟩
theorem open_picks {H : Type} {enc : TypeId × Value → H} {w : World} {base : Nat} {spare : Nat → Bool} {held : Bool} {fuel : Nat} {cs : List Value} {x : DataW H × List MemPlace} (h : DataW.trod enc Tryz.prog w base spare held fuel 22 cs = some x) :
    ∃ (A : Option Addr) (n c : Nat) (xs : List Pk), cs = [.slice A n c] ∧ xs.length = n ∧ RowP w A (xs.flatMap pkC) ∧ (∀ a ∈ xs, True) ∧ (A.isSome = true ∨ n = 0) ∧ n ≤ 9223372036854775807 :=
  open_rows (Q := fun _ => True) (ea := pkC) (sz := 3) (fun _ => rfl) Tryz.underlying22 (by kernel_rfl) (fun fuel cs x h => open_pick fuel cs x h) h
end Go.Proofs.YtljdkelgapndgaaGreat
