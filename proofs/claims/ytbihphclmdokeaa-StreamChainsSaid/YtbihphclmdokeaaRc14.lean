/-
  The numbers of StreamChains, opened.
-/
import Derived.Test.YtbihphclmdokeaaAD
import Derived.Test.YtbihphclmdokeaaRb14
import Derived.OpenShut
set_option maxRecDepth 100000
set_option linter.all false
namespace Go.Proofs.Ytbihphclmdokeaa
open Go.Wst Go.Wst.Sm
open Go.ChangeShapes Go.WideShapes Go.ChangeAt Go.RowKit Go.Deep

theorem agg_arr {w : World} {r : Reach} {b : Nat} {t e : TypeId} {n : Nat} {v : Value} {cs : List Value} (hs : Try.prog.underlying t = some (.array n e)) (hv : Value.okWide Try.prog w r b t v) (hc : v.cells.toList = cs) : v = .agg cs.toArray := by
  simp only [Value.okWide, hs] at hv
  obtain ⟨c, rfl, _⟩ := hv
  subst hc
  simp [Value.cells]
theorem open_pair {H : Type} {enc : TypeId × Value → H} {w : World} {base : Nat} {spare : Nat → Bool} {held : Bool} {fuel : Nat} {c0 c1 : Value} {x : DataW H × List MemPlace} (h : DataW.trod enc Try.prog w base spare held fuel 69 [c0, c1] = some x) :
    ∃ a b : Int, c0 = .int .i64 a ∧ c1 = .int .i64 b := by
  obtain ⟨xs, m, _, _, hl, hx, hi⟩ := DataW.trod_array Try.underlying69 h
  have hC : Try.prog.cellsOf 2 = 1 := by kernel_rfl
  have h0 := hi 0 (by decide)
  have h1 := hi 1 (by decide)
  rw [hC] at h0 h1
  rw [List.getElem?_eq_getElem (by omega)] at h0 h1
  obtain ⟨a, ea, _⟩ := DataW.trod_int Try.underlying2 h0
  obtain ⟨b, eb, _⟩ := DataW.trod_int Try.underlying2 h1
  simp at ea eb
  exact ⟨a, b, ea, eb⟩
theorem open_pairs {H : Type} {enc : TypeId × Value → H} {w : World} {base : Nat} {spare : Nat → Bool} {held : Bool} {fuel : Nat} {cs : List Value} {x : DataW H × List MemPlace} (h : DataW.trod enc Try.prog w base spare held fuel 70 cs = some x) :
    ∃ ps : List (Int × Int), cs = ps.flatMap numC ∧ ps.length = 3 := by
  obtain ⟨xs, m, _, _, hl, hx, hi⟩ := DataW.trod_array Try.underlying70 h
  have hC : Try.prog.cellsOf 69 = 2 := by kernel_rfl
  have hl6 : cs.length = 6 := hl.trans (by kernel_rfl)
  have h0 := hi 0 (by decide)
  have h1 := hi 1 (by decide)
  have h2 := hi 2 (by decide)
  rw [hC] at h0 h1 h2
  rw [List.getElem?_eq_getElem (by omega)] at h0 h1 h2
  match cs, hl6 with
  | [c0, c1, c2, c3, c4, c5], _ =>
    simp only [Nat.zero_mul, List.drop_zero, List.take_succ_cons, List.take_zero, List.drop_succ_cons, Nat.one_mul] at h0 h1 h2
    obtain ⟨a0, b0, rfl, rfl⟩ := open_pair h0
    obtain ⟨a1, b1, rfl, rfl⟩ := open_pair h1
    obtain ⟨a2, b2, rfl, rfl⟩ := open_pair h2
    exact ⟨[(a0, b0), (a1, b1), (a2, b2)], rfl, rfl⟩
end Go.Proofs.Ytbihphclmdokeaa
