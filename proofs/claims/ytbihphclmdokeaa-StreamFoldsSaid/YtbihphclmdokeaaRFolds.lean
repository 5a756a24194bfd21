/-
  The row of StreamFolds.
-/
import Derived.Test.YtbihphclmdokeaaJ
import Derived.Test.YtbihphclmdokeaaXz
set_option maxRecDepth 100000
set_option linter.all false
namespace Go.Proofs.Ytbihphclmdokeaa
open Go.Wst Go.Wst.Sm
open Go.ChangeShapes Go.WideShapes Go.ChangeAt Go.RowKit Go.Deep

theorem own14 : ownKnob Try.prog.godebug = none := by kernel_rfl
theorem laid14 : laidOutB Try.prog = true := by kernel_rfl
/-- A rule that came in. -/
theorem open_rule {H : Type} {enc : TypeId × Value → H} {w : World} {base : Nat} {spare : Nat → Bool} {held : Bool} (fuel : Nat) (cs : List Value) (x : DataW H × List MemPlace) (h : DataW.trod enc Try.prog w base spare held fuel 23 cs = some x) :
    ∃ r : Rule, cs = ruleC r ∧ In64 r.id ∧ In64 r.inp ∧ In64 r.out ∧ In64 r.mul ∧ In64 r.add := by
  have hl : cs.length = 5 := (trod_field Try.underlying23 h).1.trans (by kernel_rfl)
  have ha := trod_at (pl := [(0, 1, 3), (1, 1, 3), (2, 1, 3), (3, 1, 2), (4, 1, 2)]) ⟨_, Try.underlying23, by kernel_rfl⟩ h
  match cs, hl with
  | [c0, c1, c2, c3, c4], _ =>
    obtain ⟨_, _, h0⟩ := ha 0 _ _ _ rfl
    obtain ⟨_, _, h1⟩ := ha 1 _ _ _ rfl
    obtain ⟨_, _, h2⟩ := ha 2 _ _ _ rfl
    obtain ⟨_, _, h3⟩ := ha 3 _ _ _ rfl
    obtain ⟨_, _, h4⟩ := ha 4 _ _ _ rfl
    obtain ⟨n0, e0, _, w0⟩ := DataW.trod_int Try.underlying3 h0
    obtain ⟨n1, e1, _, w1⟩ := DataW.trod_int Try.underlying3 h1
    obtain ⟨n2, e2, _, w2⟩ := DataW.trod_int Try.underlying3 h2
    obtain ⟨n3, e3, _, w3⟩ := DataW.trod_int Try.underlying2 h3
    obtain ⟨n4, e4, _, w4⟩ := DataW.trod_int Try.underlying2 h4
    simp at e0 e1 e2 e3 e4
    subst e0; subst e1; subst e2; subst e3; subst e4
    exact ⟨⟨n0, n1, n2, n3, n4⟩, rfl, wf_i64 w0, wf_i64 w1, wf_i64 w2, wf_i64 w3, wf_i64 w4⟩
/-- Numbers that came in. -/
theorem open_nums {H : Type} {enc : TypeId × Value → H} {w : World} {base : Nat} {spare : Nat → Bool} {held : Bool} {fuel : Nat} {cs : List Value} {x : DataW H × List MemPlace} (h : DataW.trod enc Try.prog w base spare held fuel 24 cs = some x) :
    ∃ (A : Option Addr) (n c : Nat) (xs : List Int), cs = [.slice A n c] ∧ xs.length = n ∧ RowP w A (ints xs) ∧ (∀ a ∈ xs, In64 a) ∧ (A.isSome = true ∨ n = 0) ∧ n ≤ 9223372036854775807 := by
  have e : ∀ xs : List Int, ints xs = xs.flatMap (fun x => [Value.int .i64 x]) := fun xs => by
    unfold ints
    induction xs with
    | nil => rfl
    | cons x xs ih => simp [ih]
  simp only [e]
  refine open_rows (Q := In64) (fun _ => rfl) Try.underlying24 (by kernel_rfl) (fun fuel cs x h => ?_) h
  obtain ⟨n, rfl, _, hw⟩ := DataW.trod_int Try.underlying2 h
  exact ⟨n, rfl, wf_i64 hw⟩
/-- A value by its cells: a struct. -/
theorem agg_of {w : World} {r : Reach} {b : Nat} {t : TypeId} {fs : Array Field} {v : Value} {cs : List Value} (hs : Try.prog.underlying t = some (.struct fs)) (hv : Value.okWide Try.prog w r b t v) (hc : v.cells.toList = cs) : v = .agg cs.toArray := by
  obtain ⟨c, rfl, _⟩ := okWide_struct hs hv
  subst hc
  simp [Value.cells]
theorem slice_of {w : World} {r : Reach} {b : Nat} {t e : TypeId} {v u : Value} (hs : Try.prog.underlying t = some (.slice e)) (hv : Value.okWide Try.prog w r b t v) (hc : v.cells.toList = [u]) : v = u := by
  obtain ⟨a, l, c, rfl⟩ := okWide_slice hs hv
  simpa [Value.cells] using hc

theorem streamFolds_lifted (os : Os) (started : os.Started) (H : Type) (enc : TypeId × Value → H) :
    ReturnsInHanded {} Try.checked os 3 .any (Rows.streamFoldsSpec.pre6 enc Try.prog Try.f3 Rows.streamFoldsRow.domain false) (Rows.streamFoldsSpec.post enc Try.prog Try.f3 false true false false) := by
  refine returnsInHanded_of_change (C := Try.checked) own14 started (by kernel_rfl) Try.func3
    (ChangeSpec.witness6 (enc := enc) (C := Try.checked) false ⟨#[], #[.agg #[.int .i64 0, .int .i64 0, .int .i64 0, .int .i64 0, .int .i64 0], .slice none 0 0], []⟩ 8 (by kernel_rfl) (by kernel_rfl) (by kernel_rfl) (by kernel_rfl)) ?_
  intro W base args ds gs before hval0 hW hcnd _
  have hval : ∀ (j : Nat) t v, Try.f3.params[j]? = some t → args[j]? = some v → Value.okWide Try.prog W .any base t v := hval0
  have hW' := hW
  obtain ⟨p, q, hA0, hV, rfl, hfz, hnd⟩ := hW
  have hA : DataW.TrodAll enc Try.prog W 0 (fun _ => true) true Try.f3.params.toList args.toList ds p := hA0
  rw [Try.params3] at hA hval
  obtain ⟨v0, v1, d0, d1, p0, p1, rfl, rfl, rfl, ⟨f0, h0⟩, ⟨f1, h1⟩⟩ := trodAll_two hA
  obtain ⟨r, hr, _⟩ := open_rule _ _ _ h0
  obtain ⟨A, n, c, xs, hxs, hl, hrow, hIn, hAs, hn⟩ := open_nums h1
  obtain rfl := agg_of Try.underlying23 (hval 0 _ v0 rfl rfl) hr
  obtain rfl := slice_of Try.underlying24 (hval 1 _ v1 rfl rfl) hxs
  haveI : Row W A (ints xs) := ⟨hrow⟩
  refine Calls.mono (StreamFolds_ok r A n c xs W hl hIn hAs hn) fun e W' ⟨v, he, hv, hk⟩ => ⟨v, he, ?_⟩
  subst hv
  exact law_post (tb := 4) laid14 hW' rfl rfl Try.underlying4 (fun hg => by subst hg; exact ⟨rfl, rfl, rfl⟩) (by kernel_rfl) hk.keep
theorem streamFolds_holds : Rows.StreamFoldsSaid :=
  OpenClaim.holds_of_wide 3 Try.f3 rfl rfl rfl rfl rfl rfl rfl ⟨rfl, rfl, rfl, rfl, rfl⟩ rfl rfl rfl rfl rfl (by kernel_rfl) Try.func3 (by kernel_rfl)
    (of_decide_eq_true (by kernel_rfl)) (by unfold Func.isWrapper; first | (rw [if_pos (by decide +kernel)]; kernel_rfl) | (rw [if_neg (by decide +kernel)]; exact ⟨rfl, rfl⟩))
    (fun os started H enc _ => streamFolds_lifted os started H enc)
end Go.Proofs.Ytbihphclmdokeaa
