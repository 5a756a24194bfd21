/-
  The row of StreamCopies: for every input the law returns true, and each argument reads as it did.
-/
import Derived.Test.YtbihphclmdokeaaAI
import Derived.Test.YtbihphclmdokeaaRb14
set_option linter.all false
set_option maxRecDepth 100000
namespace Go.Proofs.Ytbihphclmdokeaa
open Go.Wst Go.Wst.Sm
open Go.ChangeShapes Go.WideShapes Go.ChangeAt Go.RowKit Go.Deep

theorem streamCopies_lifted (os : Os) (started : os.Started) (H : Type) (enc : TypeId × Value → H) :
    ReturnsInHanded {} Try.checked os 12 .any (Rows.streamCopiesSpec.pre6 enc Try.prog Try.f12 Rows.streamCopiesRow.domain false) (Rows.streamCopiesSpec.post enc Try.prog Try.f12 false true false false) := by
  refine returnsInHanded_of_change (C := Try.checked) ownK started (by kernel_rfl) Try.func12
    (ChangeSpec.witness6 (enc := enc) (C := Try.checked) false ⟨#[], #[(.int .i64 0), (.slice none 0 0), (.agg #[(.int .i64 0), (.int .i64 0), (.int .i64 0), (.int .i64 0), (.int .i64 0), (.int .i64 0), (.int .i64 0), (.int .i64 0), (.int .i64 0), (.int .i64 0)])], []⟩ 8 (by kernel_rfl) (by kernel_rfl) (by kernel_rfl) (by kernel_rfl)) ?_
  intro W base args ds gs before hval0 hW hcnd _
  have hval : ∀ (j : Nat) t v, Try.f12.params[j]? = some t → args[j]? = some v → Value.okWide Try.prog W .any base t v := hval0
  have hW' := hW
  obtain ⟨p, q, hA0, hV, rfl, hfz, hnd⟩ := hW
  have hA : DataW.TrodAll enc Try.prog W 0 (fun _ => true) true Try.f12.params.toList args.toList ds p := hA0
  rw [Try.params12] at hA hval
  obtain ⟨v0, v1, v2, d0, d1, d2, p0, p1, p2, rfl, rfl, rfl, ⟨f0, h0⟩, ⟨f1, h1⟩, ⟨f2, h2⟩⟩ := trodAll_three hA
  obtain ⟨n0, hc0, _, hw0⟩ := DataW.trod_int Try.underlying3 h0
  obtain rfl := int_of Try.underlying3 (hval 0 _ v0 rfl rfl) hc0
  obtain ⟨A1, n1, c1, xs1, hxs1, hl1, hrow1, hIn1, hAs1, hn1⟩ := open_acts h1
  obtain rfl := slice_of Try.underlying60 (hval 1 _ v1 rfl rfl) hxs1
  haveI : Row W A1 (xs1.flatMap actC) := ⟨hrow1⟩
  obtain ⟨x2, hx2⟩ := open_act _ _ _ h2
  obtain rfl := agg_of Try.underlying57 (hval 2 _ v2 rfl rfl) hx2
  refine Calls.mono (StreamCopies_ok n0 A1 n1 c1 xs1 x2 W hl1 hAs1 hn1) fun e W' ⟨v, he, hv, hk⟩ => ⟨v, he, ?_⟩
  subst hv
  exact law_post (tb := 4) laidK hW' rfl rfl Try.underlying4 (fun hg => by subst hg; exact ⟨rfl, rfl, rfl⟩) (by kernel_rfl) hk.keep
theorem streamCopies_holds : Rows.StreamCopiesSaid :=
  OpenClaim.holds_of_wide 12 Try.f12 rfl rfl rfl rfl rfl rfl rfl ⟨rfl, rfl, rfl, rfl, rfl⟩ rfl rfl rfl rfl rfl (by kernel_rfl) Try.func12 (by kernel_rfl)
    (of_decide_eq_true (by kernel_rfl)) (by unfold Func.isWrapper; first | (rw [if_pos (by decide +kernel)]; kernel_rfl) | (rw [if_neg (by decide +kernel)]; exact ⟨rfl, rfl⟩))
    (fun os started H enc _ => streamCopies_lifted os started H enc)
end Go.Proofs.Ytbihphclmdokeaa
