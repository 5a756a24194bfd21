/-
  The row of MetaFences: for every input the law returns true, and each argument reads as it did.
-/
import Derived.Test.YtnjpladlfiaojaaAI
import Derived.Test.YtnjpladlfiaojaaRb10
set_option linter.all false
set_option maxRecDepth 100000
namespace Go.Proofs.Ytnjpladlfiaojaa
open Go.Wst Go.Wst.Ct
open Go.ChangeShapes Go.WideShapes Go.ChangeAt Go.RowKit Go.Deep

theorem metaFences_lifted (os : Os) (started : os.Started) (H : Type) (enc : TypeId × Value → H) :
    ReturnsInHanded {} Try.checked os 9 .any (Rows.metaFencesSpec.pre6 enc Try.prog Try.f9 Rows.metaFencesRow.domain false) (Rows.metaFencesSpec.post enc Try.prog Try.f9 false true false false) := by
  refine returnsInHanded_of_change (C := Try.checked) ownK started (by kernel_rfl) Try.func9
    (ChangeSpec.witness6 (enc := enc) (C := Try.checked) false ⟨#[], #[(.slice none 0 0), (.slice none 0 0)], []⟩ 8 (by kernel_rfl) (by kernel_rfl) (by kernel_rfl) (by kernel_rfl)) ?_
  intro W base args ds gs before hval0 hW hcnd _
  have hval : ∀ (j : Nat) t v, Try.f9.params[j]? = some t → args[j]? = some v → Value.okWide Try.prog W .any base t v := hval0
  have hW' := hW
  obtain ⟨p, q, hA0, hV, rfl, hfz, hnd⟩ := hW
  have hA : DataW.TrodAll enc Try.prog W 0 (fun _ => true) true Try.f9.params.toList args.toList ds p := hA0
  rw [Try.params9] at hA hval
  obtain ⟨v0, v1, d0, d1, p0, p1, rfl, rfl, rfl, ⟨f0, h0⟩, ⟨f1, h1⟩⟩ := trodAll_two hA
  obtain ⟨A0, n0, c0, xs0, hxs0, hl0, hrow0, hIn0, hAs0, hn0⟩ := open_acts h0
  obtain rfl := slice_of Try.underlying22 (hval 0 _ v0 rfl rfl) hxs0
  haveI : Row W A0 (xs0.flatMap actC) := ⟨hrow0⟩
  obtain ⟨A1, n1, c1, xs1, hxs1, hl1, hrow1, hIn1, hAs1, hn1⟩ := open_acts h1
  obtain rfl := slice_of Try.underlying22 (hval 1 _ v1 rfl rfl) hxs1
  haveI : Row W A1 (xs1.flatMap actC) := ⟨hrow1⟩
  refine Calls.mono (metaFences_ok A0 n0 c0 xs0 A1 n1 c1 xs1 W (fun j h => (hIn0 _ (List.getElem_mem h)).1) (fun j h => (hIn0 _ (List.getElem_mem h)).2.1) hl0 hl1 hn0 hn1) fun e W' ⟨v, he, hv, hk⟩ => ⟨v, he, ?_⟩
  subst hv
  exact law_post (tb := 4) laidK hW' rfl rfl Try.underlying4 (fun hg => by subst hg; exact ⟨rfl, rfl, rfl⟩) (by kernel_rfl) hk.keep
theorem metaFences_holds : Rows.MetaFencesSaid :=
  OpenClaim.holds_of_wide 9 Try.f9 rfl rfl rfl rfl rfl rfl rfl ⟨rfl, rfl, rfl, rfl, rfl⟩ rfl rfl rfl rfl rfl (by kernel_rfl) Try.func9 (by kernel_rfl)
    (of_decide_eq_true (by kernel_rfl)) (by unfold Func.isWrapper; first | (rw [if_pos (by decide +kernel)]; kernel_rfl) | (rw [if_neg (by decide +kernel)]; exact ⟨rfl, rfl⟩))
    (fun os started H enc _ => metaFences_lifted os started H enc)
end Go.Proofs.Ytnjpladlfiaojaa
