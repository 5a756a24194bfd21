/-
  The row of MetaRises: for every input the law returns true, and each argument reads as it did.
-/
import Derived.Test.YtnjpladlfiaojaaAJ
import Derived.Test.YtnjpladlfiaojaaRb10
set_option linter.all false
set_option maxRecDepth 100000
namespace Go.Proofs.Ytnjpladlfiaojaa
open Go.Wst Go.Wst.Ct
open Go.ChangeShapes Go.WideShapes Go.ChangeAt Go.RowKit Go.Deep

theorem metaRises_lifted (os : Os) (started : os.Started) (H : Type) (enc : TypeId × Value → H) :
    ReturnsInHanded {} Try.checked os 3 .any (Rows.metaRisesSpec.pre6 enc Try.prog Try.f3 Rows.metaRisesRow.domain false) (Rows.metaRisesSpec.post enc Try.prog Try.f3 false true false false) := by
  refine returnsInHanded_of_change (C := Try.checked) ownK started (by kernel_rfl) Try.func3
    (ChangeSpec.witness6 (enc := enc) (C := Try.checked) false ⟨#[], #[(.slice none 0 0)], []⟩ 8 (by kernel_rfl) (by kernel_rfl) (by kernel_rfl) (by kernel_rfl)) ?_
  intro W base args ds gs before hval0 hW hcnd _
  have hval : ∀ (j : Nat) t v, Try.f3.params[j]? = some t → args[j]? = some v → Value.okWide Try.prog W .any base t v := hval0
  have hW' := hW
  obtain ⟨p, q, hA0, hV, rfl, hfz, hnd⟩ := hW
  have hA : DataW.TrodAll enc Try.prog W 0 (fun _ => true) true Try.f3.params.toList args.toList ds p := hA0
  rw [Try.params3] at hA hval
  obtain ⟨v0, d0, rfl, rfl, ⟨f0, h0⟩⟩ := trodAll_one hA
  obtain ⟨A0, n0, c0, xs0, hxs0, hl0, hrow0, hIn0, hAs0, hn0⟩ := open_acts h0
  obtain rfl := slice_of Try.underlying22 (hval 0 _ v0 rfl rfl) hxs0
  haveI : Row W A0 (xs0.flatMap actC) := ⟨hrow0⟩
  refine Calls.mono (metaRises_ok A0 n0 c0 xs0 W (fun j h => (hIn0 _ (List.getElem_mem h)).1) (fun j h => (hIn0 _ (List.getElem_mem h)).2.1) hl0 hn0) fun e W' ⟨v, he, hv, hk⟩ => ⟨v, he, ?_⟩
  subst hv
  exact law_post (tb := 4) laidK hW' rfl rfl Try.underlying4 (fun hg => by subst hg; exact ⟨rfl, rfl, rfl⟩) (by kernel_rfl) hk.keep
theorem metaRises_holds : Rows.MetaRisesSaid :=
  OpenClaim.holds_of_wide 3 Try.f3 rfl rfl rfl rfl rfl rfl rfl ⟨rfl, rfl, rfl, rfl, rfl⟩ rfl rfl rfl rfl rfl (by kernel_rfl) Try.func3 (by kernel_rfl)
    (of_decide_eq_true (by kernel_rfl)) (by unfold Func.isWrapper; first | (rw [if_pos (by decide +kernel)]; kernel_rfl) | (rw [if_neg (by decide +kernel)]; exact ⟨rfl, rfl⟩))
    (fun os started H enc _ => metaRises_lifted os started H enc)
end Go.Proofs.Ytnjpladlfiaojaa
