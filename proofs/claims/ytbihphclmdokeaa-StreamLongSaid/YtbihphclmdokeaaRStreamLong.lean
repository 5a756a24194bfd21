/-
  The row of StreamLong: for every input the law returns true, and each argument reads as it did.
-/
import Derived.Test.YtbihphclmdokeaaAF
import Derived.Test.YtbihphclmdokeaaRb14
set_option linter.all false
set_option maxRecDepth 100000
namespace Go.Proofs.Ytbihphclmdokeaa
open Go.Wst Go.Wst.Sm
open Go.ChangeShapes Go.WideShapes Go.ChangeAt Go.RowKit Go.Deep

theorem streamLong_lifted (os : Os) (started : os.Started) (H : Type) (enc : TypeId × Value → H) :
    ReturnsInHanded {} Try.checked os 5 .any (Rows.streamLongSpec.pre6 enc Try.prog Try.f5 Rows.streamLongRow.domain false) (Rows.streamLongSpec.post enc Try.prog Try.f5 false true false false) := by
  refine returnsInHanded_of_change (C := Try.checked) ownK started (by kernel_rfl) Try.func5
    (ChangeSpec.witness6 (enc := enc) (C := Try.checked) false ⟨#[], #[], []⟩ 8 (by kernel_rfl) (by kernel_rfl) (by kernel_rfl) (by kernel_rfl)) ?_
  intro W base args ds gs before hval0 hW hcnd _
  have hval : ∀ (j : Nat) t v, Try.f5.params[j]? = some t → args[j]? = some v → Value.okWide Try.prog W .any base t v := hval0
  have hW' := hW
  obtain ⟨p, q, hA0, hV, rfl, hfz, hnd⟩ := hW
  have hA : DataW.TrodAll enc Try.prog W 0 (fun _ => true) true Try.f5.params.toList args.toList ds p := hA0
  rw [Try.params5] at hA hval
  obtain ⟨rfl, rfl, rfl⟩ := trodAll_none hA
  refine Calls.mono (StreamLong_ok W) fun e W' ⟨v, he, hv, hk⟩ => ⟨v, he, ?_⟩
  subst hv
  exact law_post (tb := 4) laidK hW' rfl rfl Try.underlying4 (fun hg => by subst hg; exact ⟨rfl, rfl, rfl⟩) (by kernel_rfl) hk.keep
theorem streamLong_holds : Rows.StreamLongSaid :=
  OpenClaim.holds_of_wide 5 Try.f5 rfl rfl rfl rfl rfl rfl rfl ⟨rfl, rfl, rfl, rfl, rfl⟩ rfl rfl rfl rfl rfl (by kernel_rfl) Try.func5 (by kernel_rfl)
    (of_decide_eq_true (by kernel_rfl)) (by unfold Func.isWrapper; first | (rw [if_pos (by decide +kernel)]; kernel_rfl) | (rw [if_neg (by decide +kernel)]; exact ⟨rfl, rfl⟩))
    (fun os started H enc _ => streamLong_lifted os started H enc)
end Go.Proofs.Ytbihphclmdokeaa
