/-
  The row of QuorumBounds: for every input the law returns true, and each argument reads as it did.
-/
import Derived.Test.YtdmafmlifadfoaaJ19
import Derived.Test.YtdmafmlifadfoaaJRb06
set_option linter.all false
set_option maxRecDepth 100000
namespace Go.Proofs.Ytdmafmlifadfoaa
open Go.Wst Go.Wst.Qm
open Go.ChangeShapes Go.WideShapes Go.ChangeAt Go.RowKit Go.Deep

theorem quorumBounds_lifted (os : Os) (started : os.Started) (H : Type) (enc : TypeId × Value → H) :
    ReturnsInHanded {} Try.checked os 9 .any (Rows.quorumBoundsSpec.pre6 enc Try.prog Try.f9 Rows.quorumBoundsRow.domain false) (Rows.quorumBoundsSpec.post enc Try.prog Try.f9 false true false false) := by
  refine returnsInHanded_of_change (C := Try.checked) ownK started (by kernel_rfl) Try.func9
    (ChangeSpec.witness6 (enc := enc) (C := Try.checked) false ⟨#[], #[(.bool false)], []⟩ 8 (by kernel_rfl) (by kernel_rfl) (by kernel_rfl) (by kernel_rfl)) ?_
  intro W base args ds gs before hval0 hW hcnd _
  have hval : ∀ (j : Nat) t v, Try.f9.params[j]? = some t → args[j]? = some v → Value.okWide Try.prog W .any base t v := hval0
  have hW' := hW
  obtain ⟨p, q, hA0, hV, rfl, hfz, hnd⟩ := hW
  have hA : DataW.TrodAll enc Try.prog W 0 (fun _ => true) true Try.f9.params.toList args.toList ds p := hA0
  rw [Try.params9] at hA hval
  obtain ⟨v0, d0, rfl, rfl, ⟨f0, h0⟩⟩ := trodAll_one hA
  obtain ⟨b0, hc0, _⟩ := DataW.trod_bool Try.underlying4 h0
  obtain rfl := bool_of Try.underlying4 (hval 0 _ v0 rfl rfl) hc0
  refine Calls.mono (bounds_ok b0 W) fun e W' ⟨v, he, hv, hk⟩ => ⟨v, he, ?_⟩
  subst hv
  exact law_post (tb := 4) laidK hW' rfl rfl Try.underlying4 (fun hg => by subst hg; exact ⟨rfl, rfl, rfl⟩) (by kernel_rfl) hk.keep
theorem quorumBounds_holds : Rows.QuorumBoundsSaid :=
  OpenClaim.holds_of_wide 9 Try.f9 rfl rfl rfl rfl rfl rfl rfl ⟨rfl, rfl, rfl, rfl, rfl⟩ rfl rfl rfl rfl rfl (by kernel_rfl) Try.func9 (by kernel_rfl)
    (of_decide_eq_true (by kernel_rfl)) (by unfold Func.isWrapper; first | (rw [if_pos (by decide +kernel)]; kernel_rfl) | (rw [if_neg (by decide +kernel)]; exact ⟨rfl, rfl⟩))
    (fun os started H enc _ => quorumBounds_lifted os started H enc)
end Go.Proofs.Ytdmafmlifadfoaa
