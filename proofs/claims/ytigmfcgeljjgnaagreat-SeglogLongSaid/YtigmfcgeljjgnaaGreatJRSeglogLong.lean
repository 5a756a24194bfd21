/-
  The row of SeglogLong and its tied card: for every input the law returns true, and each argument reads as it did; the variables that the row lists are tied to the program's text.
-/
import Derived.Test.YtigmfcgeljjgnaaGreatJHT
import Derived.Test.YtigmfcgeljjgnaaGreatJ20
set_option linter.all false
set_option maxRecDepth 100000
namespace Go.Proofs.YtigmfcgeljjgnaaGreat
open Go.Wst Go.Wst.Dm Go.Wst.Sg
open Go.ChangeShapes Go.WideShapes Go.ChangeAt Go.RowKit Go.Deep
theorem seglogLong_lifted (os : Os) (started : os.Started) (H : Type) (enc : TypeId × Value → H) :
    ReturnsInHanded {} Tryz.checked os 4 .any (Rows.seglogLongSpec.pre6 enc Tryz.prog Tryz.f4 Rows.seglogLongRow.domain false) (Rows.seglogLongSpec.post enc Tryz.prog Tryz.f4 false true false false) := by
  refine returnsInHanded_of_change (C := Tryz.checked) ownK started (by kernel_rfl) Tryz.func4
    (ChangeSpec.witness6 (enc := enc) (C := Tryz.checked) false ⟨#[], #[], []⟩ 8 (by kernel_rfl) (by kernel_rfl) (by kernel_rfl) (by kernel_rfl)) ?_
  intro W base args ds gs before hval0 hW hcnd _
  have hval : ∀ (j : Nat) t v, Tryz.f4.params[j]? = some t → args[j]? = some v → Value.okWide Tryz.prog W .any base t v := hval0
  have hW' := hW
  obtain ⟨p, q, hA0, hV, rfl, hfz, hnd⟩ := hW
  have hA : DataW.TrodAll enc Tryz.prog W 0 (fun _ => true) true Tryz.f4.params.toList args.toList ds p := hA0
  rw [Tryz.params4] at hA hval
  obtain ⟨rfl, rfl, rfl⟩ := trodAll_none hA
  refine Calls.mono (seglogLong_ok W) fun e W' ⟨v, he, hv, hk⟩ => ⟨v, he, ?_⟩
  subst hv
  exact law_post (tb := 4) laidK hW' rfl rfl Tryz.underlying4 (fun hg => by subst hg; exact ⟨rfl, rfl, rfl⟩) (by kernel_rfl) hk.keep
theorem seglogLong_holds : Rows.SeglogLongSaid :=
  OpenClaim.holds_of_wide 4 Tryz.f4 rfl rfl rfl rfl rfl rfl rfl ⟨rfl, rfl, rfl, rfl, rfl⟩ rfl rfl rfl rfl rfl (by kernel_rfl) Tryz.func4 (by kernel_rfl)
    (of_decide_eq_true (by kernel_rfl)) (by unfold Func.isWrapper; first | (rw [if_pos (by decide +kernel)]; kernel_rfl) | (rw [if_neg (by decide +kernel)]; exact ⟨rfl, rfl⟩))
    (fun os started H enc _ => seglogLong_lifted os started H enc)
end Go.Proofs.YtigmfcgeljjgnaaGreat
