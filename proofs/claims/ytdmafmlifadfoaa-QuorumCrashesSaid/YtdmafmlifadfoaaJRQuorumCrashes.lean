/-
  The row of QuorumCrashes: for every input the law returns true, and each argument reads as it did.
-/
import Derived.Test.YtdmafmlifadfoaaJ17
import Derived.Test.YtdmafmlifadfoaaJRb06
set_option linter.all false
set_option maxRecDepth 100000
namespace Go.Proofs.Ytdmafmlifadfoaa
open Go.Wst Go.Wst.Qm
open Go.ChangeShapes Go.WideShapes Go.ChangeAt Go.RowKit Go.Deep

theorem quorumCrashes_lifted (os : Os) (started : os.Started) (H : Type) (enc : TypeId × Value → H) :
    ReturnsInHanded {} Try.checked os 10 .any (Rows.quorumCrashesSpec.pre6 enc Try.prog Try.f10 Rows.quorumCrashesRow.domain false) (Rows.quorumCrashesSpec.post enc Try.prog Try.f10 false true false false) := by
  refine returnsInHanded_of_change (C := Try.checked) ownK started (by kernel_rfl) Try.func10
    (ChangeSpec.witness6 (enc := enc) (C := Try.checked) false ⟨#[], #[(.int .i64 0), (.slice none 0 0), (.int .i64 0), (.slice none 0 0)], []⟩ 8 (by kernel_rfl) (by kernel_rfl) (by kernel_rfl) (by kernel_rfl)) ?_
  intro W base args ds gs before hval0 hW hcnd _
  have hval : ∀ (j : Nat) t v, Try.f10.params[j]? = some t → args[j]? = some v → Value.okWide Try.prog W .any base t v := hval0
  have hW' := hW
  obtain ⟨p, q, hA0, hV, rfl, hfz, hnd⟩ := hW
  have hA : DataW.TrodAll enc Try.prog W 0 (fun _ => true) true Try.f10.params.toList args.toList ds p := hA0
  rw [Try.params10] at hA hval
  obtain ⟨v0, v1, v2, v3, d0, d1, d2, d3, p0, p1, p2, p3, rfl, rfl, rfl, ⟨f0, h0⟩, ⟨f1, h1⟩, ⟨f2, h2⟩, ⟨f3, h3⟩⟩ := trodAll_four hA
  obtain ⟨n0, hc0, _, hw0⟩ := DataW.trod_int Try.underlying3 h0
  obtain rfl := int_of Try.underlying3 (hval 0 _ v0 rfl rfl) hc0
  obtain ⟨A1, n1, c1, xs1, hxs1, hl1, hrow1, hIn1, hAs1, hn1⟩ := open_picks h1
  obtain rfl := slice_of Try.underlying22 (hval 1 _ v1 rfl rfl) hxs1
  haveI : Row W A1 (xs1.flatMap pkC) := ⟨hrow1⟩
  obtain ⟨n2, hc2, _, hw2⟩ := DataW.trod_int Try.underlying3 h2
  obtain rfl := int_of Try.underlying3 (hval 2 _ v2 rfl rfl) hc2
  obtain ⟨A3, n3, c3, xs3, hxs3, hl3, hrow3, hIn3, hAs3, hn3⟩ := open_picks h3
  obtain rfl := slice_of Try.underlying22 (hval 3 _ v3 rfl rfl) hxs3
  haveI : Row W A3 (xs3.flatMap pkC) := ⟨hrow3⟩
  refine Calls.mono (crashes_ok n0 A1 n1 c1 xs1 n2 A3 n3 c3 xs3 W hl1 hl3) fun e W' ⟨v, he, hv, hk⟩ => ⟨v, he, ?_⟩
  subst hv
  exact law_post (tb := 4) laidK hW' rfl rfl Try.underlying4 (fun hg => by subst hg; exact ⟨rfl, rfl, rfl⟩) (by kernel_rfl) hk.keep
theorem quorumCrashes_holds : Rows.QuorumCrashesSaid :=
  OpenClaim.holds_of_wide 10 Try.f10 rfl rfl rfl rfl rfl rfl rfl ⟨rfl, rfl, rfl, rfl, rfl⟩ rfl rfl rfl rfl rfl (by kernel_rfl) Try.func10 (by kernel_rfl)
    (of_decide_eq_true (by kernel_rfl)) (by unfold Func.isWrapper; first | (rw [if_pos (by decide +kernel)]; kernel_rfl) | (rw [if_neg (by decide +kernel)]; exact ⟨rfl, rfl⟩))
    (fun os started H enc _ => quorumCrashes_lifted os started H enc)
end Go.Proofs.Ytdmafmlifadfoaa
