/-
  The row of QuorumLogs: for every input the law returns true, and each argument reads as it did.
-/
import Derived.Test.YtdmafmlifadfoaaJ18
import Derived.Test.YtdmafmlifadfoaaJRb06
set_option linter.all false
set_option maxRecDepth 100000
namespace Go.Proofs.Ytdmafmlifadfoaa
open Go.Wst Go.Wst.Qm
open Go.ChangeShapes Go.WideShapes Go.ChangeAt Go.RowKit Go.Deep

theorem quorumLogs_lifted (os : Os) (started : os.Started) (H : Type) (enc : TypeId × Value → H) :
    ReturnsInHanded {} Try.checked os 8 .any (Rows.quorumLogsSpec.pre6 enc Try.prog Try.f8 Rows.quorumLogsRow.domain false) (Rows.quorumLogsSpec.post enc Try.prog Try.f8 false true false false) := by
  refine returnsInHanded_of_change (C := Try.checked) ownK started (by kernel_rfl) Try.func8
    (ChangeSpec.witness6 (enc := enc) (C := Try.checked) false ⟨#[], #[(.bool false), (.slice none 0 0), (.slice none 0 0)], []⟩ 8 (by kernel_rfl) (by kernel_rfl) (by kernel_rfl) (by kernel_rfl)) ?_
  intro W base args ds gs before hval0 hW hcnd _
  have hval : ∀ (j : Nat) t v, Try.f8.params[j]? = some t → args[j]? = some v → Value.okWide Try.prog W .any base t v := hval0
  have hW' := hW
  obtain ⟨p, q, hA0, hV, rfl, hfz, hnd⟩ := hW
  have hA : DataW.TrodAll enc Try.prog W 0 (fun _ => true) true Try.f8.params.toList args.toList ds p := hA0
  rw [Try.params8] at hA hval
  obtain ⟨v0, v1, v2, d0, d1, d2, p0, p1, p2, rfl, rfl, rfl, ⟨f0, h0⟩, ⟨f1, h1⟩, ⟨f2, h2⟩⟩ := trodAll_three hA
  obtain ⟨b0, hc0, _⟩ := DataW.trod_bool Try.underlying4 h0
  obtain rfl := bool_of Try.underlying4 (hval 0 _ v0 rfl rfl) hc0
  obtain ⟨A1, n1, c1, xs1, hxs1, hl1, hrow1, hIn1, hAs1, hn1⟩ := open_nums h1
  obtain rfl := slice_of Try.underlying30 (hval 1 _ v1 rfl rfl) hxs1
  haveI : Row W A1 (ints xs1) := ⟨hrow1⟩
  obtain ⟨A2, n2, c2, xs2, hxs2, hl2, hrow2, hIn2, hAs2, hn2⟩ := open_ints h2
  obtain rfl := slice_of Try.underlying31 (hval 2 _ v2 rfl rfl) hxs2
  haveI : Row W A2 (ints xs2) := ⟨hrow2⟩
  refine Calls.mono (logs_ok b0 A1 n1 c1 xs1 A2 n2 c2 xs2 W hl1 hl2 hIn1) fun e W' ⟨v, he, hv, hk⟩ => ⟨v, he, ?_⟩
  subst hv
  exact law_post (tb := 4) laidK hW' rfl rfl Try.underlying4 (fun hg => by subst hg; exact ⟨rfl, rfl, rfl⟩) (by kernel_rfl) hk.keep
theorem quorumLogs_holds : Rows.QuorumLogsSaid :=
  OpenClaim.holds_of_wide 8 Try.f8 rfl rfl rfl rfl rfl rfl rfl ⟨rfl, rfl, rfl, rfl, rfl⟩ rfl rfl rfl rfl rfl (by kernel_rfl) Try.func8 (by kernel_rfl)
    (of_decide_eq_true (by kernel_rfl)) (by unfold Func.isWrapper; first | (rw [if_pos (by decide +kernel)]; kernel_rfl) | (rw [if_neg (by decide +kernel)]; exact ⟨rfl, rfl⟩))
    (fun os started H enc _ => quorumLogs_lifted os started H enc)
end Go.Proofs.Ytdmafmlifadfoaa
