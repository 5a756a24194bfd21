/-
  The row of MetaTxn: for every input the law returns true, and each argument reads as it did.
-/
import Derived.Test.YtnjpladlfiaojaaAD
import Derived.Test.YtnjpladlfiaojaaRb10
set_option linter.all false
set_option maxRecDepth 100000
namespace Go.Proofs.Ytnjpladlfiaojaa
open Go.Wst Go.Wst.Ct
open Go.ChangeShapes Go.WideShapes Go.ChangeAt Go.RowKit Go.Deep

theorem metaTxn_lifted (os : Os) (started : os.Started) (H : Type) (enc : TypeId × Value → H) :
    ReturnsInHanded {} Try.checked os 5 .any (Rows.metaTxnSpec.pre6 enc Try.prog Try.f5 Rows.metaTxnRow.domain false) (Rows.metaTxnSpec.post enc Try.prog Try.f5 false true false false) := by
  refine returnsInHanded_of_change (C := Try.checked) ownK started (by kernel_rfl) Try.func5
    (ChangeSpec.witness6 (enc := enc) (C := Try.checked) false ⟨#[], #[(.slice none 0 0), (.agg #[(.bool false), (.int .i64 0)]), (.slice none 0 0)], []⟩ 8 (by kernel_rfl) (by kernel_rfl) (by kernel_rfl) (by kernel_rfl)) ?_
  intro W base args ds gs before hval0 hW hcnd _
  have hval : ∀ (j : Nat) t v, Try.f5.params[j]? = some t → args[j]? = some v → Value.okWide Try.prog W .any base t v := hval0
  have hW' := hW
  obtain ⟨p, q, hA0, hV, rfl, hfz, hnd⟩ := hW
  have hA : DataW.TrodAll enc Try.prog W 0 (fun _ => true) true Try.f5.params.toList args.toList ds p := hA0
  rw [Try.params5] at hA hval
  obtain ⟨v0, v1, v2, d0, d1, d2, p0, p1, p2, rfl, rfl, rfl, ⟨f0, h0⟩, ⟨f1, h1⟩, ⟨f2, h2⟩⟩ := trodAll_three hA
  obtain ⟨A0, n0, c0, xs0, hxs0, hl0, hrow0, hIn0, hAs0, hn0⟩ := open_ints h0
  obtain rfl := slice_of Try.underlying40 (hval 0 _ v0 rfl rfl) hxs0
  haveI : Row W A0 (ints xs0) := ⟨hrow0⟩
  obtain ⟨cm1, off1, hx1⟩ := open_ending _ _ _ h1
  obtain rfl := agg_of Try.underlying59 (hval 1 _ v1 rfl rfl) hx1
  obtain ⟨A2, n2, c2, xs2, hxs2, hl2, hrow2, hIn2, hAs2, hn2⟩ := open_ints h2
  obtain rfl := slice_of Try.underlying40 (hval 2 _ v2 rfl rfl) hxs2
  haveI : Row W A2 (ints xs2) := ⟨hrow2⟩
  refine Calls.mono (metaTxn_ok A0 n0 c0 xs0 cm1 off1 A2 n2 c2 xs2 W hl0 hl2 hn0 hn2) fun e W' ⟨v, he, hv, hk⟩ => ⟨v, he, ?_⟩
  subst hv
  exact law_post (tb := 4) laidK hW' rfl rfl Try.underlying4 (fun hg => by subst hg; exact ⟨rfl, rfl, rfl⟩) (by kernel_rfl) hk.keep
theorem metaTxn_holds : Rows.MetaTxnSaid :=
  OpenClaim.holds_of_wide 5 Try.f5 rfl rfl rfl rfl rfl rfl rfl ⟨rfl, rfl, rfl, rfl, rfl⟩ rfl rfl rfl rfl rfl (by kernel_rfl) Try.func5 (by kernel_rfl)
    (of_decide_eq_true (by kernel_rfl)) (by unfold Func.isWrapper; first | (rw [if_pos (by decide +kernel)]; kernel_rfl) | (rw [if_neg (by decide +kernel)]; exact ⟨rfl, rfl⟩))
    (fun os started H enc _ => metaTxn_lifted os started H enc)
end Go.Proofs.Ytnjpladlfiaojaa
