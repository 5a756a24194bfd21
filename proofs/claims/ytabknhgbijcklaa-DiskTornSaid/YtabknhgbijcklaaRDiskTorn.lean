/-
  The row of DiskTorn: for every input the law returns true, and each argument reads as it did.
-/
import Derived.Test.YtabknhgbijcklaaX
import Derived.Test.YtabknhgbijcklaaRc03
set_option linter.all false
set_option maxRecDepth 100000
namespace Go.Proofs.Ytabknhgbijcklaa
open Go.Wst Go.Wst.Dm
open Go.ChangeShapes Go.WideShapes Go.ChangeAt Go.RowKit Go.Deep

theorem diskTorn_lifted (os : Os) (started : os.Started) (H : Type) (enc : TypeId × Value → H) :
    ReturnsInHanded {} Try.checked os 9 .any (Rows.diskTornSpec.pre6 enc Try.prog Try.f9 Rows.diskTornRow.domain false) (Rows.diskTornSpec.post enc Try.prog Try.f9 false true false false) := by
  refine returnsInHanded_of_change (C := Try.checked) ownK started (by kernel_rfl) Try.func9
    (ChangeSpec.witness6 (enc := enc) (C := Try.checked) false ⟨#[], #[(.slice none 0 0), (.slice none 0 0), (.agg #[(.int .i64 0), (.int .i64 0)])], []⟩ 8 (by kernel_rfl) (by kernel_rfl) (by kernel_rfl) (by kernel_rfl)) ?_
  intro W base args ds gs before hval0 hW hcnd _
  have hval : ∀ (j : Nat) t v, Try.f9.params[j]? = some t → args[j]? = some v → Value.okWide Try.prog W .any base t v := hval0
  have hW' := hW
  obtain ⟨p, q, hA0, hV, rfl, hfz, hnd⟩ := hW
  have hA : DataW.TrodAll enc Try.prog W 0 (fun _ => true) true Try.f9.params.toList args.toList ds p := hA0
  rw [Try.params9] at hA hval
  obtain ⟨v0, v1, v2, d0, d1, d2, p0, p1, p2, rfl, rfl, rfl, ⟨f0, h0⟩, ⟨f1, h1⟩, ⟨f2, h2⟩⟩ := trodAll_three hA
  obtain ⟨A0, n0, c0, xs0, hxs0, hl0, hrow0, hIn0, hAs0, hn0⟩ := open_bytes3 h0
  obtain rfl := slice_of Try.underlying29 (hval 0 _ v0 rfl rfl) hxs0
  haveI : Row W A0 (bytesC xs0) := ⟨hrow0⟩
  obtain ⟨A1, n1, c1, xs1, hxs1, hl1, hrow1, hIn1, hAs1, hn1⟩ := open_bytes3 h1
  obtain rfl := slice_of Try.underlying29 (hval 1 _ v1 rfl rfl) hxs1
  haveI : Row W A1 (bytesC xs1) := ⟨hrow1⟩
  obtain ⟨kp2, tn2, hx2, hkp2, htn2⟩ := open_crash _ _ _ h2
  obtain rfl := agg_of Try.underlying38 (hval 2 _ v2 rfl rfl) hx2
  refine Calls.mono (diskTorn_ok A0 A1 n0 c0 n1 c1 xs0 xs1 kp2 tn2 W hl0 hl1 hIn0 hIn1 hkp2 htn2 hn0 hn1) fun e W' ⟨v, he, hv, hk⟩ => ⟨v, he, ?_⟩
  subst hv
  exact law_post (tb := 4) laidK hW' rfl rfl Try.underlying4 (fun hg => by subst hg; exact ⟨rfl, rfl, rfl⟩) (by kernel_rfl) hk.keep
theorem diskTorn_holds : Rows.DiskTornSaid :=
  OpenClaim.holds_of_wide 9 Try.f9 rfl rfl rfl rfl rfl rfl rfl ⟨rfl, rfl, rfl, rfl, rfl⟩ rfl rfl rfl rfl rfl (by kernel_rfl) Try.func9 (by kernel_rfl)
    (of_decide_eq_true (by kernel_rfl)) (by unfold Func.isWrapper; first | (rw [if_pos (by decide +kernel)]; kernel_rfl) | (rw [if_neg (by decide +kernel)]; exact ⟨rfl, rfl⟩))
    (fun os started H enc _ => diskTorn_lifted os started H enc)
end Go.Proofs.Ytabknhgbijcklaa
