/-
  The row of DiskCrashes: for every input the law returns true, and each argument reads as it did.
-/
import Derived.Test.YtabknhgbijcklaaZ
import Derived.Test.YtabknhgbijcklaaRc03
set_option linter.all false
set_option maxRecDepth 100000
namespace Go.Proofs.Ytabknhgbijcklaa
open Go.Wst Go.Wst.Dm
open Go.ChangeShapes Go.WideShapes Go.ChangeAt Go.RowKit Go.Deep

theorem diskCrashes_lifted (os : Os) (started : os.Started) (H : Type) (enc : TypeId × Value → H) :
    ReturnsInHanded {} Try.checked os 8 .any (Rows.diskCrashesSpec.pre6 enc Try.prog Try.f8 Rows.diskCrashesRow.domain false) (Rows.diskCrashesSpec.post enc Try.prog Try.f8 false true false false) := by
  refine returnsInHanded_of_change (C := Try.checked) ownK started (by kernel_rfl) Try.func8
    (ChangeSpec.witness6 (enc := enc) (C := Try.checked) false ⟨#[], #[(.slice none 0 0), (.agg #[(.int .i64 0), (.int .i64 0)]), (.slice none 0 0)], []⟩ 8 (by kernel_rfl) (by kernel_rfl) (by kernel_rfl) (by kernel_rfl)) ?_
  intro W base args ds gs before hval0 hW hcnd _
  have hval : ∀ (j : Nat) t v, Try.f8.params[j]? = some t → args[j]? = some v → Value.okWide Try.prog W .any base t v := hval0
  have hW' := hW
  obtain ⟨p, q, hA0, hV, rfl, hfz, hnd⟩ := hW
  have hA : DataW.TrodAll enc Try.prog W 0 (fun _ => true) true Try.f8.params.toList args.toList ds p := hA0
  rw [Try.params8] at hA hval
  obtain ⟨v0, v1, v2, d0, d1, d2, p0, p1, p2, rfl, rfl, rfl, ⟨f0, h0⟩, ⟨f1, h1⟩, ⟨f2, h2⟩⟩ := trodAll_three hA
  obtain ⟨A0, n0, c0, xs0, hxs0, hl0, hrow0, hIn0, hAs0, hn0⟩ := open_things h0
  obtain rfl := slice_of Try.underlying36 (hval 0 _ v0 rfl rfl) hxs0
  haveI : Row W A0 (xs0.flatMap thC) := ⟨hrow0⟩
  obtain ⟨kp1, tn1, hx1, hkp1, htn1⟩ := open_crash _ _ _ h1
  obtain rfl := agg_of Try.underlying38 (hval 1 _ v1 rfl rfl) hx1
  obtain ⟨A2, n2, c2, xs2, hxs2, hl2, hrow2, hIn2, hAs2, hn2⟩ := open_things h2
  obtain rfl := slice_of Try.underlying36 (hval 2 _ v2 rfl rfl) hxs2
  haveI : Row W A2 (xs2.flatMap thC) := ⟨hrow2⟩
  refine Calls.mono (diskCrashes_ok A0 A2 n0 c0 n2 c2 xs0 xs2 kp1 tn1 W (fun j h => (hIn0 _ (List.getElem_mem h)).1) (fun j h => (hIn0 _ (List.getElem_mem h)).2.2) (fun j h => (hIn0 _ (List.getElem_mem h)).2.1) hl0 hn0 (fun j h => (hIn2 _ (List.getElem_mem h)).1) (fun j h => (hIn2 _ (List.getElem_mem h)).2.2) (fun j h => (hIn2 _ (List.getElem_mem h)).2.1) hl2 hn2 hkp1 htn1) fun e W' ⟨v, he, hv, hk⟩ => ⟨v, he, ?_⟩
  subst hv
  exact law_post (tb := 4) laidK hW' rfl rfl Try.underlying4 (fun hg => by subst hg; exact ⟨rfl, rfl, rfl⟩) (by kernel_rfl) hk.keep
theorem diskCrashes_holds : Rows.DiskCrashesSaid :=
  OpenClaim.holds_of_wide 8 Try.f8 rfl rfl rfl rfl rfl rfl rfl ⟨rfl, rfl, rfl, rfl, rfl⟩ rfl rfl rfl rfl rfl (by kernel_rfl) Try.func8 (by kernel_rfl)
    (of_decide_eq_true (by kernel_rfl)) (by unfold Func.isWrapper; first | (rw [if_pos (by decide +kernel)]; kernel_rfl) | (rw [if_neg (by decide +kernel)]; exact ⟨rfl, rfl⟩))
    (fun os started H enc _ => diskCrashes_lifted os started H enc)
end Go.Proofs.Ytabknhgbijcklaa
