/-
  The row of SeglogLasts and its tied card: for every input the law returns true, and each argument reads as it did; the variables that the row lists are tied to the program's text.
-/
import Derived.Test.YtigmfcgeljjgnaaGreatJ19
import Derived.Test.YtigmfcgeljjgnaaGreatJ20
set_option linter.all false
set_option maxRecDepth 100000
namespace Go.Proofs.YtigmfcgeljjgnaaGreat
open Go.Wst Go.Wst.Dm Go.Wst.Sg
open Go.ChangeShapes Go.WideShapes Go.ChangeAt Go.RowKit Go.Deep
theorem seglogLasts_lifted (os : Os) (started : os.Started) (H : Type) (enc : TypeId × Value → H) :
    ReturnsInHanded {} Tryz.checked os 3 .any (Rows.seglogLastsSpec.pre6 enc Tryz.prog Tryz.f3 Rows.seglogLastsRow.domain false) (Rows.seglogLastsSpec.post enc Tryz.prog Tryz.f3 false true false false) := by
  refine returnsInHanded_of_change (C := Tryz.checked) ownK started (by kernel_rfl) Tryz.func3
    (ChangeSpec.witness6 (enc := enc) (C := Tryz.checked) false ⟨#[], #[(.int .i64 0), (.slice none 0 0), (.agg #[(.int .i64 0), (.int .i64 0)])], []⟩ 8 (by kernel_rfl) (by kernel_rfl) (by kernel_rfl) (by kernel_rfl)) ?_
  intro W base args ds gs before hval0 hW hcnd _
  have hval : ∀ (j : Nat) t v, Tryz.f3.params[j]? = some t → args[j]? = some v → Value.okWide Tryz.prog W .any base t v := hval0
  have hW' := hW
  obtain ⟨p, q, hA0, hV, rfl, hfz, hnd⟩ := hW
  have hA : DataW.TrodAll enc Tryz.prog W 0 (fun _ => true) true Tryz.f3.params.toList args.toList ds p := hA0
  rw [Tryz.params3] at hA hval
  obtain ⟨v0, v1, v2, d0, d1, d2, p0, p1, p2, rfl, rfl, rfl, ⟨f0, h0⟩, ⟨f1, h1⟩, ⟨f2, h2⟩⟩ := trodAll_three hA
  obtain ⟨n0, hc0, _, hw0⟩ := DataW.trod_int Tryz.underlying3 h0
  obtain rfl := int_of Tryz.underlying3 (hval 0 _ v0 rfl rfl) hc0
  obtain ⟨A1, n1, c1, xs1, hxs1, hl1, hrow1, hIn1, hAs1, hn1⟩ := open_acts h1
  obtain rfl := slice_of Tryz.underlying22 (hval 1 _ v1 rfl rfl) hxs1
  haveI : Row W A1 (xs1.flatMap actC) := ⟨hrow1⟩
  obtain ⟨kp2, tn2, hx2, hkp2, htn2⟩ := open_crash _ _ _ h2
  obtain rfl := agg_of Tryz.underlying24 (hval 2 _ v2 rfl rfl) hx2
  refine Calls.mono (seglogLasts_ok n0 A1 n1 c1 xs1 kp2 tn2 W (fun j h => (hIn1 _ (List.getElem_mem h)).1) (fun j h => (hIn1 _ (List.getElem_mem h)).2) hl1 hn1 hkp2 htn2) fun e W' ⟨v, he, hv, hk⟩ => ⟨v, he, ?_⟩
  subst hv
  exact law_post (tb := 4) laidK hW' rfl rfl Tryz.underlying4 (fun hg => by subst hg; exact ⟨rfl, rfl, rfl⟩) (by kernel_rfl) hk.keep
theorem seglogLasts_holds : Rows.SeglogLastsSaid :=
  OpenClaim.holds_of_wide 3 Tryz.f3 rfl rfl rfl rfl rfl rfl rfl ⟨rfl, rfl, rfl, rfl, rfl⟩ rfl rfl rfl rfl rfl (by kernel_rfl) Tryz.func3 (by kernel_rfl)
    (of_decide_eq_true (by kernel_rfl)) (by unfold Func.isWrapper; first | (rw [if_pos (by decide +kernel)]; kernel_rfl) | (rw [if_neg (by decide +kernel)]; exact ⟨rfl, rfl⟩))
    (fun os started H enc _ => seglogLasts_lifted os started H enc)
end Go.Proofs.YtigmfcgeljjgnaaGreat
