/-
  The row of SeglogOpens and its tied card: for every input the law returns true, and each argument reads as it did; the variables that the row lists are tied to the program's text.
-/
import Derived.Test.YtigmfcgeljjgnaaGreatDoorJHR
import Derived.Test.YtigmfcgeljjgnaaGreatDoorJ28
import Derived.Test.YtigmfcgeljjgnaaGreatDoorCards
import Derived.Test.YtigmfcgeljjgnaaGreatDoorTie
import Derived.SevenTiedAt
set_option linter.all false
set_option maxRecDepth 100000
namespace Go.Proofs.YtigmfcgeljjgnaaGreatDoor
open Go.Wst Go.Wst.Dm Go.Wst.Sg
open Go.ChangeShapes Go.WideShapes Go.ChangeAt Go.RowKit Go.Deep
theorem seglogOpens_lifted (os : Os) (started : os.Started) (H : Type) (enc : TypeId × Value → H) :
    ReturnsInHanded {} Tryz.checked os 5 .any (fun w args => (Rows.seglogOpensSpec.pre enc Tryz.prog Tryz.f5 [] false w args ∧ laidMetH Tryz.prog laidL w) ∧ sizedMet enc Tryz.prog Tryz.f5 (OpenSpec.ofChange Rows.seglogOpensSpec) false w args) (Rows.seglogOpensSpec.post enc Tryz.prog Tryz.f5 false true false false) := by
  refine returnsInHanded_of_change_and (C := Tryz.checked) (X := fun w _ => laidMetH Tryz.prog laidL w) (fun _ _ _ hh h => h.of_heap hh) ownK started (by kernel_rfl) Tryz.func5
    (ChangeSpec.witness_shaped (enc := enc) (C := Tryz.checked) (os := os) (X := fun w _ => laidMetH Tryz.prog laidL w) false (World.doorLaid Tryz.prog 400 os) #[(.slice none 0 0), (.string ByteArray.empty), (.int .i64 0)] 8 rfl (World.shaped_of_RefB (by kernel_rfl) (by kernel_rfl)) (by kernel_rfl) (by kernel_rfl) (by kernel_rfl) (door_met os _)) ?_
  intro W base args ds gs before hval0 hW _ _ hL _
  obtain ⟨tt, tr, htab0⟩ := tab_laid hL
  haveI htab : Blk W 0 (.cells tabA tt tr) := ⟨htab0⟩
  have hval : ∀ (j : Nat) t v, Tryz.f5.params[j]? = some t → args[j]? = some v → Value.okWide Tryz.prog W .any base t v := hval0
  have hW' := hW
  obtain ⟨p, q, hA0, hV, rfl, hfz, hnd⟩ := hW
  have hA : DataW.TrodAll enc Tryz.prog W 0 (fun _ => true) true Tryz.f5.params.toList args.toList ds p := hA0
  rw [Tryz.params5] at hA hval
  obtain ⟨v0, v1, v2, d0, d1, d2, p0, p1, p2, rfl, rfl, rfl, ⟨f0, h0⟩, ⟨f1, h1⟩, ⟨f2, h2⟩⟩ := trodAll_three hA
  obtain ⟨A0, n0, c0, xs0, hxs0, hl0, hrow0, hIn0, hAs0, hn0⟩ := open_things h0
  obtain rfl := slice_of Tryz.underlying32 (hval 0 _ v0 rfl rfl) hxs0
  haveI : Row W A0 (xs0.flatMap thC) := ⟨hrow0⟩
  obtain ⟨s1, hc1, hw1⟩ := open_str h1
  obtain rfl := string_of Tryz.underlying9 (hval 1 _ v1 rfl rfl) hc1
  obtain ⟨n2, hc2, _, hw2⟩ := DataW.trod_int Tryz.underlying3 h2
  obtain rfl := int_of Tryz.underlying3 (hval 2 _ v2 rfl rfl) hc2
  refine Calls.mono (seglogOpens_ok A0 n0 c0 xs0 s1 n2 W tt tr (fun j h => (hIn0 _ (List.getElem_mem h)).1) (fun j h => (hIn0 _ (List.getElem_mem h)).2) hl0 hn0 hw1 (wf_i64 hw2)) fun e W' ⟨v, he, hv, hk⟩ => ⟨v, he, ?_⟩
  subst hv
  exact law_post (tb := 4) laidK hW' rfl rfl Tryz.underlying4 (fun hg => by subst hg; exact ⟨rfl, rfl, rfl⟩) (by kernel_rfl) hk.keep
theorem seglogOpens_row : Rows.SeglogOpensSaid :=
  OpenClaim.holds_of_wide 5 Tryz.f5 rfl rfl rfl rfl rfl rfl rfl ⟨rfl, rfl, rfl, rfl, rfl⟩ rfl rfl rfl rfl rfl (by kernel_rfl) Tryz.func5 (by kernel_rfl)
    (of_decide_eq_true (by kernel_rfl)) (by unfold Func.isWrapper; first | (rw [if_pos (by decide +kernel)]; kernel_rfl) | (rw [if_neg (by decide +kernel)]; exact ⟨rfl, rfl⟩))
    (fun os started H enc _ => seglogOpens_lifted os started H enc)
theorem seglogOpens_holds : Rows.SeglogOpensCardSaid :=
  Claim7.holds_tied_plain_at .later [] [.data, .data, .data] true (true, "01ef0002f38d3a461f3a2f8ee30881cbd373bac9651bf68fd9a4f7539f52c929") true
    seglogOpens_row (fun _ h => by cases h) (by kernel_rfl) (fun _ h => by cases h) seglogOpens_row_tie rfl ⟨rfl, rfl⟩ (by kernel_rfl) rfl
    (fun f fn hf hfn => by
      obtain rfl : f = 5 := Option.some.inj ((show Tryz.prog.funcNamed "waystation/waystationlaw04.SeglogOpens" = some 5 by kernel_rfl).symm.trans hf) |>.symm
      obtain rfl : fn = Tryz.f5 := (Option.some.inj (Tryz.func5.symm.trans hfn)).symm
      exact ⟨by kernel_rfl, fun j t ht => by
        rw [Tryz.params5] at ht
        have hall : ∀ t ∈ Tryz.f5.params.toList, Tryz.prog.wantsStandIn t = false := by rw [Tryz.params5]; decide +kernel
        exact hall t (by rw [Tryz.params5]; exact List.mem_of_getElem? (by simpa using ht))⟩)
    (by kernel_rfl)
end Go.Proofs.YtigmfcgeljjgnaaGreatDoor
