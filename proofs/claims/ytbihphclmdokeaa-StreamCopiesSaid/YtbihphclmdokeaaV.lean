/-
  Walks, printed by a program of this workplace (wip/tools/sx.py) off the functions' code and a text of contracts.
-/
import Derived.Test.YtbihphclmdokeaaU
set_option linter.all false
set_option maxRecDepth 100000
set_option synthInstance.maxSize 100000
set_option synthInstance.maxHeartbeats 400000
namespace Go.Proofs.Ytbihphclmdokeaa
open Go.Wst
open Go.Wst.Sm
theorem setL_one (l : List Value) (k : Nat) (v : Value) (h : k < l.length) : setL l (k * 1) [v] = l.set k v := by
  rw [Nat.mul_one, setL, List.set_eq_take_append_cons_drop, if_pos h]
  simp
theorem old_own {w : World} {base : Nat} {e : TypeId} {sz n m c : Nat} {A : Option Addr} {xs : List Value} (h : w.ownsRow base e sz (.slice A n c) m xs) : OldA w A := ⟨fun a ha => by subst ha; exact (h.lt _ rfl).2⟩
theorem ref_part {w : World} {F : Nat → Prop} {D : RD} {R : RefM} (h : RefAt w F D R) {n : Int} (hn : R.hasB n = true) : ∃ B c, D.pv[n.toNat]? = some (.slice B (R.part n).length c) ∧ FRow w F B (itemsC (R.part n)) := by
  have h1 : n.toNat < R.parts.length := by simp [RefM.hasB] at hn; omega
  have h2 : n.toNat < D.pv.length := by rw [h.pn]; exact h1
  obtain ⟨B, c, e, hr⟩ := h.pi n.toNat h2 h1
  have e2 : R.part n = R.parts[n.toNat] := by simp [RefM.part, h1]
  exact ⟨B, c, by rw [e2, ← e]; exact List.getElem?_eq_getElem h2, by rw [e2]; exact hr⟩
theorem refAt_set {w : World} {F : Nat → Prop} {D : RD} {R : RefM} {A B : Option Addr} {c c' k : Nat} {xs : List Itm} (h : RefAt w F D R) (hp : FRow w F A (D.pv.set k (.slice B xs.length c'))) (hx : FRow w F B (itemsC xs)) :
    RefAt w F { D with PA := A, pc := c, pv := D.pv.set k (.slice B xs.length c') } { R with parts := R.parts.set k xs } := by
  refine ⟨hp, by simp [h.pn], ?_, h.r, h.q, h.lt⟩
  intro i hi hi'
  simp only [List.getElem_set]
  split
  · exact ⟨B, c', rfl, hx⟩
  · exact h.pi i (by simpa using hi) (by simpa using hi')

/-- (waystation/waystationref14.Machine).with -/
theorem with_ok (F : Nat → Prop) (D : RD) (R : RefM) (part : Int) (x : Itm) (w : World) (h : RefAt w F D R) (hn : R.hasB part = true) (hfour : R.parts.length ≤ 1000) (hlong : (R.part part).length ≤ 5000) : Ret Try.prog 76 #[refV D R, .int .i64 part, .agg (itemC x).toArray] w (fun v w' => ∃ F' D', v = refV D' (R.with_ part x) ∧ RefAt w' F' D' (R.with_ part x) ∧ Sub F' F w ∧ Lk w' w NoB) := by
  haveI : Row w D.PA _ := ⟨h.p.row⟩
  haveI := h.p.old h.lt
  have hp0 : part = (part.toNat : Int) := by simp [RefM.hasB] at hn; omega
  have hp1 : part.toNat < R.parts.length := by simp [RefM.hasB] at hn; omega
  obtain ⟨B, cB, hV, hB⟩ := ref_part h hn
  have hpn := h.pn
  haveI : Row w B _ := ⟨hB.row⟩
  haveI := hB.old h.lt
  haveI : LenC D.pv R.parts.length := ⟨h.pn⟩
  haveI : Cell1L D.pv := ⟨fun u hu => by obtain ⟨i, hi, rfl⟩ := List.mem_iff_getElem.1 hu; obtain ⟨_, _, e, _⟩ := h.pi i hi (by omega); rw [e]; rfl⟩
  refine ret_of_x (N := 27) (l := [refV D R, .int .i64 part, .agg (itemC x).toArray]) Try.func76 rfl rfl (Nat.le_of_ble_eq_true rfl) ?_
  refine x_seq ?_
  refine x_regionL ?_
  refine xl_e (e_box fun b1 w1 n1 l1 k1 => ?_)
  refine xl_e (e_box fun b2 w2 n2 l2 k2 => ?_)
  refine xl_e (e_alloc fun b3 w3 n3 l3 k3 => ?_)
  refine xl_nil ?_
  refine x_seq ?_
  refine x_regionL ?_
  refine xl_e (e_buildSlice0 fun b4 w4 n4 l4 k4 => ?_)
  refine xl_v (by first | exact v_fieldAddr | exact v_fieldAddrF (by decide) (by omega) | exact v_fieldAddrR (by first | assumption | rfl)) ?_
  refine xl_v (by first | exact v_load | exact v_loadO (by omega) | exact v_loadFf (by omega) | exact v_loadF0 (by omega)) ?_
  have hb3 : w.heap.size ≤ (w4).heap.size := Ge.le
  first | refine xl_e (e_appN (by omega) (by decide) (by omega) (by omega) fun A5 c5 w5 o5 l5 a5 f5 => ?_) | refine xl_e (e_appE (by omega) (by decide) (by omega) (by omega) fun A5 c5 w5 o5 l5 a5 f5 => ?_) | refine xl_e (e_app (by omega) (by decide) (by omega) (by omega) (by first | exact Ge.le | omega) fun A5 c5 w5 o5 l5 a5 f5 => ?_)
  refine xl_v v_assign ?_
  refine xl_nil ?_
  have hA4s : A5.isSome = true := row_some (w := w5) (cs := D.pv) inferInstance (by omega)
  refine x_seq ?_
  refine x_drawL (NewS w5) (allS) (.take 0 (.take 1 (.take 3 (.take 4 (.take 5 (.take 6 (.take 8 (.fork 2 (.fork 7 (.eff 9 (.eff 10 (.take 11 (.last 12)))) 9 (.eff 7 (.eff 10 (.take 11 (.last 12))))) 9 (.eff 2 (.eff 7 (.eff 10 (.take 11 (.last 12))))))))))))) mixed (by kernel_rfl) (fun _ _ _ _ _ h => h) (fun w6 l6 => ?_)
  refine xt_v rfl v_move ?_
  refine xt_v rfl v_move ?_
  refine xt_v rfl v_move ?_
  refine xt_v rfl v_move ?_
  refine xt_v rfl (v_indexAddr part.toNat hp0 hp1 hA4s) ?_
  refine xt_v rfl (v_loadR (by simpa using hV)) ?_
  refine xt_v rfl (by first | exact v_loadA | exact v_loadF (by decide) (by omega)) ?_
  refine xt_fork ?_ ?_
  ·
    refine xt_e rfl (e_buildSlice0 fun b7 w7 n7 l7 k7 => ?_)
    refine xt_fork ?_ ?_
    ·
      first | refine xt_e rfl (e_appN (by omega) (by decide) (by omega) (by omega) fun A8 c8 w8 o8 l8 a8 f8 => ?_) | refine xt_e rfl (e_appE (by omega) (by decide) (by omega) (by omega) fun A8 c8 w8 o8 l8 a8 f8 => ?_) | refine xt_e rfl (e_app (by omega) (by decide) (by omega) (by omega) (by first | exact Ge.le | omega) fun A8 c8 w8 o8 l8 a8 f8 => ?_)
      refine xt_e rfl (e_buildSlice1 rfl fun b9 w9 n9 l9 k9 => ?_)
      refine xt_e rfl (e_app (by omega) (by decide) (by omega) (by omega) Ge.le fun A10 c10 w10 o10 l10 a10 f10 => ?_)
      refine xt_v rfl (v_indexAddr part.toNat hp0 hp1 hA4s) ?_
      refine xt_lastS rfl (e_storeOwn (OwnI.own : World.ownsRow w10 _ _ _ (.slice A5 _ c5) _ _) (by omega) (by decide) fun w11 l12 ho12 => ?_)
      rw [setL_one _ _ _ (by omega)] at ho12
      haveI : OwnI w11 _ _ _ _ _ _ _ _ := ⟨ho12⟩
      refine x_seq ?_
      refine x_regionL ?_
      refine xl_v v_move ?_
      refine xl_v (by first | exact v_fieldAddr | exact v_fieldAddrF (by decide) (by omega) | exact v_fieldAddrR (by first | assumption | rfl)) ?_
      refine xl_s (e_store fun w12 l12 k12 => ?_)
      refine xl_nil ?_
      refine x_seq ?_
      refine x_regionL ?_
      refine xl_v (by first | exact v_loadA | exact v_loadF (by decide) (by omega)) ?_
      refine xl_s (e_storeA fun w13 l13 k13 => ?_)
      refine xl_nil ?_
      refine x_ret ?_
      refine finR (rs := [.cell 6 51]) rfl ?_
      have o4 : World.ownsRow w13 _ _ _ (.slice A5 _ c5) _ _ := OwnI.own
      have o10' : World.ownsRow w13 _ _ _ (.slice A10 _ c10) _ _ := OwnI.own
      obtain ⟨G, hG⟩ : ∃ G : Nat → Prop, G = fun k => F k ∨ OwnB (.slice A5 R.parts.length c5) k ∨ OwnB (.slice A10 ((R.part part).length + 1) c10) k := ⟨_, rfl⟩
      have hGl : ∀ k, G k → k < (w13).heap.size := by
        rw [hG]
        rintro k (e | e | e)
        · exact Nat.lt_of_lt_of_le (h.lt k e) Ge.le
        · exact (ownB_lt o4 k e).2
        · exact (ownB_lt o10' k e).2
      have hE := (h.ext (lkc : Lk w13 w NoB)).mono (G := G) (fun k e => by rw [hG]; exact .inl e) hGl
      refine ⟨G, _, ?_, refAt_set (A := A5) (c := c5) (c' := c10) (k := part.toNat) (B := A10) (xs := R.part part ++ [x]) hE ?_ ?_, ?_, lkc⟩
      · simp [refV, refC, RefM.with_, outV]
      · simpa using (FRow.of_own o4).mono (fun k e => by rw [hG]; exact .inr (.inl e))
      · rw [itemsC_append]
        simpa [itemsC] using (FRow.of_own o10').mono (fun k e => by rw [hG]; exact .inr (.inr e))
      · rw [hG]
        rintro k (e | e | e)
        · exact .inl e
        · exact .inr (Nat.le_trans Ge.le (ownB_lt o4 k e).1)
        · exact .inr (Nat.le_trans Ge.le (ownB_lt o10' k e).1)
    ·
      refine xt_e rfl (e_buildSlice1 rfl fun b14 w14 n14 l14 k14 => ?_)
      first | refine xt_e rfl (e_appN (by omega) (by decide) (by omega) (by omega) fun A15 c15 w15 o15 l15 a15 f15 => ?_) | refine xt_e rfl (e_appE (by omega) (by decide) (by omega) (by omega) fun A15 c15 w15 o15 l15 a15 f15 => ?_) | refine xt_e rfl (e_app (by omega) (by decide) (by omega) (by omega) (by first | exact Ge.le | omega) fun A15 c15 w15 o15 l15 a15 f15 => ?_)
      refine xt_e rfl (e_app (by omega) (by decide) (by omega) (by omega) Ge.le fun A10 c10 w16 o10 l10 a10 f10 => ?_)
      refine xt_v rfl (v_indexAddr part.toNat hp0 hp1 hA4s) ?_
      refine xt_lastS rfl (e_storeOwn (OwnI.own : World.ownsRow w16 _ _ _ (.slice A5 _ c5) _ _) (by omega) (by decide) fun w17 l12 ho12 => ?_)
      rw [setL_one _ _ _ (by omega)] at ho12
      haveI : OwnI w17 _ _ _ _ _ _ _ _ := ⟨ho12⟩
      refine x_seq ?_
      refine x_regionL ?_
      refine xl_v v_move ?_
      refine xl_v (by first | exact v_fieldAddr | exact v_fieldAddrF (by decide) (by omega) | exact v_fieldAddrR (by first | assumption | rfl)) ?_
      refine xl_s (e_store fun w18 l18 k18 => ?_)
      refine xl_nil ?_
      refine x_seq ?_
      refine x_regionL ?_
      refine xl_v (by first | exact v_loadA | exact v_loadF (by decide) (by omega)) ?_
      refine xl_s (e_storeA fun w19 l19 k19 => ?_)
      refine xl_nil ?_
      refine x_ret ?_
      refine finR (rs := [.cell 6 51]) rfl ?_
      have o4 : World.ownsRow w19 _ _ _ (.slice A5 _ c5) _ _ := OwnI.own
      have o10' : World.ownsRow w19 _ _ _ (.slice A10 _ c10) _ _ := OwnI.own
      obtain ⟨G, hG⟩ : ∃ G : Nat → Prop, G = fun k => F k ∨ OwnB (.slice A5 R.parts.length c5) k ∨ OwnB (.slice A10 ((R.part part).length + 1) c10) k := ⟨_, rfl⟩
      have hGl : ∀ k, G k → k < (w19).heap.size := by
        rw [hG]
        rintro k (e | e | e)
        · exact Nat.lt_of_lt_of_le (h.lt k e) Ge.le
        · exact (ownB_lt o4 k e).2
        · exact (ownB_lt o10' k e).2
      have hE := (h.ext (lkc : Lk w19 w NoB)).mono (G := G) (fun k e => by rw [hG]; exact .inl e) hGl
      refine ⟨G, _, ?_, refAt_set (A := A5) (c := c5) (c' := c10) (k := part.toNat) (B := A10) (xs := R.part part ++ [x]) hE ?_ ?_, ?_, lkc⟩
      · simp [refV, refC, RefM.with_, outV]
      · simpa using (FRow.of_own o4).mono (fun k e => by rw [hG]; exact .inr (.inl e))
      · rw [itemsC_append]
        simpa [itemsC] using (FRow.of_own o10').mono (fun k e => by rw [hG]; exact .inr (.inr e))
      · rw [hG]
        rintro k (e | e | e)
        · exact .inl e
        · exact .inr (Nat.le_trans Ge.le (ownB_lt o4 k e).1)
        · exact .inr (Nat.le_trans Ge.le (ownB_lt o10' k e).1)
  ·
    refine xt_e rfl (e_buildSlice1 rfl fun b20 w20 n20 l20 k20 => ?_)
    refine xt_e rfl (e_buildSlice0 fun b21 w21 n21 l21 k21 => ?_)
    first | refine xt_e rfl (e_appN (by omega) (by decide) (by omega) (by omega) fun A22 c22 w22 o22 l22 a22 f22 => ?_) | refine xt_e rfl (e_appE (by omega) (by decide) (by omega) (by omega) fun A22 c22 w22 o22 l22 a22 f22 => ?_) | refine xt_e rfl (e_app (by omega) (by decide) (by omega) (by omega) (by first | exact Ge.le | omega) fun A22 c22 w22 o22 l22 a22 f22 => ?_)
    refine xt_e rfl (e_app (by omega) (by decide) (by omega) (by omega) Ge.le fun A10 c10 w23 o10 l10 a10 f10 => ?_)
    refine xt_v rfl (v_indexAddr part.toNat hp0 hp1 hA4s) ?_
    refine xt_lastS rfl (e_storeOwn (OwnI.own : World.ownsRow w23 _ _ _ (.slice A5 _ c5) _ _) (by omega) (by decide) fun w24 l12 ho12 => ?_)
    rw [setL_one _ _ _ (by omega)] at ho12
    haveI : OwnI w24 _ _ _ _ _ _ _ _ := ⟨ho12⟩
    refine x_seq ?_
    refine x_regionL ?_
    refine xl_v v_move ?_
    refine xl_v (by first | exact v_fieldAddr | exact v_fieldAddrF (by decide) (by omega) | exact v_fieldAddrR (by first | assumption | rfl)) ?_
    refine xl_s (e_store fun w25 l25 k25 => ?_)
    refine xl_nil ?_
    refine x_seq ?_
    refine x_regionL ?_
    refine xl_v (by first | exact v_loadA | exact v_loadF (by decide) (by omega)) ?_
    refine xl_s (e_storeA fun w26 l26 k26 => ?_)
    refine xl_nil ?_
    refine x_ret ?_
    refine finR (rs := [.cell 6 51]) rfl ?_
    have o4 : World.ownsRow w26 _ _ _ (.slice A5 _ c5) _ _ := OwnI.own
    have o10' : World.ownsRow w26 _ _ _ (.slice A10 _ c10) _ _ := OwnI.own
    obtain ⟨G, hG⟩ : ∃ G : Nat → Prop, G = fun k => F k ∨ OwnB (.slice A5 R.parts.length c5) k ∨ OwnB (.slice A10 ((R.part part).length + 1) c10) k := ⟨_, rfl⟩
    have hGl : ∀ k, G k → k < (w26).heap.size := by
      rw [hG]
      rintro k (e | e | e)
      · exact Nat.lt_of_lt_of_le (h.lt k e) Ge.le
      · exact (ownB_lt o4 k e).2
      · exact (ownB_lt o10' k e).2
    have hE := (h.ext (lkc : Lk w26 w NoB)).mono (G := G) (fun k e => by rw [hG]; exact .inl e) hGl
    refine ⟨G, _, ?_, refAt_set (A := A5) (c := c5) (c' := c10) (k := part.toNat) (B := A10) (xs := R.part part ++ [x]) hE ?_ ?_, ?_, lkc⟩
    · simp [refV, refC, RefM.with_, outV]
    · simpa using (FRow.of_own o4).mono (fun k e => by rw [hG]; exact .inr (.inl e))
    · rw [itemsC_append]
      simpa [itemsC] using (FRow.of_own o10').mono (fun k e => by rw [hG]; exact .inr (.inr e))
    · rw [hG]
      rintro k (e | e | e)
      · exact .inl e
      · exact .inr (Nat.le_trans Ge.le (ownB_lt o4 k e).1)
      · exact .inr (Nat.le_trans Ge.le (ownB_lt o10' k e).1)
end Go.Proofs.Ytbihphclmdokeaa
