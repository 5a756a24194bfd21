/-
 Walks, printed by a program of this workplace (wip/tools/sx.py) off the functions' code and a text of contracts.
-/
import Derived.Test.YtnjpladlfiaojaaZ
set_option linter.all false
set_option maxRecDepth 100000
set_option synthInstance.maxSize 100000
set_option synthInstance.maxHeartbeats 400000
namespace Go.Proofs.Ytnjpladlfiaojaa
open Go.Wst
open Go.Wst.Ct
/-- A controller and the document's where they lie, alike; what P names is apart from both, what Q names the controller does not write. -/
structure PairM (P Q : Nat → Prop) (m : Nat) (D R : LMeta) (W : World) : Prop where
 at_ : MetaAt W m D
 pure : D.pure = R.pure
 ok : D.pure.ok
 pl : ∀ k, P k → k < W.heap.size
 ql : ∀ k, Q k → k < W.heap.size
 pm : ∀ k, P k → ¬ MetaB m D k
 qm : ∀ k, Q k → ¬ MetaB m D k
 ex : ∃ F, RefAt W F R ∧ ∀ k, F k → ¬ P k ∧ ¬ MetaB m D k
theorem PairM.keep {P Q P' Q' S : Nat → Prop} {m : Nat} {D R : LMeta} {W W' : World} (h : PairM P Q m D R W) (hk : Keep S W W') (hs : ∀ k, k < W.heap.size → S k → P k) (hP : ∀ k, P' k → k < W'.heap.size ∧ (P k ∨ W.heap.size ≤ k)) (hQ : ∀ k, Q' k → k < W'.heap.size ∧ (Q k ∨ W.heap.size ≤ k)) : PairM P' Q' m D R W' := by
 obtain ⟨F, h1, h2⟩ := h.ex
 have hml := h.at_.lt
 refine ⟨h.at_.keep hk (fun k e e2 => h.pm k (hs k (hml k e) e2) e), h.pure, h.ok, fun k e => (hP k e).1, fun k e => (hQ k e).1, fun k e e2 => ?_, fun k e e2 => ?_, F, h1.keep hk (fun k e e2 => (h2 k e).1 (hs k (h1.lt k e) e2)), fun k e => ⟨fun e2 => ?_, (h2 k e).2⟩⟩
 ·rcases (hP k e).2 with q | q
  ·exact h.pm k q e2
  ·have := hml k e2; omega
 ·rcases (hQ k e).2 with q | q
  ·exact h.qm k q e2
  ·have := hml k e2; omega
 ·rcases (hP k e2).2 with q | q
  ·exact (h2 k e).1 q
  ·have := h1.lt k e; omega
theorem PairM.cell {P Q S : Nat → Prop} {m : Nat} {D R : LMeta} {W W' : World} (h : PairM P Q m D R W) (hk : Keep S W W') (hs : ∀ k, k < W.heap.size → S k → P k) : PairM P Q m D R W' :=
 h.keep hk hs (fun k e => ⟨Nat.lt_of_lt_of_le (h.pl k e) hk.size, .inl e⟩) (fun k e => ⟨Nat.lt_of_lt_of_le (h.ql k e) hk.size, .inl e⟩)
theorem PairM.ext {P Q : Nat → Prop} {m : Nat} {D R : LMeta} {W W' : World} (h : PairM P Q m D R W) (hk : Keep NoB W W') : PairM P Q m D R W' := h.cell hk (fun _ _ e => e.elim)
/-- What a call leaves of both. -/
theorem PairM.made {P Q F1 : Nat → Prop} {m b3 : Nat} {D R R1 : LMeta} {w wa wb wp w3 w4 : World} {M M2 : Meta} (h : PairM P Q m D R w) (hF1 : ∀ k, F1 k → k < w.heap.size ∧ ¬ P k ∧ ¬ MetaB m D k) (hR1 : RMade F1 wa M2 wb R1) (hMd : Made m D wp M w3) (hMM : M = M2) (hok : M.ok) (hwa : w.heap.size ≤ wa.heap.size) (hab : wa.heap.size ≤ wb.heap.size) (hkb : Keep NoB wb wp) (lk3 : Keep (MetaB m D) wp w3) (hk4 : Keep (OneB b3) w3 w4) (hb3 : w.heap.size ≤ b3 ∧ b3 < wa.heap.size) : ∃ D', PairM P Q m D' R1 w4 ∧ D'.pure = M := by
 obtain ⟨D', hD, hDp, hDg⟩ := hMd
 obtain ⟨hRp, F', hR, hFs⟩ := hR1
 have hml := h.at_.lt
 have hbp := hkb.size
 have h3 : ∀ k, F' k → k ≠ b3 := fun k e => by
  rcases hFs k e with q | q
  ·have := (hF1 k q).1; omega
  ·omega
 have hFm : ∀ k, F' k → ¬ MetaB m D k := fun k e e2 => by
  rcases hFs k e with q | q
  ·exact (hF1 k q).2.2 e2
  ·have := hml k e2; omega
 have hDb : ∀ k, MetaB m D' k → k ≠ b3 := fun k e => by
  rcases hDg k e with q | q
  ·have := hml k q; omega
  ·omega
 have hsz : w.heap.size ≤ w4.heap.size := Nat.le_trans hwa (Nat.le_trans hab (Nat.le_trans hbp (Nat.le_trans lk3.size hk4.size)))
 refine ⟨D', ⟨hD.keep hk4 (fun k e e2 => hDb k e e2), by rw [hDp, hRp, hMM], by rw [hDp]; exact hok, fun k e => Nat.lt_of_lt_of_le (h.pl k e) hsz, fun k e => Nat.lt_of_lt_of_le (h.ql k e) hsz, fun k e e2 => ?_, fun k e e2 => ?_, F', ((hR.ext hkb).keep lk3 hFm).keep hk4 (fun k e e2 => h3 k e e2), fun k e => ⟨fun e2 => ?_, fun e2 => ?_⟩⟩, hDp⟩
 ·rcases hDg k e2 with q | q
  ·exact h.pm k e q
  ·have := h.pl k e; omega
 ·rcases hDg k e2 with q | q
  ·exact h.qm k e q
  ·have := h.ql k e; omega
 ·rcases hFs k e with q | q
  ·exact (hF1 k q).2.1 e2
  ·have := h.pl k e2; omega
 ·rcases hDg k e2 with q | q
  ·exact hFm k e q
  ·have := hR.lt k e; omega
theorem near2_ok (x : LAct) (R : LMeta) (F : Nat → Prop) (w : World) (h : RefAt w F R) (hok : R.pure.ok) : Ret Try.prog 37 #[.agg (actC x).toArray, .agg (metaC R).toArray] w (fun v w' => (∃ y : Ct.Act, v = .agg ([.int .i64 y.kind, .int .i64 y.a, .int .i64 y.b, .int .i64 y.n, .int .i64 y.o, .bool y.flag, .bool y.near, .slice x.A y.list.length x.c] : List Value).toArray ∧ y = x.a.near' R.pure) ∧ Lk w' w NoB) :=
 (near_ok x R F w h hok).mono fun v w' ⟨e, lk⟩ => ⟨⟨_, e, rfl⟩, lk⟩
set_option maxHeartbeats 4000000 in
/-- waystation/waystationlaw10.does -/
theorem does_ok (P Q : Nat → Prop) (m : Nat) (D R : LMeta) (x : LAct) (w : World) (h : PairM P Q m D R w) [hx : Row w x.A (ints x.a.list)] (hxl : x.a.list.length ≤ 100) (hxs : x.A.isSome = true ∨ x.a.list.length = 0) (hxQ : x.a.list ≠ [] → ∀ a, x.A = some a → Q a.block ∧ ¬ P a.block) : Ret Try.prog 17 #[.pointer (some ⟨m, 0, none⟩), .agg (metaC R).toArray, .agg (actC x).toArray] w (fun v w' => (∃ R' D', v = .tuple #[.agg (metaC R').toArray, .bool true] ∧ PairM P Q m D' R' w' ∧ D'.pure = D.pure.does x.a) ∧ Lk w' w (NotP Q)) := by
 obtain ⟨F, hR0, hF0⟩ := h.ex
 have hp := h.pure
 have hokR : R.pure.ok := hp ▸ h.ok
 haveI hxB : RowB w x.A w (ints x.a.list) := rowB_of hx.row
 haveI flm : FLt (MetaB m D) w := ⟨h.at_.lt⟩
 haveI sQ : ∀ W, SubF (MetaB m D) (NotP Q) W := fun W => ⟨fun k _ e e2 => h.qm k e2 e⟩
 obtain ⟨F1, hF1d⟩ : ∃ F1 : Nat → Prop, F1 = fun k => F k ∨ (x.a.list ≠ [] ∧ ∃ a, x.A = some a ∧ a.block = k) := ⟨_, rfl⟩
 have hF1 : ∀ k, F1 k → k < w.heap.size ∧ ¬ P k ∧ ¬ MetaB m D k := by
  intro k e
  rw [hF1d] at e
  rcases e with e | ⟨e, a, ha, rfl⟩
  ·exact ⟨hR0.lt k e, hF0 k e⟩
  ·have q := hxQ e a ha
   exact ⟨h.ql _ q.1, q.2, h.qm _ q.1⟩
 have hR : RefAt w F1 R := hR0.mono (fun k e => by rw [hF1d]; exact .inl e) (fun k e => (hF1 k e).1)
 have hb1w : ∀ {b : Nat} {w1 : World}, New b w1 → Ge w1 w → w.heap.size ≤ b := fun n g => by have := n.eq; have := g.le; omega
 refine ret_of_x (N := 237) (l := [.pointer (some ⟨m, 0, none⟩), .agg (metaC R).toArray, .agg (actC x).toArray]) Try.func17 rfl rfl (Nat.le_of_ble_eq_true rfl) ?_
 refine x_seq ?_
 refine x_regionL ?_
 refine xl_e (e_box fun b1 w1 n1 l1 k1 => ?_)
 refine xl_e (e_box fun b2 w2 n2 l2 k2 => ?_)
 refine xl_e (e_alloc fun b3 w3 n3 l3 k3 => ?_)
 refine xl_v v_assign ?_
 refine xl_nil ?_
 refine x_seq ?_
 refine x_regionL ?_
 refine xl_La ?_
 refine xl_La ?_
 refine xl_call (near2_ok x R F1 w3 (hR.ext (kpc : Keep NoB w w3)) hokR) ?_
 rintro _ w4 ⟨⟨y, rfl, hy⟩, lkn⟩
 have hyl : y.list = x.a.list := by rw [hy]; exact (near_list _ _).1
 have hdo : D.pure.does x.a = (D.pure.act y).1 := by rw [Meta.does, hp, ← hy]
 refine xl_s (e_storeA fun w5 l5 k5 => ?_)
 have hb3 : w.heap.size ≤ b3 := hb1w n3 inferInstance
 refine xl_nil ?_
 refine x_seq ?_
 refine x_seq ?_
 refine x_regionL ?_
 refine xl_Fa ?_
 refine xl_Ld ?_
 refine xl_nil ?_
 refine x_block ?_
 refine x_seq ?_
 refine x_regionL ?_
 refine xl_v v_eql ?_
 refine xl_v v_assign ?_
 refine xl_nil ?_
 first | refine x_condP (fun c1 => ?_) (fun c1 => ?_) | refine x_condN (fun c1 => ?_) (fun c1 => ?_) | refine x_condE (fun c1 => ?_) (fun c1 => ?_)
 ·
  have hact : D.pure.act y = ((D.pure.fence y.a).1, 0, (D.pure.fence y.a).2) := by simp [Meta.act, c1]
  refine x_seq ?_
  refine x_regionL ?_
  refine xl_La ?_
  refine xl_Fa ?_
  refine xl_Ld ?_
  refine xl_call (reffence_ok R F1 y.a w5 (hR.ext (kpc : Keep NoB w w5)) hokR) ?_
  rintro _ w6 ⟨⟨R1, rfl, hM1⟩, lkr⟩
  obtain ⟨wa, hwa⟩ : ∃ x, x = w5 := ⟨_, rfl⟩
  obtain ⟨wb, hwb⟩ : ∃ x, x = w6 := ⟨_, rfl⟩
  rw [← hwa, ← hwb] at hM1
  have hwaw : w.heap.size ≤ wa.heap.size := by rw [hwa]; exact Ge.le
  have hwab : wa.heap.size ≤ wb.heap.size := by rw [hwa, hwb]; exact lkr.keep.size
  have hb3a : b3 < wa.heap.size := by rw [hwa]; exact Has.lt
  refine xl_v v_move ?_
  refine xl_v v_extract ?_
  refine xl_v v_extract ?_
  refine xl_e (e_alloc fun b7 w7 n7 l7 k7 => ?_)
  refine xl_s (e_storeA fun w8 l8 k8 => ?_)
  refine xl_v v_assign ?_
  refine xl_nil ?_
  refine x_seq ?_
  refine x_drawL (fun k => MetaB m D k ∨ OneB b3 k) (allS) (.take 0 (.take 1 (.take 2 (.take 3 (.take 5 (.eff 4 (.take 6 (.eff 7 (.take 8 .done))))))))) mixed (by kernel_rfl) (fun _ _ _ _ _ h => h) (fun w9 l9 => ?_)
  refine xt_La rfl ?_
  refine xt_v rfl v_move ?_
  refine xt_Fa rfl ?_
  refine xt_Ld rfl ?_
  refine xt_v rfl v_move ?_
  refine xt_call rfl (fence_ok m D y.a w9 (h.at_.ext (kpc : Keep NoB w w9)) h.ok) ?_
  rintro _ w10 ⟨rfl, hMd, lkM⟩
  refine ⟨kpc, ?_⟩
  obtain ⟨wp, hwp⟩ : ∃ x, x = w9 := ⟨_, rfl⟩
  obtain ⟨w3, hw3⟩ : ∃ x, x = w10 := ⟨_, rfl⟩
  rw [← hwp, ← hw3] at hMd
  have hkb : Keep NoB wb wp := by rw [hwb, hwp]; exact kpc
  have hk3 : Keep (MetaB m D) wp w3 := by rw [hwp, hw3]; exact lkM.keep
  refine xt_v rfl v_eql ?_
  refine xt_s rfl (e_storeA fun w11 l11 k11 => ?_)
  refine xt_v rfl v_assign ?_
  refine xt_nil ?_
  refine x_ret ?_
  refine finR (rs := [.cell 6 35, .tmp 7]) rfl ?_
  obtain ⟨D', hPM, hDp⟩ := h.made hF1 hM1 hMd (by rw [hp]) (h.ok.fence _) hwaw hwab hkb hk3 (by rw [hw3]; exact kpc : Keep (OneB b3) w3 w11) ⟨hb3, hb3a⟩
  exact ⟨⟨R1, D', by rw [hp]; simp [outV], hPM, by rw [hDp, hdo, hact]⟩, lkc⟩
 ·
  refine x_seq ?_
  refine x_regionL ?_
  refine xl_v v_eql ?_
  refine xl_v v_assign ?_
  refine xl_nil ?_
  first | refine x_condP (fun c2 => ?_) (fun c2 => ?_) | refine x_condN (fun c2 => ?_) (fun c2 => ?_) | refine x_condE (fun c2 => ?_) (fun c2 => ?_)
  ·
   have hact : D.pure.act y = ((D.pure.register y.a).1, 0, (D.pure.register y.a).2) := by simp [Meta.act, c2]
   refine x_seq ?_
   refine x_regionL ?_
   refine xl_La ?_
   refine xl_Fa ?_
   refine xl_Ld ?_
   refine xl_call (refregister_ok R F1 y.a w5 (hR.ext (kpc : Keep NoB w w5)) hokR) ?_
   rintro _ w12 ⟨⟨R1, rfl, hM1⟩, lkr⟩
   obtain ⟨wa, hwa⟩ : ∃ x, x = w5 := ⟨_, rfl⟩
   obtain ⟨wb, hwb⟩ : ∃ x, x = w12 := ⟨_, rfl⟩
   rw [← hwa, ← hwb] at hM1
   have hwaw : w.heap.size ≤ wa.heap.size := by rw [hwa]; exact Ge.le
   have hwab : wa.heap.size ≤ wb.heap.size := by rw [hwa, hwb]; exact lkr.keep.size
   have hb3a : b3 < wa.heap.size := by rw [hwa]; exact Has.lt
   refine xl_v v_move ?_
   refine xl_v v_extract ?_
   refine xl_v v_extract ?_
   refine xl_e (e_alloc fun b13 w13 n13 l13 k13 => ?_)
   refine xl_s (e_storeA fun w14 l14 k14 => ?_)
   refine xl_v v_assign ?_
   refine xl_nil ?_
   refine x_seq ?_
   refine x_drawL (fun k => MetaB m D k ∨ OneB b3 k) (allS) (.take 0 (.take 1 (.take 2 (.take 3 (.take 5 (.eff 4 (.take 6 (.eff 7 (.take 8 .done))))))))) mixed (by kernel_rfl) (fun _ _ _ _ _ h => h) (fun w15 l15 => ?_)
   refine xt_La rfl ?_
   refine xt_v rfl v_move ?_
   refine xt_Fa rfl ?_
   refine xt_Ld rfl ?_
   refine xt_v rfl v_move ?_
   refine xt_call rfl (register_ok m D y.a w15 (h.at_.ext (kpc : Keep NoB w w15)) h.ok) ?_
   rintro _ w16 ⟨rfl, hMd, lkM⟩
   refine ⟨kpc, ?_⟩
   obtain ⟨wp, hwp⟩ : ∃ x, x = w15 := ⟨_, rfl⟩
   obtain ⟨w3, hw3⟩ : ∃ x, x = w16 := ⟨_, rfl⟩
   rw [← hwp, ← hw3] at hMd
   have hkb : Keep NoB wb wp := by rw [hwb, hwp]; exact kpc
   have hk3 : Keep (MetaB m D) wp w3 := by rw [hwp, hw3]; exact lkM.keep
   refine xt_v rfl v_eql ?_
   refine xt_s rfl (e_storeA fun w17 l17 k17 => ?_)
   refine xt_v rfl v_assign ?_
   refine xt_nil ?_
   refine x_ret ?_
   refine finR (rs := [.cell 6 35, .tmp 7]) rfl ?_
   obtain ⟨D', hPM, hDp⟩ := h.made hF1 hM1 hMd (by rw [hp]) (h.ok.register _) hwaw hwab hkb hk3 (by rw [hw3]; exact kpc : Keep (OneB b3) w3 w17) ⟨hb3, hb3a⟩
   exact ⟨⟨R1, D', by rw [hp]; simp [outV], hPM, by rw [hDp, hdo, hact]⟩, lkc⟩
  ·
   refine x_seq ?_
   refine x_regionL ?_
   refine xl_v v_eql ?_
   refine xl_v v_assign ?_
   refine xl_nil ?_
   first | refine x_condP (fun c3 => ?_) (fun c3 => ?_) | refine x_condN (fun c3 => ?_) (fun c3 => ?_) | refine x_condE (fun c3 => ?_) (fun c3 => ?_)
   ·
    have hact : D.pure.act y = ((D.pure.elect y.a y.b y.flag).1, 0, (D.pure.elect y.a y.b y.flag).2) := by simp [Meta.act, c3]
    refine x_seq ?_
    refine x_regionL ?_
    refine xl_La ?_
    refine xl_Fa ?_
    refine xl_Ld ?_
    refine xl_Fa ?_
    refine xl_Ld ?_
    refine xl_Fa ?_
    refine xl_Ld ?_
    refine xl_call (refelect_ok R F1 y.a y.b y.flag w5 (hR.ext (kpc : Keep NoB w w5)) hokR) ?_
    rintro _ w18 ⟨⟨R1, rfl, hM1⟩, lkr⟩
    obtain ⟨wa, hwa⟩ : ∃ x, x = w5 := ⟨_, rfl⟩
    obtain ⟨wb, hwb⟩ : ∃ x, x = w18 := ⟨_, rfl⟩
    rw [← hwa, ← hwb] at hM1
    have hwaw : w.heap.size ≤ wa.heap.size := by rw [hwa]; exact Ge.le
    have hwab : wa.heap.size ≤ wb.heap.size := by rw [hwa, hwb]; exact lkr.keep.size
    have hb3a : b3 < wa.heap.size := by rw [hwa]; exact Has.lt
    refine xl_v v_move ?_
    refine xl_v v_extract ?_
    refine xl_v v_extract ?_
    refine xl_e (e_alloc fun b19 w19 n19 l19 k19 => ?_)
    refine xl_s (e_storeA fun w20 l20 k20 => ?_)
    refine xl_v v_assign ?_
    refine xl_nil ?_
    refine x_seq ?_
    refine x_drawL (fun k => MetaB m D k ∨ OneB b3 k) (allS) (.take 0 (.take 1 (.take 2 (.take 3 (.take 4 (.take 5 (.take 6 (.take 7 (.take 9 (.eff 8 (.take 10 (.eff 11 (.take 12 .done))))))))))))) mixed (by kernel_rfl) (fun _ _ _ _ _ h => h) (fun w21 l21 => ?_)
    refine xt_La rfl ?_
    refine xt_v rfl v_move ?_
    refine xt_Fa rfl ?_
    refine xt_Ld rfl ?_
    refine xt_Fa rfl ?_
    refine xt_Ld rfl ?_
    refine xt_Fa rfl ?_
    refine xt_Ld rfl ?_
    refine xt_v rfl v_move ?_
    refine xt_call rfl (elect_ok m D y.a y.b y.flag w21 (h.at_.ext (kpc : Keep NoB w w21)) h.ok) ?_
    rintro _ w22 ⟨rfl, hMd, lkM⟩
    refine ⟨kpc, ?_⟩
    obtain ⟨wp, hwp⟩ : ∃ x, x = w21 := ⟨_, rfl⟩
    obtain ⟨w3, hw3⟩ : ∃ x, x = w22 := ⟨_, rfl⟩
    rw [← hwp, ← hw3] at hMd
    have hkb : Keep NoB wb wp := by rw [hwb, hwp]; exact kpc
    have hk3 : Keep (MetaB m D) wp w3 := by rw [hwp, hw3]; exact lkM.keep
    refine xt_v rfl v_eql ?_
    refine xt_s rfl (e_storeA fun w23 l23 k23 => ?_)
    refine xt_v rfl v_assign ?_
    refine xt_nil ?_
    refine x_ret ?_
    refine finR (rs := [.cell 6 35, .tmp 7]) rfl ?_
    obtain ⟨D', hPM, hDp⟩ := h.made hF1 hM1 hMd (by rw [hp]) (h.ok.elect _ _ _) hwaw hwab hkb hk3 (by rw [hw3]; exact kpc : Keep (OneB b3) w3 w23) ⟨hb3, hb3a⟩
    exact ⟨⟨R1, D', by rw [hp]; simp [outV], hPM, by rw [hDp, hdo, hact]⟩, lkc⟩
   ·
    refine x_seq ?_
    refine x_regionL ?_
    refine xl_v v_eql ?_
    refine xl_v v_assign ?_
    refine xl_nil ?_
    first | refine x_condP (fun c4 => ?_) (fun c4 => ?_) | refine x_condN (fun c4 => ?_) (fun c4 => ?_) | refine x_condE (fun c4 => ?_) (fun c4 => ?_)
    ·
     have hact : D.pure.act y = ((D.pure.alter y.a y.b y.n y.o y.list).1, 0, (D.pure.alter y.a y.b y.n y.o y.list).2) := by simp [Meta.act, c4]
     rw [← hyl] at hxl hxs hxB
     refine x_seq ?_
     refine x_regionL ?_
     refine xl_La ?_
     refine xl_Fa ?_
     refine xl_Ld ?_
     refine xl_Fa ?_
     refine xl_Ld ?_
     refine xl_Fa ?_
     refine xl_Ld ?_
     refine xl_Fa ?_
     refine xl_Ld ?_
     refine xl_Fa ?_
     refine xl_Ld ?_
     refine xl_v v_build ?_
     refine xl_call (refalter_ok R F1 y.a y.b y.n y.o x.A y.list.length x.c y.list w5 (hR.ext (kpc : Keep NoB w w5)) hokR rfl (by omega) (fun e a ha => by rw [hF1d]; exact .inr ⟨by rw [← hyl]; exact e, a, ha, rfl⟩)) ?_
     rintro _ w24 ⟨⟨R1, rfl, hM1⟩, lkr⟩
     obtain ⟨wa, hwa⟩ : ∃ x, x = w5 := ⟨_, rfl⟩
     obtain ⟨wb, hwb⟩ : ∃ x, x = w24 := ⟨_, rfl⟩
     rw [← hwa, ← hwb] at hM1
     have hwaw : w.heap.size ≤ wa.heap.size := by rw [hwa]; exact Ge.le
     have hwab : wa.heap.size ≤ wb.heap.size := by rw [hwa, hwb]; exact lkr.keep.size
     have hb3a : b3 < wa.heap.size := by rw [hwa]; exact Has.lt
     refine xl_v v_move ?_
     refine xl_v v_extract ?_
     refine xl_v v_extract ?_
     refine xl_e (e_alloc fun b25 w25 n25 l25 k25 => ?_)
     refine xl_s (e_storeA fun w26 l26 k26 => ?_)
     refine xl_v v_assign ?_
     refine xl_nil ?_
     refine x_seq ?_
     refine x_drawL (fun k => MetaB m D k ∨ OneB b3 k) (allS) (.take 0 (.take 1 (.take 2 (.take 3 (.take 4 (.take 5 (.take 6 (.take 7 (.take 8 (.take 9 (.take 10 (.take 11 (.take 13 (.eff 12 (.take 14 (.eff 15 (.take 16 .done))))))))))))))))) mixed (by kernel_rfl) (fun _ _ _ _ _ h => h) (fun w27 l27 => ?_)
     refine xt_La rfl ?_
     refine xt_v rfl v_move ?_
     refine xt_Fa rfl ?_
     refine xt_Ld rfl ?_
     refine xt_Fa rfl ?_
     refine xt_Ld rfl ?_
     refine xt_Fa rfl ?_
     refine xt_Ld rfl ?_
     refine xt_Fa rfl ?_
     refine xt_Ld rfl ?_
     refine xt_Fa rfl ?_
     refine xt_Ld rfl ?_
     refine xt_v rfl v_move ?_
     refine xt_call rfl (alter_ok m D y.a y.b y.n y.o x.A x.c y.list.length y.list w27 (h.at_.ext (kpc : Keep NoB w w27)) h.ok rfl (by omega) hxs) ?_
     rintro _ w28 ⟨rfl, hMd, lkM⟩
     refine ⟨kpc, ?_⟩
     obtain ⟨wp, hwp⟩ : ∃ x, x = w27 := ⟨_, rfl⟩
     obtain ⟨w3, hw3⟩ : ∃ x, x = w28 := ⟨_, rfl⟩
     rw [← hwp, ← hw3] at hMd
     have hkb : Keep NoB wb wp := by rw [hwb, hwp]; exact kpc
     have hk3 : Keep (MetaB m D) wp w3 := by rw [hwp, hw3]; exact lkM.keep
     refine xt_v rfl v_eql ?_
     refine xt_s rfl (e_storeA fun w29 l29 k29 => ?_)
     refine xt_v rfl v_assign ?_
     refine xt_nil ?_
     refine x_ret ?_
     refine finR (rs := [.cell 6 35, .tmp 7]) rfl ?_
     obtain ⟨D', hPM, hDp⟩ := h.made hF1 hM1 hMd (by rw [hp]) (h.ok.alter _ _ _ _ _) hwaw hwab hkb hk3 (by rw [hw3]; exact kpc : Keep (OneB b3) w3 w29) ⟨hb3, hb3a⟩
     exact ⟨⟨R1, D', by rw [hp]; simp [outV], hPM, by rw [hDp, hdo, hact]⟩, lkc⟩
    ·
     refine x_seq ?_
     refine x_regionL ?_
     refine xl_v v_eql ?_
     refine xl_v v_assign ?_
     refine xl_nil ?_
     first | refine x_condP (fun c5 => ?_) (fun c5 => ?_) | refine x_condN (fun c5 => ?_) (fun c5 => ?_) | refine x_condE (fun c5 => ?_) (fun c5 => ?_)
     ·
      have hact : D.pure.act y = D.pure.init y.a := by simp [Meta.act, c5]
      refine x_seq ?_
      refine x_regionL ?_
      refine xl_La ?_
      refine xl_Fa ?_
      refine xl_Ld ?_
      refine xl_call (refinit_ok R F1 y.a w5 (hR.ext (kpc : Keep NoB w w5)) hokR) ?_
      rintro _ w30 ⟨⟨R1, rfl, hM1⟩, lkr⟩
      obtain ⟨wa, hwa⟩ : ∃ x, x = w5 := ⟨_, rfl⟩
      obtain ⟨wb, hwb⟩ : ∃ x, x = w30 := ⟨_, rfl⟩
      rw [← hwa, ← hwb] at hM1
      have hwaw : w.heap.size ≤ wa.heap.size := by rw [hwa]; exact Ge.le
      have hwab : wa.heap.size ≤ wb.heap.size := by rw [hwa, hwb]; exact lkr.keep.size
      have hb3a : b3 < wa.heap.size := by rw [hwa]; exact Has.lt
      refine xl_v v_move ?_
      refine xl_v v_extract ?_
      refine xl_v v_extract ?_
      refine xl_v v_extract ?_
      refine xl_e (e_alloc fun b31 w31 n31 l31 k31 => ?_)
      refine xl_s (e_storeA fun w32 l32 k32 => ?_)
      refine xl_v v_assign ?_
      refine xl_v v_assign ?_
      refine xl_nil ?_
      refine x_seq ?_
      refine x_regionL ?_
      refine xl_v v_move ?_
      refine xl_Fa ?_
      refine xl_Ld ?_
      refine xl_call (init_ok m D y.a w32 (h.at_.ext (kpc : Keep NoB w w32)) h.ok) ?_
      rintro _ w33 ⟨rfl, hMd, lkM⟩
      obtain ⟨wp, hwp⟩ : ∃ x, x = w32 := ⟨_, rfl⟩
      obtain ⟨w3, hw3⟩ : ∃ x, x = w33 := ⟨_, rfl⟩
      rw [← hwp, ← hw3] at hMd
      have hkb : Keep NoB wb wp := by rw [hwb, hwp]; exact kpc
      have hk3 : Keep (MetaB m D) wp w3 := by rw [hwp, hw3]; exact lkM.keep
      refine xl_v v_move ?_
      refine xl_v v_extract ?_
      refine xl_v v_extract ?_
      refine xl_v v_assign ?_
      refine xl_v v_assign ?_
      refine xl_nil ?_
      refine x_seq ?_
      refine x_regionL ?_
      refine xl_La ?_
      refine xl_v v_move ?_
      refine xl_v v_move ?_
      refine xl_v (v_eqlT (by rw [hp])) ?_
      refine xl_v v_move ?_
      refine xl_gv rfl EvO.eq v_move ?_
      refine xl_gv rfl EvO.eq v_move ?_
      refine xl_gv rfl EvO.eq (v_eqlT (by rw [hp])) ?_
      refine xl_Pk ?_
      refine xl_s (e_storeA fun w34 l34 k34 => ?_)
      refine xl_v v_assign ?_
      refine xl_nil ?_
      refine x_ret ?_
      refine finR (rs := [.cell 6 35, .tmp 7]) rfl ?_
      obtain ⟨D', hPM, hDp⟩ := h.made hF1 hM1 hMd (by rw [hp]) (h.ok.init _) hwaw hwab hkb hk3 (by rw [hw3]; exact kpc : Keep (OneB b3) w3 w34) ⟨hb3, hb3a⟩
      exact ⟨⟨R1, D', by simp [outV], hPM, by rw [hDp, hdo, hact]⟩, lkc⟩
     ·
      refine x_seq ?_
      refine x_regionL ?_
      refine xl_v v_eql ?_
      refine xl_v v_assign ?_
      refine xl_nil ?_
      first | refine x_condP (fun c6 => ?_) (fun c6 => ?_) | refine x_condN (fun c6 => ?_) (fun c6 => ?_) | refine x_condE (fun c6 => ?_) (fun c6 => ?_)
      ·
       have hact : D.pure.act y = D.pure.add y.a y.n y.b := by simp [Meta.act, c6]
       refine x_seq ?_
       refine x_regionL ?_
       refine xl_La ?_
       refine xl_Fa ?_
       refine xl_Ld ?_
       refine xl_Fa ?_
       refine xl_Ld ?_
       refine xl_Fa ?_
       refine xl_Ld ?_
       refine xl_call (refadd_ok R F1 y.a y.n y.b w5 (hR.ext (kpc : Keep NoB w w5)) hokR) ?_
       rintro _ w35 ⟨⟨R1, rfl, hM1⟩, lkr⟩
       obtain ⟨wa, hwa⟩ : ∃ x, x = w5 := ⟨_, rfl⟩
       obtain ⟨wb, hwb⟩ : ∃ x, x = w35 := ⟨_, rfl⟩
       rw [← hwa, ← hwb] at hM1
       have hwaw : w.heap.size ≤ wa.heap.size := by rw [hwa]; exact Ge.le
       have hwab : wa.heap.size ≤ wb.heap.size := by rw [hwa, hwb]; exact lkr.keep.size
       have hb3a : b3 < wa.heap.size := by rw [hwa]; exact Has.lt
       refine xl_v v_move ?_
       refine xl_v v_extract ?_
       refine xl_v v_extract ?_
       refine xl_v v_extract ?_
       refine xl_e (e_alloc fun b36 w36 n36 l36 k36 => ?_)
       refine xl_s (e_storeA fun w37 l37 k37 => ?_)
       refine xl_v v_assign ?_
       refine xl_v v_assign ?_
       refine xl_nil ?_
       refine x_seq ?_
       refine x_regionL ?_
       refine xl_v v_move ?_
       refine xl_Fa ?_
       refine xl_Ld ?_
       refine xl_Fa ?_
       refine xl_Ld ?_
       refine xl_Fa ?_
       refine xl_Ld ?_
       refine xl_call (add_ok m D y.a y.n y.b w37 (h.at_.ext (kpc : Keep NoB w w37)) h.ok) ?_
       rintro _ w38 ⟨rfl, hMd, lkM⟩
       obtain ⟨wp, hwp⟩ : ∃ x, x = w37 := ⟨_, rfl⟩
       obtain ⟨w3, hw3⟩ : ∃ x, x = w38 := ⟨_, rfl⟩
       rw [← hwp, ← hw3] at hMd
       have hkb : Keep NoB wb wp := by rw [hwb, hwp]; exact kpc
       have hk3 : Keep (MetaB m D) wp w3 := by rw [hwp, hw3]; exact lkM.keep
       refine xl_v v_move ?_
       refine xl_v v_extract ?_
       refine xl_v v_extract ?_
       refine xl_v v_assign ?_
       refine xl_v v_assign ?_
       refine xl_nil ?_
       refine x_seq ?_
       refine x_regionL ?_
       refine xl_La ?_
       refine xl_v v_move ?_
       refine xl_v v_move ?_
       refine xl_v (v_eqlT (by rw [hp])) ?_
       refine xl_v v_move ?_
       refine xl_gv rfl EvO.eq v_move ?_
       refine xl_gv rfl EvO.eq v_move ?_
       refine xl_gv rfl EvO.eq (v_eqlT (by rw [hp])) ?_
       refine xl_Pk ?_
       refine xl_s (e_storeA fun w39 l39 k39 => ?_)
       refine xl_v v_assign ?_
       refine xl_nil ?_
       refine x_ret ?_
       refine finR (rs := [.cell 6 35, .tmp 7]) rfl ?_
       obtain ⟨D', hPM, hDp⟩ := h.made hF1 hM1 hMd (by rw [hp]) (h.ok.add _ _ _) hwaw hwab hkb hk3 (by rw [hw3]; exact kpc : Keep (OneB b3) w3 w39) ⟨hb3, hb3a⟩
       exact ⟨⟨R1, D', by simp [outV], hPM, by rw [hDp, hdo, hact]⟩, lkc⟩
      ·
       refine x_seq ?_
       refine x_regionL ?_
       refine xl_v v_eql ?_
       refine xl_v v_assign ?_
       refine xl_nil ?_
       first | refine x_condP (fun c7 => ?_) (fun c7 => ?_) | refine x_condN (fun c7 => ?_) (fun c7 => ?_) | refine x_condE (fun c7 => ?_) (fun c7 => ?_)
       ·
        have hact : D.pure.act y = ((D.pure.ends y.a y.n y.flag y.o).1, 0, (D.pure.ends y.a y.n y.flag y.o).2) := by simp [Meta.act, c7]
        refine x_seq ?_
        refine x_regionL ?_
        refine xl_La ?_
        refine xl_Fa ?_
        refine xl_Ld ?_
        refine xl_Fa ?_
        refine xl_Ld ?_
        refine xl_Fa ?_
        refine xl_Ld ?_
        refine xl_Fa ?_
        refine xl_Ld ?_
        refine xl_call (refends_ok R F1 y.a y.n y.flag y.o w5 (hR.ext (kpc : Keep NoB w w5)) hokR) ?_
        rintro _ w40 ⟨⟨R1, rfl, hM1⟩, lkr⟩
        obtain ⟨wa, hwa⟩ : ∃ x, x = w5 := ⟨_, rfl⟩
        obtain ⟨wb, hwb⟩ : ∃ x, x = w40 := ⟨_, rfl⟩
        rw [← hwa, ← hwb] at hM1
        have hwaw : w.heap.size ≤ wa.heap.size := by rw [hwa]; exact Ge.le
        have hwab : wa.heap.size ≤ wb.heap.size := by rw [hwa, hwb]; exact lkr.keep.size
        have hb3a : b3 < wa.heap.size := by rw [hwa]; exact Has.lt
        refine xl_v v_move ?_
        refine xl_v v_extract ?_
        refine xl_v v_extract ?_
        refine xl_e (e_alloc fun b41 w41 n41 l41 k41 => ?_)
        refine xl_s (e_storeA fun w42 l42 k42 => ?_)
        refine xl_v v_assign ?_
        refine xl_nil ?_
        refine x_seq ?_
        refine x_drawL (fun k => MetaB m D k ∨ OneB b3 k) (allS) (.take 0 (.take 1 (.take 2 (.take 3 (.take 4 (.take 5 (.take 6 (.take 7 (.take 8 (.take 9 (.take 11 (.eff 10 (.take 12 (.eff 13 (.take 14 .done))))))))))))))) mixed (by kernel_rfl) (fun _ _ _ _ _ h => h) (fun w43 l43 => ?_)
        refine xt_La rfl ?_
        refine xt_v rfl v_move ?_
        refine xt_Fa rfl ?_
        refine xt_Ld rfl ?_
        refine xt_Fa rfl ?_
        refine xt_Ld rfl ?_
        refine xt_Fa rfl ?_
        refine xt_Ld rfl ?_
        refine xt_Fa rfl ?_
        refine xt_Ld rfl ?_
        refine xt_v rfl v_move ?_
        refine xt_call rfl (ends_ok m D y.a y.n y.flag y.o w43 (h.at_.ext (kpc : Keep NoB w w43)) h.ok) ?_
        rintro _ w44 ⟨rfl, hMd, lkM⟩
        refine ⟨kpc, ?_⟩
        obtain ⟨wp, hwp⟩ : ∃ x, x = w43 := ⟨_, rfl⟩
        obtain ⟨w3, hw3⟩ : ∃ x, x = w44 := ⟨_, rfl⟩
        rw [← hwp, ← hw3] at hMd
        have hkb : Keep NoB wb wp := by rw [hwb, hwp]; exact kpc
        have hk3 : Keep (MetaB m D) wp w3 := by rw [hwp, hw3]; exact lkM.keep
        refine xt_v rfl v_eql ?_
        refine xt_s rfl (e_storeA fun w45 l45 k45 => ?_)
        refine xt_v rfl v_assign ?_
        refine xt_nil ?_
        refine x_ret ?_
        refine finR (rs := [.cell 6 35, .tmp 7]) rfl ?_
        obtain ⟨D', hPM, hDp⟩ := h.made hF1 hM1 hMd (by rw [hp]) (h.ok.ends _ _ _ _) hwaw hwab hkb hk3 (by rw [hw3]; exact kpc : Keep (OneB b3) w3 w45) ⟨hb3, hb3a⟩
        exact ⟨⟨R1, D', by rw [hp]; simp [outV], hPM, by rw [hDp, hdo, hact]⟩, lkc⟩
       ·
        refine x_seq ?_
        refine x_regionL ?_
        refine xl_v v_eql ?_
        refine xl_v v_assign ?_
        refine xl_nil ?_
        first | refine x_condP (fun c8 => ?_) (fun c8 => ?_) | refine x_condN (fun c8 => ?_) (fun c8 => ?_) | refine x_condE (fun c8 => ?_) (fun c8 => ?_)
        ·
         have hact : D.pure.act y = ((D.pure.marked y.a y.n y.b).1, 0, (D.pure.marked y.a y.n y.b).2) := by simp [Meta.act, c8]
         refine x_seq ?_
         refine x_regionL ?_
         refine xl_La ?_
         refine xl_Fa ?_
         refine xl_Ld ?_
         refine xl_Fa ?_
         refine xl_Ld ?_
         refine xl_Fa ?_
         refine xl_Ld ?_
         refine xl_call (refmarked_ok R F1 y.a y.n y.b w5 (hR.ext (kpc : Keep NoB w w5)) hokR) ?_
         rintro _ w46 ⟨⟨R1, rfl, hM1⟩, lkr⟩
         obtain ⟨wa, hwa⟩ : ∃ x, x = w5 := ⟨_, rfl⟩
         obtain ⟨wb, hwb⟩ : ∃ x, x = w46 := ⟨_, rfl⟩
         rw [← hwa, ← hwb] at hM1
         have hwaw : w.heap.size ≤ wa.heap.size := by rw [hwa]; exact Ge.le
         have hwab : wa.heap.size ≤ wb.heap.size := by rw [hwa, hwb]; exact lkr.keep.size
         have hb3a : b3 < wa.heap.size := by rw [hwa]; exact Has.lt
         refine xl_v v_move ?_
         refine xl_v v_extract ?_
         refine xl_v v_extract ?_
         refine xl_e (e_alloc fun b47 w47 n47 l47 k47 => ?_)
         refine xl_s (e_storeA fun w48 l48 k48 => ?_)
         refine xl_v v_assign ?_
         refine xl_nil ?_
         refine x_seq ?_
         refine x_drawL (fun k => MetaB m D k ∨ OneB b3 k) (allS) (.take 0 (.take 1 (.take 2 (.take 3 (.take 4 (.take 5 (.take 6 (.take 7 (.take 9 (.eff 8 (.take 10 (.eff 11 (.take 12 .done))))))))))))) mixed (by kernel_rfl) (fun _ _ _ _ _ h => h) (fun w49 l49 => ?_)
         refine xt_La rfl ?_
         refine xt_v rfl v_move ?_
         refine xt_Fa rfl ?_
         refine xt_Ld rfl ?_
         refine xt_Fa rfl ?_
         refine xt_Ld rfl ?_
         refine xt_Fa rfl ?_
         refine xt_Ld rfl ?_
         refine xt_v rfl v_move ?_
         refine xt_call rfl (marked_ok m D y.a y.n y.b w49 (h.at_.ext (kpc : Keep NoB w w49)) h.ok) ?_
         rintro _ w50 ⟨rfl, hMd, lkM⟩
         refine ⟨kpc, ?_⟩
         obtain ⟨wp, hwp⟩ : ∃ x, x = w49 := ⟨_, rfl⟩
         obtain ⟨w3, hw3⟩ : ∃ x, x = w50 := ⟨_, rfl⟩
         rw [← hwp, ← hw3] at hMd
         have hkb : Keep NoB wb wp := by rw [hwb, hwp]; exact kpc
         have hk3 : Keep (MetaB m D) wp w3 := by rw [hwp, hw3]; exact lkM.keep
         refine xt_v rfl v_eql ?_
         refine xt_s rfl (e_storeA fun w51 l51 k51 => ?_)
         refine xt_v rfl v_assign ?_
         refine xt_nil ?_
         refine x_ret ?_
         refine finR (rs := [.cell 6 35, .tmp 7]) rfl ?_
         obtain ⟨D', hPM, hDp⟩ := h.made hF1 hM1 hMd (by rw [hp]) (h.ok.marked _ _ _) hwaw hwab hkb hk3 (by rw [hw3]; exact kpc : Keep (OneB b3) w3 w51) ⟨hb3, hb3a⟩
         exact ⟨⟨R1, D', by rw [hp]; simp [outV], hPM, by rw [hDp, hdo, hact]⟩, lkc⟩
        ·
         have hact : D.pure.act y = (D.pure, 0, 0) := by simp [Meta.act, c1, c2, c3, c4, c5, c6, c7, c8]
         refine x_skip ?_
         refine x_seq ?_
         refine x_regionL ?_
         refine xl_La ?_
         refine xl_s (e_storeA fun w52 l52 k52 => ?_)
         refine xl_v v_assign ?_
         refine xl_nil ?_
         refine x_ret ?_
         refine finR (rs := [.cell 6 35, .tmp 7]) rfl ?_
         have hPM : PairM P Q m D R w52 := h.cell (S := fun k => w.heap.size ≤ k) (by
          haveI : SubF (OneB b3) (fun k => w.heap.size ≤ k) w := ⟨fun k _ e => by have e' : k = b3 := e; rw [e']; exact hb3⟩
          exact kpc) (fun k hk e => absurd hk (Nat.not_lt.2 e))
         exact ⟨⟨R, D, by simp [outV], hPM, by rw [hdo, hact]⟩, lkc⟩
end Go.Proofs.Ytnjpladlfiaojaa
