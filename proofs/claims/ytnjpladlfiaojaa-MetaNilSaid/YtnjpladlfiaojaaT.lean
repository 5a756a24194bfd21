/-
 Walks, printed by a program of this workplace (wip/tools/sx.py) off the functions' code and a text of contracts.
-/
import Derived.Test.YtnjpladlfiaojaaS
set_option linter.all false
set_option maxRecDepth 100000
set_option synthInstance.maxSize 100000
set_option synthInstance.maxHeartbeats 400000
namespace Go.Proofs.Ytnjpladlfiaojaa
open Go.Wst
open Go.Wst.Ct
/-- What a call makes of the document's controller. -/
def RMade (F : Nat → Prop) (w : World) (M : Meta) (w' : World) (R' : LMeta) : Prop := R'.pure = M ∧ ∃ F', RefAt w' F' R' ∧ Sub F' F w
theorem RMade.stay {F : Nat → Prop} {w w' : World} {M : Meta} {R : LMeta} (h : RefAt w F R) (hk : Keep NoB w w') (he : M = R.pure) : RMade F w M w' R := ⟨he.symm, F, h.ext hk, Sub.refl _ _⟩
theorem RMade.setW {F F' : Nat → Prop} {w w' : World} {R : LMeta} {i : Nat} {x : LW} {A : Option Addr} {c : Nat} (h : RefAt w' F' { R with ws := R.ws.set i x, WA := A, wc := c }) (hs : Sub F' F w) : RMade F w (R.pure.setW i x.w) w' { R with ws := R.ws.set i x, WA := A, wc := c } :=
 ⟨by simp [LMeta.pure, Meta.setW, List.map_set], F', h, hs⟩
theorem RMade.setV {F F' : Nat → Prop} {w w' : World} {R : LMeta} {i : Nat} {x : LV} {A : Option Addr} {c : Nat} (h : RefAt w' F' { R with vs := R.vs.set i x, VA := A, vc := c }) (hs : Sub F' F w) : RMade F w (R.pure.setV i x.v) w' { R with vs := R.vs.set i x, VA := A, vc := c } :=
 ⟨by simp [LMeta.pure, Meta.setV, List.map_set], F', h, hs⟩
theorem sub_le {F' F : Nat → Prop} {w1 w : World} (h : Sub F' F w1) (hw : w.heap.size ≤ w1.heap.size) : Sub F' F w := fun k e => (h k e).imp id (fun e => Nat.le_trans hw e)
theorem RefAt.cell {F F' : Nat → Prop} {w wp w1 w' : World} {R : LMeta} {b : Nat} (h : RefAt w1 F' R) (hs : Sub F' F wp) (hl : ∀ k, F k → k < w.heap.size) (hb : w.heap.size ≤ b ∧ b < wp.heap.size) (hk : Keep (OneB b) w1 w') : RefAt w' F' R :=
 h.keep hk (fun k e e2 => by
  have e' : k = b := e2
  rcases hs k e with q | q
  ·have := hl k q; omega
  ·omega)

/-- (waystation/waystationref10.Meta).Register -/
theorem refregister_ok (R : LMeta) (F : Nat → Prop) (b : Int) (w : World) (h : RefAt w F R) (hok : R.pure.ok) : Ret Try.prog 39 #[.agg (metaC R).toArray, .int .i64 b] w (fun v w' => (∃ R', v = .tuple #[.agg (metaC R').toArray, .int .i64 (R.pure.register b).2] ∧ RMade F w (R.pure.register b).1 w' R') ∧ Lk w' w NoB) := by
 obtain ⟨hll, hvl, hwl, hnb, hnp, hni⟩ := lens hok
 refine ret_of_x (N := 19) (l := [.agg (metaC R).toArray, .int .i64 b]) Try.func39 rfl rfl (Nat.le_of_ble_eq_true rfl) ?_
 refine x_seq ?_
 refine x_regionL ?_
 refine xl_e (e_box fun b1 w1 n1 l1 k1 => ?_)
 refine xl_e (e_alloc fun b2 w2 n2 l2 k2 => ?_)
 refine xl_v v_assign ?_
 refine xl_nil ?_
 refine x_seq ?_
 refine x_seq ?_
 refine x_regionL ?_
 refine xl_v v_move ?_
 refine xl_v v_lss ?_
 refine xl_v v_move ?_
 refine xl_split 8 (fun g8 => ?_) (fun g8 => ?_)
 ·
  refine xl_gs rfl EvO.eq ?_
  refine xl_gs rfl EvO.eq ?_
  refine xl_gs rfl EvO.eq ?_
  refine xl_gs rfl EvO.eq ?_
  refine xl_gs rfl EvO.eq ?_
  refine xl_Pk ?_
  refine xl_nil ?_
  refine x_condT ?_
  refine x_seq ?_
  refine x_regionL ?_
  refine xl_La ?_
  refine xl_s (e_storeA fun w3 l3 k3 => ?_)
  refine xl_v v_assign ?_
  refine xl_nil ?_
  refine x_ret ?_
  refine finR (rs := [.cell 4 35, .tmp 5]) rfl ?_
  have hn : ¬ inN b R.nb := by
   unfold inN
   first
    | (simp at g8; omega)
    | (simp at c1; omega)
  have hr : R.pure.register b = (R.pure, 2) := if_pos hn
  exact ⟨⟨R, by rw [hr]; rfl, RMade.stay h kpc (by rw [hr])⟩, lkc⟩
 ·
  refine xl_gv rfl EvO.eq v_move ?_
  refine xl_gFa rfl EvO.eq ?_
  refine xl_gFa rfl EvO.eq ?_
  refine xl_gLd rfl EvO.eq ?_
  refine xl_gv rfl EvO.eq v_geq ?_
  refine xl_Pk ?_
  refine xl_nil ?_
  refine x_condE (fun c1 => ?_) (fun c1 => ?_)
  ·
   refine x_seq ?_
   refine x_regionL ?_
   refine xl_La ?_
   refine xl_s (e_storeA fun w4 l4 k4 => ?_)
   refine xl_v v_assign ?_
   refine xl_nil ?_
   refine x_ret ?_
   refine finR (rs := [.cell 4 35, .tmp 5]) rfl ?_
   have hn : ¬ inN b R.nb := by
    unfold inN
    first
     | (simp at g8; omega)
     | (simp at c1; omega)
   have hr : R.pure.register b = (R.pure, 2) := if_pos hn
   exact ⟨⟨R, by rw [hr]; rfl, RMade.stay h kpc (by rw [hr])⟩, lkc⟩
  ·
   have hn : inN b R.nb := by
    simp at g8 c1
    exact ⟨by omega, by omega⟩
   have hr : R.pure.register b = (R.pure.setL b true, 0) := if_neg (fun e => e hn)
   obtain ⟨i, rfl, hi⟩ := nat_of hn
   refine x_skip ?_
   refine x_seq ?_
   refine x_regionL ?_
   refine xl_La ?_
   refine xl_v v_move ?_
   refine xl_call (reflive_ok R F i true w2 (h.ext (kpc : Keep NoB w w2)) (by omega) (by omega)) ?_
   rintro _ w5 ⟨⟨A, c, F', rfl, hR', hs⟩, lk2⟩
   have hs2 := sub_le hs (Ge.le : w.heap.size ≤ (w2).heap.size)
   have hbx : w.heap.size ≤ b2 ∧ b2 < (w2).heap.size := ⟨by rw [n2.eq]; exact Ge.le, Has.lt⟩
   refine xl_s (e_storeA fun w6 l6 k6 => ?_)
   refine xl_v v_assign ?_
   refine xl_nil ?_
   refine x_ret ?_
   refine finR (rs := [.cell 4 35, .tmp 5]) rfl ?_
   exact ⟨⟨_, by rw [hr]; rfl, by rw [hr]; rfl, F', hR'.cell hs h.lt hbx kpc, hs2⟩, lkc⟩

/-- (waystation/waystationref10.Meta).Init -/
theorem refinit_ok (R : LMeta) (F : Nat → Prop) (b : Int) (w : World) (h : RefAt w F R) (hok : R.pure.ok) : Ret Try.prog 42 #[.agg (metaC R).toArray, .int .i64 b] w (fun v w' => (∃ R', v = .tuple #[.agg (metaC R').toArray, .int .i64 (R.pure.init b).2.1, .int .i64 (R.pure.init b).2.2] ∧ RMade F w (R.pure.init b).1 w' R') ∧ Lk w' w NoB) := by
 obtain ⟨hll, hvl, hwl, hnb, hnp, hni⟩ := lens hok
 have hmost : most = 2147483647 := rfl
 haveI hrb : RowB w R.WA w (R.ws.flatMap wrC) := rowB_of h.wrs.row
 refine ret_of_x (N := 49) (l := [.agg (metaC R).toArray, .int .i64 b]) Try.func42 rfl rfl (Nat.le_of_ble_eq_true rfl) ?_
 refine x_seq ?_
 refine x_regionL ?_
 refine xl_e (e_box fun b1 w1 n1 l1 k1 => ?_)
 refine xl_e (e_alloc fun b2 w2 n2 l2 k2 => ?_)
 refine xl_v v_assign ?_
 refine xl_v v_assign ?_
 refine xl_nil ?_
 refine x_seq ?_
 refine x_seq ?_
 refine x_regionL ?_
 refine xl_v v_move ?_
 refine xl_v v_lss ?_
 refine xl_v v_move ?_
 refine xl_split 10 (fun g10 => ?_) (fun g10 => ?_)
 ·
  refine xl_gs rfl EvO.eq ?_
  refine xl_gs rfl EvO.eq ?_
  refine xl_gs rfl EvO.eq ?_
  refine xl_gs rfl EvO.eq ?_
  refine xl_gs rfl EvO.eq ?_
  refine xl_Pk ?_
  refine xl_nil ?_
  refine x_condT ?_
  refine x_seq ?_
  refine x_regionL ?_
  refine xl_La ?_
  refine xl_s (e_storeA fun w3 l3 k3 => ?_)
  refine xl_v v_assign ?_
  refine xl_v v_assign ?_
  refine xl_nil ?_
  refine x_ret ?_
  refine finR (rs := [.cell 4 35, .tmp 5, .tmp 6]) rfl ?_
  have hn : ¬ inN b R.ni := by
   unfold inN
   first
    | (simp at g10; omega)
    | (simp at c1; omega)
  have hr : R.pure.init b = (R.pure, 0, 2) := if_pos hn
  exact ⟨⟨R, by rw [hr]; rfl, RMade.stay h kpc (by rw [hr])⟩, lkc⟩
 ·
  refine xl_gv rfl EvO.eq v_move ?_
  refine xl_gFa rfl EvO.eq ?_
  refine xl_gFa rfl EvO.eq ?_
  refine xl_gLd rfl EvO.eq ?_
  refine xl_gv rfl EvO.eq v_geq ?_
  refine xl_Pk ?_
  refine xl_nil ?_
  refine x_condE (fun c1 => ?_) (fun c1 => ?_)
  ·
   refine x_seq ?_
   refine x_regionL ?_
   refine xl_La ?_
   refine xl_s (e_storeA fun w4 l4 k4 => ?_)
   refine xl_v v_assign ?_
   refine xl_v v_assign ?_
   refine xl_nil ?_
   refine x_ret ?_
   refine finR (rs := [.cell 4 35, .tmp 5, .tmp 6]) rfl ?_
   have hn : ¬ inN b R.ni := by
    unfold inN
    first
     | (simp at g10; omega)
     | (simp at c1; omega)
   have hr : R.pure.init b = (R.pure, 0, 2) := if_pos hn
   exact ⟨⟨R, by rw [hr]; rfl, RMade.stay h kpc (by rw [hr])⟩, lkc⟩
  ·
   have hn : inN b R.ni := by
    simp at g10 c1
    exact ⟨by omega, by omega⟩
   have hr : R.pure.init b = _ := if_neg (fun e => e hn)
   obtain ⟨i, rfl, hi⟩ := nat_of hn
   have hi : i < R.ws.length := by omega
   have ho := hok.wr hn
   rw [wr_at hi] at hr ho
   have hs0 := ho.s0
   have hs1 := ho.s1
   have hpx := h.parts R.ws[i] (List.getElem_mem hi)
   refine x_skip ?_
   refine x_seq ?_
   refine x_regionL ?_
   refine xl_Fa ?_
   refine xl_Ld ?_
   refine xl_v v_move ?_
   refine xl_v (v_indexF i (by decide) rfl (by omega) hi) ?_
   refine xl_v (v_loadF (k := i) (by decide) hi) ?_
   refine xl_e (e_alloc fun b5 w5 n5 l5 k5 => ?_)
   refine xl_s (e_storeA fun w6 l6 k6 => ?_)
   refine xl_nil ?_
   refine x_seq ?_
   refine x_seq ?_
   refine x_regionL ?_
   refine xl_Fa ?_
   refine xl_Ld ?_
   refine xl_v v_geq ?_
   refine xl_nil ?_
   first | refine x_condP (fun c2 => ?_) (fun c2 => ?_) | refine x_condN (fun c2 => ?_) (fun c2 => ?_) | refine x_condE (fun c2 => ?_) (fun c2 => ?_)
   ·
    rw [if_pos c2] at hr
    refine x_seq ?_
    refine x_regionL ?_
    refine xl_La ?_
    refine xl_s (e_storeA fun w7 l7 k7 => ?_)
    refine xl_v v_assign ?_
    refine xl_v v_assign ?_
    refine xl_nil ?_
    refine x_ret ?_
    refine finR (rs := [.cell 4 35, .tmp 5, .tmp 6]) rfl ?_
    exact ⟨⟨R, by rw [hr]; rfl, RMade.stay h kpc (by rw [hr])⟩, lkc⟩
   ·
    rw [if_neg c2] at hr
    refine x_skip ?_
    refine x_seq ?_
    refine x_seq ?_
    refine x_regionL ?_
    refine xl_Fa ?_
    refine xl_Ld ?_
    refine xl_v v_eql ?_
    refine xl_nil ?_
    first | refine x_condP (fun c3 => ?_) (fun c3 => ?_) | refine x_condN (fun c3 => ?_) (fun c3 => ?_) | refine x_condE (fun c3 => ?_) (fun c3 => ?_)
    ·
     rw [if_pos c3] at hr
     refine x_seq ?_
     refine x_regionL ?_
     refine xl_La ?_
     refine xl_s (e_storeA fun w8 l8 k8 => ?_)
     refine xl_v v_assign ?_
     refine xl_v v_assign ?_
     refine xl_nil ?_
     refine x_ret ?_
     refine finR (rs := [.cell 4 35, .tmp 5, .tmp 6]) rfl ?_
     exact ⟨⟨R, by rw [hr]; rfl, RMade.stay h kpc (by rw [hr])⟩, lkc⟩
    ·
     rw [if_neg c3] at hr
     refine x_skip ?_
     refine x_seq ?_
     refine x_regionL ?_
     refine xl_Fa ?_
     refine xl_Ld ?_
     refine xl_v (v_add (by omega)) ?_
     refine xl_Fa ?_
     refine xl_s (e_store fun w9 l9 k9 => ?_)
     refine xl_nil ?_
     refine x_seq ?_
     refine x_seq ?_
     refine x_regionL ?_
     refine xl_Fa ?_
     refine xl_Ld ?_
     refine xl_v v_eql ?_
     refine xl_nil ?_
     first | refine x_condP (fun c4 => ?_) (fun c4 => ?_) | refine x_condN (fun c4 => ?_) (fun c4 => ?_) | refine x_condE (fun c4 => ?_) (fun c4 => ?_)
     ·
      rw [if_pos c4] at hr
      refine x_seq ?_
      refine x_regionL ?_
      refine xl_Fa ?_
      refine xl_s (e_store fun w10 l10 k10 => ?_)
      refine xl_nil ?_
      refine x_seq ?_
      refine x_regionL ?_
      refine xl_La ?_
      refine xl_v v_move ?_
      refine xl_La ?_
      refine xl_call (refwr_ok R F i (R.ws[i].up (R.ws[i].w.ses + 1) R.ws[i].w.num 4 R.ws[i].w.off R.ws[i].w.nxt) w10 (h.ext (kpc : Keep NoB w w10)) (hpx.keep (kpc : Keep NoB w w10) (fun _ _ h => h)) hi (by omega)) ?_
      rintro _ w11 ⟨⟨A, c, F', rfl, hR', hs⟩, lk2⟩
      have hs2 := sub_le hs (Ge.le : w.heap.size ≤ (w10).heap.size)
      have hbx : w.heap.size ≤ b2 ∧ b2 < (w10).heap.size := ⟨by rw [n2.eq]; exact Ge.le, Has.lt⟩
      refine xl_s (e_storeA fun w12 l12 k12 => ?_)
      refine xl_v v_assign ?_
      refine xl_v v_assign ?_
      refine xl_nil ?_
      refine x_ret ?_
      refine finR (rs := [.cell 4 35, .tmp 5, .tmp 6]) rfl ?_
      exact ⟨⟨_, by rw [hr]; rfl, by rw [hr]; exact RMade.setW (hR'.cell hs h.lt hbx kpc) hs2⟩, lkc⟩
     ·
      rw [if_neg c4] at hr
      refine x_skip ?_
      refine x_seq ?_
      refine x_drawL (OneB b2) (allS) (.take 0 (.take 1 (.take 2 (.take 4 (.take 5 (.eff 3 (.eff 6 (.take 7 (.take 8 .done))))))))) mixed (by kernel_rfl) (fun _ _ _ _ _ h => h) (fun w13 l13 => ?_)
      refine xt_La rfl ?_
      refine xt_v rfl v_move ?_
      refine xt_La rfl ?_
      refine xt_Fa rfl ?_
      refine xt_Ld rfl ?_
      refine xt_call rfl (refwr_ok R F i (R.ws[i].up (R.ws[i].w.ses + 1) R.ws[i].w.num R.ws[i].w.st R.ws[i].w.off R.ws[i].w.nxt) w13 (h.ext (kpc : Keep NoB w w13)) (hpx.keep (kpc : Keep NoB w w13) (fun _ _ h => h)) hi (by omega)) ?_
      rintro _ w14 ⟨⟨A, c, F', rfl, hR', hs⟩, lk2⟩
      refine ⟨kpc, ?_⟩
      have hs2 := sub_le hs (Ge.le : w.heap.size ≤ (w13).heap.size)
      have hbx : w.heap.size ≤ b2 ∧ b2 < (w13).heap.size := ⟨by rw [n2.eq]; exact Ge.le, Has.lt⟩
      refine xt_s rfl (e_storeA fun w15 l15 k15 => ?_)
      refine xt_v rfl v_assign ?_
      refine xt_v rfl v_assign ?_
      refine xt_nil ?_
      refine x_ret ?_
      refine finR (rs := [.cell 4 35, .tmp 5, .tmp 6]) rfl ?_
      exact ⟨⟨_, by rw [hr]; rfl, by rw [hr]; exact RMade.setW (hR'.cell hs h.lt hbx kpc) hs2⟩, lkc⟩
set_option maxHeartbeats 1000000 in
/-- (waystation/waystationref10.Meta).End -/
theorem refends_ok (R : LMeta) (F : Nat → Prop) (b ses : Int) (commit : Bool) (off : Int) (w : World) (h : RefAt w F R) (hok : R.pure.ok) : Ret Try.prog 44 #[.agg (metaC R).toArray, .int .i64 b, .int .i64 ses, .bool commit, .int .i64 off] w (fun v w' => (∃ R', v = .tuple #[.agg (metaC R').toArray, .int .i64 (R.pure.ends b ses commit off).2] ∧ RMade F w (R.pure.ends b ses commit off).1 w' R') ∧ Lk w' w NoB) := by
 obtain ⟨hll, hvl, hwl, hnb, hnp, hni⟩ := lens hok
 have hmost : most = 2147483647 := rfl
 haveI hrb : RowB w R.WA w (R.ws.flatMap wrC) := rowB_of h.wrs.row
 refine ret_of_x (N := 70) (l := [.agg (metaC R).toArray, .int .i64 b, .int .i64 ses, .bool commit, .int .i64 off]) Try.func44 rfl rfl (Nat.le_of_ble_eq_true rfl) ?_
 refine x_seq ?_
 refine x_regionL ?_
 refine xl_e (e_box fun b1 w1 n1 l1 k1 => ?_)
 refine xl_e (e_alloc fun b2 w2 n2 l2 k2 => ?_)
 refine xl_v v_assign ?_
 refine xl_nil ?_
 refine x_seq ?_
 refine x_seq ?_
 refine x_regionL ?_
 refine xl_v v_move ?_
 refine xl_v v_lss ?_
 refine xl_v v_move ?_
 refine xl_split 15 (fun g15 => ?_) (fun g15 => ?_)
 ·
  refine xl_gs rfl EvO.eq ?_
  refine xl_gs rfl EvO.eq ?_
  refine xl_gs rfl EvO.eq ?_
  refine xl_gs rfl EvO.eq ?_
  refine xl_gs rfl EvO.eq ?_
  refine xl_Pk ?_
  refine xl_nil ?_
  refine x_condT ?_
  refine x_seq ?_
  refine x_regionL ?_
  refine xl_La ?_
  refine xl_s (e_storeA fun w3 l3 k3 => ?_)
  refine xl_v v_assign ?_
  refine xl_nil ?_
  refine x_ret ?_
  refine finR (rs := [.cell 10 35, .tmp 11]) rfl ?_
  have hn : ¬ inN b R.ni := by
   unfold inN
   first
    | (simp at g15; omega)
    | (simp at c1; omega)
  have hr : R.pure.ends b ses commit off = (R.pure, 2) := if_pos hn
  exact ⟨⟨R, by rw [hr]; rfl, RMade.stay h kpc (by rw [hr])⟩, lkc⟩
 ·
  refine xl_gv rfl EvO.eq v_move ?_
  refine xl_gFa rfl EvO.eq ?_
  refine xl_gFa rfl EvO.eq ?_
  refine xl_gLd rfl EvO.eq ?_
  refine xl_gv rfl EvO.eq v_geq ?_
  refine xl_Pk ?_
  refine xl_nil ?_
  refine x_condE (fun c1 => ?_) (fun c1 => ?_)
  ·
   refine x_seq ?_
   refine x_regionL ?_
   refine xl_La ?_
   refine xl_s (e_storeA fun w4 l4 k4 => ?_)
   refine xl_v v_assign ?_
   refine xl_nil ?_
   refine x_ret ?_
   refine finR (rs := [.cell 10 35, .tmp 11]) rfl ?_
   have hn : ¬ inN b R.ni := by
    unfold inN
    first
     | (simp at g15; omega)
     | (simp at c1; omega)
   have hr : R.pure.ends b ses commit off = (R.pure, 2) := if_pos hn
   exact ⟨⟨R, by rw [hr]; rfl, RMade.stay h kpc (by rw [hr])⟩, lkc⟩
  ·
   have hn : inN b R.ni := by
    simp at g15 c1
    exact ⟨by omega, by omega⟩
   have hr : R.pure.ends b ses commit off = _ := if_neg (fun e => e hn)
   obtain ⟨i, rfl, hi⟩ := nat_of hn
   have hi : i < R.ws.length := by omega
   have ho := hok.wr hn
   have hself := setW_self R.pure (i := i) (by simpa [LMeta.pure] using hi)
   rw [wr_at hi] at hr ho hself
   have hst := ho.st
   have hpx := h.parts R.ws[i] (List.getElem_mem hi)
   refine x_skip ?_
   refine x_seq ?_
   refine x_regionL ?_
   refine xl_Fa ?_
   refine xl_Ld ?_
   refine xl_v v_move ?_
   refine xl_v (v_indexF i (by decide) rfl (by omega) hi) ?_
   refine xl_v (v_loadF (k := i) (by decide) hi) ?_
   refine xl_e (e_alloc fun bw w5 nw lw kw => ?_)
   refine xl_s (e_storeA fun w6 l6 k6 => ?_)
   refine xl_nil ?_
   refine x_seq ?_
   refine x_seq ?_
   refine x_regionL ?_
   refine xl_v v_move ?_
   refine xl_v v_lss ?_
   refine xl_v v_move ?_
   refine xl_split 30 (fun g30 => ?_) (fun g30 => ?_)
   ·
    refine xl_gs rfl EvO.eq ?_
    refine xl_gs rfl EvO.eq ?_
    refine xl_Pk ?_
    refine xl_v v_move ?_
    refine xl_gs rfl EvO.eq ?_
    refine xl_gs rfl EvO.eq ?_
    refine xl_gs rfl EvO.eq ?_
    refine xl_gs rfl EvO.eq ?_
    refine xl_Pk ?_
    refine xl_nil ?_
    refine x_condT ?_
    refine x_seq ?_
    refine x_regionL ?_
    refine xl_La ?_
    refine xl_s (e_storeA fun w7 l7 k7 => ?_)
    refine xl_v v_assign ?_
    refine xl_nil ?_
    refine x_ret ?_
    refine finR (rs := [.cell 10 35, .tmp 11]) rfl ?_
    have hE : off < 0 ∨ most < off ∨ off < R.ws[i].w.off := by
     first
      | (simp at g30; omega)
      | (simp at g34; omega)
      | (simp at c2; omega)
    rw [if_pos hE] at hr
    exact ⟨⟨R, by rw [hr]; rfl, RMade.stay h kpc (by rw [hr])⟩, lkc⟩
   ·
    refine xl_gv rfl EvO.eq v_move ?_
    refine xl_gv rfl EvO.eq v_gtr ?_
    refine xl_Pk ?_
    refine xl_v v_move ?_
    refine xl_split 34 (fun g34 => ?_) (fun g34 => ?_)
    ·
     refine xl_gs rfl EvO.eq ?_
     refine xl_gs rfl EvO.eq ?_
     refine xl_gs rfl EvO.eq ?_
     refine xl_gs rfl EvO.eq ?_
     refine xl_Pk ?_
     refine xl_nil ?_
     refine x_condT ?_
     refine x_seq ?_
     refine x_regionL ?_
     refine xl_La ?_
     refine xl_s (e_storeA fun w8 l8 k8 => ?_)
     refine xl_v v_assign ?_
     refine xl_nil ?_
     refine x_ret ?_
     refine finR (rs := [.cell 10 35, .tmp 11]) rfl ?_
     have hE : off < 0 ∨ most < off ∨ off < R.ws[i].w.off := by
      first
       | (simp at g30; omega)
       | (simp at g34; omega)
       | (simp at c2; omega)
     rw [if_pos hE] at hr
     exact ⟨⟨R, by rw [hr]; rfl, RMade.stay h kpc (by rw [hr])⟩, lkc⟩
    ·
     refine xl_gv rfl EvO.eq v_move ?_
     refine xl_gFa rfl EvO.eq ?_
     refine xl_gLd rfl EvO.eq ?_
     refine xl_gv rfl EvO.eq v_lss ?_
     refine xl_Pk ?_
     refine xl_nil ?_
     refine x_condE (fun c2 => ?_) (fun c2 => ?_)
     ·
      refine x_seq ?_
      refine x_regionL ?_
      refine xl_La ?_
      refine xl_s (e_storeA fun w9 l9 k9 => ?_)
      refine xl_v v_assign ?_
      refine xl_nil ?_
      refine x_ret ?_
      refine finR (rs := [.cell 10 35, .tmp 11]) rfl ?_
      have hE : off < 0 ∨ most < off ∨ off < R.ws[i].w.off := by
       first
        | (simp at g30; omega)
        | (simp at g34; omega)
        | (simp at c2; omega)
      rw [if_pos hE] at hr
      exact ⟨⟨R, by rw [hr]; rfl, RMade.stay h kpc (by rw [hr])⟩, lkc⟩
     ·
      have hE : ¬ (off < 0 ∨ most < off ∨ off < R.ws[i].w.off) := by
       simp at g30 g34 c2
       omega
      rw [if_neg hE] at hr
      refine x_skip ?_
      refine x_seq ?_
      refine x_seq ?_
      refine x_regionL ?_
      refine xl_Fa ?_
      refine xl_Ld ?_
      refine xl_v v_move ?_
      refine xl_v v_neq ?_
      refine xl_nil ?_
      first | refine x_condP (fun c3 => ?_) (fun c3 => ?_) | refine x_condN (fun c3 => ?_) (fun c3 => ?_) | refine x_condE (fun c3 => ?_) (fun c3 => ?_)
      ·
       rw [if_pos c3] at hr
       refine x_seq ?_
       refine x_regionL ?_
       refine xl_La ?_
       refine xl_s (e_storeA fun w10 l10 k10 => ?_)
       refine xl_v v_assign ?_
       refine xl_nil ?_
       refine x_ret ?_
       refine finR (rs := [.cell 10 35, .tmp 11]) rfl ?_
       exact ⟨⟨R, by rw [hr]; rfl, RMade.stay h kpc (by rw [hr])⟩, lkc⟩
      ·
       rw [if_neg (fun e => e c3)] at hr
       refine x_skip ?_
       refine x_seq ?_
       refine x_seq ?_
       refine x_regionL ?_
       refine xl_Fa ?_
       refine xl_Ld ?_
       refine xl_v v_geq ?_
       refine xl_nil ?_
       first | refine x_condP (fun c4 => ?_) (fun c4 => ?_) | refine x_condN (fun c4 => ?_) (fun c4 => ?_) | refine x_condE (fun c4 => ?_) (fun c4 => ?_)
       ·
        rw [if_pos c4] at hr
        refine x_seq ?_
        refine x_regionL ?_
        refine xl_La ?_
        refine xl_s (e_storeA fun w11 l11 k11 => ?_)
        refine xl_v v_assign ?_
        refine xl_nil ?_
        refine x_ret ?_
        refine finR (rs := [.cell 10 35, .tmp 11]) rfl ?_
        exact ⟨⟨R, by rw [hr]; rfl, RMade.stay h kpc (by rw [hr])⟩, lkc⟩
       ·
        rw [if_neg c4] at hr
        refine x_skip ?_
        refine x_seq ?_
        refine x_seq ?_
        refine x_regionL ?_
        refine xl_Fa ?_
        refine xl_Ld ?_
        refine xl_v v_eql ?_
        refine xl_v v_move ?_
        refine xl_split 53 (fun g53 => ?_) (fun g53 => ?_)
        ·
         refine xl_gv rfl EvO.eq v_move ?_
         refine xl_Pk ?_
         refine xl_nil ?_
         refine x_condE (fun c5 => ?_) (fun c5 => ?_)
         ·
          refine x_regionL ?_
          refine xl_v v_move ?_
          refine xl_Fa ?_
          refine xl_s (e_store fun w12 l12 k12 => ?_)
          refine xl_nil ?_
          refine x_seq ?_
          refine x_seq ?_
          refine x_regionL ?_
          refine xl_Fa ?_
          refine xl_Ld ?_
          refine xl_v v_eql ?_
          refine xl_nil ?_
          first | refine x_condP (fun c6 => ?_) (fun c6 => ?_) | refine x_condN (fun c6 => ?_) (fun c6 => ?_) | refine x_condE (fun c6 => ?_) (fun c6 => ?_)
          ·
           rw [if_pos c6] at hr
           refine x_seq ?_
           refine x_regionL ?_
           refine xl_Fa ?_
           refine xl_s (e_store fun w13 l13 k13 => ?_)
           refine xl_nil ?_
           refine x_seq ?_
           refine x_regionL ?_
           refine xl_v v_move ?_
           refine xl_nil ?_
           first | refine x_condP (fun c7 => ?_) (fun c7 => ?_) | refine x_condN (fun c7 => ?_) (fun c7 => ?_) | refine x_condE (fun c7 => ?_) (fun c7 => ?_)
           ·
            refine x_regionL ?_
            refine xl_v v_move ?_
            refine xl_Fa ?_
            refine xl_s (e_store fun w14 l14 k14 => ?_)
            refine xl_Fa ?_
            refine xl_s (e_store fun w15 l15 k15 => ?_)
            refine xl_nil ?_
            refine x_seq ?_
            obtain ⟨x, hbx5, hrx, hxA, hxp⟩ : ∃ x : LW, (w15).heap[bw]? = some (.cells (wrC x).toArray 52 (0, 0)) ∧ R.pure.ends (i : Int) ses commit off = (R.pure.setW i x.w, 0) ∧ x.A = R.ws[i].A ∧ x.w.parts = R.ws[i].w.parts := by
             first
              | (exfalso; simp at g53; omega)
              | exact ⟨R.ws[i].up R.ws[i].w.ses R.ws[i].w.num R.ws[i].w.st off R.ws[i].w.nxt, Blk.eq, by rw [hr, if_pos c5], rfl, rfl⟩
              | exact ⟨R.ws[i].up R.ws[i].w.ses R.ws[i].w.num 3 R.ws[i].w.off off, Blk.eq, by rw [hr, if_pos c7], rfl, rfl⟩
              | exact ⟨R.ws[i].up R.ws[i].w.ses R.ws[i].w.num 4 R.ws[i].w.off R.ws[i].w.nxt, Blk.eq, by rw [hr, if_neg (by rw [c7]; decide)], rfl, rfl⟩
              | exact ⟨R.ws[i], Blk.eq, by rw [hr, if_neg (by rw [c5]; decide)], rfl, rfl⟩
            haveI kx5 : Blk w15 bw _ := ⟨hbx5⟩
            refine x_regionL ?_
            refine xl_La ?_
            refine xl_v v_move ?_
            refine xl_La ?_
            refine xl_call (refwr_ok R F i x w15 (h.ext (kpc : Keep NoB w w15)) (by rw [hxA, hxp]; exact hpx.keep (kpc : Keep NoB w w15) (fun _ _ h => h)) hi (by omega)) ?_
            rintro _ w16 ⟨⟨A, c, F', rfl, hR', hs⟩, lk2⟩
            have hs2 := sub_le hs (Ge.le : w.heap.size ≤ (w15).heap.size)
            have hbx : w.heap.size ≤ b2 ∧ b2 < (w15).heap.size := ⟨by rw [n2.eq]; exact Ge.le, Has.lt⟩
            refine xl_s (e_storeA fun w17 l17 k17 => ?_)
            refine xl_v v_assign ?_
            refine xl_nil ?_
            refine x_ret ?_
            refine finR (rs := [.cell 10 35, .tmp 11]) rfl ?_
            exact ⟨⟨_, by rw [hrx]; rfl, by rw [hrx]; exact RMade.setW (hR'.cell hs h.lt hbx (kpc : Keep (OneB b2) _ w17)) hs2⟩, lkc⟩
           ·
            refine x_skip ?_
            refine x_seq ?_
            obtain ⟨x, hbx5, hrx, hxA, hxp⟩ : ∃ x : LW, (w13).heap[bw]? = some (.cells (wrC x).toArray 52 (0, 0)) ∧ R.pure.ends (i : Int) ses commit off = (R.pure.setW i x.w, 0) ∧ x.A = R.ws[i].A ∧ x.w.parts = R.ws[i].w.parts := by
             first
              | (exfalso; simp at g53; omega)
              | exact ⟨R.ws[i].up R.ws[i].w.ses R.ws[i].w.num R.ws[i].w.st off R.ws[i].w.nxt, Blk.eq, by rw [hr, if_pos c5], rfl, rfl⟩
              | exact ⟨R.ws[i].up R.ws[i].w.ses R.ws[i].w.num 3 R.ws[i].w.off off, Blk.eq, by rw [hr, if_pos c7], rfl, rfl⟩
              | exact ⟨R.ws[i].up R.ws[i].w.ses R.ws[i].w.num 4 R.ws[i].w.off R.ws[i].w.nxt, Blk.eq, by rw [hr, if_neg (by rw [c7]; decide)], rfl, rfl⟩
              | exact ⟨R.ws[i], Blk.eq, by rw [hr, if_neg (by rw [c5]; decide)], rfl, rfl⟩
            haveI kx5 : Blk w13 bw _ := ⟨hbx5⟩
            refine x_regionL ?_
            refine xl_La ?_
            refine xl_v v_move ?_
            refine xl_La ?_
            refine xl_call (refwr_ok R F i x w13 (h.ext (kpc : Keep NoB w w13)) (by rw [hxA, hxp]; exact hpx.keep (kpc : Keep NoB w w13) (fun _ _ h => h)) hi (by omega)) ?_
            rintro _ w18 ⟨⟨A, c, F', rfl, hR', hs⟩, lk2⟩
            have hs2 := sub_le hs (Ge.le : w.heap.size ≤ (w13).heap.size)
            have hbx : w.heap.size ≤ b2 ∧ b2 < (w13).heap.size := ⟨by rw [n2.eq]; exact Ge.le, Has.lt⟩
            refine xl_s (e_storeA fun w19 l19 k19 => ?_)
            refine xl_v v_assign ?_
            refine xl_nil ?_
            refine x_ret ?_
            refine finR (rs := [.cell 10 35, .tmp 11]) rfl ?_
            exact ⟨⟨_, by rw [hrx]; rfl, by rw [hrx]; exact RMade.setW (hR'.cell hs h.lt hbx (kpc : Keep (OneB b2) _ w19)) hs2⟩, lkc⟩
          ·
           rw [if_neg c6] at hr
           refine x_skip ?_
           refine x_seq ?_
           obtain ⟨x, hbx5, hrx, hxA, hxp⟩ : ∃ x : LW, (w12).heap[bw]? = some (.cells (wrC x).toArray 52 (0, 0)) ∧ R.pure.ends (i : Int) ses commit off = (R.pure.setW i x.w, 0) ∧ x.A = R.ws[i].A ∧ x.w.parts = R.ws[i].w.parts := by
            first
             | (exfalso; simp at g53; omega)
             | exact ⟨R.ws[i].up R.ws[i].w.ses R.ws[i].w.num R.ws[i].w.st off R.ws[i].w.nxt, Blk.eq, by rw [hr, if_pos c5], rfl, rfl⟩
             | exact ⟨R.ws[i].up R.ws[i].w.ses R.ws[i].w.num 3 R.ws[i].w.off off, Blk.eq, by rw [hr, if_pos c7], rfl, rfl⟩
             | exact ⟨R.ws[i].up R.ws[i].w.ses R.ws[i].w.num 4 R.ws[i].w.off R.ws[i].w.nxt, Blk.eq, by rw [hr, if_neg (by rw [c7]; decide)], rfl, rfl⟩
             | exact ⟨R.ws[i], Blk.eq, by rw [hr, if_neg (by rw [c5]; decide)], rfl, rfl⟩
           haveI kx5 : Blk w12 bw _ := ⟨hbx5⟩
           refine x_regionL ?_
           refine xl_La ?_
           refine xl_v v_move ?_
           refine xl_La ?_
           refine xl_call (refwr_ok R F i x w12 (h.ext (kpc : Keep NoB w w12)) (by rw [hxA, hxp]; exact hpx.keep (kpc : Keep NoB w w12) (fun _ _ h => h)) hi (by omega)) ?_
           rintro _ w20 ⟨⟨A, c, F', rfl, hR', hs⟩, lk2⟩
           have hs2 := sub_le hs (Ge.le : w.heap.size ≤ (w12).heap.size)
           have hbx : w.heap.size ≤ b2 ∧ b2 < (w12).heap.size := ⟨by rw [n2.eq]; exact Ge.le, Has.lt⟩
           refine xl_s (e_storeA fun w21 l21 k21 => ?_)
           refine xl_v v_assign ?_
           refine xl_nil ?_
           refine x_ret ?_
           refine finR (rs := [.cell 10 35, .tmp 11]) rfl ?_
           exact ⟨⟨_, by rw [hrx]; rfl, by rw [hrx]; exact RMade.setW (hR'.cell hs h.lt hbx (kpc : Keep (OneB b2) _ w21)) hs2⟩, lkc⟩
         ·
          refine x_skip ?_
          refine x_seq ?_
          refine x_seq ?_
          refine x_regionL ?_
          refine xl_Fa ?_
          refine xl_Ld ?_
          refine xl_v v_eql ?_
          refine xl_nil ?_
          first | refine x_condP (fun c6 => ?_) (fun c6 => ?_) | refine x_condN (fun c6 => ?_) (fun c6 => ?_) | refine x_condE (fun c6 => ?_) (fun c6 => ?_)
          ·
           rw [if_pos c6] at hr
           refine x_seq ?_
           refine x_regionL ?_
           refine xl_Fa ?_
           refine xl_s (e_store fun w22 l22 k22 => ?_)
           refine xl_nil ?_
           refine x_seq ?_
           refine x_regionL ?_
           refine xl_v v_move ?_
           refine xl_nil ?_
           first | refine x_condP (fun c7 => ?_) (fun c7 => ?_) | refine x_condN (fun c7 => ?_) (fun c7 => ?_) | refine x_condE (fun c7 => ?_) (fun c7 => ?_)
           ·
            refine x_regionL ?_
            refine xl_v v_move ?_
            refine xl_Fa ?_
            refine xl_s (e_store fun w23 l23 k23 => ?_)
            refine xl_Fa ?_
            refine xl_s (e_store fun w24 l24 k24 => ?_)
            refine xl_nil ?_
            refine x_seq ?_
            obtain ⟨x, hbx5, hrx, hxA, hxp⟩ : ∃ x : LW, (w24).heap[bw]? = some (.cells (wrC x).toArray 52 (0, 0)) ∧ R.pure.ends (i : Int) ses commit off = (R.pure.setW i x.w, 0) ∧ x.A = R.ws[i].A ∧ x.w.parts = R.ws[i].w.parts := by
             first
              | (exfalso; simp at g53; omega)
              | exact ⟨R.ws[i].up R.ws[i].w.ses R.ws[i].w.num R.ws[i].w.st off R.ws[i].w.nxt, Blk.eq, by rw [hr, if_pos c5], rfl, rfl⟩
              | exact ⟨R.ws[i].up R.ws[i].w.ses R.ws[i].w.num 3 R.ws[i].w.off off, Blk.eq, by rw [hr, if_pos c7], rfl, rfl⟩
              | exact ⟨R.ws[i].up R.ws[i].w.ses R.ws[i].w.num 4 R.ws[i].w.off R.ws[i].w.nxt, Blk.eq, by rw [hr, if_neg (by rw [c7]; decide)], rfl, rfl⟩
              | exact ⟨R.ws[i], Blk.eq, by rw [hr, if_neg (by rw [c5]; decide)], rfl, rfl⟩
            haveI kx5 : Blk w24 bw _ := ⟨hbx5⟩
            refine x_regionL ?_
            refine xl_La ?_
            refine xl_v v_move ?_
            refine xl_La ?_
            refine xl_call (refwr_ok R F i x w24 (h.ext (kpc : Keep NoB w w24)) (by rw [hxA, hxp]; exact hpx.keep (kpc : Keep NoB w w24) (fun _ _ h => h)) hi (by omega)) ?_
            rintro _ w25 ⟨⟨A, c, F', rfl, hR', hs⟩, lk2⟩
            have hs2 := sub_le hs (Ge.le : w.heap.size ≤ (w24).heap.size)
            have hbx : w.heap.size ≤ b2 ∧ b2 < (w24).heap.size := ⟨by rw [n2.eq]; exact Ge.le, Has.lt⟩
            refine xl_s (e_storeA fun w26 l26 k26 => ?_)
            refine xl_v v_assign ?_
            refine xl_nil ?_
            refine x_ret ?_
            refine finR (rs := [.cell 10 35, .tmp 11]) rfl ?_
            exact ⟨⟨_, by rw [hrx]; rfl, by rw [hrx]; exact RMade.setW (hR'.cell hs h.lt hbx (kpc : Keep (OneB b2) _ w26)) hs2⟩, lkc⟩
           ·
            refine x_skip ?_
            refine x_seq ?_
            obtain ⟨x, hbx5, hrx, hxA, hxp⟩ : ∃ x : LW, (w22).heap[bw]? = some (.cells (wrC x).toArray 52 (0, 0)) ∧ R.pure.ends (i : Int) ses commit off = (R.pure.setW i x.w, 0) ∧ x.A = R.ws[i].A ∧ x.w.parts = R.ws[i].w.parts := by
             first
              | (exfalso; simp at g53; omega)
              | exact ⟨R.ws[i].up R.ws[i].w.ses R.ws[i].w.num R.ws[i].w.st off R.ws[i].w.nxt, Blk.eq, by rw [hr, if_pos c5], rfl, rfl⟩
              | exact ⟨R.ws[i].up R.ws[i].w.ses R.ws[i].w.num 3 R.ws[i].w.off off, Blk.eq, by rw [hr, if_pos c7], rfl, rfl⟩
              | exact ⟨R.ws[i].up R.ws[i].w.ses R.ws[i].w.num 4 R.ws[i].w.off R.ws[i].w.nxt, Blk.eq, by rw [hr, if_neg (by rw [c7]; decide)], rfl, rfl⟩
              | exact ⟨R.ws[i], Blk.eq, by rw [hr, if_neg (by rw [c5]; decide)], rfl, rfl⟩
            haveI kx5 : Blk w22 bw _ := ⟨hbx5⟩
            refine x_regionL ?_
            refine xl_La ?_
            refine xl_v v_move ?_
            refine xl_La ?_
            refine xl_call (refwr_ok R F i x w22 (h.ext (kpc : Keep NoB w w22)) (by rw [hxA, hxp]; exact hpx.keep (kpc : Keep NoB w w22) (fun _ _ h => h)) hi (by omega)) ?_
            rintro _ w27 ⟨⟨A, c, F', rfl, hR', hs⟩, lk2⟩
            have hs2 := sub_le hs (Ge.le : w.heap.size ≤ (w22).heap.size)
            have hbx : w.heap.size ≤ b2 ∧ b2 < (w22).heap.size := ⟨by rw [n2.eq]; exact Ge.le, Has.lt⟩
            refine xl_s (e_storeA fun w28 l28 k28 => ?_)
            refine xl_v v_assign ?_
            refine xl_nil ?_
            refine x_ret ?_
            refine finR (rs := [.cell 10 35, .tmp 11]) rfl ?_
            exact ⟨⟨_, by rw [hrx]; rfl, by rw [hrx]; exact RMade.setW (hR'.cell hs h.lt hbx (kpc : Keep (OneB b2) _ w28)) hs2⟩, lkc⟩
          ·
           rw [if_neg c6] at hr
           refine x_skip ?_
           refine x_seq ?_
           obtain ⟨x, hbx5, hrx, hxA, hxp⟩ : ∃ x : LW, (w6).heap[bw]? = some (.cells (wrC x).toArray 52 (0, 0)) ∧ R.pure.ends (i : Int) ses commit off = (R.pure.setW i x.w, 0) ∧ x.A = R.ws[i].A ∧ x.w.parts = R.ws[i].w.parts := by
            first
             | (exfalso; simp at g53; omega)
             | exact ⟨R.ws[i].up R.ws[i].w.ses R.ws[i].w.num R.ws[i].w.st off R.ws[i].w.nxt, Blk.eq, by rw [hr, if_pos c5], rfl, rfl⟩
             | exact ⟨R.ws[i].up R.ws[i].w.ses R.ws[i].w.num 3 R.ws[i].w.off off, Blk.eq, by rw [hr, if_pos c7], rfl, rfl⟩
             | exact ⟨R.ws[i].up R.ws[i].w.ses R.ws[i].w.num 4 R.ws[i].w.off R.ws[i].w.nxt, Blk.eq, by rw [hr, if_neg (by rw [c7]; decide)], rfl, rfl⟩
             | exact ⟨R.ws[i], Blk.eq, by rw [hr, if_neg (by rw [c5]; decide)], rfl, rfl⟩
           haveI kx5 : Blk w6 bw _ := ⟨hbx5⟩
           refine x_regionL ?_
           refine xl_La ?_
           refine xl_v v_move ?_
           refine xl_La ?_
           refine xl_call (refwr_ok R F i x w6 (h.ext (kpc : Keep NoB w w6)) (by rw [hxA, hxp]; exact hpx.keep (kpc : Keep NoB w w6) (fun _ _ h => h)) hi (by omega)) ?_
           rintro _ w29 ⟨⟨A, c, F', rfl, hR', hs⟩, lk2⟩
           have hs2 := sub_le hs (Ge.le : w.heap.size ≤ (w6).heap.size)
           have hbx : w.heap.size ≤ b2 ∧ b2 < (w6).heap.size := ⟨by rw [n2.eq]; exact Ge.le, Has.lt⟩
           refine xl_s (e_storeA fun w30 l30 k30 => ?_)
           refine xl_v v_assign ?_
           refine xl_nil ?_
           refine x_ret ?_
           refine finR (rs := [.cell 10 35, .tmp 11]) rfl ?_
           exact ⟨⟨_, by rw [hrx]; rfl, by rw [hrx]; exact RMade.setW (hR'.cell hs h.lt hbx (kpc : Keep (OneB b2) _ w30)) hs2⟩, lkc⟩
        ·
         refine xl_gs rfl EvO.eq ?_
         refine xl_Pk ?_
         refine xl_nil ?_
         refine x_condF ?_
         refine x_skip ?_
         refine x_seq ?_
         refine x_seq ?_
         refine x_regionL ?_
         refine xl_Fa ?_
         refine xl_Ld ?_
         refine xl_v v_eql ?_
         refine xl_nil ?_
         first | refine x_condP (fun c6 => ?_) (fun c6 => ?_) | refine x_condN (fun c6 => ?_) (fun c6 => ?_) | refine x_condE (fun c6 => ?_) (fun c6 => ?_)
         ·
          rw [if_pos c6] at hr
          refine x_seq ?_
          refine x_regionL ?_
          refine xl_Fa ?_
          refine xl_s (e_store fun w31 l31 k31 => ?_)
          refine xl_nil ?_
          refine x_seq ?_
          refine x_regionL ?_
          refine xl_v v_move ?_
          refine xl_nil ?_
          first | refine x_condP (fun c7 => ?_) (fun c7 => ?_) | refine x_condN (fun c7 => ?_) (fun c7 => ?_) | refine x_condE (fun c7 => ?_) (fun c7 => ?_)
          ·
           refine x_regionL ?_
           refine xl_v v_move ?_
           refine xl_Fa ?_
           refine xl_s (e_store fun w32 l32 k32 => ?_)
           refine xl_Fa ?_
           refine xl_s (e_store fun w33 l33 k33 => ?_)
           refine xl_nil ?_
           refine x_seq ?_
           obtain ⟨x, hbx5, hrx, hxA, hxp⟩ : ∃ x : LW, (w33).heap[bw]? = some (.cells (wrC x).toArray 52 (0, 0)) ∧ R.pure.ends (i : Int) ses commit off = (R.pure.setW i x.w, 0) ∧ x.A = R.ws[i].A ∧ x.w.parts = R.ws[i].w.parts := by
            first
             | (exfalso; simp at g53; omega)
             | exact ⟨R.ws[i].up R.ws[i].w.ses R.ws[i].w.num R.ws[i].w.st off R.ws[i].w.nxt, Blk.eq, by rw [hr, if_pos c5], rfl, rfl⟩
             | exact ⟨R.ws[i].up R.ws[i].w.ses R.ws[i].w.num 3 R.ws[i].w.off off, Blk.eq, by rw [hr, if_pos c7], rfl, rfl⟩
             | exact ⟨R.ws[i].up R.ws[i].w.ses R.ws[i].w.num 4 R.ws[i].w.off R.ws[i].w.nxt, Blk.eq, by rw [hr, if_neg (by rw [c7]; decide)], rfl, rfl⟩
             | exact ⟨R.ws[i], Blk.eq, by rw [hr, if_neg (by rw [c5]; decide)], rfl, rfl⟩
           haveI kx5 : Blk w33 bw _ := ⟨hbx5⟩
           refine x_regionL ?_
           refine xl_La ?_
           refine xl_v v_move ?_
           refine xl_La ?_
           refine xl_call (refwr_ok R F i x w33 (h.ext (kpc : Keep NoB w w33)) (by rw [hxA, hxp]; exact hpx.keep (kpc : Keep NoB w w33) (fun _ _ h => h)) hi (by omega)) ?_
           rintro _ w34 ⟨⟨A, c, F', rfl, hR', hs⟩, lk2⟩
           have hs2 := sub_le hs (Ge.le : w.heap.size ≤ (w33).heap.size)
           have hbx : w.heap.size ≤ b2 ∧ b2 < (w33).heap.size := ⟨by rw [n2.eq]; exact Ge.le, Has.lt⟩
           refine xl_s (e_storeA fun w35 l35 k35 => ?_)
           refine xl_v v_assign ?_
           refine xl_nil ?_
           refine x_ret ?_
           refine finR (rs := [.cell 10 35, .tmp 11]) rfl ?_
           exact ⟨⟨_, by rw [hrx]; rfl, by rw [hrx]; exact RMade.setW (hR'.cell hs h.lt hbx (kpc : Keep (OneB b2) _ w35)) hs2⟩, lkc⟩
          ·
           refine x_skip ?_
           refine x_seq ?_
           obtain ⟨x, hbx5, hrx, hxA, hxp⟩ : ∃ x : LW, (w31).heap[bw]? = some (.cells (wrC x).toArray 52 (0, 0)) ∧ R.pure.ends (i : Int) ses commit off = (R.pure.setW i x.w, 0) ∧ x.A = R.ws[i].A ∧ x.w.parts = R.ws[i].w.parts := by
            first
             | (exfalso; simp at g53; omega)
             | exact ⟨R.ws[i].up R.ws[i].w.ses R.ws[i].w.num R.ws[i].w.st off R.ws[i].w.nxt, Blk.eq, by rw [hr, if_pos c5], rfl, rfl⟩
             | exact ⟨R.ws[i].up R.ws[i].w.ses R.ws[i].w.num 3 R.ws[i].w.off off, Blk.eq, by rw [hr, if_pos c7], rfl, rfl⟩
             | exact ⟨R.ws[i].up R.ws[i].w.ses R.ws[i].w.num 4 R.ws[i].w.off R.ws[i].w.nxt, Blk.eq, by rw [hr, if_neg (by rw [c7]; decide)], rfl, rfl⟩
             | exact ⟨R.ws[i], Blk.eq, by rw [hr, if_neg (by rw [c5]; decide)], rfl, rfl⟩
           haveI kx5 : Blk w31 bw _ := ⟨hbx5⟩
           refine x_regionL ?_
           refine xl_La ?_
           refine xl_v v_move ?_
           refine xl_La ?_
           refine xl_call (refwr_ok R F i x w31 (h.ext (kpc : Keep NoB w w31)) (by rw [hxA, hxp]; exact hpx.keep (kpc : Keep NoB w w31) (fun _ _ h => h)) hi (by omega)) ?_
           rintro _ w36 ⟨⟨A, c, F', rfl, hR', hs⟩, lk2⟩
           have hs2 := sub_le hs (Ge.le : w.heap.size ≤ (w31).heap.size)
           have hbx : w.heap.size ≤ b2 ∧ b2 < (w31).heap.size := ⟨by rw [n2.eq]; exact Ge.le, Has.lt⟩
           refine xl_s (e_storeA fun w37 l37 k37 => ?_)
           refine xl_v v_assign ?_
           refine xl_nil ?_
           refine x_ret ?_
           refine finR (rs := [.cell 10 35, .tmp 11]) rfl ?_
           exact ⟨⟨_, by rw [hrx]; rfl, by rw [hrx]; exact RMade.setW (hR'.cell hs h.lt hbx (kpc : Keep (OneB b2) _ w37)) hs2⟩, lkc⟩
         ·
          rw [if_neg c6] at hr
          refine x_skip ?_
          refine x_seq ?_
          obtain ⟨x, hbx5, hrx, hxA, hxp⟩ : ∃ x : LW, (w6).heap[bw]? = some (.cells (wrC x).toArray 52 (0, 0)) ∧ R.pure.ends (i : Int) ses commit off = (R.pure.setW i x.w, 0) ∧ x.A = R.ws[i].A ∧ x.w.parts = R.ws[i].w.parts := by
           first
            | (exfalso; simp at g53; omega)
            | exact ⟨R.ws[i].up R.ws[i].w.ses R.ws[i].w.num R.ws[i].w.st off R.ws[i].w.nxt, Blk.eq, by rw [hr, if_pos c5], rfl, rfl⟩
            | exact ⟨R.ws[i].up R.ws[i].w.ses R.ws[i].w.num 3 R.ws[i].w.off off, Blk.eq, by rw [hr, if_pos c7], rfl, rfl⟩
            | exact ⟨R.ws[i].up R.ws[i].w.ses R.ws[i].w.num 4 R.ws[i].w.off R.ws[i].w.nxt, Blk.eq, by rw [hr, if_neg (by rw [c7]; decide)], rfl, rfl⟩
            | exact ⟨R.ws[i], Blk.eq, by rw [hr, if_neg (by rw [c5]; decide)], rfl, rfl⟩
          haveI kx5 : Blk w6 bw _ := ⟨hbx5⟩
          refine x_regionL ?_
          refine xl_La ?_
          refine xl_v v_move ?_
          refine xl_La ?_
          refine xl_call (refwr_ok R F i x w6 (h.ext (kpc : Keep NoB w w6)) (by rw [hxA, hxp]; exact hpx.keep (kpc : Keep NoB w w6) (fun _ _ h => h)) hi (by omega)) ?_
          rintro _ w38 ⟨⟨A, c, F', rfl, hR', hs⟩, lk2⟩
          have hs2 := sub_le hs (Ge.le : w.heap.size ≤ (w6).heap.size)
          have hbx : w.heap.size ≤ b2 ∧ b2 < (w6).heap.size := ⟨by rw [n2.eq]; exact Ge.le, Has.lt⟩
          refine xl_s (e_storeA fun w39 l39 k39 => ?_)
          refine xl_v v_assign ?_
          refine xl_nil ?_
          refine x_ret ?_
          refine finR (rs := [.cell 10 35, .tmp 11]) rfl ?_
          exact ⟨⟨_, by rw [hrx]; rfl, by rw [hrx]; exact RMade.setW (hR'.cell hs h.lt hbx (kpc : Keep (OneB b2) _ w39)) hs2⟩, lkc⟩
set_option maxHeartbeats 1000000 in
/-- (waystation/waystationref10.Meta).Marked -/
theorem refmarked_ok (R : LMeta) (F : Nat → Prop) (b num p : Int) (w : World) (h : RefAt w F R) (hok : R.pure.ok) : Ret Try.prog 45 #[.agg (metaC R).toArray, .int .i64 b, .int .i64 num, .int .i64 p] w (fun v w' => (∃ R', v = .tuple #[.agg (metaC R').toArray, .int .i64 (R.pure.marked b num p).2] ∧ RMade F w (R.pure.marked b num p).1 w' R') ∧ Lk w' w NoB) := by
 obtain ⟨hll, hvl, hwl, hnb, hnp, hni⟩ := lens hok
 have hmost : most = 2147483647 := rfl
 haveI hrb : RowB w R.WA w (R.ws.flatMap wrC) := rowB_of h.wrs.row
 refine ret_of_x (N := 75) (l := [.agg (metaC R).toArray, .int .i64 b, .int .i64 num, .int .i64 p]) Try.func45 rfl rfl (Nat.le_of_ble_eq_true rfl) ?_
 refine x_seq ?_
 refine x_regionL ?_
 refine xl_e (e_box fun b1 w1 n1 l1 k1 => ?_)
 refine xl_e (e_alloc fun b2 w2 n2 l2 k2 => ?_)
 refine xl_v v_assign ?_
 refine xl_nil ?_
 refine x_seq ?_
 refine x_seq ?_
 refine x_regionL ?_
 refine xl_v v_move ?_
 refine xl_v v_lss ?_
 refine xl_v v_move ?_
 refine xl_split 13 (fun g13 => ?_) (fun g13 => ?_)
 ·
  refine xl_gs rfl EvO.eq ?_
  refine xl_gs rfl EvO.eq ?_
  refine xl_gs rfl EvO.eq ?_
  refine xl_gs rfl EvO.eq ?_
  refine xl_gs rfl EvO.eq ?_
  refine xl_Pk ?_
  refine xl_v v_move ?_
  refine xl_gs rfl EvO.eq ?_
  refine xl_gs rfl EvO.eq ?_
  refine xl_Pk ?_
  refine xl_v v_move ?_
  refine xl_gs rfl EvO.eq ?_
  refine xl_gs rfl EvO.eq ?_
  refine xl_gs rfl EvO.eq ?_
  refine xl_gs rfl EvO.eq ?_
  refine xl_gs rfl EvO.eq ?_
  refine xl_Pk ?_
  refine xl_nil ?_
  refine x_condT ?_
  refine x_seq ?_
  refine x_regionL ?_
  refine xl_La ?_
  refine xl_s (e_storeA fun w3 l3 k3 => ?_)
  refine xl_v v_assign ?_
  refine xl_nil ?_
  refine x_ret ?_
  refine finR (rs := [.cell 8 35, .tmp 9]) rfl ?_
  have hn : ¬ inN b R.ni ∨ ¬ inN p R.np := by
   unfold inN
   first
    | (simp at g13; omega)
    | (simp at g20; omega)
    | (simp at g24; omega)
    | (simp at c1; omega)
  have hr : R.pure.marked b num p = (R.pure, 2) := if_pos hn
  exact ⟨⟨R, by rw [hr]; rfl, RMade.stay h kpc (by rw [hr])⟩, lkc⟩
 ·
  refine xl_gv rfl EvO.eq v_move ?_
  refine xl_gFa rfl EvO.eq ?_
  refine xl_gFa rfl EvO.eq ?_
  refine xl_gLd rfl EvO.eq ?_
  refine xl_gv rfl EvO.eq v_geq ?_
  refine xl_Pk ?_
  refine xl_v v_move ?_
  refine xl_split 20 (fun g20 => ?_) (fun g20 => ?_)
  ·
   refine xl_gs rfl EvO.eq ?_
   refine xl_gs rfl EvO.eq ?_
   refine xl_Pk ?_
   refine xl_v v_move ?_
   refine xl_gs rfl EvO.eq ?_
   refine xl_gs rfl EvO.eq ?_
   refine xl_gs rfl EvO.eq ?_
   refine xl_gs rfl EvO.eq ?_
   refine xl_gs rfl EvO.eq ?_
   refine xl_Pk ?_
   refine xl_nil ?_
   refine x_condT ?_
   refine x_seq ?_
   refine x_regionL ?_
   refine xl_La ?_
   refine xl_s (e_storeA fun w4 l4 k4 => ?_)
   refine xl_v v_assign ?_
   refine xl_nil ?_
   refine x_ret ?_
   refine finR (rs := [.cell 8 35, .tmp 9]) rfl ?_
   have hn : ¬ inN b R.ni ∨ ¬ inN p R.np := by
    unfold inN
    first
     | (simp at g13; omega)
     | (simp at g20; omega)
     | (simp at g24; omega)
     | (simp at c1; omega)
   have hr : R.pure.marked b num p = (R.pure, 2) := if_pos hn
   exact ⟨⟨R, by rw [hr]; rfl, RMade.stay h kpc (by rw [hr])⟩, lkc⟩
  ·
   refine xl_gv rfl EvO.eq v_move ?_
   refine xl_gv rfl EvO.eq v_lss ?_
   refine xl_Pk ?_
   refine xl_v v_move ?_
   refine xl_split 24 (fun g24 => ?_) (fun g24 => ?_)
   ·
    refine xl_gs rfl EvO.eq ?_
    refine xl_gs rfl EvO.eq ?_
    refine xl_gs rfl EvO.eq ?_
    refine xl_gs rfl EvO.eq ?_
    refine xl_gs rfl EvO.eq ?_
    refine xl_Pk ?_
    refine xl_nil ?_
    refine x_condT ?_
    refine x_seq ?_
    refine x_regionL ?_
    refine xl_La ?_
    refine xl_s (e_storeA fun w5 l5 k5 => ?_)
    refine xl_v v_assign ?_
    refine xl_nil ?_
    refine x_ret ?_
    refine finR (rs := [.cell 8 35, .tmp 9]) rfl ?_
    have hn : ¬ inN b R.ni ∨ ¬ inN p R.np := by
     unfold inN
     first
      | (simp at g13; omega)
      | (simp at g20; omega)
      | (simp at g24; omega)
      | (simp at c1; omega)
    have hr : R.pure.marked b num p = (R.pure, 2) := if_pos hn
    exact ⟨⟨R, by rw [hr]; rfl, RMade.stay h kpc (by rw [hr])⟩, lkc⟩
   ·
    refine xl_gv rfl EvO.eq v_move ?_
    refine xl_gFa rfl EvO.eq ?_
    refine xl_gFa rfl EvO.eq ?_
    refine xl_gLd rfl EvO.eq ?_
    refine xl_gv rfl EvO.eq v_geq ?_
    refine xl_Pk ?_
    refine xl_nil ?_
    refine x_condE (fun c1 => ?_) (fun c1 => ?_)
    ·
     refine x_seq ?_
     refine x_regionL ?_
     refine xl_La ?_
     refine xl_s (e_storeA fun w6 l6 k6 => ?_)
     refine xl_v v_assign ?_
     refine xl_nil ?_
     refine x_ret ?_
     refine finR (rs := [.cell 8 35, .tmp 9]) rfl ?_
     have hn : ¬ inN b R.ni ∨ ¬ inN p R.np := by
      unfold inN
      first
       | (simp at g13; omega)
       | (simp at g20; omega)
       | (simp at g24; omega)
       | (simp at c1; omega)
     have hr : R.pure.marked b num p = (R.pure, 2) := if_pos hn
     exact ⟨⟨R, by rw [hr]; rfl, RMade.stay h kpc (by rw [hr])⟩, lkc⟩
    ·
     have hnn : inN b R.ni ∧ inN p R.np := by
      simp at g13 g20 g24 c1
      exact ⟨⟨by omega, by omega⟩, by omega, by omega⟩
     obtain ⟨hn, hnpp⟩ := hnn
     have hr : R.pure.marked b num p = _ := if_neg (fun e => e.elim (fun e => e hn) (fun e => e hnpp))
     obtain ⟨i, rfl, hi⟩ := nat_of hn
     have hi : i < R.ws.length := by omega
     have ho := hok.wr hn
     rw [wr_at hi] at hr ho
     have hst := ho.st
     have hpx := h.parts R.ws[i] (List.getElem_mem hi)
     haveI rpx : RowB w R.ws[i].A w (ints R.ws[i].w.parts) := rowB_of hpx.row
     have hrise : Rises R.np R.ws[i].w.parts := ho.rise
     have hpl2 := rises_len hrise
     refine x_skip ?_
     refine x_seq ?_
     refine x_regionL ?_
     refine xl_Fa ?_
     refine xl_Ld ?_
     refine xl_v v_move ?_
     refine xl_v (v_indexF i (by decide) rfl (by omega) hi) ?_
     refine xl_v (v_loadF (k := i) (by decide) hi) ?_
     refine xl_e (e_alloc fun bw w7 nw lw kw => ?_)
     refine xl_s (e_storeA fun w8 l8 k8 => ?_)
     refine xl_nil ?_
     refine x_seq ?_
     refine x_seq ?_
     refine x_regionL ?_
     refine xl_Fa ?_
     refine xl_Ld ?_
     refine xl_v v_move ?_
     refine xl_v v_neq ?_
     refine xl_v v_move ?_
     refine xl_split 41 (fun g41 => ?_) (fun g41 => ?_)
     ·
      refine xl_gs rfl EvO.eq ?_
      refine xl_gs rfl EvO.eq ?_
      refine xl_gs rfl EvO.eq ?_
      refine xl_Pk ?_
      refine xl_v v_move ?_
      refine xl_gs rfl EvO.eq ?_
      refine xl_gs rfl EvO.eq ?_
      refine xl_gs rfl EvO.eq ?_
      refine xl_gs rfl EvO.eq ?_
      refine xl_gs rfl EvO.eq ?_
      refine xl_Pk ?_
      refine xl_nil ?_
      refine x_condT ?_
      refine x_seq ?_
      refine x_regionL ?_
      refine xl_La ?_
      refine xl_s (e_storeA fun w9 l9 k9 => ?_)
      refine xl_v v_assign ?_
      refine xl_nil ?_
      refine x_ret ?_
      refine finR (rs := [.cell 8 35, .tmp 9]) rfl ?_
      have hE : R.ws[i].w.num ≠ num ∨ R.ws[i].w.st < 3 ∨ p ∉ R.ws[i].w.parts := by
       first
        | (simp at g41; exact .inl g41)
        | (simp at g46; exact .inr (.inl g46))
        | (simp at c2; exact .inr (.inr c2))
      rw [if_pos hE] at hr
      exact ⟨⟨R, by rw [hr]; rfl, RMade.stay h kpc (by rw [hr])⟩, lkc⟩
     ·
      refine xl_gFa rfl EvO.eq ?_
      refine xl_gLd rfl EvO.eq ?_
      refine xl_gv rfl EvO.eq v_lss ?_
      refine xl_Pk ?_
      refine xl_v v_move ?_
      refine xl_split 46 (fun g46 => ?_) (fun g46 => ?_)
      ·
       refine xl_gs rfl EvO.eq ?_
       refine xl_gs rfl EvO.eq ?_
       refine xl_gs rfl EvO.eq ?_
       refine xl_gs rfl EvO.eq ?_
       refine xl_gs rfl EvO.eq ?_
       refine xl_Pk ?_
       refine xl_nil ?_
       refine x_condT ?_
       refine x_seq ?_
       refine x_regionL ?_
       refine xl_La ?_
       refine xl_s (e_storeA fun w10 l10 k10 => ?_)
       refine xl_v v_assign ?_
       refine xl_nil ?_
       refine x_ret ?_
       refine finR (rs := [.cell 8 35, .tmp 9]) rfl ?_
       have hE : R.ws[i].w.num ≠ num ∨ R.ws[i].w.st < 3 ∨ p ∉ R.ws[i].w.parts := by
        first
         | (simp at g41; exact .inl g41)
         | (simp at g46; exact .inr (.inl g46))
         | (simp at c2; exact .inr (.inr c2))
       rw [if_pos hE] at hr
       exact ⟨⟨R, by rw [hr]; rfl, RMade.stay h kpc (by rw [hr])⟩, lkc⟩
      ·
       refine xl_gFa rfl EvO.eq ?_
       refine xl_gLd rfl EvO.eq ?_
       refine xl_gv rfl EvO.eq v_move ?_
       refine xl_gcall rfl EvO.eq (refin_ok R.ws[i].A _ _ R.ws[i].w.parts p w8 rfl (by omega)) ?_
       rintro _ w11 ⟨rfl, lk5⟩
       refine xl_gv rfl EvO.eq v_not ?_
       refine xl_Pk ?_
       refine xl_nil ?_
       refine x_condE (fun c2 => ?_) (fun c2 => ?_)
       ·
        refine x_seq ?_
        refine x_regionL ?_
        refine xl_La ?_
        refine xl_s (e_storeA fun w12 l12 k12 => ?_)
        refine xl_v v_assign ?_
        refine xl_nil ?_
        refine x_ret ?_
        refine finR (rs := [.cell 8 35, .tmp 9]) rfl ?_
        have hE : R.ws[i].w.num ≠ num ∨ R.ws[i].w.st < 3 ∨ p ∉ R.ws[i].w.parts := by
         first
          | (simp at g41; exact .inl g41)
          | (simp at g46; exact .inr (.inl g46))
          | (simp at c2; exact .inr (.inr c2))
        rw [if_pos hE] at hr
        exact ⟨⟨R, by rw [hr]; rfl, RMade.stay h kpc (by rw [hr])⟩, lkc⟩
       ·
        have hE : ¬ (R.ws[i].w.num ≠ num ∨ R.ws[i].w.st < 3 ∨ p ∉ R.ws[i].w.parts) := by
         simp at g41 g46 c2
         rintro (q | q | q)
         ·exact q g41
         ·omega
         ·exact q c2
        rw [if_neg hE] at hr
        obtain ⟨l, hl⟩ : ∃ l, l = R.ws[i].w.parts.filter (fun x => !decide (x = p)) := ⟨_, rfl⟩
        dsimp only at hr
        rw [← hl] at hr
        refine x_skip ?_
        refine x_seq ?_
        refine x_regionL ?_
        refine xl_Fa ?_
        refine xl_Ld ?_
        refine xl_v v_move ?_
        refine xl_call (refwithout_ok R.ws[i].A _ _ R.ws[i].w.parts p w11 rfl (by omega)) ?_
        rintro _ w13 ⟨⟨A5, c5, rfl, hown5⟩, lk6⟩
        rw [← hl] at hown5
        rw [← hl]
        haveI o5 : OwnI w13 A5 _ _ _ _ _ _ _ := ⟨hown5⟩
        haveI na5 : NewA A5 w11 := newA_of hown5 (Nat.le_refl _)
        have hb5 : bw < (w11).heap.size := Has.lt
        have hb2q : b2 < (w11).heap.size := Has.lt
        haveI ap5 : ApB A5 bw := ⟨fun a ha e => by have := (own_blk hown5 (blkA_some ha)).1; omega⟩
        have hgeP : w.heap.size ≤ (w11).heap.size := Ge.le
        refine xl_Fa ?_
        refine xl_s (e_store fun w14 l14 k14 => ?_)
        refine xl_nil ?_
        refine x_seq ?_
        refine x_seq ?_
        refine x_regionL ?_
        refine xl_Fa ?_
        refine xl_Ld ?_
        refine xl_v v_len ?_
        refine xl_v v_eql ?_
        refine xl_nil ?_
        first | refine x_condP (fun c3 => ?_) (fun c3 => ?_) | refine x_condN (fun c3 => ?_) (fun c3 => ?_) | refine x_condE (fun c3 => ?_) (fun c3 => ?_)
        ·
         have hl0 : l = [] := List.eq_nil_of_length_eq_zero (by omega)
         refine x_seq ?_
         refine x_seq ?_
         refine x_regionL ?_
         refine xl_Fa ?_
         refine xl_Ld ?_
         refine xl_v v_eql ?_
         refine xl_nil ?_
         first | refine x_condP (fun c4 => ?_) (fun c4 => ?_) | refine x_condN (fun c4 => ?_) (fun c4 => ?_) | refine x_condE (fun c4 => ?_) (fun c4 => ?_)
         ·
          refine x_regionL ?_
          refine xl_Fa ?_
          refine xl_Ld ?_
          refine xl_Fa ?_
          refine xl_s (e_store fun w15 l15 k15 => ?_)
          refine xl_nil ?_
          refine x_regionL ?_
          refine xl_Fa ?_
          refine xl_s (e_store fun w16 l16 k16 => ?_)
          refine xl_Fa ?_
          refine xl_s (e_store fun w17 l17 k17 => ?_)
          refine xl_nil ?_
          refine x_seq ?_
          obtain ⟨x, hbx5, hrx, hxA, hxp⟩ : ∃ x : LW, (w17).heap[bw]? = some (.cells (wrC x).toArray 52 (0, 0)) ∧ R.pure.marked (i : Int) num p = (R.pure.setW i x.w, 0) ∧ x.A = A5 ∧ x.w.parts = l := by
           first
            | exact ⟨⟨⟨R.ws[i].w.ses, R.ws[i].w.num, R.ws[i].w.st, l, R.ws[i].w.off, R.ws[i].w.nxt⟩, A5, c5⟩, Blk.eq, by rw [hr, if_neg hl0], rfl, rfl⟩
            | exact ⟨⟨⟨R.ws[i].w.ses, R.ws[i].w.num, 1, l, R.ws[i].w.nxt, 0⟩, A5, c5⟩, Blk.eq, by rw [hr, if_pos hl0, if_pos c4, hl0], rfl, rfl⟩
            | exact ⟨⟨⟨R.ws[i].w.ses, R.ws[i].w.num, 1, l, R.ws[i].w.off, 0⟩, A5, c5⟩, Blk.eq, by rw [hr, if_pos hl0, if_neg c4, hl0], rfl, rfl⟩
          have hfx : FRow w17 (fun k => F k ∨ OwnB (.slice A5 l.length c5) k) x.A (ints x.w.parts) := by
           rw [hxA, hxp]
           exact (FRow.of_own (OwnI.own : World.ownsRow w17 _ _ _ (.slice A5 _ c5) _ _)).mono (fun k e => .inr e)
          have hRx : RefAt w17 (fun k => F k ∨ OwnB (.slice A5 l.length c5) k) R := (h.ext (kpc : Keep NoB w w17)).mono (fun k e => .inl e) (fun k e => e.elim (fun e => (h.ext (kpc : Keep NoB w w17)).lt k e) (fun e => (own_blk (OwnI.own : World.ownsRow w17 _ _ _ (.slice A5 _ c5) _ _) (ownB_blk.1 e)).2))
          have hsx : Sub (fun k => F k ∨ OwnB (.slice A5 l.length c5) k) F w := fun k e => e.imp id (fun e => Nat.le_trans hgeP (own_blk hown5 (ownB_blk.1 e)).1)
          haveI kx5 : Blk w17 bw _ := ⟨hbx5⟩
          refine x_regionL ?_
          refine xl_La ?_
          refine xl_v v_move ?_
          refine xl_La ?_
          refine xl_call (refwr_ok R _ i x w17 (hRx.ext (kpc : Keep NoB _ w17)) (hfx.keep (kpc : Keep NoB _ w17) (fun _ _ h => h)) hi (by omega)) ?_
          rintro _ w18 ⟨⟨A, c, F', rfl, hR', hs⟩, lk2⟩
          have hs2 := hs.trans hsx (Ge.le : w.heap.size ≤ (w17).heap.size)
          have hb2w : w.heap.size ≤ b2 := by rw [n2.eq]; exact Ge.le
          have hb2p : b2 < (w17).heap.size := Has.lt
          have hA52 : ∀ k, OwnB (.slice A5 l.length c5) k → b2 < k := fun k e => by have := (own_blk hown5 (ownB_blk.1 e)).1; omega
          refine xl_s (e_storeA fun w19 l19 k19 => ?_)
          refine xl_v v_assign ?_
          refine xl_nil ?_
          refine x_ret ?_
          refine finR (rs := [.cell 8 35, .tmp 9]) rfl ?_
          refine ⟨⟨_, by rw [hrx]; rfl, ?_⟩, lkc⟩
          rw [hrx]
          refine RMade.setW (hR'.keep (S := OneB b2) kpc (fun k e e2 => ?_)) hs2
          have e' : k = b2 := e2
          subst e'
          rcases hs k e with (q | q) | q
          ·have := h.lt k q; omega
          ·have := hA52 k q; omega
          ·omega
         ·
          refine x_skip ?_
          refine x_regionL ?_
          refine xl_Fa ?_
          refine xl_s (e_store fun w20 l20 k20 => ?_)
          refine xl_Fa ?_
          refine xl_s (e_store fun w21 l21 k21 => ?_)
          refine xl_nil ?_
          refine x_seq ?_
          obtain ⟨x, hbx5, hrx, hxA, hxp⟩ : ∃ x : LW, (w21).heap[bw]? = some (.cells (wrC x).toArray 52 (0, 0)) ∧ R.pure.marked (i : Int) num p = (R.pure.setW i x.w, 0) ∧ x.A = A5 ∧ x.w.parts = l := by
           first
            | exact ⟨⟨⟨R.ws[i].w.ses, R.ws[i].w.num, R.ws[i].w.st, l, R.ws[i].w.off, R.ws[i].w.nxt⟩, A5, c5⟩, Blk.eq, by rw [hr, if_neg hl0], rfl, rfl⟩
            | exact ⟨⟨⟨R.ws[i].w.ses, R.ws[i].w.num, 1, l, R.ws[i].w.nxt, 0⟩, A5, c5⟩, Blk.eq, by rw [hr, if_pos hl0, if_pos c4, hl0], rfl, rfl⟩
            | exact ⟨⟨⟨R.ws[i].w.ses, R.ws[i].w.num, 1, l, R.ws[i].w.off, 0⟩, A5, c5⟩, Blk.eq, by rw [hr, if_pos hl0, if_neg c4, hl0], rfl, rfl⟩
          have hfx : FRow w21 (fun k => F k ∨ OwnB (.slice A5 l.length c5) k) x.A (ints x.w.parts) := by
           rw [hxA, hxp]
           exact (FRow.of_own (OwnI.own : World.ownsRow w21 _ _ _ (.slice A5 _ c5) _ _)).mono (fun k e => .inr e)
          have hRx : RefAt w21 (fun k => F k ∨ OwnB (.slice A5 l.length c5) k) R := (h.ext (kpc : Keep NoB w w21)).mono (fun k e => .inl e) (fun k e => e.elim (fun e => (h.ext (kpc : Keep NoB w w21)).lt k e) (fun e => (own_blk (OwnI.own : World.ownsRow w21 _ _ _ (.slice A5 _ c5) _ _) (ownB_blk.1 e)).2))
          have hsx : Sub (fun k => F k ∨ OwnB (.slice A5 l.length c5) k) F w := fun k e => e.imp id (fun e => Nat.le_trans hgeP (own_blk hown5 (ownB_blk.1 e)).1)
          haveI kx5 : Blk w21 bw _ := ⟨hbx5⟩
          refine x_regionL ?_
          refine xl_La ?_
          refine xl_v v_move ?_
          refine xl_La ?_
          refine xl_call (refwr_ok R _ i x w21 (hRx.ext (kpc : Keep NoB _ w21)) (hfx.keep (kpc : Keep NoB _ w21) (fun _ _ h => h)) hi (by omega)) ?_
          rintro _ w22 ⟨⟨A, c, F', rfl, hR', hs⟩, lk2⟩
          have hs2 := hs.trans hsx (Ge.le : w.heap.size ≤ (w21).heap.size)
          have hb2w : w.heap.size ≤ b2 := by rw [n2.eq]; exact Ge.le
          have hb2p : b2 < (w21).heap.size := Has.lt
          have hA52 : ∀ k, OwnB (.slice A5 l.length c5) k → b2 < k := fun k e => by have := (own_blk hown5 (ownB_blk.1 e)).1; omega
          refine xl_s (e_storeA fun w23 l23 k23 => ?_)
          refine xl_v v_assign ?_
          refine xl_nil ?_
          refine x_ret ?_
          refine finR (rs := [.cell 8 35, .tmp 9]) rfl ?_
          refine ⟨⟨_, by rw [hrx]; rfl, ?_⟩, lkc⟩
          rw [hrx]
          refine RMade.setW (hR'.keep (S := OneB b2) kpc (fun k e e2 => ?_)) hs2
          have e' : k = b2 := e2
          subst e'
          rcases hs k e with (q | q) | q
          ·have := h.lt k q; omega
          ·have := hA52 k q; omega
          ·omega
        ·
         have hl0 : ¬ l = [] := fun e => by rw [e] at c3; simp at c3
         refine x_skip ?_
         refine x_seq ?_
         obtain ⟨x, hbx5, hrx, hxA, hxp⟩ : ∃ x : LW, (w14).heap[bw]? = some (.cells (wrC x).toArray 52 (0, 0)) ∧ R.pure.marked (i : Int) num p = (R.pure.setW i x.w, 0) ∧ x.A = A5 ∧ x.w.parts = l := by
          first
           | exact ⟨⟨⟨R.ws[i].w.ses, R.ws[i].w.num, R.ws[i].w.st, l, R.ws[i].w.off, R.ws[i].w.nxt⟩, A5, c5⟩, Blk.eq, by rw [hr, if_neg hl0], rfl, rfl⟩
           | exact ⟨⟨⟨R.ws[i].w.ses, R.ws[i].w.num, 1, l, R.ws[i].w.nxt, 0⟩, A5, c5⟩, Blk.eq, by rw [hr, if_pos hl0, if_pos c4, hl0], rfl, rfl⟩
           | exact ⟨⟨⟨R.ws[i].w.ses, R.ws[i].w.num, 1, l, R.ws[i].w.off, 0⟩, A5, c5⟩, Blk.eq, by rw [hr, if_pos hl0, if_neg c4, hl0], rfl, rfl⟩
         have hfx : FRow w14 (fun k => F k ∨ OwnB (.slice A5 l.length c5) k) x.A (ints x.w.parts) := by
          rw [hxA, hxp]
          exact (FRow.of_own (OwnI.own : World.ownsRow w14 _ _ _ (.slice A5 _ c5) _ _)).mono (fun k e => .inr e)
         have hRx : RefAt w14 (fun k => F k ∨ OwnB (.slice A5 l.length c5) k) R := (h.ext (kpc : Keep NoB w w14)).mono (fun k e => .inl e) (fun k e => e.elim (fun e => (h.ext (kpc : Keep NoB w w14)).lt k e) (fun e => (own_blk (OwnI.own : World.ownsRow w14 _ _ _ (.slice A5 _ c5) _ _) (ownB_blk.1 e)).2))
         have hsx : Sub (fun k => F k ∨ OwnB (.slice A5 l.length c5) k) F w := fun k e => e.imp id (fun e => Nat.le_trans hgeP (own_blk hown5 (ownB_blk.1 e)).1)
         haveI kx5 : Blk w14 bw _ := ⟨hbx5⟩
         refine x_regionL ?_
         refine xl_La ?_
         refine xl_v v_move ?_
         refine xl_La ?_
         refine xl_call (refwr_ok R _ i x w14 (hRx.ext (kpc : Keep NoB _ w14)) (hfx.keep (kpc : Keep NoB _ w14) (fun _ _ h => h)) hi (by omega)) ?_
         rintro _ w24 ⟨⟨A, c, F', rfl, hR', hs⟩, lk2⟩
         have hs2 := hs.trans hsx (Ge.le : w.heap.size ≤ (w14).heap.size)
         have hb2w : w.heap.size ≤ b2 := by rw [n2.eq]; exact Ge.le
         have hb2p : b2 < (w14).heap.size := Has.lt
         have hA52 : ∀ k, OwnB (.slice A5 l.length c5) k → b2 < k := fun k e => by have := (own_blk hown5 (ownB_blk.1 e)).1; omega
         refine xl_s (e_storeA fun w25 l25 k25 => ?_)
         refine xl_v v_assign ?_
         refine xl_nil ?_
         refine x_ret ?_
         refine finR (rs := [.cell 8 35, .tmp 9]) rfl ?_
         refine ⟨⟨_, by rw [hrx]; rfl, ?_⟩, lkc⟩
         rw [hrx]
         refine RMade.setW (hR'.keep (S := OneB b2) kpc (fun k e e2 => ?_)) hs2
         have e' : k = b2 := e2
         subst e'
         rcases hs k e with (q | q) | q
         ·have := h.lt k q; omega
         ·have := hA52 k q; omega
         ·omega
end Go.Proofs.Ytnjpladlfiaojaa
