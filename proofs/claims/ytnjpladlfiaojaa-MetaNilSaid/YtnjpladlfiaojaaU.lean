/-
 Walks, printed by a program of this workplace (wip/tools/sx.py) off the functions' code and a text of contracts.
-/
import Derived.Test.YtnjpladlfiaojaaT
set_option linter.all false
set_option maxRecDepth 100000
set_option synthInstance.maxSize 100000
set_option synthInstance.maxHeartbeats 400000
namespace Go.Proofs.Ytnjpladlfiaojaa
open Go.Wst
open Go.Wst.Ct
set_option maxHeartbeats 1000000 in
/-- (waystation/waystationref10.Meta).Elect -/
theorem refelect_ok (R : LMeta) (F : Nat → Prop) (p b : Int) (u : Bool) (w : World) (h : RefAt w F R) (hok : R.pure.ok) : Ret Try.prog 40 #[.agg (metaC R).toArray, .int .i64 p, .int .i64 b, .bool u] w (fun v w' => (∃ R', v = .tuple #[.agg (metaC R').toArray, .int .i64 (R.pure.elect p b u).2] ∧ RMade F w (R.pure.elect p b u).1 w' R') ∧ Lk w' w NoB) := by
 obtain ⟨hll, hvl, hwl, hnb, hnp, hni⟩ := lens hok
 have hmost : most = 2147483647 := rfl
 haveI hrb : RowB w R.VA w (R.vs.flatMap viewC) := rowB_of h.views.row
 haveI hrl : RowB w R.LA w (bools R.lives) := rowB_of h.lives.row
 refine ret_of_x (N := 85) (l := [.agg (metaC R).toArray, .int .i64 p, .int .i64 b, .bool u]) Try.func40 rfl rfl (Nat.le_of_ble_eq_true rfl) ?_
 refine x_seq ?_
 refine x_regionL ?_
 refine xl_e (e_box fun b1 w1 n1 l1 k1 => ?_)
 refine xl_e (e_alloc fun b2 w2 n2 l2 k2 => ?_)
 refine xl_v v_assign ?_
 refine xl_nil ?_
 refine x_seq ?_
 refine x_seq ?_
 refine x_regionL ?_
 refine xl_v v_move ?_
 refine xl_v v_lss ?_
 refine xl_v v_move ?_
 refine xl_split 13 (fun g13 => ?_) (fun g13 => ?_)
 ·
  refine xl_gs rfl EvO.eq ?_
  refine xl_gs rfl EvO.eq ?_
  refine xl_gs rfl EvO.eq ?_
  refine xl_gs rfl EvO.eq ?_
  refine xl_gs rfl EvO.eq ?_
  refine xl_Pk ?_
  refine xl_v v_move ?_
  refine xl_gs rfl EvO.eq ?_
  refine xl_gs rfl EvO.eq ?_
  refine xl_Pk ?_
  refine xl_v v_move ?_
  refine xl_gs rfl EvO.eq ?_
  refine xl_gs rfl EvO.eq ?_
  refine xl_gs rfl EvO.eq ?_
  refine xl_gs rfl EvO.eq ?_
  refine xl_gs rfl EvO.eq ?_
  refine xl_Pk ?_
  refine xl_nil ?_
  refine x_condT ?_
  refine x_seq ?_
  refine x_regionL ?_
  refine xl_La ?_
  refine xl_s (e_storeA fun w3 l3 k3 => ?_)
  refine xl_v v_assign ?_
  refine xl_nil ?_
  refine x_ret ?_
  refine finR (rs := [.cell 8 35, .tmp 9]) rfl ?_
  have hn : ¬ inN p R.np ∨ ¬ inN b R.nb := by
   unfold inN
   first
    | (simp at g13; omega)
    | (simp at g20; omega)
    | (simp at g24; omega)
    | (simp at c1; omega)
  have hr : R.pure.elect p b u = (R.pure, 2) := if_pos hn
  exact ⟨⟨R, by rw [hr]; rfl, RMade.stay h kpc (by rw [hr])⟩, lkc⟩
 ·
  refine xl_gv rfl EvO.eq v_move ?_
  refine xl_gFa rfl EvO.eq ?_
  refine xl_gFa rfl EvO.eq ?_
  refine xl_gLd rfl EvO.eq ?_
  refine xl_gv rfl EvO.eq v_geq ?_
  refine xl_Pk ?_
  refine xl_v v_move ?_
  refine xl_split 20 (fun g20 => ?_) (fun g20 => ?_)
  ·
   refine xl_gs rfl EvO.eq ?_
   refine xl_gs rfl EvO.eq ?_
   refine xl_Pk ?_
   refine xl_v v_move ?_
   refine xl_gs rfl EvO.eq ?_
   refine xl_gs rfl EvO.eq ?_
   refine xl_gs rfl EvO.eq ?_
   refine xl_gs rfl EvO.eq ?_
   refine xl_gs rfl EvO.eq ?_
   refine xl_Pk ?_
   refine xl_nil ?_
   refine x_condT ?_
   refine x_seq ?_
   refine x_regionL ?_
   refine xl_La ?_
   refine xl_s (e_storeA fun w4 l4 k4 => ?_)
   refine xl_v v_assign ?_
   refine xl_nil ?_
   refine x_ret ?_
   refine finR (rs := [.cell 8 35, .tmp 9]) rfl ?_
   have hn : ¬ inN p R.np ∨ ¬ inN b R.nb := by
    unfold inN
    first
     | (simp at g13; omega)
     | (simp at g20; omega)
     | (simp at g24; omega)
     | (simp at c1; omega)
   have hr : R.pure.elect p b u = (R.pure, 2) := if_pos hn
   exact ⟨⟨R, by rw [hr]; rfl, RMade.stay h kpc (by rw [hr])⟩, lkc⟩
  ·
   refine xl_gv rfl EvO.eq v_move ?_
   refine xl_gv rfl EvO.eq v_lss ?_
   refine xl_Pk ?_
   refine xl_v v_move ?_
   refine xl_split 24 (fun g24 => ?_) (fun g24 => ?_)
   ·
    refine xl_gs rfl EvO.eq ?_
    refine xl_gs rfl EvO.eq ?_
    refine xl_gs rfl EvO.eq ?_
    refine xl_gs rfl EvO.eq ?_
    refine xl_gs rfl EvO.eq ?_
    refine xl_Pk ?_
    refine xl_nil ?_
    refine x_condT ?_
    refine x_seq ?_
    refine x_regionL ?_
    refine xl_La ?_
    refine xl_s (e_storeA fun w5 l5 k5 => ?_)
    refine xl_v v_assign ?_
    refine xl_nil ?_
    refine x_ret ?_
    refine finR (rs := [.cell 8 35, .tmp 9]) rfl ?_
    have hn : ¬ inN p R.np ∨ ¬ inN b R.nb := by
     unfold inN
     first
      | (simp at g13; omega)
      | (simp at g20; omega)
      | (simp at g24; omega)
      | (simp at c1; omega)
    have hr : R.pure.elect p b u = (R.pure, 2) := if_pos hn
    exact ⟨⟨R, by rw [hr]; rfl, RMade.stay h kpc (by rw [hr])⟩, lkc⟩
   ·
    refine xl_gv rfl EvO.eq v_move ?_
    refine xl_gFa rfl EvO.eq ?_
    refine xl_gFa rfl EvO.eq ?_
    refine xl_gLd rfl EvO.eq ?_
    refine xl_gv rfl EvO.eq v_geq ?_
    refine xl_Pk ?_
    refine xl_nil ?_
    refine x_condE (fun c1 => ?_) (fun c1 => ?_)
    ·
     refine x_seq ?_
     refine x_regionL ?_
     refine xl_La ?_
     refine xl_s (e_storeA fun w6 l6 k6 => ?_)
     refine xl_v v_assign ?_
     refine xl_nil ?_
     refine x_ret ?_
     refine finR (rs := [.cell 8 35, .tmp 9]) rfl ?_
     have hn : ¬ inN p R.np ∨ ¬ inN b R.nb := by
      unfold inN
      first
       | (simp at g13; omega)
       | (simp at g20; omega)
       | (simp at g24; omega)
       | (simp at c1; omega)
     have hr : R.pure.elect p b u = (R.pure, 2) := if_pos hn
     exact ⟨⟨R, by rw [hr]; rfl, RMade.stay h kpc (by rw [hr])⟩, lkc⟩
    ·
     have hnn : inN p R.np ∧ inN b R.nb := by
      simp at g13 g20 g24 c1
      exact ⟨⟨by omega, by omega⟩, by omega, by omega⟩
     obtain ⟨hn, hnpp⟩ := hnn
     have hr : R.pure.elect p b u = _ := if_neg (fun e => e.elim (fun e => e hn) (fun e => e hnpp))
     obtain ⟨i, rfl, hi⟩ := nat_of hn
     obtain ⟨j, rfl, hj⟩ := nat_of hnpp
     have hi : i < R.vs.length := by omega
     have hj : j < R.lives.length := by omega
     have ho := hok.view hn
     rw [view_at hi, live_at2 hj] at hr
     rw [view_at hi] at ho
     have he0 := ho.e0
     have he1 := ho.e1
     have hv0 := ho.v0
     have hv1 := ho.v1
     have hpx := h.isr R.vs[i] (List.getElem_mem hi)
     haveI rpx : RowB w R.vs[i].A w (ints R.vs[i].v.isr) := rowB_of hpx.row
     have hrise : Rises R.nb R.vs[i].v.isr := ho.rise
     have hpl2 := rises_len hrise
     refine x_skip ?_
     refine x_seq ?_
     refine x_regionL ?_
     refine xl_Fa ?_
     refine xl_Ld ?_
     refine xl_v v_move ?_
     refine xl_v (v_indexF i (by decide) rfl (by omega) hi) ?_
     refine xl_v (v_loadF (k := i) (by decide) hi) ?_
     refine xl_e (e_alloc fun bw w7 nw lw kw => ?_)
     refine xl_s (e_storeA fun w8 l8 k8 => ?_)
     refine xl_nil ?_
     refine x_seq ?_
     refine x_seq ?_
     refine x_regionL ?_
     refine xl_Fa ?_
     refine xl_Ld ?_
     refine xl_v v_move ?_
     refine xl_v (v_indexO j rfl (by omega) hj) ?_
     refine xl_v (v_loadO (k := j) hj) ?_
     refine xl_v v_not ?_
     refine xl_nil ?_
     refine x_condE (fun c2 => ?_) (fun c2 => ?_)
     ·
      rw [if_pos (by simpa using c2)] at hr
      refine x_seq ?_
      refine x_regionL ?_
      refine xl_La ?_
      refine xl_s (e_storeA fun w9 l9 k9 => ?_)
      refine xl_v v_assign ?_
      refine xl_nil ?_
      refine x_ret ?_
      refine finR (rs := [.cell 8 35, .tmp 9]) rfl ?_
      exact ⟨⟨R, by rw [hr]; rfl, RMade.stay h kpc (by rw [hr])⟩, lkc⟩
     ·
      rw [if_neg (by simpa using c2)] at hr
      refine x_skip ?_
      refine x_seq ?_
      refine x_seq ?_
      refine x_regionL ?_
      refine xl_Fa ?_
      refine xl_Ld ?_
      refine xl_v v_move ?_
      refine xl_call (refin_ok R.vs[i].A _ _ R.vs[i].v.isr j w8 rfl (by omega)) ?_
      rintro _ w10 ⟨rfl, lk5⟩
      refine xl_v v_not ?_
      refine xl_v v_move ?_
      refine xl_split 49 (fun g49 => ?_) (fun g49 => ?_)
      ·
       refine xl_gv rfl EvO.eq v_move ?_
       refine xl_gv rfl EvO.eq v_not ?_
       refine xl_Pk ?_
       refine xl_nil ?_
       refine x_condE (fun c3 => ?_) (fun c3 => ?_)
       ·
        have hE : u = false ∧ (j : Int) ∉ R.vs[i].v.isr := by
         simp at g49 c3
         exact ⟨c3, g49⟩
        rw [if_pos hE] at hr
        refine x_seq ?_
        refine x_regionL ?_
        refine xl_La ?_
        refine xl_s (e_storeA fun w11 l11 k11 => ?_)
        refine xl_v v_assign ?_
        refine xl_nil ?_
        refine x_ret ?_
        refine finR (rs := [.cell 8 35, .tmp 9]) rfl ?_
        exact ⟨⟨R, by rw [hr]; rfl, RMade.stay h kpc (by rw [hr])⟩, lkc⟩
       ·
        refine x_skip ?_
        refine x_seq ?_
        refine x_seq ?_
        have hE : ¬ (u = false ∧ (j : Int) ∉ R.vs[i].v.isr) := by
         rintro ⟨q1, q2⟩
         first
          | (simp at g49; exact q2 g49)
          | (simp at c3; rw [q1] at c3; cases c3)
        rw [if_neg hE] at hr
        refine x_regionL ?_
        refine xl_Fa ?_
        refine xl_Ld ?_
        refine xl_v v_eql ?_
        refine xl_v v_move ?_
        refine xl_split 57 (fun g57 => ?_) (fun g57 => ?_)
        ·
         refine xl_gs rfl EvO.eq ?_
         refine xl_gs rfl EvO.eq ?_
         refine xl_gs rfl EvO.eq ?_
         refine xl_Pk ?_
         refine xl_nil ?_
         refine x_condT ?_
         refine x_seq ?_
         refine x_regionL ?_
         refine xl_La ?_
         refine xl_s (e_storeA fun w12 l12 k12 => ?_)
         refine xl_v v_assign ?_
         refine xl_nil ?_
         refine x_ret ?_
         refine finR (rs := [.cell 8 35, .tmp 9]) rfl ?_
         have hE2 : R.vs[i].v.epoch = most ∨ R.vs[i].v.ver = most := by
          first
           | (simp at g57; exact .inl (by omega))
           | (simp at c4; exact .inr (by omega))
         rw [if_pos hE2] at hr
         exact ⟨⟨R, by rw [hr]; rfl, RMade.stay h kpc (by rw [hr])⟩, lkc⟩
        ·
         refine xl_gFa rfl EvO.eq ?_
         refine xl_gLd rfl EvO.eq ?_
         refine xl_gv rfl EvO.eq v_eql ?_
         refine xl_Pk ?_
         refine xl_nil ?_
         refine x_condE (fun c4 => ?_) (fun c4 => ?_)
         ·
          refine x_seq ?_
          refine x_regionL ?_
          refine xl_La ?_
          refine xl_s (e_storeA fun w13 l13 k13 => ?_)
          refine xl_v v_assign ?_
          refine xl_nil ?_
          refine x_ret ?_
          refine finR (rs := [.cell 8 35, .tmp 9]) rfl ?_
          have hE2 : R.vs[i].v.epoch = most ∨ R.vs[i].v.ver = most := by
           first
            | (simp at g57; exact .inl (by omega))
            | (simp at c4; exact .inr (by omega))
          rw [if_pos hE2] at hr
          exact ⟨⟨R, by rw [hr]; rfl, RMade.stay h kpc (by rw [hr])⟩, lkc⟩
         ·
          have hE2 : ¬ (R.vs[i].v.epoch = most ∨ R.vs[i].v.ver = most) := by
           simp at g57 c4
           omega
          rw [if_neg hE2] at hr
          refine x_skip ?_
          refine x_seq ?_
          refine x_seq ?_
          refine x_regionL ?_
          refine xl_Fa ?_
          refine xl_Ld ?_
          refine xl_v v_move ?_
          refine xl_call (refin_ok R.vs[i].A _ _ R.vs[i].v.isr j w10 rfl (by omega)) ?_
          rintro _ w14 ⟨rfl, lk6⟩
          refine xl_v v_not ?_
          refine xl_nil ?_
          first | refine x_condP (fun c5 => ?_) (fun c5 => ?_) | refine x_condN (fun c5 => ?_) (fun c5 => ?_) | refine x_condE (fun c5 => ?_) (fun c5 => ?_)
          ·
           have hm : (j : Int) ∉ R.vs[i].v.isr := by simpa using c5
           rw [if_neg hm] at hr
           refine x_regionL ?_
           refine xl_v v_move ?_
           have hb2q : b2 < (w14).heap.size := Has.lt
           refine xl_e (e_buildSlice1 rfl fun b8 w15 n8 l8 k8 => ?_)
           have hb28 : b2 < b8 := by rw [n8.eq]; exact hb2q
           have hw8 : w.heap.size ≤ b8 := by rw [n8.eq]; exact Ge.le
           refine xl_Fa ?_
           refine xl_s (e_store fun w16 l16 k16 => ?_)
           refine xl_nil ?_
           refine x_seq ?_
           refine x_regionL ?_
           refine xl_v v_move ?_
           refine xl_Fa ?_
           refine xl_v (v_load) ?_
           refine xl_v (v_add (by omega)) ?_
           refine xl_Fa ?_
           refine xl_Ld ?_
           refine xl_v (v_add (by omega)) ?_
           refine xl_Fa ?_
           refine xl_s (e_store fun w17 l17 k17 => ?_)
           refine xl_Fa ?_
           refine xl_s (e_store fun w18 l18 k18 => ?_)
           refine xl_Fa ?_
           refine xl_s (e_store fun w19 l19 k19 => ?_)
           refine xl_nil ?_
           refine x_seq ?_
           obtain ⟨x, hbx5, hrx, hfx⟩ : ∃ x : LV, (w19).heap[bw]? = some (.cells (viewC x).toArray 44 (0, 0)) ∧ R.pure.elect (i : Int) (j : Int) u = (R.pure.setV i x.v, 0) ∧ ∃ F2 : Nat → Prop, FRow w19 F2 x.A (ints x.v.isr) ∧ RefAt w19 F2 R ∧ Sub F2 F w ∧ ¬ F2 b2 := by
            have hb2F : ¬ F b2 := fun e => by have := h.lt b2 e; have : w.heap.size ≤ b2 := by rw [n2.eq]; exact Ge.le
                                              omega
            have hRw := h.ext (kpc : Keep NoB w w19)
            first
             | exact ⟨⟨⟨j, R.vs[i].v.epoch + 1, R.vs[i].v.ver + 1, R.vs[i].v.isr⟩, R.vs[i].A, R.vs[i].c⟩, Blk.eq, hr, F, hpx.keep (kpc : Keep NoB w w19) (fun _ _ h => h), hRw, Sub.refl _ _, hb2F⟩
             | exact ⟨⟨⟨j, R.vs[i].v.epoch + 1, R.vs[i].v.ver + 1, [(j : Int)]⟩, some ⟨b8, 0, none⟩, 1⟩, Blk.eq, hr, fun k => F k ∨ k = b8, FRow.of_blk (Blk.eq : (w19).heap[b8]? = _) (.inr rfl), hRw.mono (fun k e => .inl e) (fun k e => e.elim (hRw.lt k) (fun e => by have e' : k = b8 := e; rw [e']; exact (Has.lt : b8 < (w19).heap.size))), fun k e => e.imp id (fun e => by have e' : k = b8 := e; rw [e']; exact hw8), fun e => e.elim hb2F (fun e => by omega)⟩
           obtain ⟨F2, hfx2, hRx, hsx, hb2F⟩ := hfx
           haveI kx5 : Blk w19 bw _ := ⟨hbx5⟩
           refine x_regionL ?_
           refine xl_La ?_
           refine xl_v v_move ?_
           refine xl_La ?_
           refine xl_call (refview_ok R F2 i x w19 (hRx.ext (kpc : Keep NoB _ w19)) (hfx2.keep (kpc : Keep NoB _ w19) (fun _ _ h => h)) hi (by omega)) ?_
           rintro _ w20 ⟨⟨A, c, F', rfl, hR', hs⟩, lk2⟩
           have hs2 := hs.trans hsx (Ge.le : w.heap.size ≤ (w19).heap.size)
           have hb2p : b2 < (w19).heap.size := Has.lt
           refine xl_s (e_storeA fun w21 l21 k21 => ?_)
           refine xl_v v_assign ?_
           refine xl_nil ?_
           refine x_ret ?_
           refine finR (rs := [.cell 8 35, .tmp 9]) rfl ?_
           refine ⟨⟨_, by rw [hrx]; rfl, ?_⟩, lkc⟩
           rw [hrx]
           refine RMade.setV (hR'.keep (S := OneB b2) kpc (fun k e e2 => ?_)) hs2
           have e' : k = b2 := e2
           subst e'
           rcases hs k e with q | q
           ·exact hb2F q
           ·omega
          ·
           have hm : (j : Int) ∈ R.vs[i].v.isr := by simpa using c5
           rw [if_pos hm] at hr
           refine x_skip ?_
           refine x_seq ?_
           refine x_regionL ?_
           refine xl_v v_move ?_
           refine xl_Fa ?_
           refine xl_v (v_load) ?_
           refine xl_v (v_add (by omega)) ?_
           refine xl_Fa ?_
           refine xl_Ld ?_
           refine xl_v (v_add (by omega)) ?_
           refine xl_Fa ?_
           refine xl_s (e_store fun w22 l22 k22 => ?_)
           refine xl_Fa ?_
           refine xl_s (e_store fun w23 l23 k23 => ?_)
           refine xl_Fa ?_
           refine xl_s (e_store fun w24 l24 k24 => ?_)
           refine xl_nil ?_
           refine x_seq ?_
           obtain ⟨x, hbx5, hrx, hfx⟩ : ∃ x : LV, (w24).heap[bw]? = some (.cells (viewC x).toArray 44 (0, 0)) ∧ R.pure.elect (i : Int) (j : Int) u = (R.pure.setV i x.v, 0) ∧ ∃ F2 : Nat → Prop, FRow w24 F2 x.A (ints x.v.isr) ∧ RefAt w24 F2 R ∧ Sub F2 F w ∧ ¬ F2 b2 := by
            have hb2F : ¬ F b2 := fun e => by have := h.lt b2 e; have : w.heap.size ≤ b2 := by rw [n2.eq]; exact Ge.le
                                              omega
            have hRw := h.ext (kpc : Keep NoB w w24)
            first
             | exact ⟨⟨⟨j, R.vs[i].v.epoch + 1, R.vs[i].v.ver + 1, R.vs[i].v.isr⟩, R.vs[i].A, R.vs[i].c⟩, Blk.eq, hr, F, hpx.keep (kpc : Keep NoB w w24) (fun _ _ h => h), hRw, Sub.refl _ _, hb2F⟩
             | exact ⟨⟨⟨j, R.vs[i].v.epoch + 1, R.vs[i].v.ver + 1, [(j : Int)]⟩, some ⟨b8, 0, none⟩, 1⟩, Blk.eq, hr, fun k => F k ∨ k = b8, FRow.of_blk (Blk.eq : (w24).heap[b8]? = _) (.inr rfl), hRw.mono (fun k e => .inl e) (fun k e => e.elim (hRw.lt k) (fun e => by have e' : k = b8 := e; rw [e']; exact (Has.lt : b8 < (w24).heap.size))), fun k e => e.imp id (fun e => by have e' : k = b8 := e; rw [e']; exact hw8), fun e => e.elim hb2F (fun e => by omega)⟩
           obtain ⟨F2, hfx2, hRx, hsx, hb2F⟩ := hfx
           haveI kx5 : Blk w24 bw _ := ⟨hbx5⟩
           refine x_regionL ?_
           refine xl_La ?_
           refine xl_v v_move ?_
           refine xl_La ?_
           refine xl_call (refview_ok R F2 i x w24 (hRx.ext (kpc : Keep NoB _ w24)) (hfx2.keep (kpc : Keep NoB _ w24) (fun _ _ h => h)) hi (by omega)) ?_
           rintro _ w25 ⟨⟨A, c, F', rfl, hR', hs⟩, lk2⟩
           have hs2 := hs.trans hsx (Ge.le : w.heap.size ≤ (w24).heap.size)
           have hb2p : b2 < (w24).heap.size := Has.lt
           refine xl_s (e_storeA fun w26 l26 k26 => ?_)
           refine xl_v v_assign ?_
           refine xl_nil ?_
           refine x_ret ?_
           refine finR (rs := [.cell 8 35, .tmp 9]) rfl ?_
           refine ⟨⟨_, by rw [hrx]; rfl, ?_⟩, lkc⟩
           rw [hrx]
           refine RMade.setV (hR'.keep (S := OneB b2) kpc (fun k e e2 => ?_)) hs2
           have e' : k = b2 := e2
           subst e'
           rcases hs k e with q | q
           ·exact hb2F q
           ·omega
      ·
       refine xl_gs rfl EvO.eq ?_
       refine xl_gs rfl EvO.eq ?_
       refine xl_Pk ?_
       refine xl_nil ?_
       refine x_condF ?_
       refine x_skip ?_
       refine x_seq ?_
       refine x_seq ?_
       have hE : ¬ (u = false ∧ (j : Int) ∉ R.vs[i].v.isr) := by
        rintro ⟨q1, q2⟩
        first
         | (simp at g49; exact q2 g49)
         | (simp at c3; rw [q1] at c3; cases c3)
       rw [if_neg hE] at hr
       refine x_regionL ?_
       refine xl_Fa ?_
       refine xl_Ld ?_
       refine xl_v v_eql ?_
       refine xl_v v_move ?_
       refine xl_split 57 (fun g57 => ?_) (fun g57 => ?_)
       ·
        refine xl_gs rfl EvO.eq ?_
        refine xl_gs rfl EvO.eq ?_
        refine xl_gs rfl EvO.eq ?_
        refine xl_Pk ?_
        refine xl_nil ?_
        refine x_condT ?_
        refine x_seq ?_
        refine x_regionL ?_
        refine xl_La ?_
        refine xl_s (e_storeA fun w27 l27 k27 => ?_)
        refine xl_v v_assign ?_
        refine xl_nil ?_
        refine x_ret ?_
        refine finR (rs := [.cell 8 35, .tmp 9]) rfl ?_
        have hE2 : R.vs[i].v.epoch = most ∨ R.vs[i].v.ver = most := by
         first
          | (simp at g57; exact .inl (by omega))
          | (simp at c4; exact .inr (by omega))
        rw [if_pos hE2] at hr
        exact ⟨⟨R, by rw [hr]; rfl, RMade.stay h kpc (by rw [hr])⟩, lkc⟩
       ·
        refine xl_gFa rfl EvO.eq ?_
        refine xl_gLd rfl EvO.eq ?_
        refine xl_gv rfl EvO.eq v_eql ?_
        refine xl_Pk ?_
        refine xl_nil ?_
        refine x_condE (fun c4 => ?_) (fun c4 => ?_)
        ·
         refine x_seq ?_
         refine x_regionL ?_
         refine xl_La ?_
         refine xl_s (e_storeA fun w28 l28 k28 => ?_)
         refine xl_v v_assign ?_
         refine xl_nil ?_
         refine x_ret ?_
         refine finR (rs := [.cell 8 35, .tmp 9]) rfl ?_
         have hE2 : R.vs[i].v.epoch = most ∨ R.vs[i].v.ver = most := by
          first
           | (simp at g57; exact .inl (by omega))
           | (simp at c4; exact .inr (by omega))
         rw [if_pos hE2] at hr
         exact ⟨⟨R, by rw [hr]; rfl, RMade.stay h kpc (by rw [hr])⟩, lkc⟩
        ·
         have hE2 : ¬ (R.vs[i].v.epoch = most ∨ R.vs[i].v.ver = most) := by
          simp at g57 c4
          omega
         rw [if_neg hE2] at hr
         refine x_skip ?_
         refine x_seq ?_
         refine x_seq ?_
         refine x_regionL ?_
         refine xl_Fa ?_
         refine xl_Ld ?_
         refine xl_v v_move ?_
         refine xl_call (refin_ok R.vs[i].A _ _ R.vs[i].v.isr j w10 rfl (by omega)) ?_
         rintro _ w29 ⟨rfl, lk6⟩
         refine xl_v v_not ?_
         refine xl_nil ?_
         first | refine x_condP (fun c5 => ?_) (fun c5 => ?_) | refine x_condN (fun c5 => ?_) (fun c5 => ?_) | refine x_condE (fun c5 => ?_) (fun c5 => ?_)
         ·
          have hm : (j : Int) ∉ R.vs[i].v.isr := by simpa using c5
          rw [if_neg hm] at hr
          refine x_regionL ?_
          refine xl_v v_move ?_
          have hb2q : b2 < (w29).heap.size := Has.lt
          refine xl_e (e_buildSlice1 rfl fun b8 w30 n8 l8 k8 => ?_)
          have hb28 : b2 < b8 := by rw [n8.eq]; exact hb2q
          have hw8 : w.heap.size ≤ b8 := by rw [n8.eq]; exact Ge.le
          refine xl_Fa ?_
          refine xl_s (e_store fun w31 l31 k31 => ?_)
          refine xl_nil ?_
          refine x_seq ?_
          refine x_regionL ?_
          refine xl_v v_move ?_
          refine xl_Fa ?_
          refine xl_v (v_load) ?_
          refine xl_v (v_add (by omega)) ?_
          refine xl_Fa ?_
          refine xl_Ld ?_
          refine xl_v (v_add (by omega)) ?_
          refine xl_Fa ?_
          refine xl_s (e_store fun w32 l32 k32 => ?_)
          refine xl_Fa ?_
          refine xl_s (e_store fun w33 l33 k33 => ?_)
          refine xl_Fa ?_
          refine xl_s (e_store fun w34 l34 k34 => ?_)
          refine xl_nil ?_
          refine x_seq ?_
          obtain ⟨x, hbx5, hrx, hfx⟩ : ∃ x : LV, (w34).heap[bw]? = some (.cells (viewC x).toArray 44 (0, 0)) ∧ R.pure.elect (i : Int) (j : Int) u = (R.pure.setV i x.v, 0) ∧ ∃ F2 : Nat → Prop, FRow w34 F2 x.A (ints x.v.isr) ∧ RefAt w34 F2 R ∧ Sub F2 F w ∧ ¬ F2 b2 := by
           have hb2F : ¬ F b2 := fun e => by have := h.lt b2 e; have : w.heap.size ≤ b2 := by rw [n2.eq]; exact Ge.le
                                             omega
           have hRw := h.ext (kpc : Keep NoB w w34)
           first
            | exact ⟨⟨⟨j, R.vs[i].v.epoch + 1, R.vs[i].v.ver + 1, R.vs[i].v.isr⟩, R.vs[i].A, R.vs[i].c⟩, Blk.eq, hr, F, hpx.keep (kpc : Keep NoB w w34) (fun _ _ h => h), hRw, Sub.refl _ _, hb2F⟩
            | exact ⟨⟨⟨j, R.vs[i].v.epoch + 1, R.vs[i].v.ver + 1, [(j : Int)]⟩, some ⟨b8, 0, none⟩, 1⟩, Blk.eq, hr, fun k => F k ∨ k = b8, FRow.of_blk (Blk.eq : (w34).heap[b8]? = _) (.inr rfl), hRw.mono (fun k e => .inl e) (fun k e => e.elim (hRw.lt k) (fun e => by have e' : k = b8 := e; rw [e']; exact (Has.lt : b8 < (w34).heap.size))), fun k e => e.imp id (fun e => by have e' : k = b8 := e; rw [e']; exact hw8), fun e => e.elim hb2F (fun e => by omega)⟩
          obtain ⟨F2, hfx2, hRx, hsx, hb2F⟩ := hfx
          haveI kx5 : Blk w34 bw _ := ⟨hbx5⟩
          refine x_regionL ?_
          refine xl_La ?_
          refine xl_v v_move ?_
          refine xl_La ?_
          refine xl_call (refview_ok R F2 i x w34 (hRx.ext (kpc : Keep NoB _ w34)) (hfx2.keep (kpc : Keep NoB _ w34) (fun _ _ h => h)) hi (by omega)) ?_
          rintro _ w35 ⟨⟨A, c, F', rfl, hR', hs⟩, lk2⟩
          have hs2 := hs.trans hsx (Ge.le : w.heap.size ≤ (w34).heap.size)
          have hb2p : b2 < (w34).heap.size := Has.lt
          refine xl_s (e_storeA fun w36 l36 k36 => ?_)
          refine xl_v v_assign ?_
          refine xl_nil ?_
          refine x_ret ?_
          refine finR (rs := [.cell 8 35, .tmp 9]) rfl ?_
          refine ⟨⟨_, by rw [hrx]; rfl, ?_⟩, lkc⟩
          rw [hrx]
          refine RMade.setV (hR'.keep (S := OneB b2) kpc (fun k e e2 => ?_)) hs2
          have e' : k = b2 := e2
          subst e'
          rcases hs k e with q | q
          ·exact hb2F q
          ·omega
         ·
          have hm : (j : Int) ∈ R.vs[i].v.isr := by simpa using c5
          rw [if_pos hm] at hr
          refine x_skip ?_
          refine x_seq ?_
          refine x_regionL ?_
          refine xl_v v_move ?_
          refine xl_Fa ?_
          refine xl_v (v_load) ?_
          refine xl_v (v_add (by omega)) ?_
          refine xl_Fa ?_
          refine xl_Ld ?_
          refine xl_v (v_add (by omega)) ?_
          refine xl_Fa ?_
          refine xl_s (e_store fun w37 l37 k37 => ?_)
          refine xl_Fa ?_
          refine xl_s (e_store fun w38 l38 k38 => ?_)
          refine xl_Fa ?_
          refine xl_s (e_store fun w39 l39 k39 => ?_)
          refine xl_nil ?_
          refine x_seq ?_
          obtain ⟨x, hbx5, hrx, hfx⟩ : ∃ x : LV, (w39).heap[bw]? = some (.cells (viewC x).toArray 44 (0, 0)) ∧ R.pure.elect (i : Int) (j : Int) u = (R.pure.setV i x.v, 0) ∧ ∃ F2 : Nat → Prop, FRow w39 F2 x.A (ints x.v.isr) ∧ RefAt w39 F2 R ∧ Sub F2 F w ∧ ¬ F2 b2 := by
           have hb2F : ¬ F b2 := fun e => by have := h.lt b2 e; have : w.heap.size ≤ b2 := by rw [n2.eq]; exact Ge.le
                                             omega
           have hRw := h.ext (kpc : Keep NoB w w39)
           first
            | exact ⟨⟨⟨j, R.vs[i].v.epoch + 1, R.vs[i].v.ver + 1, R.vs[i].v.isr⟩, R.vs[i].A, R.vs[i].c⟩, Blk.eq, hr, F, hpx.keep (kpc : Keep NoB w w39) (fun _ _ h => h), hRw, Sub.refl _ _, hb2F⟩
            | exact ⟨⟨⟨j, R.vs[i].v.epoch + 1, R.vs[i].v.ver + 1, [(j : Int)]⟩, some ⟨b8, 0, none⟩, 1⟩, Blk.eq, hr, fun k => F k ∨ k = b8, FRow.of_blk (Blk.eq : (w39).heap[b8]? = _) (.inr rfl), hRw.mono (fun k e => .inl e) (fun k e => e.elim (hRw.lt k) (fun e => by have e' : k = b8 := e; rw [e']; exact (Has.lt : b8 < (w39).heap.size))), fun k e => e.imp id (fun e => by have e' : k = b8 := e; rw [e']; exact hw8), fun e => e.elim hb2F (fun e => by omega)⟩
          obtain ⟨F2, hfx2, hRx, hsx, hb2F⟩ := hfx
          haveI kx5 : Blk w39 bw _ := ⟨hbx5⟩
          refine x_regionL ?_
          refine xl_La ?_
          refine xl_v v_move ?_
          refine xl_La ?_
          refine xl_call (refview_ok R F2 i x w39 (hRx.ext (kpc : Keep NoB _ w39)) (hfx2.keep (kpc : Keep NoB _ w39) (fun _ _ h => h)) hi (by omega)) ?_
          rintro _ w40 ⟨⟨A, c, F', rfl, hR', hs⟩, lk2⟩
          have hs2 := hs.trans hsx (Ge.le : w.heap.size ≤ (w39).heap.size)
          have hb2p : b2 < (w39).heap.size := Has.lt
          refine xl_s (e_storeA fun w41 l41 k41 => ?_)
          refine xl_v v_assign ?_
          refine xl_nil ?_
          refine x_ret ?_
          refine finR (rs := [.cell 8 35, .tmp 9]) rfl ?_
          refine ⟨⟨_, by rw [hrx]; rfl, ?_⟩, lkc⟩
          rw [hrx]
          refine RMade.setV (hR'.keep (S := OneB b2) kpc (fun k e e2 => ?_)) hs2
          have e' : k = b2 := e2
          subst e'
          rcases hs k e with q | q
          ·exact hb2F q
          ·omega
end Go.Proofs.Ytnjpladlfiaojaa
