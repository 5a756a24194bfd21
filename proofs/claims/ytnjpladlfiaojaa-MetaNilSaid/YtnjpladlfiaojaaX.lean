/-
 Walks, printed by a program of this workplace (wip/tools/sx.py) off the functions' code and a text of contracts.
-/
import Derived.Test.YtnjpladlfiaojaaW
set_option linter.all false
set_option maxRecDepth 100000
set_option synthInstance.maxSize 100000
set_option synthInstance.maxHeartbeats 400000
namespace Go.Proofs.Ytnjpladlfiaojaa
open Go.Wst
open Go.Wst.Ct
/-- The document's views, behind a fence that has come to the k-th. -/
def FenceR (bo b2 : Nat) (F : Nat → Prop) (w : World) (b : Int) (M : Meta) (k : Nat) (W : World) (R2 : LMeta) : Prop :=
 R2.nb = M.nb ∧ R2.np = M.np ∧ R2.ni = M.ni ∧ R2.lives = M.lives.set b.toNat false ∧ R2.ws.map (·.w) = M.wrs ∧ R2.vs.map (·.v) = (M.views.take k).map (View.fenced b) ++ M.views.drop k ∧ (∀ v ∈ M.views.take k, v.stuck b = false) ∧ ∃ F', RefAt W F' R2 ∧ Sub F' F w ∧ ∀ k, F' k → k ≠ bo ∧ k ≠ b2
theorem fence_set {b : Int} {l : List View} {vs : List LV} {k : Nat} {x : LV} (hE : vs.map (·.v) = (l.take k).map (View.fenced b) ++ l.drop k) (hk : k < l.length) (hx : x.v = (l[k]).fenced b) : (vs.set k x).map (·.v) = (l.take (k + 1)).map (View.fenced b) ++ l.drop (k + 1) := by
 rw [List.map_set, hE, take_snoc _ _ hk, List.map_append, hx]
 have hl : ((l.take k).map (View.fenced b)).length = k := by simp; omega
 rw [List.set_append_right _ _ (by omega), hl, Nat.sub_self]
 have hd : l.drop k = l[k] :: l.drop (k + 1) := List.drop_eq_getElem_cons hk
 rw [hd, List.set_cons_zero]
 simp only [List.map_cons, List.map_nil, List.append_assoc, List.singleton_append]
theorem fence_keep {b : Int} {l : List View} {vs : List LV} {k : Nat} (hE : vs.map (·.v) = (l.take k).map (View.fenced b) ++ l.drop k) (hk : k < l.length) (hx : (l[k]).fenced b = l[k]) : vs.map (·.v) = (l.take (k + 1)).map (View.fenced b) ++ l.drop (k + 1) := by
 rw [hE, take_snoc _ _ hk, List.map_append]
 have hd : l.drop k = l[k] :: l.drop (k + 1) := List.drop_eq_getElem_cons hk
 rw [hd]
 simp [hx]
set_option maxHeartbeats 2000000 in
/-- (waystation/waystationref10.Meta).Fence -/
theorem reffence_ok (R : LMeta) (F : Nat → Prop) (b : Int) (w : World) (h : RefAt w F R) (hok : R.pure.ok) : Ret Try.prog 38 #[.agg (metaC R).toArray, .int .i64 b] w (fun v w' => (∃ R', v = .tuple #[.agg (metaC R').toArray, .int .i64 (R.pure.fence b).2] ∧ RMade F w (R.pure.fence b).1 w' R') ∧ Lk w' w NoB) := by
 obtain ⟨hll, hvl, hwl, hnb, hnp, hni⟩ := lens hok
 have hmost : most = 2147483647 := rfl
 haveI hrb : RowB w R.VA w (R.vs.flatMap viewC) := rowB_of h.views.row
 refine ret_of_x (N := 83) (l := [.agg (metaC R).toArray, .int .i64 b]) Try.func38 rfl rfl (Nat.le_of_ble_eq_true rfl) ?_
 refine x_seq ?_
 refine x_regionL ?_
 refine xl_e (e_box fun b1 w1 n1 l1 k1 => ?_)
 refine xl_e (e_alloc fun b2 w2 n2 l2 k2 => ?_)
 refine xl_v v_assign ?_
 refine xl_nil ?_
 refine x_seq ?_
 refine x_seq ?_
 refine x_regionL ?_
 refine xl_v v_move ?_
 refine xl_v v_lss ?_
 refine xl_v v_move ?_
 refine xl_split 13 (fun g13 => ?_) (fun g13 => ?_)
 ·
  refine xl_gs rfl EvO.eq ?_
  refine xl_gs rfl EvO.eq ?_
  refine xl_gs rfl EvO.eq ?_
  refine xl_gs rfl EvO.eq ?_
  refine xl_gs rfl EvO.eq ?_
  refine xl_Pk ?_
  refine xl_nil ?_
  refine x_condT ?_
  refine x_seq ?_
  refine x_regionL ?_
  refine xl_La ?_
  refine xl_s (e_storeA fun w3 l3 k3 => ?_)
  refine xl_v v_assign ?_
  refine xl_nil ?_
  refine x_ret ?_
  refine finR (rs := [.cell 4 35, .tmp 5]) rfl ?_
  have hn : ¬ inN b R.nb := by
   unfold inN
   first
    | (simp at g13; omega)
    | (simp at c1; omega)
  have hr : R.pure.fence b = (R.pure, 2) := if_pos hn
  exact ⟨⟨R, by rw [hr]; rfl, RMade.stay h kpc (by rw [hr])⟩, lkc⟩
 ·
  refine xl_gv rfl EvO.eq v_move ?_
  refine xl_gFa rfl EvO.eq ?_
  refine xl_gFa rfl EvO.eq ?_
  refine xl_gLd rfl EvO.eq ?_
  refine xl_gv rfl EvO.eq v_geq ?_
  refine xl_Pk ?_
  refine xl_nil ?_
  refine x_condE (fun c1 => ?_) (fun c1 => ?_)
  ·
   refine x_seq ?_
   refine x_regionL ?_
   refine xl_La ?_
   refine xl_s (e_storeA fun w4 l4 k4 => ?_)
   refine xl_v v_assign ?_
   refine xl_nil ?_
   refine x_ret ?_
   refine finR (rs := [.cell 4 35, .tmp 5]) rfl ?_
   have hn : ¬ inN b R.nb := by
    unfold inN
    first
     | (simp at g13; omega)
     | (simp at c1; omega)
   have hr : R.pure.fence b = (R.pure, 2) := if_pos hn
   exact ⟨⟨R, by rw [hr]; rfl, RMade.stay h kpc (by rw [hr])⟩, lkc⟩
  ·
   have hn : inN b R.nb := by
    simp at g13 c1
    exact ⟨by omega, by omega⟩
   have hr : R.pure.fence b = _ := if_neg (fun e => e hn)
   obtain ⟨i, rfl, hi⟩ := nat_of hn
   have hml : R.pure.views.length = R.vs.length := by simp [LMeta.pure]
   refine x_skip ?_
   refine x_seq ?_
   refine x_regionL ?_
   refine xl_La ?_
   refine xl_v v_move ?_
   refine xl_call (reflive_ok R F i false w2 (h.ext (kpc : Keep NoB w w2)) (by omega) (by omega)) ?_
   rintro _ w5 ⟨⟨A, c, F', rfl, hR', hs⟩, lk2⟩
   have hs2 := sub_le hs (Ge.le : w.heap.size ≤ (w2).heap.size)
   have hb2p : b2 < (w2).heap.size := Has.lt
   refine xl_e (e_alloc fun bo w6 no lo ko => ?_)
   refine xl_s (e_storeA fun w7 l7 k7 => ?_)
   refine xl_nil ?_
   refine x_seq ?_
   refine x_seq ?_
   refine x_regionL ?_
   refine xl_v v_assign ?_
   refine xl_nil ?_
   refine x_block ?_
   have hb2w : w.heap.size ≤ b2 := by rw [n2.eq]; exact Ge.le
   have hb1w : w.heap.size ≤ b1 := by rw [n1.eq]; exact Ge.le
   have hbow : w.heap.size ≤ bo := by rw [no.eq]; exact Ge.le
   have hb2l : (w7).heap[b2]? = _ := Blk.eq
   have hb1l : (w7).heap[b1]? = _ := Blk.eq
   have hbol : (w7).heap[bo]? = some (.cells (metaC { R with lives := R.lives.set i false, LA := A, lc := c }).toArray 35 (0, 0)) := by have := (Blk.eq : (w7).heap[bo]? = _); simpa [metaC] using this
   have hne1 : b1 ≠ bo := NeB.ne
   have hne2 : b2 ≠ bo := NeB.ne
   have hne3 : b1 ≠ b2 := NeB.ne
   have hfr : ∀ k, F' k → k ≠ bo ∧ k ≠ b2 := fun k e => by
    have h1 := hR'.lt k e
    have h2 := no.eq
    rcases hs k e with q | q
    ·have := h.lt k q; omega
    ·omega
   have hF0 : FenceR bo b2 F w i R.pure 0 w7 { R with lives := R.lives.set i false, LA := A, lc := c } := ⟨rfl, rfl, rfl, by simp [LMeta.pure], rfl, by simp [LMeta.pure], by simp, F', hR'.ext kpc, hs2, hfr⟩
   obtain ⟨wL, hwL⟩ : ∃ x, x = w7 := ⟨_, rfl⟩
   have hwwL : Keep NoB w wL := by rw [hwL]; exact kpc
   haveI lkLw : Lk wL w NoB := ⟨hwwL⟩
   rw [← hwL] at hb2l hb1l
   haveI kb2 : Blk wL b2 _ := ⟨hb2l⟩
   haveI kb1 : Blk wL b1 _ := ⟨hb1l⟩
   have hboL : bo < wL.heap.size := by rw [hwL]; exact Has.lt
   have hb2L : b2 < wL.heap.size := Has.lt
   haveI nbo1 : NeB b1 bo := ⟨hne1⟩
   haveI nbo2 : NeB b2 bo := ⟨hne2⟩
   refine x_loop (fun m τ ds w' => ds = [] ∧ ∃ (k : Nat) (R2 : LMeta), m = R.vs.length - k ∧ k ≤ R.vs.length ∧ FenceR bo b2 F w i R.pure k w' R2 ∧ w'.heap[bo]? = some (.cells (metaC R2).toArray 35 (0, 0)) ∧ Ev τ 1 (.int .i64 (i : Int)) ∧ Ev τ 2 (.pointer (some ⟨b1, 0, none⟩)) ∧ Ev τ 4 (.pointer (some ⟨b2, 0, none⟩)) ∧ Ev τ 6 (.pointer (some ⟨bo, 0, none⟩)) ∧ Ev τ 7 (.int .i64 (k : Int)) ∧ Lk w' wL (OneB bo)) (R.vs.length) ?start ?round
   case start =>
    exact ⟨rfl, 0, _, rfl, Nat.zero_le _, hF0, hbol, inferInstance, inferInstance, inferInstance, inferInstance, evc, by rw [hwL]; exact lkc⟩
   case round =>
    intro m τ8 ds8 w8 hI
    obtain ⟨rfl, k, R2, rfl, hk, hF, hbo, e1, e2, e4, e6, e7, lk⟩ := hI
    haveI kbo : Blk w8 bo _ := ⟨hbo⟩
    have hLB : wL.heap.size ≤ (w8).heap.size := lk.keep.size
    haveI sbo : SubF (OneB bo) NoB w := ⟨fun k hk e => by have e' : k = bo := e; omega⟩
    haveI rVA : Row w8 R.VA (R.vs.flatMap viewC) := by
     haveI lkx : Lk w8 w NoB := lkc
     exact inferInstance
    refine x_seq ?_
    refine x_seq ?_
    refine x_regionL ?_
    refine xl_v v_move ?_
    refine xl_Fa ?_
    refine xl_Ld ?_
    refine xl_v v_len ?_
    refine xl_v v_lss ?_
    refine xl_nil ?_
    first | refine x_condP (fun c2 => ?_) (fun c2 => ?_) | refine x_condN (fun c2 => ?_) (fun c2 => ?_) | refine x_condE (fun c2 => ?_) (fun c2 => ?_)
    ·
     have hk1 : k < R.vs.length := by omega
     have hkP : k < R.pure.views.length := by omega
     have hov := hok.vs _ (List.getElem_mem hkP)
     have hyv : R.pure.views[k] = R.vs[k].v := by simp [LMeta.pure]
     rw [hyv] at hov
     have he0 := hov.e0
     have he1 := hov.e1
     have hv0 := hov.v0
     have hv1 := hov.v1
     have hrise : Rises R.nb R.vs[k].v.isr := hov.rise
     have hpl2 := rises_len hrise
     have hpx := h.isr R.vs[k] (List.getElem_mem hk1)
     haveI rpx0 : RowB w R.vs[k].A w (ints R.vs[k].v.isr) := rowB_of hpx.row
     haveI rpx : Row w8 R.vs[k].A (ints R.vs[k].v.isr) := by
      haveI lkx : Lk w8 w NoB := lkc
      exact inferInstance
     haveI rpB : RowB w8 R.vs[k].A w8 (ints R.vs[k].v.isr) := rowB_of rpx.row
     refine x_skip ?_
     refine x_seq ?_
     refine x_block ?_
     refine x_seq ?_
     refine x_regionL ?_
     refine xl_Fa ?_
     refine xl_Ld ?_
     refine xl_v v_move ?_
     refine xl_v (v_indexF k (by decide) rfl (by omega) hk1) ?_
     refine xl_v (v_loadF (k := k) (by decide) hk1) ?_
     have hBw : (w8).heap.size ≤ (w8).heap.size := Ge.le
     refine xl_e (e_alloc fun bw w9 nw lw kw => ?_)
     refine xl_s (e_storeA fun w10 l10 k10 => ?_)
     refine xl_nil ?_
     refine x_seq ?_
     refine x_drawL (NoB) (allS) (.take 0 (.take 1 (.take 2 (.take 3 (.take 4 (.take 5 (.take 6 (.eff 7 (.take 8 (.take 9 (.take 10 (.take 11 (.take 12 (.take 13 (.take 14 (.take 15 .done)))))))))))))))) mixed (by kernel_rfl) (fun _ _ _ _ _ h => h) (fun w11 l11 => ?_)
     refine xt_Fa rfl ?_
     refine xt_Ld rfl ?_
     refine xt_v rfl v_move ?_
     refine xt_v rfl v_eql ?_
     refine xt_Fa rfl ?_
     refine xt_Ld rfl ?_
     refine xt_v rfl v_move ?_
     refine xt_call rfl (refin_ok R.vs[k].A _ _ R.vs[k].v.isr i w11 rfl (by omega)) ?_
     rintro _ w12 ⟨rfl, lk5⟩
     refine ⟨kpc, ?_⟩
     refine xt_v rfl v_move ?_
     refine xt_split 44 (fun g44 => ?_) (fun g44 => ?_)
     ·
      refine xt_gFa rfl rfl EvO.eq ?_
      refine xt_gLd rfl rfl EvO.eq ?_
      refine xt_gv rfl rfl EvO.eq v_len ?_
      refine xt_gv rfl rfl EvO.eq v_gtr ?_
      refine xt_Pk rfl ?_
      refine xt_v rfl v_assign ?_
      refine xt_v rfl v_assign ?_
      refine xt_nil ?_
      refine x_seq ?_
      refine x_seq ?_
      refine x_regionL ?_
      refine xl_v v_move ?_
      refine xl_nil ?_
      first | refine x_condP (fun c3 => ?_) (fun c3 => ?_) | refine x_condN (fun c3 => ?_) (fun c3 => ?_) | refine x_condE (fun c3 => ?_) (fun c3 => ?_)
      ·
       refine x_seq ?_
       refine x_seq ?_
       refine x_regionL ?_
       refine xl_Fa ?_
       refine xl_Ld ?_
       refine xl_v v_eql ?_
       refine xl_nil ?_
       first | refine x_condP (fun c4 => ?_) (fun c4 => ?_) | refine x_condN (fun c4 => ?_) (fun c4 => ?_) | refine x_condE (fun c4 => ?_) (fun c4 => ?_)
       ·
        refine x_seq ?_
        refine x_regionL ?_
        refine xl_La ?_
        refine xl_s (e_storeA fun w13 l13 k13 => ?_)
        refine xl_v v_assign ?_
        refine xl_nil ?_
        refine x_ret ?_
        refine finR (rs := [.cell 4 35, .tmp 5]) rfl ?_
        have hS : R.vs[k].v.stuck i = true := by
         rw [View.stuck, decide_eq_true c3, decide_eq_true (by omega : R.vs[k].v.epoch = most)]
         simp
        have hany : R.pure.views.any (View.stuck (i : Int)) = true := List.any_eq_true.2 ⟨_, List.getElem_mem hkP, by rw [hyv]; exact hS⟩
        rw [if_pos hany] at hr
        exact ⟨⟨R, by rw [hr]; rfl, RMade.stay h kpc (by rw [hr])⟩, lkc⟩
       ·
        refine x_skip ?_
        refine x_regionL ?_
        refine xl_Fa ?_
        refine xl_Ld ?_
        refine xl_v (v_add (by omega)) ?_
        refine xl_Fa ?_
        refine xl_s (e_store fun w14 l14 k14 => ?_)
        refine xl_Fa ?_
        refine xl_s (e_store fun w15 l15 k15 => ?_)
        refine xl_nil ?_
        refine x_seq ?_
        refine x_seq ?_
        refine x_regionL ?_
        refine xl_v v_move ?_
        refine xl_nil ?_
        first | refine x_condP (fun c5 => ?_) (fun c5 => ?_) | refine x_condN (fun c5 => ?_) (fun c5 => ?_) | refine x_condE (fun c5 => ?_) (fun c5 => ?_)
        ·
         have hlvt : R.vs[k].v.leaves i = true := by
          have q1 : (i : Int) ∈ R.vs[k].v.isr := by simpa using g44
          rw [View.leaves, decide_eq_true q1, decide_eq_true (by omega : 1 < R.vs[k].v.isr.length)]; rfl
         obtain ⟨l, hl⟩ : ∃ l, l = R.vs[k].v.isr.filter (fun x => !decide (x = (i : Int))) := ⟨_, rfl⟩
         refine x_regionL ?_
         refine xl_Fa ?_
         refine xl_Ld ?_
         refine xl_v v_move ?_
         refine xl_call (refwithout_ok R.vs[k].A _ _ R.vs[k].v.isr i w15 rfl (by omega)) ?_
         rintro _ w16 ⟨⟨A5, c5', rfl, hown5⟩, lk6⟩
         rw [← hl] at hown5
         rw [← hl]
         haveI o5 : OwnI w16 A5 _ _ _ _ _ _ _ := ⟨hown5⟩
         haveI na5 : NewA A5 w15 := newA_of hown5 (Nat.le_refl _)
         have hbwp : bw < (w15).heap.size := Has.lt
         haveI ap5 : ApB A5 bw := ⟨fun a ha e => by have := (own_blk hown5 (blkA_some ha)).1; omega⟩
         have hgeP : (w8).heap.size ≤ (w15).heap.size := Ge.le
         refine xl_Fa ?_
         refine xl_s (e_store fun w17 l17 k17 => ?_)
         refine xl_nil ?_
         refine x_seq ?_
         have hlvd : R.vs[k].v.leaves i = true ∨ R.vs[k].v.leaves i = false := by cases R.vs[k].v.leaves i <;> simp
         refine x_regionL ?_
         refine xl_v v_move ?_
         refine xl_v v_move ?_
         refine xl_split 67 (fun g67 => ?_) (fun g67 => ?_)
         ·
          refine xl_gs rfl EvO.eq ?_
          refine xl_Pk ?_
          refine xl_nil ?_
          refine x_condT ?_
          refine x_seq ?_
          refine x_seq ?_
          refine x_regionL ?_
          refine xl_Fa ?_
          refine xl_Ld ?_
          refine xl_v v_eql ?_
          refine xl_nil ?_
          first | refine x_condP (fun c7 => ?_) (fun c7 => ?_) | refine x_condN (fun c7 => ?_) (fun c7 => ?_) | refine x_condE (fun c7 => ?_) (fun c7 => ?_)
          ·
           refine x_seq ?_
           refine x_regionL ?_
           refine xl_La ?_
           refine xl_s (e_storeA fun w18 l18 k18 => ?_)
           refine xl_v v_assign ?_
           refine xl_nil ?_
           refine x_ret ?_
           refine finR (rs := [.cell 4 35, .tmp 5]) rfl ?_
           have hS : R.vs[k].v.stuck i = true := by
            have q : (decide (R.vs[k].v.lead = i) || R.vs[k].v.leaves i) = true := by
             first
              | (rw [decide_eq_true c3]; rfl)
              | (rw [hlvt, Bool.or_true])
              | (have q1 : R.vs[k].v.lead = (i : Int) := by simpa using g67
                 exact absurd q1 c3)
              | (exfalso; omega)
            rw [View.stuck, q, decide_eq_true (by omega : R.vs[k].v.ver = most)]
            simp
           have hany : R.pure.views.any (View.stuck (i : Int)) = true := List.any_eq_true.2 ⟨_, List.getElem_mem hkP, by rw [hyv]; exact hS⟩
           rw [if_pos hany] at hr
           exact ⟨⟨R, by rw [hr]; rfl, RMade.stay h kpc (by rw [hr])⟩, lkc⟩
          ·
           refine x_skip ?_
           refine x_seq ?_
           refine x_regionL ?_
           refine xl_Fa ?_
           refine xl_Ld ?_
           refine xl_v (v_add (by omega)) ?_
           refine xl_Fa ?_
           refine xl_s (e_store fun w19 l19 k19 => ?_)
           refine xl_nil ?_
           obtain ⟨F2, hR2, hs2, hne2⟩ := hF.2.2.2.2.2.2.2
           obtain ⟨x, hxb, hxv, F3, hfx, hRx, hsx, hnx⟩ : ∃ x : LV, (w19).heap[bw]? = some (.cells (viewC x).toArray 44 (0, 0)) ∧ x.v = R.vs[k].v.fenced i ∧ ∃ F3 : Nat → Prop, FRow w19 F3 x.A (ints x.v.isr) ∧ RefAt w19 F3 R2 ∧ Sub F3 F w ∧ ∀ k, F3 k → k ≠ bo ∧ k ≠ b2 := by
            have hRw := hR2.ext (kpc : Keep NoB w8 w19)
            have hbwB : (w8).heap.size ≤ w.heap.size ∨ w.heap.size ≤ (w8).heap.size := by omega
            have hwB : w.heap.size ≤ (w8).heap.size := Ge.le
            have hFm : ∀ k, (F k ∨ F2 k) → k < (w19).heap.size := fun k e => e.elim (fun e => Nat.lt_of_lt_of_le (h.lt k e) Ge.le) (hRw.lt k)
            have hpw : FRow w19 (fun k => F k ∨ F2 k) R.vs[k].A (ints R.vs[k].v.isr) := ⟨(inferInstance : Row w19 R.vs[k].A (ints R.vs[k].v.isr)).row, fun a ha => .inl (hpx.blk a ha)⟩
            have hsF : Sub (fun k => F k ∨ F2 k) F w := fun k e => e.elim .inl (hs2 k)
            have hnF : ∀ k, (F k ∨ F2 k) → k ≠ bo ∧ k ≠ b2 := fun k e => e.elim (fun e => by have := h.lt k e; omega) (hne2 k)
            first
             | (exfalso; simp at g67; exact absurd g67 c3)
             | (exfalso; simp at g67; exact absurd c3 g67)
             | exact ⟨⟨⟨-1, R.vs[k].v.epoch + 1, R.vs[k].v.ver + 1, l⟩, A5, c5'⟩, Blk.eq, by rw [View.fenced, if_pos (.inl c3), if_pos c3, if_pos c3, if_pos hlvt, hl], fun k => F2 k ∨ OwnB (.slice A5 l.length c5') k, (FRow.of_own (OwnI.own : World.ownsRow w19 _ _ _ (.slice A5 _ c5') _ _)).mono (fun k e => .inr e), hRw.mono (fun k e => .inl e) (fun k e => e.elim (hRw.lt k) (fun e => (own_blk (OwnI.own : World.ownsRow w19 _ _ _ (.slice A5 _ c5') _ _) (ownB_blk.1 e)).2)), fun k e => e.elim (hs2 k) (fun e => .inr (by have := (own_blk hown5 (ownB_blk.1 e)).1; omega)), fun k e => e.elim (hne2 k) (fun e => by have := (own_blk hown5 (ownB_blk.1 e)).1; omega)⟩
             | exact ⟨⟨⟨R.vs[k].v.lead, R.vs[k].v.epoch, R.vs[k].v.ver + 1, l⟩, A5, c5'⟩, Blk.eq, by rw [View.fenced, if_pos (.inr hlvt), if_neg c3, if_neg c3, if_pos hlvt, hl], fun k => F2 k ∨ OwnB (.slice A5 l.length c5') k, (FRow.of_own (OwnI.own : World.ownsRow w19 _ _ _ (.slice A5 _ c5') _ _)).mono (fun k e => .inr e), hRw.mono (fun k e => .inl e) (fun k e => e.elim (hRw.lt k) (fun e => (own_blk (OwnI.own : World.ownsRow w19 _ _ _ (.slice A5 _ c5') _ _) (ownB_blk.1 e)).2)), fun k e => e.elim (hs2 k) (fun e => .inr (by have := (own_blk hown5 (ownB_blk.1 e)).1; omega)), fun k e => e.elim (hne2 k) (fun e => by have := (own_blk hown5 (ownB_blk.1 e)).1; omega)⟩
             | (have hlvf : ¬ (R.vs[k].v.leaves i = true) := by
                 rw [View.leaves]
                 first
                  | (have q1 : ¬ (i : Int) ∈ R.vs[k].v.isr := by simpa using g44
                     rw [decide_eq_false q1]; simp; done)
                  | (rw [decide_eq_false (by omega : ¬ 1 < R.vs[k].v.isr.length)]; simp; done)
                exact ⟨⟨⟨-1, R.vs[k].v.epoch + 1, R.vs[k].v.ver + 1, R.vs[k].v.isr⟩, R.vs[k].A, R.vs[k].c⟩, Blk.eq, by rw [View.fenced, if_pos (.inl c3), if_pos c3, if_pos c3, if_neg hlvf], fun k => F k ∨ F2 k, hpw, hRw.mono (fun k e => .inr e) hFm, hsF, hnF⟩)
             | (exfalso; omega)
           haveI kxw : Blk w19 bw _ := ⟨hxb⟩
           have hR2l : R2.vs.length = R.vs.length := by
            have := congrArg List.length hF.2.2.2.2.2.1
            simp [LMeta.pure] at this
            omega
           have hns : R.vs[k].v.stuck i = false := by
            rw [View.stuck]
            have q1 : ¬ R.vs[k].v.ver = most := by omega
            rw [decide_eq_false q1, Bool.false_or]
            first
             | (have q2 : ¬ R.vs[k].v.epoch = most := by omega
                rw [decide_eq_false q2]; simp; done)
             | (rw [decide_eq_false c3]; simp; done)
           refine x_regionL ?_
           refine xl_La ?_
           refine xl_v v_move ?_
           refine xl_La ?_
           refine xl_call (refview_ok R2 F3 k x w19 (hRx.ext (kpc : Keep NoB _ w19)) (hfx.keep (kpc : Keep NoB _ w19) (fun _ _ h => h)) (by omega) (by omega)) ?_
           rintro _ w20 ⟨⟨A6, c6', F6, rfl, hR6, hs6⟩, lk7⟩
           have hbop : bo < (w19).heap.size := Has.lt
           have hb2p : b2 < (w19).heap.size := Has.lt
           have hn6 : ∀ k, F6 k → k ≠ bo ∧ k ≠ b2 := fun k e => (hs6 k e).elim (hnx k) (fun e => by omega)
           have hs66 := hs6.trans hsx (Ge.le : w.heap.size ≤ (w19).heap.size)
           refine xl_s (e_storeA fun w21 l21 k21 => ?_)
           have hFin : FenceR bo b2 F w i R.pure (k + 1) w21 { R2 with vs := R2.vs.set k x, VA := A6, vc := c6' } := by
            obtain ⟨q1, q2, q3, q4, q5, q6, q7, _⟩ := hF
            refine ⟨q1, q2, q3, q4, q5, fence_set q6 hkP (by rw [hyv]; exact hxv), ?_, F6, hR6.keep (S := OneB bo) kpc (fun k e e2 => (hn6 k e).1 e2), hs66, hn6⟩
            intro v hv
            rw [take_snoc _ _ hkP] at hv
            rcases List.mem_append.1 hv with hv | hv
            ·exact q7 v hv
            ·rw [List.mem_singleton.1 hv, hyv]; exact hns
           have hboF : (w21).heap[bo]? = some (.cells (metaC { R2 with vs := R2.vs.set k x, VA := A6, vc := c6' }).toArray 35 (0, 0)) := by have := (Blk.eq : (w21).heap[bo]? = _); simpa [metaC] using this
           refine xl_nil ?_
           obtain ⟨R3, hF3, hbo3⟩ : ∃ R3, FenceR bo b2 F w i R.pure (k + 1) w21 R3 ∧ (w21).heap[bo]? = some (.cells (metaC R3).toArray 35 (0, 0)) := by
            first
             | exact ⟨_, hFin, hboF⟩
             | (refine ⟨R2, ?_, Blk.eq⟩
                have q8 : ¬ R.vs[k].v.lead = (i : Int) := by first | (simp at g67; exact g67) | exact c3
                have q9 : ¬ (R.vs[k].v.leaves i = true) := by
                 rw [View.leaves]
                 first
                  | (have q1 : ¬ (i : Int) ∈ R.vs[k].v.isr := by simpa using g44
                     rw [decide_eq_false q1]; simp; done)
                  | (rw [decide_eq_false (by omega : ¬ 1 < R.vs[k].v.isr.length)]; simp; done)
                obtain ⟨q1, q2, q3, q4, q5, q6, q7, F2, hR2, hs2, hne2⟩ := hF
                refine ⟨q1, q2, q3, q4, q5, fence_keep q6 hkP ?_, ?_, F2, hR2.ext (kpc : Keep NoB w8 w21), hs2, hne2⟩
                ·rw [hyv, View.fenced, if_neg (fun e => e.elim q8 q9)]
                ·intro v hv
                 rw [take_snoc _ _ hkP] at hv
                 rcases List.mem_append.1 hv with hv | hv
                 ·exact q7 v hv
                 ·rw [List.mem_singleton.1 hv, hyv, View.stuck, decide_eq_false q8]
                  simp [q9])
           refine x_regionL ?_
           refine xl_v v_move ?_
           refine xl_v (v_add (by omega)) ?_
           refine xl_v v_assign ?_
           refine xl_nil ?_
           refine ⟨_, ?_, rfl, k + 1, R3, rfl, by omega, hF3, hbo3, inferInstance, inferInstance, inferInstance, inferInstance, evc, lkc⟩
           omega
         ·
          refine xl_gv rfl EvO.eq v_move ?_
          refine xl_Pk ?_
          refine xl_nil ?_
          first | refine x_condP (fun c6 => ?_) (fun c6 => ?_) | refine x_condN (fun c6 => ?_) (fun c6 => ?_) | refine x_condE (fun c6 => ?_) (fun c6 => ?_)
          ·
           refine x_seq ?_
           refine x_seq ?_
           refine x_regionL ?_
           refine xl_Fa ?_
           refine xl_Ld ?_
           refine xl_v v_eql ?_
           refine xl_nil ?_
           first | refine x_condP (fun c7 => ?_) (fun c7 => ?_) | refine x_condN (fun c7 => ?_) (fun c7 => ?_) | refine x_condE (fun c7 => ?_) (fun c7 => ?_)
           ·
            refine x_seq ?_
            refine x_regionL ?_
            refine xl_La ?_
            refine xl_s (e_storeA fun w22 l22 k22 => ?_)
            refine xl_v v_assign ?_
            refine xl_nil ?_
            refine x_ret ?_
            refine finR (rs := [.cell 4 35, .tmp 5]) rfl ?_
            have hS : R.vs[k].v.stuck i = true := by
             have q : (decide (R.vs[k].v.lead = i) || R.vs[k].v.leaves i) = true := by
              first
               | (rw [decide_eq_true c3]; rfl)
               | (rw [hlvt, Bool.or_true])
               | (have q1 : R.vs[k].v.lead = (i : Int) := by simpa using g67
                  exact absurd q1 c3)
               | (exfalso; omega)
             rw [View.stuck, q, decide_eq_true (by omega : R.vs[k].v.ver = most)]
             simp
            have hany : R.pure.views.any (View.stuck (i : Int)) = true := List.any_eq_true.2 ⟨_, List.getElem_mem hkP, by rw [hyv]; exact hS⟩
            rw [if_pos hany] at hr
            exact ⟨⟨R, by rw [hr]; rfl, RMade.stay h kpc (by rw [hr])⟩, lkc⟩
           ·
            refine x_skip ?_
            refine x_seq ?_
            refine x_regionL ?_
            refine xl_Fa ?_
            refine xl_Ld ?_
            refine xl_v (v_add (by omega)) ?_
            refine xl_Fa ?_
            refine xl_s (e_store fun w23 l23 k23 => ?_)
            refine xl_nil ?_
            obtain ⟨F2, hR2, hs2, hne2⟩ := hF.2.2.2.2.2.2.2
            obtain ⟨x, hxb, hxv, F3, hfx, hRx, hsx, hnx⟩ : ∃ x : LV, (w23).heap[bw]? = some (.cells (viewC x).toArray 44 (0, 0)) ∧ x.v = R.vs[k].v.fenced i ∧ ∃ F3 : Nat → Prop, FRow w23 F3 x.A (ints x.v.isr) ∧ RefAt w23 F3 R2 ∧ Sub F3 F w ∧ ∀ k, F3 k → k ≠ bo ∧ k ≠ b2 := by
             have hRw := hR2.ext (kpc : Keep NoB w8 w23)
             have hbwB : (w8).heap.size ≤ w.heap.size ∨ w.heap.size ≤ (w8).heap.size := by omega
             have hwB : w.heap.size ≤ (w8).heap.size := Ge.le
             have hFm : ∀ k, (F k ∨ F2 k) → k < (w23).heap.size := fun k e => e.elim (fun e => Nat.lt_of_lt_of_le (h.lt k e) Ge.le) (hRw.lt k)
             have hpw : FRow w23 (fun k => F k ∨ F2 k) R.vs[k].A (ints R.vs[k].v.isr) := ⟨(inferInstance : Row w23 R.vs[k].A (ints R.vs[k].v.isr)).row, fun a ha => .inl (hpx.blk a ha)⟩
             have hsF : Sub (fun k => F k ∨ F2 k) F w := fun k e => e.elim .inl (hs2 k)
             have hnF : ∀ k, (F k ∨ F2 k) → k ≠ bo ∧ k ≠ b2 := fun k e => e.elim (fun e => by have := h.lt k e; omega) (hne2 k)
             first
              | (exfalso; simp at g67; exact absurd g67 c3)
              | (exfalso; simp at g67; exact absurd c3 g67)
              | exact ⟨⟨⟨-1, R.vs[k].v.epoch + 1, R.vs[k].v.ver + 1, l⟩, A5, c5'⟩, Blk.eq, by rw [View.fenced, if_pos (.inl c3), if_pos c3, if_pos c3, if_pos hlvt, hl], fun k => F2 k ∨ OwnB (.slice A5 l.length c5') k, (FRow.of_own (OwnI.own : World.ownsRow w23 _ _ _ (.slice A5 _ c5') _ _)).mono (fun k e => .inr e), hRw.mono (fun k e => .inl e) (fun k e => e.elim (hRw.lt k) (fun e => (own_blk (OwnI.own : World.ownsRow w23 _ _ _ (.slice A5 _ c5') _ _) (ownB_blk.1 e)).2)), fun k e => e.elim (hs2 k) (fun e => .inr (by have := (own_blk hown5 (ownB_blk.1 e)).1; omega)), fun k e => e.elim (hne2 k) (fun e => by have := (own_blk hown5 (ownB_blk.1 e)).1; omega)⟩
              | exact ⟨⟨⟨R.vs[k].v.lead, R.vs[k].v.epoch, R.vs[k].v.ver + 1, l⟩, A5, c5'⟩, Blk.eq, by rw [View.fenced, if_pos (.inr hlvt), if_neg c3, if_neg c3, if_pos hlvt, hl], fun k => F2 k ∨ OwnB (.slice A5 l.length c5') k, (FRow.of_own (OwnI.own : World.ownsRow w23 _ _ _ (.slice A5 _ c5') _ _)).mono (fun k e => .inr e), hRw.mono (fun k e => .inl e) (fun k e => e.elim (hRw.lt k) (fun e => (own_blk (OwnI.own : World.ownsRow w23 _ _ _ (.slice A5 _ c5') _ _) (ownB_blk.1 e)).2)), fun k e => e.elim (hs2 k) (fun e => .inr (by have := (own_blk hown5 (ownB_blk.1 e)).1; omega)), fun k e => e.elim (hne2 k) (fun e => by have := (own_blk hown5 (ownB_blk.1 e)).1; omega)⟩
              | (have hlvf : ¬ (R.vs[k].v.leaves i = true) := by
                  rw [View.leaves]
                  first
                   | (have q1 : ¬ (i : Int) ∈ R.vs[k].v.isr := by simpa using g44
                      rw [decide_eq_false q1]; simp; done)
                   | (rw [decide_eq_false (by omega : ¬ 1 < R.vs[k].v.isr.length)]; simp; done)
                 exact ⟨⟨⟨-1, R.vs[k].v.epoch + 1, R.vs[k].v.ver + 1, R.vs[k].v.isr⟩, R.vs[k].A, R.vs[k].c⟩, Blk.eq, by rw [View.fenced, if_pos (.inl c3), if_pos c3, if_pos c3, if_neg hlvf], fun k => F k ∨ F2 k, hpw, hRw.mono (fun k e => .inr e) hFm, hsF, hnF⟩)
              | (exfalso; omega)
            haveI kxw : Blk w23 bw _ := ⟨hxb⟩
            have hR2l : R2.vs.length = R.vs.length := by
             have := congrArg List.length hF.2.2.2.2.2.1
             simp [LMeta.pure] at this
             omega
            have hns : R.vs[k].v.stuck i = false := by
             rw [View.stuck]
             have q1 : ¬ R.vs[k].v.ver = most := by omega
             rw [decide_eq_false q1, Bool.false_or]
             first
              | (have q2 : ¬ R.vs[k].v.epoch = most := by omega
                 rw [decide_eq_false q2]; simp; done)
              | (rw [decide_eq_false c3]; simp; done)
            refine x_regionL ?_
            refine xl_La ?_
            refine xl_v v_move ?_
            refine xl_La ?_
            refine xl_call (refview_ok R2 F3 k x w23 (hRx.ext (kpc : Keep NoB _ w23)) (hfx.keep (kpc : Keep NoB _ w23) (fun _ _ h => h)) (by omega) (by omega)) ?_
            rintro _ w24 ⟨⟨A6, c6', F6, rfl, hR6, hs6⟩, lk7⟩
            have hbop : bo < (w23).heap.size := Has.lt
            have hb2p : b2 < (w23).heap.size := Has.lt
            have hn6 : ∀ k, F6 k → k ≠ bo ∧ k ≠ b2 := fun k e => (hs6 k e).elim (hnx k) (fun e => by omega)
            have hs66 := hs6.trans hsx (Ge.le : w.heap.size ≤ (w23).heap.size)
            refine xl_s (e_storeA fun w25 l25 k25 => ?_)
            have hFin : FenceR bo b2 F w i R.pure (k + 1) w25 { R2 with vs := R2.vs.set k x, VA := A6, vc := c6' } := by
             obtain ⟨q1, q2, q3, q4, q5, q6, q7, _⟩ := hF
             refine ⟨q1, q2, q3, q4, q5, fence_set q6 hkP (by rw [hyv]; exact hxv), ?_, F6, hR6.keep (S := OneB bo) kpc (fun k e e2 => (hn6 k e).1 e2), hs66, hn6⟩
             intro v hv
             rw [take_snoc _ _ hkP] at hv
             rcases List.mem_append.1 hv with hv | hv
             ·exact q7 v hv
             ·rw [List.mem_singleton.1 hv, hyv]; exact hns
            have hboF : (w25).heap[bo]? = some (.cells (metaC { R2 with vs := R2.vs.set k x, VA := A6, vc := c6' }).toArray 35 (0, 0)) := by have := (Blk.eq : (w25).heap[bo]? = _); simpa [metaC] using this
            refine xl_nil ?_
            obtain ⟨R3, hF3, hbo3⟩ : ∃ R3, FenceR bo b2 F w i R.pure (k + 1) w25 R3 ∧ (w25).heap[bo]? = some (.cells (metaC R3).toArray 35 (0, 0)) := by
             first
              | exact ⟨_, hFin, hboF⟩
              | (refine ⟨R2, ?_, Blk.eq⟩
                 have q8 : ¬ R.vs[k].v.lead = (i : Int) := by first | (simp at g67; exact g67) | exact c3
                 have q9 : ¬ (R.vs[k].v.leaves i = true) := by
                  rw [View.leaves]
                  first
                   | (have q1 : ¬ (i : Int) ∈ R.vs[k].v.isr := by simpa using g44
                      rw [decide_eq_false q1]; simp; done)
                   | (rw [decide_eq_false (by omega : ¬ 1 < R.vs[k].v.isr.length)]; simp; done)
                 obtain ⟨q1, q2, q3, q4, q5, q6, q7, F2, hR2, hs2, hne2⟩ := hF
                 refine ⟨q1, q2, q3, q4, q5, fence_keep q6 hkP ?_, ?_, F2, hR2.ext (kpc : Keep NoB w8 w25), hs2, hne2⟩
                 ·rw [hyv, View.fenced, if_neg (fun e => e.elim q8 q9)]
                 ·intro v hv
                  rw [take_snoc _ _ hkP] at hv
                  rcases List.mem_append.1 hv with hv | hv
                  ·exact q7 v hv
                  ·rw [List.mem_singleton.1 hv, hyv, View.stuck, decide_eq_false q8]
                   simp [q9])
            refine x_regionL ?_
            refine xl_v v_move ?_
            refine xl_v (v_add (by omega)) ?_
            refine xl_v v_assign ?_
            refine xl_nil ?_
            refine ⟨_, ?_, rfl, k + 1, R3, rfl, by omega, hF3, hbo3, inferInstance, inferInstance, inferInstance, inferInstance, evc, lkc⟩
            omega
          ·
           refine x_skip ?_
           obtain ⟨R3, hF3, hbo3⟩ : ∃ R3, FenceR bo b2 F w i R.pure (k + 1) w17 R3 ∧ (w17).heap[bo]? = some (.cells (metaC R3).toArray 35 (0, 0)) := by
            first
             | exact ⟨_, hFin, hboF⟩
             | (refine ⟨R2, ?_, Blk.eq⟩
                have q8 : ¬ R.vs[k].v.lead = (i : Int) := by first | (simp at g67; exact g67) | exact c3
                have q9 : ¬ (R.vs[k].v.leaves i = true) := by
                 rw [View.leaves]
                 first
                  | (have q1 : ¬ (i : Int) ∈ R.vs[k].v.isr := by simpa using g44
                     rw [decide_eq_false q1]; simp; done)
                  | (rw [decide_eq_false (by omega : ¬ 1 < R.vs[k].v.isr.length)]; simp; done)
                obtain ⟨q1, q2, q3, q4, q5, q6, q7, F2, hR2, hs2, hne2⟩ := hF
                refine ⟨q1, q2, q3, q4, q5, fence_keep q6 hkP ?_, ?_, F2, hR2.ext (kpc : Keep NoB w8 w17), hs2, hne2⟩
                ·rw [hyv, View.fenced, if_neg (fun e => e.elim q8 q9)]
                ·intro v hv
                 rw [take_snoc _ _ hkP] at hv
                 rcases List.mem_append.1 hv with hv | hv
                 ·exact q7 v hv
                 ·rw [List.mem_singleton.1 hv, hyv, View.stuck, decide_eq_false q8]
                  simp [q9])
           refine x_regionL ?_
           refine xl_v v_move ?_
           refine xl_v (v_add (by omega)) ?_
           refine xl_v v_assign ?_
           refine xl_nil ?_
           refine ⟨_, ?_, rfl, k + 1, R3, rfl, by omega, hF3, hbo3, inferInstance, inferInstance, inferInstance, inferInstance, evc, lkc⟩
           omega
        ·
         refine x_skip ?_
         refine x_seq ?_
         have hlvd : R.vs[k].v.leaves i = true ∨ R.vs[k].v.leaves i = false := by cases R.vs[k].v.leaves i <;> simp
         refine x_regionL ?_
         refine xl_v v_move ?_
         refine xl_v v_move ?_
         refine xl_split 67 (fun g67 => ?_) (fun g67 => ?_)
         ·
          refine xl_gs rfl EvO.eq ?_
          refine xl_Pk ?_
          refine xl_nil ?_
          refine x_condT ?_
          refine x_seq ?_
          refine x_seq ?_
          refine x_regionL ?_
          refine xl_Fa ?_
          refine xl_Ld ?_
          refine xl_v v_eql ?_
          refine xl_nil ?_
          first | refine x_condP (fun c7 => ?_) (fun c7 => ?_) | refine x_condN (fun c7 => ?_) (fun c7 => ?_) | refine x_condE (fun c7 => ?_) (fun c7 => ?_)
          ·
           refine x_seq ?_
           refine x_regionL ?_
           refine xl_La ?_
           refine xl_s (e_storeA fun w26 l26 k26 => ?_)
           refine xl_v v_assign ?_
           refine xl_nil ?_
           refine x_ret ?_
           refine finR (rs := [.cell 4 35, .tmp 5]) rfl ?_
           have hS : R.vs[k].v.stuck i = true := by
            have q : (decide (R.vs[k].v.lead = i) || R.vs[k].v.leaves i) = true := by
             first
              | (rw [decide_eq_true c3]; rfl)
              | (rw [hlvt, Bool.or_true])
              | (have q1 : R.vs[k].v.lead = (i : Int) := by simpa using g67
                 exact absurd q1 c3)
              | (exfalso; omega)
            rw [View.stuck, q, decide_eq_true (by omega : R.vs[k].v.ver = most)]
            simp
           have hany : R.pure.views.any (View.stuck (i : Int)) = true := List.any_eq_true.2 ⟨_, List.getElem_mem hkP, by rw [hyv]; exact hS⟩
           rw [if_pos hany] at hr
           exact ⟨⟨R, by rw [hr]; rfl, RMade.stay h kpc (by rw [hr])⟩, lkc⟩
          ·
           refine x_skip ?_
           refine x_seq ?_
           refine x_regionL ?_
           refine xl_Fa ?_
           refine xl_Ld ?_
           refine xl_v (v_add (by omega)) ?_
           refine xl_Fa ?_
           refine xl_s (e_store fun w27 l27 k27 => ?_)
           refine xl_nil ?_
           obtain ⟨F2, hR2, hs2, hne2⟩ := hF.2.2.2.2.2.2.2
           obtain ⟨x, hxb, hxv, F3, hfx, hRx, hsx, hnx⟩ : ∃ x : LV, (w27).heap[bw]? = some (.cells (viewC x).toArray 44 (0, 0)) ∧ x.v = R.vs[k].v.fenced i ∧ ∃ F3 : Nat → Prop, FRow w27 F3 x.A (ints x.v.isr) ∧ RefAt w27 F3 R2 ∧ Sub F3 F w ∧ ∀ k, F3 k → k ≠ bo ∧ k ≠ b2 := by
            have hRw := hR2.ext (kpc : Keep NoB w8 w27)
            have hbwB : (w8).heap.size ≤ w.heap.size ∨ w.heap.size ≤ (w8).heap.size := by omega
            have hwB : w.heap.size ≤ (w8).heap.size := Ge.le
            have hFm : ∀ k, (F k ∨ F2 k) → k < (w27).heap.size := fun k e => e.elim (fun e => Nat.lt_of_lt_of_le (h.lt k e) Ge.le) (hRw.lt k)
            have hpw : FRow w27 (fun k => F k ∨ F2 k) R.vs[k].A (ints R.vs[k].v.isr) := ⟨(inferInstance : Row w27 R.vs[k].A (ints R.vs[k].v.isr)).row, fun a ha => .inl (hpx.blk a ha)⟩
            have hsF : Sub (fun k => F k ∨ F2 k) F w := fun k e => e.elim .inl (hs2 k)
            have hnF : ∀ k, (F k ∨ F2 k) → k ≠ bo ∧ k ≠ b2 := fun k e => e.elim (fun e => by have := h.lt k e; omega) (hne2 k)
            first
             | (exfalso; simp at g67; exact absurd g67 c3)
             | (exfalso; simp at g67; exact absurd c3 g67)
             | exact ⟨⟨⟨-1, R.vs[k].v.epoch + 1, R.vs[k].v.ver + 1, l⟩, A5, c5'⟩, Blk.eq, by rw [View.fenced, if_pos (.inl c3), if_pos c3, if_pos c3, if_pos hlvt, hl], fun k => F2 k ∨ OwnB (.slice A5 l.length c5') k, (FRow.of_own (OwnI.own : World.ownsRow w27 _ _ _ (.slice A5 _ c5') _ _)).mono (fun k e => .inr e), hRw.mono (fun k e => .inl e) (fun k e => e.elim (hRw.lt k) (fun e => (own_blk (OwnI.own : World.ownsRow w27 _ _ _ (.slice A5 _ c5') _ _) (ownB_blk.1 e)).2)), fun k e => e.elim (hs2 k) (fun e => .inr (by have := (own_blk hown5 (ownB_blk.1 e)).1; omega)), fun k e => e.elim (hne2 k) (fun e => by have := (own_blk hown5 (ownB_blk.1 e)).1; omega)⟩
             | exact ⟨⟨⟨R.vs[k].v.lead, R.vs[k].v.epoch, R.vs[k].v.ver + 1, l⟩, A5, c5'⟩, Blk.eq, by rw [View.fenced, if_pos (.inr hlvt), if_neg c3, if_neg c3, if_pos hlvt, hl], fun k => F2 k ∨ OwnB (.slice A5 l.length c5') k, (FRow.of_own (OwnI.own : World.ownsRow w27 _ _ _ (.slice A5 _ c5') _ _)).mono (fun k e => .inr e), hRw.mono (fun k e => .inl e) (fun k e => e.elim (hRw.lt k) (fun e => (own_blk (OwnI.own : World.ownsRow w27 _ _ _ (.slice A5 _ c5') _ _) (ownB_blk.1 e)).2)), fun k e => e.elim (hs2 k) (fun e => .inr (by have := (own_blk hown5 (ownB_blk.1 e)).1; omega)), fun k e => e.elim (hne2 k) (fun e => by have := (own_blk hown5 (ownB_blk.1 e)).1; omega)⟩
             | (have hlvf : ¬ (R.vs[k].v.leaves i = true) := by
                 rw [View.leaves]
                 first
                  | (have q1 : ¬ (i : Int) ∈ R.vs[k].v.isr := by simpa using g44
                     rw [decide_eq_false q1]; simp; done)
                  | (rw [decide_eq_false (by omega : ¬ 1 < R.vs[k].v.isr.length)]; simp; done)
                exact ⟨⟨⟨-1, R.vs[k].v.epoch + 1, R.vs[k].v.ver + 1, R.vs[k].v.isr⟩, R.vs[k].A, R.vs[k].c⟩, Blk.eq, by rw [View.fenced, if_pos (.inl c3), if_pos c3, if_pos c3, if_neg hlvf], fun k => F k ∨ F2 k, hpw, hRw.mono (fun k e => .inr e) hFm, hsF, hnF⟩)
             | (exfalso; omega)
           haveI kxw : Blk w27 bw _ := ⟨hxb⟩
           have hR2l : R2.vs.length = R.vs.length := by
            have := congrArg List.length hF.2.2.2.2.2.1
            simp [LMeta.pure] at this
            omega
           have hns : R.vs[k].v.stuck i = false := by
            rw [View.stuck]
            have q1 : ¬ R.vs[k].v.ver = most := by omega
            rw [decide_eq_false q1, Bool.false_or]
            first
             | (have q2 : ¬ R.vs[k].v.epoch = most := by omega
                rw [decide_eq_false q2]; simp; done)
             | (rw [decide_eq_false c3]; simp; done)
           refine x_regionL ?_
           refine xl_La ?_
           refine xl_v v_move ?_
           refine xl_La ?_
           refine xl_call (refview_ok R2 F3 k x w27 (hRx.ext (kpc : Keep NoB _ w27)) (hfx.keep (kpc : Keep NoB _ w27) (fun _ _ h => h)) (by omega) (by omega)) ?_
           rintro _ w28 ⟨⟨A6, c6', F6, rfl, hR6, hs6⟩, lk7⟩
           have hbop : bo < (w27).heap.size := Has.lt
           have hb2p : b2 < (w27).heap.size := Has.lt
           have hn6 : ∀ k, F6 k → k ≠ bo ∧ k ≠ b2 := fun k e => (hs6 k e).elim (hnx k) (fun e => by omega)
           have hs66 := hs6.trans hsx (Ge.le : w.heap.size ≤ (w27).heap.size)
           refine xl_s (e_storeA fun w29 l29 k29 => ?_)
           have hFin : FenceR bo b2 F w i R.pure (k + 1) w29 { R2 with vs := R2.vs.set k x, VA := A6, vc := c6' } := by
            obtain ⟨q1, q2, q3, q4, q5, q6, q7, _⟩ := hF
            refine ⟨q1, q2, q3, q4, q5, fence_set q6 hkP (by rw [hyv]; exact hxv), ?_, F6, hR6.keep (S := OneB bo) kpc (fun k e e2 => (hn6 k e).1 e2), hs66, hn6⟩
            intro v hv
            rw [take_snoc _ _ hkP] at hv
            rcases List.mem_append.1 hv with hv | hv
            ·exact q7 v hv
            ·rw [List.mem_singleton.1 hv, hyv]; exact hns
           have hboF : (w29).heap[bo]? = some (.cells (metaC { R2 with vs := R2.vs.set k x, VA := A6, vc := c6' }).toArray 35 (0, 0)) := by have := (Blk.eq : (w29).heap[bo]? = _); simpa [metaC] using this
           refine xl_nil ?_
           obtain ⟨R3, hF3, hbo3⟩ : ∃ R3, FenceR bo b2 F w i R.pure (k + 1) w29 R3 ∧ (w29).heap[bo]? = some (.cells (metaC R3).toArray 35 (0, 0)) := by
            first
             | exact ⟨_, hFin, hboF⟩
             | (refine ⟨R2, ?_, Blk.eq⟩
                have q8 : ¬ R.vs[k].v.lead = (i : Int) := by first | (simp at g67; exact g67) | exact c3
                have q9 : ¬ (R.vs[k].v.leaves i = true) := by
                 rw [View.leaves]
                 first
                  | (have q1 : ¬ (i : Int) ∈ R.vs[k].v.isr := by simpa using g44
                     rw [decide_eq_false q1]; simp; done)
                  | (rw [decide_eq_false (by omega : ¬ 1 < R.vs[k].v.isr.length)]; simp; done)
                obtain ⟨q1, q2, q3, q4, q5, q6, q7, F2, hR2, hs2, hne2⟩ := hF
                refine ⟨q1, q2, q3, q4, q5, fence_keep q6 hkP ?_, ?_, F2, hR2.ext (kpc : Keep NoB w8 w29), hs2, hne2⟩
                ·rw [hyv, View.fenced, if_neg (fun e => e.elim q8 q9)]
                ·intro v hv
                 rw [take_snoc _ _ hkP] at hv
                 rcases List.mem_append.1 hv with hv | hv
                 ·exact q7 v hv
                 ·rw [List.mem_singleton.1 hv, hyv, View.stuck, decide_eq_false q8]
                  simp [q9])
           refine x_regionL ?_
           refine xl_v v_move ?_
           refine xl_v (v_add (by omega)) ?_
           refine xl_v v_assign ?_
           refine xl_nil ?_
           refine ⟨_, ?_, rfl, k + 1, R3, rfl, by omega, hF3, hbo3, inferInstance, inferInstance, inferInstance, inferInstance, evc, lkc⟩
           omega
         ·
          refine xl_gv rfl EvO.eq v_move ?_
          refine xl_Pk ?_
          refine xl_nil ?_
          first | refine x_condP (fun c6 => ?_) (fun c6 => ?_) | refine x_condN (fun c6 => ?_) (fun c6 => ?_) | refine x_condE (fun c6 => ?_) (fun c6 => ?_)
          ·
           refine x_seq ?_
           refine x_seq ?_
           refine x_regionL ?_
           refine xl_Fa ?_
           refine xl_Ld ?_
           refine xl_v v_eql ?_
           refine xl_nil ?_
           first | refine x_condP (fun c7 => ?_) (fun c7 => ?_) | refine x_condN (fun c7 => ?_) (fun c7 => ?_) | refine x_condE (fun c7 => ?_) (fun c7 => ?_)
           ·
            refine x_seq ?_
            refine x_regionL ?_
            refine xl_La ?_
            refine xl_s (e_storeA fun w30 l30 k30 => ?_)
            refine xl_v v_assign ?_
            refine xl_nil ?_
            refine x_ret ?_
            refine finR (rs := [.cell 4 35, .tmp 5]) rfl ?_
            have hS : R.vs[k].v.stuck i = true := by
             have q : (decide (R.vs[k].v.lead = i) || R.vs[k].v.leaves i) = true := by
              first
               | (rw [decide_eq_true c3]; rfl)
               | (rw [hlvt, Bool.or_true])
               | (have q1 : R.vs[k].v.lead = (i : Int) := by simpa using g67
                  exact absurd q1 c3)
               | (exfalso; omega)
             rw [View.stuck, q, decide_eq_true (by omega : R.vs[k].v.ver = most)]
             simp
            have hany : R.pure.views.any (View.stuck (i : Int)) = true := List.any_eq_true.2 ⟨_, List.getElem_mem hkP, by rw [hyv]; exact hS⟩
            rw [if_pos hany] at hr
            exact ⟨⟨R, by rw [hr]; rfl, RMade.stay h kpc (by rw [hr])⟩, lkc⟩
           ·
            refine x_skip ?_
            refine x_seq ?_
            refine x_regionL ?_
            refine xl_Fa ?_
            refine xl_Ld ?_
            refine xl_v (v_add (by omega)) ?_
            refine xl_Fa ?_
            refine xl_s (e_store fun w31 l31 k31 => ?_)
            refine xl_nil ?_
            obtain ⟨F2, hR2, hs2, hne2⟩ := hF.2.2.2.2.2.2.2
            obtain ⟨x, hxb, hxv, F3, hfx, hRx, hsx, hnx⟩ : ∃ x : LV, (w31).heap[bw]? = some (.cells (viewC x).toArray 44 (0, 0)) ∧ x.v = R.vs[k].v.fenced i ∧ ∃ F3 : Nat → Prop, FRow w31 F3 x.A (ints x.v.isr) ∧ RefAt w31 F3 R2 ∧ Sub F3 F w ∧ ∀ k, F3 k → k ≠ bo ∧ k ≠ b2 := by
             have hRw := hR2.ext (kpc : Keep NoB w8 w31)
             have hbwB : (w8).heap.size ≤ w.heap.size ∨ w.heap.size ≤ (w8).heap.size := by omega
             have hwB : w.heap.size ≤ (w8).heap.size := Ge.le
             have hFm : ∀ k, (F k ∨ F2 k) → k < (w31).heap.size := fun k e => e.elim (fun e => Nat.lt_of_lt_of_le (h.lt k e) Ge.le) (hRw.lt k)
             have hpw : FRow w31 (fun k => F k ∨ F2 k) R.vs[k].A (ints R.vs[k].v.isr) := ⟨(inferInstance : Row w31 R.vs[k].A (ints R.vs[k].v.isr)).row, fun a ha => .inl (hpx.blk a ha)⟩
             have hsF : Sub (fun k => F k ∨ F2 k) F w := fun k e => e.elim .inl (hs2 k)
             have hnF : ∀ k, (F k ∨ F2 k) → k ≠ bo ∧ k ≠ b2 := fun k e => e.elim (fun e => by have := h.lt k e; omega) (hne2 k)
             first
              | (exfalso; simp at g67; exact absurd g67 c3)
              | (exfalso; simp at g67; exact absurd c3 g67)
              | exact ⟨⟨⟨-1, R.vs[k].v.epoch + 1, R.vs[k].v.ver + 1, l⟩, A5, c5'⟩, Blk.eq, by rw [View.fenced, if_pos (.inl c3), if_pos c3, if_pos c3, if_pos hlvt, hl], fun k => F2 k ∨ OwnB (.slice A5 l.length c5') k, (FRow.of_own (OwnI.own : World.ownsRow w31 _ _ _ (.slice A5 _ c5') _ _)).mono (fun k e => .inr e), hRw.mono (fun k e => .inl e) (fun k e => e.elim (hRw.lt k) (fun e => (own_blk (OwnI.own : World.ownsRow w31 _ _ _ (.slice A5 _ c5') _ _) (ownB_blk.1 e)).2)), fun k e => e.elim (hs2 k) (fun e => .inr (by have := (own_blk hown5 (ownB_blk.1 e)).1; omega)), fun k e => e.elim (hne2 k) (fun e => by have := (own_blk hown5 (ownB_blk.1 e)).1; omega)⟩
              | exact ⟨⟨⟨R.vs[k].v.lead, R.vs[k].v.epoch, R.vs[k].v.ver + 1, l⟩, A5, c5'⟩, Blk.eq, by rw [View.fenced, if_pos (.inr hlvt), if_neg c3, if_neg c3, if_pos hlvt, hl], fun k => F2 k ∨ OwnB (.slice A5 l.length c5') k, (FRow.of_own (OwnI.own : World.ownsRow w31 _ _ _ (.slice A5 _ c5') _ _)).mono (fun k e => .inr e), hRw.mono (fun k e => .inl e) (fun k e => e.elim (hRw.lt k) (fun e => (own_blk (OwnI.own : World.ownsRow w31 _ _ _ (.slice A5 _ c5') _ _) (ownB_blk.1 e)).2)), fun k e => e.elim (hs2 k) (fun e => .inr (by have := (own_blk hown5 (ownB_blk.1 e)).1; omega)), fun k e => e.elim (hne2 k) (fun e => by have := (own_blk hown5 (ownB_blk.1 e)).1; omega)⟩
              | (have hlvf : ¬ (R.vs[k].v.leaves i = true) := by
                  rw [View.leaves]
                  first
                   | (have q1 : ¬ (i : Int) ∈ R.vs[k].v.isr := by simpa using g44
                      rw [decide_eq_false q1]; simp; done)
                   | (rw [decide_eq_false (by omega : ¬ 1 < R.vs[k].v.isr.length)]; simp; done)
                 exact ⟨⟨⟨-1, R.vs[k].v.epoch + 1, R.vs[k].v.ver + 1, R.vs[k].v.isr⟩, R.vs[k].A, R.vs[k].c⟩, Blk.eq, by rw [View.fenced, if_pos (.inl c3), if_pos c3, if_pos c3, if_neg hlvf], fun k => F k ∨ F2 k, hpw, hRw.mono (fun k e => .inr e) hFm, hsF, hnF⟩)
              | (exfalso; omega)
            haveI kxw : Blk w31 bw _ := ⟨hxb⟩
            have hR2l : R2.vs.length = R.vs.length := by
             have := congrArg List.length hF.2.2.2.2.2.1
             simp [LMeta.pure] at this
             omega
            have hns : R.vs[k].v.stuck i = false := by
             rw [View.stuck]
             have q1 : ¬ R.vs[k].v.ver = most := by omega
             rw [decide_eq_false q1, Bool.false_or]
             first
              | (have q2 : ¬ R.vs[k].v.epoch = most := by omega
                 rw [decide_eq_false q2]; simp; done)
              | (rw [decide_eq_false c3]; simp; done)
            refine x_regionL ?_
            refine xl_La ?_
            refine xl_v v_move ?_
            refine xl_La ?_
            refine xl_call (refview_ok R2 F3 k x w31 (hRx.ext (kpc : Keep NoB _ w31)) (hfx.keep (kpc : Keep NoB _ w31) (fun _ _ h => h)) (by omega) (by omega)) ?_
            rintro _ w32 ⟨⟨A6, c6', F6, rfl, hR6, hs6⟩, lk7⟩
            have hbop : bo < (w31).heap.size := Has.lt
            have hb2p : b2 < (w31).heap.size := Has.lt
            have hn6 : ∀ k, F6 k → k ≠ bo ∧ k ≠ b2 := fun k e => (hs6 k e).elim (hnx k) (fun e => by omega)
            have hs66 := hs6.trans hsx (Ge.le : w.heap.size ≤ (w31).heap.size)
            refine xl_s (e_storeA fun w33 l33 k33 => ?_)
            have hFin : FenceR bo b2 F w i R.pure (k + 1) w33 { R2 with vs := R2.vs.set k x, VA := A6, vc := c6' } := by
             obtain ⟨q1, q2, q3, q4, q5, q6, q7, _⟩ := hF
             refine ⟨q1, q2, q3, q4, q5, fence_set q6 hkP (by rw [hyv]; exact hxv), ?_, F6, hR6.keep (S := OneB bo) kpc (fun k e e2 => (hn6 k e).1 e2), hs66, hn6⟩
             intro v hv
             rw [take_snoc _ _ hkP] at hv
             rcases List.mem_append.1 hv with hv | hv
             ·exact q7 v hv
             ·rw [List.mem_singleton.1 hv, hyv]; exact hns
            have hboF : (w33).heap[bo]? = some (.cells (metaC { R2 with vs := R2.vs.set k x, VA := A6, vc := c6' }).toArray 35 (0, 0)) := by have := (Blk.eq : (w33).heap[bo]? = _); simpa [metaC] using this
            refine xl_nil ?_
            obtain ⟨R3, hF3, hbo3⟩ : ∃ R3, FenceR bo b2 F w i R.pure (k + 1) w33 R3 ∧ (w33).heap[bo]? = some (.cells (metaC R3).toArray 35 (0, 0)) := by
             first
              | exact ⟨_, hFin, hboF⟩
              | (refine ⟨R2, ?_, Blk.eq⟩
                 have q8 : ¬ R.vs[k].v.lead = (i : Int) := by first | (simp at g67; exact g67) | exact c3
                 have q9 : ¬ (R.vs[k].v.leaves i = true) := by
                  rw [View.leaves]
                  first
                   | (have q1 : ¬ (i : Int) ∈ R.vs[k].v.isr := by simpa using g44
                      rw [decide_eq_false q1]; simp; done)
                   | (rw [decide_eq_false (by omega : ¬ 1 < R.vs[k].v.isr.length)]; simp; done)
                 obtain ⟨q1, q2, q3, q4, q5, q6, q7, F2, hR2, hs2, hne2⟩ := hF
                 refine ⟨q1, q2, q3, q4, q5, fence_keep q6 hkP ?_, ?_, F2, hR2.ext (kpc : Keep NoB w8 w33), hs2, hne2⟩
                 ·rw [hyv, View.fenced, if_neg (fun e => e.elim q8 q9)]
                 ·intro v hv
                  rw [take_snoc _ _ hkP] at hv
                  rcases List.mem_append.1 hv with hv | hv
                  ·exact q7 v hv
                  ·rw [List.mem_singleton.1 hv, hyv, View.stuck, decide_eq_false q8]
                   simp [q9])
            refine x_regionL ?_
            refine xl_v v_move ?_
            refine xl_v (v_add (by omega)) ?_
            refine xl_v v_assign ?_
            refine xl_nil ?_
            refine ⟨_, ?_, rfl, k + 1, R3, rfl, by omega, hF3, hbo3, inferInstance, inferInstance, inferInstance, inferInstance, evc, lkc⟩
            omega
          ·
           refine x_skip ?_
           obtain ⟨R3, hF3, hbo3⟩ : ∃ R3, FenceR bo b2 F w i R.pure (k + 1) w15 R3 ∧ (w15).heap[bo]? = some (.cells (metaC R3).toArray 35 (0, 0)) := by
            first
             | exact ⟨_, hFin, hboF⟩
             | (refine ⟨R2, ?_, Blk.eq⟩
                have q8 : ¬ R.vs[k].v.lead = (i : Int) := by first | (simp at g67; exact g67) | exact c3
                have q9 : ¬ (R.vs[k].v.leaves i = true) := by
                 rw [View.leaves]
                 first
                  | (have q1 : ¬ (i : Int) ∈ R.vs[k].v.isr := by simpa using g44
                     rw [decide_eq_false q1]; simp; done)
                  | (rw [decide_eq_false (by omega : ¬ 1 < R.vs[k].v.isr.length)]; simp; done)
                obtain ⟨q1, q2, q3, q4, q5, q6, q7, F2, hR2, hs2, hne2⟩ := hF
                refine ⟨q1, q2, q3, q4, q5, fence_keep q6 hkP ?_, ?_, F2, hR2.ext (kpc : Keep NoB w8 w15), hs2, hne2⟩
                ·rw [hyv, View.fenced, if_neg (fun e => e.elim q8 q9)]
                ·intro v hv
                 rw [take_snoc _ _ hkP] at hv
                 rcases List.mem_append.1 hv with hv | hv
                 ·exact q7 v hv
                 ·rw [List.mem_singleton.1 hv, hyv, View.stuck, decide_eq_false q8]
                  simp [q9])
           refine x_regionL ?_
           refine xl_v v_move ?_
           refine xl_v (v_add (by omega)) ?_
           refine xl_v v_assign ?_
           refine xl_nil ?_
           refine ⟨_, ?_, rfl, k + 1, R3, rfl, by omega, hF3, hbo3, inferInstance, inferInstance, inferInstance, inferInstance, evc, lkc⟩
           omega
      ·
       refine x_skip ?_
       refine x_seq ?_
       refine x_seq ?_
       refine x_regionL ?_
       refine xl_v v_move ?_
       refine xl_nil ?_
       first | refine x_condP (fun c5 => ?_) (fun c5 => ?_) | refine x_condN (fun c5 => ?_) (fun c5 => ?_) | refine x_condE (fun c5 => ?_) (fun c5 => ?_)
       ·
        have hlvt : R.vs[k].v.leaves i = true := by
         have q1 : (i : Int) ∈ R.vs[k].v.isr := by simpa using g44
         rw [View.leaves, decide_eq_true q1, decide_eq_true (by omega : 1 < R.vs[k].v.isr.length)]; rfl
        obtain ⟨l, hl⟩ : ∃ l, l = R.vs[k].v.isr.filter (fun x => !decide (x = (i : Int))) := ⟨_, rfl⟩
        refine x_regionL ?_
        refine xl_Fa ?_
        refine xl_Ld ?_
        refine xl_v v_move ?_
        refine xl_call (refwithout_ok R.vs[k].A _ _ R.vs[k].v.isr i w12 rfl (by omega)) ?_
        rintro _ w34 ⟨⟨A5, c5', rfl, hown5⟩, lk6⟩
        rw [← hl] at hown5
        rw [← hl]
        haveI o5 : OwnI w34 A5 _ _ _ _ _ _ _ := ⟨hown5⟩
        haveI na5 : NewA A5 w12 := newA_of hown5 (Nat.le_refl _)
        have hbwp : bw < (w12).heap.size := Has.lt
        haveI ap5 : ApB A5 bw := ⟨fun a ha e => by have := (own_blk hown5 (blkA_some ha)).1; omega⟩
        have hgeP : (w8).heap.size ≤ (w12).heap.size := Ge.le
        refine xl_Fa ?_
        refine xl_s (e_store fun w35 l35 k35 => ?_)
        refine xl_nil ?_
        refine x_seq ?_
        have hlvd : R.vs[k].v.leaves i = true ∨ R.vs[k].v.leaves i = false := by cases R.vs[k].v.leaves i <;> simp
        refine x_regionL ?_
        refine xl_v v_move ?_
        refine xl_v v_move ?_
        refine xl_split 67 (fun g67 => ?_) (fun g67 => ?_)
        ·
         refine xl_gs rfl EvO.eq ?_
         refine xl_Pk ?_
         refine xl_nil ?_
         refine x_condT ?_
         refine x_seq ?_
         refine x_seq ?_
         refine x_regionL ?_
         refine xl_Fa ?_
         refine xl_Ld ?_
         refine xl_v v_eql ?_
         refine xl_nil ?_
         first | refine x_condP (fun c7 => ?_) (fun c7 => ?_) | refine x_condN (fun c7 => ?_) (fun c7 => ?_) | refine x_condE (fun c7 => ?_) (fun c7 => ?_)
         ·
          refine x_seq ?_
          refine x_regionL ?_
          refine xl_La ?_
          refine xl_s (e_storeA fun w36 l36 k36 => ?_)
          refine xl_v v_assign ?_
          refine xl_nil ?_
          refine x_ret ?_
          refine finR (rs := [.cell 4 35, .tmp 5]) rfl ?_
          have hS : R.vs[k].v.stuck i = true := by
           have q : (decide (R.vs[k].v.lead = i) || R.vs[k].v.leaves i) = true := by
            first
             | (rw [decide_eq_true c3]; rfl)
             | (rw [hlvt, Bool.or_true])
             | (have q1 : R.vs[k].v.lead = (i : Int) := by simpa using g67
                exact absurd q1 c3)
             | (exfalso; omega)
           rw [View.stuck, q, decide_eq_true (by omega : R.vs[k].v.ver = most)]
           simp
          have hany : R.pure.views.any (View.stuck (i : Int)) = true := List.any_eq_true.2 ⟨_, List.getElem_mem hkP, by rw [hyv]; exact hS⟩
          rw [if_pos hany] at hr
          exact ⟨⟨R, by rw [hr]; rfl, RMade.stay h kpc (by rw [hr])⟩, lkc⟩
         ·
          refine x_skip ?_
          refine x_seq ?_
          refine x_regionL ?_
          refine xl_Fa ?_
          refine xl_Ld ?_
          refine xl_v (v_add (by omega)) ?_
          refine xl_Fa ?_
          refine xl_s (e_store fun w37 l37 k37 => ?_)
          refine xl_nil ?_
          obtain ⟨F2, hR2, hs2, hne2⟩ := hF.2.2.2.2.2.2.2
          obtain ⟨x, hxb, hxv, F3, hfx, hRx, hsx, hnx⟩ : ∃ x : LV, (w37).heap[bw]? = some (.cells (viewC x).toArray 44 (0, 0)) ∧ x.v = R.vs[k].v.fenced i ∧ ∃ F3 : Nat → Prop, FRow w37 F3 x.A (ints x.v.isr) ∧ RefAt w37 F3 R2 ∧ Sub F3 F w ∧ ∀ k, F3 k → k ≠ bo ∧ k ≠ b2 := by
           have hRw := hR2.ext (kpc : Keep NoB w8 w37)
           have hbwB : (w8).heap.size ≤ w.heap.size ∨ w.heap.size ≤ (w8).heap.size := by omega
           have hwB : w.heap.size ≤ (w8).heap.size := Ge.le
           have hFm : ∀ k, (F k ∨ F2 k) → k < (w37).heap.size := fun k e => e.elim (fun e => Nat.lt_of_lt_of_le (h.lt k e) Ge.le) (hRw.lt k)
           have hpw : FRow w37 (fun k => F k ∨ F2 k) R.vs[k].A (ints R.vs[k].v.isr) := ⟨(inferInstance : Row w37 R.vs[k].A (ints R.vs[k].v.isr)).row, fun a ha => .inl (hpx.blk a ha)⟩
           have hsF : Sub (fun k => F k ∨ F2 k) F w := fun k e => e.elim .inl (hs2 k)
           have hnF : ∀ k, (F k ∨ F2 k) → k ≠ bo ∧ k ≠ b2 := fun k e => e.elim (fun e => by have := h.lt k e; omega) (hne2 k)
           first
            | (exfalso; simp at g67; exact absurd g67 c3)
            | (exfalso; simp at g67; exact absurd c3 g67)
            | exact ⟨⟨⟨-1, R.vs[k].v.epoch + 1, R.vs[k].v.ver + 1, l⟩, A5, c5'⟩, Blk.eq, by rw [View.fenced, if_pos (.inl c3), if_pos c3, if_pos c3, if_pos hlvt, hl], fun k => F2 k ∨ OwnB (.slice A5 l.length c5') k, (FRow.of_own (OwnI.own : World.ownsRow w37 _ _ _ (.slice A5 _ c5') _ _)).mono (fun k e => .inr e), hRw.mono (fun k e => .inl e) (fun k e => e.elim (hRw.lt k) (fun e => (own_blk (OwnI.own : World.ownsRow w37 _ _ _ (.slice A5 _ c5') _ _) (ownB_blk.1 e)).2)), fun k e => e.elim (hs2 k) (fun e => .inr (by have := (own_blk hown5 (ownB_blk.1 e)).1; omega)), fun k e => e.elim (hne2 k) (fun e => by have := (own_blk hown5 (ownB_blk.1 e)).1; omega)⟩
            | exact ⟨⟨⟨R.vs[k].v.lead, R.vs[k].v.epoch, R.vs[k].v.ver + 1, l⟩, A5, c5'⟩, Blk.eq, by rw [View.fenced, if_pos (.inr hlvt), if_neg c3, if_neg c3, if_pos hlvt, hl], fun k => F2 k ∨ OwnB (.slice A5 l.length c5') k, (FRow.of_own (OwnI.own : World.ownsRow w37 _ _ _ (.slice A5 _ c5') _ _)).mono (fun k e => .inr e), hRw.mono (fun k e => .inl e) (fun k e => e.elim (hRw.lt k) (fun e => (own_blk (OwnI.own : World.ownsRow w37 _ _ _ (.slice A5 _ c5') _ _) (ownB_blk.1 e)).2)), fun k e => e.elim (hs2 k) (fun e => .inr (by have := (own_blk hown5 (ownB_blk.1 e)).1; omega)), fun k e => e.elim (hne2 k) (fun e => by have := (own_blk hown5 (ownB_blk.1 e)).1; omega)⟩
            | (have hlvf : ¬ (R.vs[k].v.leaves i = true) := by
                rw [View.leaves]
                first
                 | (have q1 : ¬ (i : Int) ∈ R.vs[k].v.isr := by simpa using g44
                    rw [decide_eq_false q1]; simp; done)
                 | (rw [decide_eq_false (by omega : ¬ 1 < R.vs[k].v.isr.length)]; simp; done)
               exact ⟨⟨⟨-1, R.vs[k].v.epoch + 1, R.vs[k].v.ver + 1, R.vs[k].v.isr⟩, R.vs[k].A, R.vs[k].c⟩, Blk.eq, by rw [View.fenced, if_pos (.inl c3), if_pos c3, if_pos c3, if_neg hlvf], fun k => F k ∨ F2 k, hpw, hRw.mono (fun k e => .inr e) hFm, hsF, hnF⟩)
            | (exfalso; omega)
          haveI kxw : Blk w37 bw _ := ⟨hxb⟩
          have hR2l : R2.vs.length = R.vs.length := by
           have := congrArg List.length hF.2.2.2.2.2.1
           simp [LMeta.pure] at this
           omega
          have hns : R.vs[k].v.stuck i = false := by
           rw [View.stuck]
           have q1 : ¬ R.vs[k].v.ver = most := by omega
           rw [decide_eq_false q1, Bool.false_or]
           first
            | (have q2 : ¬ R.vs[k].v.epoch = most := by omega
               rw [decide_eq_false q2]; simp; done)
            | (rw [decide_eq_false c3]; simp; done)
          refine x_regionL ?_
          refine xl_La ?_
          refine xl_v v_move ?_
          refine xl_La ?_
          refine xl_call (refview_ok R2 F3 k x w37 (hRx.ext (kpc : Keep NoB _ w37)) (hfx.keep (kpc : Keep NoB _ w37) (fun _ _ h => h)) (by omega) (by omega)) ?_
          rintro _ w38 ⟨⟨A6, c6', F6, rfl, hR6, hs6⟩, lk7⟩
          have hbop : bo < (w37).heap.size := Has.lt
          have hb2p : b2 < (w37).heap.size := Has.lt
          have hn6 : ∀ k, F6 k → k ≠ bo ∧ k ≠ b2 := fun k e => (hs6 k e).elim (hnx k) (fun e => by omega)
          have hs66 := hs6.trans hsx (Ge.le : w.heap.size ≤ (w37).heap.size)
          refine xl_s (e_storeA fun w39 l39 k39 => ?_)
          have hFin : FenceR bo b2 F w i R.pure (k + 1) w39 { R2 with vs := R2.vs.set k x, VA := A6, vc := c6' } := by
           obtain ⟨q1, q2, q3, q4, q5, q6, q7, _⟩ := hF
           refine ⟨q1, q2, q3, q4, q5, fence_set q6 hkP (by rw [hyv]; exact hxv), ?_, F6, hR6.keep (S := OneB bo) kpc (fun k e e2 => (hn6 k e).1 e2), hs66, hn6⟩
           intro v hv
           rw [take_snoc _ _ hkP] at hv
           rcases List.mem_append.1 hv with hv | hv
           ·exact q7 v hv
           ·rw [List.mem_singleton.1 hv, hyv]; exact hns
          have hboF : (w39).heap[bo]? = some (.cells (metaC { R2 with vs := R2.vs.set k x, VA := A6, vc := c6' }).toArray 35 (0, 0)) := by have := (Blk.eq : (w39).heap[bo]? = _); simpa [metaC] using this
          refine xl_nil ?_
          obtain ⟨R3, hF3, hbo3⟩ : ∃ R3, FenceR bo b2 F w i R.pure (k + 1) w39 R3 ∧ (w39).heap[bo]? = some (.cells (metaC R3).toArray 35 (0, 0)) := by
           first
            | exact ⟨_, hFin, hboF⟩
            | (refine ⟨R2, ?_, Blk.eq⟩
               have q8 : ¬ R.vs[k].v.lead = (i : Int) := by first | (simp at g67; exact g67) | exact c3
               have q9 : ¬ (R.vs[k].v.leaves i = true) := by
                rw [View.leaves]
                first
                 | (have q1 : ¬ (i : Int) ∈ R.vs[k].v.isr := by simpa using g44
                    rw [decide_eq_false q1]; simp; done)
                 | (rw [decide_eq_false (by omega : ¬ 1 < R.vs[k].v.isr.length)]; simp; done)
               obtain ⟨q1, q2, q3, q4, q5, q6, q7, F2, hR2, hs2, hne2⟩ := hF
               refine ⟨q1, q2, q3, q4, q5, fence_keep q6 hkP ?_, ?_, F2, hR2.ext (kpc : Keep NoB w8 w39), hs2, hne2⟩
               ·rw [hyv, View.fenced, if_neg (fun e => e.elim q8 q9)]
               ·intro v hv
                rw [take_snoc _ _ hkP] at hv
                rcases List.mem_append.1 hv with hv | hv
                ·exact q7 v hv
                ·rw [List.mem_singleton.1 hv, hyv, View.stuck, decide_eq_false q8]
                 simp [q9])
          refine x_regionL ?_
          refine xl_v v_move ?_
          refine xl_v (v_add (by omega)) ?_
          refine xl_v v_assign ?_
          refine xl_nil ?_
          refine ⟨_, ?_, rfl, k + 1, R3, rfl, by omega, hF3, hbo3, inferInstance, inferInstance, inferInstance, inferInstance, evc, lkc⟩
          omega
        ·
         refine xl_gv rfl EvO.eq v_move ?_
         refine xl_Pk ?_
         refine xl_nil ?_
         first | refine x_condP (fun c6 => ?_) (fun c6 => ?_) | refine x_condN (fun c6 => ?_) (fun c6 => ?_) | refine x_condE (fun c6 => ?_) (fun c6 => ?_)
         ·
          refine x_seq ?_
          refine x_seq ?_
          refine x_regionL ?_
          refine xl_Fa ?_
          refine xl_Ld ?_
          refine xl_v v_eql ?_
          refine xl_nil ?_
          first | refine x_condP (fun c7 => ?_) (fun c7 => ?_) | refine x_condN (fun c7 => ?_) (fun c7 => ?_) | refine x_condE (fun c7 => ?_) (fun c7 => ?_)
          ·
           refine x_seq ?_
           refine x_regionL ?_
           refine xl_La ?_
           refine xl_s (e_storeA fun w40 l40 k40 => ?_)
           refine xl_v v_assign ?_
           refine xl_nil ?_
           refine x_ret ?_
           refine finR (rs := [.cell 4 35, .tmp 5]) rfl ?_
           have hS : R.vs[k].v.stuck i = true := by
            have q : (decide (R.vs[k].v.lead = i) || R.vs[k].v.leaves i) = true := by
             first
              | (rw [decide_eq_true c3]; rfl)
              | (rw [hlvt, Bool.or_true])
              | (have q1 : R.vs[k].v.lead = (i : Int) := by simpa using g67
                 exact absurd q1 c3)
              | (exfalso; omega)
            rw [View.stuck, q, decide_eq_true (by omega : R.vs[k].v.ver = most)]
            simp
           have hany : R.pure.views.any (View.stuck (i : Int)) = true := List.any_eq_true.2 ⟨_, List.getElem_mem hkP, by rw [hyv]; exact hS⟩
           rw [if_pos hany] at hr
           exact ⟨⟨R, by rw [hr]; rfl, RMade.stay h kpc (by rw [hr])⟩, lkc⟩
          ·
           refine x_skip ?_
           refine x_seq ?_
           refine x_regionL ?_
           refine xl_Fa ?_
           refine xl_Ld ?_
           refine xl_v (v_add (by omega)) ?_
           refine xl_Fa ?_
           refine xl_s (e_store fun w41 l41 k41 => ?_)
           refine xl_nil ?_
           obtain ⟨F2, hR2, hs2, hne2⟩ := hF.2.2.2.2.2.2.2
           obtain ⟨x, hxb, hxv, F3, hfx, hRx, hsx, hnx⟩ : ∃ x : LV, (w41).heap[bw]? = some (.cells (viewC x).toArray 44 (0, 0)) ∧ x.v = R.vs[k].v.fenced i ∧ ∃ F3 : Nat → Prop, FRow w41 F3 x.A (ints x.v.isr) ∧ RefAt w41 F3 R2 ∧ Sub F3 F w ∧ ∀ k, F3 k → k ≠ bo ∧ k ≠ b2 := by
            have hRw := hR2.ext (kpc : Keep NoB w8 w41)
            have hbwB : (w8).heap.size ≤ w.heap.size ∨ w.heap.size ≤ (w8).heap.size := by omega
            have hwB : w.heap.size ≤ (w8).heap.size := Ge.le
            have hFm : ∀ k, (F k ∨ F2 k) → k < (w41).heap.size := fun k e => e.elim (fun e => Nat.lt_of_lt_of_le (h.lt k e) Ge.le) (hRw.lt k)
            have hpw : FRow w41 (fun k => F k ∨ F2 k) R.vs[k].A (ints R.vs[k].v.isr) := ⟨(inferInstance : Row w41 R.vs[k].A (ints R.vs[k].v.isr)).row, fun a ha => .inl (hpx.blk a ha)⟩
            have hsF : Sub (fun k => F k ∨ F2 k) F w := fun k e => e.elim .inl (hs2 k)
            have hnF : ∀ k, (F k ∨ F2 k) → k ≠ bo ∧ k ≠ b2 := fun k e => e.elim (fun e => by have := h.lt k e; omega) (hne2 k)
            first
             | (exfalso; simp at g67; exact absurd g67 c3)
             | (exfalso; simp at g67; exact absurd c3 g67)
             | exact ⟨⟨⟨-1, R.vs[k].v.epoch + 1, R.vs[k].v.ver + 1, l⟩, A5, c5'⟩, Blk.eq, by rw [View.fenced, if_pos (.inl c3), if_pos c3, if_pos c3, if_pos hlvt, hl], fun k => F2 k ∨ OwnB (.slice A5 l.length c5') k, (FRow.of_own (OwnI.own : World.ownsRow w41 _ _ _ (.slice A5 _ c5') _ _)).mono (fun k e => .inr e), hRw.mono (fun k e => .inl e) (fun k e => e.elim (hRw.lt k) (fun e => (own_blk (OwnI.own : World.ownsRow w41 _ _ _ (.slice A5 _ c5') _ _) (ownB_blk.1 e)).2)), fun k e => e.elim (hs2 k) (fun e => .inr (by have := (own_blk hown5 (ownB_blk.1 e)).1; omega)), fun k e => e.elim (hne2 k) (fun e => by have := (own_blk hown5 (ownB_blk.1 e)).1; omega)⟩
             | exact ⟨⟨⟨R.vs[k].v.lead, R.vs[k].v.epoch, R.vs[k].v.ver + 1, l⟩, A5, c5'⟩, Blk.eq, by rw [View.fenced, if_pos (.inr hlvt), if_neg c3, if_neg c3, if_pos hlvt, hl], fun k => F2 k ∨ OwnB (.slice A5 l.length c5') k, (FRow.of_own (OwnI.own : World.ownsRow w41 _ _ _ (.slice A5 _ c5') _ _)).mono (fun k e => .inr e), hRw.mono (fun k e => .inl e) (fun k e => e.elim (hRw.lt k) (fun e => (own_blk (OwnI.own : World.ownsRow w41 _ _ _ (.slice A5 _ c5') _ _) (ownB_blk.1 e)).2)), fun k e => e.elim (hs2 k) (fun e => .inr (by have := (own_blk hown5 (ownB_blk.1 e)).1; omega)), fun k e => e.elim (hne2 k) (fun e => by have := (own_blk hown5 (ownB_blk.1 e)).1; omega)⟩
             | (have hlvf : ¬ (R.vs[k].v.leaves i = true) := by
                 rw [View.leaves]
                 first
                  | (have q1 : ¬ (i : Int) ∈ R.vs[k].v.isr := by simpa using g44
                     rw [decide_eq_false q1]; simp; done)
                  | (rw [decide_eq_false (by omega : ¬ 1 < R.vs[k].v.isr.length)]; simp; done)
                exact ⟨⟨⟨-1, R.vs[k].v.epoch + 1, R.vs[k].v.ver + 1, R.vs[k].v.isr⟩, R.vs[k].A, R.vs[k].c⟩, Blk.eq, by rw [View.fenced, if_pos (.inl c3), if_pos c3, if_pos c3, if_neg hlvf], fun k => F k ∨ F2 k, hpw, hRw.mono (fun k e => .inr e) hFm, hsF, hnF⟩)
             | (exfalso; omega)
           haveI kxw : Blk w41 bw _ := ⟨hxb⟩
           have hR2l : R2.vs.length = R.vs.length := by
            have := congrArg List.length hF.2.2.2.2.2.1
            simp [LMeta.pure] at this
            omega
           have hns : R.vs[k].v.stuck i = false := by
            rw [View.stuck]
            have q1 : ¬ R.vs[k].v.ver = most := by omega
            rw [decide_eq_false q1, Bool.false_or]
            first
             | (have q2 : ¬ R.vs[k].v.epoch = most := by omega
                rw [decide_eq_false q2]; simp; done)
             | (rw [decide_eq_false c3]; simp; done)
           refine x_regionL ?_
           refine xl_La ?_
           refine xl_v v_move ?_
           refine xl_La ?_
           refine xl_call (refview_ok R2 F3 k x w41 (hRx.ext (kpc : Keep NoB _ w41)) (hfx.keep (kpc : Keep NoB _ w41) (fun _ _ h => h)) (by omega) (by omega)) ?_
           rintro _ w42 ⟨⟨A6, c6', F6, rfl, hR6, hs6⟩, lk7⟩
           have hbop : bo < (w41).heap.size := Has.lt
           have hb2p : b2 < (w41).heap.size := Has.lt
           have hn6 : ∀ k, F6 k → k ≠ bo ∧ k ≠ b2 := fun k e => (hs6 k e).elim (hnx k) (fun e => by omega)
           have hs66 := hs6.trans hsx (Ge.le : w.heap.size ≤ (w41).heap.size)
           refine xl_s (e_storeA fun w43 l43 k43 => ?_)
           have hFin : FenceR bo b2 F w i R.pure (k + 1) w43 { R2 with vs := R2.vs.set k x, VA := A6, vc := c6' } := by
            obtain ⟨q1, q2, q3, q4, q5, q6, q7, _⟩ := hF
            refine ⟨q1, q2, q3, q4, q5, fence_set q6 hkP (by rw [hyv]; exact hxv), ?_, F6, hR6.keep (S := OneB bo) kpc (fun k e e2 => (hn6 k e).1 e2), hs66, hn6⟩
            intro v hv
            rw [take_snoc _ _ hkP] at hv
            rcases List.mem_append.1 hv with hv | hv
            ·exact q7 v hv
            ·rw [List.mem_singleton.1 hv, hyv]; exact hns
           have hboF : (w43).heap[bo]? = some (.cells (metaC { R2 with vs := R2.vs.set k x, VA := A6, vc := c6' }).toArray 35 (0, 0)) := by have := (Blk.eq : (w43).heap[bo]? = _); simpa [metaC] using this
           refine xl_nil ?_
           obtain ⟨R3, hF3, hbo3⟩ : ∃ R3, FenceR bo b2 F w i R.pure (k + 1) w43 R3 ∧ (w43).heap[bo]? = some (.cells (metaC R3).toArray 35 (0, 0)) := by
            first
             | exact ⟨_, hFin, hboF⟩
             | (refine ⟨R2, ?_, Blk.eq⟩
                have q8 : ¬ R.vs[k].v.lead = (i : Int) := by first | (simp at g67; exact g67) | exact c3
                have q9 : ¬ (R.vs[k].v.leaves i = true) := by
                 rw [View.leaves]
                 first
                  | (have q1 : ¬ (i : Int) ∈ R.vs[k].v.isr := by simpa using g44
                     rw [decide_eq_false q1]; simp; done)
                  | (rw [decide_eq_false (by omega : ¬ 1 < R.vs[k].v.isr.length)]; simp; done)
                obtain ⟨q1, q2, q3, q4, q5, q6, q7, F2, hR2, hs2, hne2⟩ := hF
                refine ⟨q1, q2, q3, q4, q5, fence_keep q6 hkP ?_, ?_, F2, hR2.ext (kpc : Keep NoB w8 w43), hs2, hne2⟩
                ·rw [hyv, View.fenced, if_neg (fun e => e.elim q8 q9)]
                ·intro v hv
                 rw [take_snoc _ _ hkP] at hv
                 rcases List.mem_append.1 hv with hv | hv
                 ·exact q7 v hv
                 ·rw [List.mem_singleton.1 hv, hyv, View.stuck, decide_eq_false q8]
                  simp [q9])
           refine x_regionL ?_
           refine xl_v v_move ?_
           refine xl_v (v_add (by omega)) ?_
           refine xl_v v_assign ?_
           refine xl_nil ?_
           refine ⟨_, ?_, rfl, k + 1, R3, rfl, by omega, hF3, hbo3, inferInstance, inferInstance, inferInstance, inferInstance, evc, lkc⟩
           omega
         ·
          refine x_skip ?_
          obtain ⟨R3, hF3, hbo3⟩ : ∃ R3, FenceR bo b2 F w i R.pure (k + 1) w35 R3 ∧ (w35).heap[bo]? = some (.cells (metaC R3).toArray 35 (0, 0)) := by
           first
            | exact ⟨_, hFin, hboF⟩
            | (refine ⟨R2, ?_, Blk.eq⟩
               have q8 : ¬ R.vs[k].v.lead = (i : Int) := by first | (simp at g67; exact g67) | exact c3
               have q9 : ¬ (R.vs[k].v.leaves i = true) := by
                rw [View.leaves]
                first
                 | (have q1 : ¬ (i : Int) ∈ R.vs[k].v.isr := by simpa using g44
                    rw [decide_eq_false q1]; simp; done)
                 | (rw [decide_eq_false (by omega : ¬ 1 < R.vs[k].v.isr.length)]; simp; done)
               obtain ⟨q1, q2, q3, q4, q5, q6, q7, F2, hR2, hs2, hne2⟩ := hF
               refine ⟨q1, q2, q3, q4, q5, fence_keep q6 hkP ?_, ?_, F2, hR2.ext (kpc : Keep NoB w8 w35), hs2, hne2⟩
               ·rw [hyv, View.fenced, if_neg (fun e => e.elim q8 q9)]
               ·intro v hv
                rw [take_snoc _ _ hkP] at hv
                rcases List.mem_append.1 hv with hv | hv
                ·exact q7 v hv
                ·rw [List.mem_singleton.1 hv, hyv, View.stuck, decide_eq_false q8]
                 simp [q9])
          refine x_regionL ?_
          refine xl_v v_move ?_
          refine xl_v (v_add (by omega)) ?_
          refine xl_v v_assign ?_
          refine xl_nil ?_
          refine ⟨_, ?_, rfl, k + 1, R3, rfl, by omega, hF3, hbo3, inferInstance, inferInstance, inferInstance, inferInstance, evc, lkc⟩
          omega
       ·
        refine x_skip ?_
        refine x_seq ?_
        have hlvd : R.vs[k].v.leaves i = true ∨ R.vs[k].v.leaves i = false := by cases R.vs[k].v.leaves i <;> simp
        refine x_regionL ?_
        refine xl_v v_move ?_
        refine xl_v v_move ?_
        refine xl_split 67 (fun g67 => ?_) (fun g67 => ?_)
        ·
         refine xl_gs rfl EvO.eq ?_
         refine xl_Pk ?_
         refine xl_nil ?_
         refine x_condT ?_
         refine x_seq ?_
         refine x_seq ?_
         refine x_regionL ?_
         refine xl_Fa ?_
         refine xl_Ld ?_
         refine xl_v v_eql ?_
         refine xl_nil ?_
         first | refine x_condP (fun c7 => ?_) (fun c7 => ?_) | refine x_condN (fun c7 => ?_) (fun c7 => ?_) | refine x_condE (fun c7 => ?_) (fun c7 => ?_)
         ·
          refine x_seq ?_
          refine x_regionL ?_
          refine xl_La ?_
          refine xl_s (e_storeA fun w44 l44 k44 => ?_)
          refine xl_v v_assign ?_
          refine xl_nil ?_
          refine x_ret ?_
          refine finR (rs := [.cell 4 35, .tmp 5]) rfl ?_
          have hS : R.vs[k].v.stuck i = true := by
           have q : (decide (R.vs[k].v.lead = i) || R.vs[k].v.leaves i) = true := by
            first
             | (rw [decide_eq_true c3]; rfl)
             | (rw [hlvt, Bool.or_true])
             | (have q1 : R.vs[k].v.lead = (i : Int) := by simpa using g67
                exact absurd q1 c3)
             | (exfalso; omega)
           rw [View.stuck, q, decide_eq_true (by omega : R.vs[k].v.ver = most)]
           simp
          have hany : R.pure.views.any (View.stuck (i : Int)) = true := List.any_eq_true.2 ⟨_, List.getElem_mem hkP, by rw [hyv]; exact hS⟩
          rw [if_pos hany] at hr
          exact ⟨⟨R, by rw [hr]; rfl, RMade.stay h kpc (by rw [hr])⟩, lkc⟩
         ·
          refine x_skip ?_
          refine x_seq ?_
          refine x_regionL ?_
          refine xl_Fa ?_
          refine xl_Ld ?_
          refine xl_v (v_add (by omega)) ?_
          refine xl_Fa ?_
          refine xl_s (e_store fun w45 l45 k45 => ?_)
          refine xl_nil ?_
          obtain ⟨F2, hR2, hs2, hne2⟩ := hF.2.2.2.2.2.2.2
          obtain ⟨x, hxb, hxv, F3, hfx, hRx, hsx, hnx⟩ : ∃ x : LV, (w45).heap[bw]? = some (.cells (viewC x).toArray 44 (0, 0)) ∧ x.v = R.vs[k].v.fenced i ∧ ∃ F3 : Nat → Prop, FRow w45 F3 x.A (ints x.v.isr) ∧ RefAt w45 F3 R2 ∧ Sub F3 F w ∧ ∀ k, F3 k → k ≠ bo ∧ k ≠ b2 := by
           have hRw := hR2.ext (kpc : Keep NoB w8 w45)
           have hbwB : (w8).heap.size ≤ w.heap.size ∨ w.heap.size ≤ (w8).heap.size := by omega
           have hwB : w.heap.size ≤ (w8).heap.size := Ge.le
           have hFm : ∀ k, (F k ∨ F2 k) → k < (w45).heap.size := fun k e => e.elim (fun e => Nat.lt_of_lt_of_le (h.lt k e) Ge.le) (hRw.lt k)
           have hpw : FRow w45 (fun k => F k ∨ F2 k) R.vs[k].A (ints R.vs[k].v.isr) := ⟨(inferInstance : Row w45 R.vs[k].A (ints R.vs[k].v.isr)).row, fun a ha => .inl (hpx.blk a ha)⟩
           have hsF : Sub (fun k => F k ∨ F2 k) F w := fun k e => e.elim .inl (hs2 k)
           have hnF : ∀ k, (F k ∨ F2 k) → k ≠ bo ∧ k ≠ b2 := fun k e => e.elim (fun e => by have := h.lt k e; omega) (hne2 k)
           first
            | (exfalso; simp at g67; exact absurd g67 c3)
            | (exfalso; simp at g67; exact absurd c3 g67)
            | exact ⟨⟨⟨-1, R.vs[k].v.epoch + 1, R.vs[k].v.ver + 1, l⟩, A5, c5'⟩, Blk.eq, by rw [View.fenced, if_pos (.inl c3), if_pos c3, if_pos c3, if_pos hlvt, hl], fun k => F2 k ∨ OwnB (.slice A5 l.length c5') k, (FRow.of_own (OwnI.own : World.ownsRow w45 _ _ _ (.slice A5 _ c5') _ _)).mono (fun k e => .inr e), hRw.mono (fun k e => .inl e) (fun k e => e.elim (hRw.lt k) (fun e => (own_blk (OwnI.own : World.ownsRow w45 _ _ _ (.slice A5 _ c5') _ _) (ownB_blk.1 e)).2)), fun k e => e.elim (hs2 k) (fun e => .inr (by have := (own_blk hown5 (ownB_blk.1 e)).1; omega)), fun k e => e.elim (hne2 k) (fun e => by have := (own_blk hown5 (ownB_blk.1 e)).1; omega)⟩
            | exact ⟨⟨⟨R.vs[k].v.lead, R.vs[k].v.epoch, R.vs[k].v.ver + 1, l⟩, A5, c5'⟩, Blk.eq, by rw [View.fenced, if_pos (.inr hlvt), if_neg c3, if_neg c3, if_pos hlvt, hl], fun k => F2 k ∨ OwnB (.slice A5 l.length c5') k, (FRow.of_own (OwnI.own : World.ownsRow w45 _ _ _ (.slice A5 _ c5') _ _)).mono (fun k e => .inr e), hRw.mono (fun k e => .inl e) (fun k e => e.elim (hRw.lt k) (fun e => (own_blk (OwnI.own : World.ownsRow w45 _ _ _ (.slice A5 _ c5') _ _) (ownB_blk.1 e)).2)), fun k e => e.elim (hs2 k) (fun e => .inr (by have := (own_blk hown5 (ownB_blk.1 e)).1; omega)), fun k e => e.elim (hne2 k) (fun e => by have := (own_blk hown5 (ownB_blk.1 e)).1; omega)⟩
            | (have hlvf : ¬ (R.vs[k].v.leaves i = true) := by
                rw [View.leaves]
                first
                 | (have q1 : ¬ (i : Int) ∈ R.vs[k].v.isr := by simpa using g44
                    rw [decide_eq_false q1]; simp; done)
                 | (rw [decide_eq_false (by omega : ¬ 1 < R.vs[k].v.isr.length)]; simp; done)
               exact ⟨⟨⟨-1, R.vs[k].v.epoch + 1, R.vs[k].v.ver + 1, R.vs[k].v.isr⟩, R.vs[k].A, R.vs[k].c⟩, Blk.eq, by rw [View.fenced, if_pos (.inl c3), if_pos c3, if_pos c3, if_neg hlvf], fun k => F k ∨ F2 k, hpw, hRw.mono (fun k e => .inr e) hFm, hsF, hnF⟩)
            | (exfalso; omega)
          haveI kxw : Blk w45 bw _ := ⟨hxb⟩
          have hR2l : R2.vs.length = R.vs.length := by
           have := congrArg List.length hF.2.2.2.2.2.1
           simp [LMeta.pure] at this
           omega
          have hns : R.vs[k].v.stuck i = false := by
           rw [View.stuck]
           have q1 : ¬ R.vs[k].v.ver = most := by omega
           rw [decide_eq_false q1, Bool.false_or]
           first
            | (have q2 : ¬ R.vs[k].v.epoch = most := by omega
               rw [decide_eq_false q2]; simp; done)
            | (rw [decide_eq_false c3]; simp; done)
          refine x_regionL ?_
          refine xl_La ?_
          refine xl_v v_move ?_
          refine xl_La ?_
          refine xl_call (refview_ok R2 F3 k x w45 (hRx.ext (kpc : Keep NoB _ w45)) (hfx.keep (kpc : Keep NoB _ w45) (fun _ _ h => h)) (by omega) (by omega)) ?_
          rintro _ w46 ⟨⟨A6, c6', F6, rfl, hR6, hs6⟩, lk7⟩
          have hbop : bo < (w45).heap.size := Has.lt
          have hb2p : b2 < (w45).heap.size := Has.lt
          have hn6 : ∀ k, F6 k → k ≠ bo ∧ k ≠ b2 := fun k e => (hs6 k e).elim (hnx k) (fun e => by omega)
          have hs66 := hs6.trans hsx (Ge.le : w.heap.size ≤ (w45).heap.size)
          refine xl_s (e_storeA fun w47 l47 k47 => ?_)
          have hFin : FenceR bo b2 F w i R.pure (k + 1) w47 { R2 with vs := R2.vs.set k x, VA := A6, vc := c6' } := by
           obtain ⟨q1, q2, q3, q4, q5, q6, q7, _⟩ := hF
           refine ⟨q1, q2, q3, q4, q5, fence_set q6 hkP (by rw [hyv]; exact hxv), ?_, F6, hR6.keep (S := OneB bo) kpc (fun k e e2 => (hn6 k e).1 e2), hs66, hn6⟩
           intro v hv
           rw [take_snoc _ _ hkP] at hv
           rcases List.mem_append.1 hv with hv | hv
           ·exact q7 v hv
           ·rw [List.mem_singleton.1 hv, hyv]; exact hns
          have hboF : (w47).heap[bo]? = some (.cells (metaC { R2 with vs := R2.vs.set k x, VA := A6, vc := c6' }).toArray 35 (0, 0)) := by have := (Blk.eq : (w47).heap[bo]? = _); simpa [metaC] using this
          refine xl_nil ?_
          obtain ⟨R3, hF3, hbo3⟩ : ∃ R3, FenceR bo b2 F w i R.pure (k + 1) w47 R3 ∧ (w47).heap[bo]? = some (.cells (metaC R3).toArray 35 (0, 0)) := by
           first
            | exact ⟨_, hFin, hboF⟩
            | (refine ⟨R2, ?_, Blk.eq⟩
               have q8 : ¬ R.vs[k].v.lead = (i : Int) := by first | (simp at g67; exact g67) | exact c3
               have q9 : ¬ (R.vs[k].v.leaves i = true) := by
                rw [View.leaves]
                first
                 | (have q1 : ¬ (i : Int) ∈ R.vs[k].v.isr := by simpa using g44
                    rw [decide_eq_false q1]; simp; done)
                 | (rw [decide_eq_false (by omega : ¬ 1 < R.vs[k].v.isr.length)]; simp; done)
               obtain ⟨q1, q2, q3, q4, q5, q6, q7, F2, hR2, hs2, hne2⟩ := hF
               refine ⟨q1, q2, q3, q4, q5, fence_keep q6 hkP ?_, ?_, F2, hR2.ext (kpc : Keep NoB w8 w47), hs2, hne2⟩
               ·rw [hyv, View.fenced, if_neg (fun e => e.elim q8 q9)]
               ·intro v hv
                rw [take_snoc _ _ hkP] at hv
                rcases List.mem_append.1 hv with hv | hv
                ·exact q7 v hv
                ·rw [List.mem_singleton.1 hv, hyv, View.stuck, decide_eq_false q8]
                 simp [q9])
          refine x_regionL ?_
          refine xl_v v_move ?_
          refine xl_v (v_add (by omega)) ?_
          refine xl_v v_assign ?_
          refine xl_nil ?_
          refine ⟨_, ?_, rfl, k + 1, R3, rfl, by omega, hF3, hbo3, inferInstance, inferInstance, inferInstance, inferInstance, evc, lkc⟩
          omega
        ·
         refine xl_gv rfl EvO.eq v_move ?_
         refine xl_Pk ?_
         refine xl_nil ?_
         first | refine x_condP (fun c6 => ?_) (fun c6 => ?_) | refine x_condN (fun c6 => ?_) (fun c6 => ?_) | refine x_condE (fun c6 => ?_) (fun c6 => ?_)
         ·
          refine x_seq ?_
          refine x_seq ?_
          refine x_regionL ?_
          refine xl_Fa ?_
          refine xl_Ld ?_
          refine xl_v v_eql ?_
          refine xl_nil ?_
          first | refine x_condP (fun c7 => ?_) (fun c7 => ?_) | refine x_condN (fun c7 => ?_) (fun c7 => ?_) | refine x_condE (fun c7 => ?_) (fun c7 => ?_)
          ·
           refine x_seq ?_
           refine x_regionL ?_
           refine xl_La ?_
           refine xl_s (e_storeA fun w48 l48 k48 => ?_)
           refine xl_v v_assign ?_
           refine xl_nil ?_
           refine x_ret ?_
           refine finR (rs := [.cell 4 35, .tmp 5]) rfl ?_
           have hS : R.vs[k].v.stuck i = true := by
            have q : (decide (R.vs[k].v.lead = i) || R.vs[k].v.leaves i) = true := by
             first
              | (rw [decide_eq_true c3]; rfl)
              | (rw [hlvt, Bool.or_true])
              | (have q1 : R.vs[k].v.lead = (i : Int) := by simpa using g67
                 exact absurd q1 c3)
              | (exfalso; omega)
            rw [View.stuck, q, decide_eq_true (by omega : R.vs[k].v.ver = most)]
            simp
           have hany : R.pure.views.any (View.stuck (i : Int)) = true := List.any_eq_true.2 ⟨_, List.getElem_mem hkP, by rw [hyv]; exact hS⟩
           rw [if_pos hany] at hr
           exact ⟨⟨R, by rw [hr]; rfl, RMade.stay h kpc (by rw [hr])⟩, lkc⟩
          ·
           refine x_skip ?_
           refine x_seq ?_
           refine x_regionL ?_
           refine xl_Fa ?_
           refine xl_Ld ?_
           refine xl_v (v_add (by omega)) ?_
           refine xl_Fa ?_
           refine xl_s (e_store fun w49 l49 k49 => ?_)
           refine xl_nil ?_
           obtain ⟨F2, hR2, hs2, hne2⟩ := hF.2.2.2.2.2.2.2
           obtain ⟨x, hxb, hxv, F3, hfx, hRx, hsx, hnx⟩ : ∃ x : LV, (w49).heap[bw]? = some (.cells (viewC x).toArray 44 (0, 0)) ∧ x.v = R.vs[k].v.fenced i ∧ ∃ F3 : Nat → Prop, FRow w49 F3 x.A (ints x.v.isr) ∧ RefAt w49 F3 R2 ∧ Sub F3 F w ∧ ∀ k, F3 k → k ≠ bo ∧ k ≠ b2 := by
            have hRw := hR2.ext (kpc : Keep NoB w8 w49)
            have hbwB : (w8).heap.size ≤ w.heap.size ∨ w.heap.size ≤ (w8).heap.size := by omega
            have hwB : w.heap.size ≤ (w8).heap.size := Ge.le
            have hFm : ∀ k, (F k ∨ F2 k) → k < (w49).heap.size := fun k e => e.elim (fun e => Nat.lt_of_lt_of_le (h.lt k e) Ge.le) (hRw.lt k)
            have hpw : FRow w49 (fun k => F k ∨ F2 k) R.vs[k].A (ints R.vs[k].v.isr) := ⟨(inferInstance : Row w49 R.vs[k].A (ints R.vs[k].v.isr)).row, fun a ha => .inl (hpx.blk a ha)⟩
            have hsF : Sub (fun k => F k ∨ F2 k) F w := fun k e => e.elim .inl (hs2 k)
            have hnF : ∀ k, (F k ∨ F2 k) → k ≠ bo ∧ k ≠ b2 := fun k e => e.elim (fun e => by have := h.lt k e; omega) (hne2 k)
            first
             | (exfalso; simp at g67; exact absurd g67 c3)
             | (exfalso; simp at g67; exact absurd c3 g67)
             | exact ⟨⟨⟨-1, R.vs[k].v.epoch + 1, R.vs[k].v.ver + 1, l⟩, A5, c5'⟩, Blk.eq, by rw [View.fenced, if_pos (.inl c3), if_pos c3, if_pos c3, if_pos hlvt, hl], fun k => F2 k ∨ OwnB (.slice A5 l.length c5') k, (FRow.of_own (OwnI.own : World.ownsRow w49 _ _ _ (.slice A5 _ c5') _ _)).mono (fun k e => .inr e), hRw.mono (fun k e => .inl e) (fun k e => e.elim (hRw.lt k) (fun e => (own_blk (OwnI.own : World.ownsRow w49 _ _ _ (.slice A5 _ c5') _ _) (ownB_blk.1 e)).2)), fun k e => e.elim (hs2 k) (fun e => .inr (by have := (own_blk hown5 (ownB_blk.1 e)).1; omega)), fun k e => e.elim (hne2 k) (fun e => by have := (own_blk hown5 (ownB_blk.1 e)).1; omega)⟩
             | exact ⟨⟨⟨R.vs[k].v.lead, R.vs[k].v.epoch, R.vs[k].v.ver + 1, l⟩, A5, c5'⟩, Blk.eq, by rw [View.fenced, if_pos (.inr hlvt), if_neg c3, if_neg c3, if_pos hlvt, hl], fun k => F2 k ∨ OwnB (.slice A5 l.length c5') k, (FRow.of_own (OwnI.own : World.ownsRow w49 _ _ _ (.slice A5 _ c5') _ _)).mono (fun k e => .inr e), hRw.mono (fun k e => .inl e) (fun k e => e.elim (hRw.lt k) (fun e => (own_blk (OwnI.own : World.ownsRow w49 _ _ _ (.slice A5 _ c5') _ _) (ownB_blk.1 e)).2)), fun k e => e.elim (hs2 k) (fun e => .inr (by have := (own_blk hown5 (ownB_blk.1 e)).1; omega)), fun k e => e.elim (hne2 k) (fun e => by have := (own_blk hown5 (ownB_blk.1 e)).1; omega)⟩
             | (have hlvf : ¬ (R.vs[k].v.leaves i = true) := by
                 rw [View.leaves]
                 first
                  | (have q1 : ¬ (i : Int) ∈ R.vs[k].v.isr := by simpa using g44
                     rw [decide_eq_false q1]; simp; done)
                  | (rw [decide_eq_false (by omega : ¬ 1 < R.vs[k].v.isr.length)]; simp; done)
                exact ⟨⟨⟨-1, R.vs[k].v.epoch + 1, R.vs[k].v.ver + 1, R.vs[k].v.isr⟩, R.vs[k].A, R.vs[k].c⟩, Blk.eq, by rw [View.fenced, if_pos (.inl c3), if_pos c3, if_pos c3, if_neg hlvf], fun k => F k ∨ F2 k, hpw, hRw.mono (fun k e => .inr e) hFm, hsF, hnF⟩)
             | (exfalso; omega)
           haveI kxw : Blk w49 bw _ := ⟨hxb⟩
           have hR2l : R2.vs.length = R.vs.length := by
            have := congrArg List.length hF.2.2.2.2.2.1
            simp [LMeta.pure] at this
            omega
           have hns : R.vs[k].v.stuck i = false := by
            rw [View.stuck]
            have q1 : ¬ R.vs[k].v.ver = most := by omega
            rw [decide_eq_false q1, Bool.false_or]
            first
             | (have q2 : ¬ R.vs[k].v.epoch = most := by omega
                rw [decide_eq_false q2]; simp; done)
             | (rw [decide_eq_false c3]; simp; done)
           refine x_regionL ?_
           refine xl_La ?_
           refine xl_v v_move ?_
           refine xl_La ?_
           refine xl_call (refview_ok R2 F3 k x w49 (hRx.ext (kpc : Keep NoB _ w49)) (hfx.keep (kpc : Keep NoB _ w49) (fun _ _ h => h)) (by omega) (by omega)) ?_
           rintro _ w50 ⟨⟨A6, c6', F6, rfl, hR6, hs6⟩, lk7⟩
           have hbop : bo < (w49).heap.size := Has.lt
           have hb2p : b2 < (w49).heap.size := Has.lt
           have hn6 : ∀ k, F6 k → k ≠ bo ∧ k ≠ b2 := fun k e => (hs6 k e).elim (hnx k) (fun e => by omega)
           have hs66 := hs6.trans hsx (Ge.le : w.heap.size ≤ (w49).heap.size)
           refine xl_s (e_storeA fun w51 l51 k51 => ?_)
           have hFin : FenceR bo b2 F w i R.pure (k + 1) w51 { R2 with vs := R2.vs.set k x, VA := A6, vc := c6' } := by
            obtain ⟨q1, q2, q3, q4, q5, q6, q7, _⟩ := hF
            refine ⟨q1, q2, q3, q4, q5, fence_set q6 hkP (by rw [hyv]; exact hxv), ?_, F6, hR6.keep (S := OneB bo) kpc (fun k e e2 => (hn6 k e).1 e2), hs66, hn6⟩
            intro v hv
            rw [take_snoc _ _ hkP] at hv
            rcases List.mem_append.1 hv with hv | hv
            ·exact q7 v hv
            ·rw [List.mem_singleton.1 hv, hyv]; exact hns
           have hboF : (w51).heap[bo]? = some (.cells (metaC { R2 with vs := R2.vs.set k x, VA := A6, vc := c6' }).toArray 35 (0, 0)) := by have := (Blk.eq : (w51).heap[bo]? = _); simpa [metaC] using this
           refine xl_nil ?_
           obtain ⟨R3, hF3, hbo3⟩ : ∃ R3, FenceR bo b2 F w i R.pure (k + 1) w51 R3 ∧ (w51).heap[bo]? = some (.cells (metaC R3).toArray 35 (0, 0)) := by
            first
             | exact ⟨_, hFin, hboF⟩
             | (refine ⟨R2, ?_, Blk.eq⟩
                have q8 : ¬ R.vs[k].v.lead = (i : Int) := by first | (simp at g67; exact g67) | exact c3
                have q9 : ¬ (R.vs[k].v.leaves i = true) := by
                 rw [View.leaves]
                 first
                  | (have q1 : ¬ (i : Int) ∈ R.vs[k].v.isr := by simpa using g44
                     rw [decide_eq_false q1]; simp; done)
                  | (rw [decide_eq_false (by omega : ¬ 1 < R.vs[k].v.isr.length)]; simp; done)
                obtain ⟨q1, q2, q3, q4, q5, q6, q7, F2, hR2, hs2, hne2⟩ := hF
                refine ⟨q1, q2, q3, q4, q5, fence_keep q6 hkP ?_, ?_, F2, hR2.ext (kpc : Keep NoB w8 w51), hs2, hne2⟩
                ·rw [hyv, View.fenced, if_neg (fun e => e.elim q8 q9)]
                ·intro v hv
                 rw [take_snoc _ _ hkP] at hv
                 rcases List.mem_append.1 hv with hv | hv
                 ·exact q7 v hv
                 ·rw [List.mem_singleton.1 hv, hyv, View.stuck, decide_eq_false q8]
                  simp [q9])
           refine x_regionL ?_
           refine xl_v v_move ?_
           refine xl_v (v_add (by omega)) ?_
           refine xl_v v_assign ?_
           refine xl_nil ?_
           refine ⟨_, ?_, rfl, k + 1, R3, rfl, by omega, hF3, hbo3, inferInstance, inferInstance, inferInstance, inferInstance, evc, lkc⟩
           omega
         ·
          refine x_skip ?_
          obtain ⟨R3, hF3, hbo3⟩ : ∃ R3, FenceR bo b2 F w i R.pure (k + 1) w12 R3 ∧ (w12).heap[bo]? = some (.cells (metaC R3).toArray 35 (0, 0)) := by
           first
            | exact ⟨_, hFin, hboF⟩
            | (refine ⟨R2, ?_, Blk.eq⟩
               have q8 : ¬ R.vs[k].v.lead = (i : Int) := by first | (simp at g67; exact g67) | exact c3
               have q9 : ¬ (R.vs[k].v.leaves i = true) := by
                rw [View.leaves]
                first
                 | (have q1 : ¬ (i : Int) ∈ R.vs[k].v.isr := by simpa using g44
                    rw [decide_eq_false q1]; simp; done)
                 | (rw [decide_eq_false (by omega : ¬ 1 < R.vs[k].v.isr.length)]; simp; done)
               obtain ⟨q1, q2, q3, q4, q5, q6, q7, F2, hR2, hs2, hne2⟩ := hF
               refine ⟨q1, q2, q3, q4, q5, fence_keep q6 hkP ?_, ?_, F2, hR2.ext (kpc : Keep NoB w8 w12), hs2, hne2⟩
               ·rw [hyv, View.fenced, if_neg (fun e => e.elim q8 q9)]
               ·intro v hv
                rw [take_snoc _ _ hkP] at hv
                rcases List.mem_append.1 hv with hv | hv
                ·exact q7 v hv
                ·rw [List.mem_singleton.1 hv, hyv, View.stuck, decide_eq_false q8]
                 simp [q9])
          refine x_regionL ?_
          refine xl_v v_move ?_
          refine xl_v (v_add (by omega)) ?_
          refine xl_v v_assign ?_
          refine xl_nil ?_
          refine ⟨_, ?_, rfl, k + 1, R3, rfl, by omega, hF3, hbo3, inferInstance, inferInstance, inferInstance, inferInstance, evc, lkc⟩
          omega
     ·
      refine xt_gs rfl rfl EvO.eq ?_
      refine xt_gs rfl rfl EvO.eq ?_
      refine xt_gs rfl rfl EvO.eq ?_
      refine xt_gs rfl rfl EvO.eq ?_
      refine xt_Pk rfl ?_
      refine xt_v rfl v_assign ?_
      refine xt_v rfl v_assign ?_
      refine xt_nil ?_
      refine x_seq ?_
      refine x_seq ?_
      refine x_regionL ?_
      refine xl_v v_move ?_
      refine xl_nil ?_
      first | refine x_condP (fun c3 => ?_) (fun c3 => ?_) | refine x_condN (fun c3 => ?_) (fun c3 => ?_) | refine x_condE (fun c3 => ?_) (fun c3 => ?_)
      ·
       refine x_seq ?_
       refine x_seq ?_
       refine x_regionL ?_
       refine xl_Fa ?_
       refine xl_Ld ?_
       refine xl_v v_eql ?_
       refine xl_nil ?_
       first | refine x_condP (fun c4 => ?_) (fun c4 => ?_) | refine x_condN (fun c4 => ?_) (fun c4 => ?_) | refine x_condE (fun c4 => ?_) (fun c4 => ?_)
       ·
        refine x_seq ?_
        refine x_regionL ?_
        refine xl_La ?_
        refine xl_s (e_storeA fun w52 l52 k52 => ?_)
        refine xl_v v_assign ?_
        refine xl_nil ?_
        refine x_ret ?_
        refine finR (rs := [.cell 4 35, .tmp 5]) rfl ?_
        have hS : R.vs[k].v.stuck i = true := by
         rw [View.stuck, decide_eq_true c3, decide_eq_true (by omega : R.vs[k].v.epoch = most)]
         simp
        have hany : R.pure.views.any (View.stuck (i : Int)) = true := List.any_eq_true.2 ⟨_, List.getElem_mem hkP, by rw [hyv]; exact hS⟩
        rw [if_pos hany] at hr
        exact ⟨⟨R, by rw [hr]; rfl, RMade.stay h kpc (by rw [hr])⟩, lkc⟩
       ·
        refine x_skip ?_
        refine x_regionL ?_
        refine xl_Fa ?_
        refine xl_Ld ?_
        refine xl_v (v_add (by omega)) ?_
        refine xl_Fa ?_
        refine xl_s (e_store fun w53 l53 k53 => ?_)
        refine xl_Fa ?_
        refine xl_s (e_store fun w54 l54 k54 => ?_)
        refine xl_nil ?_
        refine x_seq ?_
        refine x_seq ?_
        refine x_regionL ?_
        refine xl_v v_move ?_
        refine xl_nil ?_
        refine x_condF ?_
        refine x_skip ?_
        refine x_seq ?_
        have hlvd : R.vs[k].v.leaves i = true ∨ R.vs[k].v.leaves i = false := by cases R.vs[k].v.leaves i <;> simp
        refine x_regionL ?_
        refine xl_v v_move ?_
        refine xl_v v_move ?_
        refine xl_split 67 (fun g67 => ?_) (fun g67 => ?_)
        ·
         refine xl_gs rfl EvO.eq ?_
         refine xl_Pk ?_
         refine xl_nil ?_
         refine x_condT ?_
         refine x_seq ?_
         refine x_seq ?_
         refine x_regionL ?_
         refine xl_Fa ?_
         refine xl_Ld ?_
         refine xl_v v_eql ?_
         refine xl_nil ?_
         first | refine x_condP (fun c7 => ?_) (fun c7 => ?_) | refine x_condN (fun c7 => ?_) (fun c7 => ?_) | refine x_condE (fun c7 => ?_) (fun c7 => ?_)
         ·
          refine x_seq ?_
          refine x_regionL ?_
          refine xl_La ?_
          refine xl_s (e_storeA fun w55 l55 k55 => ?_)
          refine xl_v v_assign ?_
          refine xl_nil ?_
          refine x_ret ?_
          refine finR (rs := [.cell 4 35, .tmp 5]) rfl ?_
          have hS : R.vs[k].v.stuck i = true := by
           have q : (decide (R.vs[k].v.lead = i) || R.vs[k].v.leaves i) = true := by
            first
             | (rw [decide_eq_true c3]; rfl)
             | (rw [hlvt, Bool.or_true])
             | (have q1 : R.vs[k].v.lead = (i : Int) := by simpa using g67
                exact absurd q1 c3)
             | (exfalso; omega)
           rw [View.stuck, q, decide_eq_true (by omega : R.vs[k].v.ver = most)]
           simp
          have hany : R.pure.views.any (View.stuck (i : Int)) = true := List.any_eq_true.2 ⟨_, List.getElem_mem hkP, by rw [hyv]; exact hS⟩
          rw [if_pos hany] at hr
          exact ⟨⟨R, by rw [hr]; rfl, RMade.stay h kpc (by rw [hr])⟩, lkc⟩
         ·
          refine x_skip ?_
          refine x_seq ?_
          refine x_regionL ?_
          refine xl_Fa ?_
          refine xl_Ld ?_
          refine xl_v (v_add (by omega)) ?_
          refine xl_Fa ?_
          refine xl_s (e_store fun w56 l56 k56 => ?_)
          refine xl_nil ?_
          obtain ⟨F2, hR2, hs2, hne2⟩ := hF.2.2.2.2.2.2.2
          obtain ⟨x, hxb, hxv, F3, hfx, hRx, hsx, hnx⟩ : ∃ x : LV, (w56).heap[bw]? = some (.cells (viewC x).toArray 44 (0, 0)) ∧ x.v = R.vs[k].v.fenced i ∧ ∃ F3 : Nat → Prop, FRow w56 F3 x.A (ints x.v.isr) ∧ RefAt w56 F3 R2 ∧ Sub F3 F w ∧ ∀ k, F3 k → k ≠ bo ∧ k ≠ b2 := by
           have hRw := hR2.ext (kpc : Keep NoB w8 w56)
           have hbwB : (w8).heap.size ≤ w.heap.size ∨ w.heap.size ≤ (w8).heap.size := by omega
           have hwB : w.heap.size ≤ (w8).heap.size := Ge.le
           have hFm : ∀ k, (F k ∨ F2 k) → k < (w56).heap.size := fun k e => e.elim (fun e => Nat.lt_of_lt_of_le (h.lt k e) Ge.le) (hRw.lt k)
           have hpw : FRow w56 (fun k => F k ∨ F2 k) R.vs[k].A (ints R.vs[k].v.isr) := ⟨(inferInstance : Row w56 R.vs[k].A (ints R.vs[k].v.isr)).row, fun a ha => .inl (hpx.blk a ha)⟩
           have hsF : Sub (fun k => F k ∨ F2 k) F w := fun k e => e.elim .inl (hs2 k)
           have hnF : ∀ k, (F k ∨ F2 k) → k ≠ bo ∧ k ≠ b2 := fun k e => e.elim (fun e => by have := h.lt k e; omega) (hne2 k)
           first
            | (exfalso; simp at g67; exact absurd g67 c3)
            | (exfalso; simp at g67; exact absurd c3 g67)
            | exact ⟨⟨⟨-1, R.vs[k].v.epoch + 1, R.vs[k].v.ver + 1, l⟩, A5, c5'⟩, Blk.eq, by rw [View.fenced, if_pos (.inl c3), if_pos c3, if_pos c3, if_pos hlvt, hl], fun k => F2 k ∨ OwnB (.slice A5 l.length c5') k, (FRow.of_own (OwnI.own : World.ownsRow w56 _ _ _ (.slice A5 _ c5') _ _)).mono (fun k e => .inr e), hRw.mono (fun k e => .inl e) (fun k e => e.elim (hRw.lt k) (fun e => (own_blk (OwnI.own : World.ownsRow w56 _ _ _ (.slice A5 _ c5') _ _) (ownB_blk.1 e)).2)), fun k e => e.elim (hs2 k) (fun e => .inr (by have := (own_blk hown5 (ownB_blk.1 e)).1; omega)), fun k e => e.elim (hne2 k) (fun e => by have := (own_blk hown5 (ownB_blk.1 e)).1; omega)⟩
            | exact ⟨⟨⟨R.vs[k].v.lead, R.vs[k].v.epoch, R.vs[k].v.ver + 1, l⟩, A5, c5'⟩, Blk.eq, by rw [View.fenced, if_pos (.inr hlvt), if_neg c3, if_neg c3, if_pos hlvt, hl], fun k => F2 k ∨ OwnB (.slice A5 l.length c5') k, (FRow.of_own (OwnI.own : World.ownsRow w56 _ _ _ (.slice A5 _ c5') _ _)).mono (fun k e => .inr e), hRw.mono (fun k e => .inl e) (fun k e => e.elim (hRw.lt k) (fun e => (own_blk (OwnI.own : World.ownsRow w56 _ _ _ (.slice A5 _ c5') _ _) (ownB_blk.1 e)).2)), fun k e => e.elim (hs2 k) (fun e => .inr (by have := (own_blk hown5 (ownB_blk.1 e)).1; omega)), fun k e => e.elim (hne2 k) (fun e => by have := (own_blk hown5 (ownB_blk.1 e)).1; omega)⟩
            | (have hlvf : ¬ (R.vs[k].v.leaves i = true) := by
                rw [View.leaves]
                first
                 | (have q1 : ¬ (i : Int) ∈ R.vs[k].v.isr := by simpa using g44
                    rw [decide_eq_false q1]; simp; done)
                 | (rw [decide_eq_false (by omega : ¬ 1 < R.vs[k].v.isr.length)]; simp; done)
               exact ⟨⟨⟨-1, R.vs[k].v.epoch + 1, R.vs[k].v.ver + 1, R.vs[k].v.isr⟩, R.vs[k].A, R.vs[k].c⟩, Blk.eq, by rw [View.fenced, if_pos (.inl c3), if_pos c3, if_pos c3, if_neg hlvf], fun k => F k ∨ F2 k, hpw, hRw.mono (fun k e => .inr e) hFm, hsF, hnF⟩)
            | (exfalso; omega)
          haveI kxw : Blk w56 bw _ := ⟨hxb⟩
          have hR2l : R2.vs.length = R.vs.length := by
           have := congrArg List.length hF.2.2.2.2.2.1
           simp [LMeta.pure] at this
           omega
          have hns : R.vs[k].v.stuck i = false := by
           rw [View.stuck]
           have q1 : ¬ R.vs[k].v.ver = most := by omega
           rw [decide_eq_false q1, Bool.false_or]
           first
            | (have q2 : ¬ R.vs[k].v.epoch = most := by omega
               rw [decide_eq_false q2]; simp; done)
            | (rw [decide_eq_false c3]; simp; done)
          refine x_regionL ?_
          refine xl_La ?_
          refine xl_v v_move ?_
          refine xl_La ?_
          refine xl_call (refview_ok R2 F3 k x w56 (hRx.ext (kpc : Keep NoB _ w56)) (hfx.keep (kpc : Keep NoB _ w56) (fun _ _ h => h)) (by omega) (by omega)) ?_
          rintro _ w57 ⟨⟨A6, c6', F6, rfl, hR6, hs6⟩, lk7⟩
          have hbop : bo < (w56).heap.size := Has.lt
          have hb2p : b2 < (w56).heap.size := Has.lt
          have hn6 : ∀ k, F6 k → k ≠ bo ∧ k ≠ b2 := fun k e => (hs6 k e).elim (hnx k) (fun e => by omega)
          have hs66 := hs6.trans hsx (Ge.le : w.heap.size ≤ (w56).heap.size)
          refine xl_s (e_storeA fun w58 l58 k58 => ?_)
          have hFin : FenceR bo b2 F w i R.pure (k + 1) w58 { R2 with vs := R2.vs.set k x, VA := A6, vc := c6' } := by
           obtain ⟨q1, q2, q3, q4, q5, q6, q7, _⟩ := hF
           refine ⟨q1, q2, q3, q4, q5, fence_set q6 hkP (by rw [hyv]; exact hxv), ?_, F6, hR6.keep (S := OneB bo) kpc (fun k e e2 => (hn6 k e).1 e2), hs66, hn6⟩
           intro v hv
           rw [take_snoc _ _ hkP] at hv
           rcases List.mem_append.1 hv with hv | hv
           ·exact q7 v hv
           ·rw [List.mem_singleton.1 hv, hyv]; exact hns
          have hboF : (w58).heap[bo]? = some (.cells (metaC { R2 with vs := R2.vs.set k x, VA := A6, vc := c6' }).toArray 35 (0, 0)) := by have := (Blk.eq : (w58).heap[bo]? = _); simpa [metaC] using this
          refine xl_nil ?_
          obtain ⟨R3, hF3, hbo3⟩ : ∃ R3, FenceR bo b2 F w i R.pure (k + 1) w58 R3 ∧ (w58).heap[bo]? = some (.cells (metaC R3).toArray 35 (0, 0)) := by
           first
            | exact ⟨_, hFin, hboF⟩
            | (refine ⟨R2, ?_, Blk.eq⟩
               have q8 : ¬ R.vs[k].v.lead = (i : Int) := by first | (simp at g67; exact g67) | exact c3
               have q9 : ¬ (R.vs[k].v.leaves i = true) := by
                rw [View.leaves]
                first
                 | (have q1 : ¬ (i : Int) ∈ R.vs[k].v.isr := by simpa using g44
                    rw [decide_eq_false q1]; simp; done)
                 | (rw [decide_eq_false (by omega : ¬ 1 < R.vs[k].v.isr.length)]; simp; done)
               obtain ⟨q1, q2, q3, q4, q5, q6, q7, F2, hR2, hs2, hne2⟩ := hF
               refine ⟨q1, q2, q3, q4, q5, fence_keep q6 hkP ?_, ?_, F2, hR2.ext (kpc : Keep NoB w8 w58), hs2, hne2⟩
               ·rw [hyv, View.fenced, if_neg (fun e => e.elim q8 q9)]
               ·intro v hv
                rw [take_snoc _ _ hkP] at hv
                rcases List.mem_append.1 hv with hv | hv
                ·exact q7 v hv
                ·rw [List.mem_singleton.1 hv, hyv, View.stuck, decide_eq_false q8]
                 simp [q9])
          refine x_regionL ?_
          refine xl_v v_move ?_
          refine xl_v (v_add (by omega)) ?_
          refine xl_v v_assign ?_
          refine xl_nil ?_
          refine ⟨_, ?_, rfl, k + 1, R3, rfl, by omega, hF3, hbo3, inferInstance, inferInstance, inferInstance, inferInstance, evc, lkc⟩
          omega
        ·
         refine xl_gv rfl EvO.eq v_move ?_
         refine xl_Pk ?_
         refine xl_nil ?_
         refine x_condF ?_
         refine x_skip ?_
         obtain ⟨R3, hF3, hbo3⟩ : ∃ R3, FenceR bo b2 F w i R.pure (k + 1) w54 R3 ∧ (w54).heap[bo]? = some (.cells (metaC R3).toArray 35 (0, 0)) := by
          first
           | exact ⟨_, hFin, hboF⟩
           | (refine ⟨R2, ?_, Blk.eq⟩
              have q8 : ¬ R.vs[k].v.lead = (i : Int) := by first | (simp at g67; exact g67) | exact c3
              have q9 : ¬ (R.vs[k].v.leaves i = true) := by
               rw [View.leaves]
               first
                | (have q1 : ¬ (i : Int) ∈ R.vs[k].v.isr := by simpa using g44
                   rw [decide_eq_false q1]; simp; done)
                | (rw [decide_eq_false (by omega : ¬ 1 < R.vs[k].v.isr.length)]; simp; done)
              obtain ⟨q1, q2, q3, q4, q5, q6, q7, F2, hR2, hs2, hne2⟩ := hF
              refine ⟨q1, q2, q3, q4, q5, fence_keep q6 hkP ?_, ?_, F2, hR2.ext (kpc : Keep NoB w8 w54), hs2, hne2⟩
              ·rw [hyv, View.fenced, if_neg (fun e => e.elim q8 q9)]
              ·intro v hv
               rw [take_snoc _ _ hkP] at hv
               rcases List.mem_append.1 hv with hv | hv
               ·exact q7 v hv
               ·rw [List.mem_singleton.1 hv, hyv, View.stuck, decide_eq_false q8]
                simp [q9])
         refine x_regionL ?_
         refine xl_v v_move ?_
         refine xl_v (v_add (by omega)) ?_
         refine xl_v v_assign ?_
         refine xl_nil ?_
         refine ⟨_, ?_, rfl, k + 1, R3, rfl, by omega, hF3, hbo3, inferInstance, inferInstance, inferInstance, inferInstance, evc, lkc⟩
         omega
      ·
       refine x_skip ?_
       refine x_seq ?_
       refine x_seq ?_
       refine x_regionL ?_
       refine xl_v v_move ?_
       refine xl_nil ?_
       refine x_condF ?_
       refine x_skip ?_
       refine x_seq ?_
       have hlvd : R.vs[k].v.leaves i = true ∨ R.vs[k].v.leaves i = false := by cases R.vs[k].v.leaves i <;> simp
       refine x_regionL ?_
       refine xl_v v_move ?_
       refine xl_v v_move ?_
       refine xl_split 67 (fun g67 => ?_) (fun g67 => ?_)
       ·
        refine xl_gs rfl EvO.eq ?_
        refine xl_Pk ?_
        refine xl_nil ?_
        refine x_condT ?_
        refine x_seq ?_
        refine x_seq ?_
        refine x_regionL ?_
        refine xl_Fa ?_
        refine xl_Ld ?_
        refine xl_v v_eql ?_
        refine xl_nil ?_
        first | refine x_condP (fun c7 => ?_) (fun c7 => ?_) | refine x_condN (fun c7 => ?_) (fun c7 => ?_) | refine x_condE (fun c7 => ?_) (fun c7 => ?_)
        ·
         refine x_seq ?_
         refine x_regionL ?_
         refine xl_La ?_
         refine xl_s (e_storeA fun w59 l59 k59 => ?_)
         refine xl_v v_assign ?_
         refine xl_nil ?_
         refine x_ret ?_
         refine finR (rs := [.cell 4 35, .tmp 5]) rfl ?_
         have hS : R.vs[k].v.stuck i = true := by
          have q : (decide (R.vs[k].v.lead = i) || R.vs[k].v.leaves i) = true := by
           first
            | (rw [decide_eq_true c3]; rfl)
            | (rw [hlvt, Bool.or_true])
            | (have q1 : R.vs[k].v.lead = (i : Int) := by simpa using g67
               exact absurd q1 c3)
            | (exfalso; omega)
          rw [View.stuck, q, decide_eq_true (by omega : R.vs[k].v.ver = most)]
          simp
         have hany : R.pure.views.any (View.stuck (i : Int)) = true := List.any_eq_true.2 ⟨_, List.getElem_mem hkP, by rw [hyv]; exact hS⟩
         rw [if_pos hany] at hr
         exact ⟨⟨R, by rw [hr]; rfl, RMade.stay h kpc (by rw [hr])⟩, lkc⟩
        ·
         refine x_skip ?_
         refine x_seq ?_
         refine x_regionL ?_
         refine xl_Fa ?_
         refine xl_Ld ?_
         refine xl_v (v_add (by omega)) ?_
         refine xl_Fa ?_
         refine xl_s (e_store fun w60 l60 k60 => ?_)
         refine xl_nil ?_
         obtain ⟨F2, hR2, hs2, hne2⟩ := hF.2.2.2.2.2.2.2
         obtain ⟨x, hxb, hxv, F3, hfx, hRx, hsx, hnx⟩ : ∃ x : LV, (w60).heap[bw]? = some (.cells (viewC x).toArray 44 (0, 0)) ∧ x.v = R.vs[k].v.fenced i ∧ ∃ F3 : Nat → Prop, FRow w60 F3 x.A (ints x.v.isr) ∧ RefAt w60 F3 R2 ∧ Sub F3 F w ∧ ∀ k, F3 k → k ≠ bo ∧ k ≠ b2 := by
          have hRw := hR2.ext (kpc : Keep NoB w8 w60)
          have hbwB : (w8).heap.size ≤ w.heap.size ∨ w.heap.size ≤ (w8).heap.size := by omega
          have hwB : w.heap.size ≤ (w8).heap.size := Ge.le
          have hFm : ∀ k, (F k ∨ F2 k) → k < (w60).heap.size := fun k e => e.elim (fun e => Nat.lt_of_lt_of_le (h.lt k e) Ge.le) (hRw.lt k)
          have hpw : FRow w60 (fun k => F k ∨ F2 k) R.vs[k].A (ints R.vs[k].v.isr) := ⟨(inferInstance : Row w60 R.vs[k].A (ints R.vs[k].v.isr)).row, fun a ha => .inl (hpx.blk a ha)⟩
          have hsF : Sub (fun k => F k ∨ F2 k) F w := fun k e => e.elim .inl (hs2 k)
          have hnF : ∀ k, (F k ∨ F2 k) → k ≠ bo ∧ k ≠ b2 := fun k e => e.elim (fun e => by have := h.lt k e; omega) (hne2 k)
          first
           | (exfalso; simp at g67; exact absurd g67 c3)
           | (exfalso; simp at g67; exact absurd c3 g67)
           | exact ⟨⟨⟨-1, R.vs[k].v.epoch + 1, R.vs[k].v.ver + 1, l⟩, A5, c5'⟩, Blk.eq, by rw [View.fenced, if_pos (.inl c3), if_pos c3, if_pos c3, if_pos hlvt, hl], fun k => F2 k ∨ OwnB (.slice A5 l.length c5') k, (FRow.of_own (OwnI.own : World.ownsRow w60 _ _ _ (.slice A5 _ c5') _ _)).mono (fun k e => .inr e), hRw.mono (fun k e => .inl e) (fun k e => e.elim (hRw.lt k) (fun e => (own_blk (OwnI.own : World.ownsRow w60 _ _ _ (.slice A5 _ c5') _ _) (ownB_blk.1 e)).2)), fun k e => e.elim (hs2 k) (fun e => .inr (by have := (own_blk hown5 (ownB_blk.1 e)).1; omega)), fun k e => e.elim (hne2 k) (fun e => by have := (own_blk hown5 (ownB_blk.1 e)).1; omega)⟩
           | exact ⟨⟨⟨R.vs[k].v.lead, R.vs[k].v.epoch, R.vs[k].v.ver + 1, l⟩, A5, c5'⟩, Blk.eq, by rw [View.fenced, if_pos (.inr hlvt), if_neg c3, if_neg c3, if_pos hlvt, hl], fun k => F2 k ∨ OwnB (.slice A5 l.length c5') k, (FRow.of_own (OwnI.own : World.ownsRow w60 _ _ _ (.slice A5 _ c5') _ _)).mono (fun k e => .inr e), hRw.mono (fun k e => .inl e) (fun k e => e.elim (hRw.lt k) (fun e => (own_blk (OwnI.own : World.ownsRow w60 _ _ _ (.slice A5 _ c5') _ _) (ownB_blk.1 e)).2)), fun k e => e.elim (hs2 k) (fun e => .inr (by have := (own_blk hown5 (ownB_blk.1 e)).1; omega)), fun k e => e.elim (hne2 k) (fun e => by have := (own_blk hown5 (ownB_blk.1 e)).1; omega)⟩
           | (have hlvf : ¬ (R.vs[k].v.leaves i = true) := by
               rw [View.leaves]
               first
                | (have q1 : ¬ (i : Int) ∈ R.vs[k].v.isr := by simpa using g44
                   rw [decide_eq_false q1]; simp; done)
                | (rw [decide_eq_false (by omega : ¬ 1 < R.vs[k].v.isr.length)]; simp; done)
              exact ⟨⟨⟨-1, R.vs[k].v.epoch + 1, R.vs[k].v.ver + 1, R.vs[k].v.isr⟩, R.vs[k].A, R.vs[k].c⟩, Blk.eq, by rw [View.fenced, if_pos (.inl c3), if_pos c3, if_pos c3, if_neg hlvf], fun k => F k ∨ F2 k, hpw, hRw.mono (fun k e => .inr e) hFm, hsF, hnF⟩)
           | (exfalso; omega)
         haveI kxw : Blk w60 bw _ := ⟨hxb⟩
         have hR2l : R2.vs.length = R.vs.length := by
          have := congrArg List.length hF.2.2.2.2.2.1
          simp [LMeta.pure] at this
          omega
         have hns : R.vs[k].v.stuck i = false := by
          rw [View.stuck]
          have q1 : ¬ R.vs[k].v.ver = most := by omega
          rw [decide_eq_false q1, Bool.false_or]
          first
           | (have q2 : ¬ R.vs[k].v.epoch = most := by omega
              rw [decide_eq_false q2]; simp; done)
           | (rw [decide_eq_false c3]; simp; done)
         refine x_regionL ?_
         refine xl_La ?_
         refine xl_v v_move ?_
         refine xl_La ?_
         refine xl_call (refview_ok R2 F3 k x w60 (hRx.ext (kpc : Keep NoB _ w60)) (hfx.keep (kpc : Keep NoB _ w60) (fun _ _ h => h)) (by omega) (by omega)) ?_
         rintro _ w61 ⟨⟨A6, c6', F6, rfl, hR6, hs6⟩, lk7⟩
         have hbop : bo < (w60).heap.size := Has.lt
         have hb2p : b2 < (w60).heap.size := Has.lt
         have hn6 : ∀ k, F6 k → k ≠ bo ∧ k ≠ b2 := fun k e => (hs6 k e).elim (hnx k) (fun e => by omega)
         have hs66 := hs6.trans hsx (Ge.le : w.heap.size ≤ (w60).heap.size)
         refine xl_s (e_storeA fun w62 l62 k62 => ?_)
         have hFin : FenceR bo b2 F w i R.pure (k + 1) w62 { R2 with vs := R2.vs.set k x, VA := A6, vc := c6' } := by
          obtain ⟨q1, q2, q3, q4, q5, q6, q7, _⟩ := hF
          refine ⟨q1, q2, q3, q4, q5, fence_set q6 hkP (by rw [hyv]; exact hxv), ?_, F6, hR6.keep (S := OneB bo) kpc (fun k e e2 => (hn6 k e).1 e2), hs66, hn6⟩
          intro v hv
          rw [take_snoc _ _ hkP] at hv
          rcases List.mem_append.1 hv with hv | hv
          ·exact q7 v hv
          ·rw [List.mem_singleton.1 hv, hyv]; exact hns
         have hboF : (w62).heap[bo]? = some (.cells (metaC { R2 with vs := R2.vs.set k x, VA := A6, vc := c6' }).toArray 35 (0, 0)) := by have := (Blk.eq : (w62).heap[bo]? = _); simpa [metaC] using this
         refine xl_nil ?_
         obtain ⟨R3, hF3, hbo3⟩ : ∃ R3, FenceR bo b2 F w i R.pure (k + 1) w62 R3 ∧ (w62).heap[bo]? = some (.cells (metaC R3).toArray 35 (0, 0)) := by
          first
           | exact ⟨_, hFin, hboF⟩
           | (refine ⟨R2, ?_, Blk.eq⟩
              have q8 : ¬ R.vs[k].v.lead = (i : Int) := by first | (simp at g67; exact g67) | exact c3
              have q9 : ¬ (R.vs[k].v.leaves i = true) := by
               rw [View.leaves]
               first
                | (have q1 : ¬ (i : Int) ∈ R.vs[k].v.isr := by simpa using g44
                   rw [decide_eq_false q1]; simp; done)
                | (rw [decide_eq_false (by omega : ¬ 1 < R.vs[k].v.isr.length)]; simp; done)
              obtain ⟨q1, q2, q3, q4, q5, q6, q7, F2, hR2, hs2, hne2⟩ := hF
              refine ⟨q1, q2, q3, q4, q5, fence_keep q6 hkP ?_, ?_, F2, hR2.ext (kpc : Keep NoB w8 w62), hs2, hne2⟩
              ·rw [hyv, View.fenced, if_neg (fun e => e.elim q8 q9)]
              ·intro v hv
               rw [take_snoc _ _ hkP] at hv
               rcases List.mem_append.1 hv with hv | hv
               ·exact q7 v hv
               ·rw [List.mem_singleton.1 hv, hyv, View.stuck, decide_eq_false q8]
                simp [q9])
         refine x_regionL ?_
         refine xl_v v_move ?_
         refine xl_v (v_add (by omega)) ?_
         refine xl_v v_assign ?_
         refine xl_nil ?_
         refine ⟨_, ?_, rfl, k + 1, R3, rfl, by omega, hF3, hbo3, inferInstance, inferInstance, inferInstance, inferInstance, evc, lkc⟩
         omega
       ·
        refine xl_gv rfl EvO.eq v_move ?_
        refine xl_Pk ?_
        refine xl_nil ?_
        refine x_condF ?_
        refine x_skip ?_
        obtain ⟨R3, hF3, hbo3⟩ : ∃ R3, FenceR bo b2 F w i R.pure (k + 1) w12 R3 ∧ (w12).heap[bo]? = some (.cells (metaC R3).toArray 35 (0, 0)) := by
         first
          | exact ⟨_, hFin, hboF⟩
          | (refine ⟨R2, ?_, Blk.eq⟩
             have q8 : ¬ R.vs[k].v.lead = (i : Int) := by first | (simp at g67; exact g67) | exact c3
             have q9 : ¬ (R.vs[k].v.leaves i = true) := by
              rw [View.leaves]
              first
               | (have q1 : ¬ (i : Int) ∈ R.vs[k].v.isr := by simpa using g44
                  rw [decide_eq_false q1]; simp; done)
               | (rw [decide_eq_false (by omega : ¬ 1 < R.vs[k].v.isr.length)]; simp; done)
             obtain ⟨q1, q2, q3, q4, q5, q6, q7, F2, hR2, hs2, hne2⟩ := hF
             refine ⟨q1, q2, q3, q4, q5, fence_keep q6 hkP ?_, ?_, F2, hR2.ext (kpc : Keep NoB w8 w12), hs2, hne2⟩
             ·rw [hyv, View.fenced, if_neg (fun e => e.elim q8 q9)]
             ·intro v hv
              rw [take_snoc _ _ hkP] at hv
              rcases List.mem_append.1 hv with hv | hv
              ·exact q7 v hv
              ·rw [List.mem_singleton.1 hv, hyv, View.stuck, decide_eq_false q8]
               simp [q9])
        refine x_regionL ?_
        refine xl_v v_move ?_
        refine xl_v (v_add (by omega)) ?_
        refine xl_v v_assign ?_
        refine xl_nil ?_
        refine ⟨_, ?_, rfl, k + 1, R3, rfl, by omega, hF3, hbo3, inferInstance, inferInstance, inferInstance, inferInstance, evc, lkc⟩
        omega
    ·
     refine x_exit ?_
     refine x_seq ?_
     have hkn : k = R.vs.length := by omega
     obtain ⟨q1, q2, q3, q4, q5, q6, q7, F2, hR2, hs2, hne2⟩ := hF
     rw [List.take_of_length_le (by omega)] at q6 q7
     rw [List.drop_of_length_le (by omega), List.append_nil] at q6
     have hany : ¬ (R.pure.views.any (View.stuck (i : Int)) = true) := by
      rw [List.any_eq_true]
      rintro ⟨v, hv, e⟩
      rw [q7 v hv] at e
      cases e
     rw [if_neg hany] at hr
     refine x_regionL ?_
     refine xl_La ?_
     refine xl_s (e_storeA fun w63 l63 k63 => ?_)
     refine xl_v v_assign ?_
     refine xl_nil ?_
     refine x_ret ?_
     refine finR (rs := [.cell 4 35, .tmp 5]) rfl ?_
     refine ⟨⟨R2, by rw [hr]; rfl, ?_, F2, hR2.keep (S := OneB b2) kpc (fun k e e2 => (hne2 k e).2 e2), hs2⟩, lkc⟩
     rw [hr]
     show LMeta.pure R2 = _
     unfold LMeta.pure
     rw [q1, q2, q3, q4, q5, q6]
     rfl
end Go.Proofs.Ytnjpladlfiaojaa
