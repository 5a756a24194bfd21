/-
 Walks, printed by a program of this workplace (wip/tools/sx.py) off the functions' code and a text of contracts.
-/
import Derived.Test.YtnjpladlfiaojaaU
set_option linter.all false
set_option maxRecDepth 100000
set_option synthInstance.maxSize 100000
set_option synthInstance.maxHeartbeats 400000
namespace Go.Proofs.Ytnjpladlfiaojaa
open Go.Wst
open Go.Wst.Ct
theorem withP_step (n : Nat) (l : List Int) (p : Int) (k : Nat) : ((upTo (k + 1)).filter (fun x => decide (x = p) || decide (x ∈ l))) = ((upTo k).filter (fun x => decide (x = p) || decide (x ∈ l))) ++ (if (k : Int) = p ∨ (k : Int) ∈ l then [(k : Int)] else []) := by
 rw [upTo_succ, List.filter_append]
 congr 1
 by_cases h : (k : Int) = p ∨ (k : Int) ∈ l
 ·rw [if_pos h]
  rcases h with h | h <;> simp [h]
 ·rw [if_neg h]
  have h1 : ¬ (k : Int) = p := fun e => h (.inl e)
  have h2 : ¬ (k : Int) ∈ l := fun e => h (.inr e)
  simp [h1, h2]
set_option maxHeartbeats 1000000 in
/-- (waystation/waystationref10.Meta).Add -/
theorem refadd_ok (R : LMeta) (F : Nat → Prop) (b ses p : Int) (w : World) (h : RefAt w F R) (hok : R.pure.ok) : Ret Try.prog 43 #[.agg (metaC R).toArray, .int .i64 b, .int .i64 ses, .int .i64 p] w (fun v w' => (∃ R', v = .tuple #[.agg (metaC R').toArray, .int .i64 (R.pure.add b ses p).2.1, .int .i64 (R.pure.add b ses p).2.2] ∧ RMade F w (R.pure.add b ses p).1 w' R') ∧ Lk w' w NoB) := by
 obtain ⟨hll, hvl, hwl, hnb, hnp, hni⟩ := lens hok
 have hmost : most = 2147483647 := rfl
 haveI hrb : RowB w R.WA w (R.ws.flatMap wrC) := rowB_of h.wrs.row
 refine ret_of_x (N := 90) (l := [.agg (metaC R).toArray, .int .i64 b, .int .i64 ses, .int .i64 p]) Try.func43 rfl rfl (Nat.le_of_ble_eq_true rfl) ?_
 refine x_seq ?_
 refine x_regionL ?_
 refine xl_e (e_box fun b1 w1 n1 l1 k1 => ?_)
 refine xl_e (e_alloc fun b2 w2 n2 l2 k2 => ?_)
 refine xl_v v_assign ?_
 refine xl_v v_assign ?_
 refine xl_nil ?_
 refine x_seq ?_
 refine x_seq ?_
 refine x_regionL ?_
 refine xl_v v_move ?_
 refine xl_v v_lss ?_
 refine xl_v v_move ?_
 refine xl_split 16 (fun g16 => ?_) (fun g16 => ?_)
 ·
  refine xl_gs rfl EvO.eq ?_
  refine xl_gs rfl EvO.eq ?_
  refine xl_gs rfl EvO.eq ?_
  refine xl_gs rfl EvO.eq ?_
  refine xl_gs rfl EvO.eq ?_
  refine xl_Pk ?_
  refine xl_v v_move ?_
  refine xl_gs rfl EvO.eq ?_
  refine xl_gs rfl EvO.eq ?_
  refine xl_Pk ?_
  refine xl_v v_move ?_
  refine xl_gs rfl EvO.eq ?_
  refine xl_gs rfl EvO.eq ?_
  refine xl_gs rfl EvO.eq ?_
  refine xl_gs rfl EvO.eq ?_
  refine xl_gs rfl EvO.eq ?_
  refine xl_Pk ?_
  refine xl_nil ?_
  refine x_condT ?_
  refine x_seq ?_
  refine x_regionL ?_
  refine xl_La ?_
  refine xl_s (e_storeA fun w3 l3 k3 => ?_)
  refine xl_v v_assign ?_
  refine xl_v v_assign ?_
  refine xl_nil ?_
  refine x_ret ?_
  refine finR (rs := [.cell 8 35, .tmp 9, .tmp 10]) rfl ?_
  have hn : ¬ inN b R.ni ∨ ¬ inN p R.np := by
   unfold inN
   first
    | (simp at g16; omega)
    | (simp at g23; omega)
    | (simp at g27; omega)
    | (simp at c1; omega)
  have hr : R.pure.add b ses p = (R.pure, 0, 2) := if_pos hn
  exact ⟨⟨R, by rw [hr]; rfl, RMade.stay h kpc (by rw [hr])⟩, lkc⟩
 ·
  refine xl_gv rfl EvO.eq v_move ?_
  refine xl_gFa rfl EvO.eq ?_
  refine xl_gFa rfl EvO.eq ?_
  refine xl_gLd rfl EvO.eq ?_
  refine xl_gv rfl EvO.eq v_geq ?_
  refine xl_Pk ?_
  refine xl_v v_move ?_
  refine xl_split 23 (fun g23 => ?_) (fun g23 => ?_)
  ·
   refine xl_gs rfl EvO.eq ?_
   refine xl_gs rfl EvO.eq ?_
   refine xl_Pk ?_
   refine xl_v v_move ?_
   refine xl_gs rfl EvO.eq ?_
   refine xl_gs rfl EvO.eq ?_
   refine xl_gs rfl EvO.eq ?_
   refine xl_gs rfl EvO.eq ?_
   refine xl_gs rfl EvO.eq ?_
   refine xl_Pk ?_
   refine xl_nil ?_
   refine x_condT ?_
   refine x_seq ?_
   refine x_regionL ?_
   refine xl_La ?_
   refine xl_s (e_storeA fun w4 l4 k4 => ?_)
   refine xl_v v_assign ?_
   refine xl_v v_assign ?_
   refine xl_nil ?_
   refine x_ret ?_
   refine finR (rs := [.cell 8 35, .tmp 9, .tmp 10]) rfl ?_
   have hn : ¬ inN b R.ni ∨ ¬ inN p R.np := by
    unfold inN
    first
     | (simp at g16; omega)
     | (simp at g23; omega)
     | (simp at g27; omega)
     | (simp at c1; omega)
   have hr : R.pure.add b ses p = (R.pure, 0, 2) := if_pos hn
   exact ⟨⟨R, by rw [hr]; rfl, RMade.stay h kpc (by rw [hr])⟩, lkc⟩
  ·
   refine xl_gv rfl EvO.eq v_move ?_
   refine xl_gv rfl EvO.eq v_lss ?_
   refine xl_Pk ?_
   refine xl_v v_move ?_
   refine xl_split 27 (fun g27 => ?_) (fun g27 => ?_)
   ·
    refine xl_gs rfl EvO.eq ?_
    refine xl_gs rfl EvO.eq ?_
    refine xl_gs rfl EvO.eq ?_
    refine xl_gs rfl EvO.eq ?_
    refine xl_gs rfl EvO.eq ?_
    refine xl_Pk ?_
    refine xl_nil ?_
    refine x_condT ?_
    refine x_seq ?_
    refine x_regionL ?_
    refine xl_La ?_
    refine xl_s (e_storeA fun w5 l5 k5 => ?_)
    refine xl_v v_assign ?_
    refine xl_v v_assign ?_
    refine xl_nil ?_
    refine x_ret ?_
    refine finR (rs := [.cell 8 35, .tmp 9, .tmp 10]) rfl ?_
    have hn : ¬ inN b R.ni ∨ ¬ inN p R.np := by
     unfold inN
     first
      | (simp at g16; omega)
      | (simp at g23; omega)
      | (simp at g27; omega)
      | (simp at c1; omega)
    have hr : R.pure.add b ses p = (R.pure, 0, 2) := if_pos hn
    exact ⟨⟨R, by rw [hr]; rfl, RMade.stay h kpc (by rw [hr])⟩, lkc⟩
   ·
    refine xl_gv rfl EvO.eq v_move ?_
    refine xl_gFa rfl EvO.eq ?_
    refine xl_gFa rfl EvO.eq ?_
    refine xl_gLd rfl EvO.eq ?_
    refine xl_gv rfl EvO.eq v_geq ?_
    refine xl_Pk ?_
    refine xl_nil ?_
    refine x_condE (fun c1 => ?_) (fun c1 => ?_)
    ·
     refine x_seq ?_
     refine x_regionL ?_
     refine xl_La ?_
     refine xl_s (e_storeA fun w6 l6 k6 => ?_)
     refine xl_v v_assign ?_
     refine xl_v v_assign ?_
     refine xl_nil ?_
     refine x_ret ?_
     refine finR (rs := [.cell 8 35, .tmp 9, .tmp 10]) rfl ?_
     have hn : ¬ inN b R.ni ∨ ¬ inN p R.np := by
      unfold inN
      first
       | (simp at g16; omega)
       | (simp at g23; omega)
       | (simp at g27; omega)
       | (simp at c1; omega)
     have hr : R.pure.add b ses p = (R.pure, 0, 2) := if_pos hn
     exact ⟨⟨R, by rw [hr]; rfl, RMade.stay h kpc (by rw [hr])⟩, lkc⟩
    ·
     have hnn : inN b R.ni ∧ inN p R.np := by
      simp at g16 g23 g27 c1
      exact ⟨⟨by omega, by omega⟩, by omega, by omega⟩
     obtain ⟨hn, hnpp⟩ := hnn
     have hr : R.pure.add b ses p = _ := if_neg (fun e => e.elim (fun e => e hn) (fun e => e hnpp))
     obtain ⟨i, rfl, hi⟩ := nat_of hn
     have hi : i < R.ws.length := by omega
     have ho := hok.wr hn
     rw [wr_at hi] at hr ho
     have hst := ho.st
     have hn0 := ho.n0
     have hn1 := ho.n1
     have hpx := h.parts R.ws[i] (List.getElem_mem hi)
     haveI rpx : RowB w R.ws[i].A w (ints R.ws[i].w.parts) := rowB_of hpx.row
     have hrise : Rises R.np R.ws[i].w.parts := ho.rise
     have hpl2 := rises_len hrise
     refine x_skip ?_
     refine x_seq ?_
     refine x_regionL ?_
     refine xl_Fa ?_
     refine xl_Ld ?_
     refine xl_v v_move ?_
     refine xl_v (v_indexF i (by decide) rfl (by omega) hi) ?_
     refine xl_v (v_loadF (k := i) (by decide) hi) ?_
     refine xl_e (e_alloc fun bw w7 nw lw kw => ?_)
     refine xl_s (e_storeA fun w8 l8 k8 => ?_)
     refine xl_nil ?_
     refine x_seq ?_
     refine x_seq ?_
     refine x_regionL ?_
     refine xl_Fa ?_
     refine xl_Ld ?_
     refine xl_v v_move ?_
     refine xl_v v_neq ?_
     refine xl_nil ?_
     first | refine x_condP (fun c2 => ?_) (fun c2 => ?_) | refine x_condN (fun c2 => ?_) (fun c2 => ?_) | refine x_condE (fun c2 => ?_) (fun c2 => ?_)
     ·
      rw [if_pos c2] at hr
      refine x_seq ?_
      refine x_regionL ?_
      refine xl_La ?_
      refine xl_s (e_storeA fun w9 l9 k9 => ?_)
      refine xl_v v_assign ?_
      refine xl_v v_assign ?_
      refine xl_nil ?_
      refine x_ret ?_
      refine finR (rs := [.cell 8 35, .tmp 9, .tmp 10]) rfl ?_
      exact ⟨⟨R, by rw [hr]; rfl, RMade.stay h kpc (by rw [hr])⟩, lkc⟩
     ·
      rw [if_neg (fun e => e c2)] at hr
      refine x_skip ?_
      refine x_seq ?_
      refine x_seq ?_
      refine x_regionL ?_
      refine xl_Fa ?_
      refine xl_Ld ?_
      refine xl_v v_geq ?_
      refine xl_nil ?_
      first | refine x_condP (fun c3 => ?_) (fun c3 => ?_) | refine x_condN (fun c3 => ?_) (fun c3 => ?_) | refine x_condE (fun c3 => ?_) (fun c3 => ?_)
      ·
       rw [if_pos c3] at hr
       refine x_seq ?_
       refine x_regionL ?_
       refine xl_La ?_
       refine xl_s (e_storeA fun w10 l10 k10 => ?_)
       refine xl_v v_assign ?_
       refine xl_v v_assign ?_
       refine xl_nil ?_
       refine x_ret ?_
       refine finR (rs := [.cell 8 35, .tmp 9, .tmp 10]) rfl ?_
       exact ⟨⟨R, by rw [hr]; rfl, RMade.stay h kpc (by rw [hr])⟩, lkc⟩
      ·
       rw [if_neg c3] at hr
       refine x_skip ?_
       refine x_seq ?_
       refine x_seq ?_
       refine x_regionL ?_
       refine xl_Fa ?_
       refine xl_Ld ?_
       refine xl_v v_eql ?_
       refine xl_nil ?_
       first | refine x_condP (fun c4 => ?_) (fun c4 => ?_) | refine x_condN (fun c4 => ?_) (fun c4 => ?_) | refine x_condE (fun c4 => ?_) (fun c4 => ?_)
       ·
        rw [if_pos c4] at hr
        refine x_seq ?_
        refine x_seq ?_
        refine x_regionL ?_
        refine xl_Fa ?_
        refine xl_Ld ?_
        refine xl_v v_eql ?_
        refine xl_nil ?_
        first | refine x_condP (fun c5 => ?_) (fun c5 => ?_) | refine x_condN (fun c5 => ?_) (fun c5 => ?_) | refine x_condE (fun c5 => ?_) (fun c5 => ?_)
        ·
         rw [if_pos c5] at hr
         refine x_seq ?_
         refine x_regionL ?_
         refine xl_La ?_
         refine xl_s (e_storeA fun w11 l11 k11 => ?_)
         refine xl_v v_assign ?_
         refine xl_v v_assign ?_
         refine xl_nil ?_
         refine x_ret ?_
         refine finR (rs := [.cell 8 35, .tmp 9, .tmp 10]) rfl ?_
         exact ⟨⟨R, by rw [hr]; rfl, RMade.stay h kpc (by rw [hr])⟩, lkc⟩
        ·
         rw [if_neg c5] at hr
         refine x_skip ?_
         refine x_regionL ?_
         refine xl_Fa ?_
         refine xl_Ld ?_
         refine xl_v (v_add (by omega)) ?_
         refine xl_Fa ?_
         refine xl_s (e_store fun w12 l12 k12 => ?_)
         refine xl_Fa ?_
         refine xl_s (e_store fun w13 l13 k13 => ?_)
         refine xl_Fa ?_
         refine xl_s (e_store fun w14 l14 k14 => ?_)
         obtain ⟨x, hx⟩ : ∃ x : LW, x = ⟨⟨R.ws[i].w.ses, R.ws[i].w.num + 1, 2, [], R.ws[i].w.off, R.ws[i].w.nxt⟩, none, 0⟩ := ⟨_, rfl⟩
         have hxb : (w14).heap[bw]? = some (.cells (wrC x).toArray 52 (0, 0)) := by rw [hx]; exact Blk.eq
         have hrx : R.pure.add (i : Int) ses p = (R.pure.setW i { x.w with parts := withP R.np x.w.parts p }, x.w.num, 0) := by rw [hr, hx]; rfl
         haveI rx : Row w x.A (ints x.w.parts) := ⟨by rw [hx]; intro j v h; simp [ints] at h⟩
         have hxl : x.w.parts.length ≤ 4 := by rw [hx]; simp
         refine xl_nil ?_
         refine x_seq ?_
         refine x_regionL ?_
         refine xl_v v_assign ?_
         refine xl_nil ?_
         refine x_seq ?_
         refine x_seq ?_
         refine x_regionL ?_
         refine xl_v v_assign ?_
         refine xl_nil ?_
         refine x_block ?_
         haveI rxB : RowB w x.A w (ints x.w.parts) := rowB_of rx.row
         have hbww : w.heap.size ≤ bw := by rw [nw.eq]; exact Ge.le
         have hb2w : w.heap.size ≤ b2 := by rw [n2.eq]; exact Ge.le
         have hb2l : (w14).heap[b2]? = _ := Blk.eq
         have hb1l : (w14).heap[b1]? = _ := Blk.eq
         haveI : NeB b2 bw := inferInstance
         have hb12 : b2 ≠ bw := NeB.ne
         have hbwW : bw < (w14).heap.size := Has.lt
         obtain ⟨wL, hwL⟩ : ∃ x, x = w14 := ⟨_, rfl⟩
         have hbwL : bw < wL.heap.size := by rw [hwL]; exact Has.lt
         have hb2L : b2 < wL.heap.size := by rw [hwL]; exact Has.lt
         have hwwL : Keep NoB w wL := by rw [hwL]; exact kpc
         rw [← hwL] at hxb hb2l hb1l
         haveI lkLw : Lk wL w NoB := ⟨hwwL⟩
         haveI kb2 : Blk wL b2 _ := ⟨hb2l⟩
         haveI kb1 : Blk wL b1 _ := ⟨hb1l⟩
         haveI kbw : Blk wL bw _ := ⟨hxb⟩
         haveI rL : Row wL x.A (ints x.w.parts) := ⟨rx.row.keep hwwL (fun _ _ h => h)⟩
         refine x_loop (fun m τ ds w' => ds = [] ∧ ∃ (k : Nat) (B : Option Addr) (d q : Nat), m = R.np - k ∧ k ≤ R.np ∧ q = ((upTo k).filter (fun y => decide (y = p) || decide (y ∈ x.w.parts))).length ∧ q ≤ k ∧ OwnI w' B q d wL.heap.size 3 1 q (ints ((upTo k).filter (fun y => decide (y = p) || decide (y ∈ x.w.parts)))) ∧ NewA B wL ∧ Ev τ 1 (.int .i64 (i : Int)) ∧ Ev τ 3 (.int .i64 p) ∧ Ev τ 4 (.pointer (some ⟨b1, 0, none⟩)) ∧ Ev τ 8 (.pointer (some ⟨b2, 0, none⟩)) ∧ Ev τ 11 (.pointer (some ⟨bw, 0, none⟩)) ∧ Ev τ 12 (.slice B q d) ∧ Ev τ 13 (.int .i64 (k : Int)) ∧ Lk w' wL NoB) (R.np) ?start ?round
         case start =>
          exact ⟨rfl, 0, none, 0, 0, rfl, Nat.zero_le _, rfl, Nat.le_refl _, ⟨World.ownsRow_nil _ _ _ _⟩, newA_none _, inferInstance, inferInstance, inferInstance, inferInstance, inferInstance, inferInstance, evc, by rw [hwL]; exact lkc⟩
         case round =>
          intro m τ15 ds15 w15 hI
          obtain ⟨rfl, k, B, d, q, rfl, hk, hq, hqk, oB, nB, e1, e3, e4, e8, e11, e12, e13, lk⟩ := hI
          refine x_seq ?_
          refine x_seq ?_
          refine x_regionL ?_
          refine xl_v v_move ?_
          refine xl_Fa ?_
          refine xl_Fa ?_
          refine xl_Ld ?_
          refine xl_v v_lss ?_
          refine xl_nil ?_
          first | refine x_condP (fun c6 => ?_) (fun c6 => ?_) | refine x_condN (fun c6 => ?_) (fun c6 => ?_) | refine x_condE (fun c6 => ?_) (fun c6 => ?_)
          ·
           refine x_skip ?_
           refine x_seq ?_
           refine x_block ?_
           refine x_seq ?_
           refine x_regionL ?_
           refine xl_v v_move ?_
           refine xl_v v_move ?_
           refine xl_v v_eql ?_
           refine xl_v v_move ?_
           refine xl_split 72 (fun g72 => ?_) (fun g72 => ?_)
           ·
            refine xl_gs rfl EvO.eq ?_
            refine xl_gs rfl EvO.eq ?_
            refine xl_gs rfl EvO.eq ?_
            refine xl_gs rfl EvO.eq ?_
            refine xl_Pk ?_
            refine xl_nil ?_
            refine x_condT ?_
            refine x_regionL ?_
            refine xl_v v_move ?_
            refine xl_v v_move ?_
            refine xl_e (e_buildSlice1 rfl fun b9 w16 n9 l9 k9 => ?_)
            refine xl_e (e_app (by omega) (by decide) (by omega) (by omega) (by first | exact Ge.le | omega) fun B2 d2 w17 o9 l10 nB2 f9 => ?_)
            refine xl_v v_assign ?_
            obtain ⟨q2, hq2e⟩ : ∃ q2, q2 = q + 1 := ⟨_, rfl⟩
            have hyes : (k : Int) = p ∨ (k : Int) ∈ x.w.parts := by
             first
              | (simp at g72; exact .inl g72)
              | (simp at c7; exact .inr c7)
            have hE := withP_step R.np x.w.parts p k
            rw [if_pos hyes] at hE
            have hq2 : q2 = ((upTo (k + 1)).filter (fun y => decide (y = p) || decide (y ∈ x.w.parts))).length := by rw [hE, hq2e, hq]; simp
            have ho2 : (w17).ownsRow wL.heap.size 3 1 (.slice B2 q2 d2) q2 (ints ((upTo (k + 1)).filter (fun y => decide (y = p) || decide (y ∈ x.w.parts)))) := by rw [hE, hq2e, ints_append]; exact o9.own
            rw [← hq2e]
            refine xl_nil ?_
            refine x_regionL ?_
            refine xl_v v_move ?_
            refine xl_v (v_add (by omega)) ?_
            refine xl_v v_assign ?_
            refine xl_nil ?_
            refine ⟨_, ?_, rfl, k + 1, B2, d2, q2, rfl, by omega, hq2, by omega, ⟨ho2⟩, nB2, inferInstance, inferInstance, inferInstance, inferInstance, inferInstance, inferInstance, evc, lkc⟩
            omega
           ·
            refine xl_gFa rfl EvO.eq ?_
            refine xl_gLd rfl EvO.eq ?_
            refine xl_gv rfl EvO.eq v_move ?_
            refine xl_gcall rfl EvO.eq (refin_ok x.A _ _ x.w.parts k w15 rfl (by omega)) ?_
            rintro _ w18 ⟨rfl, lk5⟩
            refine xl_Pk ?_
            refine xl_nil ?_
            refine x_condE (fun c7 => ?_) (fun c7 => ?_)
            ·
             refine x_regionL ?_
             refine xl_v v_move ?_
             refine xl_v v_move ?_
             refine xl_e (e_buildSlice1 rfl fun b9 w19 n9 l9 k9 => ?_)
             refine xl_e (e_app (by omega) (by decide) (by omega) (by omega) (by first | exact Ge.le | omega) fun B2 d2 w20 o9 l10 nB2 f9 => ?_)
             refine xl_v v_assign ?_
             obtain ⟨q2, hq2e⟩ : ∃ q2, q2 = q + 1 := ⟨_, rfl⟩
             have hyes : (k : Int) = p ∨ (k : Int) ∈ x.w.parts := by
              first
               | (simp at g72; exact .inl g72)
               | (simp at c7; exact .inr c7)
             have hE := withP_step R.np x.w.parts p k
             rw [if_pos hyes] at hE
             have hq2 : q2 = ((upTo (k + 1)).filter (fun y => decide (y = p) || decide (y ∈ x.w.parts))).length := by rw [hE, hq2e, hq]; simp
             have ho2 : (w20).ownsRow wL.heap.size 3 1 (.slice B2 q2 d2) q2 (ints ((upTo (k + 1)).filter (fun y => decide (y = p) || decide (y ∈ x.w.parts)))) := by rw [hE, hq2e, ints_append]; exact o9.own
             rw [← hq2e]
             refine xl_nil ?_
             refine x_regionL ?_
             refine xl_v v_move ?_
             refine xl_v (v_add (by omega)) ?_
             refine xl_v v_assign ?_
             refine xl_nil ?_
             refine ⟨_, ?_, rfl, k + 1, B2, d2, q2, rfl, by omega, hq2, by omega, ⟨ho2⟩, nB2, inferInstance, inferInstance, inferInstance, inferInstance, inferInstance, inferInstance, evc, lkc⟩
             omega
            ·
             have hno : ¬ ((k : Int) = p ∨ (k : Int) ∈ x.w.parts) := by
              simp at g72 c7
              exact fun e => e.elim g72 c7
             obtain ⟨B2, d2, q2, hB2, hd2, hq2e⟩ : ∃ B2 d2 q2, B2 = B ∧ d2 = d ∧ q2 = q := ⟨_, _, _, rfl, rfl, rfl⟩
             have hE := withP_step R.np x.w.parts p k
             rw [if_neg hno, List.append_nil] at hE
             have hq2 : q2 = ((upTo (k + 1)).filter (fun y => decide (y = p) || decide (y ∈ x.w.parts))).length := by rw [hE, hq2e]; exact hq
             have ho2 : (w18).ownsRow wL.heap.size 3 1 (.slice B2 q2 d2) q2 (ints ((upTo (k + 1)).filter (fun y => decide (y = p) || decide (y ∈ x.w.parts)))) := by rw [hE, hB2, hd2, hq2e]; exact OwnI.own
             have nB2 : NewA B2 wL := by rw [hB2]; exact nB
             rw [← hB2, ← hd2, ← hq2e] at e12
             refine x_skip ?_
             refine x_regionL ?_
             refine xl_v v_move ?_
             refine xl_v (v_add (by omega)) ?_
             refine xl_v v_assign ?_
             refine xl_nil ?_
             refine ⟨_, ?_, rfl, k + 1, B2, d2, q2, rfl, by omega, hq2, by omega, ⟨ho2⟩, nB2, inferInstance, inferInstance, inferInstance, inferInstance, inferInstance, inferInstance, evc, lkc⟩
             omega
          ·
           refine x_exit ?_
           refine x_seq ?_
           have hkn : k = R.np := by omega
           have hqW : q = (withP R.np x.w.parts p).length := by rw [hq, hkn]; rfl
           have hoW : (w15).ownsRow wL.heap.size 3 1 (.slice B (withP R.np x.w.parts p).length d) (withP R.np x.w.parts p).length (ints (withP R.np x.w.parts p)) := by
            have := oB.own
            rw [hkn] at this
            rw [hqW] at this
            exact this
           haveI oW : OwnI w15 B _ _ _ _ _ _ _ := ⟨hoW⟩
           haveI apw : ApB B bw := ⟨fun a ha e => by have := (own_blk hoW (blkA_some ha)).1; omega⟩
           rw [hqW] at e12
           refine x_regionL ?_
           refine xl_v v_move ?_
           refine xl_Fa ?_
           refine xl_s (e_store fun w21 l21 k21 => ?_)
           refine xl_nil ?_
           refine x_seq ?_
           have hFo : FRow w21 (grown F w w21) B (ints (withP R.np x.w.parts p)) := FRow.own (OwnI.own : World.ownsRow w21 _ _ _ (.slice B _ d) _ _) hwwL.size
           have hMB : ∀ k, (F k ∨ OwnB (.slice B (withP R.np x.w.parts p).length d) k) → k ≠ b2 := by
            rintro k (e | e) rfl
            ·have := h.lt k e; omega
            ·have := (own_blk hoW (ownB_blk.1 e)).1; omega
           have hRx : RefAt w21 (fun k => F k ∨ OwnB (.slice B (withP R.np x.w.parts p).length d) k) R := (h.ext (kpc : Keep NoB w w21)).mono (fun k e => .inl e) (fun k e => e.elim (fun e => (h.ext (kpc : Keep NoB w w21)).lt k e) (fun e => (own_blk (OwnI.own : World.ownsRow w21 _ _ _ (.slice B _ d) _ _) (ownB_blk.1 e)).2))
           have hfx : FRow w21 (fun k => F k ∨ OwnB (.slice B (withP R.np x.w.parts p).length d) k) B (ints (withP R.np x.w.parts p)) := (FRow.of_own (OwnI.own : World.ownsRow w21 _ _ _ (.slice B _ d) _ _)).mono (fun k e => .inr e)
           have hsx : Sub (fun k => F k ∨ OwnB (.slice B (withP R.np x.w.parts p).length d) k) F w := fun k e => e.imp id (fun e => Nat.le_trans hwwL.size (own_blk hoW (ownB_blk.1 e)).1)
           refine x_drawL (OneB b2) (allS) (.take 0 (.take 1 (.take 2 (.take 4 (.take 5 (.eff 3 (.eff 6 (.take 7 (.take 8 .done))))))))) mixed (by kernel_rfl) (fun _ _ _ _ _ h => h) (fun w22 l22 => ?_)
           refine xt_La rfl ?_
           refine xt_v rfl v_move ?_
           refine xt_La rfl ?_
           refine xt_Fa rfl ?_
           refine xt_Ld rfl ?_
           refine xt_call rfl (refwr_ok R _ i ⟨⟨x.w.ses, x.w.num, x.w.st, withP R.np x.w.parts p, x.w.off, x.w.nxt⟩, B, d⟩ w22 (hRx.ext (kpc : Keep NoB _ w22)) (hfx.keep (kpc : Keep NoB _ w22) (fun _ _ h => h)) hi (by omega)) ?_
           rintro _ w23 ⟨⟨A, c, F', rfl, hR', hs⟩, lk2⟩
           refine ⟨kpc, ?_⟩
           have hs2 := hs.trans hsx (Ge.le : w.heap.size ≤ (w22).heap.size)
           have hb2p : b2 < (w22).heap.size := Has.lt
           refine xt_s rfl (e_storeA fun w24 l24 k24 => ?_)
           refine xt_v rfl v_assign ?_
           refine xt_v rfl v_assign ?_
           refine xt_nil ?_
           refine x_ret ?_
           refine finR (rs := [.cell 8 35, .tmp 9, .tmp 10]) rfl ?_
           refine ⟨⟨_, by rw [hrx]; rfl, ?_⟩, lkc⟩
           rw [hrx]
           refine RMade.setW (hR'.keep (S := OneB b2) kpc (fun k e e2 => ?_)) hs2
           have e' : k = b2 := e2
           rcases hs k e with q | q
           ·exact hMB k q e'
           ·omega
       ·
        rw [if_neg c4] at hr
        obtain ⟨x, hx⟩ : ∃ x : LW, x = R.ws[i] := ⟨_, rfl⟩
        have hxb : (w8).heap[bw]? = some (.cells (wrC x).toArray 52 (0, 0)) := by rw [hx]; exact Blk.eq
        have hrx : R.pure.add (i : Int) ses p = (R.pure.setW i { x.w with parts := withP R.np x.w.parts p }, x.w.num, 0) := by rw [hr, hx]; rfl
        haveI rx : Row w x.A (ints x.w.parts) := by rw [hx]; exact ⟨hpx.row⟩
        have hxl : x.w.parts.length ≤ 4 := by rw [hx]; omega
        refine x_skip ?_
        refine x_seq ?_
        refine x_regionL ?_
        refine xl_v v_assign ?_
        refine xl_nil ?_
        refine x_seq ?_
        refine x_seq ?_
        refine x_regionL ?_
        refine xl_v v_assign ?_
        refine xl_nil ?_
        refine x_block ?_
        haveI rxB : RowB w x.A w (ints x.w.parts) := rowB_of rx.row
        have hbww : w.heap.size ≤ bw := by rw [nw.eq]; exact Ge.le
        have hb2w : w.heap.size ≤ b2 := by rw [n2.eq]; exact Ge.le
        have hb2l : (w8).heap[b2]? = _ := Blk.eq
        have hb1l : (w8).heap[b1]? = _ := Blk.eq
        haveI : NeB b2 bw := inferInstance
        have hb12 : b2 ≠ bw := NeB.ne
        have hbwW : bw < (w8).heap.size := Has.lt
        obtain ⟨wL, hwL⟩ : ∃ x, x = w8 := ⟨_, rfl⟩
        have hbwL : bw < wL.heap.size := by rw [hwL]; exact Has.lt
        have hb2L : b2 < wL.heap.size := by rw [hwL]; exact Has.lt
        have hwwL : Keep NoB w wL := by rw [hwL]; exact kpc
        rw [← hwL] at hxb hb2l hb1l
        haveI lkLw : Lk wL w NoB := ⟨hwwL⟩
        haveI kb2 : Blk wL b2 _ := ⟨hb2l⟩
        haveI kb1 : Blk wL b1 _ := ⟨hb1l⟩
        haveI kbw : Blk wL bw _ := ⟨hxb⟩
        haveI rL : Row wL x.A (ints x.w.parts) := ⟨rx.row.keep hwwL (fun _ _ h => h)⟩
        refine x_loop (fun m τ ds w' => ds = [] ∧ ∃ (k : Nat) (B : Option Addr) (d q : Nat), m = R.np - k ∧ k ≤ R.np ∧ q = ((upTo k).filter (fun y => decide (y = p) || decide (y ∈ x.w.parts))).length ∧ q ≤ k ∧ OwnI w' B q d wL.heap.size 3 1 q (ints ((upTo k).filter (fun y => decide (y = p) || decide (y ∈ x.w.parts)))) ∧ NewA B wL ∧ Ev τ 1 (.int .i64 (i : Int)) ∧ Ev τ 3 (.int .i64 p) ∧ Ev τ 4 (.pointer (some ⟨b1, 0, none⟩)) ∧ Ev τ 8 (.pointer (some ⟨b2, 0, none⟩)) ∧ Ev τ 11 (.pointer (some ⟨bw, 0, none⟩)) ∧ Ev τ 12 (.slice B q d) ∧ Ev τ 13 (.int .i64 (k : Int)) ∧ Lk w' wL NoB) (R.np) ?start ?round
        case start =>
         exact ⟨rfl, 0, none, 0, 0, rfl, Nat.zero_le _, rfl, Nat.le_refl _, ⟨World.ownsRow_nil _ _ _ _⟩, newA_none _, inferInstance, inferInstance, inferInstance, inferInstance, inferInstance, inferInstance, evc, by rw [hwL]; exact lkc⟩
        case round =>
         intro m τ25 ds25 w25 hI
         obtain ⟨rfl, k, B, d, q, rfl, hk, hq, hqk, oB, nB, e1, e3, e4, e8, e11, e12, e13, lk⟩ := hI
         refine x_seq ?_
         refine x_seq ?_
         refine x_regionL ?_
         refine xl_v v_move ?_
         refine xl_Fa ?_
         refine xl_Fa ?_
         refine xl_Ld ?_
         refine xl_v v_lss ?_
         refine xl_nil ?_
         first | refine x_condP (fun c6 => ?_) (fun c6 => ?_) | refine x_condN (fun c6 => ?_) (fun c6 => ?_) | refine x_condE (fun c6 => ?_) (fun c6 => ?_)
         ·
          refine x_skip ?_
          refine x_seq ?_
          refine x_block ?_
          refine x_seq ?_
          refine x_regionL ?_
          refine xl_v v_move ?_
          refine xl_v v_move ?_
          refine xl_v v_eql ?_
          refine xl_v v_move ?_
          refine xl_split 72 (fun g72 => ?_) (fun g72 => ?_)
          ·
           refine xl_gs rfl EvO.eq ?_
           refine xl_gs rfl EvO.eq ?_
           refine xl_gs rfl EvO.eq ?_
           refine xl_gs rfl EvO.eq ?_
           refine xl_Pk ?_
           refine xl_nil ?_
           refine x_condT ?_
           refine x_regionL ?_
           refine xl_v v_move ?_
           refine xl_v v_move ?_
           refine xl_e (e_buildSlice1 rfl fun b9 w26 n9 l9 k9 => ?_)
           refine xl_e (e_app (by omega) (by decide) (by omega) (by omega) (by first | exact Ge.le | omega) fun B2 d2 w27 o9 l10 nB2 f9 => ?_)
           refine xl_v v_assign ?_
           obtain ⟨q2, hq2e⟩ : ∃ q2, q2 = q + 1 := ⟨_, rfl⟩
           have hyes : (k : Int) = p ∨ (k : Int) ∈ x.w.parts := by
            first
             | (simp at g72; exact .inl g72)
             | (simp at c7; exact .inr c7)
           have hE := withP_step R.np x.w.parts p k
           rw [if_pos hyes] at hE
           have hq2 : q2 = ((upTo (k + 1)).filter (fun y => decide (y = p) || decide (y ∈ x.w.parts))).length := by rw [hE, hq2e, hq]; simp
           have ho2 : (w27).ownsRow wL.heap.size 3 1 (.slice B2 q2 d2) q2 (ints ((upTo (k + 1)).filter (fun y => decide (y = p) || decide (y ∈ x.w.parts)))) := by rw [hE, hq2e, ints_append]; exact o9.own
           rw [← hq2e]
           refine xl_nil ?_
           refine x_regionL ?_
           refine xl_v v_move ?_
           refine xl_v (v_add (by omega)) ?_
           refine xl_v v_assign ?_
           refine xl_nil ?_
           refine ⟨_, ?_, rfl, k + 1, B2, d2, q2, rfl, by omega, hq2, by omega, ⟨ho2⟩, nB2, inferInstance, inferInstance, inferInstance, inferInstance, inferInstance, inferInstance, evc, lkc⟩
           omega
          ·
           refine xl_gFa rfl EvO.eq ?_
           refine xl_gLd rfl EvO.eq ?_
           refine xl_gv rfl EvO.eq v_move ?_
           refine xl_gcall rfl EvO.eq (refin_ok x.A _ _ x.w.parts k w25 rfl (by omega)) ?_
           rintro _ w28 ⟨rfl, lk5⟩
           refine xl_Pk ?_
           refine xl_nil ?_
           refine x_condE (fun c7 => ?_) (fun c7 => ?_)
           ·
            refine x_regionL ?_
            refine xl_v v_move ?_
            refine xl_v v_move ?_
            refine xl_e (e_buildSlice1 rfl fun b9 w29 n9 l9 k9 => ?_)
            refine xl_e (e_app (by omega) (by decide) (by omega) (by omega) (by first | exact Ge.le | omega) fun B2 d2 w30 o9 l10 nB2 f9 => ?_)
            refine xl_v v_assign ?_
            obtain ⟨q2, hq2e⟩ : ∃ q2, q2 = q + 1 := ⟨_, rfl⟩
            have hyes : (k : Int) = p ∨ (k : Int) ∈ x.w.parts := by
             first
              | (simp at g72; exact .inl g72)
              | (simp at c7; exact .inr c7)
            have hE := withP_step R.np x.w.parts p k
            rw [if_pos hyes] at hE
            have hq2 : q2 = ((upTo (k + 1)).filter (fun y => decide (y = p) || decide (y ∈ x.w.parts))).length := by rw [hE, hq2e, hq]; simp
            have ho2 : (w30).ownsRow wL.heap.size 3 1 (.slice B2 q2 d2) q2 (ints ((upTo (k + 1)).filter (fun y => decide (y = p) || decide (y ∈ x.w.parts)))) := by rw [hE, hq2e, ints_append]; exact o9.own
            rw [← hq2e]
            refine xl_nil ?_
            refine x_regionL ?_
            refine xl_v v_move ?_
            refine xl_v (v_add (by omega)) ?_
            refine xl_v v_assign ?_
            refine xl_nil ?_
            refine ⟨_, ?_, rfl, k + 1, B2, d2, q2, rfl, by omega, hq2, by omega, ⟨ho2⟩, nB2, inferInstance, inferInstance, inferInstance, inferInstance, inferInstance, inferInstance, evc, lkc⟩
            omega
           ·
            have hno : ¬ ((k : Int) = p ∨ (k : Int) ∈ x.w.parts) := by
             simp at g72 c7
             exact fun e => e.elim g72 c7
            obtain ⟨B2, d2, q2, hB2, hd2, hq2e⟩ : ∃ B2 d2 q2, B2 = B ∧ d2 = d ∧ q2 = q := ⟨_, _, _, rfl, rfl, rfl⟩
            have hE := withP_step R.np x.w.parts p k
            rw [if_neg hno, List.append_nil] at hE
            have hq2 : q2 = ((upTo (k + 1)).filter (fun y => decide (y = p) || decide (y ∈ x.w.parts))).length := by rw [hE, hq2e]; exact hq
            have ho2 : (w28).ownsRow wL.heap.size 3 1 (.slice B2 q2 d2) q2 (ints ((upTo (k + 1)).filter (fun y => decide (y = p) || decide (y ∈ x.w.parts)))) := by rw [hE, hB2, hd2, hq2e]; exact OwnI.own
            have nB2 : NewA B2 wL := by rw [hB2]; exact nB
            rw [← hB2, ← hd2, ← hq2e] at e12
            refine x_skip ?_
            refine x_regionL ?_
            refine xl_v v_move ?_
            refine xl_v (v_add (by omega)) ?_
            refine xl_v v_assign ?_
            refine xl_nil ?_
            refine ⟨_, ?_, rfl, k + 1, B2, d2, q2, rfl, by omega, hq2, by omega, ⟨ho2⟩, nB2, inferInstance, inferInstance, inferInstance, inferInstance, inferInstance, inferInstance, evc, lkc⟩
            omega
         ·
          refine x_exit ?_
          refine x_seq ?_
          have hkn : k = R.np := by omega
          have hqW : q = (withP R.np x.w.parts p).length := by rw [hq, hkn]; rfl
          have hoW : (w25).ownsRow wL.heap.size 3 1 (.slice B (withP R.np x.w.parts p).length d) (withP R.np x.w.parts p).length (ints (withP R.np x.w.parts p)) := by
           have := oB.own
           rw [hkn] at this
           rw [hqW] at this
           exact this
          haveI oW : OwnI w25 B _ _ _ _ _ _ _ := ⟨hoW⟩
          haveI apw : ApB B bw := ⟨fun a ha e => by have := (own_blk hoW (blkA_some ha)).1; omega⟩
          rw [hqW] at e12
          refine x_regionL ?_
          refine xl_v v_move ?_
          refine xl_Fa ?_
          refine xl_s (e_store fun w31 l31 k31 => ?_)
          refine xl_nil ?_
          refine x_seq ?_
          have hFo : FRow w31 (grown F w w31) B (ints (withP R.np x.w.parts p)) := FRow.own (OwnI.own : World.ownsRow w31 _ _ _ (.slice B _ d) _ _) hwwL.size
          have hMB : ∀ k, (F k ∨ OwnB (.slice B (withP R.np x.w.parts p).length d) k) → k ≠ b2 := by
           rintro k (e | e) rfl
           ·have := h.lt k e; omega
           ·have := (own_blk hoW (ownB_blk.1 e)).1; omega
          have hRx : RefAt w31 (fun k => F k ∨ OwnB (.slice B (withP R.np x.w.parts p).length d) k) R := (h.ext (kpc : Keep NoB w w31)).mono (fun k e => .inl e) (fun k e => e.elim (fun e => (h.ext (kpc : Keep NoB w w31)).lt k e) (fun e => (own_blk (OwnI.own : World.ownsRow w31 _ _ _ (.slice B _ d) _ _) (ownB_blk.1 e)).2))
          have hfx : FRow w31 (fun k => F k ∨ OwnB (.slice B (withP R.np x.w.parts p).length d) k) B (ints (withP R.np x.w.parts p)) := (FRow.of_own (OwnI.own : World.ownsRow w31 _ _ _ (.slice B _ d) _ _)).mono (fun k e => .inr e)
          have hsx : Sub (fun k => F k ∨ OwnB (.slice B (withP R.np x.w.parts p).length d) k) F w := fun k e => e.imp id (fun e => Nat.le_trans hwwL.size (own_blk hoW (ownB_blk.1 e)).1)
          refine x_drawL (OneB b2) (allS) (.take 0 (.take 1 (.take 2 (.take 4 (.take 5 (.eff 3 (.eff 6 (.take 7 (.take 8 .done))))))))) mixed (by kernel_rfl) (fun _ _ _ _ _ h => h) (fun w32 l32 => ?_)
          refine xt_La rfl ?_
          refine xt_v rfl v_move ?_
          refine xt_La rfl ?_
          refine xt_Fa rfl ?_
          refine xt_Ld rfl ?_
          refine xt_call rfl (refwr_ok R _ i ⟨⟨x.w.ses, x.w.num, x.w.st, withP R.np x.w.parts p, x.w.off, x.w.nxt⟩, B, d⟩ w32 (hRx.ext (kpc : Keep NoB _ w32)) (hfx.keep (kpc : Keep NoB _ w32) (fun _ _ h => h)) hi (by omega)) ?_
          rintro _ w33 ⟨⟨A, c, F', rfl, hR', hs⟩, lk2⟩
          refine ⟨kpc, ?_⟩
          have hs2 := hs.trans hsx (Ge.le : w.heap.size ≤ (w32).heap.size)
          have hb2p : b2 < (w32).heap.size := Has.lt
          refine xt_s rfl (e_storeA fun w34 l34 k34 => ?_)
          refine xt_v rfl v_assign ?_
          refine xt_v rfl v_assign ?_
          refine xt_nil ?_
          refine x_ret ?_
          refine finR (rs := [.cell 8 35, .tmp 9, .tmp 10]) rfl ?_
          refine ⟨⟨_, by rw [hrx]; rfl, ?_⟩, lkc⟩
          rw [hrx]
          refine RMade.setW (hR'.keep (S := OneB b2) kpc (fun k e e2 => ?_)) hs2
          have e' : k = b2 := e2
          rcases hs k e with q | q
          ·exact hMB k q e'
          ·omega
end Go.Proofs.Ytnjpladlfiaojaa
