/-
 Walks, printed by a program of this workplace (wip/tools/sx.py) off the functions' code and a text of contracts.
-/
import Derived.Test.YtljdkelgapndgaaGreatJ10
set_option linter.all false
set_option maxRecDepth 100000
set_option synthInstance.maxSize 100000
set_option synthInstance.maxHeartbeats 400000
namespace Go.Proofs.YtljdkelgapndgaaGreat
open Go.Wst
open Go.Wst.Qm
structure MsgD (w : World) (P : Nat → Prop) (R : LDq) (i : Nat) (m : LBl) : Prop where
 to : m.m.to = (i : Int)
 f : 0 ≤ m.m.frm ∧ m.m.frm < R.ns.length
 row : FRow w (InP P w) m.A (cmdsC m.m.cmds)
 len : m.m.cmds.length ≤ 4
def _root_.Go.Wst.Qm.An.asked (x : An) (m : Bl) : An := if x.gives m then { x with vote := m.frm } else x
set_option maxHeartbeats 1000000 in
theorem askedD_ok (P : Nat → Prop) (R : LDq) (i : Nat) (z : LAn) (m : LBl) (w : World) (hP : ∀ k, w.heap.size ≤ k → P k) (h : RefAt w P R) (hz : R.ns[i]? = some z) (hm : MsgD w P R i m) (hn5 : R.ns.length ≤ 5) (hb : R.bs.length ≤ 256) (hll : z.x.log.length ≤ 256) : Ret Tryz.prog 52 #[.agg (dqC R).toArray, .agg (blC m).toArray] w (fun v w' => (∃ R', v = .agg (dqC R').toArray ∧ RMade P w' (R.pure.asked m.m z.x) R') ∧ Lk w' w NoB) := by
 haveI hrb : Row w R.NA (R.ns.flatMap anC) := ⟨h.nodes.row⟩
 have hi : i < R.ns.length := (List.getElem?_eq_some_iff.1 hz).1
 have hzi : R.ns[i] = z := (List.getElem?_eq_some_iff.1 hz).2
 have hzr := h.rows z (List.mem_of_getElem? hz)
 haveI holdN : OldA w R.NA := ⟨fun a ha => (h.nodes.blk a ha).2⟩
 haveI hrl : Row w z.LA (cmdsC z.x.log) := ⟨hzr.log.row⟩
 haveI hrm : Row w z.MA (ints z.x.mat) := ⟨hzr.mat.row⟩
 haveI hrx : Row w z.XA (ints z.x.next) := ⟨hzr.next.row⟩
 haveI holdL : OldA w z.LA := ⟨fun a ha => (hzr.log.blk a ha).2⟩
 haveI holdM : OldA w z.MA := ⟨fun a ha => (hzr.mat.blk a ha).2⟩
 haveI holdX : OldA w z.XA := ⟨fun a ha => (hzr.next.blk a ha).2⟩
 refine ret_of_x (N := 75) (l := [.agg (dqC R).toArray, .agg (blC m).toArray]) Tryz.func52 rfl rfl (Nat.le_of_ble_eq_true rfl) ?_
 refine x_seq ?_
 refine x_regionL ?_
 refine xl_e (e_box fun b1 w1 n1 l1 k1 => ?_)
 refine xl_e (e_box fun b2 w2 n2 l2 k2 => ?_)
 refine xl_e (e_alloc fun b4 w3 n4 l4 k4 => ?_)
 refine xl_nil ?_
 refine x_seq ?_
 refine x_regionL ?_
 refine xl_Fb ?_
 refine xl_Lc ?_
 refine xl_Fb ?_
 refine xl_Lc ?_
 refine xl_v (v_indexF i (by decide) hm.to (by omega) hi) ?_
 refine xl_v (v_congr (u := .agg (anC z).toArray) (v_loadF (k := i) (by decide) hi) (by rw [hzi])) ?_
 refine xl_e (e_alloc fun b5 w4 n5 l5 k5 => ?_)
 refine xl_s (e_storeA fun w5 l7 k7 => ?_)
 refine xl_nil ?_
 refine x_seq ?_
 refine x_drawL (NoB) (allS) (.take 0 (.take 1 (.take 2 (.take 3 (.eff 4 (.take 5 (.take 6 (.take 7 (.take 8 (.take 9 (.take 10 (.eff 11 (.take 12 (.take 13 (.take 14 (.take 15 (.take 16 (.take 17 (.take 18 (.take 19 (.take 20 (.take 21 (.take 22 .done))))))))))))))))))))))) mixed (by kernel_rfl) (fun _ _ _ _ _ h => h) (fun w6 l6 => ?_)
 refine xt_Fb rfl ?_
 refine xt_Lc rfl ?_
 refine xt_Fb rfl ?_
 refine xt_Lc rfl ?_
 refine xt_call rfl (termD_ok z.LA z.x.log.length z.lc z.x.log w6 rfl (by omega)) ?_
 rintro _ w7 ⟨rfl, lk4⟩
 refine ⟨kpc, ?_⟩
 refine xt_v rfl v_lss ?_
 refine xt_v rfl v_move ?_
 refine xt_split 20 (fun g20 => ?_) (fun g20 => ?_)
 ·
  have hB : z.x.behind m.m = true := decide_eq_true (.inl (of_decide_eq_true g20))
  refine xt_gs rfl rfl EvO.eq ?_
  refine xt_gs rfl rfl EvO.eq ?_
  refine xt_gs rfl rfl EvO.eq ?_
  refine xt_gs rfl rfl EvO.eq ?_
  refine xt_gse rfl rfl EvO.eq ?_
  refine xt_gs rfl rfl EvO.eq ?_
  refine xt_gs rfl rfl EvO.eq ?_
  refine xt_gu rfl rfl EvO.eq ?_
  refine xt_gu rfl rfl EvO.eq ?_
  refine xt_gu rfl rfl EvO.eq ?_
  refine xt_gu rfl rfl EvO.eq ?_
  refine xt_gu rfl rfl EvO.eq ?_
  refine xt_gu rfl rfl EvO.eq ?_
  refine xt_gs rfl rfl EvO.eq ?_
  refine xt_Pk rfl ?_
  refine xt_v rfl v_assign ?_
  refine xt_nil ?_
  refine x_seq ?_
  refine x_regionL ?_
  refine xl_Fb ?_
  refine xl_Lc ?_
  refine xl_Fb ?_
  refine xl_Lc ?_
  refine xl_v v_eql ?_
  refine xl_v v_move ?_
  refine xl_split 41 (fun g41 => ?_) (fun g41 => ?_)
  ·
   refine xl_gFb rfl EvO.eq ?_
   refine xl_gLc rfl EvO.eq ?_
   refine xl_gv rfl EvO.eq v_eql ?_
   refine xl_gv rfl EvO.eq v_move ?_
   refine xl_split 45 (fun g45 => ?_) (fun g45 => ?_)
   ·
    refine xl_gs rfl EvO.eq ?_
    refine xl_gs rfl EvO.eq ?_
    refine xl_gs rfl EvO.eq ?_
    refine xl_gs rfl EvO.eq ?_
    refine xl_gs rfl EvO.eq ?_
    refine xl_gPk rfl EvO.eq ?_
    refine xl_Pk ?_
    refine xl_v v_move ?_
    refine xl_gv rfl EvO.eq v_move ?_
    refine xl_gv rfl EvO.eq v_not ?_
    refine xl_Pk ?_
    refine xl_v v_assign ?_
    refine xl_nil ?_
    refine x_seq ?_
    refine x_seq ?_
    refine x_regionL ?_
    refine xl_v v_move ?_
    refine xl_nil ?_
    refine x_condF ?_
    refine x_skip ?_
    refine x_seq ?_
    have hcase : (z.x.gives m.m = true ∧ Blk w7 b5 (.cells (anC { z with x := { z.x with vote := m.m.frm } }).toArray 41 (0, 0))) ∨ (z.x.gives m.m = false ∧ Blk w7 b5 (.cells (anC z).toArray 41 (0, 0))) := by
     first
      | (refine .inl ⟨?_, k3⟩; simp at g41 g45 c1; simp [An.gives, hB, g41, g45, c1]; done)
      | (refine .inl ⟨?_, k3⟩; simp at g41 g45 g53 c1; simp [An.gives, hB, g41, g45, g53, c1]; done)
      | (refine .inl ⟨?_, k3⟩; simp at g41 g45 g53; simp [An.gives, hB, g41, g45, g53]; done)
      | (refine .inl ⟨?_, k3⟩; simp at g41 g45; simp [An.gives, hB, g41, g45]; done)
      | (refine .inr ⟨?_, ⟨Blk.eq⟩⟩; simp at g41; simp [An.gives, hB, g41]; done)
      | (refine .inr ⟨?_, ⟨Blk.eq⟩⟩; simp at g41 g45; simp [An.gives, hB, g41, g45]; done)
      | (refine .inr ⟨?_, ⟨Blk.eq⟩⟩; simp at g41 g45 c1; simp [An.gives, hB, g41, g45, c1]; done)
      | (refine .inr ⟨?_, ⟨Blk.eq⟩⟩; simp at g41 g45 g53; simp [An.gives, hB, g41, g45, g53]; done)
      | (refine .inr ⟨?_, ⟨Blk.eq⟩⟩; simp at g41 g45 g53 c1; simp [An.gives, hB, g41, g45, g53, c1]; done)
    obtain ⟨zz, hzz, kb5⟩ : ∃ zz : LAn, zz = { z with x := z.x.asked m.m } ∧ Blk w7 b5 (.cells (anC zz).toArray 41 (0, 0)) := by
     rcases hcase with ⟨e1, e2⟩ | ⟨e1, e2⟩
     ·exact ⟨_, rfl, by rw [An.asked, if_pos e1]; exact e2⟩
     ·exact ⟨_, rfl, by rw [An.asked, if_neg (by rw [e1]; decide)]; exact e2⟩
    have hb4 : w.heap.size ≤ b4 := by rw [n4.eq]; exact Ge.le
    have hzt : zz.x.term = z.x.term := by rw [hzz, An.asked]; split <;> rfl
    have hzzr : RowsAn w P zz := by rw [hzz, An.asked]; split <;> exact ⟨hzr.log, hzr.votes, hzr.next, hzr.mat, hzr.lc⟩
    refine x_drawL (NoB) (allS) (.take 0 (.take 1 (.take 2 (.take 3 (.take 5 (.take 6 (.take 7 (.take 8 (.take 9 (.take 10 (.take 11 (.take 12 (.eff 4 (.eff 13 (.last 14))))))))))))))) mixed (by kernel_rfl) (fun _ _ _ _ _ h => h) (fun w8 l8 => ?_)
    refine xt_Lb rfl ?_
    refine xt_Fb rfl ?_
    refine xt_v rfl (v_congr (u := .int .i64 (i : Int)) v_load (by rw [hm.to])) ?_
    refine xt_Lb rfl ?_
    refine xt_Fb rfl ?_
    refine xt_Lc rfl ?_
    refine xt_Fb rfl ?_
    refine xt_Lc rfl ?_
    refine xt_Fb rfl ?_
    refine xt_Lc rfl ?_
    refine xt_v rfl (v_congr (u := .bool (z.x.gives m.m)) v_move (congrArg Value.bool (by
        first
         | (simp at g41 g45 c1; simp [An.gives, hB, g41, g45, c1]; done)
         | (simp at g41 g45 g53 c1; simp [An.gives, hB, g41, g45, g53, c1]; done)
         | (simp at g41 g45 g53; simp [An.gives, hB, g41, g45, g53]; done)
         | (simp at g41 g45; simp [An.gives, hB, g41, g45]; done)
         | (simp at g41; simp [An.gives, hB, g41]; done)))) ?_
    refine xt_v rfl v_build ?_
    refine xt_call rfl (withD_ok (But P b4) R i zz w8 (butP hP Ge.le Has.lt) ((h.but hb4).ext kpc) ((hzzr.but hb4).ext kpc) hi hn5) ?_
    rintro _ w9 ⟨⟨R1, rfl, hR1, hR1n⟩, lk4w⟩
    refine ⟨kpc, ?_⟩
    have hbs1 : R1.bs.length ≤ 256 := by
     have h1 := congrArg (fun q : Dq => q.bag.length) hR1.1
     simp [LDq.pure, Dq.setN] at h1
     omega
    refine xt_call rfl (sendD_ok (But P b4) R1 ⟨{ Bl.zero with kind := 2, frm := m.m.to, to := m.m.frm, term := zz.x.term, ok := z.x.gives m.m }, none, 0⟩ w9 (butP hP Ge.le Has.lt) (hR1.2.ext kpc) (FRow.nil _ _) hbs1) ?_
    rintro _ w10 ⟨⟨R2, rfl, hR2, _⟩, lk13⟩
    refine ⟨kpc, ?_⟩
    refine xt_lastS rfl (e_storeA fun w11 l14 k14 => ?_)
    refine x_ret ?_
    refine finR (rs := [.cell 4 32]) rfl ?_
    refine ⟨⟨R2, by simp [outV], ?_, hR2.2.unbut l14.keep⟩, lkc⟩
    rw [hR2.1, hR1.1, hzt, hzz]
    unfold Dq.asked An.asked
    rw [hm.to]
    rfl
   ·
    refine xl_gFb rfl EvO.eq ?_
    refine xl_gLc rfl EvO.eq ?_
    refine xl_gFb rfl EvO.eq ?_
    refine xl_gLc rfl EvO.eq ?_
    refine xl_gv rfl EvO.eq v_eql ?_
    refine xl_gPk rfl EvO.eq ?_
    refine xl_Pk ?_
    refine xl_v v_move ?_
    refine xl_split 53 (fun g53 => ?_) (fun g53 => ?_)
    ·
     refine xl_gv rfl EvO.eq v_move ?_
     refine xl_gv rfl EvO.eq v_not ?_
     refine xl_Pk ?_
     refine xl_v v_assign ?_
     refine xl_nil ?_
     refine x_seq ?_
     refine x_seq ?_
     refine x_regionL ?_
     refine xl_v v_move ?_
     refine xl_nil ?_
     refine x_condF ?_
     refine x_skip ?_
     refine x_seq ?_
     have hcase : (z.x.gives m.m = true ∧ Blk w7 b5 (.cells (anC { z with x := { z.x with vote := m.m.frm } }).toArray 41 (0, 0))) ∨ (z.x.gives m.m = false ∧ Blk w7 b5 (.cells (anC z).toArray 41 (0, 0))) := by
      first
       | (refine .inl ⟨?_, k3⟩; simp at g41 g45 c1; simp [An.gives, hB, g41, g45, c1]; done)
       | (refine .inl ⟨?_, k3⟩; simp at g41 g45 g53 c1; simp [An.gives, hB, g41, g45, g53, c1]; done)
       | (refine .inl ⟨?_, k3⟩; simp at g41 g45 g53; simp [An.gives, hB, g41, g45, g53]; done)
       | (refine .inl ⟨?_, k3⟩; simp at g41 g45; simp [An.gives, hB, g41, g45]; done)
       | (refine .inr ⟨?_, ⟨Blk.eq⟩⟩; simp at g41; simp [An.gives, hB, g41]; done)
       | (refine .inr ⟨?_, ⟨Blk.eq⟩⟩; simp at g41 g45; simp [An.gives, hB, g41, g45]; done)
       | (refine .inr ⟨?_, ⟨Blk.eq⟩⟩; simp at g41 g45 c1; simp [An.gives, hB, g41, g45, c1]; done)
       | (refine .inr ⟨?_, ⟨Blk.eq⟩⟩; simp at g41 g45 g53; simp [An.gives, hB, g41, g45, g53]; done)
       | (refine .inr ⟨?_, ⟨Blk.eq⟩⟩; simp at g41 g45 g53 c1; simp [An.gives, hB, g41, g45, g53, c1]; done)
     obtain ⟨zz, hzz, kb5⟩ : ∃ zz : LAn, zz = { z with x := z.x.asked m.m } ∧ Blk w7 b5 (.cells (anC zz).toArray 41 (0, 0)) := by
      rcases hcase with ⟨e1, e2⟩ | ⟨e1, e2⟩
      ·exact ⟨_, rfl, by rw [An.asked, if_pos e1]; exact e2⟩
      ·exact ⟨_, rfl, by rw [An.asked, if_neg (by rw [e1]; decide)]; exact e2⟩
     have hb4 : w.heap.size ≤ b4 := by rw [n4.eq]; exact Ge.le
     have hzt : zz.x.term = z.x.term := by rw [hzz, An.asked]; split <;> rfl
     have hzzr : RowsAn w P zz := by rw [hzz, An.asked]; split <;> exact ⟨hzr.log, hzr.votes, hzr.next, hzr.mat, hzr.lc⟩
     refine x_drawL (NoB) (allS) (.take 0 (.take 1 (.take 2 (.take 3 (.take 5 (.take 6 (.take 7 (.take 8 (.take 9 (.take 10 (.take 11 (.take 12 (.eff 4 (.eff 13 (.last 14))))))))))))))) mixed (by kernel_rfl) (fun _ _ _ _ _ h => h) (fun w12 l12 => ?_)
     refine xt_Lb rfl ?_
     refine xt_Fb rfl ?_
     refine xt_v rfl (v_congr (u := .int .i64 (i : Int)) v_load (by rw [hm.to])) ?_
     refine xt_Lb rfl ?_
     refine xt_Fb rfl ?_
     refine xt_Lc rfl ?_
     refine xt_Fb rfl ?_
     refine xt_Lc rfl ?_
     refine xt_Fb rfl ?_
     refine xt_Lc rfl ?_
     refine xt_v rfl (v_congr (u := .bool (z.x.gives m.m)) v_move (congrArg Value.bool (by
         first
          | (simp at g41 g45 c1; simp [An.gives, hB, g41, g45, c1]; done)
          | (simp at g41 g45 g53 c1; simp [An.gives, hB, g41, g45, g53, c1]; done)
          | (simp at g41 g45 g53; simp [An.gives, hB, g41, g45, g53]; done)
          | (simp at g41 g45; simp [An.gives, hB, g41, g45]; done)
          | (simp at g41; simp [An.gives, hB, g41]; done)))) ?_
     refine xt_v rfl v_build ?_
     refine xt_call rfl (withD_ok (But P b4) R i zz w12 (butP hP Ge.le Has.lt) ((h.but hb4).ext kpc) ((hzzr.but hb4).ext kpc) hi hn5) ?_
     rintro _ w13 ⟨⟨R1, rfl, hR1, hR1n⟩, lk4w⟩
     refine ⟨kpc, ?_⟩
     have hbs1 : R1.bs.length ≤ 256 := by
      have h1 := congrArg (fun q : Dq => q.bag.length) hR1.1
      simp [LDq.pure, Dq.setN] at h1
      omega
     refine xt_call rfl (sendD_ok (But P b4) R1 ⟨{ Bl.zero with kind := 2, frm := m.m.to, to := m.m.frm, term := zz.x.term, ok := z.x.gives m.m }, none, 0⟩ w13 (butP hP Ge.le Has.lt) (hR1.2.ext kpc) (FRow.nil _ _) hbs1) ?_
     rintro _ w14 ⟨⟨R2, rfl, hR2, _⟩, lk13⟩
     refine ⟨kpc, ?_⟩
     refine xt_lastS rfl (e_storeA fun w15 l14 k14 => ?_)
     refine x_ret ?_
     refine finR (rs := [.cell 4 32]) rfl ?_
     refine ⟨⟨R2, by simp [outV], ?_, hR2.2.unbut l14.keep⟩, lkc⟩
     rw [hR2.1, hR1.1, hzt, hzz]
     unfold Dq.asked An.asked
     rw [hm.to]
     rfl
    ·
     refine xl_gs rfl EvO.eq ?_
     refine xl_gs rfl EvO.eq ?_
     refine xl_Pk ?_
     refine xl_v v_assign ?_
     refine xl_nil ?_
     refine x_seq ?_
     refine x_seq ?_
     refine x_regionL ?_
     refine xl_v v_move ?_
     refine xl_nil ?_
     refine x_condF ?_
     refine x_skip ?_
     refine x_seq ?_
     have hcase : (z.x.gives m.m = true ∧ Blk w7 b5 (.cells (anC { z with x := { z.x with vote := m.m.frm } }).toArray 41 (0, 0))) ∨ (z.x.gives m.m = false ∧ Blk w7 b5 (.cells (anC z).toArray 41 (0, 0))) := by
      first
       | (refine .inl ⟨?_, k3⟩; simp at g41 g45 c1; simp [An.gives, hB, g41, g45, c1]; done)
       | (refine .inl ⟨?_, k3⟩; simp at g41 g45 g53 c1; simp [An.gives, hB, g41, g45, g53, c1]; done)
       | (refine .inl ⟨?_, k3⟩; simp at g41 g45 g53; simp [An.gives, hB, g41, g45, g53]; done)
       | (refine .inl ⟨?_, k3⟩; simp at g41 g45; simp [An.gives, hB, g41, g45]; done)
       | (refine .inr ⟨?_, ⟨Blk.eq⟩⟩; simp at g41; simp [An.gives, hB, g41]; done)
       | (refine .inr ⟨?_, ⟨Blk.eq⟩⟩; simp at g41 g45; simp [An.gives, hB, g41, g45]; done)
       | (refine .inr ⟨?_, ⟨Blk.eq⟩⟩; simp at g41 g45 c1; simp [An.gives, hB, g41, g45, c1]; done)
       | (refine .inr ⟨?_, ⟨Blk.eq⟩⟩; simp at g41 g45 g53; simp [An.gives, hB, g41, g45, g53]; done)
       | (refine .inr ⟨?_, ⟨Blk.eq⟩⟩; simp at g41 g45 g53 c1; simp [An.gives, hB, g41, g45, g53, c1]; done)
     obtain ⟨zz, hzz, kb5⟩ : ∃ zz : LAn, zz = { z with x := z.x.asked m.m } ∧ Blk w7 b5 (.cells (anC zz).toArray 41 (0, 0)) := by
      rcases hcase with ⟨e1, e2⟩ | ⟨e1, e2⟩
      ·exact ⟨_, rfl, by rw [An.asked, if_pos e1]; exact e2⟩
      ·exact ⟨_, rfl, by rw [An.asked, if_neg (by rw [e1]; decide)]; exact e2⟩
     have hb4 : w.heap.size ≤ b4 := by rw [n4.eq]; exact Ge.le
     have hzt : zz.x.term = z.x.term := by rw [hzz, An.asked]; split <;> rfl
     have hzzr : RowsAn w P zz := by rw [hzz, An.asked]; split <;> exact ⟨hzr.log, hzr.votes, hzr.next, hzr.mat, hzr.lc⟩
     refine x_drawL (NoB) (allS) (.take 0 (.take 1 (.take 2 (.take 3 (.take 5 (.take 6 (.take 7 (.take 8 (.take 9 (.take 10 (.take 11 (.take 12 (.eff 4 (.eff 13 (.last 14))))))))))))))) mixed (by kernel_rfl) (fun _ _ _ _ _ h => h) (fun w16 l16 => ?_)
     refine xt_Lb rfl ?_
     refine xt_Fb rfl ?_
     refine xt_v rfl (v_congr (u := .int .i64 (i : Int)) v_load (by rw [hm.to])) ?_
     refine xt_Lb rfl ?_
     refine xt_Fb rfl ?_
     refine xt_Lc rfl ?_
     refine xt_Fb rfl ?_
     refine xt_Lc rfl ?_
     refine xt_Fb rfl ?_
     refine xt_Lc rfl ?_
     refine xt_v rfl (v_congr (u := .bool (z.x.gives m.m)) v_move (congrArg Value.bool (by
         first
          | (simp at g41 g45 c1; simp [An.gives, hB, g41, g45, c1]; done)
          | (simp at g41 g45 g53 c1; simp [An.gives, hB, g41, g45, g53, c1]; done)
          | (simp at g41 g45 g53; simp [An.gives, hB, g41, g45, g53]; done)
          | (simp at g41 g45; simp [An.gives, hB, g41, g45]; done)
          | (simp at g41; simp [An.gives, hB, g41]; done)))) ?_
     refine xt_v rfl v_build ?_
     refine xt_call rfl (withD_ok (But P b4) R i zz w16 (butP hP Ge.le Has.lt) ((h.but hb4).ext kpc) ((hzzr.but hb4).ext kpc) hi hn5) ?_
     rintro _ w17 ⟨⟨R1, rfl, hR1, hR1n⟩, lk4w⟩
     refine ⟨kpc, ?_⟩
     have hbs1 : R1.bs.length ≤ 256 := by
      have h1 := congrArg (fun q : Dq => q.bag.length) hR1.1
      simp [LDq.pure, Dq.setN] at h1
      omega
     refine xt_call rfl (sendD_ok (But P b4) R1 ⟨{ Bl.zero with kind := 2, frm := m.m.to, to := m.m.frm, term := zz.x.term, ok := z.x.gives m.m }, none, 0⟩ w17 (butP hP Ge.le Has.lt) (hR1.2.ext kpc) (FRow.nil _ _) hbs1) ?_
     rintro _ w18 ⟨⟨R2, rfl, hR2, _⟩, lk13⟩
     refine ⟨kpc, ?_⟩
     refine xt_lastS rfl (e_storeA fun w19 l14 k14 => ?_)
     refine x_ret ?_
     refine finR (rs := [.cell 4 32]) rfl ?_
     refine ⟨⟨R2, by simp [outV], ?_, hR2.2.unbut l14.keep⟩, lkc⟩
     rw [hR2.1, hR1.1, hzt, hzz]
     unfold Dq.asked An.asked
     rw [hm.to]
     rfl
  ·
   refine xl_gs rfl EvO.eq ?_
   refine xl_gs rfl EvO.eq ?_
   refine xl_gs rfl EvO.eq ?_
   refine xl_gs rfl EvO.eq ?_
   refine xl_gu rfl EvO.eq ?_
   refine xl_gu rfl EvO.eq ?_
   refine xl_gu rfl EvO.eq ?_
   refine xl_gu rfl EvO.eq ?_
   refine xl_gu rfl EvO.eq ?_
   refine xl_gs rfl EvO.eq ?_
   refine xl_Pk ?_
   refine xl_v v_move ?_
   refine xl_gs rfl EvO.eq ?_
   refine xl_gs rfl EvO.eq ?_
   refine xl_Pk ?_
   refine xl_v v_assign ?_
   refine xl_nil ?_
   refine x_seq ?_
   refine x_seq ?_
   refine x_regionL ?_
   refine xl_v v_move ?_
   refine xl_nil ?_
   refine x_condF ?_
   refine x_skip ?_
   refine x_seq ?_
   have hcase : (z.x.gives m.m = true ∧ Blk w7 b5 (.cells (anC { z with x := { z.x with vote := m.m.frm } }).toArray 41 (0, 0))) ∨ (z.x.gives m.m = false ∧ Blk w7 b5 (.cells (anC z).toArray 41 (0, 0))) := by
    first
     | (refine .inl ⟨?_, k3⟩; simp at g41 g45 c1; simp [An.gives, hB, g41, g45, c1]; done)
     | (refine .inl ⟨?_, k3⟩; simp at g41 g45 g53 c1; simp [An.gives, hB, g41, g45, g53, c1]; done)
     | (refine .inl ⟨?_, k3⟩; simp at g41 g45 g53; simp [An.gives, hB, g41, g45, g53]; done)
     | (refine .inl ⟨?_, k3⟩; simp at g41 g45; simp [An.gives, hB, g41, g45]; done)
     | (refine .inr ⟨?_, ⟨Blk.eq⟩⟩; simp at g41; simp [An.gives, hB, g41]; done)
     | (refine .inr ⟨?_, ⟨Blk.eq⟩⟩; simp at g41 g45; simp [An.gives, hB, g41, g45]; done)
     | (refine .inr ⟨?_, ⟨Blk.eq⟩⟩; simp at g41 g45 c1; simp [An.gives, hB, g41, g45, c1]; done)
     | (refine .inr ⟨?_, ⟨Blk.eq⟩⟩; simp at g41 g45 g53; simp [An.gives, hB, g41, g45, g53]; done)
     | (refine .inr ⟨?_, ⟨Blk.eq⟩⟩; simp at g41 g45 g53 c1; simp [An.gives, hB, g41, g45, g53, c1]; done)
   obtain ⟨zz, hzz, kb5⟩ : ∃ zz : LAn, zz = { z with x := z.x.asked m.m } ∧ Blk w7 b5 (.cells (anC zz).toArray 41 (0, 0)) := by
    rcases hcase with ⟨e1, e2⟩ | ⟨e1, e2⟩
    ·exact ⟨_, rfl, by rw [An.asked, if_pos e1]; exact e2⟩
    ·exact ⟨_, rfl, by rw [An.asked, if_neg (by rw [e1]; decide)]; exact e2⟩
   have hb4 : w.heap.size ≤ b4 := by rw [n4.eq]; exact Ge.le
   have hzt : zz.x.term = z.x.term := by rw [hzz, An.asked]; split <;> rfl
   have hzzr : RowsAn w P zz := by rw [hzz, An.asked]; split <;> exact ⟨hzr.log, hzr.votes, hzr.next, hzr.mat, hzr.lc⟩
   refine x_drawL (NoB) (allS) (.take 0 (.take 1 (.take 2 (.take 3 (.take 5 (.take 6 (.take 7 (.take 8 (.take 9 (.take 10 (.take 11 (.take 12 (.eff 4 (.eff 13 (.last 14))))))))))))))) mixed (by kernel_rfl) (fun _ _ _ _ _ h => h) (fun w20 l20 => ?_)
   refine xt_Lb rfl ?_
   refine xt_Fb rfl ?_
   refine xt_v rfl (v_congr (u := .int .i64 (i : Int)) v_load (by rw [hm.to])) ?_
   refine xt_Lb rfl ?_
   refine xt_Fb rfl ?_
   refine xt_Lc rfl ?_
   refine xt_Fb rfl ?_
   refine xt_Lc rfl ?_
   refine xt_Fb rfl ?_
   refine xt_Lc rfl ?_
   refine xt_v rfl (v_congr (u := .bool (z.x.gives m.m)) v_move (congrArg Value.bool (by
       first
        | (simp at g41 g45 c1; simp [An.gives, hB, g41, g45, c1]; done)
        | (simp at g41 g45 g53 c1; simp [An.gives, hB, g41, g45, g53, c1]; done)
        | (simp at g41 g45 g53; simp [An.gives, hB, g41, g45, g53]; done)
        | (simp at g41 g45; simp [An.gives, hB, g41, g45]; done)
        | (simp at g41; simp [An.gives, hB, g41]; done)))) ?_
   refine xt_v rfl v_build ?_
   refine xt_call rfl (withD_ok (But P b4) R i zz w20 (butP hP Ge.le Has.lt) ((h.but hb4).ext kpc) ((hzzr.but hb4).ext kpc) hi hn5) ?_
   rintro _ w21 ⟨⟨R1, rfl, hR1, hR1n⟩, lk4w⟩
   refine ⟨kpc, ?_⟩
   have hbs1 : R1.bs.length ≤ 256 := by
    have h1 := congrArg (fun q : Dq => q.bag.length) hR1.1
    simp [LDq.pure, Dq.setN] at h1
    omega
   refine xt_call rfl (sendD_ok (But P b4) R1 ⟨{ Bl.zero with kind := 2, frm := m.m.to, to := m.m.frm, term := zz.x.term, ok := z.x.gives m.m }, none, 0⟩ w21 (butP hP Ge.le Has.lt) (hR1.2.ext kpc) (FRow.nil _ _) hbs1) ?_
   rintro _ w22 ⟨⟨R2, rfl, hR2, _⟩, lk13⟩
   refine ⟨kpc, ?_⟩
   refine xt_lastS rfl (e_storeA fun w23 l14 k14 => ?_)
   refine x_ret ?_
   refine finR (rs := [.cell 4 32]) rfl ?_
   refine ⟨⟨R2, by simp [outV], ?_, hR2.2.unbut l14.keep⟩, lkc⟩
   rw [hR2.1, hR1.1, hzt, hzz]
   unfold Dq.asked An.asked
   rw [hm.to]
   rfl
 ·
  refine xt_gFb rfl rfl EvO.eq ?_
  refine xt_gLc rfl rfl EvO.eq ?_
  refine xt_gFb rfl rfl EvO.eq ?_
  refine xt_gLc rfl rfl EvO.eq ?_
  refine xt_gcall rfl rfl EvO.eq (termD_ok z.LA z.x.log.length z.lc z.x.log w7 rfl (by omega)) ?_
  rintro _ w24 ⟨rfl, lk11⟩
  refine ⟨kpc, ?_⟩
  refine xt_gv rfl rfl EvO.eq v_eql ?_
  refine xt_gv rfl rfl EvO.eq v_move ?_
  refine xt_split 27 (fun g27 => ?_) (fun g27 => ?_)
  ·
   have hB : z.x.behind m.m = decide (m.m.last < z.x.log.length) := by
    unfold An.behind
    rw [decide_eq_decide]
    have h1 := of_decide_eq_false g20
    have h2 := of_decide_eq_true g27
    constructor
    ·rintro (e | e)
     ·exact absurd e h1
     ·exact e.2
    ·exact fun e => .inr ⟨h2, e⟩
   refine xt_gFb rfl rfl EvO.eq ?_
   refine xt_gLc rfl rfl EvO.eq ?_
   refine xt_gFb rfl rfl EvO.eq ?_
   refine xt_gLc rfl rfl EvO.eq ?_
   refine xt_gv rfl rfl EvO.eq v_len ?_
   refine xt_gv rfl rfl EvO.eq v_lss ?_
   refine xt_gPk rfl rfl EvO.eq ?_
   refine xt_Pk rfl ?_
   refine xt_v rfl v_assign ?_
   refine xt_nil ?_
   refine x_seq ?_
   refine x_regionL ?_
   refine xl_Fb ?_
   refine xl_Lc ?_
   refine xl_Fb ?_
   refine xl_Lc ?_
   refine xl_v v_eql ?_
   refine xl_v v_move ?_
   refine xl_split 41 (fun g41 => ?_) (fun g41 => ?_)
   ·
    refine xl_gFb rfl EvO.eq ?_
    refine xl_gLc rfl EvO.eq ?_
    refine xl_gv rfl EvO.eq v_eql ?_
    refine xl_gv rfl EvO.eq v_move ?_
    refine xl_split 45 (fun g45 => ?_) (fun g45 => ?_)
    ·
     refine xl_gs rfl EvO.eq ?_
     refine xl_gs rfl EvO.eq ?_
     refine xl_gs rfl EvO.eq ?_
     refine xl_gs rfl EvO.eq ?_
     refine xl_gs rfl EvO.eq ?_
     refine xl_gPk rfl EvO.eq ?_
     refine xl_Pk ?_
     refine xl_v v_move ?_
     refine xl_gv rfl EvO.eq v_move ?_
     refine xl_gv rfl EvO.eq v_not ?_
     refine xl_Pk ?_
     refine xl_v v_assign ?_
     refine xl_nil ?_
     refine x_seq ?_
     refine x_seq ?_
     refine x_regionL ?_
     refine xl_v v_move ?_
     refine xl_nil ?_
     refine x_condE (fun c1 => ?_) (fun c1 => ?_)
     ·
      refine x_regionL ?_
      refine xl_Fb ?_
      refine xl_Lc ?_
      refine xl_Fb ?_
      refine xl_s (e_store fun w25 l3 k3 => ?_)
      refine xl_nil ?_
      refine x_seq ?_
      have hcase : (z.x.gives m.m = true ∧ Blk w25 b5 (.cells (anC { z with x := { z.x with vote := m.m.frm } }).toArray 41 (0, 0))) ∨ (z.x.gives m.m = false ∧ Blk w25 b5 (.cells (anC z).toArray 41 (0, 0))) := by
       first
        | (refine .inl ⟨?_, k3⟩; simp at g41 g45 c1; simp [An.gives, hB, g41, g45, c1]; done)
        | (refine .inl ⟨?_, k3⟩; simp at g41 g45 g53 c1; simp [An.gives, hB, g41, g45, g53, c1]; done)
        | (refine .inl ⟨?_, k3⟩; simp at g41 g45 g53; simp [An.gives, hB, g41, g45, g53]; done)
        | (refine .inl ⟨?_, k3⟩; simp at g41 g45; simp [An.gives, hB, g41, g45]; done)
        | (refine .inr ⟨?_, ⟨Blk.eq⟩⟩; simp at g41; simp [An.gives, hB, g41]; done)
        | (refine .inr ⟨?_, ⟨Blk.eq⟩⟩; simp at g41 g45; simp [An.gives, hB, g41, g45]; done)
        | (refine .inr ⟨?_, ⟨Blk.eq⟩⟩; simp at g41 g45 c1; simp [An.gives, hB, g41, g45, c1]; done)
        | (refine .inr ⟨?_, ⟨Blk.eq⟩⟩; simp at g41 g45 g53; simp [An.gives, hB, g41, g45, g53]; done)
        | (refine .inr ⟨?_, ⟨Blk.eq⟩⟩; simp at g41 g45 g53 c1; simp [An.gives, hB, g41, g45, g53, c1]; done)
      obtain ⟨zz, hzz, kb5⟩ : ∃ zz : LAn, zz = { z with x := z.x.asked m.m } ∧ Blk w25 b5 (.cells (anC zz).toArray 41 (0, 0)) := by
       rcases hcase with ⟨e1, e2⟩ | ⟨e1, e2⟩
       ·exact ⟨_, rfl, by rw [An.asked, if_pos e1]; exact e2⟩
       ·exact ⟨_, rfl, by rw [An.asked, if_neg (by rw [e1]; decide)]; exact e2⟩
      have hb4 : w.heap.size ≤ b4 := by rw [n4.eq]; exact Ge.le
      have hzt : zz.x.term = z.x.term := by rw [hzz, An.asked]; split <;> rfl
      have hzzr : RowsAn w P zz := by rw [hzz, An.asked]; split <;> exact ⟨hzr.log, hzr.votes, hzr.next, hzr.mat, hzr.lc⟩
      refine x_drawL (NoB) (allS) (.take 0 (.take 1 (.take 2 (.take 3 (.take 5 (.take 6 (.take 7 (.take 8 (.take 9 (.take 10 (.take 11 (.take 12 (.eff 4 (.eff 13 (.last 14))))))))))))))) mixed (by kernel_rfl) (fun _ _ _ _ _ h => h) (fun w26 l26 => ?_)
      refine xt_Lb rfl ?_
      refine xt_Fb rfl ?_
      refine xt_v rfl (v_congr (u := .int .i64 (i : Int)) v_load (by rw [hm.to])) ?_
      refine xt_Lb rfl ?_
      refine xt_Fb rfl ?_
      refine xt_Lc rfl ?_
      refine xt_Fb rfl ?_
      refine xt_Lc rfl ?_
      refine xt_Fb rfl ?_
      refine xt_Lc rfl ?_
      refine xt_v rfl (v_congr (u := .bool (z.x.gives m.m)) v_move (congrArg Value.bool (by
          first
           | (simp at g41 g45 c1; simp [An.gives, hB, g41, g45, c1]; done)
           | (simp at g41 g45 g53 c1; simp [An.gives, hB, g41, g45, g53, c1]; done)
           | (simp at g41 g45 g53; simp [An.gives, hB, g41, g45, g53]; done)
           | (simp at g41 g45; simp [An.gives, hB, g41, g45]; done)
           | (simp at g41; simp [An.gives, hB, g41]; done)))) ?_
      refine xt_v rfl v_build ?_
      refine xt_call rfl (withD_ok (But P b4) R i zz w26 (butP hP Ge.le Has.lt) ((h.but hb4).ext kpc) ((hzzr.but hb4).ext kpc) hi hn5) ?_
      rintro _ w27 ⟨⟨R1, rfl, hR1, hR1n⟩, lk4w⟩
      refine ⟨kpc, ?_⟩
      have hbs1 : R1.bs.length ≤ 256 := by
       have h1 := congrArg (fun q : Dq => q.bag.length) hR1.1
       simp [LDq.pure, Dq.setN] at h1
       omega
      refine xt_call rfl (sendD_ok (But P b4) R1 ⟨{ Bl.zero with kind := 2, frm := m.m.to, to := m.m.frm, term := zz.x.term, ok := z.x.gives m.m }, none, 0⟩ w27 (butP hP Ge.le Has.lt) (hR1.2.ext kpc) (FRow.nil _ _) hbs1) ?_
      rintro _ w28 ⟨⟨R2, rfl, hR2, _⟩, lk13⟩
      refine ⟨kpc, ?_⟩
      refine xt_lastS rfl (e_storeA fun w29 l14 k14 => ?_)
      refine x_ret ?_
      refine finR (rs := [.cell 4 32]) rfl ?_
      refine ⟨⟨R2, by simp [outV], ?_, hR2.2.unbut l14.keep⟩, lkc⟩
      rw [hR2.1, hR1.1, hzt, hzz]
      unfold Dq.asked An.asked
      rw [hm.to]
      rfl
     ·
      refine x_skip ?_
      refine x_seq ?_
      have hcase : (z.x.gives m.m = true ∧ Blk w24 b5 (.cells (anC { z with x := { z.x with vote := m.m.frm } }).toArray 41 (0, 0))) ∨ (z.x.gives m.m = false ∧ Blk w24 b5 (.cells (anC z).toArray 41 (0, 0))) := by
       first
        | (refine .inl ⟨?_, k3⟩; simp at g41 g45 c1; simp [An.gives, hB, g41, g45, c1]; done)
        | (refine .inl ⟨?_, k3⟩; simp at g41 g45 g53 c1; simp [An.gives, hB, g41, g45, g53, c1]; done)
        | (refine .inl ⟨?_, k3⟩; simp at g41 g45 g53; simp [An.gives, hB, g41, g45, g53]; done)
        | (refine .inl ⟨?_, k3⟩; simp at g41 g45; simp [An.gives, hB, g41, g45]; done)
        | (refine .inr ⟨?_, ⟨Blk.eq⟩⟩; simp at g41; simp [An.gives, hB, g41]; done)
        | (refine .inr ⟨?_, ⟨Blk.eq⟩⟩; simp at g41 g45; simp [An.gives, hB, g41, g45]; done)
        | (refine .inr ⟨?_, ⟨Blk.eq⟩⟩; simp at g41 g45 c1; simp [An.gives, hB, g41, g45, c1]; done)
        | (refine .inr ⟨?_, ⟨Blk.eq⟩⟩; simp at g41 g45 g53; simp [An.gives, hB, g41, g45, g53]; done)
        | (refine .inr ⟨?_, ⟨Blk.eq⟩⟩; simp at g41 g45 g53 c1; simp [An.gives, hB, g41, g45, g53, c1]; done)
      obtain ⟨zz, hzz, kb5⟩ : ∃ zz : LAn, zz = { z with x := z.x.asked m.m } ∧ Blk w24 b5 (.cells (anC zz).toArray 41 (0, 0)) := by
       rcases hcase with ⟨e1, e2⟩ | ⟨e1, e2⟩
       ·exact ⟨_, rfl, by rw [An.asked, if_pos e1]; exact e2⟩
       ·exact ⟨_, rfl, by rw [An.asked, if_neg (by rw [e1]; decide)]; exact e2⟩
      have hb4 : w.heap.size ≤ b4 := by rw [n4.eq]; exact Ge.le
      have hzt : zz.x.term = z.x.term := by rw [hzz, An.asked]; split <;> rfl
      have hzzr : RowsAn w P zz := by rw [hzz, An.asked]; split <;> exact ⟨hzr.log, hzr.votes, hzr.next, hzr.mat, hzr.lc⟩
      refine x_drawL (NoB) (allS) (.take 0 (.take 1 (.take 2 (.take 3 (.take 5 (.take 6 (.take 7 (.take 8 (.take 9 (.take 10 (.take 11 (.take 12 (.eff 4 (.eff 13 (.last 14))))))))))))))) mixed (by kernel_rfl) (fun _ _ _ _ _ h => h) (fun w30 l30 => ?_)
      refine xt_Lb rfl ?_
      refine xt_Fb rfl ?_
      refine xt_v rfl (v_congr (u := .int .i64 (i : Int)) v_load (by rw [hm.to])) ?_
      refine xt_Lb rfl ?_
      refine xt_Fb rfl ?_
      refine xt_Lc rfl ?_
      refine xt_Fb rfl ?_
      refine xt_Lc rfl ?_
      refine xt_Fb rfl ?_
      refine xt_Lc rfl ?_
      refine xt_v rfl (v_congr (u := .bool (z.x.gives m.m)) v_move (congrArg Value.bool (by
          first
           | (simp at g41 g45 c1; simp [An.gives, hB, g41, g45, c1]; done)
           | (simp at g41 g45 g53 c1; simp [An.gives, hB, g41, g45, g53, c1]; done)
           | (simp at g41 g45 g53; simp [An.gives, hB, g41, g45, g53]; done)
           | (simp at g41 g45; simp [An.gives, hB, g41, g45]; done)
           | (simp at g41; simp [An.gives, hB, g41]; done)))) ?_
      refine xt_v rfl v_build ?_
      refine xt_call rfl (withD_ok (But P b4) R i zz w30 (butP hP Ge.le Has.lt) ((h.but hb4).ext kpc) ((hzzr.but hb4).ext kpc) hi hn5) ?_
      rintro _ w31 ⟨⟨R1, rfl, hR1, hR1n⟩, lk4w⟩
      refine ⟨kpc, ?_⟩
      have hbs1 : R1.bs.length ≤ 256 := by
       have h1 := congrArg (fun q : Dq => q.bag.length) hR1.1
       simp [LDq.pure, Dq.setN] at h1
       omega
      refine xt_call rfl (sendD_ok (But P b4) R1 ⟨{ Bl.zero with kind := 2, frm := m.m.to, to := m.m.frm, term := zz.x.term, ok := z.x.gives m.m }, none, 0⟩ w31 (butP hP Ge.le Has.lt) (hR1.2.ext kpc) (FRow.nil _ _) hbs1) ?_
      rintro _ w32 ⟨⟨R2, rfl, hR2, _⟩, lk13⟩
      refine ⟨kpc, ?_⟩
      refine xt_lastS rfl (e_storeA fun w33 l14 k14 => ?_)
      refine x_ret ?_
      refine finR (rs := [.cell 4 32]) rfl ?_
      refine ⟨⟨R2, by simp [outV], ?_, hR2.2.unbut l14.keep⟩, lkc⟩
      rw [hR2.1, hR1.1, hzt, hzz]
      unfold Dq.asked An.asked
      rw [hm.to]
      rfl
    ·
     refine xl_gFb rfl EvO.eq ?_
     refine xl_gLc rfl EvO.eq ?_
     refine xl_gFb rfl EvO.eq ?_
     refine xl_gLc rfl EvO.eq ?_
     refine xl_gv rfl EvO.eq v_eql ?_
     refine xl_gPk rfl EvO.eq ?_
     refine xl_Pk ?_
     refine xl_v v_move ?_
     refine xl_split 53 (fun g53 => ?_) (fun g53 => ?_)
     ·
      refine xl_gv rfl EvO.eq v_move ?_
      refine xl_gv rfl EvO.eq v_not ?_
      refine xl_Pk ?_
      refine xl_v v_assign ?_
      refine xl_nil ?_
      refine x_seq ?_
      refine x_seq ?_
      refine x_regionL ?_
      refine xl_v v_move ?_
      refine xl_nil ?_
      refine x_condE (fun c1 => ?_) (fun c1 => ?_)
      ·
       refine x_regionL ?_
       refine xl_Fb ?_
       refine xl_Lc ?_
       refine xl_Fb ?_
       refine xl_s (e_store fun w34 l3 k3 => ?_)
       refine xl_nil ?_
       refine x_seq ?_
       have hcase : (z.x.gives m.m = true ∧ Blk w34 b5 (.cells (anC { z with x := { z.x with vote := m.m.frm } }).toArray 41 (0, 0))) ∨ (z.x.gives m.m = false ∧ Blk w34 b5 (.cells (anC z).toArray 41 (0, 0))) := by
        first
         | (refine .inl ⟨?_, k3⟩; simp at g41 g45 c1; simp [An.gives, hB, g41, g45, c1]; done)
         | (refine .inl ⟨?_, k3⟩; simp at g41 g45 g53 c1; simp [An.gives, hB, g41, g45, g53, c1]; done)
         | (refine .inl ⟨?_, k3⟩; simp at g41 g45 g53; simp [An.gives, hB, g41, g45, g53]; done)
         | (refine .inl ⟨?_, k3⟩; simp at g41 g45; simp [An.gives, hB, g41, g45]; done)
         | (refine .inr ⟨?_, ⟨Blk.eq⟩⟩; simp at g41; simp [An.gives, hB, g41]; done)
         | (refine .inr ⟨?_, ⟨Blk.eq⟩⟩; simp at g41 g45; simp [An.gives, hB, g41, g45]; done)
         | (refine .inr ⟨?_, ⟨Blk.eq⟩⟩; simp at g41 g45 c1; simp [An.gives, hB, g41, g45, c1]; done)
         | (refine .inr ⟨?_, ⟨Blk.eq⟩⟩; simp at g41 g45 g53; simp [An.gives, hB, g41, g45, g53]; done)
         | (refine .inr ⟨?_, ⟨Blk.eq⟩⟩; simp at g41 g45 g53 c1; simp [An.gives, hB, g41, g45, g53, c1]; done)
       obtain ⟨zz, hzz, kb5⟩ : ∃ zz : LAn, zz = { z with x := z.x.asked m.m } ∧ Blk w34 b5 (.cells (anC zz).toArray 41 (0, 0)) := by
        rcases hcase with ⟨e1, e2⟩ | ⟨e1, e2⟩
        ·exact ⟨_, rfl, by rw [An.asked, if_pos e1]; exact e2⟩
        ·exact ⟨_, rfl, by rw [An.asked, if_neg (by rw [e1]; decide)]; exact e2⟩
       have hb4 : w.heap.size ≤ b4 := by rw [n4.eq]; exact Ge.le
       have hzt : zz.x.term = z.x.term := by rw [hzz, An.asked]; split <;> rfl
       have hzzr : RowsAn w P zz := by rw [hzz, An.asked]; split <;> exact ⟨hzr.log, hzr.votes, hzr.next, hzr.mat, hzr.lc⟩
       refine x_drawL (NoB) (allS) (.take 0 (.take 1 (.take 2 (.take 3 (.take 5 (.take 6 (.take 7 (.take 8 (.take 9 (.take 10 (.take 11 (.take 12 (.eff 4 (.eff 13 (.last 14))))))))))))))) mixed (by kernel_rfl) (fun _ _ _ _ _ h => h) (fun w35 l35 => ?_)
       refine xt_Lb rfl ?_
       refine xt_Fb rfl ?_
       refine xt_v rfl (v_congr (u := .int .i64 (i : Int)) v_load (by rw [hm.to])) ?_
       refine xt_Lb rfl ?_
       refine xt_Fb rfl ?_
       refine xt_Lc rfl ?_
       refine xt_Fb rfl ?_
       refine xt_Lc rfl ?_
       refine xt_Fb rfl ?_
       refine xt_Lc rfl ?_
       refine xt_v rfl (v_congr (u := .bool (z.x.gives m.m)) v_move (congrArg Value.bool (by
           first
            | (simp at g41 g45 c1; simp [An.gives, hB, g41, g45, c1]; done)
            | (simp at g41 g45 g53 c1; simp [An.gives, hB, g41, g45, g53, c1]; done)
            | (simp at g41 g45 g53; simp [An.gives, hB, g41, g45, g53]; done)
            | (simp at g41 g45; simp [An.gives, hB, g41, g45]; done)
            | (simp at g41; simp [An.gives, hB, g41]; done)))) ?_
       refine xt_v rfl v_build ?_
       refine xt_call rfl (withD_ok (But P b4) R i zz w35 (butP hP Ge.le Has.lt) ((h.but hb4).ext kpc) ((hzzr.but hb4).ext kpc) hi hn5) ?_
       rintro _ w36 ⟨⟨R1, rfl, hR1, hR1n⟩, lk4w⟩
       refine ⟨kpc, ?_⟩
       have hbs1 : R1.bs.length ≤ 256 := by
        have h1 := congrArg (fun q : Dq => q.bag.length) hR1.1
        simp [LDq.pure, Dq.setN] at h1
        omega
       refine xt_call rfl (sendD_ok (But P b4) R1 ⟨{ Bl.zero with kind := 2, frm := m.m.to, to := m.m.frm, term := zz.x.term, ok := z.x.gives m.m }, none, 0⟩ w36 (butP hP Ge.le Has.lt) (hR1.2.ext kpc) (FRow.nil _ _) hbs1) ?_
       rintro _ w37 ⟨⟨R2, rfl, hR2, _⟩, lk13⟩
       refine ⟨kpc, ?_⟩
       refine xt_lastS rfl (e_storeA fun w38 l14 k14 => ?_)
       refine x_ret ?_
       refine finR (rs := [.cell 4 32]) rfl ?_
       refine ⟨⟨R2, by simp [outV], ?_, hR2.2.unbut l14.keep⟩, lkc⟩
       rw [hR2.1, hR1.1, hzt, hzz]
       unfold Dq.asked An.asked
       rw [hm.to]
       rfl
      ·
       refine x_skip ?_
       refine x_seq ?_
       have hcase : (z.x.gives m.m = true ∧ Blk w24 b5 (.cells (anC { z with x := { z.x with vote := m.m.frm } }).toArray 41 (0, 0))) ∨ (z.x.gives m.m = false ∧ Blk w24 b5 (.cells (anC z).toArray 41 (0, 0))) := by
        first
         | (refine .inl ⟨?_, k3⟩; simp at g41 g45 c1; simp [An.gives, hB, g41, g45, c1]; done)
         | (refine .inl ⟨?_, k3⟩; simp at g41 g45 g53 c1; simp [An.gives, hB, g41, g45, g53, c1]; done)
         | (refine .inl ⟨?_, k3⟩; simp at g41 g45 g53; simp [An.gives, hB, g41, g45, g53]; done)
         | (refine .inl ⟨?_, k3⟩; simp at g41 g45; simp [An.gives, hB, g41, g45]; done)
         | (refine .inr ⟨?_, ⟨Blk.eq⟩⟩; simp at g41; simp [An.gives, hB, g41]; done)
         | (refine .inr ⟨?_, ⟨Blk.eq⟩⟩; simp at g41 g45; simp [An.gives, hB, g41, g45]; done)
         | (refine .inr ⟨?_, ⟨Blk.eq⟩⟩; simp at g41 g45 c1; simp [An.gives, hB, g41, g45, c1]; done)
         | (refine .inr ⟨?_, ⟨Blk.eq⟩⟩; simp at g41 g45 g53; simp [An.gives, hB, g41, g45, g53]; done)
         | (refine .inr ⟨?_, ⟨Blk.eq⟩⟩; simp at g41 g45 g53 c1; simp [An.gives, hB, g41, g45, g53, c1]; done)
       obtain ⟨zz, hzz, kb5⟩ : ∃ zz : LAn, zz = { z with x := z.x.asked m.m } ∧ Blk w24 b5 (.cells (anC zz).toArray 41 (0, 0)) := by
        rcases hcase with ⟨e1, e2⟩ | ⟨e1, e2⟩
        ·exact ⟨_, rfl, by rw [An.asked, if_pos e1]; exact e2⟩
        ·exact ⟨_, rfl, by rw [An.asked, if_neg (by rw [e1]; decide)]; exact e2⟩
       have hb4 : w.heap.size ≤ b4 := by rw [n4.eq]; exact Ge.le
       have hzt : zz.x.term = z.x.term := by rw [hzz, An.asked]; split <;> rfl
       have hzzr : RowsAn w P zz := by rw [hzz, An.asked]; split <;> exact ⟨hzr.log, hzr.votes, hzr.next, hzr.mat, hzr.lc⟩
       refine x_drawL (NoB) (allS) (.take 0 (.take 1 (.take 2 (.take 3 (.take 5 (.take 6 (.take 7 (.take 8 (.take 9 (.take 10 (.take 11 (.take 12 (.eff 4 (.eff 13 (.last 14))))))))))))))) mixed (by kernel_rfl) (fun _ _ _ _ _ h => h) (fun w39 l39 => ?_)
       refine xt_Lb rfl ?_
       refine xt_Fb rfl ?_
       refine xt_v rfl (v_congr (u := .int .i64 (i : Int)) v_load (by rw [hm.to])) ?_
       refine xt_Lb rfl ?_
       refine xt_Fb rfl ?_
       refine xt_Lc rfl ?_
       refine xt_Fb rfl ?_
       refine xt_Lc rfl ?_
       refine xt_Fb rfl ?_
       refine xt_Lc rfl ?_
       refine xt_v rfl (v_congr (u := .bool (z.x.gives m.m)) v_move (congrArg Value.bool (by
           first
            | (simp at g41 g45 c1; simp [An.gives, hB, g41, g45, c1]; done)
            | (simp at g41 g45 g53 c1; simp [An.gives, hB, g41, g45, g53, c1]; done)
            | (simp at g41 g45 g53; simp [An.gives, hB, g41, g45, g53]; done)
            | (simp at g41 g45; simp [An.gives, hB, g41, g45]; done)
            | (simp at g41; simp [An.gives, hB, g41]; done)))) ?_
       refine xt_v rfl v_build ?_
       refine xt_call rfl (withD_ok (But P b4) R i zz w39 (butP hP Ge.le Has.lt) ((h.but hb4).ext kpc) ((hzzr.but hb4).ext kpc) hi hn5) ?_
       rintro _ w40 ⟨⟨R1, rfl, hR1, hR1n⟩, lk4w⟩
       refine ⟨kpc, ?_⟩
       have hbs1 : R1.bs.length ≤ 256 := by
        have h1 := congrArg (fun q : Dq => q.bag.length) hR1.1
        simp [LDq.pure, Dq.setN] at h1
        omega
       refine xt_call rfl (sendD_ok (But P b4) R1 ⟨{ Bl.zero with kind := 2, frm := m.m.to, to := m.m.frm, term := zz.x.term, ok := z.x.gives m.m }, none, 0⟩ w40 (butP hP Ge.le Has.lt) (hR1.2.ext kpc) (FRow.nil _ _) hbs1) ?_
       rintro _ w41 ⟨⟨R2, rfl, hR2, _⟩, lk13⟩
       refine ⟨kpc, ?_⟩
       refine xt_lastS rfl (e_storeA fun w42 l14 k14 => ?_)
       refine x_ret ?_
       refine finR (rs := [.cell 4 32]) rfl ?_
       refine ⟨⟨R2, by simp [outV], ?_, hR2.2.unbut l14.keep⟩, lkc⟩
       rw [hR2.1, hR1.1, hzt, hzz]
       unfold Dq.asked An.asked
       rw [hm.to]
       rfl
     ·
      refine xl_gs rfl EvO.eq ?_
      refine xl_gs rfl EvO.eq ?_
      refine xl_Pk ?_
      refine xl_v v_assign ?_
      refine xl_nil ?_
      refine x_seq ?_
      refine x_seq ?_
      refine x_regionL ?_
      refine xl_v v_move ?_
      refine xl_nil ?_
      refine x_condF ?_
      refine x_skip ?_
      refine x_seq ?_
      have hcase : (z.x.gives m.m = true ∧ Blk w24 b5 (.cells (anC { z with x := { z.x with vote := m.m.frm } }).toArray 41 (0, 0))) ∨ (z.x.gives m.m = false ∧ Blk w24 b5 (.cells (anC z).toArray 41 (0, 0))) := by
       first
        | (refine .inl ⟨?_, k3⟩; simp at g41 g45 c1; simp [An.gives, hB, g41, g45, c1]; done)
        | (refine .inl ⟨?_, k3⟩; simp at g41 g45 g53 c1; simp [An.gives, hB, g41, g45, g53, c1]; done)
        | (refine .inl ⟨?_, k3⟩; simp at g41 g45 g53; simp [An.gives, hB, g41, g45, g53]; done)
        | (refine .inl ⟨?_, k3⟩; simp at g41 g45; simp [An.gives, hB, g41, g45]; done)
        | (refine .inr ⟨?_, ⟨Blk.eq⟩⟩; simp at g41; simp [An.gives, hB, g41]; done)
        | (refine .inr ⟨?_, ⟨Blk.eq⟩⟩; simp at g41 g45; simp [An.gives, hB, g41, g45]; done)
        | (refine .inr ⟨?_, ⟨Blk.eq⟩⟩; simp at g41 g45 c1; simp [An.gives, hB, g41, g45, c1]; done)
        | (refine .inr ⟨?_, ⟨Blk.eq⟩⟩; simp at g41 g45 g53; simp [An.gives, hB, g41, g45, g53]; done)
        | (refine .inr ⟨?_, ⟨Blk.eq⟩⟩; simp at g41 g45 g53 c1; simp [An.gives, hB, g41, g45, g53, c1]; done)
      obtain ⟨zz, hzz, kb5⟩ : ∃ zz : LAn, zz = { z with x := z.x.asked m.m } ∧ Blk w24 b5 (.cells (anC zz).toArray 41 (0, 0)) := by
       rcases hcase with ⟨e1, e2⟩ | ⟨e1, e2⟩
       ·exact ⟨_, rfl, by rw [An.asked, if_pos e1]; exact e2⟩
       ·exact ⟨_, rfl, by rw [An.asked, if_neg (by rw [e1]; decide)]; exact e2⟩
      have hb4 : w.heap.size ≤ b4 := by rw [n4.eq]; exact Ge.le
      have hzt : zz.x.term = z.x.term := by rw [hzz, An.asked]; split <;> rfl
      have hzzr : RowsAn w P zz := by rw [hzz, An.asked]; split <;> exact ⟨hzr.log, hzr.votes, hzr.next, hzr.mat, hzr.lc⟩
      refine x_drawL (NoB) (allS) (.take 0 (.take 1 (.take 2 (.take 3 (.take 5 (.take 6 (.take 7 (.take 8 (.take 9 (.take 10 (.take 11 (.take 12 (.eff 4 (.eff 13 (.last 14))))))))))))))) mixed (by kernel_rfl) (fun _ _ _ _ _ h => h) (fun w43 l43 => ?_)
      refine xt_Lb rfl ?_
      refine xt_Fb rfl ?_
      refine xt_v rfl (v_congr (u := .int .i64 (i : Int)) v_load (by rw [hm.to])) ?_
      refine xt_Lb rfl ?_
      refine xt_Fb rfl ?_
      refine xt_Lc rfl ?_
      refine xt_Fb rfl ?_
      refine xt_Lc rfl ?_
      refine xt_Fb rfl ?_
      refine xt_Lc rfl ?_
      refine xt_v rfl (v_congr (u := .bool (z.x.gives m.m)) v_move (congrArg Value.bool (by
          first
           | (simp at g41 g45 c1; simp [An.gives, hB, g41, g45, c1]; done)
           | (simp at g41 g45 g53 c1; simp [An.gives, hB, g41, g45, g53, c1]; done)
           | (simp at g41 g45 g53; simp [An.gives, hB, g41, g45, g53]; done)
           | (simp at g41 g45; simp [An.gives, hB, g41, g45]; done)
           | (simp at g41; simp [An.gives, hB, g41]; done)))) ?_
      refine xt_v rfl v_build ?_
      refine xt_call rfl (withD_ok (But P b4) R i zz w43 (butP hP Ge.le Has.lt) ((h.but hb4).ext kpc) ((hzzr.but hb4).ext kpc) hi hn5) ?_
      rintro _ w44 ⟨⟨R1, rfl, hR1, hR1n⟩, lk4w⟩
      refine ⟨kpc, ?_⟩
      have hbs1 : R1.bs.length ≤ 256 := by
       have h1 := congrArg (fun q : Dq => q.bag.length) hR1.1
       simp [LDq.pure, Dq.setN] at h1
       omega
      refine xt_call rfl (sendD_ok (But P b4) R1 ⟨{ Bl.zero with kind := 2, frm := m.m.to, to := m.m.frm, term := zz.x.term, ok := z.x.gives m.m }, none, 0⟩ w44 (butP hP Ge.le Has.lt) (hR1.2.ext kpc) (FRow.nil _ _) hbs1) ?_
      rintro _ w45 ⟨⟨R2, rfl, hR2, _⟩, lk13⟩
      refine ⟨kpc, ?_⟩
      refine xt_lastS rfl (e_storeA fun w46 l14 k14 => ?_)
      refine x_ret ?_
      refine finR (rs := [.cell 4 32]) rfl ?_
      refine ⟨⟨R2, by simp [outV], ?_, hR2.2.unbut l14.keep⟩, lkc⟩
      rw [hR2.1, hR1.1, hzt, hzz]
      unfold Dq.asked An.asked
      rw [hm.to]
      rfl
   ·
    refine xl_gs rfl EvO.eq ?_
    refine xl_gs rfl EvO.eq ?_
    refine xl_gs rfl EvO.eq ?_
    refine xl_gs rfl EvO.eq ?_
    refine xl_gu rfl EvO.eq ?_
    refine xl_gu rfl EvO.eq ?_
    refine xl_gu rfl EvO.eq ?_
    refine xl_gu rfl EvO.eq ?_
    refine xl_gu rfl EvO.eq ?_
    refine xl_gs rfl EvO.eq ?_
    refine xl_Pk ?_
    refine xl_v v_move ?_
    refine xl_gs rfl EvO.eq ?_
    refine xl_gs rfl EvO.eq ?_
    refine xl_Pk ?_
    refine xl_v v_assign ?_
    refine xl_nil ?_
    refine x_seq ?_
    refine x_seq ?_
    refine x_regionL ?_
    refine xl_v v_move ?_
    refine xl_nil ?_
    refine x_condF ?_
    refine x_skip ?_
    refine x_seq ?_
    have hcase : (z.x.gives m.m = true ∧ Blk w24 b5 (.cells (anC { z with x := { z.x with vote := m.m.frm } }).toArray 41 (0, 0))) ∨ (z.x.gives m.m = false ∧ Blk w24 b5 (.cells (anC z).toArray 41 (0, 0))) := by
     first
      | (refine .inl ⟨?_, k3⟩; simp at g41 g45 c1; simp [An.gives, hB, g41, g45, c1]; done)
      | (refine .inl ⟨?_, k3⟩; simp at g41 g45 g53 c1; simp [An.gives, hB, g41, g45, g53, c1]; done)
      | (refine .inl ⟨?_, k3⟩; simp at g41 g45 g53; simp [An.gives, hB, g41, g45, g53]; done)
      | (refine .inl ⟨?_, k3⟩; simp at g41 g45; simp [An.gives, hB, g41, g45]; done)
      | (refine .inr ⟨?_, ⟨Blk.eq⟩⟩; simp at g41; simp [An.gives, hB, g41]; done)
      | (refine .inr ⟨?_, ⟨Blk.eq⟩⟩; simp at g41 g45; simp [An.gives, hB, g41, g45]; done)
      | (refine .inr ⟨?_, ⟨Blk.eq⟩⟩; simp at g41 g45 c1; simp [An.gives, hB, g41, g45, c1]; done)
      | (refine .inr ⟨?_, ⟨Blk.eq⟩⟩; simp at g41 g45 g53; simp [An.gives, hB, g41, g45, g53]; done)
      | (refine .inr ⟨?_, ⟨Blk.eq⟩⟩; simp at g41 g45 g53 c1; simp [An.gives, hB, g41, g45, g53, c1]; done)
    obtain ⟨zz, hzz, kb5⟩ : ∃ zz : LAn, zz = { z with x := z.x.asked m.m } ∧ Blk w24 b5 (.cells (anC zz).toArray 41 (0, 0)) := by
     rcases hcase with ⟨e1, e2⟩ | ⟨e1, e2⟩
     ·exact ⟨_, rfl, by rw [An.asked, if_pos e1]; exact e2⟩
     ·exact ⟨_, rfl, by rw [An.asked, if_neg (by rw [e1]; decide)]; exact e2⟩
    have hb4 : w.heap.size ≤ b4 := by rw [n4.eq]; exact Ge.le
    have hzt : zz.x.term = z.x.term := by rw [hzz, An.asked]; split <;> rfl
    have hzzr : RowsAn w P zz := by rw [hzz, An.asked]; split <;> exact ⟨hzr.log, hzr.votes, hzr.next, hzr.mat, hzr.lc⟩
    refine x_drawL (NoB) (allS) (.take 0 (.take 1 (.take 2 (.take 3 (.take 5 (.take 6 (.take 7 (.take 8 (.take 9 (.take 10 (.take 11 (.take 12 (.eff 4 (.eff 13 (.last 14))))))))))))))) mixed (by kernel_rfl) (fun _ _ _ _ _ h => h) (fun w47 l47 => ?_)
    refine xt_Lb rfl ?_
    refine xt_Fb rfl ?_
    refine xt_v rfl (v_congr (u := .int .i64 (i : Int)) v_load (by rw [hm.to])) ?_
    refine xt_Lb rfl ?_
    refine xt_Fb rfl ?_
    refine xt_Lc rfl ?_
    refine xt_Fb rfl ?_
    refine xt_Lc rfl ?_
    refine xt_Fb rfl ?_
    refine xt_Lc rfl ?_
    refine xt_v rfl (v_congr (u := .bool (z.x.gives m.m)) v_move (congrArg Value.bool (by
        first
         | (simp at g41 g45 c1; simp [An.gives, hB, g41, g45, c1]; done)
         | (simp at g41 g45 g53 c1; simp [An.gives, hB, g41, g45, g53, c1]; done)
         | (simp at g41 g45 g53; simp [An.gives, hB, g41, g45, g53]; done)
         | (simp at g41 g45; simp [An.gives, hB, g41, g45]; done)
         | (simp at g41; simp [An.gives, hB, g41]; done)))) ?_
    refine xt_v rfl v_build ?_
    refine xt_call rfl (withD_ok (But P b4) R i zz w47 (butP hP Ge.le Has.lt) ((h.but hb4).ext kpc) ((hzzr.but hb4).ext kpc) hi hn5) ?_
    rintro _ w48 ⟨⟨R1, rfl, hR1, hR1n⟩, lk4w⟩
    refine ⟨kpc, ?_⟩
    have hbs1 : R1.bs.length ≤ 256 := by
     have h1 := congrArg (fun q : Dq => q.bag.length) hR1.1
     simp [LDq.pure, Dq.setN] at h1
     omega
    refine xt_call rfl (sendD_ok (But P b4) R1 ⟨{ Bl.zero with kind := 2, frm := m.m.to, to := m.m.frm, term := zz.x.term, ok := z.x.gives m.m }, none, 0⟩ w48 (butP hP Ge.le Has.lt) (hR1.2.ext kpc) (FRow.nil _ _) hbs1) ?_
    rintro _ w49 ⟨⟨R2, rfl, hR2, _⟩, lk13⟩
    refine ⟨kpc, ?_⟩
    refine xt_lastS rfl (e_storeA fun w50 l14 k14 => ?_)
    refine x_ret ?_
    refine finR (rs := [.cell 4 32]) rfl ?_
    refine ⟨⟨R2, by simp [outV], ?_, hR2.2.unbut l14.keep⟩, lkc⟩
    rw [hR2.1, hR1.1, hzt, hzz]
    unfold Dq.asked An.asked
    rw [hm.to]
    rfl
  ·
   have hB : z.x.behind m.m = false := by
    have h1 := of_decide_eq_false g20
    have h2 := of_decide_eq_false g27
    refine decide_eq_false ?_
    rintro (e | e)
    ·exact h1 e
    ·exact h2 e.1
   refine xt_gs rfl rfl EvO.eq ?_
   refine xt_gs rfl rfl EvO.eq ?_
   refine xt_gs rfl rfl EvO.eq ?_
   refine xt_gs rfl rfl EvO.eq ?_
   refine xt_gs rfl rfl EvO.eq ?_
   refine xt_gs rfl rfl EvO.eq ?_
   refine xt_gPk rfl rfl EvO.eq ?_
   refine xt_Pk rfl ?_
   refine xt_v rfl v_assign ?_
   refine xt_nil ?_
   refine x_seq ?_
   refine x_regionL ?_
   refine xl_Fb ?_
   refine xl_Lc ?_
   refine xl_Fb ?_
   refine xl_Lc ?_
   refine xl_v v_eql ?_
   refine xl_v v_move ?_
   refine xl_split 41 (fun g41 => ?_) (fun g41 => ?_)
   ·
    refine xl_gFb rfl EvO.eq ?_
    refine xl_gLc rfl EvO.eq ?_
    refine xl_gv rfl EvO.eq v_eql ?_
    refine xl_gv rfl EvO.eq v_move ?_
    refine xl_split 45 (fun g45 => ?_) (fun g45 => ?_)
    ·
     refine xl_gs rfl EvO.eq ?_
     refine xl_gs rfl EvO.eq ?_
     refine xl_gs rfl EvO.eq ?_
     refine xl_gs rfl EvO.eq ?_
     refine xl_gs rfl EvO.eq ?_
     refine xl_gPk rfl EvO.eq ?_
     refine xl_Pk ?_
     refine xl_v v_move ?_
     refine xl_gv rfl EvO.eq v_move ?_
     refine xl_gv rfl EvO.eq v_not ?_
     refine xl_Pk ?_
     refine xl_v v_assign ?_
     refine xl_nil ?_
     refine x_seq ?_
     refine x_seq ?_
     refine x_regionL ?_
     refine xl_v v_move ?_
     refine xl_nil ?_
     refine x_condT ?_
     refine x_regionL ?_
     refine xl_Fb ?_
     refine xl_Lc ?_
     refine xl_Fb ?_
     refine xl_s (e_store fun w51 l3 k3 => ?_)
     refine xl_nil ?_
     refine x_seq ?_
     have hcase : (z.x.gives m.m = true ∧ Blk w51 b5 (.cells (anC { z with x := { z.x with vote := m.m.frm } }).toArray 41 (0, 0))) ∨ (z.x.gives m.m = false ∧ Blk w51 b5 (.cells (anC z).toArray 41 (0, 0))) := by
      first
       | (refine .inl ⟨?_, k3⟩; simp at g41 g45 c1; simp [An.gives, hB, g41, g45, c1]; done)
       | (refine .inl ⟨?_, k3⟩; simp at g41 g45 g53 c1; simp [An.gives, hB, g41, g45, g53, c1]; done)
       | (refine .inl ⟨?_, k3⟩; simp at g41 g45 g53; simp [An.gives, hB, g41, g45, g53]; done)
       | (refine .inl ⟨?_, k3⟩; simp at g41 g45; simp [An.gives, hB, g41, g45]; done)
       | (refine .inr ⟨?_, ⟨Blk.eq⟩⟩; simp at g41; simp [An.gives, hB, g41]; done)
       | (refine .inr ⟨?_, ⟨Blk.eq⟩⟩; simp at g41 g45; simp [An.gives, hB, g41, g45]; done)
       | (refine .inr ⟨?_, ⟨Blk.eq⟩⟩; simp at g41 g45 c1; simp [An.gives, hB, g41, g45, c1]; done)
       | (refine .inr ⟨?_, ⟨Blk.eq⟩⟩; simp at g41 g45 g53; simp [An.gives, hB, g41, g45, g53]; done)
       | (refine .inr ⟨?_, ⟨Blk.eq⟩⟩; simp at g41 g45 g53 c1; simp [An.gives, hB, g41, g45, g53, c1]; done)
     obtain ⟨zz, hzz, kb5⟩ : ∃ zz : LAn, zz = { z with x := z.x.asked m.m } ∧ Blk w51 b5 (.cells (anC zz).toArray 41 (0, 0)) := by
      rcases hcase with ⟨e1, e2⟩ | ⟨e1, e2⟩
      ·exact ⟨_, rfl, by rw [An.asked, if_pos e1]; exact e2⟩
      ·exact ⟨_, rfl, by rw [An.asked, if_neg (by rw [e1]; decide)]; exact e2⟩
     have hb4 : w.heap.size ≤ b4 := by rw [n4.eq]; exact Ge.le
     have hzt : zz.x.term = z.x.term := by rw [hzz, An.asked]; split <;> rfl
     have hzzr : RowsAn w P zz := by rw [hzz, An.asked]; split <;> exact ⟨hzr.log, hzr.votes, hzr.next, hzr.mat, hzr.lc⟩
     refine x_drawL (NoB) (allS) (.take 0 (.take 1 (.take 2 (.take 3 (.take 5 (.take 6 (.take 7 (.take 8 (.take 9 (.take 10 (.take 11 (.take 12 (.eff 4 (.eff 13 (.last 14))))))))))))))) mixed (by kernel_rfl) (fun _ _ _ _ _ h => h) (fun w52 l52 => ?_)
     refine xt_Lb rfl ?_
     refine xt_Fb rfl ?_
     refine xt_v rfl (v_congr (u := .int .i64 (i : Int)) v_load (by rw [hm.to])) ?_
     refine xt_Lb rfl ?_
     refine xt_Fb rfl ?_
     refine xt_Lc rfl ?_
     refine xt_Fb rfl ?_
     refine xt_Lc rfl ?_
     refine xt_Fb rfl ?_
     refine xt_Lc rfl ?_
     refine xt_v rfl (v_congr (u := .bool (z.x.gives m.m)) v_move (congrArg Value.bool (by
         first
          | (simp at g41 g45 c1; simp [An.gives, hB, g41, g45, c1]; done)
          | (simp at g41 g45 g53 c1; simp [An.gives, hB, g41, g45, g53, c1]; done)
          | (simp at g41 g45 g53; simp [An.gives, hB, g41, g45, g53]; done)
          | (simp at g41 g45; simp [An.gives, hB, g41, g45]; done)
          | (simp at g41; simp [An.gives, hB, g41]; done)))) ?_
     refine xt_v rfl v_build ?_
     refine xt_call rfl (withD_ok (But P b4) R i zz w52 (butP hP Ge.le Has.lt) ((h.but hb4).ext kpc) ((hzzr.but hb4).ext kpc) hi hn5) ?_
     rintro _ w53 ⟨⟨R1, rfl, hR1, hR1n⟩, lk4w⟩
     refine ⟨kpc, ?_⟩
     have hbs1 : R1.bs.length ≤ 256 := by
      have h1 := congrArg (fun q : Dq => q.bag.length) hR1.1
      simp [LDq.pure, Dq.setN] at h1
      omega
     refine xt_call rfl (sendD_ok (But P b4) R1 ⟨{ Bl.zero with kind := 2, frm := m.m.to, to := m.m.frm, term := zz.x.term, ok := z.x.gives m.m }, none, 0⟩ w53 (butP hP Ge.le Has.lt) (hR1.2.ext kpc) (FRow.nil _ _) hbs1) ?_
     rintro _ w54 ⟨⟨R2, rfl, hR2, _⟩, lk13⟩
     refine ⟨kpc, ?_⟩
     refine xt_lastS rfl (e_storeA fun w55 l14 k14 => ?_)
     refine x_ret ?_
     refine finR (rs := [.cell 4 32]) rfl ?_
     refine ⟨⟨R2, by simp [outV], ?_, hR2.2.unbut l14.keep⟩, lkc⟩
     rw [hR2.1, hR1.1, hzt, hzz]
     unfold Dq.asked An.asked
     rw [hm.to]
     rfl
    ·
     refine xl_gFb rfl EvO.eq ?_
     refine xl_gLc rfl EvO.eq ?_
     refine xl_gFb rfl EvO.eq ?_
     refine xl_gLc rfl EvO.eq ?_
     refine xl_gv rfl EvO.eq v_eql ?_
     refine xl_gPk rfl EvO.eq ?_
     refine xl_Pk ?_
     refine xl_v v_move ?_
     refine xl_split 53 (fun g53 => ?_) (fun g53 => ?_)
     ·
      refine xl_gv rfl EvO.eq v_move ?_
      refine xl_gv rfl EvO.eq v_not ?_
      refine xl_Pk ?_
      refine xl_v v_assign ?_
      refine xl_nil ?_
      refine x_seq ?_
      refine x_seq ?_
      refine x_regionL ?_
      refine xl_v v_move ?_
      refine xl_nil ?_
      refine x_condT ?_
      refine x_regionL ?_
      refine xl_Fb ?_
      refine xl_Lc ?_
      refine xl_Fb ?_
      refine xl_s (e_store fun w56 l3 k3 => ?_)
      refine xl_nil ?_
      refine x_seq ?_
      have hcase : (z.x.gives m.m = true ∧ Blk w56 b5 (.cells (anC { z with x := { z.x with vote := m.m.frm } }).toArray 41 (0, 0))) ∨ (z.x.gives m.m = false ∧ Blk w56 b5 (.cells (anC z).toArray 41 (0, 0))) := by
       first
        | (refine .inl ⟨?_, k3⟩; simp at g41 g45 c1; simp [An.gives, hB, g41, g45, c1]; done)
        | (refine .inl ⟨?_, k3⟩; simp at g41 g45 g53 c1; simp [An.gives, hB, g41, g45, g53, c1]; done)
        | (refine .inl ⟨?_, k3⟩; simp at g41 g45 g53; simp [An.gives, hB, g41, g45, g53]; done)
        | (refine .inl ⟨?_, k3⟩; simp at g41 g45; simp [An.gives, hB, g41, g45]; done)
        | (refine .inr ⟨?_, ⟨Blk.eq⟩⟩; simp at g41; simp [An.gives, hB, g41]; done)
        | (refine .inr ⟨?_, ⟨Blk.eq⟩⟩; simp at g41 g45; simp [An.gives, hB, g41, g45]; done)
        | (refine .inr ⟨?_, ⟨Blk.eq⟩⟩; simp at g41 g45 c1; simp [An.gives, hB, g41, g45, c1]; done)
        | (refine .inr ⟨?_, ⟨Blk.eq⟩⟩; simp at g41 g45 g53; simp [An.gives, hB, g41, g45, g53]; done)
        | (refine .inr ⟨?_, ⟨Blk.eq⟩⟩; simp at g41 g45 g53 c1; simp [An.gives, hB, g41, g45, g53, c1]; done)
      obtain ⟨zz, hzz, kb5⟩ : ∃ zz : LAn, zz = { z with x := z.x.asked m.m } ∧ Blk w56 b5 (.cells (anC zz).toArray 41 (0, 0)) := by
       rcases hcase with ⟨e1, e2⟩ | ⟨e1, e2⟩
       ·exact ⟨_, rfl, by rw [An.asked, if_pos e1]; exact e2⟩
       ·exact ⟨_, rfl, by rw [An.asked, if_neg (by rw [e1]; decide)]; exact e2⟩
      have hb4 : w.heap.size ≤ b4 := by rw [n4.eq]; exact Ge.le
      have hzt : zz.x.term = z.x.term := by rw [hzz, An.asked]; split <;> rfl
      have hzzr : RowsAn w P zz := by rw [hzz, An.asked]; split <;> exact ⟨hzr.log, hzr.votes, hzr.next, hzr.mat, hzr.lc⟩
      refine x_drawL (NoB) (allS) (.take 0 (.take 1 (.take 2 (.take 3 (.take 5 (.take 6 (.take 7 (.take 8 (.take 9 (.take 10 (.take 11 (.take 12 (.eff 4 (.eff 13 (.last 14))))))))))))))) mixed (by kernel_rfl) (fun _ _ _ _ _ h => h) (fun w57 l57 => ?_)
      refine xt_Lb rfl ?_
      refine xt_Fb rfl ?_
      refine xt_v rfl (v_congr (u := .int .i64 (i : Int)) v_load (by rw [hm.to])) ?_
      refine xt_Lb rfl ?_
      refine xt_Fb rfl ?_
      refine xt_Lc rfl ?_
      refine xt_Fb rfl ?_
      refine xt_Lc rfl ?_
      refine xt_Fb rfl ?_
      refine xt_Lc rfl ?_
      refine xt_v rfl (v_congr (u := .bool (z.x.gives m.m)) v_move (congrArg Value.bool (by
          first
           | (simp at g41 g45 c1; simp [An.gives, hB, g41, g45, c1]; done)
           | (simp at g41 g45 g53 c1; simp [An.gives, hB, g41, g45, g53, c1]; done)
           | (simp at g41 g45 g53; simp [An.gives, hB, g41, g45, g53]; done)
           | (simp at g41 g45; simp [An.gives, hB, g41, g45]; done)
           | (simp at g41; simp [An.gives, hB, g41]; done)))) ?_
      refine xt_v rfl v_build ?_
      refine xt_call rfl (withD_ok (But P b4) R i zz w57 (butP hP Ge.le Has.lt) ((h.but hb4).ext kpc) ((hzzr.but hb4).ext kpc) hi hn5) ?_
      rintro _ w58 ⟨⟨R1, rfl, hR1, hR1n⟩, lk4w⟩
      refine ⟨kpc, ?_⟩
      have hbs1 : R1.bs.length ≤ 256 := by
       have h1 := congrArg (fun q : Dq => q.bag.length) hR1.1
       simp [LDq.pure, Dq.setN] at h1
       omega
      refine xt_call rfl (sendD_ok (But P b4) R1 ⟨{ Bl.zero with kind := 2, frm := m.m.to, to := m.m.frm, term := zz.x.term, ok := z.x.gives m.m }, none, 0⟩ w58 (butP hP Ge.le Has.lt) (hR1.2.ext kpc) (FRow.nil _ _) hbs1) ?_
      rintro _ w59 ⟨⟨R2, rfl, hR2, _⟩, lk13⟩
      refine ⟨kpc, ?_⟩
      refine xt_lastS rfl (e_storeA fun w60 l14 k14 => ?_)
      refine x_ret ?_
      refine finR (rs := [.cell 4 32]) rfl ?_
      refine ⟨⟨R2, by simp [outV], ?_, hR2.2.unbut l14.keep⟩, lkc⟩
      rw [hR2.1, hR1.1, hzt, hzz]
      unfold Dq.asked An.asked
      rw [hm.to]
      rfl
     ·
      refine xl_gs rfl EvO.eq ?_
      refine xl_gs rfl EvO.eq ?_
      refine xl_Pk ?_
      refine xl_v v_assign ?_
      refine xl_nil ?_
      refine x_seq ?_
      refine x_seq ?_
      refine x_regionL ?_
      refine xl_v v_move ?_
      refine xl_nil ?_
      refine x_condF ?_
      refine x_skip ?_
      refine x_seq ?_
      have hcase : (z.x.gives m.m = true ∧ Blk w24 b5 (.cells (anC { z with x := { z.x with vote := m.m.frm } }).toArray 41 (0, 0))) ∨ (z.x.gives m.m = false ∧ Blk w24 b5 (.cells (anC z).toArray 41 (0, 0))) := by
       first
        | (refine .inl ⟨?_, k3⟩; simp at g41 g45 c1; simp [An.gives, hB, g41, g45, c1]; done)
        | (refine .inl ⟨?_, k3⟩; simp at g41 g45 g53 c1; simp [An.gives, hB, g41, g45, g53, c1]; done)
        | (refine .inl ⟨?_, k3⟩; simp at g41 g45 g53; simp [An.gives, hB, g41, g45, g53]; done)
        | (refine .inl ⟨?_, k3⟩; simp at g41 g45; simp [An.gives, hB, g41, g45]; done)
        | (refine .inr ⟨?_, ⟨Blk.eq⟩⟩; simp at g41; simp [An.gives, hB, g41]; done)
        | (refine .inr ⟨?_, ⟨Blk.eq⟩⟩; simp at g41 g45; simp [An.gives, hB, g41, g45]; done)
        | (refine .inr ⟨?_, ⟨Blk.eq⟩⟩; simp at g41 g45 c1; simp [An.gives, hB, g41, g45, c1]; done)
        | (refine .inr ⟨?_, ⟨Blk.eq⟩⟩; simp at g41 g45 g53; simp [An.gives, hB, g41, g45, g53]; done)
        | (refine .inr ⟨?_, ⟨Blk.eq⟩⟩; simp at g41 g45 g53 c1; simp [An.gives, hB, g41, g45, g53, c1]; done)
      obtain ⟨zz, hzz, kb5⟩ : ∃ zz : LAn, zz = { z with x := z.x.asked m.m } ∧ Blk w24 b5 (.cells (anC zz).toArray 41 (0, 0)) := by
       rcases hcase with ⟨e1, e2⟩ | ⟨e1, e2⟩
       ·exact ⟨_, rfl, by rw [An.asked, if_pos e1]; exact e2⟩
       ·exact ⟨_, rfl, by rw [An.asked, if_neg (by rw [e1]; decide)]; exact e2⟩
      have hb4 : w.heap.size ≤ b4 := by rw [n4.eq]; exact Ge.le
      have hzt : zz.x.term = z.x.term := by rw [hzz, An.asked]; split <;> rfl
      have hzzr : RowsAn w P zz := by rw [hzz, An.asked]; split <;> exact ⟨hzr.log, hzr.votes, hzr.next, hzr.mat, hzr.lc⟩
      refine x_drawL (NoB) (allS) (.take 0 (.take 1 (.take 2 (.take 3 (.take 5 (.take 6 (.take 7 (.take 8 (.take 9 (.take 10 (.take 11 (.take 12 (.eff 4 (.eff 13 (.last 14))))))))))))))) mixed (by kernel_rfl) (fun _ _ _ _ _ h => h) (fun w61 l61 => ?_)
      refine xt_Lb rfl ?_
      refine xt_Fb rfl ?_
      refine xt_v rfl (v_congr (u := .int .i64 (i : Int)) v_load (by rw [hm.to])) ?_
      refine xt_Lb rfl ?_
      refine xt_Fb rfl ?_
      refine xt_Lc rfl ?_
      refine xt_Fb rfl ?_
      refine xt_Lc rfl ?_
      refine xt_Fb rfl ?_
      refine xt_Lc rfl ?_
      refine xt_v rfl (v_congr (u := .bool (z.x.gives m.m)) v_move (congrArg Value.bool (by
          first
           | (simp at g41 g45 c1; simp [An.gives, hB, g41, g45, c1]; done)
           | (simp at g41 g45 g53 c1; simp [An.gives, hB, g41, g45, g53, c1]; done)
           | (simp at g41 g45 g53; simp [An.gives, hB, g41, g45, g53]; done)
           | (simp at g41 g45; simp [An.gives, hB, g41, g45]; done)
           | (simp at g41; simp [An.gives, hB, g41]; done)))) ?_
      refine xt_v rfl v_build ?_
      refine xt_call rfl (withD_ok (But P b4) R i zz w61 (butP hP Ge.le Has.lt) ((h.but hb4).ext kpc) ((hzzr.but hb4).ext kpc) hi hn5) ?_
      rintro _ w62 ⟨⟨R1, rfl, hR1, hR1n⟩, lk4w⟩
      refine ⟨kpc, ?_⟩
      have hbs1 : R1.bs.length ≤ 256 := by
       have h1 := congrArg (fun q : Dq => q.bag.length) hR1.1
       simp [LDq.pure, Dq.setN] at h1
       omega
      refine xt_call rfl (sendD_ok (But P b4) R1 ⟨{ Bl.zero with kind := 2, frm := m.m.to, to := m.m.frm, term := zz.x.term, ok := z.x.gives m.m }, none, 0⟩ w62 (butP hP Ge.le Has.lt) (hR1.2.ext kpc) (FRow.nil _ _) hbs1) ?_
      rintro _ w63 ⟨⟨R2, rfl, hR2, _⟩, lk13⟩
      refine ⟨kpc, ?_⟩
      refine xt_lastS rfl (e_storeA fun w64 l14 k14 => ?_)
      refine x_ret ?_
      refine finR (rs := [.cell 4 32]) rfl ?_
      refine ⟨⟨R2, by simp [outV], ?_, hR2.2.unbut l14.keep⟩, lkc⟩
      rw [hR2.1, hR1.1, hzt, hzz]
      unfold Dq.asked An.asked
      rw [hm.to]
      rfl
   ·
    refine xl_gs rfl EvO.eq ?_
    refine xl_gs rfl EvO.eq ?_
    refine xl_gs rfl EvO.eq ?_
    refine xl_gs rfl EvO.eq ?_
    refine xl_gu rfl EvO.eq ?_
    refine xl_gu rfl EvO.eq ?_
    refine xl_gu rfl EvO.eq ?_
    refine xl_gu rfl EvO.eq ?_
    refine xl_gu rfl EvO.eq ?_
    refine xl_gs rfl EvO.eq ?_
    refine xl_Pk ?_
    refine xl_v v_move ?_
    refine xl_gs rfl EvO.eq ?_
    refine xl_gs rfl EvO.eq ?_
    refine xl_Pk ?_
    refine xl_v v_assign ?_
    refine xl_nil ?_
    refine x_seq ?_
    refine x_seq ?_
    refine x_regionL ?_
    refine xl_v v_move ?_
    refine xl_nil ?_
    refine x_condF ?_
    refine x_skip ?_
    refine x_seq ?_
    have hcase : (z.x.gives m.m = true ∧ Blk w24 b5 (.cells (anC { z with x := { z.x with vote := m.m.frm } }).toArray 41 (0, 0))) ∨ (z.x.gives m.m = false ∧ Blk w24 b5 (.cells (anC z).toArray 41 (0, 0))) := by
     first
      | (refine .inl ⟨?_, k3⟩; simp at g41 g45 c1; simp [An.gives, hB, g41, g45, c1]; done)
      | (refine .inl ⟨?_, k3⟩; simp at g41 g45 g53 c1; simp [An.gives, hB, g41, g45, g53, c1]; done)
      | (refine .inl ⟨?_, k3⟩; simp at g41 g45 g53; simp [An.gives, hB, g41, g45, g53]; done)
      | (refine .inl ⟨?_, k3⟩; simp at g41 g45; simp [An.gives, hB, g41, g45]; done)
      | (refine .inr ⟨?_, ⟨Blk.eq⟩⟩; simp at g41; simp [An.gives, hB, g41]; done)
      | (refine .inr ⟨?_, ⟨Blk.eq⟩⟩; simp at g41 g45; simp [An.gives, hB, g41, g45]; done)
      | (refine .inr ⟨?_, ⟨Blk.eq⟩⟩; simp at g41 g45 c1; simp [An.gives, hB, g41, g45, c1]; done)
      | (refine .inr ⟨?_, ⟨Blk.eq⟩⟩; simp at g41 g45 g53; simp [An.gives, hB, g41, g45, g53]; done)
      | (refine .inr ⟨?_, ⟨Blk.eq⟩⟩; simp at g41 g45 g53 c1; simp [An.gives, hB, g41, g45, g53, c1]; done)
    obtain ⟨zz, hzz, kb5⟩ : ∃ zz : LAn, zz = { z with x := z.x.asked m.m } ∧ Blk w24 b5 (.cells (anC zz).toArray 41 (0, 0)) := by
     rcases hcase with ⟨e1, e2⟩ | ⟨e1, e2⟩
     ·exact ⟨_, rfl, by rw [An.asked, if_pos e1]; exact e2⟩
     ·exact ⟨_, rfl, by rw [An.asked, if_neg (by rw [e1]; decide)]; exact e2⟩
    have hb4 : w.heap.size ≤ b4 := by rw [n4.eq]; exact Ge.le
    have hzt : zz.x.term = z.x.term := by rw [hzz, An.asked]; split <;> rfl
    have hzzr : RowsAn w P zz := by rw [hzz, An.asked]; split <;> exact ⟨hzr.log, hzr.votes, hzr.next, hzr.mat, hzr.lc⟩
    refine x_drawL (NoB) (allS) (.take 0 (.take 1 (.take 2 (.take 3 (.take 5 (.take 6 (.take 7 (.take 8 (.take 9 (.take 10 (.take 11 (.take 12 (.eff 4 (.eff 13 (.last 14))))))))))))))) mixed (by kernel_rfl) (fun _ _ _ _ _ h => h) (fun w65 l65 => ?_)
    refine xt_Lb rfl ?_
    refine xt_Fb rfl ?_
    refine xt_v rfl (v_congr (u := .int .i64 (i : Int)) v_load (by rw [hm.to])) ?_
    refine xt_Lb rfl ?_
    refine xt_Fb rfl ?_
    refine xt_Lc rfl ?_
    refine xt_Fb rfl ?_
    refine xt_Lc rfl ?_
    refine xt_Fb rfl ?_
    refine xt_Lc rfl ?_
    refine xt_v rfl (v_congr (u := .bool (z.x.gives m.m)) v_move (congrArg Value.bool (by
        first
         | (simp at g41 g45 c1; simp [An.gives, hB, g41, g45, c1]; done)
         | (simp at g41 g45 g53 c1; simp [An.gives, hB, g41, g45, g53, c1]; done)
         | (simp at g41 g45 g53; simp [An.gives, hB, g41, g45, g53]; done)
         | (simp at g41 g45; simp [An.gives, hB, g41, g45]; done)
         | (simp at g41; simp [An.gives, hB, g41]; done)))) ?_
    refine xt_v rfl v_build ?_
    refine xt_call rfl (withD_ok (But P b4) R i zz w65 (butP hP Ge.le Has.lt) ((h.but hb4).ext kpc) ((hzzr.but hb4).ext kpc) hi hn5) ?_
    rintro _ w66 ⟨⟨R1, rfl, hR1, hR1n⟩, lk4w⟩
    refine ⟨kpc, ?_⟩
    have hbs1 : R1.bs.length ≤ 256 := by
     have h1 := congrArg (fun q : Dq => q.bag.length) hR1.1
     simp [LDq.pure, Dq.setN] at h1
     omega
    refine xt_call rfl (sendD_ok (But P b4) R1 ⟨{ Bl.zero with kind := 2, frm := m.m.to, to := m.m.frm, term := zz.x.term, ok := z.x.gives m.m }, none, 0⟩ w66 (butP hP Ge.le Has.lt) (hR1.2.ext kpc) (FRow.nil _ _) hbs1) ?_
    rintro _ w67 ⟨⟨R2, rfl, hR2, _⟩, lk13⟩
    refine ⟨kpc, ?_⟩
    refine xt_lastS rfl (e_storeA fun w68 l14 k14 => ?_)
    refine x_ret ?_
    refine finR (rs := [.cell 4 32]) rfl ?_
    refine ⟨⟨R2, by simp [outV], ?_, hR2.2.unbut l14.keep⟩, lkc⟩
    rw [hR2.1, hR1.1, hzt, hzz]
    unfold Dq.asked An.asked
    rw [hm.to]
    rfl
end Go.Proofs.YtljdkelgapndgaaGreat
