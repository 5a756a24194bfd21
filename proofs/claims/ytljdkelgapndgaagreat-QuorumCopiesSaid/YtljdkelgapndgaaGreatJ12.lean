/-
 Walks, printed by a program of this workplace (wip/tools/sx.py) off the functions' code and a text of contracts.
-/
import Derived.Test.YtljdkelgapndgaaGreatJ11
set_option linter.all false
set_option maxRecDepth 100000
set_option synthInstance.maxSize 100000
set_option synthInstance.maxHeartbeats 400000
namespace Go.Proofs.YtljdkelgapndgaaGreat
open Go.Wst
open Go.Wst.Qm
theorem matchedD_yes {x : An} {m : Bl} {fn : Nat} (hf : m.frm = (fn : Int)) (hok : m.ok = true) (hl : fn < x.mat.length) : x.matched m = { x with mat := x.mat.set fn (max (x.mat.getD fn 0) m.mat), next := x.next.set fn (max (x.next.getD fn 0) ((x.mat.set fn (max (x.mat.getD fn 0) m.mat)).getD fn 0)) } := by
 unfold An.matched
 rw [if_pos hok, getD_set_self hl, hf]
 rfl
theorem matchedD_no {x : An} {m : Bl} {fn : Nat} (hf : m.frm = (fn : Int)) (hok : ¬ m.ok = true) : x.matched m = { x with next := x.next.set fn (max (x.mat.getD fn 0) (min (x.next.getD fn 0) m.mat)) } := by
 unfold An.matched
 rw [if_neg hok, hf]
 rfl
theorem getD_at {l : List Int} {k : Nat} (h : k < l.length) : l[k] = l.getD k 0 := by
 rw [List.getD_eq_getElem?_getD, List.getElem?_eq_getElem h]; rfl
set_option maxHeartbeats 1000000 in
theorem matchedD_ok (P : Nat → Prop) (R : LDq) (i : Nat) (z : LAn) (m : LBl) (w : World) (hP : ∀ k, w.heap.size ≤ k → P k) (h : RefAt w P R) (hz : R.ns[i]? = some z) (hm : MsgD w P R i m) (hn5 : R.ns.length ≤ 5) (hll : z.x.log.length ≤ 256) (hc0 : 0 ≤ z.x.commit) (h3 : z.x.role = 3 → z.x.mat.length = R.ns.length ∧ z.x.next.length = R.ns.length) : Ret Tryz.prog 55 #[.agg (dqC R).toArray, .agg (blC m).toArray] w (fun v w' => (∃ R', v = .agg (dqC R').toArray ∧ RMade P w' (R.pure.matched m.m z.x) R') ∧ Lk w' w NoB) := by
 haveI hrb : Row w R.NA (R.ns.flatMap anC) := ⟨h.nodes.row⟩
 have hi : i < R.ns.length := (List.getElem?_eq_some_iff.1 hz).1
 have hzi : R.ns[i] = z := (List.getElem?_eq_some_iff.1 hz).2
 have hzr := h.rows z (List.mem_of_getElem? hz)
 haveI holdN : OldA w R.NA := ⟨fun a ha => (h.nodes.blk a ha).2⟩
 haveI hrl : Row w z.LA (cmdsC z.x.log) := ⟨hzr.log.row⟩
 haveI hrm : Row w z.MA (ints z.x.mat) := ⟨hzr.mat.row⟩
 haveI hrx : Row w z.XA (ints z.x.next) := ⟨hzr.next.row⟩
 haveI holdL : OldA w z.LA := ⟨fun a ha => (hzr.log.blk a ha).2⟩
 haveI holdM : OldA w z.MA := ⟨fun a ha => (hzr.mat.blk a ha).2⟩
 haveI holdX : OldA w z.XA := ⟨fun a ha => (hzr.next.blk a ha).2⟩
 refine ret_of_x (N := 89) (l := [.agg (dqC R).toArray, .agg (blC m).toArray]) Tryz.func55 rfl rfl (Nat.le_of_ble_eq_true rfl) ?_
 refine x_seq ?_
 refine x_regionL ?_
 refine xl_e (e_box fun b1 w1 n1 l1 k1 => ?_)
 refine xl_e (e_box fun b2 w2 n2 l2 k2 => ?_)
 refine xl_e (e_alloc fun b4 w3 n4 l4 k4 => ?_)
 refine xl_nil ?_
 refine x_seq ?_
 refine x_regionL ?_
 refine xl_Fb ?_
 refine xl_Lc ?_
 refine xl_Fb ?_
 refine xl_Lc ?_
 refine xl_v (v_indexF i (by decide) hm.to (by omega) hi) ?_
 refine xl_v (v_congr (u := .agg (anC z).toArray) (v_loadF (k := i) (by decide) hi) (by rw [hzi])) ?_
 refine xl_e (e_alloc fun b5 w4 n5 l5 k5 => ?_)
 refine xl_s (e_storeA fun w5 l7 k7 => ?_)
 refine xl_nil ?_
 refine x_seq ?_
 refine x_seq ?_
 refine x_regionL ?_
 refine xl_Fb ?_
 refine xl_Lc ?_
 refine xl_v v_neq ?_
 refine xl_v v_move ?_
 refine xl_split 15 (fun g15 => ?_) (fun g15 => ?_)
 ·
  refine xl_gs rfl EvO.eq ?_
  refine xl_gs rfl EvO.eq ?_
  refine xl_gs rfl EvO.eq ?_
  refine xl_gs rfl EvO.eq ?_
  refine xl_gs rfl EvO.eq ?_
  refine xl_Pk ?_
  refine xl_nil ?_
  refine x_condT ?_
  refine x_seq ?_
  refine x_regionL ?_
  refine xl_Lb ?_
  refine xl_s (e_storeA fun w6 l6 k6 => ?_)
  refine xl_nil ?_
  refine x_ret ?_
  refine finR (rs := [.cell 4 32]) rfl ?_
  refine ⟨⟨R, by simp [outV], ?_, h.ext kpc⟩, lkc⟩
  refine (if_pos ?_).symm
  first
   | exact .inl (by simpa using g15)
   | exact .inr (by simpa using c1)
 ·
  refine xl_gFb rfl EvO.eq ?_
  refine xl_gLc rfl EvO.eq ?_
  refine xl_gFb rfl EvO.eq ?_
  refine xl_gLc rfl EvO.eq ?_
  refine xl_gv rfl EvO.eq v_neq ?_
  refine xl_Pk ?_
  refine xl_nil ?_
  refine x_condE (fun c1 => ?_) (fun c1 => ?_)
  ·
   refine x_seq ?_
   refine x_regionL ?_
   refine xl_Lb ?_
   refine xl_s (e_storeA fun w7 l7 k7 => ?_)
   refine xl_nil ?_
   refine x_ret ?_
   refine finR (rs := [.cell 4 32]) rfl ?_
   refine ⟨⟨R, by simp [outV], ?_, h.ext kpc⟩, lkc⟩
   refine (if_pos ?_).symm
   first
    | exact .inl (by simpa using g15)
    | exact .inr (by simpa using c1)
  ·
   have hr3 : z.x.role = 3 := by
    first
     | (exfalso; simp at c1; done)
     | simpa using g15
   have hmt : m.m.term = z.x.term := by simpa using c1
   have hyes : ¬ (z.x.role ≠ 3 ∨ m.m.term ≠ z.x.term) := by rintro (e | e); exact e hr3; exact e hmt
   obtain ⟨hml, hnl⟩ := h3 hr3
   obtain ⟨fn, hfn⟩ : ∃ fn : Nat, m.m.frm = (fn : Int) := ⟨m.m.frm.toNat, by have := hm.f.1; omega⟩
   have hfl : fn < R.ns.length := by have := hm.f.2; omega
   have hb4 : w.heap.size ≤ b4 := by rw [n4.eq]; exact Ge.le
   have hb45 : b4 < b5 := by rw [n5.eq]; exact Has.lt
   refine x_skip ?_
   refine x_seq ?_
   refine x_seq ?_
   refine x_regionL ?_
   refine xl_Fb ?_
   refine xl_Lc ?_
   refine xl_nil ?_
   refine x_condE (fun c2 => ?_) (fun c2 => ?_)
   ·
    refine x_seq ?_
    refine x_drawL (NoB) (allS) (.take 0 (.take 1 (.take 2 (.take 3 (.take 4 (.take 5 (.take 6 (.take 7 (.take 8 (.take 9 (.take 10 (.take 11 (.take 12 (.eff 13 (.take 14 (.last 15)))))))))))))))) mixed (by kernel_rfl) (fun _ _ _ _ _ h => h) (fun w8 l8 => ?_)
    refine xt_Fb rfl ?_
    refine xt_Lc rfl ?_
    refine xt_Fb rfl ?_
    refine xt_v rfl (v_congr (u := .int .i64 (fn : Int)) v_load (by rw [hfn])) ?_
    refine xt_Fb rfl ?_
    refine xt_Lc rfl ?_
    refine xt_Fb rfl ?_
    refine xt_Lc rfl ?_
    refine xt_v rfl (v_indexO fn hfn (by omega) (by omega)) ?_
    refine xt_v rfl (v_congr (u := .int .i64 (z.x.mat.getD fn 0)) (v_loadO (k := fn) (by omega)) (congrArg (Value.int .i64) (getD_at (by omega)))) ?_
    refine xt_Fb rfl ?_
    refine xt_Lc rfl ?_
    refine xt_v rfl v_max ?_
    refine xt_call rfl (setD_ok z.MA z.x.mat.length z.mc z.x.mat fn (max (z.x.mat.getD fn 0) m.m.mat) w8 rfl (by omega) (by omega)) ?_
    rintro _ w9 ⟨⟨MA, mc, rfl, hoM⟩, lkM⟩
    refine ⟨kpc, ?_⟩
    haveI oM : OwnI w9 MA _ _ _ _ _ _ _ := ⟨hoM⟩
    haveI naM : NewA MA _ := newA_of hoM (Nat.le_refl _)
    refine xt_Fb rfl ?_
    refine xt_lastS rfl (e_store fun w10 l515 k515 => ?_)
    refine x_drawL (NoB) (allS) (.take 0 (.take 1 (.take 2 (.take 3 (.take 4 (.take 5 (.take 6 (.take 7 (.take 8 (.take 9 (.take 10 (.take 11 (.take 12 (.take 13 (.take 14 (.take 15 (.take 16 (.eff 17 (.take 18 (.last 19)))))))))))))))))))) mixed (by kernel_rfl) (fun _ _ _ _ _ h => h) (fun w11 l11 => ?_)
    refine xt_Fb rfl ?_
    refine xt_Lc rfl ?_
    refine xt_Fb rfl ?_
    refine xt_v rfl (v_congr (u := .int .i64 (fn : Int)) v_load (by rw [hfn])) ?_
    refine xt_Fb rfl ?_
    refine xt_Lc rfl ?_
    refine xt_Fb rfl ?_
    refine xt_Lc rfl ?_
    refine xt_v rfl (v_indexO fn hfn (by omega) (by omega)) ?_
    refine xt_v rfl (v_congr (u := .int .i64 (z.x.next.getD fn 0)) (v_loadO (k := fn) (by omega)) (congrArg (Value.int .i64) (getD_at (by omega)))) ?_
    refine xt_Fb rfl ?_
    refine xt_Lc rfl ?_
    refine xt_Fb rfl ?_
    refine xt_Lc rfl ?_
    refine xt_v rfl (v_indexO fn hfn (by omega) (by simp; omega)) ?_
    refine xt_v rfl (v_congr (u := .int .i64 ((z.x.mat.set fn (max (z.x.mat.getD fn 0) m.m.mat)).getD fn 0)) (v_loadO (k := fn) (by simp; omega)) (congrArg (Value.int .i64) (getD_at (by simp; omega)))) ?_
    refine xt_v rfl v_max ?_
    refine xt_call rfl (setD_ok z.XA z.x.next.length z.xc z.x.next fn (max (z.x.next.getD fn 0) ((z.x.mat.set fn (max (z.x.mat.getD fn 0) m.m.mat)).getD fn 0)) w11 rfl (by omega) (by omega)) ?_
    rintro _ w12 ⟨⟨XA, xc, rfl, hoX⟩, lkX⟩
    refine ⟨kpc, ?_⟩
    haveI oX : OwnI w12 XA _ _ _ _ _ _ _ := ⟨hoX⟩
    haveI naX : NewA XA _ := newA_of hoX (Nat.le_refl _)
    refine xt_Fb rfl ?_
    refine xt_lastS rfl (e_store fun w13 l619 k619 => ?_)
    have hres : ∃ zz : LAn, zz.x = z.x.matched m.m ∧ Blk w13 b5 (.cells (anC zz).toArray 41 (0, 0)) ∧ RowsAn w13 (But P b4) zz := by
     refine ⟨⟨z.x.matched m.m, z.LA, z.lc, z.VA, z.vc, XA, xc, MA, mc⟩, rfl, ?_, ?_⟩
     ·rw [show anC ⟨z.x.matched m.m, z.LA, z.lc, z.VA, z.vc, XA, xc, MA, mc⟩ = [.int .i64 z.x.role, .int .i64 z.x.term, .int .i64 z.x.vote, .int .i64 z.x.commit, .slice z.LA z.x.log.length z.lc, .slice z.VA z.x.votes.length z.vc, .slice XA z.x.next.length xc, .slice MA z.x.mat.length mc] from by rw [matchedD_yes hfn c2 (by omega)]; simp [anC]]
      exact k619
     ·have hkw : Keep NoB w w13 := kpc
      rw [matchedD_yes hfn c2 (by omega)]
      exact ⟨frow_ext (frow_but hzr.log hb4) hkw, frow_ext (frow_but hzr.votes hb4) hkw, by have := frow_new (P := But P b4) (OwnI.own (w := w13) (A := XA)) (Nat.le_refl _) (butP hP Ge.le Has.lt); simpa using this, by have := frow_new (P := But P b4) (OwnI.own (w := w13) (A := MA)) (Nat.le_refl _) (butP hP Ge.le Has.lt); simpa using this, hzr.lc⟩
    refine x_seq ?_
    obtain ⟨zz, hzz, kb5, hzzr⟩ := hres
    have hlg : zz.x.log = z.x.log ∧ zz.x.commit = z.x.commit ∧ zz.x.mat.length = z.x.mat.length := by
     rw [hzz]
     unfold An.matched
     split <;> simp [setI]
    refine x_drawL (NoB) (allS) (.take 0 (.take 1 (.take 2 (.take 3 (.take 5 (.take 6 (.eff 4 (.eff 7 (.last 8))))))))) mixed (by kernel_rfl) (fun _ _ _ _ _ h => h) (fun w14 l14 => ?_)
    refine xt_Lb rfl ?_
    refine xt_Fb rfl ?_
    refine xt_v rfl (v_congr (u := .int .i64 (i : Int)) v_load (by rw [hm.to])) ?_
    refine xt_Lb rfl ?_
    refine xt_Fb rfl ?_
    refine xt_v rfl (v_congr (u := .int .i64 (i : Int)) v_load (by rw [hm.to])) ?_
    refine xt_call rfl (withD_ok (But P b4) R i zz w14 (butP hP Ge.le Has.lt) ((h.but hb4).ext kpc) (hzzr.ext kpc) hi hn5) ?_
    rintro _ w15 ⟨⟨R1, rfl, hR1, hR1n⟩, lk4w⟩
    refine ⟨kpc, ?_⟩
    refine xt_call rfl (commitsD_ok (But P b4) R1 i zz w15 (butP hP Ge.le Has.lt) (hR1.2.ext kpc) (by rw [hR1n]; simp [hi]) (by rw [hR1n]; simpa using hn5) (by rw [hlg.1]; exact hll) (by rw [hlg.2.2]; omega) (by rw [hlg.2.1]; exact hc0)) ?_
    rintro _ w16 ⟨⟨R2, rfl, hR2⟩, lk7c⟩
    refine ⟨kpc, ?_⟩
    refine xt_lastS rfl (e_storeA fun w17 l88 k88 => ?_)
    refine x_ret ?_
    refine finR (rs := [.cell 4 32]) rfl ?_
    refine ⟨⟨R2, by simp [outV], ?_, hR2.2.unbut l88.keep⟩, lkc⟩
    rw [hR2.1, hR1.1, setN_setND, hzz, hR1n, len_mapset]
    unfold Dq.matched
    rw [if_neg hyes, hm.to, pureD_len]
    rfl
   ·
    refine x_drawL (NoB) (allS) (.take 0 (.take 1 (.take 2 (.take 3 (.take 4 (.take 5 (.take 6 (.take 7 (.take 8 (.take 9 (.take 10 (.take 11 (.take 12 (.take 13 (.take 14 (.take 15 (.take 16 (.take 17 (.take 18 (.take 19 (.eff 20 (.take 21 (.last 22))))))))))))))))))))))) mixed (by kernel_rfl) (fun _ _ _ _ _ h => h) (fun w18 l18 => ?_)
    refine xt_Fb rfl ?_
    refine xt_Lc rfl ?_
    refine xt_Fb rfl ?_
    refine xt_v rfl (v_congr (u := .int .i64 (fn : Int)) v_load (by rw [hfn])) ?_
    refine xt_Fb rfl ?_
    refine xt_Lc rfl ?_
    refine xt_Fb rfl ?_
    refine xt_Lc rfl ?_
    refine xt_v rfl (v_indexO fn hfn (by omega) (by omega)) ?_
    refine xt_v rfl (v_congr (u := .int .i64 (z.x.mat.getD fn 0)) (v_loadO (k := fn) (by omega)) (congrArg (Value.int .i64) (getD_at (by omega)))) ?_
    refine xt_Fb rfl ?_
    refine xt_Lc rfl ?_
    refine xt_Fb rfl ?_
    refine xt_Lc rfl ?_
    refine xt_v rfl (v_indexO fn hfn (by omega) (by omega)) ?_
    refine xt_v rfl (v_congr (u := .int .i64 (z.x.next.getD fn 0)) (v_loadO (k := fn) (by omega)) (congrArg (Value.int .i64) (getD_at (by omega)))) ?_
    refine xt_Fb rfl ?_
    refine xt_Lc rfl ?_
    refine xt_v rfl v_min ?_
    refine xt_v rfl v_max ?_
    refine xt_call rfl (setD_ok z.XA z.x.next.length z.xc z.x.next fn (max (z.x.mat.getD fn 0) (min (z.x.next.getD fn 0) m.m.mat)) w18 rfl (by omega) (by omega)) ?_
    rintro _ w19 ⟨⟨XA, xc, rfl, hoX⟩, lkX⟩
    refine ⟨kpc, ?_⟩
    haveI oX : OwnI w19 XA _ _ _ _ _ _ _ := ⟨hoX⟩
    haveI naX : NewA XA _ := newA_of hoX (Nat.le_refl _)
    refine xt_Fb rfl ?_
    refine xt_lastS rfl (e_store fun w20 l722 k722 => ?_)
    have hres : ∃ zz : LAn, zz.x = z.x.matched m.m ∧ Blk w20 b5 (.cells (anC zz).toArray 41 (0, 0)) ∧ RowsAn w20 (But P b4) zz := by
     refine ⟨⟨z.x.matched m.m, z.LA, z.lc, z.VA, z.vc, XA, xc, z.MA, z.mc⟩, rfl, ?_, ?_⟩
     ·rw [show anC ⟨z.x.matched m.m, z.LA, z.lc, z.VA, z.vc, XA, xc, z.MA, z.mc⟩ = [.int .i64 z.x.role, .int .i64 z.x.term, .int .i64 z.x.vote, .int .i64 z.x.commit, .slice z.LA z.x.log.length z.lc, .slice z.VA z.x.votes.length z.vc, .slice XA z.x.next.length xc, .slice z.MA z.x.mat.length z.mc] from by rw [matchedD_no hfn (by simp [c2])]; simp [anC]]
      exact k722
     ·have hkw : Keep NoB w w20 := kpc
      rw [matchedD_no hfn (by simp [c2])]
      exact ⟨frow_ext (frow_but hzr.log hb4) hkw, frow_ext (frow_but hzr.votes hb4) hkw, by have := frow_new (P := But P b4) (OwnI.own (w := w20) (A := XA)) (Nat.le_refl _) (butP hP Ge.le Has.lt); simpa using this, frow_ext (frow_but hzr.mat hb4) hkw, hzr.lc⟩
    refine x_seq ?_
    obtain ⟨zz, hzz, kb5, hzzr⟩ := hres
    have hlg : zz.x.log = z.x.log ∧ zz.x.commit = z.x.commit ∧ zz.x.mat.length = z.x.mat.length := by
     rw [hzz]
     unfold An.matched
     split <;> simp [setI]
    refine x_drawL (NoB) (allS) (.take 0 (.take 1 (.take 2 (.take 3 (.take 5 (.take 6 (.eff 4 (.eff 7 (.last 8))))))))) mixed (by kernel_rfl) (fun _ _ _ _ _ h => h) (fun w21 l21 => ?_)
    refine xt_Lb rfl ?_
    refine xt_Fb rfl ?_
    refine xt_v rfl (v_congr (u := .int .i64 (i : Int)) v_load (by rw [hm.to])) ?_
    refine xt_Lb rfl ?_
    refine xt_Fb rfl ?_
    refine xt_v rfl (v_congr (u := .int .i64 (i : Int)) v_load (by rw [hm.to])) ?_
    refine xt_call rfl (withD_ok (But P b4) R i zz w21 (butP hP Ge.le Has.lt) ((h.but hb4).ext kpc) (hzzr.ext kpc) hi hn5) ?_
    rintro _ w22 ⟨⟨R1, rfl, hR1, hR1n⟩, lk4w⟩
    refine ⟨kpc, ?_⟩
    refine xt_call rfl (commitsD_ok (But P b4) R1 i zz w22 (butP hP Ge.le Has.lt) (hR1.2.ext kpc) (by rw [hR1n]; simp [hi]) (by rw [hR1n]; simpa using hn5) (by rw [hlg.1]; exact hll) (by rw [hlg.2.2]; omega) (by rw [hlg.2.1]; exact hc0)) ?_
    rintro _ w23 ⟨⟨R2, rfl, hR2⟩, lk7c⟩
    refine ⟨kpc, ?_⟩
    refine xt_lastS rfl (e_storeA fun w24 l88 k88 => ?_)
    refine x_ret ?_
    refine finR (rs := [.cell 4 32]) rfl ?_
    refine ⟨⟨R2, by simp [outV], ?_, hR2.2.unbut l88.keep⟩, lkc⟩
    rw [hR2.1, hR1.1, setN_setND, hzz, hR1n, len_mapset]
    unfold Dq.matched
    rw [if_neg hyes, hm.to, pureD_len]
    rfl
end Go.Proofs.YtljdkelgapndgaaGreat
set_option linter.all false
set_option maxRecDepth 100000
set_option synthInstance.maxSize 100000
set_option synthInstance.maxHeartbeats 400000
namespace Go.Proofs.YtljdkelgapndgaaGreat
open Go.Wst
open Go.Wst.Qm
theorem moreD_low {q : Dq} {m : Bl} {x : An} (h : m.term < x.term) : q.more m x = q.send { Bl.zero with kind := 4, frm := m.to, to := m.frm, term := x.term } := if_pos h
theorem moreD_no {q : Dq} {m : Bl} {x : An} (h : ¬ m.term < x.term) (h2 : (x.voter m.term).log.length < m.prev ∨ ofT ((x.voter m.term).log.take m.prev.toNat) ≠ m.prevT) : q.more m x = (q.setN m.to.toNat (x.voter m.term)).send { Bl.zero with kind := 4, frm := m.to, to := m.frm, term := x.term, mat := min (x.voter m.term).log.length (m.prev - 1) } := by
 unfold Dq.more
 simp only [if_neg h, if_pos h2]
theorem moreD_yes {q : Dq} {m : Bl} {x : An} {pn k : Nat} {log : List Cmd} (h : ¬ m.term < x.term) (h2 : ¬ ((x.voter m.term).log.length < m.prev ∨ ofT ((x.voter m.term).log.take m.prev.toNat) ≠ m.prevT)) (hp : m.prev = (pn : Int)) (hk : (m.cmds.take (256 - m.prev).toNat).length = k) (hl : log = layD (x.voter m.term).log pn (m.cmds.take (256 - m.prev).toNat)) :
    q.more m x = (q.setN m.to.toNat { x.voter m.term with log := log, commit := max (x.voter m.term).commit (min m.commit (pn + k)) }).send { Bl.zero with kind := 4, frm := m.to, to := m.frm, term := x.term, ok := true, mat := pn + k } := by
 unfold Dq.more
 simp only [if_neg h, if_neg h2]
 rw [hk, hl, hp]
 rfl
theorem layD_nil (log : List Cmd) (a : Nat) : layD log a [] = log := by unfold layD; rfl
theorem layD_cut {log : List Cmd} {a : Nat} {c : Cmd} {l : List Cmd} (h : a < log.length) (h2 : (log.map (·.term))[a]? ≠ some c.term) : layD log a (c :: l) = layD (log.take a ++ [c]) (a + 1) l := by
 conv => lhs; unfold layD
 have e : (log.take a).length ≤ a := by rw [List.length_take]; omega
 simp only [if_pos (And.intro h h2 : a < log.length ∧ (log.map (·.term))[a]? ≠ some c.term), if_pos e]
theorem layD_same {log : List Cmd} {a : Nat} {c : Cmd} {l : List Cmd} (h : a < log.length) (h2 : (log.map (·.term))[a]? = some c.term) : layD log a (c :: l) = layD log (a + 1) l := by
 conv => lhs; unfold layD
 have e : ¬ log.length ≤ a := by omega
 simp only [if_neg (fun q => q.2 h2 : ¬ (a < log.length ∧ (log.map (·.term))[a]? ≠ some c.term)), if_neg e]
theorem layD_end2 {log : List Cmd} {a : Nat} {c : Cmd} {l : List Cmd} (h : ¬ a < log.length) : layD log a (c :: l) = layD (log ++ [c]) (a + 1) l := by
 conv => lhs; unfold layD
 have e : log.length ≤ a := by omega
 simp only [if_neg (fun q => h q.1 : ¬ (a < log.length ∧ (log.map (·.term))[a]? ≠ some c.term)), if_pos e]
set_option maxHeartbeats 2000000 in
theorem moreD_ok (P : Nat → Prop) (R : LDq) (i : Nat) (z : LAn) (m : LBl) (w : World) (hP : ∀ k, w.heap.size ≤ k → P k) (h : RefAt w P R) (hz : R.ns[i]? = some z) (hm : MsgD w P R i m) (hn5 : R.ns.length ≤ 5) (hb : R.bs.length ≤ 256) (hll : z.x.log.length ≤ 256) (hp0 : 0 ≤ m.m.prev ∧ m.m.prev ≤ 256) : Ret Tryz.prog 54 #[.agg (dqC R).toArray, .agg (blC m).toArray] w (fun v w' => (∃ R', v = .agg (dqC R').toArray ∧ RMade P w' (R.pure.more m.m z.x) R') ∧ Lk w' w NoB) := by
 haveI hrb : Row w R.NA (R.ns.flatMap anC) := ⟨h.nodes.row⟩
 have hi : i < R.ns.length := (List.getElem?_eq_some_iff.1 hz).1
 have hzi : R.ns[i] = z := (List.getElem?_eq_some_iff.1 hz).2
 have hzr := h.rows z (List.mem_of_getElem? hz)
 haveI holdN : OldA w R.NA := ⟨fun a ha => (h.nodes.blk a ha).2⟩
 haveI hrl : Row w z.LA (cmdsC z.x.log) := ⟨hzr.log.row⟩
 haveI hrm : Row w z.MA (ints z.x.mat) := ⟨hzr.mat.row⟩
 haveI hrx : Row w z.XA (ints z.x.next) := ⟨hzr.next.row⟩
 haveI holdL : OldA w z.LA := ⟨fun a ha => (hzr.log.blk a ha).2⟩
 haveI holdM : OldA w z.MA := ⟨fun a ha => (hzr.mat.blk a ha).2⟩
 haveI holdX : OldA w z.XA := ⟨fun a ha => (hzr.next.blk a ha).2⟩
 refine ret_of_x (N := 153) (l := [.agg (dqC R).toArray, .agg (blC m).toArray]) Tryz.func54 rfl rfl (Nat.le_of_ble_eq_true rfl) ?_
 refine x_seq ?_
 haveI hrc : Row w m.A (cmdsC m.m.cmds) := ⟨hm.row.row⟩
 haveI holdC : OldA w m.A := ⟨fun a ha => (hm.row.blk a ha).2⟩
 have hlc := hzr.lc
 have hm4 := hm.len
 have hti : m.m.to.toNat = i := by rw [hm.to]; rfl
 obtain ⟨pn, hpn⟩ : ∃ pn : Nat, m.m.prev = (pn : Int) := ⟨m.m.prev.toNat, by omega⟩
 refine x_regionL ?_
 refine xl_e (e_box fun b1 w1 n1 l1 k1 => ?_)
 refine xl_e (e_box fun b2 w2 n2 l2 k2 => ?_)
 refine xl_e (e_alloc fun b4 w3 n4 l4 k4 => ?_)
 refine xl_nil ?_
 refine x_seq ?_
 refine x_regionL ?_
 refine xl_Fb ?_
 refine xl_Lc ?_
 refine xl_Fb ?_
 refine xl_Lc ?_
 refine xl_v (v_indexF i (by decide) hm.to (by omega) hi) ?_
 refine xl_v (v_congr (u := .agg (anC z).toArray) (v_loadF (k := i) (by decide) hi) (by rw [hzi])) ?_
 refine xl_e (e_alloc fun b5 w4 n5 l5 k5 => ?_)
 refine xl_s (e_storeA fun w5 l7 k7 => ?_)
 refine xl_nil ?_
 refine x_seq ?_
 refine x_regionL ?_
 refine xl_Fb ?_
 refine xl_Lc ?_
 refine xl_Fb ?_
 refine xl_Lc ?_
 refine xl_Fb ?_
 refine xl_Lc ?_
 refine xl_v v_build ?_
 refine xl_e (e_alloc fun b6 w6 n6 l6 k6 => ?_)
 refine xl_s (e_storeA fun w7 l8 k8 => ?_)
 refine xl_nil ?_
 have hb4 : w.heap.size ≤ b4 := by rw [n4.eq]; exact Ge.le
 have hb5 : w.heap.size ≤ b5 := by rw [n5.eq]; exact Ge.le
 refine x_seq ?_
 refine x_seq ?_
 refine x_regionL ?_
 refine xl_Fb ?_
 refine xl_Lc ?_
 refine xl_Fb ?_
 refine xl_Lc ?_
 refine xl_v v_lss ?_
 refine xl_nil ?_
 first | refine x_condP (fun c1 => ?_) (fun c1 => ?_) | refine x_condN (fun c1 => ?_) (fun c1 => ?_) | refine x_condE (fun c1 => ?_) (fun c1 => ?_)
 ·
  refine x_seq ?_
  refine x_regionL ?_
  refine xl_Lb ?_
  refine xl_Lb ?_
  refine xl_call (sendD_ok (Mid P w.heap.size (w7).heap.size) R ⟨{ Bl.zero with kind := 4, frm := m.m.to, to := m.m.frm, term := z.x.term }, none, 0⟩ w7 (midP hP Ge.le (Nat.le_refl _)) ((h.mid _).ext kpc) (FRow.nil _ _) hb) ?_
  rintro _ w8 ⟨⟨R2, rfl, hR2, _⟩, lk42⟩
  have hb4l : b4 < (w7).heap.size := Has.lt
  refine xl_s (e_storeA fun w9 l43 k43 => ?_)
  refine xl_nil ?_
  refine x_ret ?_
  refine finR (rs := [.cell 4 32]) rfl ?_
  refine ⟨⟨R2, by simp [outV], ?_, hR2.2.box l43.keep ⟨hb4, hb4l⟩⟩, lkc⟩
  rw [hR2.1, moreD_low c1]
 ·
  refine x_skip ?_
  refine x_seq ?_
  refine x_regionL ?_
  refine xl_Lb ?_
  refine xl_Fb ?_
  refine xl_Lc ?_
  refine xl_call (voterD_ok z m.m.term w7) ?_
  rintro _ w10 ⟨rfl, lk53⟩
  obtain ⟨z1, hz1⟩ : ∃ z1, z1 = z.voter m.m.term := ⟨_, rfl⟩
  rw [← hz1]
  have hzA : z1.LA = z.LA := by rw [hz1]; rfl
  have hzl : z1.x.log = z.x.log := by rw [hz1]; rfl
  have hzc : z1.lc = z.lc := by rw [hz1]; rfl
  have hzx : z1.x = z.x.voter m.m.term := by rw [hz1]; rfl
  have hzr1 : RowsAn w P z1 := by rw [hz1]; exact ⟨hzr.log, FRow.nil _ _, FRow.nil _ _, FRow.nil _ _, hzr.lc⟩
  haveI hrl1 : Row w z1.LA (cmdsC z1.x.log) := ⟨hzr1.log.row⟩
  haveI holdL1 : OldA w z1.LA := ⟨fun a ha => (hzr1.log.blk a ha).2⟩
  have hl1 : z1.x.log.length ≤ 256 := by rw [hzl]; exact hll
  have hc1 : z1.x.log.length ≤ z1.lc := hzr1.lc
  refine xl_s (e_storeA fun w11 l54 k54 => ?_)
  refine xl_nil ?_
  refine x_seq ?_
  refine x_seq ?_
  refine x_drawL (NoB) (allS) (.take 0 (.take 1 (.take 2 (.take 3 (.take 4 (.take 5 (.take 6 (.take 7 (.take 8 (.take 9 (.take 10 (.take 11 (.take 13 (.take 14 (.eff 12 (.take 15 (.take 16 .done))))))))))))))))) mixed (by kernel_rfl) (fun _ _ _ _ _ h => h) (fun w12 l12 => ?_)
  refine xt_Fb rfl ?_
  refine xt_Lc rfl ?_
  refine xt_v rfl v_len ?_
  refine xt_Fb rfl ?_
  refine xt_Lc rfl ?_
  refine xt_v rfl v_lss ?_
  refine xt_v rfl v_move ?_
  refine xt_split 41 (fun g41 => ?_) (fun g41 => ?_)
  ·
   refine xt_gs rfl rfl EvO.eq ?_
   refine xt_gs rfl rfl EvO.eq ?_
   refine xt_gs rfl rfl EvO.eq ?_
   refine xt_gs rfl rfl EvO.eq ?_
   refine xt_gs rfl rfl EvO.eq ?_
   refine xt_gs rfl rfl EvO.eq ?_
   refine xt_gs rfl rfl EvO.eq ?_
   refine xt_gse rfl rfl EvO.eq ?_
   refine xt_gs rfl rfl EvO.eq ?_
   refine xt_Pk rfl ?_
   refine xt_nil ?_
   refine x_condT ?_
   refine x_seq ?_
   have hbad : (z.x.voter m.m.term).log.length < m.m.prev ∨ ofT ((z.x.voter m.m.term).log.take m.m.prev.toNat) ≠ m.m.prevT := by
    rw [← hzx, hpn]
    first
     | exact .inl (by have := of_decide_eq_true g41; omega)
     | exact .inr (by simpa using c2)
   refine x_regionL ?_
   refine xl_Fb ?_
   refine xl_Lc ?_
   refine xl_v v_len ?_
   refine xl_Fb ?_
   refine xl_Lc ?_
   refine xl_v (v_sub (by omega)) ?_
   refine xl_v v_min ?_
   refine xl_Fb ?_
   refine xl_s (e_store fun w13 l78 k78 => ?_)
   refine xl_nil ?_
   refine x_seq ?_
   refine x_drawL (NoB) (allS) (.take 0 (.take 1 (.take 2 (.take 3 (.take 5 (.eff 4 (.eff 6 (.last 7)))))))) mixed (by kernel_rfl) (fun _ _ _ _ _ h => h) (fun w14 l14 => ?_)
   refine xt_Lb rfl ?_
   refine xt_Fb rfl ?_
   refine xt_v rfl (v_congr (u := .int .i64 (i : Int)) v_load (by rw [hm.to])) ?_
   refine xt_Lb rfl ?_
   refine xt_Lb rfl ?_
   refine xt_call rfl (withD_ok (Mid P w.heap.size (w14).heap.size) R i z1 w14 (midP hP Ge.le (Nat.le_refl _)) ((h.mid _).ext kpc) ((hzr1.mid _).ext kpc) hi hn5) ?_
   rintro _ w15 ⟨⟨R1, rfl, hR1, hR1n⟩, lk84⟩
   refine ⟨kpc, ?_⟩
   have hb4l : b4 < (w14).heap.size := Has.lt
   have hge8 : (w14).heap.size ≤ (w15).heap.size := Ge.le
   have hbs1 : R1.bs.length ≤ 256 := by
    have h1 := congrArg (fun q : Dq => q.bag.length) hR1.1
    simp [LDq.pure, Dq.setN] at h1
    omega
   refine xt_call rfl (sendD_ok (Mid P w.heap.size _) R1 ⟨{ Bl.zero with kind := 4, frm := m.m.to, to := m.m.frm, term := z.x.term, mat := min z1.x.log.length (m.m.prev - 1) }, none, 0⟩ w15 (midP hP Ge.le hge8) (hR1.2.ext kpc) (FRow.nil _ _) hbs1) ?_
   rintro _ w16 ⟨⟨R2, rfl, hR2, _⟩, lk86⟩
   refine ⟨kpc, ?_⟩
   refine xt_lastS rfl (e_storeA fun w17 l87 k87 => ?_)
   refine x_ret ?_
   refine finR (rs := [.cell 4 32]) rfl ?_
   refine ⟨⟨R2, by simp [outV], ?_, hR2.2.box l87.keep ⟨hb4, hb4l⟩⟩, lkc⟩
   have hp := moreD_no (q := R.pure) c1 hbad
   rw [hti, ← hzx] at hp
   rw [hR2.1, hR1.1, hp]
  ·
   have hple : pn ≤ z1.x.log.length := by
    have := of_decide_eq_false g41
    omega
   refine xt_gFb rfl rfl EvO.eq ?_
   refine xt_gLc rfl rfl EvO.eq ?_
   refine xt_gFb rfl rfl EvO.eq ?_
   refine xt_gLc rfl rfl EvO.eq ?_
   refine xt_gv rfl rfl EvO.eq (v_sliceH pn hpn (by omega)) ?_
   refine xt_gFb rfl rfl EvO.eq ?_
   refine xt_gLc rfl rfl EvO.eq ?_
   haveI hrt : Row w12 z1.LA (cmdsC (z1.x.log.take pn)) := ⟨by
    have := row_take (Row.row (w := w12) (A := z1.LA) (cs := cmdsC z1.x.log)) (pn * 2)
    rwa [← flat_take (enc := cmdC) (sz := 2) (fun _ => rfl)] at this⟩
   refine xt_gcall rfl rfl EvO.eq (termD_ok z1.LA pn z1.lc (z1.x.log.take pn) w12 (by rw [List.length_take]; omega) (by omega)) ?_
   rintro _ w18 ⟨rfl, lk612⟩
   refine ⟨kpc, ?_⟩
   clear hrt
   refine xt_gv rfl rfl EvO.eq v_neq ?_
   refine xt_Pk rfl ?_
   refine xt_nil ?_
   first | refine x_condP (fun c2 => ?_) (fun c2 => ?_) | refine x_condN (fun c2 => ?_) (fun c2 => ?_) | refine x_condE (fun c2 => ?_) (fun c2 => ?_)
   ·
    refine x_seq ?_
    have hbad : (z.x.voter m.m.term).log.length < m.m.prev ∨ ofT ((z.x.voter m.m.term).log.take m.m.prev.toNat) ≠ m.m.prevT := by
     rw [← hzx, hpn]
     first
      | exact .inl (by have := of_decide_eq_true g41; omega)
      | exact .inr (by simpa using c2)
    refine x_regionL ?_
    refine xl_Fb ?_
    refine xl_Lc ?_
    refine xl_v v_len ?_
    refine xl_Fb ?_
    refine xl_Lc ?_
    refine xl_v (v_sub (by omega)) ?_
    refine xl_v v_min ?_
    refine xl_Fb ?_
    refine xl_s (e_store fun w19 l78 k78 => ?_)
    refine xl_nil ?_
    refine x_seq ?_
    refine x_drawL (NoB) (allS) (.take 0 (.take 1 (.take 2 (.take 3 (.take 5 (.eff 4 (.eff 6 (.last 7)))))))) mixed (by kernel_rfl) (fun _ _ _ _ _ h => h) (fun w20 l20 => ?_)
    refine xt_Lb rfl ?_
    refine xt_Fb rfl ?_
    refine xt_v rfl (v_congr (u := .int .i64 (i : Int)) v_load (by rw [hm.to])) ?_
    refine xt_Lb rfl ?_
    refine xt_Lb rfl ?_
    refine xt_call rfl (withD_ok (Mid P w.heap.size (w20).heap.size) R i z1 w20 (midP hP Ge.le (Nat.le_refl _)) ((h.mid _).ext kpc) ((hzr1.mid _).ext kpc) hi hn5) ?_
    rintro _ w21 ⟨⟨R1, rfl, hR1, hR1n⟩, lk84⟩
    refine ⟨kpc, ?_⟩
    have hb4l : b4 < (w20).heap.size := Has.lt
    have hge8 : (w20).heap.size ≤ (w21).heap.size := Ge.le
    have hbs1 : R1.bs.length ≤ 256 := by
     have h1 := congrArg (fun q : Dq => q.bag.length) hR1.1
     simp [LDq.pure, Dq.setN] at h1
     omega
    refine xt_call rfl (sendD_ok (Mid P w.heap.size _) R1 ⟨{ Bl.zero with kind := 4, frm := m.m.to, to := m.m.frm, term := z.x.term, mat := min z1.x.log.length (m.m.prev - 1) }, none, 0⟩ w21 (midP hP Ge.le hge8) (hR1.2.ext kpc) (FRow.nil _ _) hbs1) ?_
    rintro _ w22 ⟨⟨R2, rfl, hR2, _⟩, lk86⟩
    refine ⟨kpc, ?_⟩
    refine xt_lastS rfl (e_storeA fun w23 l87 k87 => ?_)
    refine x_ret ?_
    refine finR (rs := [.cell 4 32]) rfl ?_
    refine ⟨⟨R2, by simp [outV], ?_, hR2.2.box l87.keep ⟨hb4, hb4l⟩⟩, lkc⟩
    have hp := moreD_no (q := R.pure) c1 hbad
    rw [hti, ← hzx] at hp
    rw [hR2.1, hR1.1, hp]
   ·
    have hgood : ¬ ((z.x.voter m.m.term).log.length < m.m.prev ∨ ofT ((z.x.voter m.m.term).log.take m.m.prev.toNat) ≠ m.m.prevT) := by
     rw [← hzx, hpn]
     rintro (e | e)
     ·have := hple; omega
     ·exact e (by simpa using c2)
    obtain ⟨L, hL⟩ : ∃ L, L = m.m.cmds.take (256 - m.m.prev).toNat := ⟨_, rfl⟩
    have hLk : L.length = min m.m.cmds.length (256 - pn) := by rw [hL, List.length_take, hpn]; omega
    have hLg : ∀ j (hj : j < L.length) (hj2 : j < m.m.cmds.length), m.m.cmds[j] = L[j] := fun j hj hj2 => by simp only [hL, List.getElem_take]
    refine x_skip ?_
    refine x_seq ?_
    refine x_regionL ?_
    refine xl_v v_assign ?_
    refine xl_nil ?_
    refine x_seq ?_
    refine x_seq ?_
    refine x_regionL ?_
    refine xl_v v_assign ?_
    refine xl_nil ?_
    refine x_block ?_
    have hge0 : w.heap.size ≤ (w18).heap.size := Ge.le
    have hb4l : b4 < (w18).heap.size := Has.lt
    have hb5l : b5 < (w18).heap.size := Has.lt
    have hb6l : b6 < (w18).heap.size := Has.lt
    refine x_loop (fun mm τ ds w' => ds = [] ∧ ∃ (k : Nat) (lg : List Cmd) (A7 : Option Addr) (c7 : Nat), mm = L.length - k ∧ k ≤ L.length ∧ layD z1.x.log pn L = layD lg (pn + k) (L.drop k) ∧ lg.length ≤ 256 ∧ lg.length ≤ c7 ∧ FRow w' (InP (Mid P w.heap.size (w18).heap.size) w') A7 (cmdsC lg) ∧ Ev τ 2 (.pointer (some ⟨b1, 0, none⟩)) ∧ Ev τ 3 (.pointer (some ⟨b2, 0, none⟩)) ∧ Ev τ 4 (.pointer (some ⟨b4, 0, none⟩)) ∧ Ev τ 5 (.pointer (some ⟨b5, 0, none⟩)) ∧ Ev τ 6 (.pointer (some ⟨b6, 0, none⟩)) ∧ Ev τ 7 (.int .i64 (k : Int)) ∧ Ev τ 8 (.int .i64 (k : Int)) ∧ Blk w' b5 (.cells [.int .i64 z1.x.role, .int .i64 z1.x.term, .int .i64 z1.x.vote, .int .i64 z1.x.commit, .slice A7 lg.length c7, .slice z1.VA z1.x.votes.length z1.vc, .slice z1.XA z1.x.next.length z1.xc, .slice z1.MA z1.x.mat.length z1.mc].toArray 41 (0, 0)) ∧ Lk w' w18 (OneB b5)) (L.length) ?start ?round
    case start =>
     exact ⟨rfl, 0, z1.x.log, z1.LA, z1.lc, rfl, Nat.zero_le _, by simp, hl1, hc1, frow_ext (frow_mid hzr1.log _) kpc, inferInstance, inferInstance, inferInstance, inferInstance, inferInstance, evc, evc, ⟨Blk.eq⟩, lkc⟩
    case round =>
     intro m τ24 ds24 w24 hI
     obtain ⟨rfl, k, lg, A7, c7, rfl, hk, hlay, hlg, hc7, hr7, e2, e3, e4, e5, e6, e7, e8, kb5, lkL⟩ := hI
     haveI hrg : Row w24 A7 (cmdsC lg) := ⟨hr7.row⟩
     haveI hog : OldA w24 A7 := ⟨fun a ha => (hr7.blk a ha).2⟩
     have h6 : w.heap.size ≤ b6 := by rw [n6.eq]; exact Ge.le
     haveI ho6 : RowOut (OneB b6) A7 := ⟨fun a ha e => by have e' : a.block = b6 := e; have := (hr7.blk a ha).1.2; omega⟩
     haveI ho5 : RowOut (OneB b5) A7 := ⟨fun a ha e => by have e' : a.block = b5 := e; have := (hr7.blk a ha).1.2; omega⟩
     have hgeB : (w18).heap.size ≤ (w24).heap.size := Ge.le
     refine x_seq ?_
     refine x_seq ?_
     refine x_regionL ?_
     refine xl_v v_move ?_
     refine xl_Fb ?_
     refine xl_Lc ?_
     refine xl_v v_len ?_
     refine xl_v v_lss ?_
     refine xl_v v_move ?_
     refine xl_split 72 (fun g72 => ?_) (fun g72 => ?_)
     ·
      refine xl_gFb rfl EvO.eq ?_
      refine xl_gLc rfl EvO.eq ?_
      refine xl_gv rfl EvO.eq v_move ?_
      refine xl_gv rfl EvO.eq (v_add (by omega)) ?_
      refine xl_gv rfl EvO.eq v_lss ?_
      refine xl_Pk ?_
      refine xl_nil ?_
      first | refine x_condP (fun c3 => ?_) (fun c3 => ?_) | refine x_condN (fun c3 => ?_) (fun c3 => ?_) | refine x_condE (fun c3 => ?_) (fun c3 => ?_)
      ·
       have hk1 : k < L.length := by
        first
         | (have := of_decide_eq_true g72; omega)
         | (exfalso; simp at c3; done)
       have hk2 : k < m.m.cmds.length := by omega
       have hdr : L.drop k = m.m.cmds[k] :: L.drop (k + 1) := by rw [List.drop_eq_getElem_cons hk1, hLg k hk1 hk2]
       refine x_skip ?_
       refine x_seq ?_
       refine x_block ?_
       refine x_seq ?_
       refine x_regionL ?_
       refine xl_Fb ?_
       refine xl_Lc ?_
       refine xl_v v_move ?_
       refine xl_v (v_congr (u := .int .i64 ((pn + k : Nat) : Int)) (v_add (by omega)) (congrArg (Value.int .i64) (by omega))) ?_
       refine xl_v v_assign ?_
       refine xl_nil ?_
       refine x_seq ?_
       refine x_seq ?_
       refine x_drawL (NoB) (allS) (.take 0 (.take 1 (.take 2 (.take 3 (.take 4 (.take 5 (.take 6 (.take 7 (.take 8 (.take 9 (.take 10 (.take 11 (.take 12 (.take 13 (.take 14 (.take 15 (.take 16 (.take 17 (.take 18 (.take 19 .done)))))))))))))))))))) mixed (by kernel_rfl) (fun _ _ _ _ _ h => h) (fun w25 l25 => ?_)
       refine xt_v rfl v_move ?_
       refine xt_Fb rfl ?_
       refine xt_Lc rfl ?_
       refine xt_v rfl v_len ?_
       refine xt_v rfl v_lss ?_
       refine xt_v rfl v_move ?_
       refine xt_split 90 (fun g90 => ?_) (fun g90 => ?_)
       ·
        have hat : pn + k < lg.length := by have := of_decide_eq_true g90; omega
        refine xt_gFb rfl rfl EvO.eq ?_
        refine xt_gLc rfl rfl EvO.eq ?_
        refine xt_gv rfl rfl EvO.eq v_move ?_
        refine xt_gv rfl rfl EvO.eq (v_indexF (pn + k) (by decide) rfl (by omega) hat) ?_
        refine xt_gFb rfl rfl EvO.eq ?_
        refine xt_gv rfl rfl EvO.eq (v_loadF0 (k := pn + k) hat) ?_
        refine xt_gFb rfl rfl EvO.eq ?_
        refine xt_gLc rfl rfl EvO.eq ?_
        refine xt_gv rfl rfl EvO.eq v_move ?_
        refine xt_gv rfl rfl EvO.eq (v_indexF k (by decide) rfl (by omega) hk2) ?_
        refine xt_gFb rfl rfl EvO.eq ?_
        refine xt_gv rfl rfl EvO.eq (v_loadF0 (k := k) hk2) ?_
        refine xt_gv rfl rfl EvO.eq v_neq ?_
        refine xt_Pk rfl ?_
        refine xt_nil ?_
        refine x_condE (fun c4 => ?_) (fun c4 => ?_)
        ·
         have hcut : pn + k < lg.length ∧ (lg.map (·.term))[pn + k]? ≠ some m.m.cmds[k].term := by
          first
           | (exfalso; simp at c4; done)
           | (refine ⟨hat, ?_⟩
              rw [List.getElem?_map, List.getElem?_eq_getElem hat]
              simpa using c4)
         refine x_regionL ?_
         refine xl_Fb ?_
         refine xl_Lc ?_
         refine xl_v v_move ?_
         refine xl_v (v_sliceH (pn + k) rfl (by omega)) ?_
         refine xl_Fb ?_
         refine xl_s (e_store fun w26 l155 k155 => ?_)
         refine xl_nil ?_
         haveI hrg2 : Row w26 A7 (cmdsC (lg.take (pn + k))) := ⟨by
          have := row_take (Row.row (w := w26) (A := A7) (cs := cmdsC lg)) ((pn + k) * 2)
          rwa [← flat_take (enc := cmdC) (sz := 2) (fun _ => rfl)] at this⟩
         have hlt2 : (lg.take (pn + k)).length = pn + k := by rw [List.length_take]; omega
         refine x_seq ?_
         refine x_seq ?_
         refine x_regionL ?_
         refine xl_v v_move ?_
         refine xl_Fb ?_
         refine xl_Lc ?_
         refine xl_v v_len ?_
         refine xl_v v_geq ?_
         refine xl_nil ?_
         first | refine x_condP (fun c5 => ?_) (fun c5 => ?_) | refine x_condN (fun c5 => ?_) (fun c5 => ?_) | refine x_condE (fun c5 => ?_) (fun c5 => ?_)
         ·
          refine x_drawL (NewS w26) (allS) (.take 1 (.take 2 (.take 4 (.take 5 (.take 6 (.take 7 (.take 8 (.fork 0 (.fork 3 (.eff 9 (.eff 10 (.take 11 (.last 12)))) 9 (.eff 3 (.eff 10 (.take 11 (.last 12))))) 9 (.eff 0 (.eff 3 (.eff 10 (.take 11 (.last 12))))))))))))) mixed (by kernel_rfl) (fun _ _ _ _ _ h => h) (fun w27 l27 => ?_)
          refine xt_Fb rfl ?_
          refine xt_Lc rfl ?_
          refine xt_Fb rfl ?_
          refine xt_Lc rfl ?_
          refine xt_v rfl v_move ?_
          refine xt_v rfl (v_indexF k (by decide) rfl (by omega) hk2) ?_
          refine xt_v rfl (v_loadF (k := k) (by decide) hk2) ?_
          refine xt_fork ?_ ?_
          ·
           refine xt_e rfl (e_buildSlice0 fun b28 w28 n28 l28 k28 => ?_)
           refine xt_fork ?_ ?_
           ·
            refine xt_e rfl (e_appE (by omega) (by decide) (by omega) (by omega) fun Aa ca w29 oa la aa fa => ?_)
            refine xt_e rfl (e_buildSlice1 rfl fun b9 w30 n9 l9 k9 => ?_)
            refine xt_e rfl (e_app (by omega) (by decide) (by omega) (by omega) Ge.le fun Ab cb w31 ob lb ab fb => ?_)
            refine xt_Fb rfl ?_
            refine xt_lastS rfl (e_store fun w32 l1712 k1712 => ?_)
            have hown := (OwnI.own : World.ownsRow w32 _ _ _ (.slice Ab _ cb) _ _)
            have hfr := frow_new (w := w18) hown Ge.le (midP hP hge0 (Nat.le_refl _))
            obtain ⟨_, cap', he', _, hcb, _⟩ := ownsRow_form hown
            have hcap : cap' = cb := by cases he'; rfl
            rw [hcap] at hcb
            have hres : ∃ (lg2 : List Cmd) (A8 : Option Addr) (c8 : Nat), layD z1.x.log pn L = layD lg2 (pn + (k + 1)) (L.drop (k + 1)) ∧ lg2.length ≤ 256 ∧ lg2.length ≤ c8 ∧ FRow w32 (InP (Mid P w.heap.size (w18).heap.size) w32) A8 (cmdsC lg2) ∧ Blk w32 b5 (.cells [.int .i64 z1.x.role, .int .i64 z1.x.term, .int .i64 z1.x.vote, .int .i64 z1.x.commit, .slice A8 lg2.length c8, .slice z1.VA z1.x.votes.length z1.vc, .slice z1.XA z1.x.next.length z1.xc, .slice z1.MA z1.x.mat.length z1.mc].toArray 41 (0, 0)) := by
             first
              | (have hl9 : (lg.take (pn + k) ++ [m.m.cmds[k]]).length = pn + k + 1 := by rw [List.length_append, hlt2]; rfl
                 refine ⟨lg.take (pn + k) ++ [m.m.cmds[k]], Ab, cb, by rw [hlay, hdr, layD_cut hcut.1 hcut.2]; rfl, by omega, by omega, by simpa using hfr, by rw [hl9]; exact k1712⟩)
              | (have hl9 : (lg ++ [m.m.cmds[k]]).length = lg.length + 1 := by rw [List.length_append]; rfl
                 refine ⟨lg ++ [m.m.cmds[k]], Ab, cb, by rw [hlay, hdr, layD_end2 (by omega)]; rfl, by omega, by omega, by simpa using hfr, by rw [hl9]; exact k1712⟩)
            obtain ⟨lg2, A8, c8, hlay2, hlg2, hc8, hr8, kb58⟩ := hres
            refine x_regionL ?_
            refine xl_v v_move ?_
            refine xl_v (v_add (by omega)) ?_
            refine xl_v v_assign ?_
            refine xl_nil ?_
            refine x_regionL ?_
            refine xl_v v_move ?_
            refine xl_v (v_add (by omega)) ?_
            refine xl_v v_assign ?_
            refine xl_nil ?_
            refine ⟨_, ?_, rfl, k + 1, lg2, A8, c8, rfl, by omega, hlay2, hlg2, hc8, frow_ext hr8 kpc, inferInstance, inferInstance, inferInstance, inferInstance, inferInstance, evc, evc, ⟨Blk.eq⟩, lkc⟩
            omega
           ·
            refine xt_e rfl (e_buildSlice1 rfl fun b9 w33 n9 l9 k9 => ?_)
            refine xt_e rfl (e_appE (by omega) (by decide) (by omega) (by omega) fun Aa ca w34 oa la aa fa => ?_)
            refine xt_e rfl (e_app (by omega) (by decide) (by omega) (by omega) Ge.le fun Ab cb w35 ob lb ab fb => ?_)
            refine xt_Fb rfl ?_
            refine xt_lastS rfl (e_store fun w36 l1712 k1712 => ?_)
            have hown := (OwnI.own : World.ownsRow w36 _ _ _ (.slice Ab _ cb) _ _)
            have hfr := frow_new (w := w18) hown Ge.le (midP hP hge0 (Nat.le_refl _))
            obtain ⟨_, cap', he', _, hcb, _⟩ := ownsRow_form hown
            have hcap : cap' = cb := by cases he'; rfl
            rw [hcap] at hcb
            have hres : ∃ (lg2 : List Cmd) (A8 : Option Addr) (c8 : Nat), layD z1.x.log pn L = layD lg2 (pn + (k + 1)) (L.drop (k + 1)) ∧ lg2.length ≤ 256 ∧ lg2.length ≤ c8 ∧ FRow w36 (InP (Mid P w.heap.size (w18).heap.size) w36) A8 (cmdsC lg2) ∧ Blk w36 b5 (.cells [.int .i64 z1.x.role, .int .i64 z1.x.term, .int .i64 z1.x.vote, .int .i64 z1.x.commit, .slice A8 lg2.length c8, .slice z1.VA z1.x.votes.length z1.vc, .slice z1.XA z1.x.next.length z1.xc, .slice z1.MA z1.x.mat.length z1.mc].toArray 41 (0, 0)) := by
             first
              | (have hl9 : (lg.take (pn + k) ++ [m.m.cmds[k]]).length = pn + k + 1 := by rw [List.length_append, hlt2]; rfl
                 refine ⟨lg.take (pn + k) ++ [m.m.cmds[k]], Ab, cb, by rw [hlay, hdr, layD_cut hcut.1 hcut.2]; rfl, by omega, by omega, by simpa using hfr, by rw [hl9]; exact k1712⟩)
              | (have hl9 : (lg ++ [m.m.cmds[k]]).length = lg.length + 1 := by rw [List.length_append]; rfl
                 refine ⟨lg ++ [m.m.cmds[k]], Ab, cb, by rw [hlay, hdr, layD_end2 (by omega)]; rfl, by omega, by omega, by simpa using hfr, by rw [hl9]; exact k1712⟩)
            obtain ⟨lg2, A8, c8, hlay2, hlg2, hc8, hr8, kb58⟩ := hres
            refine x_regionL ?_
            refine xl_v v_move ?_
            refine xl_v (v_add (by omega)) ?_
            refine xl_v v_assign ?_
            refine xl_nil ?_
            refine x_regionL ?_
            refine xl_v v_move ?_
            refine xl_v (v_add (by omega)) ?_
            refine xl_v v_assign ?_
            refine xl_nil ?_
            refine ⟨_, ?_, rfl, k + 1, lg2, A8, c8, rfl, by omega, hlay2, hlg2, hc8, frow_ext hr8 kpc, inferInstance, inferInstance, inferInstance, inferInstance, inferInstance, evc, evc, ⟨Blk.eq⟩, lkc⟩
            omega
          ·
           refine xt_e rfl (e_buildSlice1 rfl fun b9 w37 n9 l9 k9 => ?_)
           refine xt_e rfl (e_buildSlice0 fun b38 w38 n38 l38 k38 => ?_)
           refine xt_e rfl (e_appE (by omega) (by decide) (by omega) (by omega) fun Aa ca w39 oa la aa fa => ?_)
           refine xt_e rfl (e_app (by omega) (by decide) (by omega) (by omega) Ge.le fun Ab cb w40 ob lb ab fb => ?_)
           refine xt_Fb rfl ?_
           refine xt_lastS rfl (e_store fun w41 l1712 k1712 => ?_)
           have hown := (OwnI.own : World.ownsRow w41 _ _ _ (.slice Ab _ cb) _ _)
           have hfr := frow_new (w := w18) hown Ge.le (midP hP hge0 (Nat.le_refl _))
           obtain ⟨_, cap', he', _, hcb, _⟩ := ownsRow_form hown
           have hcap : cap' = cb := by cases he'; rfl
           rw [hcap] at hcb
           have hres : ∃ (lg2 : List Cmd) (A8 : Option Addr) (c8 : Nat), layD z1.x.log pn L = layD lg2 (pn + (k + 1)) (L.drop (k + 1)) ∧ lg2.length ≤ 256 ∧ lg2.length ≤ c8 ∧ FRow w41 (InP (Mid P w.heap.size (w18).heap.size) w41) A8 (cmdsC lg2) ∧ Blk w41 b5 (.cells [.int .i64 z1.x.role, .int .i64 z1.x.term, .int .i64 z1.x.vote, .int .i64 z1.x.commit, .slice A8 lg2.length c8, .slice z1.VA z1.x.votes.length z1.vc, .slice z1.XA z1.x.next.length z1.xc, .slice z1.MA z1.x.mat.length z1.mc].toArray 41 (0, 0)) := by
            first
             | (have hl9 : (lg.take (pn + k) ++ [m.m.cmds[k]]).length = pn + k + 1 := by rw [List.length_append, hlt2]; rfl
                refine ⟨lg.take (pn + k) ++ [m.m.cmds[k]], Ab, cb, by rw [hlay, hdr, layD_cut hcut.1 hcut.2]; rfl, by omega, by omega, by simpa using hfr, by rw [hl9]; exact k1712⟩)
             | (have hl9 : (lg ++ [m.m.cmds[k]]).length = lg.length + 1 := by rw [List.length_append]; rfl
                refine ⟨lg ++ [m.m.cmds[k]], Ab, cb, by rw [hlay, hdr, layD_end2 (by omega)]; rfl, by omega, by omega, by simpa using hfr, by rw [hl9]; exact k1712⟩)
           obtain ⟨lg2, A8, c8, hlay2, hlg2, hc8, hr8, kb58⟩ := hres
           refine x_regionL ?_
           refine xl_v v_move ?_
           refine xl_v (v_add (by omega)) ?_
           refine xl_v v_assign ?_
           refine xl_nil ?_
           refine x_regionL ?_
           refine xl_v v_move ?_
           refine xl_v (v_add (by omega)) ?_
           refine xl_v v_assign ?_
           refine xl_nil ?_
           refine ⟨_, ?_, rfl, k + 1, lg2, A8, c8, rfl, by omega, hlay2, hlg2, hc8, frow_ext hr8 kpc, inferInstance, inferInstance, inferInstance, inferInstance, inferInstance, evc, evc, ⟨Blk.eq⟩, lkc⟩
           omega
         ·
          have hres : ∃ (lg2 : List Cmd) (A8 : Option Addr) (c8 : Nat), layD z1.x.log pn L = layD lg2 (pn + (k + 1)) (L.drop (k + 1)) ∧ lg2.length ≤ 256 ∧ lg2.length ≤ c8 ∧ FRow w26 (InP (Mid P w.heap.size (w18).heap.size) w26) A8 (cmdsC lg2) ∧ Blk w26 b5 (.cells [.int .i64 z1.x.role, .int .i64 z1.x.term, .int .i64 z1.x.vote, .int .i64 z1.x.commit, .slice A8 lg2.length c8, .slice z1.VA z1.x.votes.length z1.vc, .slice z1.XA z1.x.next.length z1.xc, .slice z1.MA z1.x.mat.length z1.mc].toArray 41 (0, 0)) := by
           first
            | (exfalso; omega)
            | (exfalso; have := of_decide_eq_false g90; omega)
            | (have hat2 : pn + k < lg.length := by omega
               have hsame : (lg.map (·.term))[pn + k]? = some m.m.cmds[k].term := by
                rw [List.getElem?_map, List.getElem?_eq_getElem hat2]
                simpa using c4
               exact ⟨lg, A7, c7, by rw [hlay, hdr, layD_same hat2 hsame]; rfl, hlg, hc7, frow_ext hr7 kpc, ⟨Blk.eq⟩⟩)
          refine x_skip ?_
          obtain ⟨lg2, A8, c8, hlay2, hlg2, hc8, hr8, kb58⟩ := hres
          refine x_regionL ?_
          refine xl_v v_move ?_
          refine xl_v (v_add (by omega)) ?_
          refine xl_v v_assign ?_
          refine xl_nil ?_
          refine x_regionL ?_
          refine xl_v v_move ?_
          refine xl_v (v_add (by omega)) ?_
          refine xl_v v_assign ?_
          refine xl_nil ?_
          refine ⟨_, ?_, rfl, k + 1, lg2, A8, c8, rfl, by omega, hlay2, hlg2, hc8, frow_ext hr8 kpc, inferInstance, inferInstance, inferInstance, inferInstance, inferInstance, evc, evc, ⟨Blk.eq⟩, lkc⟩
          omega
        ·
         refine x_skip ?_
         refine x_seq ?_
         refine x_seq ?_
         refine x_regionL ?_
         refine xl_v v_move ?_
         refine xl_Fb ?_
         refine xl_Lc ?_
         refine xl_v v_len ?_
         refine xl_v v_geq ?_
         refine xl_nil ?_
         first | refine x_condP (fun c5 => ?_) (fun c5 => ?_) | refine x_condN (fun c5 => ?_) (fun c5 => ?_) | refine x_condE (fun c5 => ?_) (fun c5 => ?_)
         ·
          refine x_drawL (NewS w25) (allS) (.take 1 (.take 2 (.take 4 (.take 5 (.take 6 (.take 7 (.take 8 (.fork 0 (.fork 3 (.eff 9 (.eff 10 (.take 11 (.last 12)))) 9 (.eff 3 (.eff 10 (.take 11 (.last 12))))) 9 (.eff 0 (.eff 3 (.eff 10 (.take 11 (.last 12))))))))))))) mixed (by kernel_rfl) (fun _ _ _ _ _ h => h) (fun w42 l42 => ?_)
          refine xt_Fb rfl ?_
          refine xt_Lc rfl ?_
          refine xt_Fb rfl ?_
          refine xt_Lc rfl ?_
          refine xt_v rfl v_move ?_
          refine xt_v rfl (v_indexF k (by decide) rfl (by omega) hk2) ?_
          refine xt_v rfl (v_loadF (k := k) (by decide) hk2) ?_
          refine xt_fork ?_ ?_
          ·
           refine xt_e rfl (e_buildSlice0 fun b43 w43 n43 l43 k43 => ?_)
           refine xt_fork ?_ ?_
           ·
            refine xt_e rfl (e_appE (by omega) (by decide) (by omega) (by omega) fun Aa ca w44 oa la aa fa => ?_)
            refine xt_e rfl (e_buildSlice1 rfl fun b9 w45 n9 l9 k9 => ?_)
            refine xt_e rfl (e_app (by omega) (by decide) (by omega) (by omega) Ge.le fun Ab cb w46 ob lb ab fb => ?_)
            refine xt_Fb rfl ?_
            refine xt_lastS rfl (e_store fun w47 l1712 k1712 => ?_)
            have hown := (OwnI.own : World.ownsRow w47 _ _ _ (.slice Ab _ cb) _ _)
            have hfr := frow_new (w := w18) hown Ge.le (midP hP hge0 (Nat.le_refl _))
            obtain ⟨_, cap', he', _, hcb, _⟩ := ownsRow_form hown
            have hcap : cap' = cb := by cases he'; rfl
            rw [hcap] at hcb
            have hres : ∃ (lg2 : List Cmd) (A8 : Option Addr) (c8 : Nat), layD z1.x.log pn L = layD lg2 (pn + (k + 1)) (L.drop (k + 1)) ∧ lg2.length ≤ 256 ∧ lg2.length ≤ c8 ∧ FRow w47 (InP (Mid P w.heap.size (w18).heap.size) w47) A8 (cmdsC lg2) ∧ Blk w47 b5 (.cells [.int .i64 z1.x.role, .int .i64 z1.x.term, .int .i64 z1.x.vote, .int .i64 z1.x.commit, .slice A8 lg2.length c8, .slice z1.VA z1.x.votes.length z1.vc, .slice z1.XA z1.x.next.length z1.xc, .slice z1.MA z1.x.mat.length z1.mc].toArray 41 (0, 0)) := by
             first
              | (have hl9 : (lg.take (pn + k) ++ [m.m.cmds[k]]).length = pn + k + 1 := by rw [List.length_append, hlt2]; rfl
                 refine ⟨lg.take (pn + k) ++ [m.m.cmds[k]], Ab, cb, by rw [hlay, hdr, layD_cut hcut.1 hcut.2]; rfl, by omega, by omega, by simpa using hfr, by rw [hl9]; exact k1712⟩)
              | (have hl9 : (lg ++ [m.m.cmds[k]]).length = lg.length + 1 := by rw [List.length_append]; rfl
                 refine ⟨lg ++ [m.m.cmds[k]], Ab, cb, by rw [hlay, hdr, layD_end2 (by omega)]; rfl, by omega, by omega, by simpa using hfr, by rw [hl9]; exact k1712⟩)
            obtain ⟨lg2, A8, c8, hlay2, hlg2, hc8, hr8, kb58⟩ := hres
            refine x_regionL ?_
            refine xl_v v_move ?_
            refine xl_v (v_add (by omega)) ?_
            refine xl_v v_assign ?_
            refine xl_nil ?_
            refine x_regionL ?_
            refine xl_v v_move ?_
            refine xl_v (v_add (by omega)) ?_
            refine xl_v v_assign ?_
            refine xl_nil ?_
            refine ⟨_, ?_, rfl, k + 1, lg2, A8, c8, rfl, by omega, hlay2, hlg2, hc8, frow_ext hr8 kpc, inferInstance, inferInstance, inferInstance, inferInstance, inferInstance, evc, evc, ⟨Blk.eq⟩, lkc⟩
            omega
           ·
            refine xt_e rfl (e_buildSlice1 rfl fun b9 w48 n9 l9 k9 => ?_)
            refine xt_e rfl (e_appE (by omega) (by decide) (by omega) (by omega) fun Aa ca w49 oa la aa fa => ?_)
            refine xt_e rfl (e_app (by omega) (by decide) (by omega) (by omega) Ge.le fun Ab cb w50 ob lb ab fb => ?_)
            refine xt_Fb rfl ?_
            refine xt_lastS rfl (e_store fun w51 l1712 k1712 => ?_)
            have hown := (OwnI.own : World.ownsRow w51 _ _ _ (.slice Ab _ cb) _ _)
            have hfr := frow_new (w := w18) hown Ge.le (midP hP hge0 (Nat.le_refl _))
            obtain ⟨_, cap', he', _, hcb, _⟩ := ownsRow_form hown
            have hcap : cap' = cb := by cases he'; rfl
            rw [hcap] at hcb
            have hres : ∃ (lg2 : List Cmd) (A8 : Option Addr) (c8 : Nat), layD z1.x.log pn L = layD lg2 (pn + (k + 1)) (L.drop (k + 1)) ∧ lg2.length ≤ 256 ∧ lg2.length ≤ c8 ∧ FRow w51 (InP (Mid P w.heap.size (w18).heap.size) w51) A8 (cmdsC lg2) ∧ Blk w51 b5 (.cells [.int .i64 z1.x.role, .int .i64 z1.x.term, .int .i64 z1.x.vote, .int .i64 z1.x.commit, .slice A8 lg2.length c8, .slice z1.VA z1.x.votes.length z1.vc, .slice z1.XA z1.x.next.length z1.xc, .slice z1.MA z1.x.mat.length z1.mc].toArray 41 (0, 0)) := by
             first
              | (have hl9 : (lg.take (pn + k) ++ [m.m.cmds[k]]).length = pn + k + 1 := by rw [List.length_append, hlt2]; rfl
                 refine ⟨lg.take (pn + k) ++ [m.m.cmds[k]], Ab, cb, by rw [hlay, hdr, layD_cut hcut.1 hcut.2]; rfl, by omega, by omega, by simpa using hfr, by rw [hl9]; exact k1712⟩)
              | (have hl9 : (lg ++ [m.m.cmds[k]]).length = lg.length + 1 := by rw [List.length_append]; rfl
                 refine ⟨lg ++ [m.m.cmds[k]], Ab, cb, by rw [hlay, hdr, layD_end2 (by omega)]; rfl, by omega, by omega, by simpa using hfr, by rw [hl9]; exact k1712⟩)
            obtain ⟨lg2, A8, c8, hlay2, hlg2, hc8, hr8, kb58⟩ := hres
            refine x_regionL ?_
            refine xl_v v_move ?_
            refine xl_v (v_add (by omega)) ?_
            refine xl_v v_assign ?_
            refine xl_nil ?_
            refine x_regionL ?_
            refine xl_v v_move ?_
            refine xl_v (v_add (by omega)) ?_
            refine xl_v v_assign ?_
            refine xl_nil ?_
            refine ⟨_, ?_, rfl, k + 1, lg2, A8, c8, rfl, by omega, hlay2, hlg2, hc8, frow_ext hr8 kpc, inferInstance, inferInstance, inferInstance, inferInstance, inferInstance, evc, evc, ⟨Blk.eq⟩, lkc⟩
            omega
          ·
           refine xt_e rfl (e_buildSlice1 rfl fun b9 w52 n9 l9 k9 => ?_)
           refine xt_e rfl (e_buildSlice0 fun b53 w53 n53 l53 k53 => ?_)
           refine xt_e rfl (e_appE (by omega) (by decide) (by omega) (by omega) fun Aa ca w54 oa la aa fa => ?_)
           refine xt_e rfl (e_app (by omega) (by decide) (by omega) (by omega) Ge.le fun Ab cb w55 ob lb ab fb => ?_)
           refine xt_Fb rfl ?_
           refine xt_lastS rfl (e_store fun w56 l1712 k1712 => ?_)
           have hown := (OwnI.own : World.ownsRow w56 _ _ _ (.slice Ab _ cb) _ _)
           have hfr := frow_new (w := w18) hown Ge.le (midP hP hge0 (Nat.le_refl _))
           obtain ⟨_, cap', he', _, hcb, _⟩ := ownsRow_form hown
           have hcap : cap' = cb := by cases he'; rfl
           rw [hcap] at hcb
           have hres : ∃ (lg2 : List Cmd) (A8 : Option Addr) (c8 : Nat), layD z1.x.log pn L = layD lg2 (pn + (k + 1)) (L.drop (k + 1)) ∧ lg2.length ≤ 256 ∧ lg2.length ≤ c8 ∧ FRow w56 (InP (Mid P w.heap.size (w18).heap.size) w56) A8 (cmdsC lg2) ∧ Blk w56 b5 (.cells [.int .i64 z1.x.role, .int .i64 z1.x.term, .int .i64 z1.x.vote, .int .i64 z1.x.commit, .slice A8 lg2.length c8, .slice z1.VA z1.x.votes.length z1.vc, .slice z1.XA z1.x.next.length z1.xc, .slice z1.MA z1.x.mat.length z1.mc].toArray 41 (0, 0)) := by
            first
             | (have hl9 : (lg.take (pn + k) ++ [m.m.cmds[k]]).length = pn + k + 1 := by rw [List.length_append, hlt2]; rfl
                refine ⟨lg.take (pn + k) ++ [m.m.cmds[k]], Ab, cb, by rw [hlay, hdr, layD_cut hcut.1 hcut.2]; rfl, by omega, by omega, by simpa using hfr, by rw [hl9]; exact k1712⟩)
             | (have hl9 : (lg ++ [m.m.cmds[k]]).length = lg.length + 1 := by rw [List.length_append]; rfl
                refine ⟨lg ++ [m.m.cmds[k]], Ab, cb, by rw [hlay, hdr, layD_end2 (by omega)]; rfl, by omega, by omega, by simpa using hfr, by rw [hl9]; exact k1712⟩)
           obtain ⟨lg2, A8, c8, hlay2, hlg2, hc8, hr8, kb58⟩ := hres
           refine x_regionL ?_
           refine xl_v v_move ?_
           refine xl_v (v_add (by omega)) ?_
           refine xl_v v_assign ?_
           refine xl_nil ?_
           refine x_regionL ?_
           refine xl_v v_move ?_
           refine xl_v (v_add (by omega)) ?_
           refine xl_v v_assign ?_
           refine xl_nil ?_
           refine ⟨_, ?_, rfl, k + 1, lg2, A8, c8, rfl, by omega, hlay2, hlg2, hc8, frow_ext hr8 kpc, inferInstance, inferInstance, inferInstance, inferInstance, inferInstance, evc, evc, ⟨Blk.eq⟩, lkc⟩
           omega
         ·
          have hres : ∃ (lg2 : List Cmd) (A8 : Option Addr) (c8 : Nat), layD z1.x.log pn L = layD lg2 (pn + (k + 1)) (L.drop (k + 1)) ∧ lg2.length ≤ 256 ∧ lg2.length ≤ c8 ∧ FRow w25 (InP (Mid P w.heap.size (w18).heap.size) w25) A8 (cmdsC lg2) ∧ Blk w25 b5 (.cells [.int .i64 z1.x.role, .int .i64 z1.x.term, .int .i64 z1.x.vote, .int .i64 z1.x.commit, .slice A8 lg2.length c8, .slice z1.VA z1.x.votes.length z1.vc, .slice z1.XA z1.x.next.length z1.xc, .slice z1.MA z1.x.mat.length z1.mc].toArray 41 (0, 0)) := by
           first
            | (exfalso; omega)
            | (exfalso; have := of_decide_eq_false g90; omega)
            | (have hat2 : pn + k < lg.length := by omega
               have hsame : (lg.map (·.term))[pn + k]? = some m.m.cmds[k].term := by
                rw [List.getElem?_map, List.getElem?_eq_getElem hat2]
                simpa using c4
               exact ⟨lg, A7, c7, by rw [hlay, hdr, layD_same hat2 hsame]; rfl, hlg, hc7, frow_ext hr7 kpc, ⟨Blk.eq⟩⟩)
          refine x_skip ?_
          obtain ⟨lg2, A8, c8, hlay2, hlg2, hc8, hr8, kb58⟩ := hres
          refine x_regionL ?_
          refine xl_v v_move ?_
          refine xl_v (v_add (by omega)) ?_
          refine xl_v v_assign ?_
          refine xl_nil ?_
          refine x_regionL ?_
          refine xl_v v_move ?_
          refine xl_v (v_add (by omega)) ?_
          refine xl_v v_assign ?_
          refine xl_nil ?_
          refine ⟨_, ?_, rfl, k + 1, lg2, A8, c8, rfl, by omega, hlay2, hlg2, hc8, frow_ext hr8 kpc, inferInstance, inferInstance, inferInstance, inferInstance, inferInstance, evc, evc, ⟨Blk.eq⟩, lkc⟩
          omega
       ·
        refine xt_gs rfl rfl EvO.eq ?_
        refine xt_gs rfl rfl EvO.eq ?_
        refine xt_gs rfl rfl EvO.eq ?_
        refine xt_gs rfl rfl EvO.eq ?_
        refine xt_gs rfl rfl EvO.eq ?_
        refine xt_gs rfl rfl EvO.eq ?_
        refine xt_gs rfl rfl EvO.eq ?_
        refine xt_gs rfl rfl EvO.eq ?_
        refine xt_gs rfl rfl EvO.eq ?_
        refine xt_gs rfl rfl EvO.eq ?_
        refine xt_gs rfl rfl EvO.eq ?_
        refine xt_gs rfl rfl EvO.eq ?_
        refine xt_gs rfl rfl EvO.eq ?_
        refine xt_Pk rfl ?_
        refine xt_nil ?_
        refine x_condF ?_
        refine x_skip ?_
        refine x_seq ?_
        refine x_seq ?_
        refine x_regionL ?_
        refine xl_v v_move ?_
        refine xl_Fb ?_
        refine xl_Lc ?_
        refine xl_v v_len ?_
        refine xl_v v_geq ?_
        refine xl_nil ?_
        first | refine x_condP (fun c5 => ?_) (fun c5 => ?_) | refine x_condN (fun c5 => ?_) (fun c5 => ?_) | refine x_condE (fun c5 => ?_) (fun c5 => ?_)
        ·
         refine x_drawL (NewS w25) (allS) (.take 1 (.take 2 (.take 4 (.take 5 (.take 6 (.take 7 (.take 8 (.fork 0 (.fork 3 (.eff 9 (.eff 10 (.take 11 (.last 12)))) 9 (.eff 3 (.eff 10 (.take 11 (.last 12))))) 9 (.eff 0 (.eff 3 (.eff 10 (.take 11 (.last 12))))))))))))) mixed (by kernel_rfl) (fun _ _ _ _ _ h => h) (fun w57 l57 => ?_)
         refine xt_Fb rfl ?_
         refine xt_Lc rfl ?_
         refine xt_Fb rfl ?_
         refine xt_Lc rfl ?_
         refine xt_v rfl v_move ?_
         refine xt_v rfl (v_indexF k (by decide) rfl (by omega) hk2) ?_
         refine xt_v rfl (v_loadF (k := k) (by decide) hk2) ?_
         refine xt_fork ?_ ?_
         ·
          refine xt_e rfl (e_buildSlice0 fun b58 w58 n58 l58 k58 => ?_)
          refine xt_fork ?_ ?_
          ·
           refine xt_e rfl (e_appE (by omega) (by decide) (by omega) (by omega) fun Aa ca w59 oa la aa fa => ?_)
           refine xt_e rfl (e_buildSlice1 rfl fun b9 w60 n9 l9 k9 => ?_)
           refine xt_e rfl (e_app (by omega) (by decide) (by omega) (by omega) Ge.le fun Ab cb w61 ob lb ab fb => ?_)
           refine xt_Fb rfl ?_
           refine xt_lastS rfl (e_store fun w62 l1712 k1712 => ?_)
           have hown := (OwnI.own : World.ownsRow w62 _ _ _ (.slice Ab _ cb) _ _)
           have hfr := frow_new (w := w18) hown Ge.le (midP hP hge0 (Nat.le_refl _))
           obtain ⟨_, cap', he', _, hcb, _⟩ := ownsRow_form hown
           have hcap : cap' = cb := by cases he'; rfl
           rw [hcap] at hcb
           have hres : ∃ (lg2 : List Cmd) (A8 : Option Addr) (c8 : Nat), layD z1.x.log pn L = layD lg2 (pn + (k + 1)) (L.drop (k + 1)) ∧ lg2.length ≤ 256 ∧ lg2.length ≤ c8 ∧ FRow w62 (InP (Mid P w.heap.size (w18).heap.size) w62) A8 (cmdsC lg2) ∧ Blk w62 b5 (.cells [.int .i64 z1.x.role, .int .i64 z1.x.term, .int .i64 z1.x.vote, .int .i64 z1.x.commit, .slice A8 lg2.length c8, .slice z1.VA z1.x.votes.length z1.vc, .slice z1.XA z1.x.next.length z1.xc, .slice z1.MA z1.x.mat.length z1.mc].toArray 41 (0, 0)) := by
            first
             | (have hl9 : (lg.take (pn + k) ++ [m.m.cmds[k]]).length = pn + k + 1 := by rw [List.length_append, hlt2]; rfl
                refine ⟨lg.take (pn + k) ++ [m.m.cmds[k]], Ab, cb, by rw [hlay, hdr, layD_cut hcut.1 hcut.2]; rfl, by omega, by omega, by simpa using hfr, by rw [hl9]; exact k1712⟩)
             | (have hl9 : (lg ++ [m.m.cmds[k]]).length = lg.length + 1 := by rw [List.length_append]; rfl
                refine ⟨lg ++ [m.m.cmds[k]], Ab, cb, by rw [hlay, hdr, layD_end2 (by omega)]; rfl, by omega, by omega, by simpa using hfr, by rw [hl9]; exact k1712⟩)
           obtain ⟨lg2, A8, c8, hlay2, hlg2, hc8, hr8, kb58⟩ := hres
           refine x_regionL ?_
           refine xl_v v_move ?_
           refine xl_v (v_add (by omega)) ?_
           refine xl_v v_assign ?_
           refine xl_nil ?_
           refine x_regionL ?_
           refine xl_v v_move ?_
           refine xl_v (v_add (by omega)) ?_
           refine xl_v v_assign ?_
           refine xl_nil ?_
           refine ⟨_, ?_, rfl, k + 1, lg2, A8, c8, rfl, by omega, hlay2, hlg2, hc8, frow_ext hr8 kpc, inferInstance, inferInstance, inferInstance, inferInstance, inferInstance, evc, evc, ⟨Blk.eq⟩, lkc⟩
           omega
          ·
           refine xt_e rfl (e_buildSlice1 rfl fun b9 w63 n9 l9 k9 => ?_)
           refine xt_e rfl (e_appE (by omega) (by decide) (by omega) (by omega) fun Aa ca w64 oa la aa fa => ?_)
           refine xt_e rfl (e_app (by omega) (by decide) (by omega) (by omega) Ge.le fun Ab cb w65 ob lb ab fb => ?_)
           refine xt_Fb rfl ?_
           refine xt_lastS rfl (e_store fun w66 l1712 k1712 => ?_)
           have hown := (OwnI.own : World.ownsRow w66 _ _ _ (.slice Ab _ cb) _ _)
           have hfr := frow_new (w := w18) hown Ge.le (midP hP hge0 (Nat.le_refl _))
           obtain ⟨_, cap', he', _, hcb, _⟩ := ownsRow_form hown
           have hcap : cap' = cb := by cases he'; rfl
           rw [hcap] at hcb
           have hres : ∃ (lg2 : List Cmd) (A8 : Option Addr) (c8 : Nat), layD z1.x.log pn L = layD lg2 (pn + (k + 1)) (L.drop (k + 1)) ∧ lg2.length ≤ 256 ∧ lg2.length ≤ c8 ∧ FRow w66 (InP (Mid P w.heap.size (w18).heap.size) w66) A8 (cmdsC lg2) ∧ Blk w66 b5 (.cells [.int .i64 z1.x.role, .int .i64 z1.x.term, .int .i64 z1.x.vote, .int .i64 z1.x.commit, .slice A8 lg2.length c8, .slice z1.VA z1.x.votes.length z1.vc, .slice z1.XA z1.x.next.length z1.xc, .slice z1.MA z1.x.mat.length z1.mc].toArray 41 (0, 0)) := by
            first
             | (have hl9 : (lg.take (pn + k) ++ [m.m.cmds[k]]).length = pn + k + 1 := by rw [List.length_append, hlt2]; rfl
                refine ⟨lg.take (pn + k) ++ [m.m.cmds[k]], Ab, cb, by rw [hlay, hdr, layD_cut hcut.1 hcut.2]; rfl, by omega, by omega, by simpa using hfr, by rw [hl9]; exact k1712⟩)
             | (have hl9 : (lg ++ [m.m.cmds[k]]).length = lg.length + 1 := by rw [List.length_append]; rfl
                refine ⟨lg ++ [m.m.cmds[k]], Ab, cb, by rw [hlay, hdr, layD_end2 (by omega)]; rfl, by omega, by omega, by simpa using hfr, by rw [hl9]; exact k1712⟩)
           obtain ⟨lg2, A8, c8, hlay2, hlg2, hc8, hr8, kb58⟩ := hres
           refine x_regionL ?_
           refine xl_v v_move ?_
           refine xl_v (v_add (by omega)) ?_
           refine xl_v v_assign ?_
           refine xl_nil ?_
           refine x_regionL ?_
           refine xl_v v_move ?_
           refine xl_v (v_add (by omega)) ?_
           refine xl_v v_assign ?_
           refine xl_nil ?_
           refine ⟨_, ?_, rfl, k + 1, lg2, A8, c8, rfl, by omega, hlay2, hlg2, hc8, frow_ext hr8 kpc, inferInstance, inferInstance, inferInstance, inferInstance, inferInstance, evc, evc, ⟨Blk.eq⟩, lkc⟩
           omega
         ·
          refine xt_e rfl (e_buildSlice1 rfl fun b9 w67 n9 l9 k9 => ?_)
          refine xt_e rfl (e_buildSlice0 fun b68 w68 n68 l68 k68 => ?_)
          refine xt_e rfl (e_appE (by omega) (by decide) (by omega) (by omega) fun Aa ca w69 oa la aa fa => ?_)
          refine xt_e rfl (e_app (by omega) (by decide) (by omega) (by omega) Ge.le fun Ab cb w70 ob lb ab fb => ?_)
          refine xt_Fb rfl ?_
          refine xt_lastS rfl (e_store fun w71 l1712 k1712 => ?_)
          have hown := (OwnI.own : World.ownsRow w71 _ _ _ (.slice Ab _ cb) _ _)
          have hfr := frow_new (w := w18) hown Ge.le (midP hP hge0 (Nat.le_refl _))
          obtain ⟨_, cap', he', _, hcb, _⟩ := ownsRow_form hown
          have hcap : cap' = cb := by cases he'; rfl
          rw [hcap] at hcb
          have hres : ∃ (lg2 : List Cmd) (A8 : Option Addr) (c8 : Nat), layD z1.x.log pn L = layD lg2 (pn + (k + 1)) (L.drop (k + 1)) ∧ lg2.length ≤ 256 ∧ lg2.length ≤ c8 ∧ FRow w71 (InP (Mid P w.heap.size (w18).heap.size) w71) A8 (cmdsC lg2) ∧ Blk w71 b5 (.cells [.int .i64 z1.x.role, .int .i64 z1.x.term, .int .i64 z1.x.vote, .int .i64 z1.x.commit, .slice A8 lg2.length c8, .slice z1.VA z1.x.votes.length z1.vc, .slice z1.XA z1.x.next.length z1.xc, .slice z1.MA z1.x.mat.length z1.mc].toArray 41 (0, 0)) := by
           first
            | (have hl9 : (lg.take (pn + k) ++ [m.m.cmds[k]]).length = pn + k + 1 := by rw [List.length_append, hlt2]; rfl
               refine ⟨lg.take (pn + k) ++ [m.m.cmds[k]], Ab, cb, by rw [hlay, hdr, layD_cut hcut.1 hcut.2]; rfl, by omega, by omega, by simpa using hfr, by rw [hl9]; exact k1712⟩)
            | (have hl9 : (lg ++ [m.m.cmds[k]]).length = lg.length + 1 := by rw [List.length_append]; rfl
               refine ⟨lg ++ [m.m.cmds[k]], Ab, cb, by rw [hlay, hdr, layD_end2 (by omega)]; rfl, by omega, by omega, by simpa using hfr, by rw [hl9]; exact k1712⟩)
          obtain ⟨lg2, A8, c8, hlay2, hlg2, hc8, hr8, kb58⟩ := hres
          refine x_regionL ?_
          refine xl_v v_move ?_
          refine xl_v (v_add (by omega)) ?_
          refine xl_v v_assign ?_
          refine xl_nil ?_
          refine x_regionL ?_
          refine xl_v v_move ?_
          refine xl_v (v_add (by omega)) ?_
          refine xl_v v_assign ?_
          refine xl_nil ?_
          refine ⟨_, ?_, rfl, k + 1, lg2, A8, c8, rfl, by omega, hlay2, hlg2, hc8, frow_ext hr8 kpc, inferInstance, inferInstance, inferInstance, inferInstance, inferInstance, evc, evc, ⟨Blk.eq⟩, lkc⟩
          omega
        ·
         have hres : ∃ (lg2 : List Cmd) (A8 : Option Addr) (c8 : Nat), layD z1.x.log pn L = layD lg2 (pn + (k + 1)) (L.drop (k + 1)) ∧ lg2.length ≤ 256 ∧ lg2.length ≤ c8 ∧ FRow w25 (InP (Mid P w.heap.size (w18).heap.size) w25) A8 (cmdsC lg2) ∧ Blk w25 b5 (.cells [.int .i64 z1.x.role, .int .i64 z1.x.term, .int .i64 z1.x.vote, .int .i64 z1.x.commit, .slice A8 lg2.length c8, .slice z1.VA z1.x.votes.length z1.vc, .slice z1.XA z1.x.next.length z1.xc, .slice z1.MA z1.x.mat.length z1.mc].toArray 41 (0, 0)) := by
          first
           | (exfalso; omega)
           | (exfalso; have := of_decide_eq_false g90; omega)
           | (have hat2 : pn + k < lg.length := by omega
              have hsame : (lg.map (·.term))[pn + k]? = some m.m.cmds[k].term := by
               rw [List.getElem?_map, List.getElem?_eq_getElem hat2]
               simpa using c4
              exact ⟨lg, A7, c7, by rw [hlay, hdr, layD_same hat2 hsame]; rfl, hlg, hc7, frow_ext hr7 kpc, ⟨Blk.eq⟩⟩)
         refine x_skip ?_
         obtain ⟨lg2, A8, c8, hlay2, hlg2, hc8, hr8, kb58⟩ := hres
         refine x_regionL ?_
         refine xl_v v_move ?_
         refine xl_v (v_add (by omega)) ?_
         refine xl_v v_assign ?_
         refine xl_nil ?_
         refine x_regionL ?_
         refine xl_v v_move ?_
         refine xl_v (v_add (by omega)) ?_
         refine xl_v v_assign ?_
         refine xl_nil ?_
         refine ⟨_, ?_, rfl, k + 1, lg2, A8, c8, rfl, by omega, hlay2, hlg2, hc8, frow_ext hr8 kpc, inferInstance, inferInstance, inferInstance, inferInstance, inferInstance, evc, evc, ⟨Blk.eq⟩, lkc⟩
         omega
      ·
       refine x_exit ?_
       refine x_seq ?_
       have hkL : k = L.length := by
        first
         | (have := of_decide_eq_false g72; omega)
         | (have := of_decide_eq_true g72; omega)
       have hlayF : layD z1.x.log pn L = lg := by rw [hlay, List.drop_eq_nil_of_le (by omega), layD_nil]
       refine x_regionL ?_
       refine xl_Fb ?_
       refine xl_Lc ?_
       refine xl_Fb ?_
       refine xl_Lc ?_
       refine xl_Fb ?_
       refine xl_Lc ?_
       refine xl_v v_move ?_
       refine xl_v (v_add (by omega)) ?_
       refine xl_v v_min ?_
       refine xl_v v_max ?_
       refine xl_Fb ?_
       refine xl_s (e_store fun w72 l1911 k1911 => ?_)
       refine xl_nil ?_
       refine x_seq ?_
       refine x_drawL (OneB b6) (allS) (.take 0 (.take 1 (.take 2 (.take 3 (.take 4 (.eff 5 (.take 6 (.last 7)))))))) mixed (by kernel_rfl) (fun _ _ _ _ _ h => h) (fun w73 l73 => ?_)
       refine xt_Fb rfl ?_
       refine xt_Lc rfl ?_
       refine xt_v rfl v_move ?_
       refine xt_v rfl (v_add (by omega)) ?_
       refine xt_Fb rfl ?_
       refine xt_s rfl (e_store fun w74 l205 k205 => ?_)
       refine xt_Fb rfl ?_
       refine xt_lastS rfl (e_store fun w75 l207 k207 => ?_)
       refine x_seq ?_
       obtain ⟨z2, hz2⟩ : ∃ z2 : LAn, z2 = { z1 with x := { z1.x with log := lg, commit := max z1.x.commit (min m.m.commit (m.m.prev + k)) }, LA := A7, lc := c7 } := ⟨_, rfl⟩
       have hrz2 : RowsAn w75 (Mid P w.heap.size (w18).heap.size) z2 := by
        rw [hz2]
        exact ⟨⟨Row.row (w := w75) (A := A7), fun a ha => ⟨(hr7.blk a ha).1, Nat.lt_of_lt_of_le (hr7.blk a ha).2 Ge.le⟩⟩, frow_ext (frow_mid hzr1.votes _) kpc, frow_ext (frow_mid hzr1.next _) kpc, frow_ext (frow_mid hzr1.mat _) kpc, hc7⟩
       have hcz2 : anC z2 = [.int .i64 z1.x.role, .int .i64 z1.x.term, .int .i64 z1.x.vote, .int .i64 (max z1.x.commit (min m.m.commit (m.m.prev + k))), .slice A7 lg.length c7, .slice z1.VA z1.x.votes.length z1.vc, .slice z1.XA z1.x.next.length z1.xc, .slice z1.MA z1.x.mat.length z1.mc] := by rw [hz2]
       refine x_drawL (NoB) (allS) (.take 0 (.take 1 (.take 2 (.take 3 (.take 5 (.eff 4 (.eff 6 (.last 7)))))))) mixed (by kernel_rfl) (fun _ _ _ _ _ h => h) (fun w76 l76 => ?_)
       refine xt_Lb rfl ?_
       refine xt_Fb rfl ?_
       refine xt_v rfl (v_congr (u := .int .i64 (i : Int)) v_load (by rw [hm.to])) ?_
       refine xt_v rfl (v_congr (u := .agg (anC z2).toArray) v_loadA (by rw [hcz2])) ?_
       refine xt_Lb rfl ?_
       refine xt_call rfl (withD_ok (Mid P w.heap.size (w18).heap.size) R i z2 w76 (midP hP hge0 Ge.le) ((h.mid _).ext kpc) (hrz2.ext kpc) hi hn5) ?_
       rintro _ w77 ⟨⟨R1, rfl, hR1, hR1n⟩, lk84⟩
       refine ⟨kpc, ?_⟩
       have hbs1 : R1.bs.length ≤ 256 := by
        have h1 := congrArg (fun q : Dq => q.bag.length) hR1.1
        simp [LDq.pure, Dq.setN] at h1
        omega
       refine xt_call rfl (sendD_ok (Mid P w.heap.size (w18).heap.size) R1 ⟨{ Bl.zero with kind := 4, frm := m.m.to, to := m.m.frm, term := z.x.term, ok := true, mat := m.m.prev + k }, none, 0⟩ w77 (midP hP hge0 Ge.le) (hR1.2.ext kpc) (FRow.nil _ _) hbs1) ?_
       rintro _ w78 ⟨⟨R2, rfl, hR2, _⟩, lk86⟩
       refine ⟨kpc, ?_⟩
       refine xt_lastS rfl (e_storeA fun w79 l87 k87 => ?_)
       refine x_ret ?_
       refine finR (rs := [.cell 4 32]) rfl ?_
       refine ⟨⟨R2, by simp [outV], ?_, hR2.2.box l87.keep ⟨hb4, hb4l⟩⟩, lkc⟩
       have hp := moreD_yes (q := R.pure) (log := lg) (k := L.length) c1 hgood hpn (by rw [← hL]) (by rw [← hlayF, hzx, hL])
       rw [hti, ← hpn, ← hkL] at hp
       rw [hR2.1, hR1.1, hp, hz2, hzx]
     ·
      refine xl_gs rfl EvO.eq ?_
      refine xl_gs rfl EvO.eq ?_
      refine xl_gs rfl EvO.eq ?_
      refine xl_gs rfl EvO.eq ?_
      refine xl_gs rfl EvO.eq ?_
      refine xl_Pk ?_
      refine xl_nil ?_
      refine x_condF ?_
      refine x_exit ?_
      refine x_seq ?_
      have hkL : k = L.length := by
       first
        | (have := of_decide_eq_false g72; omega)
        | (have := of_decide_eq_true g72; omega)
      have hlayF : layD z1.x.log pn L = lg := by rw [hlay, List.drop_eq_nil_of_le (by omega), layD_nil]
      refine x_regionL ?_
      refine xl_Fb ?_
      refine xl_Lc ?_
      refine xl_Fb ?_
      refine xl_Lc ?_
      refine xl_Fb ?_
      refine xl_Lc ?_
      refine xl_v v_move ?_
      refine xl_v (v_add (by omega)) ?_
      refine xl_v v_min ?_
      refine xl_v v_max ?_
      refine xl_Fb ?_
      refine xl_s (e_store fun w80 l1911 k1911 => ?_)
      refine xl_nil ?_
      refine x_seq ?_
      refine x_drawL (OneB b6) (allS) (.take 0 (.take 1 (.take 2 (.take 3 (.take 4 (.eff 5 (.take 6 (.last 7)))))))) mixed (by kernel_rfl) (fun _ _ _ _ _ h => h) (fun w81 l81 => ?_)
      refine xt_Fb rfl ?_
      refine xt_Lc rfl ?_
      refine xt_v rfl v_move ?_
      refine xt_v rfl (v_add (by omega)) ?_
      refine xt_Fb rfl ?_
      refine xt_s rfl (e_store fun w82 l205 k205 => ?_)
      refine xt_Fb rfl ?_
      refine xt_lastS rfl (e_store fun w83 l207 k207 => ?_)
      refine x_seq ?_
      obtain ⟨z2, hz2⟩ : ∃ z2 : LAn, z2 = { z1 with x := { z1.x with log := lg, commit := max z1.x.commit (min m.m.commit (m.m.prev + k)) }, LA := A7, lc := c7 } := ⟨_, rfl⟩
      have hrz2 : RowsAn w83 (Mid P w.heap.size (w18).heap.size) z2 := by
       rw [hz2]
       exact ⟨⟨Row.row (w := w83) (A := A7), fun a ha => ⟨(hr7.blk a ha).1, Nat.lt_of_lt_of_le (hr7.blk a ha).2 Ge.le⟩⟩, frow_ext (frow_mid hzr1.votes _) kpc, frow_ext (frow_mid hzr1.next _) kpc, frow_ext (frow_mid hzr1.mat _) kpc, hc7⟩
      have hcz2 : anC z2 = [.int .i64 z1.x.role, .int .i64 z1.x.term, .int .i64 z1.x.vote, .int .i64 (max z1.x.commit (min m.m.commit (m.m.prev + k))), .slice A7 lg.length c7, .slice z1.VA z1.x.votes.length z1.vc, .slice z1.XA z1.x.next.length z1.xc, .slice z1.MA z1.x.mat.length z1.mc] := by rw [hz2]
      refine x_drawL (NoB) (allS) (.take 0 (.take 1 (.take 2 (.take 3 (.take 5 (.eff 4 (.eff 6 (.last 7)))))))) mixed (by kernel_rfl) (fun _ _ _ _ _ h => h) (fun w84 l84 => ?_)
      refine xt_Lb rfl ?_
      refine xt_Fb rfl ?_
      refine xt_v rfl (v_congr (u := .int .i64 (i : Int)) v_load (by rw [hm.to])) ?_
      refine xt_v rfl (v_congr (u := .agg (anC z2).toArray) v_loadA (by rw [hcz2])) ?_
      refine xt_Lb rfl ?_
      refine xt_call rfl (withD_ok (Mid P w.heap.size (w18).heap.size) R i z2 w84 (midP hP hge0 Ge.le) ((h.mid _).ext kpc) (hrz2.ext kpc) hi hn5) ?_
      rintro _ w85 ⟨⟨R1, rfl, hR1, hR1n⟩, lk84⟩
      refine ⟨kpc, ?_⟩
      have hbs1 : R1.bs.length ≤ 256 := by
       have h1 := congrArg (fun q : Dq => q.bag.length) hR1.1
       simp [LDq.pure, Dq.setN] at h1
       omega
      refine xt_call rfl (sendD_ok (Mid P w.heap.size (w18).heap.size) R1 ⟨{ Bl.zero with kind := 4, frm := m.m.to, to := m.m.frm, term := z.x.term, ok := true, mat := m.m.prev + k }, none, 0⟩ w85 (midP hP hge0 Ge.le) (hR1.2.ext kpc) (FRow.nil _ _) hbs1) ?_
      rintro _ w86 ⟨⟨R2, rfl, hR2, _⟩, lk86⟩
      refine ⟨kpc, ?_⟩
      refine xt_lastS rfl (e_storeA fun w87 l87 k87 => ?_)
      refine x_ret ?_
      refine finR (rs := [.cell 4 32]) rfl ?_
      refine ⟨⟨R2, by simp [outV], ?_, hR2.2.box l87.keep ⟨hb4, hb4l⟩⟩, lkc⟩
      have hp := moreD_yes (q := R.pure) (log := lg) (k := L.length) c1 hgood hpn (by rw [← hL]) (by rw [← hlayF, hzx, hL])
      rw [hti, ← hpn, ← hkL] at hp
      rw [hR2.1, hR1.1, hp, hz2, hzx]
end Go.Proofs.YtljdkelgapndgaaGreat
