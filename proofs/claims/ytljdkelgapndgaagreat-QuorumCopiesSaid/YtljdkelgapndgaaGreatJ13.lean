/-
 Walks, printed by a program of this workplace (wip/tools/sx.py) off the functions' code and a text of contracts.
-/
import Derived.Test.YtljdkelgapndgaaGreatJ12
set_option linter.all false
set_option maxRecDepth 100000
set_option synthInstance.maxSize 100000
set_option synthInstance.maxHeartbeats 400000
namespace Go.Proofs.YtljdkelgapndgaaGreat
open Go.Wst
open Go.Wst.Qm
structure AnFit (cnt : Nat) (x : An) : Prop where
 ll : x.log.length ≤ 256
 vl : x.votes.length ≤ 5
 c0 : 0 ≤ x.commit
 l3 : x.role = 3 → x.mat.length = cnt ∧ x.next.length = cnt
theorem AnFit.voter {cnt : Nat} {x : An} (h : AnFit cnt x) (t : Int) : AnFit cnt (x.voter t) := ⟨h.ll, Nat.zero_le _, h.c0, fun e => by cases (show (1 : Int) = 3 from e)⟩
theorem ins_len (n : Int) (l : List Int) : (ins n l).length ≤ l.length + 1 := by
 induction l with
 | nil => simp [ins]
 | cons a l ih =>
   unfold ins
   split
   ·simp
   ·split
    ·simp
    ·simp; exact ih
theorem RefAt.boxM {W W' : World} {P : Nat → Prop} {R : LDq} {a b c : Nat} (h : RefAt W (Mid P a b) R) (hk : Keep (OneB c) W W') (hc : a ≤ c ∧ c < b) : RefAt W' (Mid P a b) R :=
 h.keep hk (fun k e _ e2 => by have e3 : k = c := e2; have := e.2; omega)
def _root_.Go.Wst.Qm.Dq.goes (q : Dq) (m : Bl) (x : An) : Dq := if m.kind = 1 then q.asked m x else if m.kind = 2 then q.voted m x else if m.kind = 3 then q.more m x else q.matched m x
theorem bag_setN {R R1 : LDq} {q : Dq} (h : R1.pure = q) : R1.bs.length = q.bag.length := by rw [← h]; simp [LDq.pure]
theorem ns_setN {R1 : LDq} {q : Dq} (h : R1.pure = q) : R1.ns.length = q.nodes.length := by rw [← h]; simp [LDq.pure]
set_option maxHeartbeats 1000000 in
theorem comeD_ok (P : Nat → Prop) (R : LDq) (i : Nat) (z : LAn) (m : LBl) (w : World) (hP : ∀ k, w.heap.size ≤ k → P k) (h : RefAt w P R) (hz : R.ns[i]? = some z) (hm : MsgD w P R i m) (hn5 : R.ns.length ≤ 5) (hb : R.bs.length ≤ 256) (hf : AnFit R.ns.length z.x) (hp0 : 0 ≤ m.m.prev ∧ m.m.prev ≤ 256) : Ret Tryz.prog 35 #[.agg (dqC R).toArray, .agg (blC m).toArray] w (fun v w' => (∃ R', v = .agg (dqC R').toArray ∧ RMade P w' (R.pure.come m.m) R') ∧ Lk w' w NoB) := by
 haveI hrb : Row w R.NA (R.ns.flatMap anC) := ⟨h.nodes.row⟩
 have hi : i < R.ns.length := (List.getElem?_eq_some_iff.1 hz).1
 have hzi : R.ns[i] = z := (List.getElem?_eq_some_iff.1 hz).2
 have hzr := h.rows z (List.mem_of_getElem? hz)
 haveI holdN : OldA w R.NA := ⟨fun a ha => (h.nodes.blk a ha).2⟩
 haveI hrl : Row w z.LA (cmdsC z.x.log) := ⟨hzr.log.row⟩
 haveI hrm : Row w z.MA (ints z.x.mat) := ⟨hzr.mat.row⟩
 haveI hrx : Row w z.XA (ints z.x.next) := ⟨hzr.next.row⟩
 haveI holdL : OldA w z.LA := ⟨fun a ha => (hzr.log.blk a ha).2⟩
 haveI holdM : OldA w z.MA := ⟨fun a ha => (hzr.mat.blk a ha).2⟩
 haveI holdX : OldA w z.XA := ⟨fun a ha => (hzr.next.blk a ha).2⟩
 refine ret_of_x (N := 79) (l := [.agg (dqC R).toArray, .agg (blC m).toArray]) Tryz.func35 rfl rfl (Nat.le_of_ble_eq_true rfl) ?_
 refine x_seq ?_
 refine x_regionL ?_
 refine xl_e (e_box fun bq w1 nq lq kq => ?_)
 refine xl_e (e_box fun b2 w2 n2 l2 k2 => ?_)
 refine xl_e (e_alloc fun b4 w3 n4 l4 k4 => ?_)
 refine xl_nil ?_
 refine x_seq ?_
 refine x_seq ?_
 have hb4 : w.heap.size ≤ b4 := by rw [n4.eq]; exact Ge.le
 have hb2 : w.heap.size ≤ bq := Nat.le_of_eq nq.eq.symm
 have hb2l : bq < (w3).heap.size := Has.lt
 have hb4l : b4 < (w3).heap.size := Has.lt
 obtain ⟨N, hN⟩ : ∃ N, N = (w3).heap.size := ⟨_, rfl⟩
 have hwN : w.heap.size ≤ N := by rw [hN]; exact Ge.le
 rw [← hN] at hb2l hb4l
 refine x_drawL (NoB) (allS) (.take 0 (.take 1 (.take 2 (.take 3 (.take 4 (.take 5 (.take 6 (.take 7 (.take 8 (.take 9 .done)))))))))) mixed (by kernel_rfl) (fun _ _ _ _ _ h => h) (fun w4 l4 => ?_)
 refine xt_Fb rfl ?_
 refine xt_Lc rfl ?_
 refine xt_Fb rfl ?_
 refine xt_Lc rfl ?_
 refine xt_Fb rfl ?_
 refine xt_Lc rfl ?_
 refine xt_v rfl (v_indexF i (by decide) hm.to (by omega) hi) ?_
 refine xt_Fb rfl ?_
 refine xt_v rfl (v_congr (u := .int .i64 z.x.term) (v_loadFf hi) (by rw [hzi])) ?_
 refine xt_v rfl v_gtr ?_
 refine xt_nil ?_
 first | refine x_condP (fun c1 => ?_) (fun c1 => ?_) | refine x_condN (fun c1 => ?_) (fun c1 => ?_) | refine x_condE (fun c1 => ?_) (fun c1 => ?_)
 ·
  refine x_drawL (NoB) (allS) (.take 0 (.take 1 (.take 2 (.take 3 (.take 4 (.take 5 (.take 6 (.take 7 (.take 8 (.take 9 (.take 10 (.eff 11 (.eff 12 (.last 13)))))))))))))) mixed (by kernel_rfl) (fun _ _ _ _ _ h => h) (fun w5 l5 => ?_)
  refine xt_Lb rfl ?_
  refine xt_Fb rfl ?_
  refine xt_v rfl (v_congr (u := .int .i64 (i : Int)) v_load (by rw [hm.to])) ?_
  refine xt_Fb rfl ?_
  refine xt_Lc rfl ?_
  refine xt_Fb rfl ?_
  refine xt_Lc rfl ?_
  refine xt_v rfl (v_indexF i (by decide) hm.to (by omega) hi) ?_
  refine xt_v rfl (v_congr (u := .agg (anC z).toArray) (v_loadF (k := i) (by decide) hi) (by rw [hzi])) ?_
  refine xt_Fb rfl ?_
  refine xt_Lc rfl ?_
  refine xt_call rfl (voterD_ok z m.m.term w5) ?_
  rintro _ w6 ⟨rfl, lk11⟩
  refine ⟨kpc, ?_⟩
  refine xt_call rfl (withD_ok (Mid P w.heap.size N) R i (z.voter m.m.term) w6 (midP hP hwN (by rw [hN]; exact Ge.le)) ((h.mid _).ext kpc) (((⟨hzr.log, FRow.nil _ _, FRow.nil _ _, FRow.nil _ _, hzr.lc⟩ : RowsAn w P (z.voter m.m.term)).mid _).ext kpc) hi hn5) ?_
  rintro _ w7 ⟨⟨R1, rfl, hR1, hR1n⟩, lk12⟩
  refine ⟨kpc, ?_⟩
  refine xt_lastS rfl (e_storeA fun w8 l13 k13 => ?_)
  have hres : ∃ (R2 : LDq) (z2 : LAn), RefAt w8 (Mid P w.heap.size N) R2 ∧ R2.ns[i]? = some z2 ∧ R2.pure = R.pure.setN i z2.x ∧ z2.x = (if z.x.term < m.m.term then z.x.voter m.m.term else z.x) ∧ Blk w8 bq (.cells (dqC R2).toArray 32 (0, 0)) := ⟨R1, z.voter m.m.term, hR1.2.boxM l13.keep ⟨hb2, hb2l⟩, by rw [hR1n]; simp [hi], hR1.1, by rw [if_pos c1]; rfl, k13⟩
  refine x_seq ?_
  refine x_seq ?_
  obtain ⟨R2, z2, hR2, hz2, hp2, hx2, kb2⟩ := hres
  have hf2 : AnFit R.ns.length z2.x := by
   rw [hx2]
   by_cases e : z.x.term < m.m.term
   ·rw [if_pos e]; exact hf.voter _
   ·rw [if_neg e]; exact hf
  have hn2l : R2.ns.length = R.ns.length := by rw [ns_setN hp2]; simp [Dq.setN, LDq.pure]
  have hb2s : R2.bs.length ≤ 256 := by rw [bag_setN (R := R) hp2]; simpa [Dq.setN, LDq.pure] using hb
  rw [← hn2l] at hf2
  have hcome : R.pure.come m.m = R2.pure.goes m.m z2.x := by
   rw [hp2, hx2]
   unfold Dq.come Dq.goes
   rw [hm.to, pureD_node hz]
   rfl
  have hNw : N ≤ (w8).heap.size := by rw [hN]; exact Ge.le
  have hmd : MsgD w8 (Mid P w.heap.size N) R2 i m := ⟨hm.to, by rw [hn2l]; exact hm.f, frow_ext (frow_mid hm.row N) kpc, hm.len⟩
  have hPm : ∀ k, (w8).heap.size ≤ k → Mid P w.heap.size N k := midP hP hwN hNw
  have hmk := hm.to
  refine x_regionL ?_
  refine xl_Fb ?_
  refine xl_Lc ?_
  refine xl_nil ?_
  refine x_block ?_
  refine x_seq ?_
  refine x_regionL ?_
  refine xl_v v_eql ?_
  refine xl_v v_assign ?_
  refine xl_nil ?_
  first | refine x_condP (fun c2 => ?_) (fun c2 => ?_) | refine x_condN (fun c2 => ?_) (fun c2 => ?_) | refine x_condE (fun c2 => ?_) (fun c2 => ?_)
  ·
   refine x_seq ?_
   refine x_regionL ?_
   refine xl_Lb ?_
   refine xl_Lb ?_
   refine xl_call (askedD_ok (Mid P w.heap.size N) R2 i z2 m w8 (fun k e => hPm k (Nat.le_trans Ge.le e)) (hR2.ext kpc) hz2 ⟨hmd.to, hmd.f, frow_ext hmd.row kpc, hmd.len⟩ (by omega) hb2s hf2.ll) ?_
   rintro _ w9 ⟨⟨R3, rfl, hR3⟩, lk52⟩
   refine xl_s (e_storeA fun w10 l53 k53 => ?_)
   refine xl_nil ?_
   refine x_ret ?_
   refine finR (rs := [.cell 4 32]) rfl ?_
   refine ⟨⟨R3, by simp [outV], ?_, hR3.2.box l53.keep ⟨hb4, hb4l⟩⟩, lkc⟩
   rw [hR3.1, hcome, Dq.goes, if_pos c2]
  ·
   refine x_seq ?_
   refine x_regionL ?_
   refine xl_v v_eql ?_
   refine xl_v v_assign ?_
   refine xl_nil ?_
   first | refine x_condP (fun c3 => ?_) (fun c3 => ?_) | refine x_condN (fun c3 => ?_) (fun c3 => ?_) | refine x_condE (fun c3 => ?_) (fun c3 => ?_)
   ·
    refine x_seq ?_
    haveI hrn2 : Row w8 R2.NA (R2.ns.flatMap anC) := ⟨hR2.nodes.row⟩
    have hi2 : i < R2.ns.length := by omega
    have hzi2 : R2.ns[i] = z2 := (List.getElem?_eq_some_iff.1 hz2).2
    haveI holdN2 : OldA w8 R2.NA := ⟨fun a ha => (hR2.nodes.blk a ha).2⟩
    refine x_regionL ?_
    refine xl_Fb ?_
    refine xl_Lc ?_
    refine xl_Fb ?_
    refine xl_Lc ?_
    refine xl_v (v_indexF i (by decide) hm.to (by omega) hi2) ?_
    refine xl_v (v_congr (u := .agg (anC z2).toArray) (v_loadF (k := i) (by decide) hi2) (by rw [hzi2])) ?_
    refine xl_e (e_alloc fun b5 w11 n5 l5 k5 => ?_)
    refine xl_s (e_storeA fun w12 l77 k77 => ?_)
    refine xl_nil ?_
    refine x_seq ?_
    refine x_seq ?_
    refine x_regionL ?_
    refine xl_Fb ?_
    refine xl_Lc ?_
    refine xl_v v_neq ?_
    refine xl_v v_move ?_
    refine xl_split 47 (fun g47 => ?_) (fun g47 => ?_)
    ·
     refine xl_gs rfl EvO.eq ?_
     refine xl_gs rfl EvO.eq ?_
     refine xl_gs rfl EvO.eq ?_
     refine xl_gs rfl EvO.eq ?_
     refine xl_gs rfl EvO.eq ?_
     refine xl_Pk ?_
     refine xl_v v_move ?_
     refine xl_gs rfl EvO.eq ?_
     refine xl_gs rfl EvO.eq ?_
     refine xl_gs rfl EvO.eq ?_
     refine xl_Pk ?_
     refine xl_nil ?_
     refine x_condT ?_
     refine x_seq ?_
     refine x_regionL ?_
     refine xl_Lb ?_
     refine xl_s (e_storeA fun w13 l91 k91 => ?_)
     refine xl_nil ?_
     refine x_ret ?_
     refine finR (rs := [.cell 4 32]) rfl ?_
     refine ⟨⟨R2, by simp [outV], ?_, (hR2.ext (kpc : Keep NoB _ _)).box l91.keep ⟨hb4, hb4l⟩⟩, lkc⟩
     have hno : ¬ (z2.x.role = 2 ∧ m.m.term = z2.x.term ∧ m.m.ok = true) := by
      rintro ⟨e1, e2, e3⟩
      first
       | (simp [e1] at g47; done)
       | (simp [e2] at g54; done)
       | (simp [e3] at c4; done)
     rw [hcome, Dq.goes, if_neg c2, if_pos c3]
     exact (if_neg hno).symm
    ·
     refine xl_gFb rfl EvO.eq ?_
     refine xl_gLc rfl EvO.eq ?_
     refine xl_gFb rfl EvO.eq ?_
     refine xl_gLc rfl EvO.eq ?_
     refine xl_gv rfl EvO.eq v_neq ?_
     refine xl_Pk ?_
     refine xl_v v_move ?_
     refine xl_split 54 (fun g54 => ?_) (fun g54 => ?_)
     ·
      refine xl_gs rfl EvO.eq ?_
      refine xl_gs rfl EvO.eq ?_
      refine xl_gs rfl EvO.eq ?_
      refine xl_Pk ?_
      refine xl_nil ?_
      refine x_condT ?_
      refine x_seq ?_
      refine x_regionL ?_
      refine xl_Lb ?_
      refine xl_s (e_storeA fun w14 l91 k91 => ?_)
      refine xl_nil ?_
      refine x_ret ?_
      refine finR (rs := [.cell 4 32]) rfl ?_
      refine ⟨⟨R2, by simp [outV], ?_, (hR2.ext (kpc : Keep NoB _ _)).box l91.keep ⟨hb4, hb4l⟩⟩, lkc⟩
      have hno : ¬ (z2.x.role = 2 ∧ m.m.term = z2.x.term ∧ m.m.ok = true) := by
       rintro ⟨e1, e2, e3⟩
       first
        | (simp [e1] at g47; done)
        | (simp [e2] at g54; done)
        | (simp [e3] at c4; done)
      rw [hcome, Dq.goes, if_neg c2, if_pos c3]
      exact (if_neg hno).symm
     ·
      refine xl_gFb rfl EvO.eq ?_
      refine xl_gLc rfl EvO.eq ?_
      refine xl_gv rfl EvO.eq v_not ?_
      refine xl_Pk ?_
      refine xl_nil ?_
      refine x_condE (fun c4 => ?_) (fun c4 => ?_)
      ·
       refine x_seq ?_
       refine x_regionL ?_
       refine xl_Lb ?_
       refine xl_s (e_storeA fun w15 l91 k91 => ?_)
       refine xl_nil ?_
       refine x_ret ?_
       refine finR (rs := [.cell 4 32]) rfl ?_
       refine ⟨⟨R2, by simp [outV], ?_, (hR2.ext (kpc : Keep NoB _ _)).box l91.keep ⟨hb4, hb4l⟩⟩, lkc⟩
       have hno : ¬ (z2.x.role = 2 ∧ m.m.term = z2.x.term ∧ m.m.ok = true) := by
        rintro ⟨e1, e2, e3⟩
        first
         | (simp [e1] at g47; done)
         | (simp [e2] at g54; done)
         | (simp [e3] at c4; done)
       rw [hcome, Dq.goes, if_neg c2, if_pos c3]
       exact (if_neg hno).symm
      ·
       have hyes : z2.x.role = 2 ∧ m.m.term = z2.x.term ∧ m.m.ok = true := by
        first
         | (exfalso; simp at c4; done)
         | exact ⟨by simpa using g47, by simpa using g54, by simpa using c4⟩
       refine x_skip ?_
       refine x_seq ?_
       refine x_drawL (NoB) (allS) (.take 0 (.take 1 (.take 2 (.take 3 (.take 4 (.take 5 (.take 8 (.take 9 (.eff 6 (.eff 7 (.eff 10 (.last 11)))))))))))) mixed (by kernel_rfl) (fun _ _ _ _ _ h => h) (fun w16 l16 => ?_)
       refine xt_Lb rfl ?_
       refine xt_Fb rfl ?_
       refine xt_v rfl (v_congr (u := .int .i64 (i : Int)) v_load (by rw [hm.to])) ?_
       refine xt_Lb rfl ?_
       refine xt_Fb rfl ?_
       refine xt_Lc rfl ?_
       refine xt_Fb rfl ?_
       refine xt_v rfl (v_congr (u := .int .i64 (i : Int)) v_load (by rw [hm.to])) ?_
       refine xt_call rfl (votedD_ok (Mid P w.heap.size N) z2 m.m.frm w16 (fun k e => hPm k (Nat.le_trans Ge.le e)) ((hR2.rows z2 (List.mem_of_getElem? hz2)).ext kpc) hf2.vl) ?_
       rintro _ w17 ⟨⟨z3, rfl, hz3, hz3r⟩, lk106⟩
       refine ⟨kpc, ?_⟩
       refine xt_call rfl (withD_ok (Mid P w.heap.size N) R2 i z3 w17 (fun k e => hPm k (Nat.le_trans Ge.le e)) (hR2.ext kpc) hz3r hi2 (by omega)) ?_
       rintro _ w18 ⟨⟨R3, rfl, hR3, hR3n⟩, lk107⟩
       refine ⟨kpc, ?_⟩
       refine xt_call rfl (leadsD_ok (Mid P w.heap.size N) R3 i z3 w18 (fun k e => hPm k (Nat.le_trans Ge.le e)) (hR3.2.ext kpc) (by rw [hR3n]; simp [hi2]) (by rw [hR3n]; simp; omega) (by rw [hz3]; exact hf2.ll) (by rw [hz3]; have h1 := ins_len m.m.frm z2.x.votes; have h2 := hf2.vl; show (ins m.m.frm z2.x.votes).length ≤ 1000; omega) (by rw [hz3]; exact hf2.c0)) ?_
       rintro _ w19 ⟨⟨R4, rfl, hR4⟩, lk1010⟩
       refine ⟨kpc, ?_⟩
       refine xt_lastS rfl (e_storeA fun w20 l1011 k1011 => ?_)
       refine x_ret ?_
       refine finR (rs := [.cell 4 32]) rfl ?_
       refine ⟨⟨R4, by simp [outV], ?_, hR4.2.box l1011.keep ⟨hb4, hb4l⟩⟩, lkc⟩
       rw [hR4.1, hR3.1, setN_setND, hcome, Dq.goes, if_neg c2, if_pos c3, hz3, hR3n, len_mapset]
       unfold Dq.voted
       rw [if_pos hyes, hm.to, pureD_len]
       rfl
   ·
    refine x_seq ?_
    refine x_regionL ?_
    refine xl_v v_eql ?_
    refine xl_v v_assign ?_
    refine xl_nil ?_
    first | refine x_condP (fun c5 => ?_) (fun c5 => ?_) | refine x_condN (fun c5 => ?_) (fun c5 => ?_) | refine x_condE (fun c5 => ?_) (fun c5 => ?_)
    ·
     refine x_seq ?_
     refine x_regionL ?_
     refine xl_Lb ?_
     refine xl_Lb ?_
     refine xl_call (moreD_ok (Mid P w.heap.size N) R2 i z2 m w8 (fun k e => hPm k (Nat.le_trans Ge.le e)) (hR2.ext kpc) hz2 ⟨hmd.to, hmd.f, frow_ext hmd.row kpc, hmd.len⟩ (by omega) hb2s hf2.ll hp0) ?_
     rintro _ w21 ⟨⟨R3, rfl, hR3⟩, lk122⟩
     refine xl_s (e_storeA fun w22 l123 k123 => ?_)
     refine xl_nil ?_
     refine x_ret ?_
     refine finR (rs := [.cell 4 32]) rfl ?_
     refine ⟨⟨R3, by simp [outV], ?_, hR3.2.box l123.keep ⟨hb4, hb4l⟩⟩, lkc⟩
     rw [hR3.1, hcome, Dq.goes, if_neg c2, if_neg c3, if_pos c5]
    ·
     refine x_skip ?_
     refine x_seq ?_
     refine x_regionL ?_
     refine xl_Lb ?_
     refine xl_Lb ?_
     refine xl_call (matchedD_ok (Mid P w.heap.size N) R2 i z2 m w8 (fun k e => hPm k (Nat.le_trans Ge.le e)) (hR2.ext kpc) hz2 ⟨hmd.to, hmd.f, frow_ext hmd.row kpc, hmd.len⟩ (by omega) hf2.ll hf2.c0 hf2.l3) ?_
     rintro _ w23 ⟨⟨R3, rfl, hR3⟩, lk132⟩
     refine xl_s (e_storeA fun w24 l133 k133 => ?_)
     refine xl_nil ?_
     refine x_ret ?_
     refine finR (rs := [.cell 4 32]) rfl ?_
     refine ⟨⟨R3, by simp [outV], ?_, hR3.2.box l133.keep ⟨hb4, hb4l⟩⟩, lkc⟩
     rw [hR3.1, hcome, Dq.goes, if_neg c2, if_neg c3, if_neg c5]
 ·
  have hres : ∃ (R2 : LDq) (z2 : LAn), RefAt w4 (Mid P w.heap.size N) R2 ∧ R2.ns[i]? = some z2 ∧ R2.pure = R.pure.setN i z2.x ∧ z2.x = (if z.x.term < m.m.term then z.x.voter m.m.term else z.x) ∧ Blk w4 bq (.cells (dqC R2).toArray 32 (0, 0)) := ⟨R, z, (h.mid _).ext kpc, hz, (pureD_self hz).symm, by rw [if_neg c1], ⟨Blk.eq⟩⟩
  refine x_skip ?_
  refine x_seq ?_
  refine x_seq ?_
  obtain ⟨R2, z2, hR2, hz2, hp2, hx2, kb2⟩ := hres
  have hf2 : AnFit R.ns.length z2.x := by
   rw [hx2]
   by_cases e : z.x.term < m.m.term
   ·rw [if_pos e]; exact hf.voter _
   ·rw [if_neg e]; exact hf
  have hn2l : R2.ns.length = R.ns.length := by rw [ns_setN hp2]; simp [Dq.setN, LDq.pure]
  have hb2s : R2.bs.length ≤ 256 := by rw [bag_setN (R := R) hp2]; simpa [Dq.setN, LDq.pure] using hb
  rw [← hn2l] at hf2
  have hcome : R.pure.come m.m = R2.pure.goes m.m z2.x := by
   rw [hp2, hx2]
   unfold Dq.come Dq.goes
   rw [hm.to, pureD_node hz]
   rfl
  have hNw : N ≤ (w4).heap.size := by rw [hN]; exact Ge.le
  have hmd : MsgD w4 (Mid P w.heap.size N) R2 i m := ⟨hm.to, by rw [hn2l]; exact hm.f, frow_ext (frow_mid hm.row N) kpc, hm.len⟩
  have hPm : ∀ k, (w4).heap.size ≤ k → Mid P w.heap.size N k := midP hP hwN hNw
  have hmk := hm.to
  refine x_regionL ?_
  refine xl_Fb ?_
  refine xl_Lc ?_
  refine xl_nil ?_
  refine x_block ?_
  refine x_seq ?_
  refine x_regionL ?_
  refine xl_v v_eql ?_
  refine xl_v v_assign ?_
  refine xl_nil ?_
  first | refine x_condP (fun c2 => ?_) (fun c2 => ?_) | refine x_condN (fun c2 => ?_) (fun c2 => ?_) | refine x_condE (fun c2 => ?_) (fun c2 => ?_)
  ·
   refine x_seq ?_
   refine x_regionL ?_
   refine xl_Lb ?_
   refine xl_Lb ?_
   refine xl_call (askedD_ok (Mid P w.heap.size N) R2 i z2 m w4 (fun k e => hPm k (Nat.le_trans Ge.le e)) (hR2.ext kpc) hz2 ⟨hmd.to, hmd.f, frow_ext hmd.row kpc, hmd.len⟩ (by omega) hb2s hf2.ll) ?_
   rintro _ w25 ⟨⟨R3, rfl, hR3⟩, lk52⟩
   refine xl_s (e_storeA fun w26 l53 k53 => ?_)
   refine xl_nil ?_
   refine x_ret ?_
   refine finR (rs := [.cell 4 32]) rfl ?_
   refine ⟨⟨R3, by simp [outV], ?_, hR3.2.box l53.keep ⟨hb4, hb4l⟩⟩, lkc⟩
   rw [hR3.1, hcome, Dq.goes, if_pos c2]
  ·
   refine x_seq ?_
   refine x_regionL ?_
   refine xl_v v_eql ?_
   refine xl_v v_assign ?_
   refine xl_nil ?_
   first | refine x_condP (fun c3 => ?_) (fun c3 => ?_) | refine x_condN (fun c3 => ?_) (fun c3 => ?_) | refine x_condE (fun c3 => ?_) (fun c3 => ?_)
   ·
    refine x_seq ?_
    haveI hrn2 : Row w4 R2.NA (R2.ns.flatMap anC) := ⟨hR2.nodes.row⟩
    have hi2 : i < R2.ns.length := by omega
    have hzi2 : R2.ns[i] = z2 := (List.getElem?_eq_some_iff.1 hz2).2
    haveI holdN2 : OldA w4 R2.NA := ⟨fun a ha => (hR2.nodes.blk a ha).2⟩
    refine x_regionL ?_
    refine xl_Fb ?_
    refine xl_Lc ?_
    refine xl_Fb ?_
    refine xl_Lc ?_
    refine xl_v (v_indexF i (by decide) hm.to (by omega) hi2) ?_
    refine xl_v (v_congr (u := .agg (anC z2).toArray) (v_loadF (k := i) (by decide) hi2) (by rw [hzi2])) ?_
    refine xl_e (e_alloc fun b5 w27 n5 l5 k5 => ?_)
    refine xl_s (e_storeA fun w28 l77 k77 => ?_)
    refine xl_nil ?_
    refine x_seq ?_
    refine x_seq ?_
    refine x_regionL ?_
    refine xl_Fb ?_
    refine xl_Lc ?_
    refine xl_v v_neq ?_
    refine xl_v v_move ?_
    refine xl_split 47 (fun g47 => ?_) (fun g47 => ?_)
    ·
     refine xl_gs rfl EvO.eq ?_
     refine xl_gs rfl EvO.eq ?_
     refine xl_gs rfl EvO.eq ?_
     refine xl_gs rfl EvO.eq ?_
     refine xl_gs rfl EvO.eq ?_
     refine xl_Pk ?_
     refine xl_v v_move ?_
     refine xl_gs rfl EvO.eq ?_
     refine xl_gs rfl EvO.eq ?_
     refine xl_gs rfl EvO.eq ?_
     refine xl_Pk ?_
     refine xl_nil ?_
     refine x_condT ?_
     refine x_seq ?_
     refine x_regionL ?_
     refine xl_Lb ?_
     refine xl_s (e_storeA fun w29 l91 k91 => ?_)
     refine xl_nil ?_
     refine x_ret ?_
     refine finR (rs := [.cell 4 32]) rfl ?_
     refine ⟨⟨R2, by simp [outV], ?_, (hR2.ext (kpc : Keep NoB _ _)).box l91.keep ⟨hb4, hb4l⟩⟩, lkc⟩
     have hno : ¬ (z2.x.role = 2 ∧ m.m.term = z2.x.term ∧ m.m.ok = true) := by
      rintro ⟨e1, e2, e3⟩
      first
       | (simp [e1] at g47; done)
       | (simp [e2] at g54; done)
       | (simp [e3] at c4; done)
     rw [hcome, Dq.goes, if_neg c2, if_pos c3]
     exact (if_neg hno).symm
    ·
     refine xl_gFb rfl EvO.eq ?_
     refine xl_gLc rfl EvO.eq ?_
     refine xl_gFb rfl EvO.eq ?_
     refine xl_gLc rfl EvO.eq ?_
     refine xl_gv rfl EvO.eq v_neq ?_
     refine xl_Pk ?_
     refine xl_v v_move ?_
     refine xl_split 54 (fun g54 => ?_) (fun g54 => ?_)
     ·
      refine xl_gs rfl EvO.eq ?_
      refine xl_gs rfl EvO.eq ?_
      refine xl_gs rfl EvO.eq ?_
      refine xl_Pk ?_
      refine xl_nil ?_
      refine x_condT ?_
      refine x_seq ?_
      refine x_regionL ?_
      refine xl_Lb ?_
      refine xl_s (e_storeA fun w30 l91 k91 => ?_)
      refine xl_nil ?_
      refine x_ret ?_
      refine finR (rs := [.cell 4 32]) rfl ?_
      refine ⟨⟨R2, by simp [outV], ?_, (hR2.ext (kpc : Keep NoB _ _)).box l91.keep ⟨hb4, hb4l⟩⟩, lkc⟩
      have hno : ¬ (z2.x.role = 2 ∧ m.m.term = z2.x.term ∧ m.m.ok = true) := by
       rintro ⟨e1, e2, e3⟩
       first
        | (simp [e1] at g47; done)
        | (simp [e2] at g54; done)
        | (simp [e3] at c4; done)
      rw [hcome, Dq.goes, if_neg c2, if_pos c3]
      exact (if_neg hno).symm
     ·
      refine xl_gFb rfl EvO.eq ?_
      refine xl_gLc rfl EvO.eq ?_
      refine xl_gv rfl EvO.eq v_not ?_
      refine xl_Pk ?_
      refine xl_nil ?_
      refine x_condE (fun c4 => ?_) (fun c4 => ?_)
      ·
       refine x_seq ?_
       refine x_regionL ?_
       refine xl_Lb ?_
       refine xl_s (e_storeA fun w31 l91 k91 => ?_)
       refine xl_nil ?_
       refine x_ret ?_
       refine finR (rs := [.cell 4 32]) rfl ?_
       refine ⟨⟨R2, by simp [outV], ?_, (hR2.ext (kpc : Keep NoB _ _)).box l91.keep ⟨hb4, hb4l⟩⟩, lkc⟩
       have hno : ¬ (z2.x.role = 2 ∧ m.m.term = z2.x.term ∧ m.m.ok = true) := by
        rintro ⟨e1, e2, e3⟩
        first
         | (simp [e1] at g47; done)
         | (simp [e2] at g54; done)
         | (simp [e3] at c4; done)
       rw [hcome, Dq.goes, if_neg c2, if_pos c3]
       exact (if_neg hno).symm
      ·
       have hyes : z2.x.role = 2 ∧ m.m.term = z2.x.term ∧ m.m.ok = true := by
        first
         | (exfalso; simp at c4; done)
         | exact ⟨by simpa using g47, by simpa using g54, by simpa using c4⟩
       refine x_skip ?_
       refine x_seq ?_
       refine x_drawL (NoB) (allS) (.take 0 (.take 1 (.take 2 (.take 3 (.take 4 (.take 5 (.take 8 (.take 9 (.eff 6 (.eff 7 (.eff 10 (.last 11)))))))))))) mixed (by kernel_rfl) (fun _ _ _ _ _ h => h) (fun w32 l32 => ?_)
       refine xt_Lb rfl ?_
       refine xt_Fb rfl ?_
       refine xt_v rfl (v_congr (u := .int .i64 (i : Int)) v_load (by rw [hm.to])) ?_
       refine xt_Lb rfl ?_
       refine xt_Fb rfl ?_
       refine xt_Lc rfl ?_
       refine xt_Fb rfl ?_
       refine xt_v rfl (v_congr (u := .int .i64 (i : Int)) v_load (by rw [hm.to])) ?_
       refine xt_call rfl (votedD_ok (Mid P w.heap.size N) z2 m.m.frm w32 (fun k e => hPm k (Nat.le_trans Ge.le e)) ((hR2.rows z2 (List.mem_of_getElem? hz2)).ext kpc) hf2.vl) ?_
       rintro _ w33 ⟨⟨z3, rfl, hz3, hz3r⟩, lk106⟩
       refine ⟨kpc, ?_⟩
       refine xt_call rfl (withD_ok (Mid P w.heap.size N) R2 i z3 w33 (fun k e => hPm k (Nat.le_trans Ge.le e)) (hR2.ext kpc) hz3r hi2 (by omega)) ?_
       rintro _ w34 ⟨⟨R3, rfl, hR3, hR3n⟩, lk107⟩
       refine ⟨kpc, ?_⟩
       refine xt_call rfl (leadsD_ok (Mid P w.heap.size N) R3 i z3 w34 (fun k e => hPm k (Nat.le_trans Ge.le e)) (hR3.2.ext kpc) (by rw [hR3n]; simp [hi2]) (by rw [hR3n]; simp; omega) (by rw [hz3]; exact hf2.ll) (by rw [hz3]; have h1 := ins_len m.m.frm z2.x.votes; have h2 := hf2.vl; show (ins m.m.frm z2.x.votes).length ≤ 1000; omega) (by rw [hz3]; exact hf2.c0)) ?_
       rintro _ w35 ⟨⟨R4, rfl, hR4⟩, lk1010⟩
       refine ⟨kpc, ?_⟩
       refine xt_lastS rfl (e_storeA fun w36 l1011 k1011 => ?_)
       refine x_ret ?_
       refine finR (rs := [.cell 4 32]) rfl ?_
       refine ⟨⟨R4, by simp [outV], ?_, hR4.2.box l1011.keep ⟨hb4, hb4l⟩⟩, lkc⟩
       rw [hR4.1, hR3.1, setN_setND, hcome, Dq.goes, if_neg c2, if_pos c3, hz3, hR3n, len_mapset]
       unfold Dq.voted
       rw [if_pos hyes, hm.to, pureD_len]
       rfl
   ·
    refine x_seq ?_
    refine x_regionL ?_
    refine xl_v v_eql ?_
    refine xl_v v_assign ?_
    refine xl_nil ?_
    first | refine x_condP (fun c5 => ?_) (fun c5 => ?_) | refine x_condN (fun c5 => ?_) (fun c5 => ?_) | refine x_condE (fun c5 => ?_) (fun c5 => ?_)
    ·
     refine x_seq ?_
     refine x_regionL ?_
     refine xl_Lb ?_
     refine xl_Lb ?_
     refine xl_call (moreD_ok (Mid P w.heap.size N) R2 i z2 m w4 (fun k e => hPm k (Nat.le_trans Ge.le e)) (hR2.ext kpc) hz2 ⟨hmd.to, hmd.f, frow_ext hmd.row kpc, hmd.len⟩ (by omega) hb2s hf2.ll hp0) ?_
     rintro _ w37 ⟨⟨R3, rfl, hR3⟩, lk122⟩
     refine xl_s (e_storeA fun w38 l123 k123 => ?_)
     refine xl_nil ?_
     refine x_ret ?_
     refine finR (rs := [.cell 4 32]) rfl ?_
     refine ⟨⟨R3, by simp [outV], ?_, hR3.2.box l123.keep ⟨hb4, hb4l⟩⟩, lkc⟩
     rw [hR3.1, hcome, Dq.goes, if_neg c2, if_neg c3, if_pos c5]
    ·
     refine x_skip ?_
     refine x_seq ?_
     refine x_regionL ?_
     refine xl_Lb ?_
     refine xl_Lb ?_
     refine xl_call (matchedD_ok (Mid P w.heap.size N) R2 i z2 m w4 (fun k e => hPm k (Nat.le_trans Ge.le e)) (hR2.ext kpc) hz2 ⟨hmd.to, hmd.f, frow_ext hmd.row kpc, hmd.len⟩ (by omega) hf2.ll hf2.c0 hf2.l3) ?_
     rintro _ w39 ⟨⟨R3, rfl, hR3⟩, lk132⟩
     refine xl_s (e_storeA fun w40 l133 k133 => ?_)
     refine xl_nil ?_
     refine x_ret ?_
     refine finR (rs := [.cell 4 32]) rfl ?_
     refine ⟨⟨R3, by simp [outV], ?_, hR3.2.box l133.keep ⟨hb4, hb4l⟩⟩, lkc⟩
     rw [hR3.1, hcome, Dq.goes, if_neg c2, if_neg c3, if_neg c5]
end Go.Proofs.YtljdkelgapndgaaGreat
set_option linter.all false
set_option maxRecDepth 100000
set_option synthInstance.maxSize 100000
set_option synthInstance.maxHeartbeats 400000
namespace Go.Proofs.YtljdkelgapndgaaGreat
open Go.Wst
open Go.Wst.Qm
theorem seekD_role {q : Dq} {n : Int} (h : (q.node n).role = 3) : q.seek n = (q, 160) := by unfold Dq.seek; simp only [if_pos h]
theorem seekD_top {q : Dq} {n : Int} (h : (q.node n).role ≠ 3) (h2 : top ≤ (q.node n).term) : q.seek n = (q, 161) := by unfold Dq.seek; simp only [if_neg h, if_pos h2]
theorem seekD_yes {q : Dq} {n : Int} {y : An} (h : (q.node n).role ≠ 3) (h2 : ¬ top ≤ (q.node n).term) (hy : y = { (q.node n).voter ((q.node n).term + 1) with role := 2, vote := n, votes := [n] }) :
    q.seek n = ((Qm.others q.nodes.length n).foldl (fun q j => q.send (askB n y.term y.log j)) (q.setN n.toNat (y.leads q.nodes.length n.toNat)), 0) := by
 subst hy
 unfold Dq.seek
 simp only [if_neg h, if_neg h2]
theorem sendD_bag {q : Dq} {m : Bl} (h : q.bag.length ≤ 256) : (q.send m).bag.length ≤ 256 := by
 unfold Dq.send
 split
 ·exact h
 ·simp only [List.length_append, List.length_singleton]; omega
theorem sendD_nodes (q : Dq) (m : Bl) : (q.send m).nodes = q.nodes := by unfold Dq.send; split <;> rfl
set_option maxHeartbeats 1000000 in
theorem seekD_ok (P : Nat → Prop) (R : LDq) (i : Nat) (z : LAn) (w : World) (hP : ∀ k, w.heap.size ≤ k → P k) (h : RefAt w P R) (hz : R.ns[i]? = some z) (hn5 : R.ns.length ≤ 5) (hb : R.bs.length ≤ 256) (hf : AnFit R.ns.length z.x) (ht : 0 ≤ z.x.term ∧ z.x.term ≤ 2147483647) : Ret Tryz.prog 31 #[.agg (dqC R).toArray, .int .i64 (i : Int)] w (fun v w' => (∃ R', v = .tuple #[.agg (dqC R').toArray, .int .i64 (R.pure.seek (i : Int)).2] ∧ RMade P w' (R.pure.seek (i : Int)).1 R') ∧ Lk w' w NoB) := by
 haveI hrb : Row w R.NA (R.ns.flatMap anC) := ⟨h.nodes.row⟩
 have hi : i < R.ns.length := (List.getElem?_eq_some_iff.1 hz).1
 have hzi : R.ns[i] = z := (List.getElem?_eq_some_iff.1 hz).2
 have hzr := h.rows z (List.mem_of_getElem? hz)
 haveI holdN : OldA w R.NA := ⟨fun a ha => (h.nodes.blk a ha).2⟩
 haveI hrl : Row w z.LA (cmdsC z.x.log) := ⟨hzr.log.row⟩
 haveI hrm : Row w z.MA (ints z.x.mat) := ⟨hzr.mat.row⟩
 haveI hrx : Row w z.XA (ints z.x.next) := ⟨hzr.next.row⟩
 haveI holdL : OldA w z.LA := ⟨fun a ha => (hzr.log.blk a ha).2⟩
 haveI holdM : OldA w z.MA := ⟨fun a ha => (hzr.mat.blk a ha).2⟩
 haveI holdX : OldA w z.XA := ⟨fun a ha => (hzr.next.blk a ha).2⟩
 refine ret_of_x (N := 62) (l := [.agg (dqC R).toArray, .int .i64 (i : Int)]) Tryz.func31 rfl rfl (Nat.le_of_ble_eq_true rfl) ?_
 refine x_seq ?_
 have hnode : R.pure.node (i : Int) = z.x := pureD_node hz
 have htop : top = 2147483647 := rfl
 have hll := hf.ll
 refine x_regionL ?_
 refine xl_e (e_box fun bq w1 nq lq kq => ?_)
 refine xl_e (e_alloc fun b4 w2 n4 l4 k4 => ?_)
 refine xl_v v_assign ?_
 refine xl_nil ?_
 refine x_seq ?_
 refine x_regionL ?_
 refine xl_Fb ?_
 refine xl_Lc ?_
 refine xl_v v_move ?_
 refine xl_v (v_indexF i (by decide) rfl (by omega) hi) ?_
 refine xl_v (v_congr (u := .agg (anC z).toArray) (v_loadF (k := i) (by decide) hi) (by rw [hzi])) ?_
 refine xl_e (e_alloc fun b6 w3 n6 l6 k6 => ?_)
 refine xl_s (e_storeA fun w4 l16 k16 => ?_)
 refine xl_nil ?_
 refine x_seq ?_
 refine x_seq ?_
 refine x_regionL ?_
 refine xl_Fb ?_
 refine xl_Lc ?_
 refine xl_v v_eql ?_
 refine xl_nil ?_
 first | refine x_condP (fun c1 => ?_) (fun c1 => ?_) | refine x_condN (fun c1 => ?_) (fun c1 => ?_) | refine x_condE (fun c1 => ?_) (fun c1 => ?_)
 ·
  refine x_seq ?_
  refine x_regionL ?_
  refine xl_Lb ?_
  refine xl_s (e_storeA fun w5 l5 k5 => ?_)
  refine xl_v v_assign ?_
  refine xl_nil ?_
  refine x_ret ?_
  refine finR (rs := [.cell 4 32, .tmp 5]) rfl ?_
  have hr := seekD_role (q := R.pure) (n := (i : Int)) (by rw [hnode]; exact c1)
  exact ⟨⟨R, by rw [hr]; simp [outV], by rw [hr], h.ext kpc⟩, lkc⟩
 ·
  have hnr : (R.pure.node (i : Int)).role ≠ 3 := by rw [hnode]; exact c1
  refine x_skip ?_
  refine x_seq ?_
  refine x_seq ?_
  refine x_regionL ?_
  refine xl_Fb ?_
  refine xl_Lc ?_
  refine xl_v v_geq ?_
  refine xl_nil ?_
  first | refine x_condP (fun c2 => ?_) (fun c2 => ?_) | refine x_condN (fun c2 => ?_) (fun c2 => ?_) | refine x_condE (fun c2 => ?_) (fun c2 => ?_)
  ·
   refine x_seq ?_
   refine x_regionL ?_
   refine xl_Lb ?_
   refine xl_s (e_storeA fun w6 l6 k6 => ?_)
   refine xl_v v_assign ?_
   refine xl_nil ?_
   refine x_ret ?_
   refine finR (rs := [.cell 4 32, .tmp 5]) rfl ?_
   have hr := seekD_top (q := R.pure) (n := (i : Int)) hnr (by rw [hnode]; omega)
   exact ⟨⟨R, by rw [hr]; simp [outV], by rw [hr], h.ext kpc⟩, lkc⟩
  ·
   have hnt : ¬ top ≤ (R.pure.node (i : Int)).term := by rw [hnode]; omega
   refine x_skip ?_
   refine x_seq ?_
   refine x_regionL ?_
   refine xl_Lb ?_
   refine xl_Fb ?_
   refine xl_Lc ?_
   refine xl_v (v_add (by omega)) ?_
   refine xl_call (voterD_ok z (z.x.term + 1) w4) ?_
   rintro _ w7 ⟨rfl, lk64⟩
   refine xl_s (e_storeA fun w8 l65 k65 => ?_)
   refine xl_nil ?_
   refine x_seq ?_
   refine x_regionL ?_
   refine xl_v v_move ?_
   refine xl_v v_move ?_
   refine xl_e (e_buildSlice1 rfl fun b28 w9 n28 l28 k28 => ?_)
   refine xl_Fb ?_
   refine xl_s (e_store fun w10 l74 k74 => ?_)
   refine xl_Fb ?_
   refine xl_s (e_store fun w11 l76 k76 => ?_)
   refine xl_Fb ?_
   refine xl_s (e_store fun w12 l78 k78 => ?_)
   refine xl_nil ?_
   refine x_seq ?_
   obtain ⟨z1, hz1⟩ : ∃ z1 : LAn, z1 = { z.voter (z.x.term + 1) with x := { (z.voter (z.x.term + 1)).x with role := 2, vote := (i : Int), votes := [(i : Int)] }, VA := some ⟨b28, 0, none⟩, vc := 1 } := ⟨_, rfl⟩
   have hcz1 : anC z1 = [.int .i64 2, .int .i64 (z.voter (z.x.term + 1)).x.term, .int .i64 (i : Int), .int .i64 z.x.commit, .slice z.LA z.x.log.length z.lc, .slice (some ⟨b28, 0, none⟩) 1 1, .slice none 0 0, .slice none 0 0] := by rw [hz1]; rfl
   have hbq : w.heap.size ≤ bq := Nat.le_of_eq nq.eq.symm
   have hb4 : w.heap.size ≤ b4 := by rw [n4.eq]; exact Ge.le
   have hb6 : w.heap.size ≤ b6 := by rw [n6.eq]; exact Ge.le
   have hbq4 : bq < b4 := by rw [n4.eq]; exact Has.lt
   have hb46 : b4 < b6 := by rw [n6.eq]; exact Has.lt
   have hb628 : b6 < b28 := by rw [n28.eq]; exact Has.lt
   have hPm : ∀ k, (w12).heap.size ≤ k → Mid P w.heap.size b28 k := midP hP (by omega) (Nat.le_of_lt Has.lt)
   have hrz1 : RowsAn w12 (Mid P w.heap.size b28) z1 := by
    rw [hz1]
    refine ⟨frow_ext (frow_mid hzr.log _) kpc, ?_, FRow.nil _ _, FRow.nil _ _, hzr.lc⟩
    exact (FRow.of_blk (F := OneB b28) (Blk.eq : (w12).heap[b28]? = _) rfl).mono (fun k e => by
     have e' : k = b28 := e
     rw [e']
     exact ⟨⟨hP _ (by omega), .inr (Nat.le_refl _)⟩, Has.lt⟩)
   have hyt : z1.x = { (R.pure.node (i : Int)).voter ((R.pure.node (i : Int)).term + 1) with role := 2, vote := (i : Int), votes := [(i : Int)] } := by rw [hnode, hz1]; rfl
   have hr := seekD_yes (q := R.pure) (n := (i : Int)) (y := z1.x) hnr hnt hyt
   have hz1l : z1.x.log = z.x.log := by rw [hz1]; rfl
   have hz1A : z1.LA = z.LA := by rw [hz1]; rfl
   have hz1t : (z.voter (z.x.term + 1)).x.term = z1.x.term := by rw [hz1]
   refine x_regionL ?_
   refine xl_Lb ?_
   refine xl_v v_move ?_
   refine xl_v (v_congr (u := .agg (anC z1).toArray) v_loadA (by rw [hcz1]; rfl)) ?_
   refine xl_call (withD_ok (Mid P w.heap.size b28) R i z1 w12 (fun k e => hPm k (Nat.le_trans Ge.le e)) ((h.mid _).ext kpc) (hrz1.ext kpc) hi hn5) ?_
   rintro _ w13 ⟨⟨R1, rfl, hR1, hR1n⟩, lk83⟩
   refine xl_v v_move ?_
   refine xl_call (leadsD_ok (Mid P w.heap.size b28) R1 i z1 w13 (fun k e => hPm k (Nat.le_trans Ge.le e)) (hR1.2.ext kpc) (by rw [hR1n]; simp [hi]) (by rw [hR1n]; simpa using hn5) (by rw [hz1l]; exact hll) (by rw [hz1]; exact Nat.le_of_ble_eq_true rfl) (by rw [hz1]; exact hf.c0)) ?_
   rintro _ w14 ⟨⟨R2, rfl, hR2⟩, lk85⟩
   refine xl_s (e_storeA fun w15 l86 k86 => ?_)
   refine xl_nil ?_
   have hR2w := hR2.2.boxM l86.keep ⟨hbq, by omega⟩
   have hp2 : R2.pure = R.pure.setN i (z1.x.leads R.ns.length i) := by rw [hR2.1, hR1.1, setN_setND, hR1n, len_mapset]
   have hn2l : R2.ns.length = R.ns.length := by rw [ns_setN hp2]; simp [Dq.setN, LDq.pure]
   have hb2s : R2.bs.length ≤ 256 := by rw [bag_setN (R := R) hp2]; simpa [Dq.setN, LDq.pure] using hb
   refine x_seq ?_
   refine x_seq ?_
   refine x_regionL ?_
   refine xl_v v_assign ?_
   refine xl_nil ?_
   refine x_block ?_
   have hgew : b28 < (w15).heap.size := Has.lt
   refine x_loop (fun mm τ ds w' => ds = [] ∧ ∃ (k : Nat) (Rk : LDq), mm = R.ns.length - k ∧ k ≤ R.ns.length ∧ RefAt w' (Mid P w.heap.size b28) Rk ∧ Rk.pure = (Qm.others k (i : Int)).foldl (fun q j => q.send (askB (i : Int) z1.x.term z1.x.log j)) R2.pure ∧ Rk.ns.length = R.ns.length ∧ Rk.bs.length ≤ 256 ∧ Ev τ 1 (.int .i64 (i : Int)) ∧ Ev τ 2 (.pointer (some ⟨bq, 0, none⟩)) ∧ Ev τ 4 (.pointer (some ⟨b4, 0, none⟩)) ∧ Ev τ 6 (.pointer (some ⟨b6, 0, none⟩)) ∧ Ev τ 7 (.int .i64 (k : Int)) ∧ Blk w' bq (.cells (dqC Rk).toArray 32 (0, 0)) ∧ Lk w' w15 (OneB bq)) (R.ns.length) ?start ?round
   case start =>
    exact ⟨rfl, 0, R2, rfl, Nat.zero_le _, hR2w.ext kpc, rfl, hn2l, hb2s, inferInstance, inferInstance, inferInstance, inferInstance, evc, ⟨Blk.eq⟩, lkc⟩
   case round =>
    intro m τ16 ds16 w16 hI
    obtain ⟨rfl, k, Rk, rfl, hk, hRk, hpk, hnk, hbk, e1, e2, e4, e6, e7, kbq, lkL⟩ := hI
    have hgeL : b28 ≤ (w16).heap.size := Nat.le_of_lt (Nat.lt_of_lt_of_le hgew (Ge.le : _ ≤ (w16).heap.size))
    have hPk : ∀ j, (w16).heap.size ≤ j → Mid P w.heap.size b28 j := midP hP (by omega) hgeL
    refine x_seq ?_
    refine x_seq ?_
    refine x_regionL ?_
    refine xl_v v_move ?_
    refine xl_Fb ?_
    refine xl_Lc ?_
    refine xl_v v_len ?_
    refine xl_v v_lss ?_
    refine xl_nil ?_
    first | refine x_condP (fun c3 => ?_) (fun c3 => ?_) | refine x_condN (fun c3 => ?_) (fun c3 => ?_) | refine x_condE (fun c3 => ?_) (fun c3 => ?_)
    ·
     have hk1 : k < R.ns.length := by omega
     refine x_skip ?_
     refine x_seq ?_
     refine x_block ?_
     refine x_seq ?_
     refine x_regionL ?_
     refine xl_v v_move ?_
     refine xl_v v_move ?_
     refine xl_v v_neq ?_
     refine xl_nil ?_
     first | refine x_condP (fun c4 => ?_) (fun c4 => ?_) | refine x_condN (fun c4 => ?_) (fun c4 => ?_) | refine x_condE (fun c4 => ?_) (fun c4 => ?_)
     ·
      refine x_drawL (NoB) (allS) (.take 0 (.take 1 (.take 2 (.take 3 (.take 4 (.take 5 (.take 6 (.take 7 (.take 8 (.take 9 (.eff 10 (.take 11 (.eff 12 (.last 13)))))))))))))) mixed (by kernel_rfl) (fun _ _ _ _ _ h => h) (fun w17 l17 => ?_)
      refine xt_Lb rfl ?_
      refine xt_v rfl v_move ?_
      refine xt_v rfl v_move ?_
      refine xt_Fb rfl ?_
      refine xt_v rfl (v_congr (u := .int .i64 z1.x.term) v_load (by rw [hz1t])) ?_
      refine xt_Fb rfl ?_
      refine xt_Lc rfl ?_
      refine xt_v rfl (v_congr (u := .int .i64 z1.x.log.length) v_len (by rw [hz1l]; rfl)) ?_
      refine xt_Fb rfl ?_
      refine xt_Lc rfl ?_
      refine xt_call rfl (termD_ok z.LA z.x.log.length z.lc z.x.log w17 rfl (by omega)) ?_
      rintro _ w18 ⟨rfl, lk1310⟩
      refine ⟨kpc, ?_⟩
      have hofT : ofT z.x.log = ofT z1.x.log := by rw [hz1l]
      rw [hofT]
      refine xt_v rfl v_build ?_
      refine xt_call rfl (sendD_ok (Mid P w.heap.size b28) Rk ⟨askB (i : Int) z1.x.term z1.x.log (k : Int), none, 0⟩ w18 (fun j e => hPk j (Nat.le_trans Ge.le e)) (hRk.ext kpc) (FRow.nil _ _) hbk) ?_
      rintro _ w19 ⟨⟨Rn, rfl, hRn0, hRnn⟩, lk1312⟩
      refine ⟨kpc, ?_⟩
      refine xt_lastS rfl (e_storeA fun w20 l1313 k1313 => ?_)
      have hkn : ¬ (k : Int) = (i : Int) := c4
      have hRn : RefAt w20 (Mid P w.heap.size b28) Rn := hRn0.2.boxM l1313.keep ⟨hbq, by omega⟩
      have hpn : Rn.pure = (Qm.others (k + 1) (i : Int)).foldl (fun q j => q.send (askB (i : Int) z1.x.term z1.x.log j)) R2.pure := by
       rw [hRn0.1, hpk, others_snoc, if_neg hkn, List.foldl_append]; rfl
      have hnn : Rn.ns.length = R.ns.length := by rw [hRnn]; exact hnk
      have hbn : Rn.bs.length ≤ 256 := by rw [bag_setN (R := R) hRn0.1]; exact sendD_bag (by simpa [LDq.pure] using hbk)
      refine x_regionL ?_
      refine xl_v v_move ?_
      refine xl_v (v_add (by omega)) ?_
      refine xl_v v_assign ?_
      refine xl_nil ?_
      refine ⟨_, ?_, rfl, k + 1, Rn, rfl, by omega, hRn.ext kpc, hpn, hnn, hbn, inferInstance, inferInstance, inferInstance, inferInstance, evc, ⟨Blk.eq⟩, lkc⟩
      omega
     ·
      obtain ⟨Rn, hRn, hpn, hnn, hbn, kbn⟩ : ∃ Rn : LDq, RefAt w16 (Mid P w.heap.size b28) Rn ∧ Rn.pure = (Qm.others (k + 1) (i : Int)).foldl (fun q j => q.send (askB (i : Int) z1.x.term z1.x.log j)) R2.pure ∧ Rn.ns.length = R.ns.length ∧ Rn.bs.length ≤ 256 ∧ Blk w16 bq (.cells (dqC Rn).toArray 32 (0, 0)) :=
       ⟨Rk, hRk.ext kpc, by rw [hpk, others_snoc, if_pos (by first | exact c4 | exact Classical.not_not.1 c4), List.append_nil], hnk, hbk, ⟨Blk.eq⟩⟩
      refine x_skip ?_
      refine x_regionL ?_
      refine xl_v v_move ?_
      refine xl_v (v_add (by omega)) ?_
      refine xl_v v_assign ?_
      refine xl_nil ?_
      refine ⟨_, ?_, rfl, k + 1, Rn, rfl, by omega, hRn.ext kpc, hpn, hnn, hbn, inferInstance, inferInstance, inferInstance, inferInstance, evc, ⟨Blk.eq⟩, lkc⟩
      omega
    ·
     refine x_exit ?_
     refine x_seq ?_
     refine x_regionL ?_
     refine xl_Lb ?_
     refine xl_s (e_storeA fun w21 l141 k141 => ?_)
     refine xl_v v_assign ?_
     refine xl_nil ?_
     refine x_ret ?_
     refine finR (rs := [.cell 4 32, .tmp 5]) rfl ?_
     have hkn : k = R.ns.length := by omega
     refine ⟨⟨Rk, by rw [hr]; simp [outV], ?_, (hRk.ext (kpc : Keep NoB _ _)).box l141.keep ⟨hb4, by omega⟩⟩, lkc⟩
     rw [hpk, hr, hkn, hp2, pureD_len]
     rfl
end Go.Proofs.YtljdkelgapndgaaGreat
set_option linter.all false
set_option maxRecDepth 100000
set_option synthInstance.maxSize 100000
set_option synthInstance.maxHeartbeats 400000
namespace Go.Proofs.YtljdkelgapndgaaGreat
open Go.Wst
open Go.Wst.Qm
theorem takeD_32 {q : Dq} {p : Pk} (h : ¬ in32 p.b) : q.take p = (q, 2) := by unfold Dq.take; simp only [if_pos h]
theorem takeD_role {q : Dq} {p : Pk} (h : in32 p.b) (h2 : (q.node p.a).role ≠ 3) : q.take p = (q, 160) := by unfold Dq.take; simp only [if_neg (fun e => e h : ¬ ¬ in32 p.b), if_pos h2]
theorem takeD_long {q : Dq} {p : Pk} (h : in32 p.b) (h2 : (q.node p.a).role = 3) (h3 : 256 ≤ (q.node p.a).log.length) : q.take p = (q, 3) := by unfold Dq.take; simp only [if_neg (fun e => e h : ¬ ¬ in32 p.b), if_neg (fun e => e h2 : ¬ (q.node p.a).role ≠ 3), if_pos h3]
theorem takeD_yes {q : Dq} {p : Pk} (h : in32 p.b) (h2 : (q.node p.a).role = 3) (h3 : ¬ 256 ≤ (q.node p.a).log.length) : q.take p = (q.setN p.a.toNat (An.commits { q.node p.a with log := (q.node p.a).log ++ [⟨(q.node p.a).term, p.b⟩], mat := setI (q.node p.a).mat p.a ((q.node p.a).log.length + 1) } q.nodes.length), 0) := by unfold Dq.take; simp only [if_neg (fun e => e h : ¬ ¬ in32 p.b), if_neg (fun e => e h2 : ¬ (q.node p.a).role ≠ 3), if_neg h3]
theorem giveD_arg {q : Dq} {p : Pk} (h : ¬ q.has p.b ∨ p.b = p.a) : q.give p = (q, 2) := by unfold Dq.give; simp only [if_pos h]
theorem giveD_role {q : Dq} {p : Pk} (h : ¬ (¬ q.has p.b ∨ p.b = p.a)) (h2 : (q.node p.a).role ≠ 3) : q.give p = (q, 160) := by unfold Dq.give; simp only [if_neg h, if_pos h2]
theorem giveD_yes {q : Dq} {p : Pk} {x : An} {fn : Nat} (h : ¬ (¬ q.has p.b ∨ p.b = p.a)) (h2 : x.role = 3) (hx : q.node p.a = x) (hf : getI x.next p.b = (fn : Int)) : q.give p = (q.send { Bl.zero with kind := 3, frm := p.a, to := p.b, term := x.term, prev := fn, prevT := ofT (x.log.take fn), commit := x.commit, cmds := (x.log.drop fn).take 4 }, 0) := by
 subst hx
 unfold Dq.give
 simp only [if_neg h, if_neg (fun e => e h2 : ¬ (q.node p.a).role ≠ 3), hf]
 rfl
set_option maxHeartbeats 1000000 in
theorem takeD_ok (P : Nat → Prop) (R : LDq) (i : Nat) (z : LAn) (p : Pk) (w : World) (hP : ∀ k, w.heap.size ≤ k → P k) (h : RefAt w P R) (hz : R.ns[i]? = some z) (hn5 : R.ns.length ≤ 5) (hf : AnFit R.ns.length z.x) (hpa : p.a = (i : Int)) (hk : p.kind = 2) : Ret Tryz.prog 32 #[.agg (dqC R).toArray, .agg (pkC p).toArray] w (fun v w' => (∃ R', v = .tuple #[.agg (dqC R').toArray, .int .i64 (R.pure.take p).2] ∧ RMade P w' (R.pure.take p).1 R') ∧ Lk w' w NoB) := by
 haveI hrb : Row w R.NA (R.ns.flatMap anC) := ⟨h.nodes.row⟩
 have hi : i < R.ns.length := (List.getElem?_eq_some_iff.1 hz).1
 have hzi : R.ns[i] = z := (List.getElem?_eq_some_iff.1 hz).2
 have hzr := h.rows z (List.mem_of_getElem? hz)
 haveI holdN : OldA w R.NA := ⟨fun a ha => (h.nodes.blk a ha).2⟩
 haveI hrl : Row w z.LA (cmdsC z.x.log) := ⟨hzr.log.row⟩
 haveI hrm : Row w z.MA (ints z.x.mat) := ⟨hzr.mat.row⟩
 haveI hrx : Row w z.XA (ints z.x.next) := ⟨hzr.next.row⟩
 haveI holdL : OldA w z.LA := ⟨fun a ha => (hzr.log.blk a ha).2⟩
 haveI holdM : OldA w z.MA := ⟨fun a ha => (hzr.mat.blk a ha).2⟩
 haveI holdX : OldA w z.XA := ⟨fun a ha => (hzr.next.blk a ha).2⟩
 refine ret_of_x (N := 130) (l := [.agg (dqC R).toArray, .agg (pkC p).toArray]) Tryz.func32 rfl rfl (Nat.le_of_ble_eq_true rfl) ?_
 refine x_seq ?_
 have hnode : R.pure.node p.a = z.x := by rw [hpa]; exact pureD_node hz
 have hll := hf.ll
 refine x_regionL ?_
 refine xl_e (e_box fun bq w1 nq lq kq => ?_)
 refine xl_e (e_box fun bp w2 np lp kp => ?_)
 refine xl_e (e_alloc fun b4 w3 n4 l4 k4 => ?_)
 refine xl_v v_assign ?_
 refine xl_nil ?_
 refine x_seq ?_
 refine x_regionL ?_
 refine xl_Fb ?_
 refine xl_Lc ?_
 refine xl_Fb ?_
 refine xl_Lc ?_
 refine xl_v (v_indexF i (by decide) hpa (by omega) hi) ?_
 refine xl_v (v_congr (u := .agg (anC z).toArray) (v_loadF (k := i) (by decide) hi) (by rw [hzi])) ?_
 refine xl_e (e_alloc fun b6 w4 n6 l6 k6 => ?_)
 refine xl_s (e_storeA fun w5 l17 k17 => ?_)
 refine xl_nil ?_
 refine x_seq ?_
 refine x_regionL ?_
 refine xl_Fb ?_
 refine xl_Lc ?_
 refine xl_v (v_eqlT hk) ?_
 refine xl_v v_assign ?_
 refine xl_nil ?_
 refine x_seq ?_
 refine x_seq ?_
 refine x_regionL ?_
 refine xl_v v_move ?_
 refine xl_v v_move ?_
 refine xl_gFb rfl EvO.eq ?_
 refine xl_gLc rfl EvO.eq ?_
 refine xl_gv rfl EvO.eq v_lss ?_
 refine xl_gv rfl EvO.eq v_move ?_
 refine xl_split 24 (fun g24 => ?_) (fun g24 => ?_)
 ·
  refine xl_gs rfl EvO.eq ?_
  refine xl_gs rfl EvO.eq ?_
  refine xl_gs rfl EvO.eq ?_
  refine xl_gPk rfl EvO.eq ?_
  refine xl_Pk ?_
  refine xl_v v_move ?_
  refine xl_gs rfl EvO.eq ?_
  refine xl_gs rfl EvO.eq ?_
  refine xl_gs rfl EvO.eq ?_
  refine xl_gu rfl EvO.eq ?_
  refine xl_gu rfl EvO.eq ?_
  refine xl_gu rfl EvO.eq ?_
  refine xl_gu rfl EvO.eq ?_
  refine xl_gu rfl EvO.eq ?_
  refine xl_gu rfl EvO.eq ?_
  refine xl_gu rfl EvO.eq ?_
  refine xl_gu rfl EvO.eq ?_
  refine xl_gu rfl EvO.eq ?_
  refine xl_gu rfl EvO.eq ?_
  refine xl_gu rfl EvO.eq ?_
  refine xl_gu rfl EvO.eq ?_
  refine xl_gu rfl EvO.eq ?_
  refine xl_gu rfl EvO.eq ?_
  refine xl_gu rfl EvO.eq ?_
  refine xl_gu rfl EvO.eq ?_
  refine xl_gu rfl EvO.eq ?_
  refine xl_gu rfl EvO.eq ?_
  refine xl_gs rfl EvO.eq ?_
  refine xl_Pk ?_
  refine xl_nil ?_
  refine x_condT ?_
  refine x_seq ?_
  refine x_regionL ?_
  refine xl_Lb ?_
  refine xl_s (e_storeA fun w6 l6 k6 => ?_)
  refine xl_v v_assign ?_
  refine xl_nil ?_
  refine x_ret ?_
  refine finR (rs := [.cell 4 32, .tmp 5]) rfl ?_
  have hno : ¬ in32 p.b := by
   rintro ⟨e1, e2⟩
   first
    | (simp at g24; omega)
    | (simp at g30; omega)
    | (simp at c1; omega)
  have hr := takeD_32 (q := R.pure) hno
  exact ⟨⟨R, by rw [hr]; simp [outV], by rw [hr], h.ext kpc⟩, lkc⟩
 ·
  refine xl_gFb rfl EvO.eq ?_
  refine xl_gLc rfl EvO.eq ?_
  refine xl_gv rfl EvO.eq v_gtr ?_
  refine xl_gPk rfl EvO.eq ?_
  refine xl_Pk ?_
  refine xl_v v_move ?_
  refine xl_split 30 (fun g30 => ?_) (fun g30 => ?_)
  ·
   refine xl_gs rfl EvO.eq ?_
   refine xl_gs rfl EvO.eq ?_
   refine xl_gs rfl EvO.eq ?_
   refine xl_gu rfl EvO.eq ?_
   refine xl_gu rfl EvO.eq ?_
   refine xl_gu rfl EvO.eq ?_
   refine xl_gu rfl EvO.eq ?_
   refine xl_gu rfl EvO.eq ?_
   refine xl_gu rfl EvO.eq ?_
   refine xl_gu rfl EvO.eq ?_
   refine xl_gu rfl EvO.eq ?_
   refine xl_gu rfl EvO.eq ?_
   refine xl_gu rfl EvO.eq ?_
   refine xl_gu rfl EvO.eq ?_
   refine xl_gu rfl EvO.eq ?_
   refine xl_gu rfl EvO.eq ?_
   refine xl_gu rfl EvO.eq ?_
   refine xl_gu rfl EvO.eq ?_
   refine xl_gu rfl EvO.eq ?_
   refine xl_gu rfl EvO.eq ?_
   refine xl_gu rfl EvO.eq ?_
   refine xl_gs rfl EvO.eq ?_
   refine xl_Pk ?_
   refine xl_nil ?_
   refine x_condT ?_
   refine x_seq ?_
   refine x_regionL ?_
   refine xl_Lb ?_
   refine xl_s (e_storeA fun w7 l7 k7 => ?_)
   refine xl_v v_assign ?_
   refine xl_nil ?_
   refine x_ret ?_
   refine finR (rs := [.cell 4 32, .tmp 5]) rfl ?_
   have hno : ¬ in32 p.b := by
    rintro ⟨e1, e2⟩
    first
     | (simp at g24; omega)
     | (simp at g30; omega)
     | (simp at c1; omega)
   have hr := takeD_32 (q := R.pure) hno
   exact ⟨⟨R, by rw [hr]; simp [outV], by rw [hr], h.ext kpc⟩, lkc⟩
  ·
   refine xl_gv rfl EvO.eq v_move ?_
   refine xl_gv rfl EvO.eq v_not ?_
   refine xl_gv rfl EvO.eq v_move ?_
   refine xl_gs rfl EvO.eq ?_
   refine xl_gs rfl EvO.eq ?_
   refine xl_gs rfl EvO.eq ?_
   refine xl_gs rfl EvO.eq ?_
   refine xl_gu rfl EvO.eq ?_
   refine xl_gu rfl EvO.eq ?_
   refine xl_gu rfl EvO.eq ?_
   refine xl_gu rfl EvO.eq ?_
   refine xl_gu rfl EvO.eq ?_
   refine xl_gu rfl EvO.eq ?_
   refine xl_gs rfl EvO.eq ?_
   refine xl_gs rfl EvO.eq ?_
   refine xl_gu rfl EvO.eq ?_
   refine xl_gu rfl EvO.eq ?_
   refine xl_gu rfl EvO.eq ?_
   refine xl_gu rfl EvO.eq ?_
   refine xl_gu rfl EvO.eq ?_
   refine xl_gs rfl EvO.eq ?_
   refine xl_gPk rfl EvO.eq ?_
   refine xl_Pk ?_
   refine xl_nil ?_
   refine x_condF ?_
   refine x_skip ?_
   refine x_seq ?_
   refine x_seq ?_
   have h32 : in32 p.b := by
    refine ⟨?_, ?_⟩
    ·first
      | (simp at g24; omega)
      | (simp at c1; omega)
    ·first
      | (simp at g30; omega)
      | (simp at c1; omega)
   refine x_regionL ?_
   refine xl_Fb ?_
   refine xl_Lc ?_
   refine xl_v v_neq ?_
   refine xl_nil ?_
   first | refine x_condP (fun c2 => ?_) (fun c2 => ?_) | refine x_condN (fun c2 => ?_) (fun c2 => ?_) | refine x_condE (fun c2 => ?_) (fun c2 => ?_)
   ·
    refine x_seq ?_
    refine x_regionL ?_
    refine xl_Lb ?_
    refine xl_s (e_storeA fun w8 l8 k8 => ?_)
    refine xl_v v_assign ?_
    refine xl_nil ?_
    refine x_ret ?_
    refine finR (rs := [.cell 4 32, .tmp 5]) rfl ?_
    have hr := takeD_role (q := R.pure) h32 (by rw [hnode]; exact c2)
    exact ⟨⟨R, by rw [hr]; simp [outV], by rw [hr], h.ext kpc⟩, lkc⟩
   ·
    have hr3 : (R.pure.node p.a).role = 3 := by rw [hnode]; exact c2
    have hml := (hf.l3 c2).1
    refine x_skip ?_
    refine x_seq ?_
    refine x_seq ?_
    refine x_regionL ?_
    refine xl_v v_move ?_
    refine xl_nil ?_
    refine x_condT ?_
    refine x_seq ?_
    refine x_seq ?_
    refine x_regionL ?_
    refine xl_Fb ?_
    refine xl_Lc ?_
    refine xl_v v_len ?_
    refine xl_v v_geq ?_
    refine xl_nil ?_
    first | refine x_condP (fun c4 => ?_) (fun c4 => ?_) | refine x_condN (fun c4 => ?_) (fun c4 => ?_) | refine x_condE (fun c4 => ?_) (fun c4 => ?_)
    ·
     refine x_seq ?_
     refine x_regionL ?_
     refine xl_Lb ?_
     refine xl_s (e_storeA fun w9 l9 k9 => ?_)
     refine xl_v v_assign ?_
     refine xl_nil ?_
     refine x_ret ?_
     refine finR (rs := [.cell 4 32, .tmp 5]) rfl ?_
     have hr := takeD_long (q := R.pure) h32 hr3 (by rw [hnode]; omega)
     exact ⟨⟨R, by rw [hr]; simp [outV], by rw [hr], h.ext kpc⟩, lkc⟩
    ·
     have hr := takeD_yes (q := R.pure) h32 hr3 (by rw [hnode]; omega)
     rw [hnode] at hr
     refine x_skip ?_
     refine x_seq ?_
     have hb4 : w.heap.size ≤ b4 := by rw [n4.eq]; exact Ge.le
     obtain ⟨N, hN⟩ : ∃ N, N = (w5).heap.size := ⟨_, rfl⟩
     have hwN : w.heap.size ≤ N := by rw [hN]; exact Ge.le
     have hb4l : b4 < N := by rw [hN]; exact Has.lt
     have hPm : ∀ k, (w5).heap.size ≤ k → Mid P w.heap.size N k := midP hP hwN (Nat.le_of_eq hN)
     refine x_drawL (NewS w5) (allS) (.take 1 (.take 2 (.take 4 (.take 5 (.take 6 (.take 7 (.take 8 (.fork 0 (.fork 3 (.eff 9 (.eff 10 (.take 11 (.last 12)))) 9 (.eff 3 (.eff 10 (.take 11 (.last 12))))) 9 (.eff 0 (.eff 3 (.eff 10 (.take 11 (.last 12))))))))))))) mixed (by kernel_rfl) (fun _ _ _ _ _ h => h) (fun w10 l10 => ?_)
     refine xt_Fb rfl ?_
     refine xt_Lc rfl ?_
     refine xt_Fb rfl ?_
     refine xt_Lc rfl ?_
     refine xt_Fb rfl ?_
     refine xt_Lc rfl ?_
     refine xt_v rfl v_build ?_
     refine xt_fork ?_ ?_
     ·
      refine xt_e rfl (e_buildSlice0 fun b11 w11 n11 l11 k11 => ?_)
      refine xt_fork ?_ ?_
      ·
       refine xt_e rfl (e_appE (by omega) (by decide) (by omega) (by omega) fun Aa ca w12 oa la aa fa => ?_)
       refine xt_e rfl (e_buildSlice1 rfl fun b9 w13 n9 l9 k9 => ?_)
       refine xt_e rfl (e_app (by omega) (by decide) (by omega) (by omega) Ge.le fun Ab cb w14 ob lb ab fb => ?_)
       refine xt_Fb rfl ?_
       refine xt_lastS rfl (e_store fun w15 l1012 k1012 => ?_)
       refine x_seq ?_
       refine x_regionL ?_
       refine xl_Fb ?_
       refine xl_Lc ?_
       refine xl_Fb ?_
       refine xl_v (v_congr (u := .int .i64 (i : Int)) v_load (by rw [hpa])) ?_
       refine xl_Fb ?_
       refine xl_Lc ?_
       refine xl_v v_len ?_
       refine xl_call (setD_ok z.MA z.x.mat.length z.mc z.x.mat i ((z.x.log.length + 1 : Nat) : Int) w15 rfl (by omega) (by omega)) ?_
       rintro _ w16 ⟨⟨MA, mc, rfl, hoM⟩, lkM⟩
       haveI oM : OwnI w16 MA _ _ _ _ _ _ _ := ⟨hoM⟩
       haveI naM : NewA MA _ := newA_of hoM (Nat.le_refl _)
       refine xl_Fb ?_
       refine xl_s (e_store fun w17 l119 k119 => ?_)
       refine xl_nil ?_
       refine x_seq ?_
       obtain ⟨z1, hz1⟩ : ∃ z1 : LAn, z1 = { z with x := { z.x with log := z.x.log ++ [⟨z.x.term, p.b⟩], mat := z.x.mat.set i ((z.x.log.length + 1 : Nat) : Int) }, LA := Ab, lc := cb, MA := MA, mc := mc } := ⟨_, rfl⟩
       have hcz1 : anC z1 = [.int .i64 z.x.role, .int .i64 z.x.term, .int .i64 z.x.vote, .int .i64 z.x.commit, .slice Ab (z.x.log.length + 1) cb, .slice z.VA z.x.votes.length z.vc, .slice z.XA z.x.next.length z.xc, .slice MA z.x.mat.length mc] := by rw [hz1]; simp [anC]
       have hown := (OwnI.own : World.ownsRow w17 _ _ _ (.slice Ab _ cb) _ _)
       have hfr := frow_new (P := Mid P w.heap.size N) hown Ge.le hPm
       obtain ⟨_, cap', he', _, hcb, _⟩ := ownsRow_form hown
       have hcap : cap' = cb := by cases he'; rfl
       rw [hcap] at hcb
       have hfm := frow_new (P := Mid P w.heap.size N) (OwnI.own (w := w17) (A := MA)) (Nat.le_refl _) (fun k e => hPm k (Nat.le_trans Ge.le e))
       have hrz1 : RowsAn w17 (Mid P w.heap.size N) z1 := by
        rw [hz1]
        refine ⟨?_, frow_ext (frow_mid hzr.votes _) kpc, frow_ext (frow_mid hzr.next _) kpc, ?_, ?_⟩
        ·simpa using hfr
        ·exact hfm
        ·simpa using hcb
       refine x_drawL (NoB) (allS) (.take 0 (.take 1 (.take 2 (.take 3 (.take 5 (.take 6 (.eff 4 (.eff 7 (.free 8 (.take 9 .done)))))))))) mixed (by kernel_rfl) (fun _ _ _ _ _ h => h) (fun w18 l18 => ?_)
       refine xt_Lb rfl ?_
       refine xt_Fb rfl ?_
       refine xt_v rfl (v_congr (u := .int .i64 (i : Int)) v_load (by rw [hpa])) ?_
       refine xt_v rfl (v_congr (u := .agg (anC z1).toArray) v_loadA (by rw [hcz1])) ?_
       refine xt_Fb rfl ?_
       refine xt_v rfl (v_congr (u := .int .i64 (i : Int)) v_load (by rw [hpa])) ?_
       refine xt_call rfl (withD_ok (Mid P w.heap.size N) R i z1 w18 (fun k e => hPm k (Nat.le_trans Ge.le e)) ((h.mid _).ext kpc) (hrz1.ext kpc) hi hn5) ?_
       rintro _ w19 ⟨⟨R1, rfl, hR1, hR1n⟩, lk124⟩
       refine ⟨kpc, ?_⟩
       refine xt_call rfl (commitsD_ok (Mid P w.heap.size N) R1 i z1 w19 (fun k e => hPm k (Nat.le_trans Ge.le e)) (hR1.2.ext kpc) (by rw [hR1n]; simp [hi]) (by rw [hR1n]; simpa using hn5) (by rw [hz1]; simp; omega) (by rw [hz1]; simp; omega) (by rw [hz1]; exact hf.c0)) ?_
       rintro _ w20 ⟨⟨R2, rfl, hR2⟩, lk127⟩
       refine ⟨kpc, ?_⟩
       refine xt_fs rfl (e_storeA fun w21 l128 k128 => ?_)
       refine xt_v rfl v_assign ?_
       refine xt_nil ?_
       refine x_ret ?_
       refine finR (rs := [.cell 4 32, .tmp 5]) rfl ?_
       refine ⟨⟨R2, by rw [hr]; simp [outV], ?_, hR2.2.box l128.keep ⟨hb4, hb4l⟩⟩, lkc⟩
       rw [hR2.1, hR1.1, setN_setND, hr, hR1n, len_mapset, hz1, hpa, pureD_len]
       rfl
      ·
       refine xt_e rfl (e_buildSlice1 rfl fun b9 w22 n9 l9 k9 => ?_)
       refine xt_e rfl (e_appE (by omega) (by decide) (by omega) (by omega) fun Aa ca w23 oa la aa fa => ?_)
       refine xt_e rfl (e_app (by omega) (by decide) (by omega) (by omega) Ge.le fun Ab cb w24 ob lb ab fb => ?_)
       refine xt_Fb rfl ?_
       refine xt_lastS rfl (e_store fun w25 l1012 k1012 => ?_)
       refine x_seq ?_
       refine x_regionL ?_
       refine xl_Fb ?_
       refine xl_Lc ?_
       refine xl_Fb ?_
       refine xl_v (v_congr (u := .int .i64 (i : Int)) v_load (by rw [hpa])) ?_
       refine xl_Fb ?_
       refine xl_Lc ?_
       refine xl_v v_len ?_
       refine xl_call (setD_ok z.MA z.x.mat.length z.mc z.x.mat i ((z.x.log.length + 1 : Nat) : Int) w25 rfl (by omega) (by omega)) ?_
       rintro _ w26 ⟨⟨MA, mc, rfl, hoM⟩, lkM⟩
       haveI oM : OwnI w26 MA _ _ _ _ _ _ _ := ⟨hoM⟩
       haveI naM : NewA MA _ := newA_of hoM (Nat.le_refl _)
       refine xl_Fb ?_
       refine xl_s (e_store fun w27 l119 k119 => ?_)
       refine xl_nil ?_
       refine x_seq ?_
       obtain ⟨z1, hz1⟩ : ∃ z1 : LAn, z1 = { z with x := { z.x with log := z.x.log ++ [⟨z.x.term, p.b⟩], mat := z.x.mat.set i ((z.x.log.length + 1 : Nat) : Int) }, LA := Ab, lc := cb, MA := MA, mc := mc } := ⟨_, rfl⟩
       have hcz1 : anC z1 = [.int .i64 z.x.role, .int .i64 z.x.term, .int .i64 z.x.vote, .int .i64 z.x.commit, .slice Ab (z.x.log.length + 1) cb, .slice z.VA z.x.votes.length z.vc, .slice z.XA z.x.next.length z.xc, .slice MA z.x.mat.length mc] := by rw [hz1]; simp [anC]
       have hown := (OwnI.own : World.ownsRow w27 _ _ _ (.slice Ab _ cb) _ _)
       have hfr := frow_new (P := Mid P w.heap.size N) hown Ge.le hPm
       obtain ⟨_, cap', he', _, hcb, _⟩ := ownsRow_form hown
       have hcap : cap' = cb := by cases he'; rfl
       rw [hcap] at hcb
       have hfm := frow_new (P := Mid P w.heap.size N) (OwnI.own (w := w27) (A := MA)) (Nat.le_refl _) (fun k e => hPm k (Nat.le_trans Ge.le e))
       have hrz1 : RowsAn w27 (Mid P w.heap.size N) z1 := by
        rw [hz1]
        refine ⟨?_, frow_ext (frow_mid hzr.votes _) kpc, frow_ext (frow_mid hzr.next _) kpc, ?_, ?_⟩
        ·simpa using hfr
        ·exact hfm
        ·simpa using hcb
       refine x_drawL (NoB) (allS) (.take 0 (.take 1 (.take 2 (.take 3 (.take 5 (.take 6 (.eff 4 (.eff 7 (.free 8 (.take 9 .done)))))))))) mixed (by kernel_rfl) (fun _ _ _ _ _ h => h) (fun w28 l28 => ?_)
       refine xt_Lb rfl ?_
       refine xt_Fb rfl ?_
       refine xt_v rfl (v_congr (u := .int .i64 (i : Int)) v_load (by rw [hpa])) ?_
       refine xt_v rfl (v_congr (u := .agg (anC z1).toArray) v_loadA (by rw [hcz1])) ?_
       refine xt_Fb rfl ?_
       refine xt_v rfl (v_congr (u := .int .i64 (i : Int)) v_load (by rw [hpa])) ?_
       refine xt_call rfl (withD_ok (Mid P w.heap.size N) R i z1 w28 (fun k e => hPm k (Nat.le_trans Ge.le e)) ((h.mid _).ext kpc) (hrz1.ext kpc) hi hn5) ?_
       rintro _ w29 ⟨⟨R1, rfl, hR1, hR1n⟩, lk124⟩
       refine ⟨kpc, ?_⟩
       refine xt_call rfl (commitsD_ok (Mid P w.heap.size N) R1 i z1 w29 (fun k e => hPm k (Nat.le_trans Ge.le e)) (hR1.2.ext kpc) (by rw [hR1n]; simp [hi]) (by rw [hR1n]; simpa using hn5) (by rw [hz1]; simp; omega) (by rw [hz1]; simp; omega) (by rw [hz1]; exact hf.c0)) ?_
       rintro _ w30 ⟨⟨R2, rfl, hR2⟩, lk127⟩
       refine ⟨kpc, ?_⟩
       refine xt_fs rfl (e_storeA fun w31 l128 k128 => ?_)
       refine xt_v rfl v_assign ?_
       refine xt_nil ?_
       refine x_ret ?_
       refine finR (rs := [.cell 4 32, .tmp 5]) rfl ?_
       refine ⟨⟨R2, by rw [hr]; simp [outV], ?_, hR2.2.box l128.keep ⟨hb4, hb4l⟩⟩, lkc⟩
       rw [hR2.1, hR1.1, setN_setND, hr, hR1n, len_mapset, hz1, hpa, pureD_len]
       rfl
     ·
      refine xt_e rfl (e_buildSlice1 rfl fun b9 w32 n9 l9 k9 => ?_)
      refine xt_e rfl (e_buildSlice0 fun b33 w33 n33 l33 k33 => ?_)
      refine xt_e rfl (e_appE (by omega) (by decide) (by omega) (by omega) fun Aa ca w34 oa la aa fa => ?_)
      refine xt_e rfl (e_app (by omega) (by decide) (by omega) (by omega) Ge.le fun Ab cb w35 ob lb ab fb => ?_)
      refine xt_Fb rfl ?_
      refine xt_lastS rfl (e_store fun w36 l1012 k1012 => ?_)
      refine x_seq ?_
      refine x_regionL ?_
      refine xl_Fb ?_
      refine xl_Lc ?_
      refine xl_Fb ?_
      refine xl_v (v_congr (u := .int .i64 (i : Int)) v_load (by rw [hpa])) ?_
      refine xl_Fb ?_
      refine xl_Lc ?_
      refine xl_v v_len ?_
      refine xl_call (setD_ok z.MA z.x.mat.length z.mc z.x.mat i ((z.x.log.length + 1 : Nat) : Int) w36 rfl (by omega) (by omega)) ?_
      rintro _ w37 ⟨⟨MA, mc, rfl, hoM⟩, lkM⟩
      haveI oM : OwnI w37 MA _ _ _ _ _ _ _ := ⟨hoM⟩
      haveI naM : NewA MA _ := newA_of hoM (Nat.le_refl _)
      refine xl_Fb ?_
      refine xl_s (e_store fun w38 l119 k119 => ?_)
      refine xl_nil ?_
      refine x_seq ?_
      obtain ⟨z1, hz1⟩ : ∃ z1 : LAn, z1 = { z with x := { z.x with log := z.x.log ++ [⟨z.x.term, p.b⟩], mat := z.x.mat.set i ((z.x.log.length + 1 : Nat) : Int) }, LA := Ab, lc := cb, MA := MA, mc := mc } := ⟨_, rfl⟩
      have hcz1 : anC z1 = [.int .i64 z.x.role, .int .i64 z.x.term, .int .i64 z.x.vote, .int .i64 z.x.commit, .slice Ab (z.x.log.length + 1) cb, .slice z.VA z.x.votes.length z.vc, .slice z.XA z.x.next.length z.xc, .slice MA z.x.mat.length mc] := by rw [hz1]; simp [anC]
      have hown := (OwnI.own : World.ownsRow w38 _ _ _ (.slice Ab _ cb) _ _)
      have hfr := frow_new (P := Mid P w.heap.size N) hown Ge.le hPm
      obtain ⟨_, cap', he', _, hcb, _⟩ := ownsRow_form hown
      have hcap : cap' = cb := by cases he'; rfl
      rw [hcap] at hcb
      have hfm := frow_new (P := Mid P w.heap.size N) (OwnI.own (w := w38) (A := MA)) (Nat.le_refl _) (fun k e => hPm k (Nat.le_trans Ge.le e))
      have hrz1 : RowsAn w38 (Mid P w.heap.size N) z1 := by
       rw [hz1]
       refine ⟨?_, frow_ext (frow_mid hzr.votes _) kpc, frow_ext (frow_mid hzr.next _) kpc, ?_, ?_⟩
       ·simpa using hfr
       ·exact hfm
       ·simpa using hcb
      refine x_drawL (NoB) (allS) (.take 0 (.take 1 (.take 2 (.take 3 (.take 5 (.take 6 (.eff 4 (.eff 7 (.free 8 (.take 9 .done)))))))))) mixed (by kernel_rfl) (fun _ _ _ _ _ h => h) (fun w39 l39 => ?_)
      refine xt_Lb rfl ?_
      refine xt_Fb rfl ?_
      refine xt_v rfl (v_congr (u := .int .i64 (i : Int)) v_load (by rw [hpa])) ?_
      refine xt_v rfl (v_congr (u := .agg (anC z1).toArray) v_loadA (by rw [hcz1])) ?_
      refine xt_Fb rfl ?_
      refine xt_v rfl (v_congr (u := .int .i64 (i : Int)) v_load (by rw [hpa])) ?_
      refine xt_call rfl (withD_ok (Mid P w.heap.size N) R i z1 w39 (fun k e => hPm k (Nat.le_trans Ge.le e)) ((h.mid _).ext kpc) (hrz1.ext kpc) hi hn5) ?_
      rintro _ w40 ⟨⟨R1, rfl, hR1, hR1n⟩, lk124⟩
      refine ⟨kpc, ?_⟩
      refine xt_call rfl (commitsD_ok (Mid P w.heap.size N) R1 i z1 w40 (fun k e => hPm k (Nat.le_trans Ge.le e)) (hR1.2.ext kpc) (by rw [hR1n]; simp [hi]) (by rw [hR1n]; simpa using hn5) (by rw [hz1]; simp; omega) (by rw [hz1]; simp; omega) (by rw [hz1]; exact hf.c0)) ?_
      rintro _ w41 ⟨⟨R2, rfl, hR2⟩, lk127⟩
      refine ⟨kpc, ?_⟩
      refine xt_fs rfl (e_storeA fun w42 l128 k128 => ?_)
      refine xt_v rfl v_assign ?_
      refine xt_nil ?_
      refine x_ret ?_
      refine finR (rs := [.cell 4 32, .tmp 5]) rfl ?_
      refine ⟨⟨R2, by rw [hr]; simp [outV], ?_, hR2.2.box l128.keep ⟨hb4, hb4l⟩⟩, lkc⟩
      rw [hR2.1, hR1.1, setN_setND, hr, hR1n, len_mapset, hz1, hpa, pureD_len]
      rfl
set_option maxHeartbeats 1000000 in
theorem giveD_ok (P : Nat → Prop) (R : LDq) (i : Nat) (z : LAn) (p : Pk) (w : World) (hP : ∀ k, w.heap.size ≤ k → P k) (h : RefAt w P R) (hz : R.ns[i]? = some z) (hn5 : R.ns.length ≤ 5) (hb : R.bs.length ≤ 256) (hf : AnFit R.ns.length z.x) (hnb : ∀ a ∈ z.x.next, 0 ≤ a ∧ a ≤ z.x.log.length) (hpa : p.a = (i : Int)) (hk : p.kind = 3) : Ret Tryz.prog 32 #[.agg (dqC R).toArray, .agg (pkC p).toArray] w (fun v w' => (∃ R', v = .tuple #[.agg (dqC R').toArray, .int .i64 (R.pure.give p).2] ∧ RMade P w' (R.pure.give p).1 R') ∧ Lk w' w NoB) := by
 haveI hrb : Row w R.NA (R.ns.flatMap anC) := ⟨h.nodes.row⟩
 have hi : i < R.ns.length := (List.getElem?_eq_some_iff.1 hz).1
 have hzi : R.ns[i] = z := (List.getElem?_eq_some_iff.1 hz).2
 have hzr := h.rows z (List.mem_of_getElem? hz)
 haveI holdN : OldA w R.NA := ⟨fun a ha => (h.nodes.blk a ha).2⟩
 haveI hrl : Row w z.LA (cmdsC z.x.log) := ⟨hzr.log.row⟩
 haveI hrm : Row w z.MA (ints z.x.mat) := ⟨hzr.mat.row⟩
 haveI hrx : Row w z.XA (ints z.x.next) := ⟨hzr.next.row⟩
 haveI holdL : OldA w z.LA := ⟨fun a ha => (hzr.log.blk a ha).2⟩
 haveI holdM : OldA w z.MA := ⟨fun a ha => (hzr.mat.blk a ha).2⟩
 haveI holdX : OldA w z.XA := ⟨fun a ha => (hzr.next.blk a ha).2⟩
 refine ret_of_x (N := 130) (l := [.agg (dqC R).toArray, .agg (pkC p).toArray]) Tryz.func32 rfl rfl (Nat.le_of_ble_eq_true rfl) ?_
 refine x_seq ?_
 have hnode : R.pure.node p.a = z.x := by rw [hpa]; exact pureD_node hz
 have hll := hf.ll
 have hlc := hzr.lc
 refine x_regionL ?_
 refine xl_e (e_box fun bq w1 nq lq kq => ?_)
 refine xl_e (e_box fun bp w2 np lp kp => ?_)
 refine xl_e (e_alloc fun b4 w3 n4 l4 k4 => ?_)
 refine xl_v v_assign ?_
 refine xl_nil ?_
 refine x_seq ?_
 refine x_regionL ?_
 refine xl_Fb ?_
 refine xl_Lc ?_
 refine xl_Fb ?_
 refine xl_Lc ?_
 refine xl_v (v_indexF i (by decide) hpa (by omega) hi) ?_
 refine xl_v (v_congr (u := .agg (anC z).toArray) (v_loadF (k := i) (by decide) hi) (by rw [hzi])) ?_
 refine xl_e (e_alloc fun b6 w4 n6 l6 k6 => ?_)
 refine xl_s (e_storeA fun w5 l17 k17 => ?_)
 refine xl_nil ?_
 refine x_seq ?_
 refine x_regionL ?_
 refine xl_Fb ?_
 refine xl_Lc ?_
 refine xl_v (v_eqlF (by omega)) ?_
 refine xl_v v_assign ?_
 refine xl_nil ?_
 refine x_seq ?_
 refine x_seq ?_
 refine x_regionL ?_
 refine xl_v v_move ?_
 refine xl_v v_move ?_
 refine xl_gs rfl EvO.eq ?_
 refine xl_gs rfl EvO.eq ?_
 refine xl_gs rfl EvO.eq ?_
 refine xl_gs rfl EvO.eq ?_
 refine xl_gu rfl EvO.eq ?_
 refine xl_gu rfl EvO.eq ?_
 refine xl_gu rfl EvO.eq ?_
 refine xl_gs rfl EvO.eq ?_
 refine xl_Pk ?_
 refine xl_v v_move ?_
 refine xl_gv rfl EvO.eq v_move ?_
 refine xl_gv rfl EvO.eq v_not ?_
 refine xl_gv rfl EvO.eq v_move ?_
 refine xl_gFb rfl EvO.eq ?_
 refine xl_gLc rfl EvO.eq ?_
 refine xl_gv rfl EvO.eq v_lss ?_
 refine xl_gv rfl EvO.eq v_move ?_
 refine xl_split 37 (fun g37 => ?_) (fun g37 => ?_)
 ·
  refine xl_gs rfl EvO.eq ?_
  refine xl_gs rfl EvO.eq ?_
  refine xl_gs rfl EvO.eq ?_
  refine xl_gs rfl EvO.eq ?_
  refine xl_gs rfl EvO.eq ?_
  refine xl_gs rfl EvO.eq ?_
  refine xl_gPk rfl EvO.eq ?_
  refine xl_gv rfl EvO.eq v_move ?_
  refine xl_gs rfl EvO.eq ?_
  refine xl_gs rfl EvO.eq ?_
  refine xl_gs rfl EvO.eq ?_
  refine xl_gs rfl EvO.eq ?_
  refine xl_gs rfl EvO.eq ?_
  refine xl_gPk rfl EvO.eq ?_
  refine xl_gPk rfl EvO.eq ?_
  refine xl_Pk ?_
  refine xl_nil ?_
  refine x_condT ?_
  refine x_seq ?_
  refine x_regionL ?_
  refine xl_Lb ?_
  refine xl_s (e_storeA fun w6 l6 k6 => ?_)
  refine xl_v v_assign ?_
  refine xl_nil ?_
  refine x_ret ?_
  refine finR (rs := [.cell 4 32, .tmp 5]) rfl ?_
  have hno : ¬ R.pure.has p.b ∨ p.b = p.a := by
   unfold Dq.has
   rw [pureD_len]
   first
    | (simp at g37; exact .inl (by omega))
    | (simp at g45; exact .inl (by omega))
    | (simp at c1; exact .inr c1)
  have hr := giveD_arg (q := R.pure) hno
  exact ⟨⟨R, by rw [hr]; simp [outV], by rw [hr], h.ext kpc⟩, lkc⟩
 ·
  refine xl_gFb rfl EvO.eq ?_
  refine xl_gLc rfl EvO.eq ?_
  refine xl_gFb rfl EvO.eq ?_
  refine xl_gLc rfl EvO.eq ?_
  refine xl_gv rfl EvO.eq v_len ?_
  refine xl_gv rfl EvO.eq v_geq ?_
  refine xl_gPk rfl EvO.eq ?_
  refine xl_gv rfl EvO.eq v_move ?_
  refine xl_split 45 (fun g45 => ?_) (fun g45 => ?_)
  ·
   refine xl_gs rfl EvO.eq ?_
   refine xl_gs rfl EvO.eq ?_
   refine xl_gs rfl EvO.eq ?_
   refine xl_gs rfl EvO.eq ?_
   refine xl_gs rfl EvO.eq ?_
   refine xl_gPk rfl EvO.eq ?_
   refine xl_gPk rfl EvO.eq ?_
   refine xl_Pk ?_
   refine xl_nil ?_
   refine x_condT ?_
   refine x_seq ?_
   refine x_regionL ?_
   refine xl_Lb ?_
   refine xl_s (e_storeA fun w7 l7 k7 => ?_)
   refine xl_v v_assign ?_
   refine xl_nil ?_
   refine x_ret ?_
   refine finR (rs := [.cell 4 32, .tmp 5]) rfl ?_
   have hno : ¬ R.pure.has p.b ∨ p.b = p.a := by
    unfold Dq.has
    rw [pureD_len]
    first
     | (simp at g37; exact .inl (by omega))
     | (simp at g45; exact .inl (by omega))
     | (simp at c1; exact .inr c1)
   have hr := giveD_arg (q := R.pure) hno
   exact ⟨⟨R, by rw [hr]; simp [outV], by rw [hr], h.ext kpc⟩, lkc⟩
  ·
   refine xl_gFb rfl EvO.eq ?_
   refine xl_gLc rfl EvO.eq ?_
   refine xl_gFb rfl EvO.eq ?_
   refine xl_gLc rfl EvO.eq ?_
   refine xl_gv rfl EvO.eq v_eql ?_
   refine xl_gPk rfl EvO.eq ?_
   refine xl_gPk rfl EvO.eq ?_
   refine xl_Pk ?_
   refine xl_nil ?_
   refine x_condE (fun c1 => ?_) (fun c1 => ?_)
   ·
    refine x_seq ?_
    refine x_regionL ?_
    refine xl_Lb ?_
    refine xl_s (e_storeA fun w8 l8 k8 => ?_)
    refine xl_v v_assign ?_
    refine xl_nil ?_
    refine x_ret ?_
    refine finR (rs := [.cell 4 32, .tmp 5]) rfl ?_
    have hno : ¬ R.pure.has p.b ∨ p.b = p.a := by
     unfold Dq.has
     rw [pureD_len]
     first
      | (simp at g37; exact .inl (by omega))
      | (simp at g45; exact .inl (by omega))
      | (simp at c1; exact .inr c1)
    have hr := giveD_arg (q := R.pure) hno
    exact ⟨⟨R, by rw [hr]; simp [outV], by rw [hr], h.ext kpc⟩, lkc⟩
   ·
    refine x_skip ?_
    refine x_seq ?_
    refine x_seq ?_
    have hhas : 0 ≤ p.b ∧ p.b < R.ns.length := by
     refine ⟨?_, ?_⟩
     ·first
       | (simp at g37; omega)
       | (exfalso; simp at c1; done)
     ·first
       | (simp at g45; omega)
       | (exfalso; simp at c1; done)
    have hyes : ¬ (¬ R.pure.has p.b ∨ p.b = p.a) := by
     unfold Dq.has
     rw [pureD_len]
     rintro (e | e)
     ·exact e hhas
     ·first
       | (simp [e] at c1; done)
       | (exfalso; simp at c1; done)
    refine x_regionL ?_
    refine xl_Fb ?_
    refine xl_Lc ?_
    refine xl_v v_neq ?_
    refine xl_nil ?_
    first | refine x_condP (fun c2 => ?_) (fun c2 => ?_) | refine x_condN (fun c2 => ?_) (fun c2 => ?_) | refine x_condE (fun c2 => ?_) (fun c2 => ?_)
    ·
     refine x_seq ?_
     refine x_regionL ?_
     refine xl_Lb ?_
     refine xl_s (e_storeA fun w9 l9 k9 => ?_)
     refine xl_v v_assign ?_
     refine xl_nil ?_
     refine x_ret ?_
     refine finR (rs := [.cell 4 32, .tmp 5]) rfl ?_
     have hr := giveD_role (q := R.pure) hyes (by rw [hnode]; exact c2)
     exact ⟨⟨R, by rw [hr]; simp [outV], by rw [hr], h.ext kpc⟩, lkc⟩
    ·
     have hnl := (hf.l3 c2).2
     obtain ⟨tn, htn⟩ : ∃ tn : Nat, p.b = (tn : Int) := ⟨p.b.toNat, by omega⟩
     have htl : tn < z.x.next.length := by omega
     have hge := hnb _ (List.getElem_mem htl)
     obtain ⟨fn, hfn⟩ : ∃ fn : Nat, z.x.next[tn] = (fn : Int) := ⟨z.x.next[tn].toNat, by omega⟩
     have hfl : fn ≤ z.x.log.length := by omega
     have hr := giveD_yes (q := R.pure) (x := z.x) (fn := fn) hyes c2 hnode (by unfold getI; rw [htn]; exact (getD_at htl).symm.trans hfn)
     obtain ⟨mn, hmn⟩ : ∃ mn : Nat, mn = min z.x.log.length (fn + 4) := ⟨_, rfl⟩
     obtain ⟨hs1, hs2⟩ := sub_eq hmn hfl
     refine x_skip ?_
     refine x_seq ?_
     refine x_seq ?_
     refine x_regionL ?_
     refine xl_v v_move ?_
     refine xl_nil ?_
     refine x_condF ?_
     refine x_skip ?_
     refine x_seq ?_
     refine x_regionL ?_
     refine xl_Fb ?_
     refine xl_Lc ?_
     refine xl_Fb ?_
     refine xl_Lc ?_
     refine xl_v (v_indexO tn htn (by omega) htl) ?_
     refine xl_v (v_congr (u := .int .i64 (fn : Int)) (v_loadO (k := tn) htl) (by rw [hfn])) ?_
     refine xl_v v_assign ?_
     refine xl_nil ?_
     refine x_seq ?_
     refine x_regionL ?_
     refine xl_Fb ?_
     refine xl_Lc ?_
     refine xl_v v_len ?_
     refine xl_v v_move ?_
     refine xl_v (v_add (by omega)) ?_
     refine xl_v v_min ?_
     refine xl_v v_assign ?_
     refine xl_nil ?_
     refine x_seq ?_
     have hb4 : w.heap.size ≤ b4 := by rw [n4.eq]; exact Ge.le
     obtain ⟨N, hN⟩ : ∃ N, N = (w5).heap.size := ⟨_, rfl⟩
     have hwN : w.heap.size ≤ N := by rw [hN]; exact Ge.le
     have hb4l : b4 < N := by rw [hN]; exact Has.lt
     have hPm : ∀ k, (w5).heap.size ≤ k → Mid P w.heap.size N k := midP hP hwN (Nat.le_of_eq hN)
     refine x_drawL (NewS w5) (allS) (.take 0 (.take 1 (.take 2 (.take 3 (.take 4 (.take 5 (.take 6 (.take 7 (.take 8 (.take 9 (.take 10 (.take 11 (.take 13 (.take 14 (.take 16 (.take 17 (.take 18 (.take 19 (.take 20 (.fork 12 (.eff 15 (.eff 21 (.take 22 (.eff 23 (.free 24 (.take 25 .done)))))) 15 (.eff 12 (.eff 21 (.take 22 (.eff 23 (.free 24 (.take 25 .done)))))))))))))))))))))))))) mixed (by kernel_rfl) (fun _ _ _ _ _ h => h) (fun w10 l10 => ?_)
     refine xt_Lb rfl ?_
     refine xt_Fb rfl ?_
     refine xt_Lc rfl ?_
     refine xt_Fb rfl ?_
     refine xt_Lc rfl ?_
     refine xt_Fb rfl ?_
     refine xt_Lc rfl ?_
     refine xt_v rfl v_move ?_
     refine xt_Fb rfl ?_
     refine xt_Lc rfl ?_
     refine xt_v rfl v_move ?_
     refine xt_v rfl (v_sliceH fn rfl (by omega)) ?_
     refine xt_Fb rfl ?_
     refine xt_Lc rfl ?_
     refine xt_Fb rfl ?_
     refine xt_Lc rfl ?_
     refine xt_v rfl v_move ?_
     refine xt_v rfl v_move ?_
     refine xt_v rfl (v_sliceLH fn mn rfl (by omega) (by omega) (by omega)) ?_
     refine xt_fork ?_ ?_
     ·
      haveI hrt : Row w10 z.LA (cmdsC (z.x.log.take fn)) := ⟨by
       have := row_take (Row.row (w := w10) (A := z.LA) (cs := cmdsC z.x.log)) (fn * 2)
       rwa [← flat_take (enc := cmdC) (sz := 2) (fun _ => rfl)] at this⟩
      refine xt_call rfl (termD_ok z.LA fn z.lc (z.x.log.take fn) w10 (by rw [List.length_take]; omega) (by omega)) ?_
      rintro _ w11 ⟨rfl, lk1512⟩
      refine ⟨kpc, ?_⟩
      clear hrt
      refine xt_e rfl (e_buildSlice0 fun b12 w12 n12 l12 k12 => ?_)
      haveI hrs : Row w12 (if z.lc = fn then z.LA else z.LA.map (·.add (fn * 2))) (cmdsC ((z.x.log.drop fn).take 4)) := ⟨by
       have h1 := row_drop (k := fn) (sz := 2) (n := z.x.log.length) (c := z.lc) (Row.row (w := w12) (A := z.LA) (cs := cmdsC z.x.log)) (cmds_len _) hlc
       have h2 := row_take h1 ((mn - fn) * 2)
       have e1 : cmdsC (z.x.log.drop fn) = (cmdsC z.x.log).drop (fn * 2) := flat_drop (enc := cmdC) (sz := 2) (fun _ => rfl) _ _
       have e2 : cmdsC ((z.x.log.drop fn).take (mn - fn)) = (cmdsC (z.x.log.drop fn)).take ((mn - fn) * 2) := flat_take (enc := cmdC) (sz := 2) (fun _ => rfl) _ _
       rw [← e1, ← e2, hs1] at h2
       exact h2⟩
      refine xt_e rfl (e_appE (by omega) (by decide) (by omega) (by omega) fun Aa ca w13 oa la aa fa => ?_)
      refine xt_v rfl (v_congr (u := .agg (blC ⟨{ Bl.zero with kind := 3, frm := p.a, to := p.b, term := z.x.term, prev := fn, prevT := ofT (z.x.log.take fn), commit := z.x.commit, cmds := (z.x.log.drop fn).take 4 }, Aa, ca⟩).toArray) v_build (by simp only [blC, hs2]; rfl)) ?_
      have hfr : FRow w13 (InP (Mid P w.heap.size N) w13) Aa (cmdsC ((z.x.log.drop fn).take 4)) := frow_new (OwnI.own (w := w13) (A := Aa)) Ge.le hPm
      refine xt_call rfl (sendD_ok (Mid P w.heap.size N) R ⟨{ Bl.zero with kind := 3, frm := p.a, to := p.b, term := z.x.term, prev := fn, prevT := ofT (z.x.log.take fn), commit := z.x.commit, cmds := (z.x.log.drop fn).take 4 }, Aa, ca⟩ w13 (fun k e => hPm k (Nat.le_trans Ge.le e)) ((h.mid _).ext kpc) hfr hb) ?_
      rintro _ w14 ⟨⟨R2, rfl, hR2, _⟩, lk1523⟩
      refine ⟨kpc, ?_⟩
      refine xt_fs rfl (e_storeA fun w15 l1524 k1524 => ?_)
      refine xt_v rfl v_assign ?_
      refine xt_nil ?_
      refine x_ret ?_
      refine finR (rs := [.cell 4 32, .tmp 5]) rfl ?_
      refine ⟨⟨R2, by rw [hr]; simp [outV], ?_, hR2.2.box l1524.keep ⟨hb4, hb4l⟩⟩, lkc⟩
      rw [hR2.1, hr]
     ·
      refine xt_e rfl (e_buildSlice0 fun b16 w16 n16 l16 k16 => ?_)
      haveI hrt : Row w16 z.LA (cmdsC (z.x.log.take fn)) := ⟨by
       have := row_take (Row.row (w := w16) (A := z.LA) (cs := cmdsC z.x.log)) (fn * 2)
       rwa [← flat_take (enc := cmdC) (sz := 2) (fun _ => rfl)] at this⟩
      refine xt_call rfl (termD_ok z.LA fn z.lc (z.x.log.take fn) w16 (by rw [List.length_take]; omega) (by omega)) ?_
      rintro _ w17 ⟨rfl, lk1512⟩
      refine ⟨kpc, ?_⟩
      clear hrt
      haveI hrs : Row w17 (if z.lc = fn then z.LA else z.LA.map (·.add (fn * 2))) (cmdsC ((z.x.log.drop fn).take 4)) := ⟨by
       have h1 := row_drop (k := fn) (sz := 2) (n := z.x.log.length) (c := z.lc) (Row.row (w := w17) (A := z.LA) (cs := cmdsC z.x.log)) (cmds_len _) hlc
       have h2 := row_take h1 ((mn - fn) * 2)
       have e1 : cmdsC (z.x.log.drop fn) = (cmdsC z.x.log).drop (fn * 2) := flat_drop (enc := cmdC) (sz := 2) (fun _ => rfl) _ _
       have e2 : cmdsC ((z.x.log.drop fn).take (mn - fn)) = (cmdsC (z.x.log.drop fn)).take ((mn - fn) * 2) := flat_take (enc := cmdC) (sz := 2) (fun _ => rfl) _ _
       rw [← e1, ← e2, hs1] at h2
       exact h2⟩
      refine xt_e rfl (e_appE (by omega) (by decide) (by omega) (by omega) fun Aa ca w18 oa la aa fa => ?_)
      refine xt_v rfl (v_congr (u := .agg (blC ⟨{ Bl.zero with kind := 3, frm := p.a, to := p.b, term := z.x.term, prev := fn, prevT := ofT (z.x.log.take fn), commit := z.x.commit, cmds := (z.x.log.drop fn).take 4 }, Aa, ca⟩).toArray) v_build (by simp only [blC, hs2]; rfl)) ?_
      have hfr : FRow w18 (InP (Mid P w.heap.size N) w18) Aa (cmdsC ((z.x.log.drop fn).take 4)) := frow_new (OwnI.own (w := w18) (A := Aa)) Ge.le hPm
      refine xt_call rfl (sendD_ok (Mid P w.heap.size N) R ⟨{ Bl.zero with kind := 3, frm := p.a, to := p.b, term := z.x.term, prev := fn, prevT := ofT (z.x.log.take fn), commit := z.x.commit, cmds := (z.x.log.drop fn).take 4 }, Aa, ca⟩ w18 (fun k e => hPm k (Nat.le_trans Ge.le e)) ((h.mid _).ext kpc) hfr hb) ?_
      rintro _ w19 ⟨⟨R2, rfl, hR2, _⟩, lk1523⟩
      refine ⟨kpc, ?_⟩
      refine xt_fs rfl (e_storeA fun w20 l1524 k1524 => ?_)
      refine xt_v rfl v_assign ?_
      refine xt_nil ?_
      refine x_ret ?_
      refine finR (rs := [.cell 4 32, .tmp 5]) rfl ?_
      refine ⟨⟨R2, by rw [hr]; simp [outV], ?_, hR2.2.box l1524.keep ⟨hb4, hb4l⟩⟩, lkc⟩
      rw [hR2.1, hr]
end Go.Proofs.YtljdkelgapndgaaGreat
