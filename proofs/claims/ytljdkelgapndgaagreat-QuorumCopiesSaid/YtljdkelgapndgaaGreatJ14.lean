/-
 Walks, printed by a program of this workplace (wip/tools/sx.py) off the functions' code and a text of contracts.
-/
import Derived.Test.YtljdkelgapndgaaGreatJ13
set_option linter.all false
set_option maxRecDepth 100000
set_option synthInstance.maxSize 100000
set_option synthInstance.maxHeartbeats 400000
namespace Go.Proofs.YtljdkelgapndgaaGreat
open Go.Wst
open Go.Wst.Qm
structure DFit (q : Dq) : Prop where
 n5 : q.nodes.length ≤ 5
 b : q.bag.length ≤ 256
 nd : ∀ x ∈ q.nodes, AnFit q.nodes.length x ∧ (0 ≤ x.term ∧ x.term ≤ 2147483647) ∧ ∀ a ∈ x.next, 0 ≤ a ∧ a ≤ x.log.length
 bg : ∀ m ∈ q.bag, (0 ≤ m.to ∧ m.to < q.nodes.length) ∧ (0 ≤ m.frm ∧ m.frm < q.nodes.length) ∧ (0 ≤ m.prev ∧ m.prev ≤ 256) ∧ m.cmds.length ≤ 4
theorem idxs_le {l : List Bool} (h : l.length = 5) : (idxs l).length ≤ 5 := by
 rw [idxs_len h]
 exact Nat.le_trans List.count_le_length (Nat.le_of_eq h)
theorem DFit.of_inv {q : Qu} {G : Gh} (h : Inv q G) : DFit q.tell := by
 have hl := tell_len q
 refine ⟨by rw [hl]; exact h.odd.2, h.bl, fun x hx => ?_, fun m hm => ?_⟩
 ·rw [hl]
  obtain ⟨y, hy, rfl⟩ := List.mem_map.1 hx
  obtain ⟨n, hn, rfl⟩ := List.getElem_of_mem hy
  have h1 := (h.nd n hn).ok
  have e : q.nd n = q.nodes[n] := by unfold Qu.nd; rw [List.getD_eq_getElem?_getD, List.getElem?_eq_getElem hn]; rfl
  rw [e] at h1
  refine ⟨⟨h1.ll, idxs_le h1.vl, h1.c0, fun er => ?_⟩, ⟨h1.t0, h1.t1⟩, fun a ha => ?_⟩
  ·have er' : q.nodes[n].role = 3 := er
   have h5 := h.odd.2
   refine ⟨?_, ?_⟩
   ·show (if q.nodes[n].role = 3 then q.nodes[n].mat.take q.nodes.length else []).length = _
    rw [if_pos er', List.length_take, h1.ml]; omega
   ·show (if q.nodes[n].role = 3 then q.nodes[n].next.take q.nodes.length else []).length = _
    rw [if_pos er', List.length_take, h1.nl]; omega
  ·have ha' : a ∈ (if q.nodes[n].role = 3 then q.nodes[n].next.take q.nodes.length else []) := ha
   split at ha'
   ·exact h1.nb a (List.mem_of_mem_take ha')
   ·cases ha'
 ·rw [hl]
  have h1 := (h.bg m hm).ok
  exact ⟨h1.t, h1.f, ⟨h1.p0, by have := h1.p1; omega⟩, h1.cl⟩
theorem stepD_do {q : Dq} {p : Pk} (h : 1 ≤ p.kind ∧ p.kind ≤ 4) (ha : q.has p.a) : q.step p = if p.kind = 1 then q.seek p.a else if p.kind = 2 then q.take p else if p.kind = 3 then q.give p else q.crash p.a := by
 unfold Dq.step; rw [if_pos ⟨h.1, h.2, ha⟩]
theorem sendsD_ok (P : Nat → Prop) (R : LDq) (i : Nat) (z : LAn) (p : Pk) (w : World) (hP : ∀ k, w.heap.size ≤ k → P k) (h : RefAt w P R) (hz : R.ns[i]? = some z) (hn5 : R.ns.length ≤ 5) (hb : R.bs.length ≤ 256) (hf : AnFit R.ns.length z.x) (hnb : ∀ a ∈ z.x.next, 0 ≤ a ∧ a ≤ z.x.log.length) (hpa : p.a = (i : Int)) (hk : p.kind = 2 ∨ p.kind = 3) (hs : R.pure.step p = if p.kind = 1 then R.pure.seek p.a else if p.kind = 2 then R.pure.take p else if p.kind = 3 then R.pure.give p else R.pure.crash p.a) :
    Ret Tryz.prog 32 #[.agg (dqC R).toArray, .agg (pkC p).toArray] w (fun v w' => (∃ R', v = .tuple #[.agg (dqC R').toArray, .int .i64 (R.pure.step p).2] ∧ RMade P w' (R.pure.step p).1 R') ∧ Lk w' w NoB) := by
 rcases hk with e | e
 ·rw [if_neg (by omega), if_pos e] at hs
  rw [hs]
  exact takeD_ok P R i z p w hP h hz hn5 hf hpa e
 ·rw [if_neg (by omega), if_neg (by omega), if_pos e] at hs
  rw [hs]
  exact giveD_ok P R i z p w hP h hz hn5 hb hf hnb hpa e
theorem erase_snoc {α : Type} {l : List α} {a k : Nat} (hk : k < l.length) : (l.take (k + 1)).eraseIdx a = if k = a then (l.take k).eraseIdx a else (l.take k).eraseIdx a ++ [l[k]] := by
 have hlen : (l.take k).length = k := by rw [List.length_take]; omega
 rw [take_snoc l k hk]
 by_cases e : k = a
 ·rw [if_pos e, ← e]
  have h1 : (l.take k ++ [l[k]]).eraseIdx k = l.take k ++ [l[k]].eraseIdx (k - (l.take k).length) := List.eraseIdx_append_of_length_le (by omega) _
  rw [h1, hlen, Nat.sub_self, List.eraseIdx_of_length_le (l := l.take k) (by omega)]
  simp
 ·rw [if_neg e]
  rcases Nat.lt_or_ge a k with h1 | h1
  ·rw [List.eraseIdx_append_of_lt_length (by omega)]
  ·rw [List.eraseIdx_of_length_le (by rw [List.length_append, hlen]; simp; omega), List.eraseIdx_of_length_le (by omega)]
set_option maxHeartbeats 2000000 in
theorem stepD_ok (P : Nat → Prop) (R : LDq) (p : Pk) (w : World) (hP : ∀ k, w.heap.size ≤ k → P k) (h : RefAt w P R) (hF : DFit R.pure) : Ret Tryz.prog 10 #[.agg (dqC R).toArray, .agg (pkC p).toArray] w (fun v w' => (∃ R', v = .tuple #[.agg (dqC R').toArray, .int .i64 (R.pure.step p).2] ∧ RMade P w' (R.pure.step p).1 R') ∧ Lk w' w NoB) := by
 haveI hrb : Row w R.NA (R.ns.flatMap anC) := ⟨h.nodes.row⟩
 haveI hrbg : Row w R.BA (R.bs.flatMap blC) := ⟨h.bag.row⟩
 haveI holdN : OldA w R.NA := ⟨fun a ha => (h.nodes.blk a ha).2⟩
 haveI holdB : OldA w R.BA := ⟨fun a ha => (h.bag.blk a ha).2⟩
 have hpl := pureD_len R
 have hn5 := hF.n5
 rw [hpl] at hn5
 have hb : R.bs.length ≤ 256 := by have := hF.b; simpa [LDq.pure] using this
 refine ret_of_x (N := 121) (l := [.agg (dqC R).toArray, .agg (pkC p).toArray]) Tryz.func10 rfl rfl (Nat.le_of_ble_eq_true rfl) ?_
 refine x_seq ?_
 refine x_regionL ?_
 refine xl_e (e_box fun bq w1 nq lq kq => ?_)
 refine xl_e (e_box fun bp w2 np lp kp => ?_)
 refine xl_e (e_alloc fun b4 w3 n4 l4 k4 => ?_)
 refine xl_v v_assign ?_
 refine xl_nil ?_
 refine x_seq ?_
 have hb4 : w.heap.size ≤ b4 := by rw [n4.eq]; exact Ge.le
 obtain ⟨N, hN⟩ : ∃ N, N = (w3).heap.size := ⟨_, rfl⟩
 have hwN : w.heap.size ≤ N := by rw [hN]; exact Ge.le
 have hb4l : b4 < N := by rw [hN]; exact Has.lt
 have hPm : ∀ k, (w3).heap.size ≤ k → Mid P w.heap.size N k := midP hP hwN (Nat.le_of_eq hN)
 have hm := h.mid N
 refine x_regionL ?_
 refine xl_Fb ?_
 refine xl_Lc ?_
 refine xl_v v_assign ?_
 refine xl_nil ?_
 refine x_seq ?_
 refine x_seq ?_
 refine x_regionL ?_
 refine xl_v v_move ?_
 refine xl_v v_lss ?_
 refine xl_v v_move ?_
 refine xl_split 16 (fun g16 => ?_) (fun g16 => ?_)
 ·
  refine xl_gs rfl EvO.eq ?_
  refine xl_gs rfl EvO.eq ?_
  refine xl_Pk ?_
  refine xl_v v_move ?_
  refine xl_gs rfl EvO.eq ?_
  refine xl_gs rfl EvO.eq ?_
  refine xl_gs rfl EvO.eq ?_
  refine xl_gu rfl EvO.eq ?_
  refine xl_gu rfl EvO.eq ?_
  refine xl_gu rfl EvO.eq ?_
  refine xl_gu rfl EvO.eq ?_
  refine xl_gu rfl EvO.eq ?_
  refine xl_gu rfl EvO.eq ?_
  refine xl_gu rfl EvO.eq ?_
  refine xl_gu rfl EvO.eq ?_
  refine xl_gu rfl EvO.eq ?_
  refine xl_gu rfl EvO.eq ?_
  refine xl_gu rfl EvO.eq ?_
  refine xl_gs rfl EvO.eq ?_
  refine xl_Pk ?_
  refine xl_nil ?_
  refine x_condT ?_
  refine x_seq ?_
  refine x_regionL ?_
  refine xl_Lb ?_
  refine xl_s (e_storeA fun w4 l4 k4 => ?_)
  refine xl_v v_assign ?_
  refine xl_nil ?_
  refine x_ret ?_
  refine finR (rs := [.cell 4 32, .tmp 5]) rfl ?_
  have hno1 : ¬ (1 ≤ p.kind ∧ p.kind ≤ 4 ∧ R.pure.has p.a) := by
   unfold Dq.has
   rw [hpl]
   first
    | (simp at g16; omega)
    | (simp at g20; omega)
    | (simp at g23 g27; omega)
    | (simp at g23 c1; omega)
    | (exfalso; simp at c1; done)
  have hno2 : ¬ (5 ≤ p.kind ∧ p.kind ≤ 7) := by
   first
    | (simp at g16; omega)
    | (simp at g20; omega)
    | (simp at g23; omega)
    | (exfalso; simp at c1; done)
  have hr : R.pure.step p = (R.pure, 2) := by unfold Dq.step; rw [if_neg hno1, if_neg hno2]
  exact ⟨⟨R, by rw [hr]; simp [outV], by rw [hr], h.ext kpc⟩, lkc⟩
 ·
  refine xl_gv rfl EvO.eq v_move ?_
  refine xl_gv rfl EvO.eq v_gtr ?_
  refine xl_Pk ?_
  refine xl_v v_move ?_
  refine xl_split 20 (fun g20 => ?_) (fun g20 => ?_)
  ·
   refine xl_gs rfl EvO.eq ?_
   refine xl_gs rfl EvO.eq ?_
   refine xl_gs rfl EvO.eq ?_
   refine xl_gu rfl EvO.eq ?_
   refine xl_gu rfl EvO.eq ?_
   refine xl_gu rfl EvO.eq ?_
   refine xl_gu rfl EvO.eq ?_
   refine xl_gu rfl EvO.eq ?_
   refine xl_gu rfl EvO.eq ?_
   refine xl_gu rfl EvO.eq ?_
   refine xl_gu rfl EvO.eq ?_
   refine xl_gu rfl EvO.eq ?_
   refine xl_gu rfl EvO.eq ?_
   refine xl_gu rfl EvO.eq ?_
   refine xl_gs rfl EvO.eq ?_
   refine xl_Pk ?_
   refine xl_nil ?_
   refine x_condT ?_
   refine x_seq ?_
   refine x_regionL ?_
   refine xl_Lb ?_
   refine xl_s (e_storeA fun w5 l5 k5 => ?_)
   refine xl_v v_assign ?_
   refine xl_nil ?_
   refine x_ret ?_
   refine finR (rs := [.cell 4 32, .tmp 5]) rfl ?_
   have hno1 : ¬ (1 ≤ p.kind ∧ p.kind ≤ 4 ∧ R.pure.has p.a) := by
    unfold Dq.has
    rw [hpl]
    first
     | (simp at g16; omega)
     | (simp at g20; omega)
     | (simp at g23 g27; omega)
     | (simp at g23 c1; omega)
     | (exfalso; simp at c1; done)
   have hno2 : ¬ (5 ≤ p.kind ∧ p.kind ≤ 7) := by
    first
     | (simp at g16; omega)
     | (simp at g20; omega)
     | (simp at g23; omega)
     | (exfalso; simp at c1; done)
   have hr : R.pure.step p = (R.pure, 2) := by unfold Dq.step; rw [if_neg hno1, if_neg hno2]
   exact ⟨⟨R, by rw [hr]; simp [outV], by rw [hr], h.ext kpc⟩, lkc⟩
  ·
   refine xl_gv rfl EvO.eq v_move ?_
   refine xl_gv rfl EvO.eq v_leq ?_
   refine xl_gv rfl EvO.eq v_move ?_
   refine xl_split 23 (fun g23 => ?_) (fun g23 => ?_)
   ·
    refine xl_gFb rfl EvO.eq ?_
    refine xl_gLc rfl EvO.eq ?_
    refine xl_gv rfl EvO.eq v_lss ?_
    refine xl_gv rfl EvO.eq v_move ?_
    refine xl_split 27 (fun g27 => ?_) (fun g27 => ?_)
    ·
     refine xl_gs rfl EvO.eq ?_
     refine xl_gs rfl EvO.eq ?_
     refine xl_gs rfl EvO.eq ?_
     refine xl_gs rfl EvO.eq ?_
     refine xl_gs rfl EvO.eq ?_
     refine xl_gs rfl EvO.eq ?_
     refine xl_gPk rfl EvO.eq ?_
     refine xl_gPk rfl EvO.eq ?_
     refine xl_Pk ?_
     refine xl_nil ?_
     refine x_condT ?_
     refine x_seq ?_
     refine x_regionL ?_
     refine xl_Lb ?_
     refine xl_s (e_storeA fun w6 l6 k6 => ?_)
     refine xl_v v_assign ?_
     refine xl_nil ?_
     refine x_ret ?_
     refine finR (rs := [.cell 4 32, .tmp 5]) rfl ?_
     have hno1 : ¬ (1 ≤ p.kind ∧ p.kind ≤ 4 ∧ R.pure.has p.a) := by
      unfold Dq.has
      rw [hpl]
      first
       | (simp at g16; omega)
       | (simp at g20; omega)
       | (simp at g23 g27; omega)
       | (simp at g23 c1; omega)
       | (exfalso; simp at c1; done)
     have hno2 : ¬ (5 ≤ p.kind ∧ p.kind ≤ 7) := by
      first
       | (simp at g16; omega)
       | (simp at g20; omega)
       | (simp at g23; omega)
       | (exfalso; simp at c1; done)
     have hr : R.pure.step p = (R.pure, 2) := by unfold Dq.step; rw [if_neg hno1, if_neg hno2]
     exact ⟨⟨R, by rw [hr]; simp [outV], by rw [hr], h.ext kpc⟩, lkc⟩
    ·
     refine xl_gFb rfl EvO.eq ?_
     refine xl_gLc rfl EvO.eq ?_
     refine xl_gFb rfl EvO.eq ?_
     refine xl_gLc rfl EvO.eq ?_
     refine xl_gv rfl EvO.eq v_len ?_
     refine xl_gv rfl EvO.eq v_geq ?_
     refine xl_gPk rfl EvO.eq ?_
     refine xl_gPk rfl EvO.eq ?_
     refine xl_Pk ?_
     refine xl_nil ?_
     refine x_condE (fun c1 => ?_) (fun c1 => ?_)
     ·
      refine x_seq ?_
      refine x_regionL ?_
      refine xl_Lb ?_
      refine xl_s (e_storeA fun w7 l7 k7 => ?_)
      refine xl_v v_assign ?_
      refine xl_nil ?_
      refine x_ret ?_
      refine finR (rs := [.cell 4 32, .tmp 5]) rfl ?_
      have hno1 : ¬ (1 ≤ p.kind ∧ p.kind ≤ 4 ∧ R.pure.has p.a) := by
       unfold Dq.has
       rw [hpl]
       first
        | (simp at g16; omega)
        | (simp at g20; omega)
        | (simp at g23 g27; omega)
        | (simp at g23 c1; omega)
        | (exfalso; simp at c1; done)
      have hno2 : ¬ (5 ≤ p.kind ∧ p.kind ≤ 7) := by
       first
        | (simp at g16; omega)
        | (simp at g20; omega)
        | (simp at g23; omega)
        | (exfalso; simp at c1; done)
      have hr : R.pure.step p = (R.pure, 2) := by unfold Dq.step; rw [if_neg hno1, if_neg hno2]
      exact ⟨⟨R, by rw [hr]; simp [outV], by rw [hr], h.ext kpc⟩, lkc⟩
     ·
      refine x_skip ?_
      refine x_seq ?_
      refine x_seq ?_
      have h17 : 1 ≤ p.kind ∧ p.kind ≤ 7 := by
       refine ⟨?_, ?_⟩
       ·first
         | (simp at g16; omega)
         | (simp at c1; omega)
       ·first
         | (simp at g20; omega)
         | (simp at c1; omega)
      have hin : p.kind ≤ 4 → 0 ≤ p.a ∧ p.a < R.ns.length := by
       intro e
       first
        | (exfalso; simp at g23; omega)
        | (simp at g27 c1; omega)
        | (exfalso; simp at c1; done)
      have hall : p.kind ≤ 4 → ∃ (i : Nat) (z : LAn), p.a = (i : Int) ∧ R.ns[i]? = some z ∧ i < R.ns.length ∧ R.pure.step p = (if p.kind = 1 then R.pure.seek p.a else if p.kind = 2 then R.pure.take p else if p.kind = 3 then R.pure.give p else R.pure.crash p.a) ∧ AnFit R.ns.length z.x ∧ (0 ≤ z.x.term ∧ z.x.term ≤ 2147483647) ∧ ∀ a ∈ z.x.next, 0 ≤ a ∧ a ≤ z.x.log.length := by
       intro e
       obtain ⟨h1, h2⟩ := hin e
       obtain ⟨i, hi⟩ : ∃ i : Nat, p.a = (i : Int) := ⟨p.a.toNat, by omega⟩
       have hil : i < R.ns.length := by omega
       refine ⟨i, R.ns[i], hi, List.getElem?_eq_getElem hil, hil, stepD_do ⟨h17.1, e⟩ (by unfold Dq.has; rw [hpl]; exact ⟨h1, h2⟩), ?_⟩
       have := hF.nd R.ns[i].x (List.mem_map_of_mem (List.getElem_mem hil))
       rw [hpl] at this
       exact this
      refine x_regionL ?_
      refine xl_v v_move ?_
      refine xl_nil ?_
      refine x_block ?_
      refine x_seq ?_
      refine x_regionL ?_
      refine xl_v v_eql ?_
      refine xl_v v_assign ?_
      refine xl_nil ?_
      first | refine x_condP (fun c2 => ?_) (fun c2 => ?_) | refine x_condN (fun c2 => ?_) (fun c2 => ?_) | refine x_condE (fun c2 => ?_) (fun c2 => ?_)
      ·
       obtain ⟨i, z, hpa, hz, hil, hs, hf, ht, hnb⟩ := hall (by omega)
       rw [if_pos c2] at hs
       refine x_seq ?_
       refine x_regionL ?_
       refine xl_Lb ?_
       refine xl_Fb ?_
       refine xl_v (v_congr (u := .int .i64 (i : Int)) v_load (by rw [hpa])) ?_
       refine xl_call (seekD_ok (Mid P w.heap.size N) R i z w3 (fun k e => hPm k (Nat.le_trans Ge.le e)) (hm.ext kpc) hz hn5 hb hf ht) ?_
       rintro _ w8 ⟨⟨R1, rfl, hR1⟩, lk63⟩
       refine xl_v v_extract ?_
       refine xl_v v_extract ?_
       refine xl_s (e_storeA fun w9 l66 k66 => ?_)
       refine xl_v v_assign ?_
       refine xl_nil ?_
       refine x_ret ?_
       refine finR (rs := [.cell 4 32, .tmp 5]) rfl ?_
       rw [hpa] at hs
       exact ⟨⟨R1, by rw [hs]; simp [outV], by rw [hs]; exact hR1.1, hR1.2.box l66.keep ⟨hb4, hb4l⟩⟩, lkc⟩
      ·
       refine x_seq ?_
       refine x_seq ?_
       refine x_regionL ?_
       refine xl_v v_eql ?_
       refine xl_v v_assign ?_
       refine xl_nil ?_
       first | refine x_condP (fun c3 => ?_) (fun c3 => ?_) | refine x_condN (fun c3 => ?_) (fun c3 => ?_) | refine x_condE (fun c3 => ?_) (fun c3 => ?_)
       ·
        refine x_skip ?_
        first | refine x_condP (fun c4 => ?_) (fun c4 => ?_) | refine x_condN (fun c4 => ?_) (fun c4 => ?_) | refine x_condE (fun c4 => ?_) (fun c4 => ?_)
        ·
         have hk23 : p.kind = 2 ∨ p.kind = 3 := by
          first
           | exact .inl c3
           | exact .inr c4
         obtain ⟨i, z, hpa, hz, hil, hs, hf, ht, hnb⟩ := hall (by omega)
         refine x_seq ?_
         refine x_regionL ?_
         refine xl_Lb ?_
         refine xl_Lb ?_
         refine xl_call (sendsD_ok (Mid P w.heap.size N) R i z p w3 (fun k e => hPm k (Nat.le_trans Ge.le e)) (hm.ext kpc) hz hn5 hb hf hnb hpa hk23 hs) ?_
         rintro _ w10 ⟨⟨R1, rfl, hR1⟩, lk92⟩
         refine xl_v v_extract ?_
         refine xl_v v_extract ?_
         refine xl_s (e_storeA fun w11 l95 k95 => ?_)
         refine xl_v v_assign ?_
         refine xl_nil ?_
         refine x_ret ?_
         refine finR (rs := [.cell 4 32, .tmp 5]) rfl ?_
         exact ⟨⟨R1, by simp [outV], hR1.1, hR1.2.box l95.keep ⟨hb4, hb4l⟩⟩, lkc⟩
        ·
         exact absurd c3 c4
       ·
        refine x_regionL ?_
        refine xl_v v_eql ?_
        refine xl_v v_assign ?_
        refine xl_nil ?_
        first | refine x_condP (fun c4 => ?_) (fun c4 => ?_) | refine x_condN (fun c4 => ?_) (fun c4 => ?_) | refine x_condE (fun c4 => ?_) (fun c4 => ?_)
        ·
         have hk23 : p.kind = 2 ∨ p.kind = 3 := by
          first
           | exact .inl c3
           | exact .inr c4
         obtain ⟨i, z, hpa, hz, hil, hs, hf, ht, hnb⟩ := hall (by omega)
         refine x_seq ?_
         refine x_regionL ?_
         refine xl_Lb ?_
         refine xl_Lb ?_
         refine xl_call (sendsD_ok (Mid P w.heap.size N) R i z p w3 (fun k e => hPm k (Nat.le_trans Ge.le e)) (hm.ext kpc) hz hn5 hb hf hnb hpa hk23 hs) ?_
         rintro _ w12 ⟨⟨R1, rfl, hR1⟩, lk92⟩
         refine xl_v v_extract ?_
         refine xl_v v_extract ?_
         refine xl_s (e_storeA fun w13 l95 k95 => ?_)
         refine xl_v v_assign ?_
         refine xl_nil ?_
         refine x_ret ?_
         refine finR (rs := [.cell 4 32, .tmp 5]) rfl ?_
         exact ⟨⟨R1, by simp [outV], hR1.1, hR1.2.box l95.keep ⟨hb4, hb4l⟩⟩, lkc⟩
        ·
         have hk23 : ¬ p.kind = 2 ∧ ¬ p.kind = 3 := by
          first
           | exact ⟨c3, c4⟩
           | exact absurd c3 c4
         refine x_seq ?_
         refine x_regionL ?_
         refine xl_v v_eql ?_
         refine xl_v v_assign ?_
         refine xl_nil ?_
         first | refine x_condP (fun c5 => ?_) (fun c5 => ?_) | refine x_condN (fun c5 => ?_) (fun c5 => ?_) | refine x_condE (fun c5 => ?_) (fun c5 => ?_)
         ·
          obtain ⟨i, z, hpa, hz, hil, hs, hf, ht, hnb⟩ := hall (by omega)
          have hzi : R.ns[i] = z := (List.getElem?_eq_some_iff.1 hz).2
          rw [if_neg (by omega), if_neg (by omega), if_neg (by omega)] at hs
          have hzr := hm.rows z (List.mem_of_getElem? hz)
          refine x_seq ?_
          refine x_regionL ?_
          refine xl_Fb ?_
          refine xl_Lc ?_
          refine xl_Fb ?_
          refine xl_Lc ?_
          refine xl_v (v_indexF i (by decide) hpa (by omega) hil) ?_
          refine xl_v (v_congr (u := .agg (anC z).toArray) (v_loadF (k := i) (by decide) hil) (by rw [hzi])) ?_
          refine xl_call (voterD_ok z 0 w3) ?_
          rintro _ w14 ⟨rfl, lk116⟩
          refine xl_e (e_alloc fun b7 w15 n7 l7 k7 => ?_)
          refine xl_s (e_storeA fun w16 l118 k118 => ?_)
          refine xl_nil ?_
          refine x_seq ?_
          refine x_regionL ?_
          refine xl_Fb ?_
          refine xl_s (e_store fun w17 l121 k121 => ?_)
          refine xl_nil ?_
          refine x_seq ?_
          refine x_regionL ?_
          refine xl_Lb ?_
          refine xl_Fb ?_
          refine xl_v (v_congr (u := .int .i64 (i : Int)) v_load (by rw [hpa])) ?_
          refine xl_v (v_congr (u := .agg (anC ((z.voter 0).setC 0)).toArray) v_loadA rfl) ?_
          refine xl_call (withD_ok (Mid P w.heap.size N) R i ((z.voter 0).setC 0) w17 (fun k e => hPm k (Nat.le_trans Ge.le e)) (hm.ext kpc) (RowsAn.ext ⟨hzr.log, FRow.nil _ _, FRow.nil _ _, FRow.nil _ _, hzr.lc⟩ kpc) hil hn5) ?_
          rintro _ w18 ⟨⟨R1, rfl, hR1, _⟩, lk134⟩
          refine xl_s (e_storeA fun w19 l135 k135 => ?_)
          refine xl_v v_assign ?_
          refine xl_nil ?_
          refine x_ret ?_
          refine finR (rs := [.cell 4 32, .tmp 5]) rfl ?_
          have hc : R.pure.crash p.a = (R.pure.setN i { z.x.voter 0 with commit := 0 }, 0) := by
           unfold Dq.crash
           rw [hpa, pureD_node hz]
           rfl
          exact ⟨⟨R1, by rw [hs, hc]; simp [outV], by rw [hs, hc]; exact hR1.1, hR1.2.box l135.keep ⟨hb4, hb4l⟩⟩, lkc⟩
         ·
          exfalso; simp at g23; omega
   ·
    refine xl_gs rfl EvO.eq ?_
    refine xl_gs rfl EvO.eq ?_
    refine xl_gs rfl EvO.eq ?_
    refine xl_gs rfl EvO.eq ?_
    refine xl_gu rfl EvO.eq ?_
    refine xl_gu rfl EvO.eq ?_
    refine xl_gu rfl EvO.eq ?_
    refine xl_gu rfl EvO.eq ?_
    refine xl_gu rfl EvO.eq ?_
    refine xl_gu rfl EvO.eq ?_
    refine xl_gs rfl EvO.eq ?_
    refine xl_gPk rfl EvO.eq ?_
    refine xl_Pk ?_
    refine xl_nil ?_
    refine x_condF ?_
    refine x_skip ?_
    refine x_seq ?_
    refine x_seq ?_
    have h17 : 1 ≤ p.kind ∧ p.kind ≤ 7 := by
     refine ⟨?_, ?_⟩
     ·first
       | (simp at g16; omega)
       | (simp at c1; omega)
     ·first
       | (simp at g20; omega)
       | (simp at c1; omega)
    have hin : p.kind ≤ 4 → 0 ≤ p.a ∧ p.a < R.ns.length := by
     intro e
     first
      | (exfalso; simp at g23; omega)
      | (simp at g27 c1; omega)
      | (exfalso; simp at c1; done)
    have hall : p.kind ≤ 4 → ∃ (i : Nat) (z : LAn), p.a = (i : Int) ∧ R.ns[i]? = some z ∧ i < R.ns.length ∧ R.pure.step p = (if p.kind = 1 then R.pure.seek p.a else if p.kind = 2 then R.pure.take p else if p.kind = 3 then R.pure.give p else R.pure.crash p.a) ∧ AnFit R.ns.length z.x ∧ (0 ≤ z.x.term ∧ z.x.term ≤ 2147483647) ∧ ∀ a ∈ z.x.next, 0 ≤ a ∧ a ≤ z.x.log.length := by
     intro e
     obtain ⟨h1, h2⟩ := hin e
     obtain ⟨i, hi⟩ : ∃ i : Nat, p.a = (i : Int) := ⟨p.a.toNat, by omega⟩
     have hil : i < R.ns.length := by omega
     refine ⟨i, R.ns[i], hi, List.getElem?_eq_getElem hil, hil, stepD_do ⟨h17.1, e⟩ (by unfold Dq.has; rw [hpl]; exact ⟨h1, h2⟩), ?_⟩
     have := hF.nd R.ns[i].x (List.mem_map_of_mem (List.getElem_mem hil))
     rw [hpl] at this
     exact this
    refine x_regionL ?_
    refine xl_v v_move ?_
    refine xl_nil ?_
    refine x_block ?_
    refine x_seq ?_
    refine x_regionL ?_
    refine xl_v v_eql ?_
    refine xl_v v_assign ?_
    refine xl_nil ?_
    first | refine x_condP (fun c2 => ?_) (fun c2 => ?_) | refine x_condN (fun c2 => ?_) (fun c2 => ?_) | refine x_condE (fun c2 => ?_) (fun c2 => ?_)
    ·
     exfalso; simp at g23; omega
    ·
     refine x_seq ?_
     refine x_seq ?_
     refine x_regionL ?_
     refine xl_v v_eql ?_
     refine xl_v v_assign ?_
     refine xl_nil ?_
     first | refine x_condP (fun c3 => ?_) (fun c3 => ?_) | refine x_condN (fun c3 => ?_) (fun c3 => ?_) | refine x_condE (fun c3 => ?_) (fun c3 => ?_)
     ·
      exfalso; simp at g23; omega
     ·
      refine x_regionL ?_
      refine xl_v v_eql ?_
      refine xl_v v_assign ?_
      refine xl_nil ?_
      first | refine x_condP (fun c4 => ?_) (fun c4 => ?_) | refine x_condN (fun c4 => ?_) (fun c4 => ?_) | refine x_condE (fun c4 => ?_) (fun c4 => ?_)
      ·
       exfalso; simp at g23; omega
      ·
       have hk23 : ¬ p.kind = 2 ∧ ¬ p.kind = 3 := by
        first
         | exact ⟨c3, c4⟩
         | exact absurd c3 c4
       refine x_seq ?_
       refine x_regionL ?_
       refine xl_v v_eql ?_
       refine xl_v v_assign ?_
       refine xl_nil ?_
       first | refine x_condP (fun c5 => ?_) (fun c5 => ?_) | refine x_condN (fun c5 => ?_) (fun c5 => ?_) | refine x_condE (fun c5 => ?_) (fun c5 => ?_)
       ·
        exfalso; simp at g23; omega
       ·
        refine x_skip ?_
        refine x_seq ?_
        refine x_seq ?_
        have h57 : 5 ≤ p.kind ∧ p.kind ≤ 7 := by omega
        have hsp : R.pure.step p = R.pure.picked p := by unfold Dq.step; rw [if_neg (by omega), if_pos h57]
        refine x_regionL ?_
        refine xl_Fb ?_
        refine xl_Lc ?_
        refine xl_v v_len ?_
        refine xl_v v_eql ?_
        refine xl_nil ?_
        first | refine x_condP (fun c6 => ?_) (fun c6 => ?_) | refine x_condN (fun c6 => ?_) (fun c6 => ?_) | refine x_condE (fun c6 => ?_) (fun c6 => ?_)
        ·
         refine x_seq ?_
         refine x_regionL ?_
         refine xl_Lb ?_
         refine xl_s (e_storeA fun w20 l20 k20 => ?_)
         refine xl_v v_assign ?_
         refine xl_nil ?_
         refine x_ret ?_
         refine finR (rs := [.cell 4 32, .tmp 5]) rfl ?_
         have hnil : R.bs = [] := List.eq_nil_of_length_eq_zero (by omega)
         have hr : R.pure.picked p = (R.pure, 5) := if_pos (by simp [LDq.pure, hnil])
         exact ⟨⟨R, by rw [hsp, hr]; simp [outV], by rw [hsp, hr], h.ext kpc⟩, lkc⟩
        ·
         have hpos : 0 < R.bs.length := by omega
         obtain ⟨at_, hat0⟩ : ∃ at_ : Nat, p.a % (R.bs.length : Int) = (at_ : Int) := ⟨(p.a % (R.bs.length : Int)).toNat, by have := Int.emod_nonneg p.a (b := (R.bs.length : Int)) (by omega); omega⟩
         have hatl : at_ < R.bs.length := by have := Int.emod_lt_of_pos p.a (b := (R.bs.length : Int)) (by omega); omega
         have hb1 : -(R.bs.length : Int) < p.a.tmod (R.bs.length : Int) := Int.lt_tmod_of_pos p.a (by omega)
         have hb2 : p.a.tmod (R.bs.length : Int) < R.bs.length := Int.tmod_lt_of_pos p.a (by omega)
         have hre := rem_eq p.a hpos
         obtain ⟨m, hmD⟩ : ∃ m, R.bs[at_]? = some m := ⟨_, List.getElem?_eq_getElem hatl⟩
         have hmm : R.bs[at_] = m := (List.getElem?_eq_some_iff.1 hmD).2
         have hmem : m ∈ R.bs := List.mem_of_getElem? hmD
         obtain ⟨hmto, hmf, hmp, hmc⟩ := hF.bg m.m (List.mem_map_of_mem hmem)
         rw [hpl] at hmto hmf
         obtain ⟨i, hi⟩ : ∃ i : Nat, m.m.to = (i : Int) := ⟨m.m.to.toNat, by omega⟩
         have hil : i < R.ns.length := by omega
         obtain ⟨z, hz⟩ : ∃ z, R.ns[i]? = some z := ⟨_, List.getElem?_eq_getElem hil⟩
         have hfz := (hF.nd z.x (List.mem_map_of_mem (List.mem_of_getElem? hz))).1
         rw [hpl] at hfz
         have hpick : ∀ R1 : LDq, R1.pure = (if p.kind ≠ 6 then ⟨R.pure.nodes, R.pure.bag.eraseIdx at_⟩ else R.pure) → R.pure.picked p = (if p.kind = 7 then (R1.pure, 0) else (R1.pure.come m.m, 0)) := by
          intro R1 e1
          have e2 : R.pure.bag ≠ [] := by intro e; have := congrArg List.length e; simp [LDq.pure] at this; rw [this] at hpos; simp at hpos
          have e3 : (p.a % (R.pure.bag.length : Int)).toNat = at_ := by simp only [LDq.pure, List.length_map]; rw [hat0]; rfl
          unfold Dq.picked
          simp only [if_neg e2, e3]
          rw [show R.pure.bag.getD at_ Bl.zero = m.m from by simp [LDq.pure, List.getD_eq_getElem?_getD, hmD], ← e1]
         refine x_skip ?_
         refine x_seq ?_
         refine x_regionL ?_
         refine xl_Fb ?_
         refine xl_Lc ?_
         refine xl_Fb ?_
         refine xl_Lc ?_
         refine xl_v v_len ?_
         refine xl_v (v_rem (by omega)) ?_
         refine xl_v v_assign ?_
         refine xl_nil ?_
         refine x_seq ?_
         refine x_seq ?_
         refine x_regionL ?_
         refine xl_v v_move ?_
         refine xl_v v_lss ?_
         refine xl_nil ?_
         first | refine x_condP (fun c7 => ?_) (fun c7 => ?_) | refine x_condN (fun c7 => ?_) (fun c7 => ?_) | refine x_condE (fun c7 => ?_) (fun c7 => ?_)
         ·
          have hat : p.a.tmod (R.bs.length : Int) + (R.bs.length : Int) = (at_ : Int) := by
           have h1 := hre
           rw [Int.tmod_eq_of_lt (a := p.a.tmod _ + _) (by omega) (by omega)] at h1
           rw [h1, hat0]
          refine x_regionL ?_
          refine xl_v v_move ?_
          refine xl_Fb ?_
          refine xl_Lc ?_
          refine xl_v v_len ?_
          refine xl_v (v_add (by omega)) ?_
          refine xl_v v_assign ?_
          refine xl_nil ?_
          refine x_seq ?_
          refine x_regionL ?_
          refine xl_Fb ?_
          refine xl_Lc ?_
          refine xl_v v_move ?_
          refine xl_v (v_indexF at_ (by decide) hat (by omega) hatl) ?_
          refine xl_v (v_congr (u := .agg (blC m).toArray) (v_loadF (k := at_) (by decide) hatl) (by rw [hmm])) ?_
          refine xl_e (e_alloc fun b9 w21 n9 l9 k9 => ?_)
          refine xl_s (e_storeA fun w22 l196 k196 => ?_)
          refine xl_nil ?_
          refine x_seq ?_
          refine x_seq ?_
          refine x_regionL ?_
          refine xl_v v_move ?_
          refine xl_v v_neq ?_
          refine xl_nil ?_
          refine x_condE (fun c8 => ?_) (fun c8 => ?_)
          ·
           refine x_seq ?_
           refine x_regionL ?_
           refine xl_v v_assign ?_
           refine xl_nil ?_
           refine x_seq ?_
           refine x_seq ?_
           refine x_regionL ?_
           refine xl_v v_assign ?_
           refine xl_nil ?_
           refine x_block ?_
           have hbqN : w.heap.size ≤ bq ∧ bq < N := ⟨Nat.le_of_eq nq.eq.symm, by rw [hN]; exact Has.lt⟩
           have hPl : ∀ k, (w22).heap.size ≤ k → Mid P w.heap.size N k := fun k e => hPm k (Nat.le_trans Ge.le e)
           refine x_loop (fun mm τ ds w' => ds = [] ∧ ∃ (k : Nat) (A7 : Option Addr) (c7 : Nat), mm = R.bs.length - k ∧ k ≤ R.bs.length ∧ w'.ownsRow (w22).heap.size 75 12 (.slice A7 ((R.bs.take k).eraseIdx at_).length c7) ((R.bs.take k).eraseIdx at_).length (((R.bs.take k).eraseIdx at_).flatMap blC) ∧ Ev τ 2 (.pointer (some ⟨bq, 0, none⟩)) ∧ Ev τ 3 (.pointer (some ⟨bp, 0, none⟩)) ∧ Ev τ 4 (.pointer (some ⟨b4, 0, none⟩)) ∧ Ev τ 6 (.int .i64 p.kind) ∧ Ev τ 8 (.int .i64 (at_ : Int)) ∧ Ev τ 9 (.pointer (some ⟨b9, 0, none⟩)) ∧ Ev τ 10 (.slice A7 ((R.bs.take k).eraseIdx at_).length c7) ∧ Ev τ 11 (.int .i64 (k : Int)) ∧ Lk w' w22 NoB) (R.bs.length) ?start ?round
           case start =>
            exact ⟨rfl, 0, none, 0, rfl, Nat.zero_le _, by simpa using World.ownsRow_nil _ _ _ _, inferInstance, inferInstance, inferInstance, inferInstance, evc (congrArg (Value.int .i64) hat), inferInstance, evc (by simp), evc, lkc⟩
           case round =>
            intro m τ23 ds23 w23 hI
            obtain ⟨rfl, k, A7, c7, rfl, hk, ho7, e2, e3, e4, e6, e8, e9, e10, e11, lk⟩ := hI
            haveI o7 : OwnI w23 A7 _ _ _ _ _ _ _ := ⟨ho7⟩
            haveI na7 : NewA A7 w22 := newA_of ho7 (Nat.le_refl _)
            have hel : ((R.bs.take k).eraseIdx at_).length ≤ 256 := Nat.le_trans (List.length_eraseIdx_le _ _) (by rw [List.length_take]; omega)
            refine x_seq ?_
            refine x_seq ?_
            refine x_regionL ?_
            refine xl_v v_move ?_
            refine xl_Fb ?_
            refine xl_Lc ?_
            refine xl_v v_len ?_
            refine xl_v v_lss ?_
            refine xl_nil ?_
            first | refine x_condP (fun c9 => ?_) (fun c9 => ?_) | refine x_condN (fun c9 => ?_) (fun c9 => ?_) | refine x_condE (fun c9 => ?_) (fun c9 => ?_)
            ·
             have hk1 : k < R.bs.length := by omega
             refine x_skip ?_
             refine x_seq ?_
             refine x_block ?_
             refine x_seq ?_
             refine x_regionL ?_
             refine xl_v v_move ?_
             refine xl_v v_move ?_
             refine xl_v v_neq ?_
             refine xl_nil ?_
             first | refine x_condP (fun c10 => ?_) (fun c10 => ?_) | refine x_condN (fun c10 => ?_) (fun c10 => ?_) | refine x_condE (fun c10 => ?_) (fun c10 => ?_)
             ·
              refine x_regionL ?_
              refine xl_v v_move ?_
              refine xl_Fb ?_
              refine xl_Lc ?_
              refine xl_v v_move ?_
              refine xl_v (v_indexF k (by decide) rfl (by omega) hk1) ?_
              refine xl_v (v_loadF (k := k) (by decide) hk1) ?_
              refine xl_e (e_buildSlice1 rfl fun b266 w24 n266 l266 k266 => ?_)
              refine xl_e (e_app (by omega) (by decide) (by omega) (by omega) Ge.le fun A8 c8 w25 o8 l8 a8 f8 => ?_)
              refine xl_v v_assign ?_
              refine xl_nil ?_
              refine x_regionL ?_
              refine xl_v v_move ?_
              refine xl_v (v_add (by omega)) ?_
              refine xl_v v_assign ?_
              refine xl_nil ?_
              first
              | refine ⟨_, ?_, rfl, k + 1, A8, c8, rfl, by omega, ?_, inferInstance, inferInstance, inferInstance, inferInstance, inferInstance, inferInstance, evc ?_, evc, lkc⟩
                ·omega
                ·rw [erase_snoc hk1, if_neg (by omega)]
                 have := o8.own
                 simpa using this
                ·rw [erase_snoc hk1, if_neg (by omega)]; simp
              | refine ⟨_, ?_, rfl, k + 1, A7, c7, rfl, by omega, ?_, inferInstance, inferInstance, inferInstance, inferInstance, inferInstance, inferInstance, evc ?_, evc, lkc⟩
                ·omega
                ·rw [erase_snoc hk1, if_pos (by omega)]
                 exact own_ext ho7 lkc
                ·rw [erase_snoc hk1, if_pos (by omega)]
             ·
              refine x_skip ?_
              refine x_regionL ?_
              refine xl_v v_move ?_
              refine xl_v (v_add (by omega)) ?_
              refine xl_v v_assign ?_
              refine xl_nil ?_
              first
              | refine ⟨_, ?_, rfl, k + 1, A8, c8, rfl, by omega, ?_, inferInstance, inferInstance, inferInstance, inferInstance, inferInstance, inferInstance, evc ?_, evc, lkc⟩
                ·omega
                ·rw [erase_snoc hk1, if_neg (by omega)]
                 have := o8.own
                 simpa using this
                ·rw [erase_snoc hk1, if_neg (by omega)]; simp
              | refine ⟨_, ?_, rfl, k + 1, A7, c7, rfl, by omega, ?_, inferInstance, inferInstance, inferInstance, inferInstance, inferInstance, inferInstance, evc ?_, evc, lkc⟩
                ·omega
                ·rw [erase_snoc hk1, if_pos (by omega)]
                 exact own_ext ho7 lkc
                ·rw [erase_snoc hk1, if_pos (by omega)]
            ·
             refine x_exit ?_
             refine x_regionL ?_
             refine xl_v v_move ?_
             refine xl_Fb ?_
             refine xl_s (e_store fun w26 l272 k272 => ?_)
             refine xl_nil ?_
             have hkn : k = R.bs.length := by omega
             have hres : ∃ R1 : LDq, RefAt w26 (Mid P w.heap.size N) R1 ∧ R1.ns = R.ns ∧ R1.pure = (if p.kind ≠ 6 then ⟨R.pure.nodes, R.pure.bag.eraseIdx at_⟩ else R.pure) ∧ R1.bs.length ≤ 256 ∧ Blk w26 bq (.cells (dqC R1).toArray 32 (0, 0)) := by
              have hk6 : p.kind ≠ 6 := by simpa using c8
              rw [hkn, List.take_length] at ho7 k272
              have hl := l272.keep
              have hmw := (hm.ext (kpc : Keep NoB w _)).boxM hl hbqN
              refine ⟨{ R with bs := R.bs.eraseIdx at_, BA := A7, bc := c7 }, ⟨hmw.nodes, ?_, hmw.rows, fun b hb2 => hmw.cmds b (List.mem_of_mem_eraseIdx hb2)⟩, rfl, by rw [if_pos hk6]; simp [LDq.pure, map_erase], Nat.le_trans (List.length_eraseIdx_le _ _) hb, k272⟩
              have hfr := frow_new (P := Mid P w.heap.size N) ho7 (Nat.le_refl _) hPl
              exact frow_keep hfr hl (fun j e1 _ e2 => by have e3 : j = bq := e2; have := e1.2; omega)
             refine x_seq ?_
             refine x_seq ?_
             obtain ⟨R1, hR1, hR1n, hR1p, hR1b, kbq1⟩ := hres
             have hpk := hpick R1 hR1p
             refine x_regionL ?_
             refine xl_v v_move ?_
             refine xl_v v_eql ?_
             refine xl_nil ?_
             first | refine x_condP (fun c11 => ?_) (fun c11 => ?_) | refine x_condN (fun c11 => ?_) (fun c11 => ?_) | refine x_condE (fun c11 => ?_) (fun c11 => ?_)
             ·
              refine x_seq ?_
              refine x_regionL ?_
              refine xl_Lb ?_
              refine xl_s (e_storeA fun w27 l291 k291 => ?_)
              refine xl_v v_assign ?_
              refine xl_nil ?_
              refine x_ret ?_
              refine finR (rs := [.cell 4 32, .tmp 5]) rfl ?_
              have hr : R.pure.picked p = (R1.pure, 0) := by rw [hpk, if_pos c11]
              exact ⟨⟨R1, by rw [hsp, hr]; simp [outV], by rw [hsp, hr], (hR1.ext (kpc : Keep NoB _ _)).box l291.keep ⟨hb4, hb4l⟩⟩, lkc⟩
             ·
              refine x_skip ?_
              refine x_seq ?_
              refine x_regionL ?_
              refine xl_Lb ?_
              refine xl_Lb ?_
              refine xl_call (comeD_ok (Mid P w.heap.size N) R1 i z m w26 (fun k e => hPm k (Nat.le_trans Ge.le e)) (hR1.ext kpc) (by rw [hR1n]; exact hz) ⟨hi, by rw [hR1n]; exact hmf, frow_ext (frow_mid (h.cmds m hmem) N) kpc, hmc⟩ (by rw [hR1n]; exact hn5) hR1b (by rw [hR1n]; exact hfz) hmp) ?_
              rintro _ w28 ⟨⟨R2, rfl, hR2⟩, lk302⟩
              refine xl_s (e_storeA fun w29 l303 k303 => ?_)
              refine xl_v v_assign ?_
              refine xl_nil ?_
              refine x_ret ?_
              refine finR (rs := [.cell 4 32, .tmp 5]) rfl ?_
              have hr : R.pure.picked p = (R1.pure.come m.m, 0) := by rw [hpk, if_neg c11]
              exact ⟨⟨R2, by rw [hsp, hr]; simp [outV], by rw [hsp, hr]; exact hR2.1, hR2.2.box l303.keep ⟨hb4, hb4l⟩⟩, lkc⟩
          ·
           have hres : ∃ R1 : LDq, RefAt w22 (Mid P w.heap.size N) R1 ∧ R1.ns = R.ns ∧ R1.pure = (if p.kind ≠ 6 then ⟨R.pure.nodes, R.pure.bag.eraseIdx at_⟩ else R.pure) ∧ R1.bs.length ≤ 256 ∧ Blk w22 bq (.cells (dqC R1).toArray 32 (0, 0)) := ⟨R, hm.ext kpc, rfl, by rw [if_neg (by simpa using c8)], hb, ⟨Blk.eq⟩⟩
           refine x_skip ?_
           refine x_seq ?_
           refine x_seq ?_
           obtain ⟨R1, hR1, hR1n, hR1p, hR1b, kbq1⟩ := hres
           have hpk := hpick R1 hR1p
           refine x_regionL ?_
           refine xl_v v_move ?_
           refine xl_v v_eql ?_
           refine xl_nil ?_
           first | refine x_condP (fun c11 => ?_) (fun c11 => ?_) | refine x_condN (fun c11 => ?_) (fun c11 => ?_) | refine x_condE (fun c11 => ?_) (fun c11 => ?_)
           ·
            refine x_seq ?_
            refine x_regionL ?_
            refine xl_Lb ?_
            refine xl_s (e_storeA fun w30 l291 k291 => ?_)
            refine xl_v v_assign ?_
            refine xl_nil ?_
            refine x_ret ?_
            refine finR (rs := [.cell 4 32, .tmp 5]) rfl ?_
            have hr : R.pure.picked p = (R1.pure, 0) := by rw [hpk, if_pos c11]
            exact ⟨⟨R1, by rw [hsp, hr]; simp [outV], by rw [hsp, hr], (hR1.ext (kpc : Keep NoB _ _)).box l291.keep ⟨hb4, hb4l⟩⟩, lkc⟩
           ·
            refine x_skip ?_
            refine x_seq ?_
            refine x_regionL ?_
            refine xl_Lb ?_
            refine xl_Lb ?_
            refine xl_call (comeD_ok (Mid P w.heap.size N) R1 i z m w22 (fun k e => hPm k (Nat.le_trans Ge.le e)) (hR1.ext kpc) (by rw [hR1n]; exact hz) ⟨hi, by rw [hR1n]; exact hmf, frow_ext (frow_mid (h.cmds m hmem) N) kpc, hmc⟩ (by rw [hR1n]; exact hn5) hR1b (by rw [hR1n]; exact hfz) hmp) ?_
            rintro _ w31 ⟨⟨R2, rfl, hR2⟩, lk302⟩
            refine xl_s (e_storeA fun w32 l303 k303 => ?_)
            refine xl_v v_assign ?_
            refine xl_nil ?_
            refine x_ret ?_
            refine finR (rs := [.cell 4 32, .tmp 5]) rfl ?_
            have hr : R.pure.picked p = (R1.pure.come m.m, 0) := by rw [hpk, if_neg c11]
            exact ⟨⟨R2, by rw [hsp, hr]; simp [outV], by rw [hsp, hr]; exact hR2.1, hR2.2.box l303.keep ⟨hb4, hb4l⟩⟩, lkc⟩
         ·
          have hat : p.a.tmod (R.bs.length : Int) = (at_ : Int) := by
           have h1 := hre
           rw [Int.tmod_eq_emod_of_nonneg (a := p.a.tmod _ + _) (by omega), Int.add_emod_right, Int.emod_eq_of_lt (by omega) (by omega)] at h1
           rw [h1, hat0]
          refine x_skip ?_
          refine x_seq ?_
          refine x_regionL ?_
          refine xl_Fb ?_
          refine xl_Lc ?_
          refine xl_v v_move ?_
          refine xl_v (v_indexF at_ (by decide) hat (by omega) hatl) ?_
          refine xl_v (v_congr (u := .agg (blC m).toArray) (v_loadF (k := at_) (by decide) hatl) (by rw [hmm])) ?_
          refine xl_e (e_alloc fun b9 w33 n9 l9 k9 => ?_)
          refine xl_s (e_storeA fun w34 l196 k196 => ?_)
          refine xl_nil ?_
          refine x_seq ?_
          refine x_seq ?_
          refine x_regionL ?_
          refine xl_v v_move ?_
          refine xl_v v_neq ?_
          refine xl_nil ?_
          refine x_condE (fun c8 => ?_) (fun c8 => ?_)
          ·
           refine x_seq ?_
           refine x_regionL ?_
           refine xl_v v_assign ?_
           refine xl_nil ?_
           refine x_seq ?_
           refine x_seq ?_
           refine x_regionL ?_
           refine xl_v v_assign ?_
           refine xl_nil ?_
           refine x_block ?_
           have hbqN : w.heap.size ≤ bq ∧ bq < N := ⟨Nat.le_of_eq nq.eq.symm, by rw [hN]; exact Has.lt⟩
           have hPl : ∀ k, (w34).heap.size ≤ k → Mid P w.heap.size N k := fun k e => hPm k (Nat.le_trans Ge.le e)
           refine x_loop (fun mm τ ds w' => ds = [] ∧ ∃ (k : Nat) (A7 : Option Addr) (c7 : Nat), mm = R.bs.length - k ∧ k ≤ R.bs.length ∧ w'.ownsRow (w34).heap.size 75 12 (.slice A7 ((R.bs.take k).eraseIdx at_).length c7) ((R.bs.take k).eraseIdx at_).length (((R.bs.take k).eraseIdx at_).flatMap blC) ∧ Ev τ 2 (.pointer (some ⟨bq, 0, none⟩)) ∧ Ev τ 3 (.pointer (some ⟨bp, 0, none⟩)) ∧ Ev τ 4 (.pointer (some ⟨b4, 0, none⟩)) ∧ Ev τ 6 (.int .i64 p.kind) ∧ Ev τ 8 (.int .i64 (at_ : Int)) ∧ Ev τ 9 (.pointer (some ⟨b9, 0, none⟩)) ∧ Ev τ 10 (.slice A7 ((R.bs.take k).eraseIdx at_).length c7) ∧ Ev τ 11 (.int .i64 (k : Int)) ∧ Lk w' w34 NoB) (R.bs.length) ?start ?round
           case start =>
            exact ⟨rfl, 0, none, 0, rfl, Nat.zero_le _, by simpa using World.ownsRow_nil _ _ _ _, inferInstance, inferInstance, inferInstance, inferInstance, evc (congrArg (Value.int .i64) hat), inferInstance, evc (by simp), evc, lkc⟩
           case round =>
            intro m τ35 ds35 w35 hI
            obtain ⟨rfl, k, A7, c7, rfl, hk, ho7, e2, e3, e4, e6, e8, e9, e10, e11, lk⟩ := hI
            haveI o7 : OwnI w35 A7 _ _ _ _ _ _ _ := ⟨ho7⟩
            haveI na7 : NewA A7 w34 := newA_of ho7 (Nat.le_refl _)
            have hel : ((R.bs.take k).eraseIdx at_).length ≤ 256 := Nat.le_trans (List.length_eraseIdx_le _ _) (by rw [List.length_take]; omega)
            refine x_seq ?_
            refine x_seq ?_
            refine x_regionL ?_
            refine xl_v v_move ?_
            refine xl_Fb ?_
            refine xl_Lc ?_
            refine xl_v v_len ?_
            refine xl_v v_lss ?_
            refine xl_nil ?_
            first | refine x_condP (fun c9 => ?_) (fun c9 => ?_) | refine x_condN (fun c9 => ?_) (fun c9 => ?_) | refine x_condE (fun c9 => ?_) (fun c9 => ?_)
            ·
             have hk1 : k < R.bs.length := by omega
             refine x_skip ?_
             refine x_seq ?_
             refine x_block ?_
             refine x_seq ?_
             refine x_regionL ?_
             refine xl_v v_move ?_
             refine xl_v v_move ?_
             refine xl_v v_neq ?_
             refine xl_nil ?_
             first | refine x_condP (fun c10 => ?_) (fun c10 => ?_) | refine x_condN (fun c10 => ?_) (fun c10 => ?_) | refine x_condE (fun c10 => ?_) (fun c10 => ?_)
             ·
              refine x_regionL ?_
              refine xl_v v_move ?_
              refine xl_Fb ?_
              refine xl_Lc ?_
              refine xl_v v_move ?_
              refine xl_v (v_indexF k (by decide) rfl (by omega) hk1) ?_
              refine xl_v (v_loadF (k := k) (by decide) hk1) ?_
              refine xl_e (e_buildSlice1 rfl fun b266 w36 n266 l266 k266 => ?_)
              refine xl_e (e_app (by omega) (by decide) (by omega) (by omega) Ge.le fun A8 c8 w37 o8 l8 a8 f8 => ?_)
              refine xl_v v_assign ?_
              refine xl_nil ?_
              refine x_regionL ?_
              refine xl_v v_move ?_
              refine xl_v (v_add (by omega)) ?_
              refine xl_v v_assign ?_
              refine xl_nil ?_
              first
              | refine ⟨_, ?_, rfl, k + 1, A8, c8, rfl, by omega, ?_, inferInstance, inferInstance, inferInstance, inferInstance, inferInstance, inferInstance, evc ?_, evc, lkc⟩
                ·omega
                ·rw [erase_snoc hk1, if_neg (by omega)]
                 have := o8.own
                 simpa using this
                ·rw [erase_snoc hk1, if_neg (by omega)]; simp
              | refine ⟨_, ?_, rfl, k + 1, A7, c7, rfl, by omega, ?_, inferInstance, inferInstance, inferInstance, inferInstance, inferInstance, inferInstance, evc ?_, evc, lkc⟩
                ·omega
                ·rw [erase_snoc hk1, if_pos (by omega)]
                 exact own_ext ho7 lkc
                ·rw [erase_snoc hk1, if_pos (by omega)]
             ·
              refine x_skip ?_
              refine x_regionL ?_
              refine xl_v v_move ?_
              refine xl_v (v_add (by omega)) ?_
              refine xl_v v_assign ?_
              refine xl_nil ?_
              first
              | refine ⟨_, ?_, rfl, k + 1, A8, c8, rfl, by omega, ?_, inferInstance, inferInstance, inferInstance, inferInstance, inferInstance, inferInstance, evc ?_, evc, lkc⟩
                ·omega
                ·rw [erase_snoc hk1, if_neg (by omega)]
                 have := o8.own
                 simpa using this
                ·rw [erase_snoc hk1, if_neg (by omega)]; simp
              | refine ⟨_, ?_, rfl, k + 1, A7, c7, rfl, by omega, ?_, inferInstance, inferInstance, inferInstance, inferInstance, inferInstance, inferInstance, evc ?_, evc, lkc⟩
                ·omega
                ·rw [erase_snoc hk1, if_pos (by omega)]
                 exact own_ext ho7 lkc
                ·rw [erase_snoc hk1, if_pos (by omega)]
            ·
             refine x_exit ?_
             refine x_regionL ?_
             refine xl_v v_move ?_
             refine xl_Fb ?_
             refine xl_s (e_store fun w38 l272 k272 => ?_)
             refine xl_nil ?_
             have hkn : k = R.bs.length := by omega
             have hres : ∃ R1 : LDq, RefAt w38 (Mid P w.heap.size N) R1 ∧ R1.ns = R.ns ∧ R1.pure = (if p.kind ≠ 6 then ⟨R.pure.nodes, R.pure.bag.eraseIdx at_⟩ else R.pure) ∧ R1.bs.length ≤ 256 ∧ Blk w38 bq (.cells (dqC R1).toArray 32 (0, 0)) := by
              have hk6 : p.kind ≠ 6 := by simpa using c8
              rw [hkn, List.take_length] at ho7 k272
              have hl := l272.keep
              have hmw := (hm.ext (kpc : Keep NoB w _)).boxM hl hbqN
              refine ⟨{ R with bs := R.bs.eraseIdx at_, BA := A7, bc := c7 }, ⟨hmw.nodes, ?_, hmw.rows, fun b hb2 => hmw.cmds b (List.mem_of_mem_eraseIdx hb2)⟩, rfl, by rw [if_pos hk6]; simp [LDq.pure, map_erase], Nat.le_trans (List.length_eraseIdx_le _ _) hb, k272⟩
              have hfr := frow_new (P := Mid P w.heap.size N) ho7 (Nat.le_refl _) hPl
              exact frow_keep hfr hl (fun j e1 _ e2 => by have e3 : j = bq := e2; have := e1.2; omega)
             refine x_seq ?_
             refine x_seq ?_
             obtain ⟨R1, hR1, hR1n, hR1p, hR1b, kbq1⟩ := hres
             have hpk := hpick R1 hR1p
             refine x_regionL ?_
             refine xl_v v_move ?_
             refine xl_v v_eql ?_
             refine xl_nil ?_
             first | refine x_condP (fun c11 => ?_) (fun c11 => ?_) | refine x_condN (fun c11 => ?_) (fun c11 => ?_) | refine x_condE (fun c11 => ?_) (fun c11 => ?_)
             ·
              refine x_seq ?_
              refine x_regionL ?_
              refine xl_Lb ?_
              refine xl_s (e_storeA fun w39 l291 k291 => ?_)
              refine xl_v v_assign ?_
              refine xl_nil ?_
              refine x_ret ?_
              refine finR (rs := [.cell 4 32, .tmp 5]) rfl ?_
              have hr : R.pure.picked p = (R1.pure, 0) := by rw [hpk, if_pos c11]
              exact ⟨⟨R1, by rw [hsp, hr]; simp [outV], by rw [hsp, hr], (hR1.ext (kpc : Keep NoB _ _)).box l291.keep ⟨hb4, hb4l⟩⟩, lkc⟩
             ·
              refine x_skip ?_
              refine x_seq ?_
              refine x_regionL ?_
              refine xl_Lb ?_
              refine xl_Lb ?_
              refine xl_call (comeD_ok (Mid P w.heap.size N) R1 i z m w38 (fun k e => hPm k (Nat.le_trans Ge.le e)) (hR1.ext kpc) (by rw [hR1n]; exact hz) ⟨hi, by rw [hR1n]; exact hmf, frow_ext (frow_mid (h.cmds m hmem) N) kpc, hmc⟩ (by rw [hR1n]; exact hn5) hR1b (by rw [hR1n]; exact hfz) hmp) ?_
              rintro _ w40 ⟨⟨R2, rfl, hR2⟩, lk302⟩
              refine xl_s (e_storeA fun w41 l303 k303 => ?_)
              refine xl_v v_assign ?_
              refine xl_nil ?_
              refine x_ret ?_
              refine finR (rs := [.cell 4 32, .tmp 5]) rfl ?_
              have hr : R.pure.picked p = (R1.pure.come m.m, 0) := by rw [hpk, if_neg c11]
              exact ⟨⟨R2, by rw [hsp, hr]; simp [outV], by rw [hsp, hr]; exact hR2.1, hR2.2.box l303.keep ⟨hb4, hb4l⟩⟩, lkc⟩
          ·
           have hres : ∃ R1 : LDq, RefAt w34 (Mid P w.heap.size N) R1 ∧ R1.ns = R.ns ∧ R1.pure = (if p.kind ≠ 6 then ⟨R.pure.nodes, R.pure.bag.eraseIdx at_⟩ else R.pure) ∧ R1.bs.length ≤ 256 ∧ Blk w34 bq (.cells (dqC R1).toArray 32 (0, 0)) := ⟨R, hm.ext kpc, rfl, by rw [if_neg (by simpa using c8)], hb, ⟨Blk.eq⟩⟩
           refine x_skip ?_
           refine x_seq ?_
           refine x_seq ?_
           obtain ⟨R1, hR1, hR1n, hR1p, hR1b, kbq1⟩ := hres
           have hpk := hpick R1 hR1p
           refine x_regionL ?_
           refine xl_v v_move ?_
           refine xl_v v_eql ?_
           refine xl_nil ?_
           first | refine x_condP (fun c11 => ?_) (fun c11 => ?_) | refine x_condN (fun c11 => ?_) (fun c11 => ?_) | refine x_condE (fun c11 => ?_) (fun c11 => ?_)
           ·
            refine x_seq ?_
            refine x_regionL ?_
            refine xl_Lb ?_
            refine xl_s (e_storeA fun w42 l291 k291 => ?_)
            refine xl_v v_assign ?_
            refine xl_nil ?_
            refine x_ret ?_
            refine finR (rs := [.cell 4 32, .tmp 5]) rfl ?_
            have hr : R.pure.picked p = (R1.pure, 0) := by rw [hpk, if_pos c11]
            exact ⟨⟨R1, by rw [hsp, hr]; simp [outV], by rw [hsp, hr], (hR1.ext (kpc : Keep NoB _ _)).box l291.keep ⟨hb4, hb4l⟩⟩, lkc⟩
           ·
            refine x_skip ?_
            refine x_seq ?_
            refine x_regionL ?_
            refine xl_Lb ?_
            refine xl_Lb ?_
            refine xl_call (comeD_ok (Mid P w.heap.size N) R1 i z m w34 (fun k e => hPm k (Nat.le_trans Ge.le e)) (hR1.ext kpc) (by rw [hR1n]; exact hz) ⟨hi, by rw [hR1n]; exact hmf, frow_ext (frow_mid (h.cmds m hmem) N) kpc, hmc⟩ (by rw [hR1n]; exact hn5) hR1b (by rw [hR1n]; exact hfz) hmp) ?_
            rintro _ w43 ⟨⟨R2, rfl, hR2⟩, lk302⟩
            refine xl_s (e_storeA fun w44 l303 k303 => ?_)
            refine xl_v v_assign ?_
            refine xl_nil ?_
            refine x_ret ?_
            refine finR (rs := [.cell 4 32, .tmp 5]) rfl ?_
            have hr : R.pure.picked p = (R1.pure.come m.m, 0) := by rw [hpk, if_neg c11]
            exact ⟨⟨R2, by rw [hsp, hr]; simp [outV], by rw [hsp, hr]; exact hR2.1, hR2.2.box l303.keep ⟨hb4, hb4l⟩⟩, lkc⟩
end Go.Proofs.YtljdkelgapndgaaGreat
set_option linter.all false
set_option maxRecDepth 100000
set_option synthInstance.maxSize 100000
set_option synthInstance.maxHeartbeats 400000
namespace Go.Proofs.YtljdkelgapndgaaGreat
open Go.Wst
open Go.Wst.Qm
def newA0 : LAn := ⟨An.new, none, 0, none, 0, none, 0, none, 0⟩
def _root_.Go.Wst.Qm.Dq.committed (q : Dq) : List Cmd := q.nodes.foldl (fun out x => if (out.length : Int) < x.commit then x.log.take x.commit.toNat else out) []
theorem tell_committed (q : Qu) : q.tell.committed = q.committed := by
 unfold Dq.committed Qu.committed Qu.tell
 rw [List.foldl_map]
 rfl
theorem tell_newQ (n : Nat) : (Qu.new n).tell = Dq.new n := by
 unfold Qu.new Qu.tell Dq.new
 simp [tell_new]
theorem newA_none (w : World) : NewA none w := ⟨fun a h => by cases h⟩
theorem subNew1 {m : Nat} {w w' : World} (h : w.heap.size ≤ m) (hw : w'.heap.size ≤ w.heap.size) : SubF (OneB m) NoB w' := ⟨fun k hk e => by have e' : k = m := e; omega⟩
def outD (l : List LAn) (k : Nat) : List Cmd := ((l.take k).map (·.x)).foldl (fun out x => if (out.length : Int) < x.commit then x.log.take x.commit.toNat else out) []
theorem outD_snoc {l : List LAn} {k : Nat} (h : k < l.length) : outD l (k + 1) = if ((outD l k).length : Int) < l[k].x.commit then l[k].x.log.take l[k].x.commit.toNat else outD l k := by
 unfold outD
 rw [take_snoc l k h, List.map_append, List.map_cons, List.map_nil, List.foldl_append]; rfl
theorem outD_all (R : LDq) : outD R.ns R.ns.length = R.pure.committed := by unfold outD Dq.committed LDq.pure; rw [List.take_length]

theorem committedD_ok (P : Nat → Prop) (R : LDq) (w : World) (h : RefAt w P R) (hn5 : R.ns.length ≤ 5) (hc : ∀ z ∈ R.ns, 0 ≤ z.x.commit ∧ z.x.commit ≤ z.x.log.length ∧ z.x.log.length ≤ 256) : Ret Tryz.prog 45 #[.agg (dqC R).toArray] w (fun v w' => (∃ A' c', v = .slice A' R.pure.committed.length c' ∧ FRow w' (InP P w') A' (cmdsC R.pure.committed) ∧ R.pure.committed.length ≤ 256) ∧ Lk w' w NoB) := by
 haveI hrb : Row w R.NA (R.ns.flatMap anC) := ⟨h.nodes.row⟩
 haveI holdN : OldA w R.NA := ⟨fun a ha => (h.nodes.blk a ha).2⟩
 refine ret_of_x (N := 35) (l := [.agg (dqC R).toArray]) Tryz.func45 rfl rfl (Nat.le_of_ble_eq_true rfl) ?_
 refine x_seq ?_
 refine x_regionL ?_
 refine xl_e (e_box fun b1 w1 n1 l1 k1 => ?_)
 refine xl_v v_assign ?_
 refine xl_nil ?_
 refine x_seq ?_
 refine x_regionL ?_
 refine xl_v v_assign ?_
 refine xl_nil ?_
 refine x_seq ?_
 refine x_seq ?_
 refine x_regionL ?_
 refine xl_v v_assign ?_
 refine xl_nil ?_
 refine x_block ?_
 have hbx : (w1).heap[b1]? = _ := Blk.eq
 obtain ⟨wL, hwL⟩ : ∃ x, x = w1 := ⟨_, rfl⟩
 have hwwL : Keep NoB w wL := by rw [hwL]; exact kpc
 haveI lkLw : Lk wL w NoB := ⟨hwwL⟩
 rw [← hwL] at hbx
 haveI : Blk wL b1 _ := ⟨hbx⟩
 refine x_loop (fun m τ ds w' => ds = [] ∧ ∃ (k : Nat) (B : Option Addr) (bc : Nat), m = R.ns.length - k ∧ k ≤ R.ns.length ∧ FRow w' (InP P w') B (cmdsC (outD R.ns k)) ∧ (outD R.ns k).length ≤ 256 ∧ Ev τ 1 (.pointer (some ⟨b1, 0, none⟩)) ∧ Ev τ 3 (.slice B (outD R.ns k).length bc) ∧ Ev τ 4 (.int .i64 (k : Int)) ∧ Lk w' wL NoB) (R.ns.length) ?start ?round
 case start =>
  exact ⟨rfl, 0, none, 0, rfl, Nat.zero_le _, FRow.nil _ _, Nat.zero_le _, inferInstance, evc, evc, by rw [hwL]; exact lkc⟩
 case round =>
  intro m τ2 ds2 w2 hI
  obtain ⟨rfl, k, B, bc, rfl, hk, hrB, hlB, e1, e3, e4, lk⟩ := hI
  refine x_seq ?_
  refine x_seq ?_
  refine x_regionL ?_
  refine xl_v v_move ?_
  refine xl_Fb ?_
  refine xl_Lc ?_
  refine xl_v v_len ?_
  refine xl_v v_lss ?_
  refine xl_nil ?_
  first | refine x_condP (fun c1 => ?_) (fun c1 => ?_) | refine x_condN (fun c1 => ?_) (fun c1 => ?_) | refine x_condE (fun c1 => ?_) (fun c1 => ?_)
  ·
   have hk1 : k < R.ns.length := by omega
   have hmem : R.ns[k] ∈ R.ns := List.getElem_mem hk1
   obtain ⟨hc0, hc1, hll⟩ := hc _ hmem
   have hlc := (h.rows _ hmem).lc
   obtain ⟨cn, hcn0⟩ : ∃ cn : Nat, R.ns[k].x.commit = (cn : Int) := ⟨R.ns[k].x.commit.toNat, by omega⟩
   have hcn : R.ns[k].x.commit.toNat = cn := by omega
   have hcl : cn ≤ R.ns[k].x.log.length := by omega
   refine x_skip ?_
   refine x_seq ?_
   refine x_block ?_
   refine x_seq ?_
   refine x_regionL ?_
   refine xl_Fb ?_
   refine xl_Lc ?_
   refine xl_v v_move ?_
   refine xl_v (v_indexF k (by decide) rfl (by omega) hk1) ?_
   refine xl_Fb ?_
   refine xl_v (v_loadFf (k := k) hk1) ?_
   refine xl_v v_move ?_
   refine xl_v v_len ?_
   refine xl_v v_gtr ?_
   refine xl_nil ?_
   first | refine x_condP (fun c2 => ?_) (fun c2 => ?_) | refine x_condN (fun c2 => ?_) (fun c2 => ?_) | refine x_condE (fun c2 => ?_) (fun c2 => ?_)
   ·
    refine x_drawL (NoB) (allS) (.take 0 (.take 1 (.take 2 (.take 3 (.take 4 (.take 5 (.take 6 (.take 7 (.take 8 (.take 9 (.take 10 (.take 11 (.take 12 (.take 13 .done)))))))))))))) mixed (by kernel_rfl) (fun _ _ _ _ _ h => h) (fun w3 l3 => ?_)
    refine xt_Fb rfl ?_
    refine xt_Lc rfl ?_
    refine xt_v rfl v_move ?_
    refine xt_v rfl (v_indexF k (by decide) rfl (by omega) hk1) ?_
    refine xt_Fb rfl ?_
    refine xt_v rfl (v_loadFf (k := k) hk1) ?_
    refine xt_Fb rfl ?_
    refine xt_Lc rfl ?_
    refine xt_v rfl v_move ?_
    refine xt_v rfl (v_indexF k (by decide) rfl (by omega) hk1) ?_
    refine xt_Fb rfl ?_
    refine xt_v rfl (v_loadFf (k := k) hk1) ?_
    refine xt_v rfl (v_sliceH cn hcn0 (by omega)) ?_
    refine xt_v rfl v_assign ?_
    refine xt_nil ?_
    refine x_regionL ?_
    refine xl_v v_move ?_
    refine xl_v (v_add (by omega)) ?_
    refine xl_v v_assign ?_
    refine xl_nil ?_
    first
    | refine ⟨_, ?_, rfl, k + 1, R.ns[k].LA, R.ns[k].lc, rfl, by omega, ?_, ?_, inferInstance, ?_, evc, lkc⟩
      ·omega
      ·rw [outD_snoc hk1, if_pos c2, hcn]
       exact (frow_ext ((h.rows R.ns[k] hmem).log) (kpc : Keep NoB w w3)).take cn
      ·rw [outD_snoc hk1, if_pos c2, List.length_take]; omega
      ·refine evc ?_
       rw [outD_snoc hk1, if_pos c2, hcn]
       show Value.slice _ cn _ = Value.slice _ (List.take cn R.ns[k].x.log).length _
       rw [List.length_take, Nat.min_eq_left (by omega)]
    | refine ⟨_, ?_, rfl, k + 1, B, bc, rfl, by omega, ?_, ?_, inferInstance, ?_, evc, lkc⟩
      ·omega
      ·rw [outD_snoc hk1, if_neg c2]
       exact frow_ext hrB (kpc : Keep NoB w2 w3)
      ·rw [outD_snoc hk1, if_neg c2]; exact hlB
      ·rw [outD_snoc hk1, if_neg c2]; infer_instance
   ·
    refine x_skip ?_
    refine x_regionL ?_
    refine xl_v v_move ?_
    refine xl_v (v_add (by omega)) ?_
    refine xl_v v_assign ?_
    refine xl_nil ?_
    first
    | refine ⟨_, ?_, rfl, k + 1, R.ns[k].LA, R.ns[k].lc, rfl, by omega, ?_, ?_, inferInstance, ?_, evc, lkc⟩
      ·omega
      ·rw [outD_snoc hk1, if_pos c2, hcn]
       exact (frow_ext ((h.rows R.ns[k] hmem).log) (kpc : Keep NoB w w2)).take cn
      ·rw [outD_snoc hk1, if_pos c2, List.length_take]; omega
      ·refine evc ?_
       rw [outD_snoc hk1, if_pos c2, hcn]
       show Value.slice _ cn _ = Value.slice _ (List.take cn R.ns[k].x.log).length _
       rw [List.length_take, Nat.min_eq_left (by omega)]
    | refine ⟨_, ?_, rfl, k + 1, B, bc, rfl, by omega, ?_, ?_, inferInstance, ?_, evc, lkc⟩
      ·omega
      ·rw [outD_snoc hk1, if_neg c2]
       exact frow_ext hrB (kpc : Keep NoB w2 w2)
      ·rw [outD_snoc hk1, if_neg c2]; exact hlB
      ·rw [outD_snoc hk1, if_neg c2]; infer_instance
  ·
   refine x_exit ?_
   refine x_seq ?_
   have hkn : k = R.ns.length := by omega
   have hout : outD R.ns k = R.pure.committed := by rw [hkn, outD_all]
   rw [hout] at hrB hlB e3
   refine x_regionL ?_
   refine xl_v v_move ?_
   refine xl_v v_assign ?_
   refine xl_nil ?_
   refine x_ret ?_
   refine fin1 rfl ?_
   exact ⟨⟨B, bc, rfl, frow_ext hrB (kpc : Keep NoB _ _), hlB⟩, lkc⟩

theorem newD_ok (n0 : Int) (w : World) : Ret Tryz.prog 19 #[.int .i64 n0] w (fun v w' => ((n0 = 1 ∨ n0 = 3 ∨ n0 = 5) ∧ (∃ R, v = .tuple #[.agg (dqC R).toArray, .int .i64 0] ∧ R.pure = Dq.new n0.toNat ∧ RefAt w' (fun k => w.heap.size ≤ k) R) ∨ ¬ (n0 = 1 ∨ n0 = 3 ∨ n0 = 5) ∧ v = .tuple #[.agg (dqC ⟨[], none, 0, [], none, 0⟩).toArray, .int .i64 2]) ∧ Lk w' w NoB) := by
 refine ret_of_x (N := 30) (l := [.int .i64 n0]) Tryz.func19 rfl rfl (Nat.le_of_ble_eq_true rfl) ?_
 refine x_seq ?_
 refine x_regionL ?_
 refine xl_e (e_alloc fun b2 w1 n2 l2 k2 => ?_)
 refine xl_v v_assign ?_
 refine xl_nil ?_
 refine x_seq ?_
 refine x_seq ?_
 refine x_regionL ?_
 refine xl_v v_move ?_
 refine xl_v v_neq ?_
 refine xl_v v_move ?_
 refine xl_split 8 (fun g8 => ?_) (fun g8 => ?_)
 ·
  refine xl_gv rfl EvO.eq v_move ?_
  refine xl_gv rfl EvO.eq v_neq ?_
  refine xl_Pk ?_
  refine xl_v v_move ?_
  refine xl_split 12 (fun g12 => ?_) (fun g12 => ?_)
  ·
   refine xl_gv rfl EvO.eq v_move ?_
   refine xl_gv rfl EvO.eq v_neq ?_
   refine xl_Pk ?_
   refine xl_nil ?_
   refine x_condE (fun c1 => ?_) (fun c1 => ?_)
   ·
    refine x_seq ?_
    refine x_regionL ?_
    refine xl_v v_build ?_
    refine xl_s (e_storeA fun w2 l2 k2 => ?_)
    refine xl_v v_assign ?_
    refine xl_nil ?_
    refine x_ret ?_
    refine finR (rs := [.cell 2 32, .tmp 3]) rfl ?_
    refine ⟨.inr ⟨?_, by simp [outV, dqC]⟩, lkc⟩
    first
     | (simp at g8 g12 c1; omega)
     | (simp at g8 c1; omega)
   ·
    refine x_skip ?_
    refine x_seq ?_
    have hn : n0 = 1 ∨ n0 = 3 ∨ n0 = 5 := by
     first
      | (simp at g8 g12 c1; omega)
      | (simp at g8 g12; omega)
      | (simp at g8; omega)
    obtain ⟨n, rfl⟩ : ∃ n : Nat, n0 = (n : Int) := ⟨n0.toNat, by omega⟩
    refine x_regionL ?_
    refine xl_v v_build ?_
    refine xl_e (e_alloc fun b4 w3 n4 l4 k4 => ?_)
    refine xl_s (e_storeA fun w4 l4 k4 => ?_)
    refine xl_nil ?_
    refine x_seq ?_
    refine x_seq ?_
    refine x_regionL ?_
    refine xl_v v_assign ?_
    refine xl_nil ?_
    refine x_block ?_
    have hb4l : (w4).heap[b4]? = _ := Blk.eq
    have hb2l : (w4).heap[b2]? = _ := Blk.eq
    have hb4w : w.heap.size ≤ b4 := by rw [n4.eq]; exact Ge.le
    have hne : b2 ≠ b4 := NeB.ne
    haveI nb24 : NeB b2 b4 := ⟨hne⟩
    obtain ⟨wL, hwL⟩ : ∃ x, x = w4 := ⟨_, rfl⟩
    have hwwL : Keep NoB w wL := by rw [hwL]; exact kpc
    haveI lkLw : Lk wL w NoB := ⟨hwwL⟩
    rw [← hwL] at hb4l hb2l
    haveI : Blk wL b4 _ := ⟨hb4l⟩
    haveI : Blk wL b2 _ := ⟨hb2l⟩
    haveI sb4 : SubF (OneB b4) NoB w := subNew1 hb4w (Nat.le_refl _)
    refine x_loop (fun m τ ds w' => ds = [] ∧ ∃ (k : Nat) (A : Option Addr) (c : Nat), m = n - k ∧ k ≤ n ∧ OwnI w' A k c wL.heap.size 41 8 k ((List.replicate k newA0).flatMap anC) ∧ NewA A wL ∧ w'.heap[b4]? = some (.cells [.slice A k c, .slice none 0 0].toArray 32 (0, 0)) ∧ Ev τ 0 (.int .i64 (n : Int)) ∧ Ev τ 2 (.pointer (some ⟨b2, 0, none⟩)) ∧ Ev τ 4 (.pointer (some ⟨b4, 0, none⟩)) ∧ Ev τ 5 (.int .i64 (k : Int)) ∧ Lk w' wL (OneB b4)) (n) ?start ?round
    case start =>
     exact ⟨rfl, 0, none, 0, rfl, Nat.zero_le _, ⟨World.ownsRow_nil _ _ _ _⟩, newA_none _, by rw [← hwL]; exact hb4l, inferInstance, inferInstance, inferInstance, evc, by rw [hwL]; exact lkc⟩
    case round =>
     intro m τ5 ds5 w5 hI
     obtain ⟨rfl, k, A, c, rfl, hk, oA, nA, hb4k, e0, e2, e4, e5, lk⟩ := hI
     haveI kb4 : Blk w5 b4 _ := ⟨hb4k⟩
     refine x_seq ?_
     refine x_seq ?_
     refine x_regionL ?_
     refine xl_v v_move ?_
     refine xl_v v_move ?_
     refine xl_v v_lss ?_
     refine xl_nil ?_
     first | refine x_condP (fun c2 => ?_) (fun c2 => ?_) | refine x_condN (fun c2 => ?_) (fun c2 => ?_) | refine x_condE (fun c2 => ?_) (fun c2 => ?_)
     ·
      refine x_skip ?_
      refine x_seq ?_
      refine x_block ?_
      refine x_regionL ?_
      refine xl_Fb ?_
      refine xl_Lc ?_
      refine xl_v v_build ?_
      refine xl_e (e_buildSlice1 rfl fun b8 w6 n8 l8 k8 => ?_)
      refine xl_e (e_app (by simp [flat_len (enc := anC) (sz := 8) (fun _ => rfl)]) (by decide) (by omega) (by omega) (by first | exact Ge.le | omega) fun Aa ca w7 oa la aa fa => ?_)
      refine xl_Fb ?_
      refine xl_s (e_store fun w8 l8 k8 => ?_)
      refine xl_nil ?_
      refine x_regionL ?_
      refine xl_v v_move ?_
      refine xl_v (v_add (by omega)) ?_
      refine xl_v v_assign ?_
      refine xl_nil ?_
      refine ⟨_, ?_, rfl, k + 1, Aa, ca, rfl, by omega, ⟨by rw [List.replicate_succ', List.flatMap_append]; exact (OwnI.own : World.ownsRow w8 _ _ _ (.slice Aa _ ca) _ _)⟩, inferInstance, Blk.eq, inferInstance, inferInstance, inferInstance, evc, lkc⟩
      omega
     ·
      refine x_exit ?_
      refine x_seq ?_
      refine x_regionL ?_
      refine xl_Lb ?_
      refine xl_s (e_storeA fun w9 l9 k9 => ?_)
      refine xl_v v_assign ?_
      refine xl_nil ?_
      refine x_ret ?_
      refine finR (rs := [.cell 2 32, .tmp 3]) rfl ?_
      have hkn : k = n := by omega
      subst hkn
      have ho : World.ownsRow w9 wL.heap.size 41 8 (.slice A k c) k ((List.replicate k newA0).flatMap anC) := OwnI.own
      refine ⟨.inl ⟨hn, ⟨List.replicate k newA0, A, c, [], none, 0⟩, by simp [outV, dqC], by simp [LDq.pure, Dq.new, newA0], ⟨frow_new ho hwwL.size (fun _ h => h), FRow.nil _ _, fun z hz => ?_, fun b hb => absurd hb List.not_mem_nil⟩⟩, lkc⟩
      rw [List.eq_of_mem_replicate hz]
      exact ⟨FRow.nil _ _, FRow.nil _ _, FRow.nil _ _, FRow.nil _ _, Nat.le_refl _⟩
  ·
   refine xl_gs rfl EvO.eq ?_
   refine xl_gs rfl EvO.eq ?_
   refine xl_Pk ?_
   refine xl_nil ?_
   refine x_condF ?_
   refine x_skip ?_
   refine x_seq ?_
   have hn : n0 = 1 ∨ n0 = 3 ∨ n0 = 5 := by
    first
     | (simp at g8 g12 c1; omega)
     | (simp at g8 g12; omega)
     | (simp at g8; omega)
   obtain ⟨n, rfl⟩ : ∃ n : Nat, n0 = (n : Int) := ⟨n0.toNat, by omega⟩
   refine x_regionL ?_
   refine xl_v v_build ?_
   refine xl_e (e_alloc fun b4 w10 n4 l4 k4 => ?_)
   refine xl_s (e_storeA fun w11 l11 k11 => ?_)
   refine xl_nil ?_
   refine x_seq ?_
   refine x_seq ?_
   refine x_regionL ?_
   refine xl_v v_assign ?_
   refine xl_nil ?_
   refine x_block ?_
   have hb4l : (w11).heap[b4]? = _ := Blk.eq
   have hb2l : (w11).heap[b2]? = _ := Blk.eq
   have hb4w : w.heap.size ≤ b4 := by rw [n4.eq]; exact Ge.le
   have hne : b2 ≠ b4 := NeB.ne
   haveI nb24 : NeB b2 b4 := ⟨hne⟩
   obtain ⟨wL, hwL⟩ : ∃ x, x = w11 := ⟨_, rfl⟩
   have hwwL : Keep NoB w wL := by rw [hwL]; exact kpc
   haveI lkLw : Lk wL w NoB := ⟨hwwL⟩
   rw [← hwL] at hb4l hb2l
   haveI : Blk wL b4 _ := ⟨hb4l⟩
   haveI : Blk wL b2 _ := ⟨hb2l⟩
   haveI sb4 : SubF (OneB b4) NoB w := subNew1 hb4w (Nat.le_refl _)
   refine x_loop (fun m τ ds w' => ds = [] ∧ ∃ (k : Nat) (A : Option Addr) (c : Nat), m = n - k ∧ k ≤ n ∧ OwnI w' A k c wL.heap.size 41 8 k ((List.replicate k newA0).flatMap anC) ∧ NewA A wL ∧ w'.heap[b4]? = some (.cells [.slice A k c, .slice none 0 0].toArray 32 (0, 0)) ∧ Ev τ 0 (.int .i64 (n : Int)) ∧ Ev τ 2 (.pointer (some ⟨b2, 0, none⟩)) ∧ Ev τ 4 (.pointer (some ⟨b4, 0, none⟩)) ∧ Ev τ 5 (.int .i64 (k : Int)) ∧ Lk w' wL (OneB b4)) (n) ?start ?round
   case start =>
    exact ⟨rfl, 0, none, 0, rfl, Nat.zero_le _, ⟨World.ownsRow_nil _ _ _ _⟩, newA_none _, by rw [← hwL]; exact hb4l, inferInstance, inferInstance, inferInstance, evc, by rw [hwL]; exact lkc⟩
   case round =>
    intro m τ12 ds12 w12 hI
    obtain ⟨rfl, k, A, c, rfl, hk, oA, nA, hb4k, e0, e2, e4, e5, lk⟩ := hI
    haveI kb4 : Blk w12 b4 _ := ⟨hb4k⟩
    refine x_seq ?_
    refine x_seq ?_
    refine x_regionL ?_
    refine xl_v v_move ?_
    refine xl_v v_move ?_
    refine xl_v v_lss ?_
    refine xl_nil ?_
    first | refine x_condP (fun c2 => ?_) (fun c2 => ?_) | refine x_condN (fun c2 => ?_) (fun c2 => ?_) | refine x_condE (fun c2 => ?_) (fun c2 => ?_)
    ·
     refine x_skip ?_
     refine x_seq ?_
     refine x_block ?_
     refine x_regionL ?_
     refine xl_Fb ?_
     refine xl_Lc ?_
     refine xl_v v_build ?_
     refine xl_e (e_buildSlice1 rfl fun b8 w13 n8 l8 k8 => ?_)
     refine xl_e (e_app (by simp [flat_len (enc := anC) (sz := 8) (fun _ => rfl)]) (by decide) (by omega) (by omega) (by first | exact Ge.le | omega) fun Aa ca w14 oa la aa fa => ?_)
     refine xl_Fb ?_
     refine xl_s (e_store fun w15 l15 k15 => ?_)
     refine xl_nil ?_
     refine x_regionL ?_
     refine xl_v v_move ?_
     refine xl_v (v_add (by omega)) ?_
     refine xl_v v_assign ?_
     refine xl_nil ?_
     refine ⟨_, ?_, rfl, k + 1, Aa, ca, rfl, by omega, ⟨by rw [List.replicate_succ', List.flatMap_append]; exact (OwnI.own : World.ownsRow w15 _ _ _ (.slice Aa _ ca) _ _)⟩, inferInstance, Blk.eq, inferInstance, inferInstance, inferInstance, evc, lkc⟩
     omega
    ·
     refine x_exit ?_
     refine x_seq ?_
     refine x_regionL ?_
     refine xl_Lb ?_
     refine xl_s (e_storeA fun w16 l16 k16 => ?_)
     refine xl_v v_assign ?_
     refine xl_nil ?_
     refine x_ret ?_
     refine finR (rs := [.cell 2 32, .tmp 3]) rfl ?_
     have hkn : k = n := by omega
     subst hkn
     have ho : World.ownsRow w16 wL.heap.size 41 8 (.slice A k c) k ((List.replicate k newA0).flatMap anC) := OwnI.own
     refine ⟨.inl ⟨hn, ⟨List.replicate k newA0, A, c, [], none, 0⟩, by simp [outV, dqC], by simp [LDq.pure, Dq.new, newA0], ⟨frow_new ho hwwL.size (fun _ h => h), FRow.nil _ _, fun z hz => ?_, fun b hb => absurd hb List.not_mem_nil⟩⟩, lkc⟩
     rw [List.eq_of_mem_replicate hz]
     exact ⟨FRow.nil _ _, FRow.nil _ _, FRow.nil _ _, FRow.nil _ _, Nat.le_refl _⟩
 ·
  refine xl_gs rfl EvO.eq ?_
  refine xl_gs rfl EvO.eq ?_
  refine xl_Pk ?_
  refine xl_v v_move ?_
  refine xl_gs rfl EvO.eq ?_
  refine xl_gs rfl EvO.eq ?_
  refine xl_Pk ?_
  refine xl_nil ?_
  refine x_condF ?_
  refine x_skip ?_
  refine x_seq ?_
  have hn : n0 = 1 ∨ n0 = 3 ∨ n0 = 5 := by
   first
    | (simp at g8 g12 c1; omega)
    | (simp at g8 g12; omega)
    | (simp at g8; omega)
  obtain ⟨n, rfl⟩ : ∃ n : Nat, n0 = (n : Int) := ⟨n0.toNat, by omega⟩
  refine x_regionL ?_
  refine xl_v v_build ?_
  refine xl_e (e_alloc fun b4 w17 n4 l4 k4 => ?_)
  refine xl_s (e_storeA fun w18 l18 k18 => ?_)
  refine xl_nil ?_
  refine x_seq ?_
  refine x_seq ?_
  refine x_regionL ?_
  refine xl_v v_assign ?_
  refine xl_nil ?_
  refine x_block ?_
  have hb4l : (w18).heap[b4]? = _ := Blk.eq
  have hb2l : (w18).heap[b2]? = _ := Blk.eq
  have hb4w : w.heap.size ≤ b4 := by rw [n4.eq]; exact Ge.le
  have hne : b2 ≠ b4 := NeB.ne
  haveI nb24 : NeB b2 b4 := ⟨hne⟩
  obtain ⟨wL, hwL⟩ : ∃ x, x = w18 := ⟨_, rfl⟩
  have hwwL : Keep NoB w wL := by rw [hwL]; exact kpc
  haveI lkLw : Lk wL w NoB := ⟨hwwL⟩
  rw [← hwL] at hb4l hb2l
  haveI : Blk wL b4 _ := ⟨hb4l⟩
  haveI : Blk wL b2 _ := ⟨hb2l⟩
  haveI sb4 : SubF (OneB b4) NoB w := subNew1 hb4w (Nat.le_refl _)
  refine x_loop (fun m τ ds w' => ds = [] ∧ ∃ (k : Nat) (A : Option Addr) (c : Nat), m = n - k ∧ k ≤ n ∧ OwnI w' A k c wL.heap.size 41 8 k ((List.replicate k newA0).flatMap anC) ∧ NewA A wL ∧ w'.heap[b4]? = some (.cells [.slice A k c, .slice none 0 0].toArray 32 (0, 0)) ∧ Ev τ 0 (.int .i64 (n : Int)) ∧ Ev τ 2 (.pointer (some ⟨b2, 0, none⟩)) ∧ Ev τ 4 (.pointer (some ⟨b4, 0, none⟩)) ∧ Ev τ 5 (.int .i64 (k : Int)) ∧ Lk w' wL (OneB b4)) (n) ?start ?round
  case start =>
   exact ⟨rfl, 0, none, 0, rfl, Nat.zero_le _, ⟨World.ownsRow_nil _ _ _ _⟩, newA_none _, by rw [← hwL]; exact hb4l, inferInstance, inferInstance, inferInstance, evc, by rw [hwL]; exact lkc⟩
  case round =>
   intro m τ19 ds19 w19 hI
   obtain ⟨rfl, k, A, c, rfl, hk, oA, nA, hb4k, e0, e2, e4, e5, lk⟩ := hI
   haveI kb4 : Blk w19 b4 _ := ⟨hb4k⟩
   refine x_seq ?_
   refine x_seq ?_
   refine x_regionL ?_
   refine xl_v v_move ?_
   refine xl_v v_move ?_
   refine xl_v v_lss ?_
   refine xl_nil ?_
   first | refine x_condP (fun c2 => ?_) (fun c2 => ?_) | refine x_condN (fun c2 => ?_) (fun c2 => ?_) | refine x_condE (fun c2 => ?_) (fun c2 => ?_)
   ·
    refine x_skip ?_
    refine x_seq ?_
    refine x_block ?_
    refine x_regionL ?_
    refine xl_Fb ?_
    refine xl_Lc ?_
    refine xl_v v_build ?_
    refine xl_e (e_buildSlice1 rfl fun b8 w20 n8 l8 k8 => ?_)
    refine xl_e (e_app (by simp [flat_len (enc := anC) (sz := 8) (fun _ => rfl)]) (by decide) (by omega) (by omega) (by first | exact Ge.le | omega) fun Aa ca w21 oa la aa fa => ?_)
    refine xl_Fb ?_
    refine xl_s (e_store fun w22 l22 k22 => ?_)
    refine xl_nil ?_
    refine x_regionL ?_
    refine xl_v v_move ?_
    refine xl_v (v_add (by omega)) ?_
    refine xl_v v_assign ?_
    refine xl_nil ?_
    refine ⟨_, ?_, rfl, k + 1, Aa, ca, rfl, by omega, ⟨by rw [List.replicate_succ', List.flatMap_append]; exact (OwnI.own : World.ownsRow w22 _ _ _ (.slice Aa _ ca) _ _)⟩, inferInstance, Blk.eq, inferInstance, inferInstance, inferInstance, evc, lkc⟩
    omega
   ·
    refine x_exit ?_
    refine x_seq ?_
    refine x_regionL ?_
    refine xl_Lb ?_
    refine xl_s (e_storeA fun w23 l23 k23 => ?_)
    refine xl_v v_assign ?_
    refine xl_nil ?_
    refine x_ret ?_
    refine finR (rs := [.cell 2 32, .tmp 3]) rfl ?_
    have hkn : k = n := by omega
    subst hkn
    have ho : World.ownsRow w23 wL.heap.size 41 8 (.slice A k c) k ((List.replicate k newA0).flatMap anC) := OwnI.own
    refine ⟨.inl ⟨hn, ⟨List.replicate k newA0, A, c, [], none, 0⟩, by simp [outV, dqC], by simp [LDq.pure, Dq.new, newA0], ⟨frow_new ho hwwL.size (fun _ h => h), FRow.nil _ _, fun z hz => ?_, fun b hb => absurd hb List.not_mem_nil⟩⟩, lkc⟩
    rw [List.eq_of_mem_replicate hz]
    exact ⟨FRow.nil _ _, FRow.nil _ _, FRow.nil _ _, FRow.nil _ _, Nat.le_refl _⟩
end Go.Proofs.YtljdkelgapndgaaGreat
