/-
 Walks, printed by a program of this workplace (wip/tools/sx.py) off the functions' code and a text of contracts.
-/
import Derived.Test.YtljdkelgapndgaaGreatJ5
set_option linter.all false
set_option maxRecDepth 100000
set_option synthInstance.maxSize 100000
set_option synthInstance.maxHeartbeats 400000
namespace Go.Proofs.YtljdkelgapndgaaGreat
open Go.Wst
open Go.Wst.Qm
theorem getD_set_self {l : List Int} {k : Nat} {a : Int} (h : k < l.length) : (l.set k a).getD k 0 = a := by
 rw [List.getD_eq_getElem?_getD, List.getElem?_set_self h]; rfl
theorem matched_ok {x : Nd} {m : Bl} {fn : Nat} (hf : m.frm = (fn : Int)) (hok : m.ok = true) (hl : fn < x.mat.length) : x.matched m = { x with mat := x.mat.set fn (max (x.mat.getD fn 0) m.mat), next := x.next.set fn (max (x.next.getD fn 0) ((x.mat.set fn (max (x.mat.getD fn 0) m.mat)).getD fn 0)) } := by
 unfold Nd.matched
 rw [if_pos hok, getD_set_self hl, hf]
 rfl
theorem matched_no {x : Nd} {m : Bl} {fn : Nat} (hf : m.frm = (fn : Int)) (hok : ¬ m.ok = true) : x.matched m = { x with next := x.next.set fn (max (x.mat.getD fn 0) (min (x.next.getD fn 0) m.mat)) } := by
 unfold Nd.matched
 rw [if_neg hok, hf]
 rfl
theorem matched_log (x : Nd) (m : Bl) : (x.matched m).log = x.log ∧ (x.matched m).commit = x.commit ∧ (x.matched m).mat.length = x.mat.length := by
 unfold Nd.matched
 split <;> simp [setI]
theorem matched_mb {x : Nd} {m : Bl} (h : ∀ a ∈ x.mat, a ≤ x.log.length) (hl : m.frm.toNat < x.mat.length) (hm : m.ok = true → m.mat ≤ x.log.length) : ∀ a ∈ (x.matched m).mat, a ≤ x.log.length := by
 unfold Nd.matched
 split
 ·next hok =>
  intro a ha
  rcases List.mem_or_eq_of_mem_set ha with e | e
  ·exact h a e
  ·have h1 := h (getI x.mat m.frm) (getI_mem hl)
   have h2 := hm hok
   omega
 ·exact h

theorem matchedQ_ok (q : Nat) (D : LQu) (F : Nat → Prop) (i : Nat) (y : LNd) (m : LBl) (w : World) (h : QuAt w F q D) (hy : D.ns[i]? = some y) (hm : MsgAt w F D i m) (hn5 : D.ns.length ≤ 5) (hodd : D.ns.length % 2 = 1) (hnl : y.x.next.length = 5) (hml : y.x.mat.length = 5) (hll : y.x.log.length ≤ 256) (hc0 : 0 ≤ y.x.commit) (hmb : ∀ a ∈ y.x.mat, a ≤ y.x.log.length) (hmm : m.m.ok = true → y.x.role = 3 → m.m.term = y.x.term → m.m.mat ≤ y.x.log.length) : Ret Tryz.prog 77 #[.pointer (some ⟨q, 0, none⟩), padd D.NA (i * 20), .agg (blC m).toArray] w (fun v w' => v = .tuple #[] ∧ QMade q F D w (D.pure.matched m.m y.x) w' ∧ Lk w' w (QuB q D)) := by
 haveI hb : Blk w q _ := ⟨h.hb⟩
 have hi : i < D.ns.length := (List.getElem?_eq_some_iff.1 hy).1
 haveI li : LtI i D.ns.length := ⟨hi⟩
 have hA := h.n1
 have hym : y ∈ D.ns := List.mem_of_getElem? hy
 haveI hN : OwnI w D.NA D.ns.length D.nc 0 69 20 D.ns.length ((D.ns.set i y).flatMap ndC) := ⟨by rw [set_self hy]; exact h.nodes⟩
 haveI hrl : Row w y.A (cmdsC y.x.log) := ⟨(h.logs y hym).row⟩
 haveI hro : ∀ n c, RowOut (OwnB (.slice D.NA n c)) y.A := fun n c => (h.logs y hym).out (fun k e e2 => h.fq k e (.inr (.inl (ownB_blk.1 e2))))
 haveI hqn := h.qn
 have hil : i < (D.ns.set i y).length := by simpa using hi
 refine ret_of_x (N := 88) (l := [.pointer (some ⟨q, 0, none⟩), padd D.NA (i * 20), .agg (blC m).toArray]) Tryz.func77 rfl rfl (Nat.le_of_ble_eq_true rfl) ?_
 refine x_seq ?_
 refine x_regionL ?_
 refine xl_e (e_box fun b1 w1 n1 l1 k1 => ?_)
 refine xl_nil ?_
 refine x_seq ?_
 refine x_seq ?_
 refine x_drawL (NoB) (allS) (.take 0 (.take 1 (.take 2 (.take 3 (.take 4 (.take 5 (.take 6 (.take 7 (.take 8 (.take 9 (.take 10 (.take 11 (.take 12 (.take 13 (.take 14 .done))))))))))))))) mixed (by kernel_rfl) (fun _ _ _ _ _ h => h) (fun w2 l2 => ?_)
 refine xt_v rfl v_move ?_
 refine xt_Nc rfl ?_
 refine xt_Fb rfl ?_
 refine xt_Lc rfl ?_
 refine xt_v rfl v_neq ?_
 refine xt_v rfl v_move ?_
 refine xt_split 11 (fun g11 => ?_) (fun g11 => ?_)
 ·
  refine xt_gs rfl rfl EvO.eq ?_
  refine xt_gs rfl rfl EvO.eq ?_
  refine xt_gs rfl rfl EvO.eq ?_
  refine xt_gs rfl rfl EvO.eq ?_
  refine xt_gs rfl rfl EvO.eq ?_
  refine xt_gs rfl rfl EvO.eq ?_
  refine xt_gs rfl rfl EvO.eq ?_
  refine xt_gs rfl rfl EvO.eq ?_
  refine xt_Pk rfl ?_
  refine xt_nil ?_
  refine x_condT ?_
  refine x_ret ?_
  refine fin0r rfl ?_
  refine ⟨rfl, QMade.stay h kpc (if_pos ?_), lkc⟩
  first
   | exact .inl (by simpa using g11)
   | exact .inr (by simpa using c1)
 ·
  refine xt_gFb rfl rfl EvO.eq ?_
  refine xt_gLc rfl rfl EvO.eq ?_
  refine xt_gv rfl rfl EvO.eq v_move ?_
  refine xt_gNc rfl rfl EvO.eq ?_
  refine xt_gFb rfl rfl EvO.eq ?_
  refine xt_gFb rfl rfl EvO.eq ?_
  refine xt_gLc rfl rfl EvO.eq ?_
  refine xt_gv rfl rfl EvO.eq v_neq ?_
  refine xt_Pk rfl ?_
  refine xt_nil ?_
  refine x_condE (fun c1 => ?_) (fun c1 => ?_)
  ·
   refine x_ret ?_
   refine fin0r rfl ?_
   refine ⟨rfl, QMade.stay h kpc (if_pos ?_), lkc⟩
   first
    | exact .inl (by simpa using g11)
    | exact .inr (by simpa using c1)
  ·
   have hr3 : y.x.role = 3 := by
    first
     | (exfalso; simp at c1; done)
     | simpa using g11
   have hmt : m.m.term = y.x.term := by simpa using c1
   have hyes : ¬ (y.x.role ≠ 3 ∨ m.m.term ≠ y.x.term) := by rintro (e | e); exact e hr3; exact e hmt
   obtain ⟨fn, hfn, hfl⟩ := hm.nat
   refine x_skip ?_
   refine x_seq ?_
   refine x_seq ?_
   refine x_regionL ?_
   refine xl_Fb ?_
   refine xl_Lc ?_
   refine xl_nil ?_
   refine x_condE (fun c2 => ?_) (fun c2 => ?_)
   ·
    refine x_seq ?_
    refine x_drawL (NoB) (allS) (.take 0 (.take 1 (.take 2 (.take 3 (.take 4 (.take 5 (.take 6 (.take 7 (.take 8 (.take 9 (.take 10 (.take 11 (.take 12 (.take 13 (.take 14 (.take 15 (.free 16 .done))))))))))))))))) mixed (by kernel_rfl) (fun _ _ _ _ _ h => h) (fun w3 l3 => ?_)
    refine xt_v rfl v_move ?_
    refine xt_Fb rfl ?_
    refine xt_Lc rfl ?_
    refine xt_v rfl v_move ?_
    refine xt_Fb rfl ?_
    refine xt_Lc rfl ?_
    refine xt_Nc rfl ?_
    refine xt_Fb rfl ?_
    refine xt_v rfl (v_indexAA hfn (by omega) (by decide) hA) ?_
    refine xt_v rfl (v_loadCD (i * 20) (15 + fn) (by omega) (matC_get (y := y) (by omega))) ?_
    refine xt_Fb rfl ?_
    refine xt_Lc rfl ?_
    refine xt_v rfl v_max ?_
    refine xt_Nc rfl ?_
    refine xt_Fb rfl ?_
    refine xt_v rfl (v_indexAA hfn (by omega) (by decide) hA) ?_
    refine xt_fs rfl (e_storeC i (15 + fn) { y with x := { y.x with mat := y.x.mat.set fn (max (y.x.mat.getD fn 0) m.m.mat) } } (ho := by simp; omega) (hu := setL_mat (k := fn) (by omega) (by exact hml) _) fun w4 l16 o16 => ?_)
    refine xt_nil ?_
    refine x_drawL (NoB) (allS) (.take 0 (.take 1 (.take 2 (.take 3 (.take 4 (.take 5 (.take 6 (.take 7 (.take 8 (.take 9 (.take 10 (.take 11 (.take 12 (.take 13 (.take 14 (.take 15 (.take 16 (.take 17 (.take 18 (.take 19 (.take 20 (.free 21 .done)))))))))))))))))))))) mixed (by kernel_rfl) (fun _ _ _ _ _ h => h) (fun w5 l5 => ?_)
    refine xt_v rfl v_move ?_
    refine xt_Fb rfl ?_
    refine xt_Lc rfl ?_
    refine xt_v rfl v_move ?_
    refine xt_Fb rfl ?_
    refine xt_Lc rfl ?_
    refine xt_Nc rfl ?_
    refine xt_Fb rfl ?_
    refine xt_v rfl (v_indexAA hfn (by omega) (by decide) hA) ?_
    refine xt_v rfl (v_loadCD (i * 20) (10 + fn) (by omega) (nextC_get (by omega))) ?_
    refine xt_v rfl v_move ?_
    refine xt_Fb rfl ?_
    refine xt_Lc rfl ?_
    refine xt_Nc rfl ?_
    refine xt_Fb rfl ?_
    refine xt_v rfl (v_indexAA hfn (by omega) (by decide) hA) ?_
    refine xt_v rfl (v_loadCD (i * 20) (15 + fn) (by omega) (matC_get (by omega))) ?_
    refine xt_v rfl v_max ?_
    refine xt_Nc rfl ?_
    refine xt_Fb rfl ?_
    refine xt_v rfl (v_indexAA hfn (by omega) (by decide) hA) ?_
    refine xt_fs rfl (e_storeC i (10 + fn) { y with x := { y.x with mat := y.x.mat.set fn (max (y.x.mat.getD fn 0) m.m.mat), next := y.x.next.set fn (max (y.x.next.getD fn 0) ((y.x.mat.set fn (max (y.x.mat.getD fn 0) m.m.mat)).getD fn 0)) } } (ho := by simp; omega) (hu := setL_next (k := fn) (by omega) (by exact hnl) _) fun w6 l21 o21 => ?_)
    refine xt_nil ?_
    obtain ⟨z, hz, oz⟩ : ∃ z : LNd, z = { y with x := y.x.matched m.m } ∧ OwnI w6 D.NA D.ns.length D.nc 0 69 20 D.ns.length ((D.ns.set i z).flatMap ndC) := by
     first
      | exact ⟨_, rfl, by rw [matched_ok hfn c2 (by omega)]; exact o21⟩
      | exact ⟨_, rfl, by rw [matched_no hfn (by simp [c2])]; exact o24⟩
    have hlg := matched_log y.x m.m
    have hmb2 := matched_mb hmb (by omega) (fun e => hmm e hr3 hmt)
    have hQ : QuAt w6 F q (D.setN i z) := h.setI kpc oz hym (by rw [hz]) (by rw [hz]; exact hlg.1) (by rw [hz])
    refine x_regionL ?_
    refine xl_v v_move ?_
    refine xl_Fb ?_
    refine xl_v (v_congr (u := .int .i64 (i : Int)) v_load (by rw [hm.to])) ?_
    refine xl_call (commits_ok q (D.setN i z) F i z w6 (hQ.ext kpc) (get_setNL hi) (by rw [len_setNL]; exact hn5) (by rw [len_setNL]; exact hodd) (by rw [hz]; exact hlg.2.2.trans hml) (by rw [hz]; show 0 ≤ (y.x.matched m.m).commit; rw [hlg.2.1]; exact hc0) (by rw [hz]; show ∀ a ∈ (y.x.matched m.m).mat, a ≤ (y.x.matched m.m).log.length; rw [hlg.1]; exact hmb2) (by rw [hz]; show (y.x.matched m.m).log.length ≤ 256; rw [hlg.1]; exact hll)) ?_
    rintro _ w7 ⟨rfl, hQ3, lk3⟩
    rw [setN_setNL, len_setNL] at hQ3
    have lk3' : Lk w7 w6 (OwnB (.slice D.NA (D.setN i z).ns.length D.nc)) := lk3
    refine xl_nil ?_
    refine fin0 rfl ?_
    refine ⟨rfl, QMade.set hQ3 ?_, lkc⟩
    unfold Qu.matched
    rw [if_neg hyes, hm.to, pure_len, hz]
    rfl
   ·
    refine x_drawL (NoB) (allS) (.take 0 (.take 1 (.take 2 (.take 3 (.take 4 (.take 5 (.take 6 (.take 7 (.take 8 (.take 9 (.take 10 (.take 11 (.take 12 (.take 13 (.take 14 (.take 15 (.take 16 (.take 17 (.take 18 (.take 19 (.take 20 (.take 21 (.take 22 (.take 23 (.free 24 .done))))))))))))))))))))))))) mixed (by kernel_rfl) (fun _ _ _ _ _ h => h) (fun w8 l8 => ?_)
    refine xt_v rfl v_move ?_
    refine xt_Fb rfl ?_
    refine xt_Lc rfl ?_
    refine xt_v rfl v_move ?_
    refine xt_Fb rfl ?_
    refine xt_Lc rfl ?_
    refine xt_Nc rfl ?_
    refine xt_Fb rfl ?_
    refine xt_v rfl (v_indexAA hfn (by omega) (by decide) hA) ?_
    refine xt_v rfl (v_loadCD (i * 20) (15 + fn) (by omega) (matC_get (y := y) (by omega))) ?_
    refine xt_v rfl v_move ?_
    refine xt_Fb rfl ?_
    refine xt_Lc rfl ?_
    refine xt_Nc rfl ?_
    refine xt_Fb rfl ?_
    refine xt_v rfl (v_indexAA hfn (by omega) (by decide) hA) ?_
    refine xt_v rfl (v_loadCD (i * 20) (10 + fn) (by omega) (nextC_get (y := y) (by omega))) ?_
    refine xt_Fb rfl ?_
    refine xt_Lc rfl ?_
    refine xt_v rfl v_min ?_
    refine xt_v rfl v_max ?_
    refine xt_Nc rfl ?_
    refine xt_Fb rfl ?_
    refine xt_v rfl (v_indexAA hfn (by omega) (by decide) hA) ?_
    refine xt_fs rfl (e_storeC i (10 + fn) { y with x := { y.x with next := y.x.next.set fn (max (y.x.mat.getD fn 0) (min (y.x.next.getD fn 0) m.m.mat)) } } (ho := by simp; omega) (hu := setL_next (k := fn) (by omega) (by exact hnl) _) fun w9 l24 o24 => ?_)
    refine xt_nil ?_
    obtain ⟨z, hz, oz⟩ : ∃ z : LNd, z = { y with x := y.x.matched m.m } ∧ OwnI w9 D.NA D.ns.length D.nc 0 69 20 D.ns.length ((D.ns.set i z).flatMap ndC) := by
     first
      | exact ⟨_, rfl, by rw [matched_ok hfn c2 (by omega)]; exact o21⟩
      | exact ⟨_, rfl, by rw [matched_no hfn (by simp [c2])]; exact o24⟩
    have hlg := matched_log y.x m.m
    have hmb2 := matched_mb hmb (by omega) (fun e => hmm e hr3 hmt)
    have hQ : QuAt w9 F q (D.setN i z) := h.setI kpc oz hym (by rw [hz]) (by rw [hz]; exact hlg.1) (by rw [hz])
    refine x_regionL ?_
    refine xl_v v_move ?_
    refine xl_Fb ?_
    refine xl_v (v_congr (u := .int .i64 (i : Int)) v_load (by rw [hm.to])) ?_
    refine xl_call (commits_ok q (D.setN i z) F i z w9 (hQ.ext kpc) (get_setNL hi) (by rw [len_setNL]; exact hn5) (by rw [len_setNL]; exact hodd) (by rw [hz]; exact hlg.2.2.trans hml) (by rw [hz]; show 0 ≤ (y.x.matched m.m).commit; rw [hlg.2.1]; exact hc0) (by rw [hz]; show ∀ a ∈ (y.x.matched m.m).mat, a ≤ (y.x.matched m.m).log.length; rw [hlg.1]; exact hmb2) (by rw [hz]; show (y.x.matched m.m).log.length ≤ 256; rw [hlg.1]; exact hll)) ?_
    rintro _ w10 ⟨rfl, hQ3, lk3⟩
    rw [setN_setNL, len_setNL] at hQ3
    have lk3' : Lk w10 w9 (OwnB (.slice D.NA (D.setN i z).ns.length D.nc)) := lk3
    refine xl_nil ?_
    refine fin0 rfl ?_
    refine ⟨rfl, QMade.set hQ3 ?_, lkc⟩
    unfold Qu.matched
    rw [if_neg hyes, hm.to, pure_len, hz]
    rfl
end Go.Proofs.YtljdkelgapndgaaGreat
set_option linter.all false
set_option maxRecDepth 100000
set_option synthInstance.maxSize 100000
set_option synthInstance.maxHeartbeats 400000
namespace Go.Proofs.YtljdkelgapndgaaGreat
open Go.Wst
open Go.Wst.Qm
theorem lay_step {log : List Cmd} {at_ : Nat} {c : Cmd} {l : List Cmd} (h : (log.map (·.term))[at_]? = some c.term) : lay log at_ (c :: l) = lay log (at_ + 1) l := by
 conv => lhs; unfold lay
 rw [if_pos h]
theorem lay_stop {log : List Cmd} {at_ : Nat} {c : Cmd} {l : List Cmd} (h : ¬ (log.map (·.term))[at_]? = some c.term) : lay log at_ (c :: l) = log.take at_ ++ (c :: l) := by
 conv => lhs; unfold lay
 rw [if_neg h]
theorem lay_nil (log : List Cmd) (at_ : Nat) : lay log at_ [] = log := by unfold lay; rfl
theorem drop_cons_at {L : List Cmd} {j : Nat} (h : j < L.length) : L.drop j = L[j] :: L.drop (j + 1) := List.drop_eq_getElem_cons h
theorem rowB_two {w : World} {b : Nat} {u v : Value} {x1 x2 : LC} (h : Blk w b (.cells [u, v].toArray 38 (0, 0))) (h1 : u = lcV x1) (h2 : v = lcV x2) : RowB w (some ⟨b, 0, none⟩) w ([x1, x2].flatMap lcC) := by
 subst h1; subst h2
 exact rowB_of (row_blk h.eq)
theorem lens_two (x1 x2 : LC) : lensC [x1, x2] = x1.l.length + x2.l.length := by simp [lensC]
theorem more_low {q : Qu} {m : Bl} {x : Nd} (h : m.term < x.term) : q.more m x = q.send { Bl.zero with kind := 4, frm := m.to, to := m.frm, term := x.term } := if_pos h
theorem more_no {q : Qu} {m : Bl} {x : Nd} (h : ¬ m.term < x.term) (h2 : (x.voter m.term).log.length < m.prev ∨ ofT ((x.voter m.term).log.take m.prev.toNat) ≠ m.prevT) : q.more m x = (q.setN m.to.toNat (x.voter m.term)).send { Bl.zero with kind := 4, frm := m.to, to := m.frm, term := x.term, mat := min (x.voter m.term).log.length (m.prev - 1) } := by
 unfold Qu.more
 simp only [if_neg h, if_pos h2]
theorem more_yes {q : Qu} {m : Bl} {x : Nd} {pn k : Nat} {log : List Cmd} (h : ¬ m.term < x.term) (h2 : ¬ ((x.voter m.term).log.length < m.prev ∨ ofT ((x.voter m.term).log.take m.prev.toNat) ≠ m.prevT)) (hp : m.prev = (pn : Int)) (hk : (m.cmds.take (256 - m.prev).toNat).length = k) (hl : log = lay (x.voter m.term).log pn (m.cmds.take (256 - m.prev).toNat)) :
    q.more m x = (q.setN m.to.toNat { x.voter m.term with log := log, commit := max (x.voter m.term).commit (min m.commit (pn + k)) }).send { Bl.zero with kind := 4, frm := m.to, to := m.frm, term := x.term, ok := true, mat := pn + k } := by
 unfold Qu.more
 simp only [if_neg h, if_neg h2]
 rw [hk, hl, hp]
 rfl
theorem lay_le (log : List Cmd) (a : Nat) (l : List Cmd) : (lay log a l).length ≤ log.length + l.length := by
 induction l generalizing a with
 | nil => rw [lay_nil]; simp
 | cons c l ih =>
   by_cases e : (log.map (·.term))[a]? = some c.term
   ·rw [lay_step e]; exact Nat.le_trans (ih _) (by simp)
   ·rw [lay_stop e, List.length_append, List.length_take]; omega
theorem pure_self {D : LQu} {i : Nat} {y : LNd} (hy : D.ns[i]? = some y) : D.pure.setN i y.x = D.pure := by
 have h1 : (D.ns.map (·.x)).set i y.x = D.ns.map (·.x) := by rw [← List.map_set, set_self hy]
 simp only [LQu.pure, Qu.setN, h1]
set_option maxHeartbeats 1000000 in
theorem more_ok (q : Nat) (D : LQu) (F : Nat → Prop) (i : Nat) (y : LNd) (m : LBl) (w : World) (h : QuAt w F q D) (hy : D.ns[i]? = some y) (hm : MsgAt w F D i m) (hll : y.x.log.length ≤ 256) (hp0 : 0 ≤ m.m.prev ∧ m.m.prev ≤ 256) : Ret Tryz.prog 76 #[.pointer (some ⟨q, 0, none⟩), padd D.NA (i * 20), .agg (blC m).toArray] w (fun v w' => v = .tuple #[] ∧ QMade q F D w (D.pure.more m.m y.x) w' ∧ Lk w' w (QuB q D)) := by
 haveI hb : Blk w q _ := ⟨h.hb⟩
 have hi : i < D.ns.length := (List.getElem?_eq_some_iff.1 hy).1
 haveI li : LtI i D.ns.length := ⟨hi⟩
 have hA := h.n1
 have hym : y ∈ D.ns := List.mem_of_getElem? hy
 haveI hN : OwnI w D.NA D.ns.length D.nc 0 69 20 D.ns.length ((D.ns.set i y).flatMap ndC) := ⟨by rw [set_self hy]; exact h.nodes⟩
 haveI hrl : Row w y.A (cmdsC y.x.log) := ⟨(h.logs y hym).row⟩
 haveI hro : ∀ n c, RowOut (OwnB (.slice D.NA n c)) y.A := fun n c => (h.logs y hym).out (fun k e e2 => h.fq k e (.inr (.inl (ownB_blk.1 e2))))
 haveI hqn := h.qn
 have hil : i < (D.ns.set i y).length := by simpa using hi
 refine ret_of_x (N := 151) (l := [.pointer (some ⟨q, 0, none⟩), padd D.NA (i * 20), .agg (blC m).toArray]) Tryz.func76 rfl rfl (Nat.le_of_ble_eq_true rfl) ?_
 refine x_seq ?_
 haveI holdA : OldA w y.A := (h.logs y hym).old h.fl
 haveI holdM : OldA w m.A := hm.row.old h.fl
 haveI hrm : Row w m.A (cmdsC m.m.cmds) := ⟨hm.row.row⟩
 haveI hom : ∀ n c, RowOut (OwnB (.slice D.NA n c)) m.A := fun n c => hm.row.out (fun k e e2 => h.fq k e (.inr (.inl (ownB_blk.1 e2))))
 obtain ⟨pn, hpn⟩ : ∃ pn : Nat, m.m.prev = (pn : Int) := ⟨m.m.prev.toNat, by omega⟩
 have hlc := h.lc y hym
 have hti : m.m.to.toNat = i := by rw [hm.to]; rfl
 have hmc := hm.c
 have hmlen := hm.len
 refine x_regionL ?_
 refine xl_e (e_box fun b1 w1 n1 l1 k1 => ?_)
 refine xl_nil ?_
 refine x_seq ?_
 refine x_drawL (NoB) (allS) (.take 0 (.take 1 (.take 2 (.take 3 (.take 4 (.take 5 (.take 6 (.take 7 (.take 8 (.take 9 (.eff 10 (.last 11)))))))))))) mixed (by kernel_rfl) (fun _ _ _ _ _ h => h) (fun w2 l2 => ?_)
 refine xt_Fb rfl ?_
 refine xt_Lc rfl ?_
 refine xt_Fb rfl ?_
 refine xt_Lc rfl ?_
 refine xt_v rfl v_move ?_
 refine xt_Nc rfl ?_
 refine xt_Fb rfl ?_
 refine xt_Fb rfl ?_
 refine xt_Lc rfl ?_
 refine xt_v rfl v_build ?_
 refine xt_e rfl (e_alloc fun b6 w3 n6 l6 k6 => ?_)
 refine xt_lastS rfl (e_storeA fun w4 l11 k11 => ?_)
 refine x_seq ?_
 refine x_block ?_
 refine x_seq ?_
 refine x_drawL (NoB) (allS) (.take 0 (.take 1 (.take 2 (.take 3 (.take 4 (.take 5 (.take 6 (.take 7 (.take 8 .done))))))))) mixed (by kernel_rfl) (fun _ _ _ _ _ h => h) (fun w5 l5 => ?_)
 refine xt_Fb rfl ?_
 refine xt_Lc rfl ?_
 refine xt_v rfl v_move ?_
 refine xt_Nc rfl ?_
 refine xt_Fb rfl ?_
 refine xt_Fb rfl ?_
 refine xt_Lc rfl ?_
 refine xt_v rfl v_lss ?_
 refine xt_v rfl v_assign ?_
 refine xt_nil ?_
 first | refine x_condP (fun c1 => ?_) (fun c1 => ?_) | refine x_condN (fun c1 => ?_) (fun c1 => ?_) | refine x_condE (fun c1 => ?_) (fun c1 => ?_)
 ·
  have hres : ∃ (z : LNd) (re : Bl), D.pure.more m.m y.x = (D.pure.setN i z.x).send re ∧ re.cmds = [] ∧ Blk w5 b6 (.cells (blC ⟨re, none, 0⟩).toArray 75 (0, 0)) ∧ OwnI w5 D.NA D.ns.length D.nc 0 69 20 D.ns.length ((D.ns.set i z).flatMap ndC) ∧ FRow w5 (grown F w w5) z.A (cmdsC z.x.log) ∧ z.x.log.length ≤ z.c := by
   have hkeep : Keep (OwnB (.slice D.NA D.ns.length D.nc)) w w5 := kpc
   have hold : FRow w5 (grown F w w5) y.A (cmdsC y.x.log) := ((h.logs y hym).keep hkeep (fun k e e2 => h.fq k e (.inr (.inl (ownB_blk.1 e2))))).mono (fun k e => .inl e)
   exact ⟨y, { Bl.zero with kind := 4, frm := m.m.to, to := m.m.frm, term := y.x.term }, by rw [pure_self hy]; exact more_low c1, rfl, ⟨Blk.eq⟩, OwnI.mk OwnI.own, hold, hlc⟩
  refine x_skip ?_
  obtain ⟨z, re, hpure, hre0, hb6, oz, hzr, hzc⟩ := hres
  have hQ : QuAt w5 (grown F w w5) q (D.setN i z) := h.setNF (fun _ e => .inl e) (fun _ e => e) (kpc : Keep (OwnB (.slice D.NA D.ns.length D.nc)) w w5) (fun k _ e => ownB_blk.1 e) oz.own hzr hzc
  obtain ⟨F2, hF2⟩ : ∃ F2, F2 = grown F w w5 := ⟨_, rfl⟩
  rw [← hF2] at hQ
  have hsub : Sub F2 F w := by rw [hF2]; exact grown_sub
  refine x_regionL ?_
  refine xl_v v_move ?_
  refine xl_Lb ?_
  refine xl_call (send_ok q (D.setN i z) F2 ⟨re, none, 0⟩ w5 (hQ.ext kpc) (by show FRow _ _ none (cmdsC re.cmds); rw [hre0]; exact FRow.nil _ _) (by show re.cmds.length ≤ 0; rw [hre0]; exact Nat.le_refl _)) ?_
  rintro _ w6 ⟨⟨BA, bc, rfl, hQ2, hBA⟩, lk12⟩
  refine xl_nil ?_
  refine fin0 rfl ?_
  have hB2 : blkA BA = blkA (D.setN i z).BA ∨ ∀ k, blkA BA = some k → w.heap.size ≤ k := hBA.imp id (fun h k e => Nat.le_trans Ge.le (h k e))
  refine ⟨rfl, ⟨_, F2, hQ2, ?_, hsub, quB_sent (D := D.setN i z) hB2⟩, lkc⟩
  rw [pure_sent, pure_setN, hpure]
 ·
  refine x_scope ?_
  refine x_seq ?_
  refine x_regionL ?_
  refine xl_v v_move ?_
  refine xl_Fb ?_
  refine xl_Lc ?_
  refine xl_call (voter_ok D.NA D.ns.length D.nc 0 i D.ns y m.m.term w5 hA) ?_
  rintro _ w7 ⟨rfl, o2, lk2⟩
  obtain ⟨y1, hy1⟩ : ∃ y1, y1 = y.voter m.m.term := ⟨_, rfl⟩
  rw [← hy1] at o2
  have hyA : y1.A = y.A := by rw [hy1]; rfl
  have hyl : y1.x.log = y.x.log := by rw [hy1]; rfl
  have hyc : y1.c = y.c := by rw [hy1]; rfl
  have hyx : y1.x = y.x.voter m.m.term := by rw [hy1]; rfl
  haveI hr1 : Row w7 y1.A (cmdsC y1.x.log) := by rw [hyA, hyl]; infer_instance
  haveI holdA1 : OldA w y1.A := by rw [hyA]; exact holdA
  haveI hro1 : ∀ n c, RowOut (OwnB (.slice D.NA n c)) y1.A := by rw [hyA]; exact hro
  have hl1 : y1.x.log.length ≤ 256 := by rw [hyl]; exact hll
  have hc1 : y1.x.log.length ≤ y1.c := by rw [hyl, hyc]; exact hlc
  refine xl_nil ?_
  refine x_seq ?_
  refine x_seq ?_
  refine x_drawL (NoB) (allS) (.take 0 (.take 1 (.take 2 (.take 3 (.take 4 (.take 5 (.take 6 (.take 7 (.take 8 (.take 9 (.take 10 (.take 11 (.take 12 (.take 13 (.take 14 (.take 15 (.take 16 (.take 17 (.take 19 (.take 20 (.eff 18 (.take 21 (.take 22 .done))))))))))))))))))))))) mixed (by kernel_rfl) (fun _ _ _ _ _ h => h) (fun w8 l8 => ?_)
  refine xt_v rfl v_move ?_
  refine xt_Nc rfl ?_
  refine xt_Fb rfl ?_
  refine xt_Fb rfl ?_
  refine xt_Lc rfl ?_
  refine xt_v rfl v_len ?_
  refine xt_Fb rfl ?_
  refine xt_Lc rfl ?_
  refine xt_v rfl v_lss ?_
  refine xt_v rfl v_move ?_
  refine xt_split 34 (fun g34 => ?_) (fun g34 => ?_)
  ·
   refine xt_gs rfl rfl EvO.eq ?_
   refine xt_gs rfl rfl EvO.eq ?_
   refine xt_gs rfl rfl EvO.eq ?_
   refine xt_gs rfl rfl EvO.eq ?_
   refine xt_gs rfl rfl EvO.eq ?_
   refine xt_gs rfl rfl EvO.eq ?_
   refine xt_gs rfl rfl EvO.eq ?_
   refine xt_gs rfl rfl EvO.eq ?_
   refine xt_gs rfl rfl EvO.eq ?_
   refine xt_gs rfl rfl EvO.eq ?_
   refine xt_gse rfl rfl EvO.eq ?_
   refine xt_gs rfl rfl EvO.eq ?_
   refine xt_Pk rfl ?_
   refine xt_nil ?_
   refine x_condT ?_
   refine x_seq ?_
   have hbad : (y.x.voter m.m.term).log.length < m.m.prev ∨ ofT ((y.x.voter m.m.term).log.take m.m.prev.toNat) ≠ m.m.prevT := by
    first
     | exact hbad
     | exact .inl (by rw [← hyx]; exact of_decide_eq_true g34)
   refine x_drawL (NoB) (allS) (.take 0 (.take 1 (.take 2 (.take 3 (.take 4 (.take 5 (.take 6 (.take 7 (.take 8 (.take 9 (.take 10 (.last 11)))))))))))) mixed (by kernel_rfl) (fun _ _ _ _ _ h => h) (fun w9 l9 => ?_)
   refine xt_v rfl v_move ?_
   refine xt_Nc rfl ?_
   refine xt_Fb rfl ?_
   refine xt_Fb rfl ?_
   refine xt_Lc rfl ?_
   refine xt_v rfl v_len ?_
   refine xt_Fb rfl ?_
   refine xt_Lc rfl ?_
   refine xt_v rfl (v_sub (by omega)) ?_
   refine xt_v rfl v_min ?_
   refine xt_Fb rfl ?_
   refine xt_lastS rfl (e_store fun w10 l11 k11 => ?_)
   have hres : ∃ (z : LNd) (re : Bl), D.pure.more m.m y.x = (D.pure.setN i z.x).send re ∧ re.cmds = [] ∧ Blk w10 b6 (.cells (blC ⟨re, none, 0⟩).toArray 75 (0, 0)) ∧ OwnI w10 D.NA D.ns.length D.nc 0 69 20 D.ns.length ((D.ns.set i z).flatMap ndC) ∧ FRow w10 (grown F w w10) z.A (cmdsC z.x.log) ∧ z.x.log.length ≤ z.c := by
    have hkeep : Keep (OwnB (.slice D.NA D.ns.length D.nc)) w w10 := kpc
    have hold : FRow w10 (grown F w w10) y.A (cmdsC y.x.log) := ((h.logs y hym).keep hkeep (fun k e e2 => h.fq k e (.inr (.inl (ownB_blk.1 e2))))).mono (fun k e => .inl e)
    have hp := more_no (q := D.pure) c1 hbad
    rw [hti, ← hyx] at hp
    exact ⟨y1, _, hp, rfl, ⟨Blk.eq⟩, OwnI.mk OwnI.own, by rw [hyA, hyl]; exact hold, hc1⟩
   refine x_exit ?_
   obtain ⟨z, re, hpure, hre0, hb6, oz, hzr, hzc⟩ := hres
   have hQ : QuAt w10 (grown F w w10) q (D.setN i z) := h.setNF (fun _ e => .inl e) (fun _ e => e) (kpc : Keep (OwnB (.slice D.NA D.ns.length D.nc)) w w10) (fun k _ e => ownB_blk.1 e) oz.own hzr hzc
   obtain ⟨F2, hF2⟩ : ∃ F2, F2 = grown F w w10 := ⟨_, rfl⟩
   rw [← hF2] at hQ
   have hsub : Sub F2 F w := by rw [hF2]; exact grown_sub
   refine x_regionL ?_
   refine xl_v v_move ?_
   refine xl_Lb ?_
   refine xl_call (send_ok q (D.setN i z) F2 ⟨re, none, 0⟩ w10 (hQ.ext kpc) (by show FRow _ _ none (cmdsC re.cmds); rw [hre0]; exact FRow.nil _ _) (by show re.cmds.length ≤ 0; rw [hre0]; exact Nat.le_refl _)) ?_
   rintro _ w11 ⟨⟨BA, bc, rfl, hQ2, hBA⟩, lk12⟩
   refine xl_nil ?_
   refine fin0 rfl ?_
   have hB2 : blkA BA = blkA (D.setN i z).BA ∨ ∀ k, blkA BA = some k → w.heap.size ≤ k := hBA.imp id (fun h k e => Nat.le_trans Ge.le (h k e))
   refine ⟨rfl, ⟨_, F2, hQ2, ?_, hsub, quB_sent (D := D.setN i z) hB2⟩, lkc⟩
   rw [pure_sent, pure_setN, hpure]
  ·
   have hple : pn ≤ y1.x.log.length := by
    have := of_decide_eq_false g34
    omega
   refine xt_gv rfl rfl EvO.eq v_move ?_
   refine xt_gNc rfl rfl EvO.eq ?_
   refine xt_gFb rfl rfl EvO.eq ?_
   refine xt_gFb rfl rfl EvO.eq ?_
   refine xt_gLc rfl rfl EvO.eq ?_
   refine xt_gFb rfl rfl EvO.eq ?_
   refine xt_gLc rfl rfl EvO.eq ?_
   refine xt_gv rfl rfl EvO.eq (v_sliceH pn hpn (by omega)) ?_
   refine xt_gFb rfl rfl EvO.eq ?_
   refine xt_gLc rfl rfl EvO.eq ?_
   haveI hrt : Row w8 y1.A (cmdsC (y1.x.log.take pn)) := ⟨by
    have := row_take (Row.row (w := w8) (A := y1.A) (cs := cmdsC y1.x.log)) (pn * 2)
    rwa [← flat_take (enc := cmdC) (sz := 2) (fun _ => rfl)] at this⟩
   refine xt_gcall rfl rfl EvO.eq (of_ok y1.A pn y1.c (y1.x.log.take pn) w8 (by rw [List.length_take]; omega) (by omega)) ?_
   rintro _ w12 ⟨rfl, lk18⟩
   refine ⟨kpc, ?_⟩
   clear hrt
   refine xt_gv rfl rfl EvO.eq v_neq ?_
   refine xt_Pk rfl ?_
   refine xt_nil ?_
   first | refine x_condP (fun c2 => ?_) (fun c2 => ?_) | refine x_condN (fun c2 => ?_) (fun c2 => ?_) | refine x_condE (fun c2 => ?_) (fun c2 => ?_)
   ·
    have hbad : (y.x.voter m.m.term).log.length < m.m.prev ∨ ofT ((y.x.voter m.m.term).log.take m.m.prev.toNat) ≠ m.m.prevT := .inr (by
     rw [← hyx, hpn]
     simpa using c2)
    refine x_seq ?_
    have hbad : (y.x.voter m.m.term).log.length < m.m.prev ∨ ofT ((y.x.voter m.m.term).log.take m.m.prev.toNat) ≠ m.m.prevT := by
     first
      | exact hbad
      | exact .inl (by rw [← hyx]; exact of_decide_eq_true g34)
    refine x_drawL (NoB) (allS) (.take 0 (.take 1 (.take 2 (.take 3 (.take 4 (.take 5 (.take 6 (.take 7 (.take 8 (.take 9 (.take 10 (.last 11)))))))))))) mixed (by kernel_rfl) (fun _ _ _ _ _ h => h) (fun w13 l13 => ?_)
    refine xt_v rfl v_move ?_
    refine xt_Nc rfl ?_
    refine xt_Fb rfl ?_
    refine xt_Fb rfl ?_
    refine xt_Lc rfl ?_
    refine xt_v rfl v_len ?_
    refine xt_Fb rfl ?_
    refine xt_Lc rfl ?_
    refine xt_v rfl (v_sub (by omega)) ?_
    refine xt_v rfl v_min ?_
    refine xt_Fb rfl ?_
    refine xt_lastS rfl (e_store fun w14 l11 k11 => ?_)
    have hres : ∃ (z : LNd) (re : Bl), D.pure.more m.m y.x = (D.pure.setN i z.x).send re ∧ re.cmds = [] ∧ Blk w14 b6 (.cells (blC ⟨re, none, 0⟩).toArray 75 (0, 0)) ∧ OwnI w14 D.NA D.ns.length D.nc 0 69 20 D.ns.length ((D.ns.set i z).flatMap ndC) ∧ FRow w14 (grown F w w14) z.A (cmdsC z.x.log) ∧ z.x.log.length ≤ z.c := by
     have hkeep : Keep (OwnB (.slice D.NA D.ns.length D.nc)) w w14 := kpc
     have hold : FRow w14 (grown F w w14) y.A (cmdsC y.x.log) := ((h.logs y hym).keep hkeep (fun k e e2 => h.fq k e (.inr (.inl (ownB_blk.1 e2))))).mono (fun k e => .inl e)
     have hp := more_no (q := D.pure) c1 hbad
     rw [hti, ← hyx] at hp
     exact ⟨y1, _, hp, rfl, ⟨Blk.eq⟩, OwnI.mk OwnI.own, by rw [hyA, hyl]; exact hold, hc1⟩
    refine x_exit ?_
    obtain ⟨z, re, hpure, hre0, hb6, oz, hzr, hzc⟩ := hres
    have hQ : QuAt w14 (grown F w w14) q (D.setN i z) := h.setNF (fun _ e => .inl e) (fun _ e => e) (kpc : Keep (OwnB (.slice D.NA D.ns.length D.nc)) w w14) (fun k _ e => ownB_blk.1 e) oz.own hzr hzc
    obtain ⟨F2, hF2⟩ : ∃ F2, F2 = grown F w w14 := ⟨_, rfl⟩
    rw [← hF2] at hQ
    have hsub : Sub F2 F w := by rw [hF2]; exact grown_sub
    refine x_regionL ?_
    refine xl_v v_move ?_
    refine xl_Lb ?_
    refine xl_call (send_ok q (D.setN i z) F2 ⟨re, none, 0⟩ w14 (hQ.ext kpc) (by show FRow _ _ none (cmdsC re.cmds); rw [hre0]; exact FRow.nil _ _) (by show re.cmds.length ≤ 0; rw [hre0]; exact Nat.le_refl _)) ?_
    rintro _ w15 ⟨⟨BA, bc, rfl, hQ2, hBA⟩, lk12⟩
    refine xl_nil ?_
    refine fin0 rfl ?_
    have hB2 : blkA BA = blkA (D.setN i z).BA ∨ ∀ k, blkA BA = some k → w.heap.size ≤ k := hBA.imp id (fun h k e => Nat.le_trans Ge.le (h k e))
    refine ⟨rfl, ⟨_, F2, hQ2, ?_, hsub, quB_sent (D := D.setN i z) hB2⟩, lkc⟩
    rw [pure_sent, pure_setN, hpure]
   ·
    have hgood : ¬ ((y.x.voter m.m.term).log.length < m.m.prev ∨ ofT ((y.x.voter m.m.term).log.take m.m.prev.toNat) ≠ m.m.prevT) := by
     rw [← hyx, hpn]
     rintro (e | e)
     ·omega
     ·exact e (by simpa using c2)
    obtain ⟨L, hL⟩ : ∃ L, L = m.m.cmds.take (256 - m.m.prev).toNat := ⟨_, rfl⟩
    obtain ⟨k, hk⟩ : ∃ k : Nat, k = min m.m.cmds.length (256 - pn) := ⟨_, rfl⟩
    have hLk : L.length = k := by rw [hL, List.length_take, hk, hpn]; omega
    have hLt : L = m.m.cmds.take k := by
     rw [hL, hk, hpn]
     have e : (256 - (pn : Int)).toNat = 256 - pn := by omega
     rw [e, Nat.min_comm, List.take_eq_take_iff]
     omega
    haveI hrL : Row w12 m.A (cmdsC L) := ⟨by
     have := row_take (Row.row (w := w12) (A := m.A) (cs := cmdsC m.m.cmds)) (k * 2)
     rwa [← flat_take (enc := cmdC) (sz := 2) (fun _ => rfl), ← hLt] at this⟩
    refine x_skip ?_
    refine x_seq ?_
    refine x_regionL ?_
    refine xl_Fb ?_
    refine xl_Lc ?_
    refine xl_Fb ?_
    refine xl_Lc ?_
    refine xl_v v_len ?_
    refine xl_Fb ?_
    refine xl_Lc ?_
    refine xl_v (v_sub (by omega)) ?_
    refine xl_v v_min ?_
    refine xl_v (v_sliceH k (by omega) (by omega)) ?_
    refine xl_v v_assign ?_
    refine xl_nil ?_
    refine x_seq ?_
    refine x_label ?_
    refine x_seq ?_
    refine x_seq ?_
    refine x_regionL ?_
    refine xl_v v_move ?_
    refine xl_v v_len ?_
    refine xl_v v_move ?_
    refine xl_nil ?_
    refine x_block ?_
    have hk6 := (Blk.eq : (w12).heap[b6]? = _)
    refine x_loop (fun m' τ ds w' => ds = [] ∧ ∃ j : Nat, m' = k - j ∧ j ≤ k ∧ pn + j ≤ y1.x.log.length ∧ lay y1.x.log pn L = lay y1.x.log (pn + j) (L.drop j) ∧ Ev τ 0 (.pointer (some ⟨q, 0, none⟩)) ∧ Ev τ 1 (padd D.NA (i * 20)) ∧ Ev τ 5 (.pointer (some ⟨b1, 0, none⟩)) ∧ Ev τ 6 (.pointer (some ⟨b6, 0, none⟩)) ∧ Ev τ 7 (.slice m.A k m.c) ∧ Ev τ 69 (.slice m.A k m.c) ∧ Ev τ 70 (.int .i64 (k : Int)) ∧ Ev τ 71 (.int .i64 (j : Int)) ∧ Blk w' b1 (.cells (blC m).toArray 75 (0, 0)) ∧ Blk w' b6 (.cells (blC ⟨{ Bl.zero with kind := 4, frm := m.m.to, to := m.m.frm, term := y.x.term }, none, 0⟩).toArray 75 (0, 0)) ∧ OwnI w' D.NA D.ns.length D.nc 0 69 20 D.ns.length ((D.ns.set i y1).flatMap ndC) ∧ Lk w' w12 NoB) (k) ?start ?round
    case start =>
     exact ⟨rfl, 0, rfl, Nat.zero_le _, by omega, by simp, inferInstance, inferInstance, inferInstance, inferInstance, evc, evc, evc, evc, inferInstance, inferInstance, OwnI.mk OwnI.own, lkc⟩
    case round =>
     intro m τ16 ds16 w16 hI
     obtain ⟨rfl, j, rfl, hj, hpj, hlay, e0, e1, e5, e6, e7, e69, e70, e71, kb5, kb6, oN, lkL⟩ := hI
     refine x_seq ?_
     refine x_regionL ?_
     refine xl_v v_lss ?_
     refine xl_nil ?_
     refine x_seq ?_
     first | refine x_condP (fun c3 => ?_) (fun c3 => ?_) | refine x_condN (fun c3 => ?_) (fun c3 => ?_) | refine x_condE (fun c3 => ?_) (fun c3 => ?_)
     ·
      have hj1 : j < L.length := by omega
      refine x_skip ?_
      refine x_seq ?_
      refine x_block ?_
      refine x_seq ?_
      refine x_regionL ?_
      refine xl_v v_move ?_
      refine xl_v (v_indexF j (by decide) rfl (by omega) hj1) ?_
      refine xl_v (v_loadF (k := j) (by decide) hj1) ?_
      refine xl_e (e_alloc fun b9 w17 n9 l9 k9 => ?_)
      refine xl_v v_assign ?_
      refine xl_s (e_storeA fun w18 l18 k18 => ?_)
      refine xl_nil ?_
      refine x_seq ?_
      refine x_regionL ?_
      refine xl_Fb ?_
      refine xl_Lc ?_
      refine xl_v v_move ?_
      refine xl_v (v_congr (u := .int .i64 ((pn + j : Nat) : Int)) (v_add (by omega)) (congrArg (Value.int .i64) (by omega))) ?_
      refine xl_v v_assign ?_
      refine xl_nil ?_
      refine x_seq ?_
      refine x_seq ?_
      refine x_drawL (NoB) (allS) (.take 0 (.take 1 (.take 2 (.take 3 (.take 4 (.take 5 (.take 6 (.take 7 (.take 8 (.take 9 (.take 10 (.take 11 (.take 12 (.take 13 (.take 14 (.take 15 (.take 16 (.take 17 (.take 18 (.take 19 (.take 20 (.take 21 .done)))))))))))))))))))))) mixed (by kernel_rfl) (fun _ _ _ _ _ h => h) (fun w19 l19 => ?_)
      refine xt_v rfl v_move ?_
      refine xt_v rfl v_move ?_
      refine xt_Nc rfl ?_
      refine xt_Fb rfl ?_
      refine xt_Fb rfl ?_
      refine xt_Lc rfl ?_
      refine xt_v rfl v_len ?_
      refine xt_v rfl v_lss ?_
      refine xt_v rfl v_move ?_
      refine xt_split 88 (fun g88 => ?_) (fun g88 => ?_)
      ·
       have hat : pn + j < y1.x.log.length := by have := of_decide_eq_true g88; omega
       refine xt_gv rfl rfl EvO.eq v_move ?_
       refine xt_gNc rfl rfl EvO.eq ?_
       refine xt_gFb rfl rfl EvO.eq ?_
       refine xt_gFb rfl rfl EvO.eq ?_
       refine xt_gLc rfl rfl EvO.eq ?_
       refine xt_gv rfl rfl EvO.eq v_move ?_
       refine xt_gv rfl rfl EvO.eq (v_indexF (pn + j) (by decide) rfl (by omega) hat) ?_
       refine xt_gFb rfl rfl EvO.eq ?_
       refine xt_gv rfl rfl EvO.eq (v_loadF0 (k := pn + j) hat) ?_
       refine xt_gFb rfl rfl EvO.eq ?_
       refine xt_gLc rfl rfl EvO.eq ?_
       refine xt_gv rfl rfl EvO.eq v_eql ?_
       refine xt_Pk rfl ?_
       refine xt_nil ?_
       refine x_condE (fun c4 => ?_) (fun c4 => ?_)
       ·
        have hsame : (y1.x.log.map (·.term))[pn + j]? = some L[j].term := by
         rw [List.getElem?_map, List.getElem?_eq_getElem hat]
         simpa using c4
        refine x_exit ?_
        refine x_regionL ?_
        refine xl_v (v_add (by omega)) ?_
        refine xl_v v_move ?_
        refine xl_nil ?_
        refine ⟨_, ?_, rfl, j + 1, rfl, by omega, by omega, ?_, inferInstance, inferInstance, inferInstance, inferInstance, inferInstance, inferInstance, inferInstance, evc, inferInstance, inferInstance, OwnI.mk OwnI.own, lkc⟩
        ·omega
        ·rw [hlay, drop_cons_at hj1, lay_step hsame]
         rfl
       ·
        refine x_skip ?_
        refine x_seq ?_
        have hdiff : ¬ (y1.x.log.map (·.term))[pn + j]? = some L[j].term := by
         rw [List.getElem?_map]
         first
          | (rw [List.getElem?_eq_getElem hat]; simpa using c4)
          | (rw [List.getElem?_eq_none (by have := of_decide_eq_false g88; omega)]; nofun)
        have hlog' : y1.x.log.take (pn + j) ++ L.drop j = lay y1.x.log pn L := by rw [hlay, drop_cons_at hj1, lay_stop hdiff]
        haveI hrd : Row w19 (shA m.A (j * 2)) (cmdsC (L.drop j)) := ⟨rowP_sub (Row.row (w := w19) (A := m.A) (cs := cmdsC L)) (fun o v e => by
         have e2 : cmdsC (L.drop j) = (cmdsC L).drop (j * 2) := flat_drop (enc := cmdC) (sz := 2) (fun _ => rfl) L j
         rw [e2, List.getElem?_drop] at e
         exact e)⟩
        haveI hrt : Row w19 y1.A (cmdsC (y1.x.log.take (pn + j))) := ⟨by
         have := row_take (Row.row (w := w19) (A := y1.A) (cs := cmdsC y1.x.log)) ((pn + j) * 2)
         rwa [← flat_take (enc := cmdC) (sz := 2) (fun _ => rfl)] at this⟩
        refine x_drawL (NoB) (allS) (.take 0 (.take 1 (.take 2 (.take 3 (.take 4 (.take 5 (.take 6 (.take 7 (.take 8 (.take 9 (.take 10 (.eff 11 (.eff 12 (.take 13 (.take 14 (.take 15 (.free 16 .done))))))))))))))))) mixed (by kernel_rfl) (fun _ _ _ _ _ h => h) (fun w20 l20 => ?_)
        refine xt_v rfl v_move ?_
        refine xt_v rfl v_move ?_
        refine xt_Nc rfl ?_
        refine xt_Fb rfl ?_
        refine xt_Fb rfl ?_
        refine xt_Lc rfl ?_
        refine xt_v rfl v_move ?_
        refine xt_v rfl (v_sliceH (pn + j) rfl (by omega)) ?_
        refine xt_v rfl v_move ?_
        refine xt_v rfl v_move ?_
        refine xt_v rfl (v_congr (u := .slice (shA m.A (j * 2)) (k - j) (m.c - j)) (v_sliceL j rfl (by omega)) (by rw [if_neg (by omega)])) ?_
        refine xt_e rfl (e_buildSliceN rfl fun b11 w21 n11 l11 k11 => ?_)
        refine xt_call rfl (concatC_ok (some ⟨b11, 0, none⟩) 2 2 [⟨y1.x.log.take (pn + j), y1.A, y1.c⟩, ⟨L.drop j, shA m.A (j * 2), m.c - j⟩] w21 (hra := rowB_two inferInstance (by simp only [lcV, List.length_take]; congr 1; omega) (by simp only [lcV, List.length_drop, hLk])) (by
            intro a ha
            match a, ha with
            | 0, _ => exact rowB_of (Row.row (w := w21) (A := y1.A) (cs := cmdsC (y1.x.log.take (pn + j))))
            | 1, _ => exact rowB_of (Row.row (w := w21) (A := shA m.A (j * 2)) (cs := cmdsC (L.drop j)))) rfl (by omega) (by rw [lens_two]; simp only [List.length_take, List.length_drop]; omega)) ?_
        rintro _ w22 ⟨⟨A9, c9, hv9, ho9⟩, lk9⟩
        refine ⟨kpc, ?_⟩
        have hlen9 : lensC [(⟨y1.x.log.take (pn + j), y1.A, y1.c⟩ : LC), ⟨L.drop j, shA m.A (j * 2), m.c - j⟩] = (lay y1.x.log pn L).length := by rw [lens_two, ← hlog', List.length_append]
        have hbody : [(⟨y1.x.log.take (pn + j), y1.A, y1.c⟩ : LC), ⟨L.drop j, shA m.A (j * 2), m.c - j⟩].flatMap (·.l) = lay y1.x.log pn L := by rw [← hlog']; simp
        rw [hlen9] at hv9
        subst hv9
        rw [hlen9, hbody] at ho9
        haveI o9 : OwnI w22 A9 _ _ _ _ _ _ _ := ⟨ho9⟩
        haveI na9 : NewA A9 _ := newA_of ho9 (Nat.le_refl _)
        have hc9 : (lay y1.x.log pn L).length ≤ c9 := by
         obtain ⟨_, _, e, _, e2, _⟩ := ownsRow_form ho9
         cases e
         exact e2
        refine xt_Nc rfl ?_
        refine xt_Fb rfl ?_
        refine xt_Fb rfl ?_
        refine xt_fs rfl (e_storeC i 2 { y1 with x := { y1.x with log := lay y1.x.log pn L }, A := A9, c := c9 } fun w23 l16 o16 => ?_)
        refine xt_nil ?_
        refine x_exit ?_
        refine x_seq ?_
        obtain ⟨z, hzx, hz6, hzn, oz, hzr, hzc⟩ : ∃ z : LNd, z.x = { y1.x with log := lay y1.x.log pn L } ∧ RowOut (OneB b6) z.A ∧ (∀ n c, RowOut (OwnB (.slice D.NA n c)) z.A) ∧ OwnI w23 D.NA D.ns.length D.nc 0 69 20 D.ns.length ((D.ns.set i z).flatMap ndC) ∧ FRow w23 (grown F w w23) z.A (cmdsC z.x.log) ∧ z.x.log.length ≤ z.c := by
         first
          | exact ⟨{ y1 with x := { y1.x with log := lay y1.x.log pn L }, A := A9, c := c9 }, rfl, (inferInstance : RowOut (OneB b6) A9), (fun n c => (inferInstance : RowOut (OwnB (.slice D.NA n c)) A9)), o16, FRow.own (OwnI.own (w := w23) (A := A9)) Ge.le, hc9⟩
          | (have hjk : j = k := by omega
             have he : lay y1.x.log pn L = y1.x.log := by rw [hlay, List.drop_eq_nil_of_le (by omega), lay_nil]
             refine ⟨y1, by rw [he], by rw [hyA]; infer_instance, hro1, OwnI.mk OwnI.own, ?_, hc1⟩
             rw [hyA, hyl]
             exact ((h.logs y hym).keep (kpc : Keep (OwnB (.slice D.NA D.ns.length D.nc)) w w23) (fun k e e2 => h.fq k e (.inr (.inl (ownB_blk.1 e2))))).mono (fun k e => .inl e))
        haveI hzR : Row w23 z.A (cmdsC z.x.log) := ⟨hzr.row⟩
        have hzl : z.x.log.length ≤ 1000000 := by rw [hzx]; exact Nat.le_trans (lay_le _ _ _) (by omega)
        refine x_drawL (OneB b6) (allS) (.take 0 (.take 1 (.take 2 (.take 3 (.take 4 (.take 5 (.eff 6 (.take 7 (.last 8))))))))) mixed (by kernel_rfl) (fun _ _ _ _ _ h => h) (fun w24 l24 => ?_)
        refine xt_Fb rfl ?_
        refine xt_Lc rfl ?_
        refine xt_v rfl v_move ?_
        refine xt_v rfl v_len ?_
        refine xt_v rfl (v_add (by omega)) ?_
        refine xt_Fb rfl ?_
        refine xt_s rfl (e_store fun w25 l6 k6 => ?_)
        refine xt_Fb rfl ?_
        refine xt_lastS rfl (e_store fun w26 l8 k8 => ?_)
        refine x_drawL (NoB) (allS) (.take 0 (.take 1 (.take 2 (.take 3 (.take 4 (.take 5 (.take 6 (.take 7 (.take 8 (.take 9 (.take 10 (.take 11 (.take 12 (.free 13 .done)))))))))))))) mixed (by kernel_rfl) (fun _ _ _ _ _ h => h) (fun w27 l27 => ?_)
        refine xt_v rfl v_move ?_
        refine xt_v rfl v_move ?_
        refine xt_Nc rfl ?_
        refine xt_Fb rfl ?_
        refine xt_Lc rfl ?_
        refine xt_Fb rfl ?_
        refine xt_Lc rfl ?_
        refine xt_Fb rfl ?_
        refine xt_Lc rfl ?_
        refine xt_v rfl v_min ?_
        refine xt_v rfl v_max ?_
        refine xt_Nc rfl ?_
        refine xt_Fb rfl ?_
        refine xt_fs rfl (e_storeC i 4 { z with x := { z.x with commit := max z.x.commit (min m.m.commit (m.m.prev + k)) } } fun w28 l13 o13 => ?_)
        refine xt_nil ?_
        have hres : ∃ (z : LNd) (re : Bl), D.pure.more m.m y.x = (D.pure.setN i z.x).send re ∧ re.cmds = [] ∧ Blk w28 b6 (.cells (blC ⟨re, none, 0⟩).toArray 75 (0, 0)) ∧ OwnI w28 D.NA D.ns.length D.nc 0 69 20 D.ns.length ((D.ns.set i z).flatMap ndC) ∧ FRow w28 (grown F w w28) z.A (cmdsC z.x.log) ∧ z.x.log.length ≤ z.c := by
         have hp := more_yes (q := D.pure) (log := lay y1.x.log pn L) c1 hgood hpn (hL ▸ hLk) (by rw [hyx, hL])
         rw [hti, ← hpn] at hp
         exact ⟨{ z with x := { z.x with commit := max z.x.commit (min m.m.commit (m.m.prev + k)) } }, { Bl.zero with kind := 4, frm := m.m.to, to := m.m.frm, term := y.x.term, ok := true, mat := m.m.prev + k }, by rw [hp, hzx, hyx], rfl, ⟨Blk.eq⟩, o13, ⟨Row.row (w := w28) (A := z.A), fun a ha => (hzr.blk a ha).imp id (fun e => ⟨e.1, Nat.lt_of_lt_of_le e.2 Ge.le⟩)⟩, hzc⟩
        obtain ⟨z, re, hpure, hre0, hb6, oz, hzr, hzc⟩ := hres
        have hQ : QuAt w28 (grown F w w28) q (D.setN i z) := h.setNF (fun _ e => .inl e) (fun _ e => e) (kpc : Keep (OwnB (.slice D.NA D.ns.length D.nc)) w w28) (fun k _ e => ownB_blk.1 e) oz.own hzr hzc
        obtain ⟨F2, hF2⟩ : ∃ F2, F2 = grown F w w28 := ⟨_, rfl⟩
        rw [← hF2] at hQ
        have hsub : Sub F2 F w := by rw [hF2]; exact grown_sub
        refine x_regionL ?_
        refine xl_v v_move ?_
        refine xl_Lb ?_
        refine xl_call (send_ok q (D.setN i z) F2 ⟨re, none, 0⟩ w28 (hQ.ext kpc) (by show FRow _ _ none (cmdsC re.cmds); rw [hre0]; exact FRow.nil _ _) (by show re.cmds.length ≤ 0; rw [hre0]; exact Nat.le_refl _)) ?_
        rintro _ w29 ⟨⟨BA, bc, rfl, hQ2, hBA⟩, lk12⟩
        refine xl_nil ?_
        refine fin0 rfl ?_
        have hB2 : blkA BA = blkA (D.setN i z).BA ∨ ∀ k, blkA BA = some k → w.heap.size ≤ k := hBA.imp id (fun h k e => Nat.le_trans Ge.le (h k e))
        refine ⟨rfl, ⟨_, F2, hQ2, ?_, hsub, quB_sent (D := D.setN i z) hB2⟩, lkc⟩
        rw [pure_sent, pure_setN, hpure]
      ·
       refine xt_gs rfl rfl EvO.eq ?_
       refine xt_gs rfl rfl EvO.eq ?_
       refine xt_gs rfl rfl EvO.eq ?_
       refine xt_gs rfl rfl EvO.eq ?_
       refine xt_gs rfl rfl EvO.eq ?_
       refine xt_gs rfl rfl EvO.eq ?_
       refine xt_gs rfl rfl EvO.eq ?_
       refine xt_gs rfl rfl EvO.eq ?_
       refine xt_gs rfl rfl EvO.eq ?_
       refine xt_gs rfl rfl EvO.eq ?_
       refine xt_gs rfl rfl EvO.eq ?_
       refine xt_gs rfl rfl EvO.eq ?_
       refine xt_Pk rfl ?_
       refine xt_nil ?_
       refine x_condF ?_
       refine x_skip ?_
       refine x_seq ?_
       have hdiff : ¬ (y1.x.log.map (·.term))[pn + j]? = some L[j].term := by
        rw [List.getElem?_map]
        first
         | (rw [List.getElem?_eq_getElem hat]; simpa using c4)
         | (rw [List.getElem?_eq_none (by have := of_decide_eq_false g88; omega)]; nofun)
       have hlog' : y1.x.log.take (pn + j) ++ L.drop j = lay y1.x.log pn L := by rw [hlay, drop_cons_at hj1, lay_stop hdiff]
       haveI hrd : Row w19 (shA m.A (j * 2)) (cmdsC (L.drop j)) := ⟨rowP_sub (Row.row (w := w19) (A := m.A) (cs := cmdsC L)) (fun o v e => by
        have e2 : cmdsC (L.drop j) = (cmdsC L).drop (j * 2) := flat_drop (enc := cmdC) (sz := 2) (fun _ => rfl) L j
        rw [e2, List.getElem?_drop] at e
        exact e)⟩
       haveI hrt : Row w19 y1.A (cmdsC (y1.x.log.take (pn + j))) := ⟨by
        have := row_take (Row.row (w := w19) (A := y1.A) (cs := cmdsC y1.x.log)) ((pn + j) * 2)
        rwa [← flat_take (enc := cmdC) (sz := 2) (fun _ => rfl)] at this⟩
       refine x_drawL (NoB) (allS) (.take 0 (.take 1 (.take 2 (.take 3 (.take 4 (.take 5 (.take 6 (.take 7 (.take 8 (.take 9 (.take 10 (.eff 11 (.eff 12 (.take 13 (.take 14 (.take 15 (.free 16 .done))))))))))))))))) mixed (by kernel_rfl) (fun _ _ _ _ _ h => h) (fun w30 l30 => ?_)
       refine xt_v rfl v_move ?_
       refine xt_v rfl v_move ?_
       refine xt_Nc rfl ?_
       refine xt_Fb rfl ?_
       refine xt_Fb rfl ?_
       refine xt_Lc rfl ?_
       refine xt_v rfl v_move ?_
       refine xt_v rfl (v_sliceH (pn + j) rfl (by omega)) ?_
       refine xt_v rfl v_move ?_
       refine xt_v rfl v_move ?_
       refine xt_v rfl (v_congr (u := .slice (shA m.A (j * 2)) (k - j) (m.c - j)) (v_sliceL j rfl (by omega)) (by rw [if_neg (by omega)])) ?_
       refine xt_e rfl (e_buildSliceN rfl fun b11 w31 n11 l11 k11 => ?_)
       refine xt_call rfl (concatC_ok (some ⟨b11, 0, none⟩) 2 2 [⟨y1.x.log.take (pn + j), y1.A, y1.c⟩, ⟨L.drop j, shA m.A (j * 2), m.c - j⟩] w31 (hra := rowB_two inferInstance (by simp only [lcV, List.length_take]; congr 1; omega) (by simp only [lcV, List.length_drop, hLk])) (by
           intro a ha
           match a, ha with
           | 0, _ => exact rowB_of (Row.row (w := w31) (A := y1.A) (cs := cmdsC (y1.x.log.take (pn + j))))
           | 1, _ => exact rowB_of (Row.row (w := w31) (A := shA m.A (j * 2)) (cs := cmdsC (L.drop j)))) rfl (by omega) (by rw [lens_two]; simp only [List.length_take, List.length_drop]; omega)) ?_
       rintro _ w32 ⟨⟨A9, c9, hv9, ho9⟩, lk9⟩
       refine ⟨kpc, ?_⟩
       have hlen9 : lensC [(⟨y1.x.log.take (pn + j), y1.A, y1.c⟩ : LC), ⟨L.drop j, shA m.A (j * 2), m.c - j⟩] = (lay y1.x.log pn L).length := by rw [lens_two, ← hlog', List.length_append]
       have hbody : [(⟨y1.x.log.take (pn + j), y1.A, y1.c⟩ : LC), ⟨L.drop j, shA m.A (j * 2), m.c - j⟩].flatMap (·.l) = lay y1.x.log pn L := by rw [← hlog']; simp
       rw [hlen9] at hv9
       subst hv9
       rw [hlen9, hbody] at ho9
       haveI o9 : OwnI w32 A9 _ _ _ _ _ _ _ := ⟨ho9⟩
       haveI na9 : NewA A9 _ := newA_of ho9 (Nat.le_refl _)
       have hc9 : (lay y1.x.log pn L).length ≤ c9 := by
        obtain ⟨_, _, e, _, e2, _⟩ := ownsRow_form ho9
        cases e
        exact e2
       refine xt_Nc rfl ?_
       refine xt_Fb rfl ?_
       refine xt_Fb rfl ?_
       refine xt_fs rfl (e_storeC i 2 { y1 with x := { y1.x with log := lay y1.x.log pn L }, A := A9, c := c9 } fun w33 l16 o16 => ?_)
       refine xt_nil ?_
       refine x_exit ?_
       refine x_seq ?_
       obtain ⟨z, hzx, hz6, hzn, oz, hzr, hzc⟩ : ∃ z : LNd, z.x = { y1.x with log := lay y1.x.log pn L } ∧ RowOut (OneB b6) z.A ∧ (∀ n c, RowOut (OwnB (.slice D.NA n c)) z.A) ∧ OwnI w33 D.NA D.ns.length D.nc 0 69 20 D.ns.length ((D.ns.set i z).flatMap ndC) ∧ FRow w33 (grown F w w33) z.A (cmdsC z.x.log) ∧ z.x.log.length ≤ z.c := by
        first
         | exact ⟨{ y1 with x := { y1.x with log := lay y1.x.log pn L }, A := A9, c := c9 }, rfl, (inferInstance : RowOut (OneB b6) A9), (fun n c => (inferInstance : RowOut (OwnB (.slice D.NA n c)) A9)), o16, FRow.own (OwnI.own (w := w33) (A := A9)) Ge.le, hc9⟩
         | (have hjk : j = k := by omega
            have he : lay y1.x.log pn L = y1.x.log := by rw [hlay, List.drop_eq_nil_of_le (by omega), lay_nil]
            refine ⟨y1, by rw [he], by rw [hyA]; infer_instance, hro1, OwnI.mk OwnI.own, ?_, hc1⟩
            rw [hyA, hyl]
            exact ((h.logs y hym).keep (kpc : Keep (OwnB (.slice D.NA D.ns.length D.nc)) w w33) (fun k e e2 => h.fq k e (.inr (.inl (ownB_blk.1 e2))))).mono (fun k e => .inl e))
       haveI hzR : Row w33 z.A (cmdsC z.x.log) := ⟨hzr.row⟩
       have hzl : z.x.log.length ≤ 1000000 := by rw [hzx]; exact Nat.le_trans (lay_le _ _ _) (by omega)
       refine x_drawL (OneB b6) (allS) (.take 0 (.take 1 (.take 2 (.take 3 (.take 4 (.take 5 (.eff 6 (.take 7 (.last 8))))))))) mixed (by kernel_rfl) (fun _ _ _ _ _ h => h) (fun w34 l34 => ?_)
       refine xt_Fb rfl ?_
       refine xt_Lc rfl ?_
       refine xt_v rfl v_move ?_
       refine xt_v rfl v_len ?_
       refine xt_v rfl (v_add (by omega)) ?_
       refine xt_Fb rfl ?_
       refine xt_s rfl (e_store fun w35 l6 k6 => ?_)
       refine xt_Fb rfl ?_
       refine xt_lastS rfl (e_store fun w36 l8 k8 => ?_)
       refine x_drawL (NoB) (allS) (.take 0 (.take 1 (.take 2 (.take 3 (.take 4 (.take 5 (.take 6 (.take 7 (.take 8 (.take 9 (.take 10 (.take 11 (.take 12 (.free 13 .done)))))))))))))) mixed (by kernel_rfl) (fun _ _ _ _ _ h => h) (fun w37 l37 => ?_)
       refine xt_v rfl v_move ?_
       refine xt_v rfl v_move ?_
       refine xt_Nc rfl ?_
       refine xt_Fb rfl ?_
       refine xt_Lc rfl ?_
       refine xt_Fb rfl ?_
       refine xt_Lc rfl ?_
       refine xt_Fb rfl ?_
       refine xt_Lc rfl ?_
       refine xt_v rfl v_min ?_
       refine xt_v rfl v_max ?_
       refine xt_Nc rfl ?_
       refine xt_Fb rfl ?_
       refine xt_fs rfl (e_storeC i 4 { z with x := { z.x with commit := max z.x.commit (min m.m.commit (m.m.prev + k)) } } fun w38 l13 o13 => ?_)
       refine xt_nil ?_
       have hres : ∃ (z : LNd) (re : Bl), D.pure.more m.m y.x = (D.pure.setN i z.x).send re ∧ re.cmds = [] ∧ Blk w38 b6 (.cells (blC ⟨re, none, 0⟩).toArray 75 (0, 0)) ∧ OwnI w38 D.NA D.ns.length D.nc 0 69 20 D.ns.length ((D.ns.set i z).flatMap ndC) ∧ FRow w38 (grown F w w38) z.A (cmdsC z.x.log) ∧ z.x.log.length ≤ z.c := by
        have hp := more_yes (q := D.pure) (log := lay y1.x.log pn L) c1 hgood hpn (hL ▸ hLk) (by rw [hyx, hL])
        rw [hti, ← hpn] at hp
        exact ⟨{ z with x := { z.x with commit := max z.x.commit (min m.m.commit (m.m.prev + k)) } }, { Bl.zero with kind := 4, frm := m.m.to, to := m.m.frm, term := y.x.term, ok := true, mat := m.m.prev + k }, by rw [hp, hzx, hyx], rfl, ⟨Blk.eq⟩, o13, ⟨Row.row (w := w38) (A := z.A), fun a ha => (hzr.blk a ha).imp id (fun e => ⟨e.1, Nat.lt_of_lt_of_le e.2 Ge.le⟩)⟩, hzc⟩
       obtain ⟨z, re, hpure, hre0, hb6, oz, hzr, hzc⟩ := hres
       have hQ : QuAt w38 (grown F w w38) q (D.setN i z) := h.setNF (fun _ e => .inl e) (fun _ e => e) (kpc : Keep (OwnB (.slice D.NA D.ns.length D.nc)) w w38) (fun k _ e => ownB_blk.1 e) oz.own hzr hzc
       obtain ⟨F2, hF2⟩ : ∃ F2, F2 = grown F w w38 := ⟨_, rfl⟩
       rw [← hF2] at hQ
       have hsub : Sub F2 F w := by rw [hF2]; exact grown_sub
       refine x_regionL ?_
       refine xl_v v_move ?_
       refine xl_Lb ?_
       refine xl_call (send_ok q (D.setN i z) F2 ⟨re, none, 0⟩ w38 (hQ.ext kpc) (by show FRow _ _ none (cmdsC re.cmds); rw [hre0]; exact FRow.nil _ _) (by show re.cmds.length ≤ 0; rw [hre0]; exact Nat.le_refl _)) ?_
       rintro _ w39 ⟨⟨BA, bc, rfl, hQ2, hBA⟩, lk12⟩
       refine xl_nil ?_
       refine fin0 rfl ?_
       have hB2 : blkA BA = blkA (D.setN i z).BA ∨ ∀ k, blkA BA = some k → w.heap.size ≤ k := hBA.imp id (fun h k e => Nat.le_trans Ge.le (h k e))
       refine ⟨rfl, ⟨_, F2, hQ2, ?_, hsub, quB_sent (D := D.setN i z) hB2⟩, lkc⟩
       rw [pure_sent, pure_setN, hpure]
     ·
      refine x_exit ?_
      refine x_seq ?_
      obtain ⟨z, hzx, hz6, hzn, oz, hzr, hzc⟩ : ∃ z : LNd, z.x = { y1.x with log := lay y1.x.log pn L } ∧ RowOut (OneB b6) z.A ∧ (∀ n c, RowOut (OwnB (.slice D.NA n c)) z.A) ∧ OwnI w16 D.NA D.ns.length D.nc 0 69 20 D.ns.length ((D.ns.set i z).flatMap ndC) ∧ FRow w16 (grown F w w16) z.A (cmdsC z.x.log) ∧ z.x.log.length ≤ z.c := by
       first
        | exact ⟨{ y1 with x := { y1.x with log := lay y1.x.log pn L }, A := A9, c := c9 }, rfl, (inferInstance : RowOut (OneB b6) A9), (fun n c => (inferInstance : RowOut (OwnB (.slice D.NA n c)) A9)), o16, FRow.own (OwnI.own (w := w16) (A := A9)) Ge.le, hc9⟩
        | (have hjk : j = k := by omega
           have he : lay y1.x.log pn L = y1.x.log := by rw [hlay, List.drop_eq_nil_of_le (by omega), lay_nil]
           refine ⟨y1, by rw [he], by rw [hyA]; infer_instance, hro1, OwnI.mk OwnI.own, ?_, hc1⟩
           rw [hyA, hyl]
           exact ((h.logs y hym).keep (kpc : Keep (OwnB (.slice D.NA D.ns.length D.nc)) w w16) (fun k e e2 => h.fq k e (.inr (.inl (ownB_blk.1 e2))))).mono (fun k e => .inl e))
      haveI hzR : Row w16 z.A (cmdsC z.x.log) := ⟨hzr.row⟩
      have hzl : z.x.log.length ≤ 1000000 := by rw [hzx]; exact Nat.le_trans (lay_le _ _ _) (by omega)
      refine x_drawL (OneB b6) (allS) (.take 0 (.take 1 (.take 2 (.take 3 (.take 4 (.take 5 (.eff 6 (.take 7 (.last 8))))))))) mixed (by kernel_rfl) (fun _ _ _ _ _ h => h) (fun w40 l40 => ?_)
      refine xt_Fb rfl ?_
      refine xt_Lc rfl ?_
      refine xt_v rfl v_move ?_
      refine xt_v rfl v_len ?_
      refine xt_v rfl (v_add (by omega)) ?_
      refine xt_Fb rfl ?_
      refine xt_s rfl (e_store fun w41 l6 k6 => ?_)
      refine xt_Fb rfl ?_
      refine xt_lastS rfl (e_store fun w42 l8 k8 => ?_)
      refine x_drawL (NoB) (allS) (.take 0 (.take 1 (.take 2 (.take 3 (.take 4 (.take 5 (.take 6 (.take 7 (.take 8 (.take 9 (.take 10 (.take 11 (.take 12 (.free 13 .done)))))))))))))) mixed (by kernel_rfl) (fun _ _ _ _ _ h => h) (fun w43 l43 => ?_)
      refine xt_v rfl v_move ?_
      refine xt_v rfl v_move ?_
      refine xt_Nc rfl ?_
      refine xt_Fb rfl ?_
      refine xt_Lc rfl ?_
      refine xt_Fb rfl ?_
      refine xt_Lc rfl ?_
      refine xt_Fb rfl ?_
      refine xt_Lc rfl ?_
      refine xt_v rfl v_min ?_
      refine xt_v rfl v_max ?_
      refine xt_Nc rfl ?_
      refine xt_Fb rfl ?_
      refine xt_fs rfl (e_storeC i 4 { z with x := { z.x with commit := max z.x.commit (min m.m.commit (m.m.prev + k)) } } fun w44 l13 o13 => ?_)
      refine xt_nil ?_
      have hres : ∃ (z : LNd) (re : Bl), D.pure.more m.m y.x = (D.pure.setN i z.x).send re ∧ re.cmds = [] ∧ Blk w44 b6 (.cells (blC ⟨re, none, 0⟩).toArray 75 (0, 0)) ∧ OwnI w44 D.NA D.ns.length D.nc 0 69 20 D.ns.length ((D.ns.set i z).flatMap ndC) ∧ FRow w44 (grown F w w44) z.A (cmdsC z.x.log) ∧ z.x.log.length ≤ z.c := by
       have hp := more_yes (q := D.pure) (log := lay y1.x.log pn L) c1 hgood hpn (hL ▸ hLk) (by rw [hyx, hL])
       rw [hti, ← hpn] at hp
       exact ⟨{ z with x := { z.x with commit := max z.x.commit (min m.m.commit (m.m.prev + k)) } }, { Bl.zero with kind := 4, frm := m.m.to, to := m.m.frm, term := y.x.term, ok := true, mat := m.m.prev + k }, by rw [hp, hzx, hyx], rfl, ⟨Blk.eq⟩, o13, ⟨Row.row (w := w44) (A := z.A), fun a ha => (hzr.blk a ha).imp id (fun e => ⟨e.1, Nat.lt_of_lt_of_le e.2 Ge.le⟩)⟩, hzc⟩
      obtain ⟨z, re, hpure, hre0, hb6, oz, hzr, hzc⟩ := hres
      have hQ : QuAt w44 (grown F w w44) q (D.setN i z) := h.setNF (fun _ e => .inl e) (fun _ e => e) (kpc : Keep (OwnB (.slice D.NA D.ns.length D.nc)) w w44) (fun k _ e => ownB_blk.1 e) oz.own hzr hzc
      obtain ⟨F2, hF2⟩ : ∃ F2, F2 = grown F w w44 := ⟨_, rfl⟩
      rw [← hF2] at hQ
      have hsub : Sub F2 F w := by rw [hF2]; exact grown_sub
      refine x_regionL ?_
      refine xl_v v_move ?_
      refine xl_Lb ?_
      refine xl_call (send_ok q (D.setN i z) F2 ⟨re, none, 0⟩ w44 (hQ.ext kpc) (by show FRow _ _ none (cmdsC re.cmds); rw [hre0]; exact FRow.nil _ _) (by show re.cmds.length ≤ 0; rw [hre0]; exact Nat.le_refl _)) ?_
      rintro _ w45 ⟨⟨BA, bc, rfl, hQ2, hBA⟩, lk12⟩
      refine xl_nil ?_
      refine fin0 rfl ?_
      have hB2 : blkA BA = blkA (D.setN i z).BA ∨ ∀ k, blkA BA = some k → w.heap.size ≤ k := hBA.imp id (fun h k e => Nat.le_trans Ge.le (h k e))
      refine ⟨rfl, ⟨_, F2, hQ2, ?_, hsub, quB_sent (D := D.setN i z) hB2⟩, lkc⟩
      rw [pure_sent, pure_setN, hpure]
end Go.Proofs.YtljdkelgapndgaaGreat
set_option linter.all false
set_option maxRecDepth 100000
set_option synthInstance.maxSize 100000
set_option synthInstance.maxHeartbeats 400000
namespace Go.Proofs.YtljdkelgapndgaaGreat
open Go.Wst
open Go.Wst.Qm
theorem erase_flat {α : Type} {enc : α → List Value} {sz : Nat} (hsz : ∀ x, (enc x).length = sz) (xs : List α) (k n : Nat) (hk : k < xs.length) (hn : n + 1 = xs.length) : (setL (xs.flatMap enc) (k * sz) ((xs.drop (k + 1)).flatMap enc)).take (n * sz) = (xs.eraseIdx k).flatMap enc := by
 have h1 : (xs.flatMap enc).take (k * sz) = (xs.take k).flatMap enc := (flat_take hsz xs k).symm
 have h2 : ((xs.take k).flatMap enc ++ (xs.drop (k + 1)).flatMap enc).length = n * sz := by
  rw [List.length_append, flat_len hsz, flat_len hsz, List.length_take, List.length_drop, ← Nat.add_mul]
  congr 1
  omega
 unfold setL
 rw [h1, List.take_append_of_le_length (by omega), List.take_of_length_le (by omega), List.eraseIdx_eq_take_drop_succ, List.flatMap_append]

theorem deleteB_ok (A : Option Addr) (n c : Nat) (xs : List LBl) (k : Nat) (w : World) (ho : w.ownsRow 0 75 12 (.slice A n c) n (xs.flatMap blC)) (hl : xs.length = n) (hk : k < n) (hn : n ≤ 1000) : Ret Tryz.prog 63 #[.slice A n c, .int .i64 (k : Int), .int .i64 ((k : Int) + 1)] w (fun v w' => v = .slice A (n - 1) c ∧ w'.ownsRow 0 75 12 (.slice A (n - 1) c) (n - 1) ((xs.eraseIdx k).flatMap blC) ∧ Lk w' w (OwnB (.slice A n c))) := by
 haveI hO : OwnI w A n c 0 _ 12 n _ := ⟨ho⟩
 have hnc : n ≤ c := by
  obtain ⟨_, _, e, _, e2, _⟩ := ownsRow_form ho
  cases e
  exact e2
 have hA : A.isSome = true := row_some (w := w) (A := A) (cs := xs.flatMap blC) inferInstance (by rw [flat_len (sz := 12) (fun _ => rfl)]; omega)
 refine ret_of_x (N := 33) (l := [.slice A n c, .int .i64 (k : Int), .int .i64 ((k : Int) + 1)]) Tryz.func63 rfl rfl (Nat.le_of_ble_eq_true rfl) ?_
 refine x_seq ?_
 refine x_regionL ?_
 refine xl_v v_assign ?_
 refine xl_nil ?_
 refine x_seq ?_
 refine x_regionL ?_
 refine xl_v v_move ?_
 refine xl_v v_move ?_
 refine xl_v v_move ?_
 refine xl_v v_move ?_
 refine xl_v v_len ?_
 refine xl_v (v_sliceLHM k (k + 1) n rfl (by omega) rfl (by omega) (by omega) (by omega)) ?_
 refine xl_nil ?_
 refine x_seq ?_
 refine x_seq ?_
 refine x_regionL ?_
 refine xl_v v_move ?_
 refine xl_v v_move ?_
 refine xl_v (v_eqlF (by omega)) ?_
 refine xl_nil ?_
 refine x_condF ?_
 refine x_skip ?_
 refine x_seq ?_
 refine x_regionL ?_
 refine xl_v v_move ?_
 refine xl_v v_len ?_
 refine xl_v v_assign ?_
 refine xl_nil ?_
 refine x_seq ?_
 refine x_drawL (NoB) (allS) (.take 0 (.take 1 (.take 2 (.take 3 (.take 4 (.take 5 (.free 6 (.take 7 .done)))))))) mixed (by kernel_rfl) (fun _ _ _ _ _ h => h) (fun w1 l1 => ?_)
 refine xt_v rfl v_move ?_
 refine xt_v rfl v_move ?_
 refine xt_v rfl (v_sliceH k rfl (by omega)) ?_
 refine xt_v rfl v_move ?_
 refine xt_v rfl v_move ?_
 refine xt_v rfl (v_sliceL (k + 1) (by omega) (by omega)) ?_
 haveI hrd : Row w1 (if c = k + 1 then A else A.map (·.add ((k + 1) * 12))) ((xs.drop (k + 1)).flatMap blC) := ⟨by
  have := row_drop (k := k + 1) (sz := 12) (n := n) (c := c) (Row.row (w := w1) (A := A) (cs := xs.flatMap blC)) (by rw [flat_len (sz := 12) (fun _ => rfl), hl]) hnc
  rwa [← flat_drop (enc := blC) (sz := 12) (fun _ => rfl)] at this⟩
 refine xt_fe rfl (e_appendIn (OwnI.own (w := w1) (A := A)) (by rw [flat_len (enc := blC) (sz := 12) (fun _ => rfl), List.length_drop]; congr 1; omega) Cell1L.eq hA (by split <;> simp [hA]) (by omega) fun w2 l6 ho6 => ?_)
 refine xt_v rfl v_assign ?_
 refine xt_nil ?_
 refine x_seq ?_
 refine x_regionL ?_
 refine xl_v v_move ?_
 refine xl_v v_move ?_
 refine xl_v v_len ?_
 refine xl_v v_move ?_
 refine xl_v (v_sliceLH (n - 1) n (by omega) (by omega) (by omega) (by omega)) ?_
 refine xl_e0 (e_clearEnd (k := n - 1) (own_ext ho6 lkc) rfl rfl (by omega) (by decide) (by decide) fun w3 l7 ho7 => ?_)
 refine xl_nil ?_
 refine x_seq ?_
 refine x_regionL ?_
 refine xl_v v_move ?_
 refine xl_v v_assign ?_
 refine xl_nil ?_
 refine x_ret ?_
 refine fin1 rfl ?_
 have he : k + (n - (k + 1)) = n - 1 := by omega
 refine ⟨by rw [he], ?_, lkc⟩
 rw [erase_flat (enc := blC) (sz := 12) (fun _ => rfl) xs k (n - 1) (by omega) (by omega)] at ho7
 exact ho7
def handlers : List (Int × Value) := [(1, .func (.func 71) #[] #[]), (2, .func (.func 75) #[] #[]), (3, .func (.func 76) #[] #[]), (4, .func (.func 77) #[] #[])]

theorem comes_ok (w : World) : Ret Tryz.prog 64 #[] w (fun v w' => (∃ b, v = .map (some b) ∧ MapB w' b (Value.int .i64) handlers) ∧ Lk w' w NoB) := by
 refine ret_of_x (N := 3) (l := []) Tryz.func64 rfl rfl (Nat.le_of_ble_eq_true rfl) ?_
 refine x_seq ?_
 refine x_regionL ?_
 refine xl_v v_assign ?_
 refine xl_nil ?_
 refine x_seq ?_
 refine x_regionL ?_
 refine xl_e (e_makeMap fun b1 w1 n1 l1 k1 => ?_)
 haveI hm0 : MapI w1 b1 Int (Value.int .i64) [] := ⟨mapB_made _ inferInstance⟩
 refine xl_s (e_insert 1 rfl fun w2 l2 m2 => ?_)
 refine xl_s (e_insert 2 rfl fun w3 l3 m3 => ?_)
 refine xl_s (e_insert 3 rfl fun w4 l4 m4 => ?_)
 refine xl_s (e_insert 4 rfl fun w5 l5 m5 => ?_)
 refine xl_v v_move ?_
 refine xl_v v_assign ?_
 refine xl_nil ?_
 refine x_ret ?_
 refine fin1 rfl ?_
 exact ⟨⟨b1, rfl, m5.m⟩, lkc⟩
def _root_.Go.Wst.Qm.Qu.goes (q : Qu) (m : Bl) (x : Nd) : Qu := if m.kind = 1 then q.asked m x else if m.kind = 2 then q.voted m x else if m.kind = 3 then q.more m x else q.matched m x
def handler (k : Int) : Value := (akey handlers k).getD .nilFunc
theorem handle_ok (q : Nat) (D : LQu) (F : Nat → Prop) (i : Nat) (y : LNd) (m : LBl) (w : World) (h : QuAt w F q D) (hy : D.ns[i]? = some y) (hm : MsgAt w F D i m) (hn5 : D.ns.length ≤ 5) (hodd : D.ns.length % 2 = 1) (hkk : 1 ≤ m.m.kind ∧ m.m.kind ≤ 4) (ok : y.x.Ok D.ns.length) (hp : 0 ≤ m.m.prev ∧ m.m.prev ≤ 256) (hmm : m.m.kind = 4 → m.m.ok = true → y.x.role = 3 → m.m.term = y.x.term → m.m.mat ≤ y.x.log.length) :
    CallV Tryz.prog (handler m.m.kind) [.pointer (some ⟨q, 0, none⟩), padd D.NA (i * 20), .agg (blC m).toArray] w (fun v w' => v = .tuple #[] ∧ QMade q F D w (D.pure.goes m.m y.x) w' ∧ Lk w' w (QuB q D)) := by
 have hc : m.m.kind = 1 ∨ m.m.kind = 2 ∨ m.m.kind = 3 ∨ m.m.kind = 4 := by omega
 rcases hc with e | e | e | e
 ·have hr : D.pure.goes m.m y.x = D.pure.asked m.m y.x := by unfold Qu.goes; rw [if_pos e]
  rw [hr, e]
  exact CallV.of_ret (a := []) (c := []) (asked_ok q D F i y m w h hy hm ok.ll)
 ·have hr : D.pure.goes m.m y.x = D.pure.voted m.m y.x := by unfold Qu.goes; rw [if_neg (by omega), if_pos e]
  rw [hr, e]
  exact CallV.of_ret (a := []) (c := []) (voted_ok q D F i y m w h hy hm hn5 ok.vl ok.nl ok.ml ok.ll)
 ·have hr : D.pure.goes m.m y.x = D.pure.more m.m y.x := by unfold Qu.goes; rw [if_neg (by omega), if_neg (by omega), if_pos e]
  rw [hr, e]
  exact CallV.of_ret (a := []) (c := []) (more_ok q D F i y m w h hy hm ok.ll hp)
 ·have hr : D.pure.goes m.m y.x = D.pure.matched m.m y.x := by unfold Qu.goes; rw [if_neg (by omega), if_neg (by omega), if_neg (by omega)]
  rw [hr, e]
  exact CallV.of_ret (a := []) (c := []) (matchedQ_ok q D F i y m w h hy hm hn5 hodd ok.nl ok.ml ok.ll ok.c0 (fun a ha => (ok.mb a ha).2) (hmm e))

end Go.Proofs.YtljdkelgapndgaaGreat
