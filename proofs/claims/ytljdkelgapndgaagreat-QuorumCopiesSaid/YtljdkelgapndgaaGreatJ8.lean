/-
 Walks, printed by a program of this workplace (wip/tools/sx.py) off the functions' code and a text of contracts.
-/
import Derived.Test.YtljdkelgapndgaaGreatJ7
set_option linter.all false
set_option maxRecDepth 100000
set_option synthInstance.maxSize 100000
set_option synthInstance.maxHeartbeats 400000
namespace Go.Proofs.YtljdkelgapndgaaGreat
open Go.Wst
open Go.Wst.Qm
abbrev askB (n t : Int) (l : List Cmd) (j : Int) : Bl := { Bl.zero with kind := 1, frm := n, to := j, term := t, last := l.length, lastT := ofT l }
def AskI (q : Nat) (FQ : Nat → Prop) (D1 : LQu) (n t : Int) (l : List Cmd) (wb : World) : Seen → (Nat → Prop) → World → Prop := fun pre F W =>
 ∃ (js : List Int) (D' : LQu), pre = js.map (fun j => [Value.int .i64 j]) ∧ QuAt W FQ q D' ∧ D'.ns = D1.ns ∧ D'.NA = D1.NA ∧ D'.nc = D1.nc ∧ D'.pure = js.foldl (fun q j => q.send (askB n t l j)) D1.pure ∧ (∀ k, F k ↔ QuB q D' k) ∧ (∀ k, QuB q D' k → QuB q D1 k ∨ wb.heap.size ≤ k) ∧ Keep (QuB q D1) wb W
theorem askI_stable {q : Nat} {FQ : Nat → Prop} {D1 : LQu} {n t : Int} {l : List Cmd} {wb : World} (hF : ∀ k, FQ k → k < wb.heap.size) : Stable (AskI q FQ D1 n t l wb) wb := by
 refine ⟨?_, ?_⟩
 ·rintro pre F W ⟨js, D', h0, h1, h2, h3, h4, h5, h6, h7, h8⟩ k hk
  exact h1.lt k ((h6 k).1 hk)
 ·rintro pre F W W' S ⟨js, D', h0, h1, h2, h3, h4, h5, h6, h7, h8⟩ hk hs hn
  refine ⟨js, D', h0, h1.keep hk (fun k e => e.elim (fun e => hs k ((h6 k).2 e)) (fun e e2 => ?_)), h2, h3, h4, h5, h6, h7, h8.then hk (fun k hlt e => ?_)⟩
  ·have := hn k e2; have := hF k e; omega
  ·have := hn k e; omega
theorem seek_role {q : Qu} {n : Int} (h : (q.node n).role = 3) : q.seek n = (q, 160) := by unfold Qu.seek; simp only [if_pos h]
theorem seek_top {q : Qu} {n : Int} (h : (q.node n).role ≠ 3) (h2 : top ≤ (q.node n).term) : q.seek n = (q, 161) := by unfold Qu.seek; simp only [if_neg h, if_pos h2]
theorem seek_yes {q : Qu} {n : Int} {y : Nd} (h : (q.node n).role ≠ 3) (h2 : ¬ top ≤ (q.node n).term) (hy : y = Nd.leads { (q.node n).voter ((q.node n).term + 1) with role := 2, vote := n, votes := falses.set n.toNat true } q.nodes.length n.toNat) :
    q.seek n = ((Qm.others q.nodes.length n).foldl (fun q j => q.send (askB n y.term y.log j)) (q.setN n.toNat y), 0) := by
 unfold Qu.seek
 simp only [if_neg h, if_neg h2]
 rw [← hy]
set_option maxHeartbeats 1000000 in
theorem seek_ok (q : Nat) (D : LQu) (FQ : Nat → Prop) (i : Nat) (y : LNd) (p : Pk) (w : World) (h : QuAt w FQ q D) (hy : D.ns[i]? = some y) (hpa : p.a = (i : Int)) (hn5 : D.ns.length ≤ 5) (ok : y.x.Ok D.ns.length) : Ret Tryz.prog 36 #[.pointer (some ⟨q, 0, none⟩), padd D.NA (i * 20), .agg (pkC p).toArray] w (fun v w' => v = .int .i64 (D.pure.seek p.a).2 ∧ QMade q FQ D w (D.pure.seek p.a).1 w' ∧ Lk w' w (QuB q D)) := by
 haveI hb : Blk w q _ := ⟨h.hb⟩
 have hi : i < D.ns.length := (List.getElem?_eq_some_iff.1 hy).1
 haveI li : LtI i D.ns.length := ⟨hi⟩
 have hA := h.n1
 have hym : y ∈ D.ns := List.mem_of_getElem? hy
 haveI hN : OwnI w D.NA D.ns.length D.nc 0 69 20 D.ns.length ((D.ns.set i y).flatMap ndC) := ⟨by rw [set_self hy]; exact h.nodes⟩
 haveI hrl : Row w y.A (cmdsC y.x.log) := ⟨(h.logs y hym).row⟩
 haveI hro : ∀ n c, RowOut (OwnB (.slice D.NA n c)) y.A := fun n c => (h.logs y hym).out (fun k e e2 => h.fq k e (.inr (.inl (ownB_blk.1 e2))))
 haveI hqn := h.qn
 have hil : i < (D.ns.set i y).length := by simpa using hi
 refine ret_of_x (N := 76) (l := [.pointer (some ⟨q, 0, none⟩), padd D.NA (i * 20), .agg (pkC p).toArray]) Tryz.func36 rfl rfl (Nat.le_of_ble_eq_true rfl) ?_
 refine x_seq ?_
 have hnode : D.pure.node p.a = y.x := by rw [hpa]; exact pure_node hy
 haveI holdA : OldA w y.A := (h.logs y hym).old h.fl
 have hll := ok.ll
 have hlc := h.lc y hym
 have ht0 := ok.t0
 have ht1 := ok.t1
 have htop : top = 2147483647 := rfl
 refine x_regionL ?_
 refine xl_e (e_box fun b3 w1 n3 l3 k3 => ?_)
 refine xl_e (e_box fun b4 w2 n4 l4 k4 => ?_)
 refine xl_e (e_box fun b5 w3 n5 l5 k5 => ?_)
 refine xl_v v_assign ?_
 refine xl_nil ?_
 refine x_seq ?_
 refine x_block ?_
 refine x_seq ?_
 refine x_regionL ?_
 refine xl_Lc ?_
 refine xl_Nc ?_
 refine xl_Fb ?_
 refine xl_Lc ?_
 refine xl_v v_eql ?_
 refine xl_v v_assign ?_
 refine xl_nil ?_
 first | refine x_condP (fun c1 => ?_) (fun c1 => ?_) | refine x_condN (fun c1 => ?_) (fun c1 => ?_) | refine x_condE (fun c1 => ?_) (fun c1 => ?_)
 ·
  refine x_seq ?_
  refine x_regionL ?_
  refine xl_v v_assign ?_
  refine xl_nil ?_
  refine x_ret ?_
  refine fin1 rfl ?_
  have hr := seek_role (q := D.pure) (n := p.a) (by rw [hnode]; exact c1)
  exact ⟨by rw [hr], QMade.stay h kpc (by rw [hr]), lkc⟩
 ·
  have hnr : (D.pure.node p.a).role ≠ 3 := by rw [hnode]; exact c1
  refine x_seq ?_
  refine x_regionL ?_
  refine xl_Lc ?_
  refine xl_Nc ?_
  refine xl_Fb ?_
  refine xl_Fb ?_
  refine xl_Lc ?_
  refine xl_v v_geq ?_
  refine xl_v v_assign ?_
  refine xl_nil ?_
  first | refine x_condP (fun c2 => ?_) (fun c2 => ?_) | refine x_condN (fun c2 => ?_) (fun c2 => ?_) | refine x_condE (fun c2 => ?_) (fun c2 => ?_)
  ·
   refine x_seq ?_
   refine x_regionL ?_
   refine xl_v v_assign ?_
   refine xl_nil ?_
   refine x_ret ?_
   refine fin1 rfl ?_
   have hr := seek_top (q := D.pure) (n := p.a) hnr (by rw [hnode]; omega)
   exact ⟨by rw [hr], QMade.stay h kpc (by rw [hr]), lkc⟩
  ·
   have hnt : ¬ top ≤ (D.pure.node p.a).term := by rw [hnode]; omega
   refine x_skip ?_
   refine x_seq ?_
   refine x_drawL (NoB) (allS) (.take 0 (.take 1 (.take 2 (.take 3 (.take 4 (.take 5 (.take 6 (.free 7 .done)))))))) mixed (by kernel_rfl) (fun _ _ _ _ _ h => h) (fun w4 l4 => ?_)
   refine xt_Lc rfl ?_
   refine xt_Lc rfl ?_
   refine xt_Nc rfl ?_
   refine xt_Fb rfl ?_
   refine xt_Fb rfl ?_
   refine xt_Lc rfl ?_
   refine xt_v rfl (v_add (by omega)) ?_
   refine xt_fcall rfl (voter_ok D.NA D.ns.length D.nc 0 i D.ns y (y.x.term + 1) w4 hA) ?_
   rintro _ w5 ⟨rfl, o7, lk7⟩
   refine ⟨kpa, ?_⟩
   refine xt_nil ?_
   refine x_seq ?_
   refine x_drawL (OwnB (.slice D.NA D.ns.length D.nc)) (allS) (.take 0 (.take 1 (.take 2 (.take 3 (.take 4 (.take 5 (.eff 6 (.take 7 (.take 8 (.take 9 (.eff 10 .done))))))))))) mixed (by kernel_rfl) (fun _ _ _ _ _ h => h) (fun w6 l6 => ?_)
   refine xt_Lc rfl ?_
   refine xt_Lc rfl ?_
   refine xt_Fb rfl ?_
   refine xt_Lc rfl ?_
   refine xt_Nc rfl ?_
   refine xt_Fb rfl ?_
   refine xt_s rfl (e_storeC i 3 { y.voter (y.x.term + 1) with x := { (y.voter (y.x.term + 1)).x with role := 2 } } fun w7 l6 o6 => ?_)
   refine xt_Nc rfl ?_
   refine xt_Fb rfl ?_
   refine xt_Fb rfl ?_
   refine xt_s rfl (e_storeC i 1 { y.voter (y.x.term + 1) with x := { (y.voter (y.x.term + 1)).x with role := 2, vote := p.a } } fun w8 l10 o10 => ?_)
   refine xt_nil ?_
   refine x_seq ?_
   refine x_drawL (NoB) (allS) (.take 0 (.take 1 (.take 2 (.take 3 (.take 4 (.take 5 (.free 6 .done))))))) mixed (by kernel_rfl) (fun _ _ _ _ _ h => h) (fun w9 l9 => ?_)
   refine xt_Lc rfl ?_
   refine xt_Fb rfl ?_
   refine xt_Lc rfl ?_
   refine xt_Nc rfl ?_
   refine xt_Fb rfl ?_
   refine xt_v rfl (v_indexAA hpa (by omega) (by decide) hA) ?_
   refine xt_fs rfl (e_storeC i (5 + i) { y.voter (y.x.term + 1) with x := { (y.voter (y.x.term + 1)).x with role := 2, vote := p.a, votes := falses.set i true } } (ho := by simp; omega) (hu := setL_votes (k := i) (by omega) rfl _) fun w10 l66 o66 => ?_)
   refine xt_nil ?_
   refine x_seq ?_
   refine x_regionL ?_
   refine xl_Lc ?_
   refine xl_Fb ?_
   refine xl_v (v_congr (u := .int .i64 (i : Int)) v_load (by rw [hpa])) ?_
   obtain ⟨y0, hy0⟩ : ∃ y0 : LNd, y0 = { y.voter (y.x.term + 1) with x := { (y.voter (y.x.term + 1)).x with role := 2, vote := p.a, votes := falses.set i true } } := ⟨_, rfl⟩
   rw [← hy0] at o66
   have hQ0 : QuAt w10 FQ q (D.setN i y0) := h.setI kpc o66 hym (by rw [hy0]; rfl) (by rw [hy0]; rfl) (by rw [hy0]; rfl)
   refine xl_call (leads_ok q (D.setN i y0) FQ i y0 w10 (hQ0.ext kpc) (get_setNL hi) (by rw [len_setNL]; exact hn5) (by rw [hy0]; simp [falses]) (by rw [hy0]; rfl) (by rw [hy0]; rfl) (by rw [hy0]; exact hll)) ?_
   rintro _ w11 ⟨rfl, hQ3, lk3⟩
   rw [setN_setNL, len_setNL] at hQ3
   obtain ⟨y1, hy1⟩ : ∃ y1, y1 = y0.leads D.ns.length i := ⟨_, rfl⟩
   rw [← hy1] at hQ3
   have lk3' : Lk w11 w10 (OwnB (.slice D.NA (D.setN i y0).ns.length D.nc)) := lk3
   obtain ⟨D1, hD1⟩ : ∃ D1, D1 = D.setN i y1 := ⟨_, rfl⟩
   rw [← hD1] at hQ3
   have hD1n : D1.NA = D.NA ∧ D1.nc = D.nc ∧ D1.ns = D.ns.set i y1 ∧ D1.BA = D.BA := by rw [hD1]; exact ⟨rfl, rfl, rfl, rfl⟩
   have hlen1 : D1.ns.length = D.ns.length := by rw [hD1n.2.2.1]; simp
   haveI hb1 : Blk w11 q _ := ⟨hQ3.hb⟩
   have hy1l : y1.x.log = y.x.log := by rw [hy1, LNd.leads, hy0]; unfold Nd.leads; split <;> rfl
   have hr := seek_yes (q := D.pure) (n := p.a) (y := y1.x) hnr hnt (by rw [hnode, pure_len, hpa, hy1, hy0, hpa]; rfl)
   refine xl_nil ?_
   refine x_seq ?_
   refine x_seq ?_
   refine x_regionL ?_
   refine xl_Lc ?_
   refine xl_Fb ?_
   refine xl_Lc ?_
   refine xl_call (others_ok q p.a w11) ?_
   rintro _ w12 ⟨b6, b7, rfl, kb6, kb7, hb6, hb7, lk9⟩
   refine xl_nil ?_
   refine x_block ?_
   have hwb6 : w.heap.size ≤ b6 := Nat.le_trans Ge.le hb6
   have hwb7 : w.heap.size ≤ b7 := Nat.le_trans Ge.le hb7
   have hwb3 : w.heap.size ≤ b3 := Nat.le_of_eq n3.eq.symm
   have hwb4 : w.heap.size ≤ b4 := by rw [n4.eq]; exact Ge.le
   have hwb5 : w.heap.size ≤ b5 := by rw [n5.eq]; exact Ge.le
   have hq1 : ∀ k, QuB q D1 k → k < w.heap.size := fun k e => h.lt k (quB_eq (D := D) (D1 := D1) hD1n.1 hD1n.2.2.2 k e)
   have hQs := hQ3.ext (kpc : Keep NoB _ w12)
   haveI sF1 : ∀ W, SubF (QuB q D1) (QuB q D) W := fun W => ⟨fun k _ e => quB_eq (D := D) (D1 := D1) hD1n.1 hD1n.2.2.2 k e⟩
   haveI ns3 : NotS (QuB q D1) b3 := ⟨fun e => by have := hq1 _ e; omega⟩
   haveI ns4 : NotS (QuB q D1) b4 := ⟨fun e => by have := hq1 _ e; omega⟩
   haveI ns5 : NotS (QuB q D1) b5 := ⟨fun e => by have := hq1 _ e; omega⟩
   have hbk3 : b3 < (w12).heap.size := Has.lt
   refine x_range (ps := [52]) (fun k => k = b6 ∨ k = b7) (OthAl D1.ns.length p.a) (OthFin D1.ns.length p.a) (fun W l => (haveI lw : Lk W w12 NoB := l; othersIter b6 b7 q p.a D1 W (by omega))) (by rintro k (e | e) <;> rw [e] <;> exact Has.lt) (by rintro pre v ⟨k, _, e⟩; obtain ⟨a, b, _, _, h2⟩ := List.map_eq_append_iff.1 e.symm; obtain ⟨j, c, _, h3, _⟩ := List.map_eq_cons_iff.1 h2; rw [← h3]; rfl) (AskI q FQ D1 p.a y1.x.term y1.x.log w12) (fun _ _ _ _ => False) (QuB q D1) (askI_stable (fun k e => hQs.fl k e)) (fun _ => ⟨fun _ _ _ h => h.elim, fun _ _ _ _ _ h => h.elim⟩) (⟨[], D1, rfl, hQs, rfl, rfl, rfl, rfl, fun k => Iff.rfl, fun k e => .inl e, Keep.refl _ _⟩) (fun k hk e => by have := hq1 k hk; omega) (fun v τ => Ev τ 3 (.pointer (some ⟨b3, 0, none⟩)) ∧ Ev τ 4 (.pointer (some ⟨b4, 0, none⟩)) ∧ Ev τ 5 (.pointer (some ⟨b5, 0, none⟩)) ∧ ∃ x, v = [x] ∧ Ev τ 7 x) ?assign ?body ?normal ?jump
   case assign =>
    intro l13 v13 w13 hv13
    obtain ⟨x, rfl⟩ : ∃ x, v13 = [x] := List.length_eq_one_iff.1 hv13
    simp only [updL]
    refine x_regionL ?_
    refine xl_v v_assign ?_
    refine xl_nil ?_
    exact ⟨rfl, inferInstance, inferInstance, inferInstance, x, rfl, inferInstance⟩
   case body =>
    intro l pre v F w14 τ14 ds14 hal hI hB
    obtain ⟨js, D', rfl, hQ', hns', hNA', hnc', hpure', hFe, hqb', hkw⟩ := hI
    obtain ⟨e3, e4, e5, x, rfl, e7⟩ := hB
    obtain ⟨k0, hk0, hpre⟩ := hal
    obtain ⟨j, rfl⟩ : ∃ j : Int, x = .int .i64 j := by
     obtain ⟨a, b, _, _, h2⟩ := List.map_eq_append_iff.1 hpre.symm
     obtain ⟨j, c, _, h3, _⟩ := List.map_eq_cons_iff.1 h2
     exact ⟨j, by simpa using h3.symm⟩
    haveI lkb := Lk.mk hkw
    have hy1m : D'.ns[i]? = some y1 := by rw [hns', hD1n.2.2.1]; simp [hi]
    have hN' := hQ'.nodes
    rw [hNA', hD1n.1] at hN'
    haveI hNb : OwnI w14 D.NA D'.ns.length D'.nc 0 69 20 D'.ns.length ((D'.ns.set i y1).flatMap ndC) := ⟨by rw [set_self hy1m]; exact hN'⟩
    haveI li' : LtI i D'.ns.length := ⟨(List.getElem?_eq_some_iff.1 hy1m).1⟩
    haveI hr1 : Row w14 y1.A (cmdsC y1.x.log) := ⟨(hQ'.logs y1 (List.mem_of_getElem? hy1m)).row⟩
    have hl1 : y1.x.log.length ≤ 256 := by rw [hy1l]; exact hll
    refine x_block ?_
    refine x_drawL (NoB) (allS) (.take 0 (.take 1 (.take 2 (.take 3 (.take 4 (.take 5 (.take 6 (.take 7 (.take 8 (.take 9 (.take 10 (.take 11 (.take 12 (.take 13 (.take 14 (.take 15 (.take 16 (.take 17 (.take 18 (.take 19 (.eff 20 (.take 21 (.free 22 .done))))))))))))))))))))))) mixed (by kernel_rfl) (fun _ _ _ _ _ h => h) (fun w15 l15 => ?_)
    refine xt_Lc rfl ?_
    refine xt_Fb rfl ?_
    refine xt_Lc rfl ?_
    refine xt_v rfl v_move ?_
    refine xt_Lc rfl ?_
    refine xt_Nc rfl ?_
    refine xt_Fb rfl ?_
    refine xt_Fb rfl ?_
    refine xt_Lc rfl ?_
    refine xt_Lc rfl ?_
    refine xt_Nc rfl ?_
    refine xt_Fb rfl ?_
    refine xt_Fb rfl ?_
    refine xt_Lc rfl ?_
    refine xt_v rfl v_len ?_
    refine xt_Lc rfl ?_
    refine xt_Nc rfl ?_
    refine xt_Fb rfl ?_
    refine xt_Fb rfl ?_
    refine xt_Lc rfl ?_
    refine xt_call rfl (of_ok y1.A y1.x.log.length y1.c y1.x.log w15 rfl (by omega)) ?_
    rintro _ w16 ⟨rfl, lk20⟩
    refine ⟨kpc, ?_⟩
    refine xt_v rfl v_build ?_
    refine xt_fcall rfl (send_ok q D' FQ ⟨askB p.a y1.x.term y1.x.log j, none, 0⟩ w16 (hQ'.ext kpc) (FRow.nil _ _) (Nat.le_refl _)) ?_
    rintro _ w17 ⟨⟨BA, bc, rfl, hQ2, hBA⟩, lk22⟩
    refine ⟨kpa, ?_⟩
    refine xt_nil ?_
    have hB2 := quB_sent (q := q) (D := D') (bs := sentB D' ⟨askB p.a y1.x.term y1.x.log j, none, 0⟩) (BA := BA) (bc := bc) (n := w14.heap.size) (hBA.imp id (fun h k e => Nat.le_trans Ge.le (h k e)))
    have hkB : Keep (QuB q D') w14 w17 := kpc
    refine ⟨fun k => QuB q _ k, ⟨js ++ [j], _, by simp, hQ2, hns', hNA', hnc', ?_, fun k => Iff.rfl, ?_, ?_⟩, ?_, ?_⟩
    ·rw [pure_sent, hpure', List.foldl_append]; rfl
    ·intro k e
     rcases hB2 k e with e | e
     ·exact hqb' k e
     ·exact .inr (Nat.le_trans hkw.size e)
    ·exact hkw.then hkB (fun k hlt e => (hqb' k e).elim id (fun h => by omega))
    ·exact hkB.mono (fun k _ e => (hFe k).2 e)
    ·intro k e
     exact (hB2 k e).imp (fun e => (hFe k).2 e) id
   case normal =>
    intro D18 pre F w18 hfin hI hkF hsF hD18 hge18 hnF18
    obtain ⟨js, D', hjs, hQ', hns', hNA', hnc', hpure', hFe, hqb', hkw⟩ := hI
    haveI lkF : Lk w18 _ (QuB q D1) := ⟨hkF⟩
    have hjs2 : js = Qm.others D.ns.length p.a := by
     have h1 : _ = (Qm.others D1.ns.length p.a).map (fun j => [Value.int .i64 j]) := hfin
     rw [hjs, hlen1] at h1
     exact (List.map_inj_right (fun a b e => by simpa using e)).1 h1
    have hDw : w.heap.size ≤ D18 := Nat.le_trans Ge.le hge18
    haveI sD : SubF (fun k => k ∈ [D18]) (QuB q D) w := ⟨fun k hk e => by simp at e; omega⟩
    refine x_seq ?_
    refine x_regionL ?_
    refine xl_v v_assign ?_
    refine xl_nil ?_
    refine x_ret ?_
    refine finM (rs := [.tmp 6]) rfl [D18] rfl (by simpa using hD18.eq) (by simp) (fun w19 lm19 => ⟨_, inferInstance, ?_⟩)
    refine ⟨by rw [hr]; rfl, ⟨D', FQ, hQ'.keep lm19.keep ?_, ?_, Sub.refl _ _, ?_⟩, lkc⟩
    ·intro k e e2
     simp at e2
     subst e2
     rcases e with e | e
     ·exact hnF18 ((hFe _).2 e)
     ·have := hQs.fl _ e; omega
    ·rw [hpure', hr, hjs2, hD1, pure_setN, pure_len, hpa]
     rfl
    ·intro k e
     rcases hqb' k e with e | e
     ·exact .inl (quB_eq (D := D) (D1 := D1) hD1n.1 hD1n.2.2.2 k e)
     ·exact .inr (Nat.le_trans Ge.le e)
   case jump =>
    exact fun _ _ _ _ _ h => h.elim
end Go.Proofs.YtljdkelgapndgaaGreat
set_option linter.all false
set_option maxRecDepth 100000
set_option synthInstance.maxSize 100000
set_option synthInstance.maxHeartbeats 400000
namespace Go.Proofs.YtljdkelgapndgaaGreat
open Go.Wst
open Go.Wst.Qm
def doesL : List (Int × Value) := [(1, .func (.func 36) #[] #[]), (2, .func (.func 37) #[] #[]), (3, .func (.func 38) #[] #[]), (4, .func (.func 39) #[] #[])]
def doer (k : Int) : Value := (akey doesL k).getD .nilFunc
theorem doer_some (k : Int) : (akey doesL k).isSome = decide (1 ≤ k ∧ k ≤ 4) := by
 by_cases h : 1 ≤ k ∧ k ≤ 4
 ·rw [decide_eq_true h]
  have hc : k = 1 ∨ k = 2 ∨ k = 3 ∨ k = 4 := by omega
  rcases hc with e | e | e | e <;> subst e <;> rfl
 ·rw [decide_eq_false h]
  have h1 : ¬ (1 : Int) = k := by omega
  have h2 : ¬ (2 : Int) = k := by omega
  have h3 : ¬ (3 : Int) = k := by omega
  have h4 : ¬ (4 : Int) = k := by omega
  simp [akey, doesL, List.find?, h1, h2, h3, h4]
theorem step_do {q : Qu} {p : Pk} (h : 1 ≤ p.kind ∧ p.kind ≤ 4) (ha : q.has p.a) : q.step p = if p.kind = 1 then q.seek p.a else if p.kind = 2 then q.take p else if p.kind = 3 then q.give p else q.crash p.a := by
 unfold Qu.step; rw [if_pos ⟨h.1, h.2, ha⟩]
theorem does_ok (q : Nat) (D : LQu) (F : Nat → Prop) (i : Nat) (y : LNd) (p : Pk) (w : World) (h : QuAt w F q D) (hy : D.ns[i]? = some y) (hpa : p.a = (i : Int)) (hn5 : D.ns.length ≤ 5) (hodd : D.ns.length % 2 = 1) (ok : y.x.Ok D.ns.length) (hk : 1 ≤ p.kind ∧ p.kind ≤ 4) :
    CallV Tryz.prog (doer p.kind) [.pointer (some ⟨q, 0, none⟩), padd D.NA (i * 20), .agg (pkC p).toArray] w (fun v w' => v = .int .i64 (D.pure.step p).2 ∧ QMade q F D w (D.pure.step p).1 w' ∧ Lk w' w (QuB q D)) := by
 have hi : i < D.ns.length := (List.getElem?_eq_some_iff.1 hy).1
 have ha : D.pure.has p.a := by unfold Qu.has; rw [pure_len, hpa]; omega
 have hs := step_do hk ha
 have hc : p.kind = 1 ∨ p.kind = 2 ∨ p.kind = 3 ∨ p.kind = 4 := by omega
 rcases hc with e | e | e | e
 ·rw [if_pos e] at hs
  rw [hs, e]
  exact CallV.of_ret (a := []) (c := []) (seek_ok q D F i y p w h hy hpa hn5 ok)
 ·rw [if_neg (by omega), if_pos e] at hs
  rw [hs, e]
  exact CallV.of_ret (a := []) (c := []) (take_ok q D F i y p w h hy hpa hn5 hodd ok)
 ·rw [if_neg (by omega), if_neg (by omega), if_pos e] at hs
  rw [hs, e]
  exact CallV.of_ret (a := []) (c := []) (give_ok q D F i y p w h hy hpa hn5 ok)
 ·rw [if_neg (by omega), if_neg (by omega), if_neg (by omega)] at hs
  rw [hs, e]
  exact CallV.of_ret (a := []) (c := []) (crash_ok q D F i y p w h hy hpa)
set_option maxHeartbeats 1000000 in
theorem step_ok (q : Nat) (D : LQu) (F : Nat → Prop) (G : Gh) (p : Pk) (w : World) (h : QuAt w F q D) (hI : Inv D.pure G) : Ret Tryz.prog 11 #[.pointer (some ⟨q, 0, none⟩), .agg (pkC p).toArray] w (fun v w' => v = .int .i64 (D.pure.step p).2 ∧ QMade q F D w (D.pure.step p).1 w' ∧ Lk w' w (QuB q D)) := by
 haveI hb : Blk w q _ := ⟨h.hb⟩
 have hA := h.n1
 have hpl := pure_len D
 have hodd := hI.odd
 rw [hpl] at hodd
 haveI hN : OwnI w D.NA D.ns.length D.nc 0 69 20 D.ns.length (D.ns.flatMap ndC) := ⟨h.nodes⟩
 refine ret_of_x (N := 57) (l := [.pointer (some ⟨q, 0, none⟩), .agg (pkC p).toArray]) Tryz.func11 rfl rfl (Nat.le_of_ble_eq_true rfl) ?_
 refine x_seq ?_
 refine x_regionL ?_
 refine xl_e (e_box fun b1 w1 n1 l1 k1 => ?_)
 refine xl_v v_assign ?_
 refine xl_nil ?_
 refine x_seq ?_
 refine x_seq ?_
 refine x_regionL ?_
 refine xl_v v_move ?_
 refine xl_v (by first | exact v_eql_pointerS | exact v_eql_pointerN) ?_
 refine xl_v v_move ?_
 refine xl_gv rfl EvO.eq v_move ?_
 refine xl_gNc rfl EvO.eq ?_
 refine xl_gFb rfl EvO.eq ?_
 refine xl_gLc rfl EvO.eq ?_
 refine xl_gv rfl EvO.eq (v_congr (u := .bool false) v_eql_slice (by rw [Option.isNone_eq_false_iff.2 hA])) ?_
 refine xl_Pk ?_
 refine xl_nil ?_
 refine x_condF ?_
 refine x_skip ?_
 refine x_seq ?_
 refine x_regionL ?_
 refine xl_e (e_makeMap fun b1 w2 n1 l1 k1 => ?_)
 haveI hm0 : MapI w2 b1 Int (Value.int .i64) [] := ⟨mapB_made _ inferInstance⟩
 refine xl_s (e_insert 1 rfl fun w3 l2 m2 => ?_)
 refine xl_s (e_insert 2 rfl fun w4 l3 m3 => ?_)
 refine xl_s (e_insert 3 rfl fun w5 l4 m4 => ?_)
 refine xl_s (e_insert 4 rfl fun w6 l5 m5 => ?_)
 refine xl_v v_move ?_
 refine xl_v v_assign ?_
 refine xl_nil ?_
 refine x_seq ?_
 refine x_seq ?_
 haveI hmd : MapI w6 b1 Int (Value.int .i64) doesL := ⟨m5.m⟩
 refine x_regionL ?_
 refine xl_v v_move ?_
 refine xl_Fb ?_
 refine xl_Lc ?_
 refine xl_v (v_lookup2v p.kind (doer p.kind) (decide (1 ≤ p.kind ∧ p.kind ≤ 4)) rfl rfl (doer_some p.kind)) ?_
 refine xl_v v_move ?_
 refine xl_v v_extract ?_
 refine xl_v v_extract ?_
 refine xl_v v_assign ?_
 refine xl_v v_assign ?_
 refine xl_nil ?_
 refine x_block ?_
 refine x_seq ?_
 refine x_regionL ?_
 refine xl_v v_move ?_
 refine xl_v v_move ?_
 refine xl_split 28 (fun g28 => ?_) (fun g28 => ?_)
 ·
  refine xl_gv rfl EvO.eq v_move ?_
  refine xl_gFb rfl EvO.eq ?_
  refine xl_gLc rfl EvO.eq ?_
  refine xl_gcall rfl EvO.eq (has_ok q D p.a w6) ?_
  rintro _ w7 ⟨rfl, lk5⟩
  refine xl_Pk ?_
  refine xl_v v_assign ?_
  refine xl_nil ?_
  first | refine x_condP (fun c2 => ?_) (fun c2 => ?_) | refine x_condN (fun c2 => ?_) (fun c2 => ?_) | refine x_condE (fun c2 => ?_) (fun c2 => ?_)
  ·
   have hk : 1 ≤ p.kind ∧ p.kind ≤ 4 := by
    first
     | exact of_decide_eq_true g28
     | (exfalso; simp at c2; done)
   obtain ⟨i, hpa⟩ : ∃ i : Nat, p.a = (i : Int) := ⟨p.a.toNat, by omega⟩
   have hil : i < D.ns.length := by omega
   obtain ⟨y, hy⟩ : ∃ y, D.ns[i]? = some y := ⟨_, List.getElem?_eq_getElem hil⟩
   have hyok : y.x.Ok D.ns.length := by
    have := (hI.nd i (by rw [hpl]; exact hil)).ok
    rw [hpl, nd_of hy] at this
    exact this
   refine x_seq ?_
   refine x_drawL (NoB) (allS) (.take 0 (.take 1 (.take 2 (.take 3 (.take 4 (.take 5 (.take 6 (.take 7 (.take 8 (.take 9 (.free 10 (.take 11 .done)))))))))))) mixed (by kernel_rfl) (fun _ _ _ _ _ h => h) (fun w8 l8 => ?_)
   refine xt_v rfl v_move ?_
   refine xt_v rfl v_move ?_
   refine xt_v rfl v_move ?_
   refine xt_Nc rfl ?_
   refine xt_Fb rfl ?_
   refine xt_Lc rfl ?_
   refine xt_Fb rfl ?_
   refine xt_Lc rfl ?_
   refine xt_v rfl (v_indexF i (by decide) hpa (by omega) hil) ?_
   refine xt_Lb rfl ?_
   refine xt_fcallv rfl (does_ok q D F i y p w8 (h.ext kpc) hy hpa hodd.2 hodd.1 hyok hk) ?_
   rintro _ w9 ⟨rfl, hM, lk10⟩
   refine ⟨kpa, ?_⟩
   refine xt_v rfl v_assign ?_
   refine xt_nil ?_
   refine x_ret ?_
   refine fin1 rfl ?_
   exact ⟨rfl, hM.trans (Sub.refl _ _) (fun k e => .inl e) Ge.le, lkc⟩
  ·
   refine x_seq ?_
   have hno : ¬ (1 ≤ p.kind ∧ p.kind ≤ 4 ∧ D.pure.has p.a) := by
    unfold Qu.has
    rw [hpl]
    rintro ⟨e1, e2, e3⟩
    first
     | exact c2 e3
     | exact of_decide_eq_false g28 ⟨e1, e2⟩
   refine x_regionL ?_
   refine xl_Fb ?_
   refine xl_Lc ?_
   refine xl_v v_geq ?_
   refine xl_v v_move ?_
   refine xl_split 49 (fun g49 => ?_) (fun g49 => ?_)
   ·
    refine xl_gFb rfl EvO.eq ?_
    refine xl_gLc rfl EvO.eq ?_
    refine xl_gv rfl EvO.eq v_leq ?_
    refine xl_Pk ?_
    refine xl_v v_assign ?_
    refine xl_nil ?_
    refine x_condE (fun c3 => ?_) (fun c3 => ?_)
    ·
     have hk : 5 ≤ p.kind ∧ p.kind ≤ 7 := by
      first
       | (simp at g49 c3; exact ⟨g49, c3⟩)
       | (exfalso; simp at c3; done)
     have hr : D.pure.step p = D.pure.picked p := by unfold Qu.step; rw [if_neg hno, if_pos hk]
     refine x_seq ?_
     refine x_regionL ?_
     refine xl_v v_move ?_
     refine xl_Lb ?_
     refine xl_call (picked_ok q D F G p w7 (h.ext kpc) hI) ?_
     rintro _ w10 ⟨rfl, hM, lk2⟩
     refine xl_v v_assign ?_
     refine xl_nil ?_
     refine x_ret ?_
     refine fin1 rfl ?_
     exact ⟨by rw [hr], by rw [hr]; exact hM.trans (Sub.refl _ _) (fun k e => .inl e) Ge.le, lkc⟩
    ·
     refine x_skip ?_
     refine x_seq ?_
     refine x_regionL ?_
     refine xl_v v_assign ?_
     refine xl_nil ?_
     refine x_ret ?_
     refine fin1 rfl ?_
     have hk : ¬ (5 ≤ p.kind ∧ p.kind ≤ 7) := by
      first
       | (simp at g49 c3; omega)
       | (simp at g49; omega)
     have hr : D.pure.step p = (D.pure, 2) := by unfold Qu.step; rw [if_neg hno, if_neg hk]
     exact ⟨by rw [hr], QMade.stay h kpc (by rw [hr]), lkc⟩
   ·
    refine xl_gs rfl EvO.eq ?_
    refine xl_gs rfl EvO.eq ?_
    refine xl_gs rfl EvO.eq ?_
    refine xl_Pk ?_
    refine xl_v v_assign ?_
    refine xl_nil ?_
    refine x_condF ?_
    refine x_skip ?_
    refine x_seq ?_
    refine x_regionL ?_
    refine xl_v v_assign ?_
    refine xl_nil ?_
    refine x_ret ?_
    refine fin1 rfl ?_
    have hk : ¬ (5 ≤ p.kind ∧ p.kind ≤ 7) := by
     first
      | (simp at g49 c3; omega)
      | (simp at g49; omega)
    have hr : D.pure.step p = (D.pure, 2) := by unfold Qu.step; rw [if_neg hno, if_neg hk]
    exact ⟨by rw [hr], QMade.stay h kpc (by rw [hr]), lkc⟩
 ·
  refine xl_gs rfl EvO.eq ?_
  refine xl_gs rfl EvO.eq ?_
  refine xl_gs rfl EvO.eq ?_
  refine xl_gs rfl EvO.eq ?_
  refine xl_Pk ?_
  refine xl_v v_assign ?_
  refine xl_nil ?_
  refine x_condF ?_
  refine x_seq ?_
  have hno : ¬ (1 ≤ p.kind ∧ p.kind ≤ 4 ∧ D.pure.has p.a) := by
   unfold Qu.has
   rw [hpl]
   rintro ⟨e1, e2, e3⟩
   first
    | exact c2 e3
    | exact of_decide_eq_false g28 ⟨e1, e2⟩
  refine x_regionL ?_
  refine xl_Fb ?_
  refine xl_Lc ?_
  refine xl_v v_geq ?_
  refine xl_v v_move ?_
  refine xl_split 49 (fun g49 => ?_) (fun g49 => ?_)
  ·
   refine xl_gFb rfl EvO.eq ?_
   refine xl_gLc rfl EvO.eq ?_
   refine xl_gv rfl EvO.eq v_leq ?_
   refine xl_Pk ?_
   refine xl_v v_assign ?_
   refine xl_nil ?_
   refine x_condE (fun c3 => ?_) (fun c3 => ?_)
   ·
    have hk : 5 ≤ p.kind ∧ p.kind ≤ 7 := by
     first
      | (simp at g49 c3; exact ⟨g49, c3⟩)
      | (exfalso; simp at c3; done)
    have hr : D.pure.step p = D.pure.picked p := by unfold Qu.step; rw [if_neg hno, if_pos hk]
    refine x_seq ?_
    refine x_regionL ?_
    refine xl_v v_move ?_
    refine xl_Lb ?_
    refine xl_call (picked_ok q D F G p w6 (h.ext kpc) hI) ?_
    rintro _ w11 ⟨rfl, hM, lk2⟩
    refine xl_v v_assign ?_
    refine xl_nil ?_
    refine x_ret ?_
    refine fin1 rfl ?_
    exact ⟨by rw [hr], by rw [hr]; exact hM.trans (Sub.refl _ _) (fun k e => .inl e) Ge.le, lkc⟩
   ·
    refine x_skip ?_
    refine x_seq ?_
    refine x_regionL ?_
    refine xl_v v_assign ?_
    refine xl_nil ?_
    refine x_ret ?_
    refine fin1 rfl ?_
    have hk : ¬ (5 ≤ p.kind ∧ p.kind ≤ 7) := by
     first
      | (simp at g49 c3; omega)
      | (simp at g49; omega)
    have hr : D.pure.step p = (D.pure, 2) := by unfold Qu.step; rw [if_neg hno, if_neg hk]
    exact ⟨by rw [hr], QMade.stay h kpc (by rw [hr]), lkc⟩
  ·
   refine xl_gs rfl EvO.eq ?_
   refine xl_gs rfl EvO.eq ?_
   refine xl_gs rfl EvO.eq ?_
   refine xl_Pk ?_
   refine xl_v v_assign ?_
   refine xl_nil ?_
   refine x_condF ?_
   refine x_skip ?_
   refine x_seq ?_
   refine x_regionL ?_
   refine xl_v v_assign ?_
   refine xl_nil ?_
   refine x_ret ?_
   refine fin1 rfl ?_
   have hk : ¬ (5 ≤ p.kind ∧ p.kind ≤ 7) := by
    first
     | (simp at g49 c3; omega)
     | (simp at g49; omega)
   have hr : D.pure.step p = (D.pure, 2) := by unfold Qu.step; rw [if_neg hno, if_neg hk]
   exact ⟨by rw [hr], QMade.stay h kpc (by rw [hr]), lkc⟩

theorem stepN_ok (p : Pk) (w : World) : Ret Tryz.prog 11 #[.pointer none, .agg (pkC p).toArray] w (fun v w' => v = .int .i64 1 ∧ Lk w' w NoB) := by
 refine ret_of_x (N := 57) (l := [.pointer none, .agg (pkC p).toArray]) Tryz.func11 rfl rfl (Nat.le_of_ble_eq_true rfl) ?_
 refine x_seq ?_
 refine x_regionL ?_
 refine xl_e (e_box fun b1 w1 n1 l1 k1 => ?_)
 refine xl_v v_assign ?_
 refine xl_nil ?_
 refine x_seq ?_
 refine x_seq ?_
 refine x_regionL ?_
 refine xl_v v_move ?_
 refine xl_v (by first | exact v_eql_pointerS | exact v_eql_pointerN) ?_
 refine xl_v v_move ?_
 refine xl_gs rfl EvO.eq ?_
 refine xl_gs rfl EvO.eq ?_
 refine xl_gs rfl EvO.eq ?_
 refine xl_gs rfl EvO.eq ?_
 refine xl_gs rfl EvO.eq ?_
 refine xl_Pk ?_
 refine xl_nil ?_
 refine x_condT ?_
 refine x_seq ?_
 refine x_regionL ?_
 refine xl_v v_assign ?_
 refine xl_nil ?_
 refine x_ret ?_
 refine fin1 rfl ?_
 exact ⟨rfl, lkc⟩
end Go.Proofs.YtljdkelgapndgaaGreat
set_option linter.all false
set_option maxRecDepth 100000
set_option synthInstance.maxSize 100000
set_option synthInstance.maxHeartbeats 400000
namespace Go.Proofs.YtljdkelgapndgaaGreat
open Go.Wst
open Go.Wst.Qm
def _root_.Go.Wst.Qm.Qu.errs (q : Qu) : List Pk → List Int
 | [] => []
 | p :: l => (q.step p).2 :: (q.step p).1.errs l
theorem errs_snoc (q : Qu) (l : List Pk) (p : Pk) : q.errs (l ++ [p]) = q.errs l ++ [((q.run l).step p).2] := by
 induction l generalizing q with
 | nil => rfl
 | cons a l ih => simp only [List.cons_append, Qu.errs, ih]; rfl
theorem run_snoc (q : Qu) (l : List Pk) (p : Pk) : q.run (l ++ [p]) = ((q.run l).step p).1 := by
 unfold Qu.run; rw [List.foldl_append]; rfl
theorem errs_len (q : Qu) (l : List Pk) : (q.errs l).length = l.length := by
 induction l generalizing q with
 | nil => rfl
 | cons a l ih => simp only [Qu.errs, List.length_cons, ih]
theorem inv_run {q : Qu} {G : Gh} (h : Inv q G) (l : List Pk) : ∃ G', Inv (q.run l) G' := by
 induction l generalizing q G with
 | nil => exact ⟨G, h⟩
 | cons p l ih =>
   obtain ⟨G', h'⟩ := h.step p
   exact ih h'
theorem QuB.old {q : Nat} {D D' : LQu} {n k : Nat} (h : ∀ k, QuB q D' k → QuB q D k ∨ n ≤ k) (hk : k < n) (hno : ¬ QuB q D k) : ¬ QuB q D' k := fun e => (h k e).elim hno (fun e => by omega)

theorem run_ok (q : Nat) (D : LQu) (F : Nat → Prop) (G : Gh) (A : Option Addr) (n c : Nat) (l : List Pk) (w : World) [hrow : Row w A (l.flatMap pkC)] [hold : OldA w A] (hq : ∀ k, blkA A = some k → ¬ QuB q D k) (hl : l.length = n) (hn : n ≤ 1000) (h : QuAt w F q D) (hI : Inv D.pure G) : Ret Tryz.prog 15 #[.pointer (some ⟨q, 0, none⟩), .slice A n c] w (fun v w' => (∃ (A' : Option Addr) (c' : Nat), v = .slice A' n c' ∧ w'.ownsRow w.heap.size 42 1 v n (ints (D.pure.errs l)) ∧ ∃ (D' : LQu) (F' : Nat → Prop), QuAt w' F' q D' ∧ D'.pure = D.pure.run l ∧ Sub F' F w ∧ (∀ k, QuB q D' k → QuB q D k ∨ w.heap.size ≤ k) ∧ ∀ k, blkA A' = some k → ¬ QuB q D' k) ∧ Lk w' w (QuB q D)) := by
 refine ret_of_x (N := 22) (l := [.pointer (some ⟨q, 0, none⟩), .slice A n c]) Tryz.func15 rfl rfl (Nat.le_of_ble_eq_true rfl) ?_
 refine x_seq ?_
 refine x_regionL ?_
 refine xl_v v_assign ?_
 refine xl_nil ?_
 refine x_seq ?_
 refine x_regionL ?_
 refine xl_v v_assign ?_
 refine xl_nil ?_
 refine x_seq ?_
 refine x_seq ?_
 refine x_regionL ?_
 refine xl_v v_move ?_
 refine xl_v v_len ?_
 refine xl_v v_move ?_
 refine xl_nil ?_
 refine x_block ?_
 refine x_loop (fun m τ ds w' => ds = [] ∧ ∃ (k : Nat) (A7 : Option Addr) (c7 : Nat) (D' : LQu) (F' : Nat → Prop), m = n - k ∧ k ≤ n ∧ QuAt w' F' q D' ∧ D'.pure = D.pure.run (l.take k) ∧ Sub F' F w ∧ (∀ k, QuB q D' k → QuB q D k ∨ w.heap.size ≤ k) ∧ (∀ k, blkA A7 = some k → ¬ (QuB q D' k ∨ F' k)) ∧ w'.ownsRow w.heap.size 42 1 (.slice A7 k c7) k (ints (D.pure.errs (l.take k))) ∧ Ev τ 0 (.pointer (some ⟨q, 0, none⟩)) ∧ Ev τ 5 (.slice A7 k c7) ∧ Ev τ 8 (.slice A n c) ∧ Ev τ 9 (.int .i64 (n : Int)) ∧ Ev τ 10 (.int .i64 (k : Int)) ∧ Lk w' w (QuB q D)) (n) ?start ?round
 case start =>
  exact ⟨rfl, 0, none, 0, D, F, rfl, Nat.zero_le _, h.ext kpc, rfl, Sub.refl _ _, fun k e => .inl e, (fun k e => by cases e), World.ownsRow_nil _ _ _ _, inferInstance, inferInstance, inferInstance, evc, evc, lkc⟩
 case round =>
  intro m τ1 ds1 w1 hI
  obtain ⟨rfl, k, A7, c7, D', F', rfl, hkn, hQ', hpure', hsF, hqb, hap, ho7, e0, e5, e8, e9, e10, lk⟩ := hI
  haveI hrw : Row w1 A (l.flatMap pkC) := ⟨hrow.row.keep lk.keep (fun a ha => hq _ (blkA_some ha))⟩
  obtain ⟨G', hG'⟩ := inv_run hI (l.take k)
  haveI sA7 : ∀ (S : Nat → Prop), SubF (OwnB (.slice A7 k c7)) S w := fun S => ⟨fun j hj e => by have := (own_blk ho7 (ownB_blk.1 e)).1; omega⟩
  haveI sQ : SubF (QuB q D') (QuB q D) w := ⟨fun j hj e => (hqb j e).elim id (fun h => by omega)⟩
  refine x_seq ?_
  refine x_regionL ?_
  refine xl_v v_lss ?_
  refine xl_nil ?_
  refine x_seq ?_
  first | refine x_condP (fun c1 => ?_) (fun c1 => ?_) | refine x_condN (fun c1 => ?_) (fun c1 => ?_) | refine x_condE (fun c1 => ?_) (fun c1 => ?_)
  ·
   have hk1 : k < l.length := by omega
   refine x_skip ?_
   refine x_seq ?_
   refine x_block ?_
   refine x_seq ?_
   refine x_regionL ?_
   refine xl_v (v_indexF k (by decide) rfl (by omega) hk1) ?_
   refine xl_v (v_loadF (k := k) (by decide) hk1) ?_
   refine xl_e (e_alloc fun b2 w2 n2 l2 k2 => ?_)
   refine xl_s (e_storeA fun w3 l3 k3 => ?_)
   refine xl_nil ?_
   refine x_regionL ?_
   refine xl_v v_move ?_
   refine xl_v v_move ?_
   refine xl_Lb ?_
   refine xl_call (step_ok q D' F' G' l[k] w3 (hQ'.ext kpc) (hpure' ▸ hG')) ?_
   rintro _ w4 ⟨rfl, ⟨D2, F2, hQ2, hp2, hs2, hb2⟩, lk3⟩
   have ho3 := own_keepB ho7 (kpc : Keep (QuB q D') _ w4) (fun j e e2 => hap j e (.inl e2))
   have hap2 : ∀ j, blkA A7 = some j → ¬ (QuB q D2 j ∨ F2 j) := fun j e e2 => by
    have h1 := (own_blk ho7 e).2
    have h2 : _ ≤ (w3).heap.size := (Ge.le : (w1).heap.size ≤ (w3).heap.size)
    rcases e2 with e2 | e2
    ·exact (hb2 j e2).elim (fun e3 => hap j e (.inl e3)) (fun e3 => by omega)
    ·exact (hs2 j e2).elim (fun e3 => hap j e (.inr e3)) (fun e3 => by omega)
   refine xl_e (e_buildSlice1 rfl fun b5 w5 n5 l5 k5 => ?_)
   refine xl_e (e_append' (own_ext ho3 lkc) Ge.le rfl Cell1L.eq (by decide) (.inl rfl) (by omega) (by omega) fun A6 c6 w6 ho6 l6 f6 => ?_)
   have hQ5 := hQ2
   have hQ6 : QuAt w6 F2 q D2 := hQ2.keep (kpc : Keep (OwnB (.slice A7 k c7)) _ w6) (fun j e e2 => hap2 j (ownB_blk.1 e2) e)
   have hap6 : ∀ j, blkA A6 = some j → ¬ (QuB q D2 j ∨ F2 j) := fun j e e2 => by
    rcases from_blk f6 (Nat.le_refl _) with h1 | h1
    ·exact hap2 j (h1 ▸ e) e2
    ·have h2 := h1 j e
     have h3 : j < _ := e2.elim (fun e3 => hQ2.lt j e3) (fun e3 => hQ2.fl j e3)
     have h4 := l5.keep.size
     omega
   refine xl_v v_assign ?_
   refine xl_nil ?_
   refine x_regionL ?_
   refine xl_v (v_add (by omega)) ?_
   refine xl_v v_move ?_
   refine xl_nil ?_
   refine ⟨_, ?_, rfl, k + 1, A6, c6, D2, F2, rfl, by omega, hQ6, ?_, ?_, ?_, hap6, ?_, inferInstance, evc, inferInstance, inferInstance, evc, lkc⟩
   ·omega
   ·rw [hp2, hpure', take_snoc l k hk1, run_snoc]
   ·intro j e
    rcases hs2 j e with e | e
    ·exact hsF j e
    ·exact .inr (Nat.le_trans Ge.le e)
   ·intro j e
    rcases hb2 j e with e | e
    ·exact hqb j e
    ·exact .inr (Nat.le_trans Ge.le e)
   ·have h1 : D.pure.errs (l.take (k + 1)) = D.pure.errs (l.take k) ++ [(D'.pure.step l[k]).2] := by rw [take_snoc l k hk1, errs_snoc, hpure']
    rw [h1, ints_append]
    exact own_ext ho6 lkc
  ·
   refine x_exit ?_
   refine x_seq ?_
   refine x_regionL ?_
   refine xl_v v_move ?_
   refine xl_v v_assign ?_
   refine xl_nil ?_
   refine x_ret ?_
   refine fin1 rfl ?_
   have hk : k = n := by omega
   subst hk
   rw [List.take_of_length_le (by omega)] at ho7 hpure'
   exact ⟨⟨A7, c7, rfl, own_ext ho7 lkc, D', F', hQ'.ext kpc, hpure', hsF, hqb, fun j e e2 => hap j e (.inl e2)⟩, lkc⟩
end Go.Proofs.YtljdkelgapndgaaGreat
set_option linter.all false
set_option maxRecDepth 100000
set_option synthInstance.maxSize 100000
set_option synthInstance.maxHeartbeats 400000
namespace Go.Proofs.YtljdkelgapndgaaGreat
open Go.Wst
open Go.Wst.Qm
structure LAn where
 x : An
 LA : Option Addr
 lc : Nat
 VA : Option Addr
 vc : Nat
 XA : Option Addr
 xc : Nat
 MA : Option Addr
 mc : Nat
abbrev anC (y : LAn) : List Value := [.int .i64 y.x.role, .int .i64 y.x.term, .int .i64 y.x.vote, .int .i64 y.x.commit, .slice y.LA y.x.log.length y.lc, .slice y.VA y.x.votes.length y.vc, .slice y.XA y.x.next.length y.xc, .slice y.MA y.x.mat.length y.mc]
instance encN_an : EncN anC 8 := ⟨fun _ => rfl⟩
def idxsTo (l : List Bool) (k : Nat) : List Int := ((List.range k).filter (fun j => l.getD j false)).map (fun j : Nat => (j : Int))
theorem idxsTo_snoc (l : List Bool) (k : Nat) : idxsTo l (k + 1) = idxsTo l k ++ (if l.getD k false = true then [(k : Int)] else []) := by
 unfold idxsTo
 rw [List.range_succ, List.filter_append, List.map_append]
 congr 1
 by_cases e : l.getD k false = true
 ·rw [if_pos e]; simp only [List.filter_cons, e, if_true, List.filter_nil, List.map_cons, List.map_nil]
 ·rw [if_neg e]; simp only [List.filter_cons, e, List.filter_nil, List.map_nil]; rfl
theorem idxsTo_all {l : List Bool} (h : l.length = 5) : idxsTo l 5 = idxs l := by unfold idxsTo idxs; rw [h]
theorem next_sub {y : LNd} (h : y.x.next.length = 5) {o : Nat} {n : Nat} {v : Value} (e : (ints (y.x.next.take n))[o]? = some v) : (ndC y)[10 + o]? = some v := by
 unfold ints at e
 rw [List.map_take, List.getElem?_take] at e
 split at e
 ·rw [List.getElem?_map] at e
  obtain ⟨a, ha, rfl⟩ := Option.map_eq_some_iff.1 e
  have ho : o < 5 := by have := (List.getElem?_eq_some_iff.1 ha).1; omega
  rw [nextC_get ho, List.getD_eq_getElem?_getD, ha]
  rfl
 ·cases e
theorem mat_sub {y : LNd} (h : y.x.mat.length = 5) {o : Nat} {n : Nat} {v : Value} (e : (ints (y.x.mat.take n))[o]? = some v) : (ndC y)[15 + o]? = some v := by
 unfold ints at e
 rw [List.map_take, List.getElem?_take] at e
 split at e
 ·rw [List.getElem?_map] at e
  obtain ⟨a, ha, rfl⟩ := Option.map_eq_some_iff.1 e
  have ho : o < 5 := by have := (List.getElem?_eq_some_iff.1 ha).1; omega
  rw [matC_get ho, List.getD_eq_getElem?_getD, ha]
  rfl
 ·cases e
theorem add_at (b j : Nat) : (some (⟨b, 0, none⟩ : Addr)).map (·.add j) = some ⟨b, j, none⟩ := by simp [add_none]
structure AnAt (W : World) (base : Nat) (y : LAn) : Prop where
 log : W.ownsRow base 46 2 (.slice y.LA y.x.log.length y.lc) y.x.log.length (cmdsC y.x.log)
 votes : W.ownsRow base 3 1 (.slice y.VA y.x.votes.length y.vc) y.x.votes.length (ints y.x.votes)
 next : W.ownsRow base 3 1 (.slice y.XA y.x.next.length y.xc) y.x.next.length (ints y.x.next)
 mat : W.ownsRow base 3 1 (.slice y.MA y.x.mat.length y.mc) y.x.mat.length (ints y.x.mat)
 lm : ApA y.LA y.MA
set_option maxHeartbeats 1000000 in
theorem node_ok (q : Nat) (D : LQu) (F : Nat → Prop) (i : Nat) (y : LNd) (w : World) (h : QuAt w F q D) (hy : D.ns[i]? = some y) (hn5 : D.ns.length ≤ 5) (ok : y.x.Ok D.ns.length) : Ret Tryz.prog 9 #[.pointer (some ⟨q, 0, none⟩), .int .i64 (i : Int)] w (fun v w' => (∃ z : LAn, v = .tuple #[.agg (anC z).toArray, .int .i64 0] ∧ z.x = y.x.tell D.ns.length ∧ AnAt w' w.heap.size z) ∧ Lk w' w NoB) := by
 haveI hb : Blk w q _ := ⟨h.hb⟩
 have hi : i < D.ns.length := (List.getElem?_eq_some_iff.1 hy).1
 haveI li : LtI i D.ns.length := ⟨hi⟩
 have hA := h.n1
 have hym : y ∈ D.ns := List.mem_of_getElem? hy
 haveI hN : OwnI w D.NA D.ns.length D.nc 0 69 20 D.ns.length ((D.ns.set i y).flatMap ndC) := ⟨by rw [set_self hy]; exact h.nodes⟩
 haveI hrl : Row w y.A (cmdsC y.x.log) := ⟨(h.logs y hym).row⟩
 haveI hro : ∀ n c, RowOut (OwnB (.slice D.NA n c)) y.A := fun n c => (h.logs y hym).out (fun k e e2 => h.fq k e (.inr (.inl (ownB_blk.1 e2))))
 haveI hqn := h.qn
 have hil : i < (D.ns.set i y).length := by simpa using hi
 refine ret_of_x (N := 83) (l := [.pointer (some ⟨q, 0, none⟩), .int .i64 (i : Int)]) Tryz.func9 rfl rfl (Nat.le_of_ble_eq_true rfl) ?_
 refine x_seq ?_
 haveI holdA : OldA w y.A := (h.logs y hym).old h.fl
 have hll := ok.ll
 refine x_regionL ?_
 refine xl_e (e_alloc fun b4 w1 n4 l4 k4 => ?_)
 refine xl_v v_assign ?_
 refine xl_nil ?_
 refine x_seq ?_
 refine x_block ?_
 refine x_seq ?_
 refine x_regionL ?_
 refine xl_v v_move ?_
 refine xl_v (by first | exact v_eql_pointerS | exact v_eql_pointerN) ?_
 refine xl_v v_move ?_
 refine xl_gv rfl EvO.eq v_move ?_
 refine xl_gNc rfl EvO.eq ?_
 refine xl_gFb rfl EvO.eq ?_
 refine xl_gLc rfl EvO.eq ?_
 refine xl_gv rfl EvO.eq (v_congr (u := .bool false) v_eql_slice (by rw [Option.isNone_eq_false_iff.2 hA])) ?_
 refine xl_Pk ?_
 refine xl_v v_assign ?_
 refine xl_nil ?_
 refine x_condF ?_
 refine x_seq ?_
 refine x_regionL ?_
 refine xl_v v_move ?_
 refine xl_v v_move ?_
 refine xl_call (has_ok q D (i : Int) w1) ?_
 rintro _ w2 ⟨rfl, lk2⟩
 refine xl_v (v_congr (u := .bool false) v_not (by rw [decide_eq_true (by omega)]; rfl)) ?_
 refine xl_v v_assign ?_
 refine xl_nil ?_
 refine x_condF ?_
 refine x_skip ?_
 refine x_seq ?_
 refine x_drawL (NoB) (allS) (.take 0 (.take 1 (.take 2 (.take 3 (.take 4 (.take 5 (.take 6 (.take 7 (.take 8 (.take 9 (.take 10 (.takeA 11 (.eff 12 (.free 13 (.take 14 .done))))))))))))))) mixed (by kernel_rfl) (fun _ _ _ _ _ h => h) (fun w3 l3 => ?_)
 refine xt_v rfl v_move ?_
 refine xt_Nc rfl ?_
 refine xt_Fb rfl ?_
 refine xt_Lc rfl ?_
 refine xt_v rfl v_move ?_
 refine xt_v rfl (v_indexF i (by decide) rfl (by omega) hil) ?_
 refine xt_v rfl (v_loadCA0 rfl (by show 0 < 20; decide)) ?_
 refine xt_v rfl v_move ?_
 refine xt_Nc rfl ?_
 refine xt_Fb rfl ?_
 refine xt_Lc rfl ?_
 refine xt_av rfl v_len ?_
 refine xt_e rfl (e_alloc fun b6 w4 n6 l6 k6 => ?_)
 refine xt_fs rfl (e_storeA fun w5 l13 k13 => ?_)
 refine xt_v rfl v_assign ?_
 refine xt_nil ?_
 refine x_seq ?_
 refine x_drawL (NoB) (allS) (.take 0 (.take 1 (.take 2 (.take 3 (.take 4 (.take 5 (.take 6 (.take 7 (.take 8 (.take 9 (.take 10 (.take 11 (.take 12 (.fork 13 (.take 14 (.eff 15 (.last 16))) 15 (.eff 13 (.take 14 (.last 16))))))))))))))))) mixed (by kernel_rfl) (fun _ _ _ _ _ h => h) (fun w6 l6 => ?_)
 refine xt_Fb rfl ?_
 refine xt_Lc rfl ?_
 refine xt_Fb rfl ?_
 refine xt_Fb rfl ?_
 refine xt_Lc rfl ?_
 refine xt_Fb rfl ?_
 refine xt_Fb rfl ?_
 refine xt_Lc rfl ?_
 refine xt_Fb rfl ?_
 refine xt_Lc rfl ?_
 refine xt_Fb rfl ?_
 refine xt_Fb rfl ?_
 refine xt_Lc rfl ?_
 refine xt_fork ?_ ?_
 ·
  refine xt_call rfl (cloneC_ok y.A y.x.log.length y.c (cmdsC y.x.log) w6 (cmds_len _) (by omega) (cmds_one _) (by
      rcases Nat.eq_zero_or_pos y.x.log.length with e | e
      ·exact .inr e
      ·exact .inl (row_isSome hrl e))) ?_
  rintro _ w7 ⟨⟨LA, lc, rfl, hoL⟩, lk13⟩
  refine ⟨kpc, ?_⟩
  haveI oL : OwnI w7 LA _ _ _ _ _ _ _ := ⟨hoL⟩
  haveI naL : NewA LA _ := newA_of hoL (Nat.le_refl _)
  refine xt_v rfl v_build ?_
  refine xt_e rfl (e_alloc fun b8 w8 n8 l8 k8 => ?_)
  refine xt_lastS rfl (e_storeA fun w9 l16 k16 => ?_)
  refine x_seq ?_
  refine x_seq ?_
  refine x_regionL ?_
  refine xl_Fb ?_
  refine xl_Lb ?_
  refine xl_v v_move ?_
  refine xl_nil ?_
  refine x_block ?_
  have hb8 : b8 < (w9).heap.size := Has.lt
  have hb48 : b4 < b8 := by rw [n8.eq]; exact Has.lt
  refine x_loop (fun m τ ds w' => ds = [] ∧ ∃ (k : Nat) (VA : Option Addr) (vc : Nat), m = 5 - k ∧ k ≤ 5 ∧ w'.ownsRow (w9).heap.size 3 1 (.slice VA (idxsTo y.x.votes k).length vc) (idxsTo y.x.votes k).length (ints (idxsTo y.x.votes k)) ∧ Ev τ 4 (.pointer (some ⟨b4, 0, none⟩)) ∧ Ev τ 6 (.pointer (some ⟨b6, 0, none⟩)) ∧ Ev τ 7 (.int .i64 (D.ns.length : Int)) ∧ Ev τ 8 (.pointer (some ⟨b8, 0, none⟩)) ∧ Ev τ 56 (.agg [Value.bool (y.x.votes.getD 0 false), .bool (y.x.votes.getD 1 false), .bool (y.x.votes.getD 2 false), .bool (y.x.votes.getD 3 false), .bool (y.x.votes.getD 4 false)].toArray) ∧ Ev τ 57 (.int .i64 (k : Int)) ∧ Blk w' b8 (.cells [.int .i64 y.x.role, .int .i64 y.x.term, .int .i64 y.x.vote, .int .i64 y.x.commit, .slice LA y.x.log.length lc, .slice VA (idxsTo y.x.votes k).length vc, .slice none 0 0, .slice none 0 0].toArray 41 (0, 0)) ∧ Lk w' w9 (OneB b8)) (5) ?start ?round
  case start =>
   exact ⟨rfl, 0, none, 0, rfl, Nat.zero_le _, World.ownsRow_nil _ _ _ _, inferInstance, inferInstance, inferInstance, inferInstance, evc, evc, ⟨Blk.eq⟩, lkc⟩
  case round =>
   intro m τ10 ds10 w10 hI
   obtain ⟨rfl, k, VA, vc, rfl, hk, hoV, e4, e6, e7, e8, e56, e57, kb8, lkS⟩ := hI
   haveI sV : ∀ (S : Nat → Prop), SubF (OwnB (.slice VA (idxsTo y.x.votes k).length vc)) S w9 := fun S => ⟨fun j hj e => by have := (own_blk hoV (ownB_blk.1 e)).1; omega⟩
   haveI nV : NotS (OwnB (.slice VA (idxsTo y.x.votes k).length vc)) b8 := ⟨fun e => by have := (own_blk hoV (ownB_blk.1 e)).1; omega⟩
   have hvl : (idxsTo y.x.votes k).length ≤ 5 := by
    unfold idxsTo
    rw [List.length_map]
    exact Nat.le_trans (List.length_filter_le _ _) (by rw [List.length_range]; exact hk)
   refine x_seq ?_
   refine x_regionL ?_
   refine xl_v v_lss ?_
   refine xl_nil ?_
   refine x_seq ?_
   first | refine x_condP (fun c3 => ?_) (fun c3 => ?_) | refine x_condN (fun c3 => ?_) (fun c3 => ?_) | refine x_condE (fun c3 => ?_) (fun c3 => ?_)
   ·
    refine x_skip ?_
    refine x_seq ?_
    refine x_block ?_
    refine x_seq ?_
    refine x_regionL ?_
    refine xl_v v_move ?_
    refine xl_v (v_indexG k rfl (by omega) (votesC_get (by omega))) ?_
    refine xl_v v_assign ?_
    refine xl_v v_assign ?_
    refine xl_nil ?_
    refine x_seq ?_
    refine x_regionL ?_
    refine xl_v v_move ?_
    refine xl_nil ?_
    refine x_condE (fun c4 => ?_) (fun c4 => ?_)
    ·
     refine x_regionL ?_
     refine xl_Fb ?_
     refine xl_Lc ?_
     refine xl_v v_move ?_
     refine xl_e (e_buildSlice1 rfl fun b3 w11 n3 l3 k3 => ?_)
     refine xl_e (e_append' (own_ext hoV lkc) Ge.le rfl Cell1L.eq (by decide) (.inl rfl) (by omega) (by omega) fun VA4 vc4 w12 ho4 l4b f4 => ?_)
     refine xl_Fb ?_
     refine xl_s (e_store fun w13 l6 k6b => ?_)
     refine xl_nil ?_
     refine x_regionL ?_
     refine xl_v (v_add (by omega)) ?_
     refine xl_v v_move ?_
     refine xl_nil ?_
     first
     | refine ⟨_, ?_, rfl, k + 1, VA4, vc4, rfl, by omega, ?_, inferInstance, inferInstance, inferInstance, inferInstance, inferInstance, evc, ?_, lkc⟩
       ·omega
       ·rw [idxsTo_snoc, if_pos c4, ints_append, List.length_append]
        exact own_keepB ho4 l6.keep (fun j e e2 => by
         have e2' : j = b8 := e2
         have := (own_blk ho4 e).1
         omega)
       ·rw [idxsTo_snoc, if_pos c4, List.length_append]
        exact k6b
     | refine ⟨_, ?_, rfl, k + 1, VA, vc, rfl, by omega, ?_, inferInstance, inferInstance, inferInstance, inferInstance, inferInstance, evc, ?_, lkc⟩
       ·omega
       ·rw [idxsTo_snoc, if_neg (by simpa using c4), List.append_nil]
        exact own_ext hoV lkc
       ·rw [idxsTo_snoc, if_neg (by simpa using c4), List.append_nil]
        exact ⟨Blk.eq⟩
    ·
     refine x_skip ?_
     refine x_regionL ?_
     refine xl_v (v_add (by omega)) ?_
     refine xl_v v_move ?_
     refine xl_nil ?_
     first
     | refine ⟨_, ?_, rfl, k + 1, VA4, vc4, rfl, by omega, ?_, inferInstance, inferInstance, inferInstance, inferInstance, inferInstance, evc, ?_, lkc⟩
       ·omega
       ·rw [idxsTo_snoc, if_pos c4, ints_append, List.length_append]
        exact own_keepB ho4 l6.keep (fun j e e2 => by
         have e2' : j = b8 := e2
         have := (own_blk ho4 e).1
         omega)
       ·rw [idxsTo_snoc, if_pos c4, List.length_append]
        exact k6b
     | refine ⟨_, ?_, rfl, k + 1, VA, vc, rfl, by omega, ?_, inferInstance, inferInstance, inferInstance, inferInstance, inferInstance, evc, ?_, lkc⟩
       ·omega
       ·rw [idxsTo_snoc, if_neg (by simpa using c4), List.append_nil]
        exact own_ext hoV lkc
       ·rw [idxsTo_snoc, if_neg (by simpa using c4), List.append_nil]
        exact ⟨Blk.eq⟩
   ·
    refine x_exit ?_
    refine x_seq ?_
    refine x_seq ?_
    have hk5 : k = 5 := by omega
    subst hk5
    rw [idxsTo_all ok.vl] at hoV kb8
    refine x_regionL ?_
    refine xl_Fb ?_
    refine xl_Lc ?_
    refine xl_v v_eql ?_
    refine xl_nil ?_
    first | refine x_condP (fun c5 => ?_) (fun c5 => ?_) | refine x_condN (fun c5 => ?_) (fun c5 => ?_) | refine x_condE (fun c5 => ?_) (fun c5 => ?_)
    ·
     haveI hrN : Row w10 (some ⟨b6, 10, none⟩) (ints (y.x.next.take D.ns.length)) := by
      rw [← add_at]
      exact ⟨rowP_sub (row_blk (Blk.eq : (w10).heap[b6]? = _)) (fun o v e => next_sub ok.nl e)⟩
     haveI hrM : Row w10 (some ⟨b6, 15, none⟩) (ints (y.x.mat.take D.ns.length)) := by
      rw [← add_at]
      exact ⟨rowP_sub (row_blk (Blk.eq : (w10).heap[b6]? = _)) (fun o v e => mat_sub ok.ml e)⟩
     have hnl : (y.x.next.take D.ns.length).length = D.ns.length := by rw [List.length_take, ok.nl]; omega
     have hml : (y.x.mat.take D.ns.length).length = D.ns.length := by rw [List.length_take, ok.ml]; omega
     refine x_drawL (OneB b8) (allS) (.take 0 (.take 1 (.take 2 (.take 4 (.take 5 (.take 6 (.eff 3 (.take 8 (.eff 7 (.eff 9 (.take 10 (.last 11)))))))))))) mixed (by kernel_rfl) (fun _ _ _ _ _ h => h) (fun w14 l14 => ?_)
     refine xt_Fb rfl ?_
     refine xt_v rfl v_move ?_
     refine xt_v rfl (v_sliceArrB D.ns.length rfl (by omega)) ?_
     refine xt_Fb rfl ?_
     refine xt_v rfl v_move ?_
     refine xt_v rfl (v_sliceArrB D.ns.length rfl (by omega)) ?_
     refine xt_call rfl (cloneI_ok (some ⟨b6, 10, none⟩) D.ns.length 5 (ints (y.x.next.take D.ns.length)) w14 (by rw [ints_len, hnl]; omega) (by omega) (ints_one _) (.inl rfl)) ?_
     rintro _ w15 ⟨⟨XA, xc, rfl, hoX⟩, lkX⟩
     refine ⟨kpc, ?_⟩
     haveI oX : OwnI w15 XA _ _ _ _ _ _ _ := ⟨hoX⟩
     haveI naX : NewA XA _ := newA_of hoX (Nat.le_refl _)
     refine xt_Fb rfl ?_
     refine xt_call rfl (cloneI_ok (some ⟨b6, 15, none⟩) D.ns.length 5 (ints (y.x.mat.take D.ns.length)) w15 (by rw [ints_len, hml]; omega) (by omega) (ints_one _) (.inl rfl)) ?_
     rintro _ w16 ⟨⟨MA, mc, rfl, hoM⟩, lkM⟩
     refine ⟨kpc, ?_⟩
     haveI oM : OwnI w16 MA _ _ _ _ _ _ _ := ⟨hoM⟩
     haveI naM : NewA MA _ := newA_of hoM (Nat.le_refl _)
     refine xt_s rfl (e_store fun w17 l9 k9 => ?_)
     refine xt_Fb rfl ?_
     refine xt_lastS rfl (e_store fun w18 l11 k11 => ?_)
     have hoV2 := own_keepB hoV (kpc : Keep (OneB b8) _ w18) (fun j e e2 => by
      have e2' : j = b8 := e2
      have := (own_blk hoV e).1
      omega)
     have hres : ∃ z : LAn, Blk w18 b8 (.cells (anC z).toArray 41 (0, 0)) ∧ z.x = y.x.tell D.ns.length ∧ AnAt w18 w.heap.size z ∧ RowOut (OneB b4) z.LA ∧ RowOut (OneB b4) z.VA ∧ RowOut (OneB b4) z.XA ∧ RowOut (OneB b4) z.MA := by
      have hrV : RowOut (OneB b4) VA := ⟨fun a ha e => by
       have e' : a.block = b4 := e
       have := (own_blk hoV (blkA_some ha)).1
       have := n8.eq
       omega⟩
      have e1 : (y.x.tell D.ns.length).next = y.x.next.take D.ns.length := if_pos c5
      have e2 : (y.x.tell D.ns.length).mat = y.x.mat.take D.ns.length := if_pos c5
      refine ⟨⟨y.x.tell D.ns.length, LA, lc, VA, vc, XA, xc, MA, mc⟩, ?_, rfl, ?_, (inferInstance : RowOut (OneB b4) LA), hrV, (inferInstance : RowOut (OneB b4) XA), (inferInstance : RowOut (OneB b4) MA)⟩
      ·simp only [anC, e1, e2, hnl, hml]
       exact k11
      ·refine ⟨own_mono (OwnI.own (w := w18) (A := LA)) Ge.le, own_mono hoV2 Ge.le, ?_, ?_, (inferInstance : ApA LA MA)⟩
       ·simp only [e1, hnl]; exact own_mono (OwnI.own (w := w18) (A := XA)) Ge.le
       ·simp only [e2, hml]; exact own_mono (OwnI.own (w := w18) (A := MA)) Ge.le
     refine x_seq ?_
     obtain ⟨z, hz, hzx, hza, hz1, hz2, hz3, hz4⟩ := hres
     refine x_regionL ?_
     refine xl_v (v_loadA) ?_
     refine xl_s (e_storeA fun w19 l1b k1b => ?_)
     refine xl_v v_assign ?_
     refine xl_nil ?_
     refine x_ret ?_
     refine finR (rs := [.cell 4 41, .tmp 5]) rfl ?_
     refine ⟨⟨z, rfl, hzx, ?_⟩, lkc⟩
     have hk := l1b.keep
     exact ⟨own_keepB hza.log hk (fun k e e2 => by obtain ⟨a, ha, hab⟩ := Option.map_eq_some_iff.1 (show z.LA.map (·.block) = some k from e); exact hz1.out a ha (hab.trans e2)), own_keepB hza.votes hk (fun k e e2 => by obtain ⟨a, ha, hab⟩ := Option.map_eq_some_iff.1 (show z.VA.map (·.block) = some k from e); exact hz2.out a ha (hab.trans e2)), own_keepB hza.next hk (fun k e e2 => by obtain ⟨a, ha, hab⟩ := Option.map_eq_some_iff.1 (show z.XA.map (·.block) = some k from e); exact hz3.out a ha (hab.trans e2)), own_keepB hza.mat hk (fun k e e2 => by obtain ⟨a, ha, hab⟩ := Option.map_eq_some_iff.1 (show z.MA.map (·.block) = some k from e); exact hz4.out a ha (hab.trans e2)), hza.lm⟩
    ·
     have hoV2 := own_keepB hoV (kpc : Keep (OneB b8) _ w10) (fun j e e2 => by
      have e2' : j = b8 := e2
      have := (own_blk hoV e).1
      omega)
     have hres : ∃ z : LAn, Blk w10 b8 (.cells (anC z).toArray 41 (0, 0)) ∧ z.x = y.x.tell D.ns.length ∧ AnAt w10 w.heap.size z ∧ RowOut (OneB b4) z.LA ∧ RowOut (OneB b4) z.VA ∧ RowOut (OneB b4) z.XA ∧ RowOut (OneB b4) z.MA := by
      have hrV : RowOut (OneB b4) VA := ⟨fun a ha e => by
       have e' : a.block = b4 := e
       have := (own_blk hoV (blkA_some ha)).1
       have := n8.eq
       omega⟩
      have e1 : (y.x.tell D.ns.length).next = [] := if_neg c5
      have e2 : (y.x.tell D.ns.length).mat = [] := if_neg c5
      refine ⟨⟨y.x.tell D.ns.length, LA, lc, VA, vc, none, 0, none, 0⟩, ?_, rfl, ?_, (inferInstance : RowOut (OneB b4) LA), hrV, ⟨fun a ha => by cases ha⟩, ⟨fun a ha => by cases ha⟩⟩
      ·simp only [anC, e1, e2]
       exact kb8
      ·refine ⟨own_mono (OwnI.own (w := w10) (A := LA)) Ge.le, own_mono hoV2 Ge.le, ?_, ?_, (inferInstance : ApA LA none)⟩
       ·simp only [e1]; exact World.ownsRow_nil _ _ _ _
       ·simp only [e2]; exact World.ownsRow_nil _ _ _ _
     refine x_skip ?_
     refine x_seq ?_
     obtain ⟨z, hz, hzx, hza, hz1, hz2, hz3, hz4⟩ := hres
     refine x_regionL ?_
     refine xl_v (v_loadA) ?_
     refine xl_s (e_storeA fun w20 l1b k1b => ?_)
     refine xl_v v_assign ?_
     refine xl_nil ?_
     refine x_ret ?_
     refine finR (rs := [.cell 4 41, .tmp 5]) rfl ?_
     refine ⟨⟨z, rfl, hzx, ?_⟩, lkc⟩
     have hk := l1b.keep
     exact ⟨own_keepB hza.log hk (fun k e e2 => by obtain ⟨a, ha, hab⟩ := Option.map_eq_some_iff.1 (show z.LA.map (·.block) = some k from e); exact hz1.out a ha (hab.trans e2)), own_keepB hza.votes hk (fun k e e2 => by obtain ⟨a, ha, hab⟩ := Option.map_eq_some_iff.1 (show z.VA.map (·.block) = some k from e); exact hz2.out a ha (hab.trans e2)), own_keepB hza.next hk (fun k e e2 => by obtain ⟨a, ha, hab⟩ := Option.map_eq_some_iff.1 (show z.XA.map (·.block) = some k from e); exact hz3.out a ha (hab.trans e2)), own_keepB hza.mat hk (fun k e e2 => by obtain ⟨a, ha, hab⟩ := Option.map_eq_some_iff.1 (show z.MA.map (·.block) = some k from e); exact hz4.out a ha (hab.trans e2)), hza.lm⟩
 ·
  refine xt_e rfl (e_alloc fun b8 w21 n8 l8 k8 => ?_)
  refine xt_call rfl (cloneC_ok y.A y.x.log.length y.c (cmdsC y.x.log) w21 (cmds_len _) (by omega) (cmds_one _) (by
      rcases Nat.eq_zero_or_pos y.x.log.length with e | e
      ·exact .inr e
      ·exact .inl (row_isSome hrl e))) ?_
  rintro _ w22 ⟨⟨LA, lc, rfl, hoL⟩, lk13⟩
  refine ⟨kpc, ?_⟩
  haveI oL : OwnI w22 LA _ _ _ _ _ _ _ := ⟨hoL⟩
  haveI naL : NewA LA _ := newA_of hoL (Nat.le_refl _)
  refine xt_v rfl v_build ?_
  refine xt_lastS rfl (e_storeA fun w23 l16 k16 => ?_)
  refine x_seq ?_
  refine x_seq ?_
  refine x_regionL ?_
  refine xl_Fb ?_
  refine xl_Lb ?_
  refine xl_v v_move ?_
  refine xl_nil ?_
  refine x_block ?_
  have hb8 : b8 < (w23).heap.size := Has.lt
  have hb48 : b4 < b8 := by rw [n8.eq]; exact Has.lt
  refine x_loop (fun m τ ds w' => ds = [] ∧ ∃ (k : Nat) (VA : Option Addr) (vc : Nat), m = 5 - k ∧ k ≤ 5 ∧ w'.ownsRow (w23).heap.size 3 1 (.slice VA (idxsTo y.x.votes k).length vc) (idxsTo y.x.votes k).length (ints (idxsTo y.x.votes k)) ∧ Ev τ 4 (.pointer (some ⟨b4, 0, none⟩)) ∧ Ev τ 6 (.pointer (some ⟨b6, 0, none⟩)) ∧ Ev τ 7 (.int .i64 (D.ns.length : Int)) ∧ Ev τ 8 (.pointer (some ⟨b8, 0, none⟩)) ∧ Ev τ 56 (.agg [Value.bool (y.x.votes.getD 0 false), .bool (y.x.votes.getD 1 false), .bool (y.x.votes.getD 2 false), .bool (y.x.votes.getD 3 false), .bool (y.x.votes.getD 4 false)].toArray) ∧ Ev τ 57 (.int .i64 (k : Int)) ∧ Blk w' b8 (.cells [.int .i64 y.x.role, .int .i64 y.x.term, .int .i64 y.x.vote, .int .i64 y.x.commit, .slice LA y.x.log.length lc, .slice VA (idxsTo y.x.votes k).length vc, .slice none 0 0, .slice none 0 0].toArray 41 (0, 0)) ∧ Lk w' w23 (OneB b8)) (5) ?start ?round
  case start =>
   exact ⟨rfl, 0, none, 0, rfl, Nat.zero_le _, World.ownsRow_nil _ _ _ _, inferInstance, inferInstance, inferInstance, inferInstance, evc, evc, ⟨Blk.eq⟩, lkc⟩
  case round =>
   intro m τ24 ds24 w24 hI
   obtain ⟨rfl, k, VA, vc, rfl, hk, hoV, e4, e6, e7, e8, e56, e57, kb8, lkS⟩ := hI
   haveI sV : ∀ (S : Nat → Prop), SubF (OwnB (.slice VA (idxsTo y.x.votes k).length vc)) S w23 := fun S => ⟨fun j hj e => by have := (own_blk hoV (ownB_blk.1 e)).1; omega⟩
   haveI nV : NotS (OwnB (.slice VA (idxsTo y.x.votes k).length vc)) b8 := ⟨fun e => by have := (own_blk hoV (ownB_blk.1 e)).1; omega⟩
   have hvl : (idxsTo y.x.votes k).length ≤ 5 := by
    unfold idxsTo
    rw [List.length_map]
    exact Nat.le_trans (List.length_filter_le _ _) (by rw [List.length_range]; exact hk)
   refine x_seq ?_
   refine x_regionL ?_
   refine xl_v v_lss ?_
   refine xl_nil ?_
   refine x_seq ?_
   first | refine x_condP (fun c3 => ?_) (fun c3 => ?_) | refine x_condN (fun c3 => ?_) (fun c3 => ?_) | refine x_condE (fun c3 => ?_) (fun c3 => ?_)
   ·
    refine x_skip ?_
    refine x_seq ?_
    refine x_block ?_
    refine x_seq ?_
    refine x_regionL ?_
    refine xl_v v_move ?_
    refine xl_v (v_indexG k rfl (by omega) (votesC_get (by omega))) ?_
    refine xl_v v_assign ?_
    refine xl_v v_assign ?_
    refine xl_nil ?_
    refine x_seq ?_
    refine x_regionL ?_
    refine xl_v v_move ?_
    refine xl_nil ?_
    refine x_condE (fun c4 => ?_) (fun c4 => ?_)
    ·
     refine x_regionL ?_
     refine xl_Fb ?_
     refine xl_Lc ?_
     refine xl_v v_move ?_
     refine xl_e (e_buildSlice1 rfl fun b3 w25 n3 l3 k3 => ?_)
     refine xl_e (e_append' (own_ext hoV lkc) Ge.le rfl Cell1L.eq (by decide) (.inl rfl) (by omega) (by omega) fun VA4 vc4 w26 ho4 l4b f4 => ?_)
     refine xl_Fb ?_
     refine xl_s (e_store fun w27 l6 k6b => ?_)
     refine xl_nil ?_
     refine x_regionL ?_
     refine xl_v (v_add (by omega)) ?_
     refine xl_v v_move ?_
     refine xl_nil ?_
     first
     | refine ⟨_, ?_, rfl, k + 1, VA4, vc4, rfl, by omega, ?_, inferInstance, inferInstance, inferInstance, inferInstance, inferInstance, evc, ?_, lkc⟩
       ·omega
       ·rw [idxsTo_snoc, if_pos c4, ints_append, List.length_append]
        exact own_keepB ho4 l6.keep (fun j e e2 => by
         have e2' : j = b8 := e2
         have := (own_blk ho4 e).1
         omega)
       ·rw [idxsTo_snoc, if_pos c4, List.length_append]
        exact k6b
     | refine ⟨_, ?_, rfl, k + 1, VA, vc, rfl, by omega, ?_, inferInstance, inferInstance, inferInstance, inferInstance, inferInstance, evc, ?_, lkc⟩
       ·omega
       ·rw [idxsTo_snoc, if_neg (by simpa using c4), List.append_nil]
        exact own_ext hoV lkc
       ·rw [idxsTo_snoc, if_neg (by simpa using c4), List.append_nil]
        exact ⟨Blk.eq⟩
    ·
     refine x_skip ?_
     refine x_regionL ?_
     refine xl_v (v_add (by omega)) ?_
     refine xl_v v_move ?_
     refine xl_nil ?_
     first
     | refine ⟨_, ?_, rfl, k + 1, VA4, vc4, rfl, by omega, ?_, inferInstance, inferInstance, inferInstance, inferInstance, inferInstance, evc, ?_, lkc⟩
       ·omega
       ·rw [idxsTo_snoc, if_pos c4, ints_append, List.length_append]
        exact own_keepB ho4 l6.keep (fun j e e2 => by
         have e2' : j = b8 := e2
         have := (own_blk ho4 e).1
         omega)
       ·rw [idxsTo_snoc, if_pos c4, List.length_append]
        exact k6b
     | refine ⟨_, ?_, rfl, k + 1, VA, vc, rfl, by omega, ?_, inferInstance, inferInstance, inferInstance, inferInstance, inferInstance, evc, ?_, lkc⟩
       ·omega
       ·rw [idxsTo_snoc, if_neg (by simpa using c4), List.append_nil]
        exact own_ext hoV lkc
       ·rw [idxsTo_snoc, if_neg (by simpa using c4), List.append_nil]
        exact ⟨Blk.eq⟩
   ·
    refine x_exit ?_
    refine x_seq ?_
    refine x_seq ?_
    have hk5 : k = 5 := by omega
    subst hk5
    rw [idxsTo_all ok.vl] at hoV kb8
    refine x_regionL ?_
    refine xl_Fb ?_
    refine xl_Lc ?_
    refine xl_v v_eql ?_
    refine xl_nil ?_
    first | refine x_condP (fun c5 => ?_) (fun c5 => ?_) | refine x_condN (fun c5 => ?_) (fun c5 => ?_) | refine x_condE (fun c5 => ?_) (fun c5 => ?_)
    ·
     haveI hrN : Row w24 (some ⟨b6, 10, none⟩) (ints (y.x.next.take D.ns.length)) := by
      rw [← add_at]
      exact ⟨rowP_sub (row_blk (Blk.eq : (w24).heap[b6]? = _)) (fun o v e => next_sub ok.nl e)⟩
     haveI hrM : Row w24 (some ⟨b6, 15, none⟩) (ints (y.x.mat.take D.ns.length)) := by
      rw [← add_at]
      exact ⟨rowP_sub (row_blk (Blk.eq : (w24).heap[b6]? = _)) (fun o v e => mat_sub ok.ml e)⟩
     have hnl : (y.x.next.take D.ns.length).length = D.ns.length := by rw [List.length_take, ok.nl]; omega
     have hml : (y.x.mat.take D.ns.length).length = D.ns.length := by rw [List.length_take, ok.ml]; omega
     refine x_drawL (OneB b8) (allS) (.take 0 (.take 1 (.take 2 (.take 4 (.take 5 (.take 6 (.eff 3 (.take 8 (.eff 7 (.eff 9 (.take 10 (.last 11)))))))))))) mixed (by kernel_rfl) (fun _ _ _ _ _ h => h) (fun w28 l28 => ?_)
     refine xt_Fb rfl ?_
     refine xt_v rfl v_move ?_
     refine xt_v rfl (v_sliceArrB D.ns.length rfl (by omega)) ?_
     refine xt_Fb rfl ?_
     refine xt_v rfl v_move ?_
     refine xt_v rfl (v_sliceArrB D.ns.length rfl (by omega)) ?_
     refine xt_call rfl (cloneI_ok (some ⟨b6, 10, none⟩) D.ns.length 5 (ints (y.x.next.take D.ns.length)) w28 (by rw [ints_len, hnl]; omega) (by omega) (ints_one _) (.inl rfl)) ?_
     rintro _ w29 ⟨⟨XA, xc, rfl, hoX⟩, lkX⟩
     refine ⟨kpc, ?_⟩
     haveI oX : OwnI w29 XA _ _ _ _ _ _ _ := ⟨hoX⟩
     haveI naX : NewA XA _ := newA_of hoX (Nat.le_refl _)
     refine xt_Fb rfl ?_
     refine xt_call rfl (cloneI_ok (some ⟨b6, 15, none⟩) D.ns.length 5 (ints (y.x.mat.take D.ns.length)) w29 (by rw [ints_len, hml]; omega) (by omega) (ints_one _) (.inl rfl)) ?_
     rintro _ w30 ⟨⟨MA, mc, rfl, hoM⟩, lkM⟩
     refine ⟨kpc, ?_⟩
     haveI oM : OwnI w30 MA _ _ _ _ _ _ _ := ⟨hoM⟩
     haveI naM : NewA MA _ := newA_of hoM (Nat.le_refl _)
     refine xt_s rfl (e_store fun w31 l9 k9 => ?_)
     refine xt_Fb rfl ?_
     refine xt_lastS rfl (e_store fun w32 l11 k11 => ?_)
     have hoV2 := own_keepB hoV (kpc : Keep (OneB b8) _ w32) (fun j e e2 => by
      have e2' : j = b8 := e2
      have := (own_blk hoV e).1
      omega)
     have hres : ∃ z : LAn, Blk w32 b8 (.cells (anC z).toArray 41 (0, 0)) ∧ z.x = y.x.tell D.ns.length ∧ AnAt w32 w.heap.size z ∧ RowOut (OneB b4) z.LA ∧ RowOut (OneB b4) z.VA ∧ RowOut (OneB b4) z.XA ∧ RowOut (OneB b4) z.MA := by
      have hrV : RowOut (OneB b4) VA := ⟨fun a ha e => by
       have e' : a.block = b4 := e
       have := (own_blk hoV (blkA_some ha)).1
       have := n8.eq
       omega⟩
      have e1 : (y.x.tell D.ns.length).next = y.x.next.take D.ns.length := if_pos c5
      have e2 : (y.x.tell D.ns.length).mat = y.x.mat.take D.ns.length := if_pos c5
      refine ⟨⟨y.x.tell D.ns.length, LA, lc, VA, vc, XA, xc, MA, mc⟩, ?_, rfl, ?_, (inferInstance : RowOut (OneB b4) LA), hrV, (inferInstance : RowOut (OneB b4) XA), (inferInstance : RowOut (OneB b4) MA)⟩
      ·simp only [anC, e1, e2, hnl, hml]
       exact k11
      ·refine ⟨own_mono (OwnI.own (w := w32) (A := LA)) Ge.le, own_mono hoV2 Ge.le, ?_, ?_, (inferInstance : ApA LA MA)⟩
       ·simp only [e1, hnl]; exact own_mono (OwnI.own (w := w32) (A := XA)) Ge.le
       ·simp only [e2, hml]; exact own_mono (OwnI.own (w := w32) (A := MA)) Ge.le
     refine x_seq ?_
     obtain ⟨z, hz, hzx, hza, hz1, hz2, hz3, hz4⟩ := hres
     refine x_regionL ?_
     refine xl_v (v_loadA) ?_
     refine xl_s (e_storeA fun w33 l1b k1b => ?_)
     refine xl_v v_assign ?_
     refine xl_nil ?_
     refine x_ret ?_
     refine finR (rs := [.cell 4 41, .tmp 5]) rfl ?_
     refine ⟨⟨z, rfl, hzx, ?_⟩, lkc⟩
     have hk := l1b.keep
     exact ⟨own_keepB hza.log hk (fun k e e2 => by obtain ⟨a, ha, hab⟩ := Option.map_eq_some_iff.1 (show z.LA.map (·.block) = some k from e); exact hz1.out a ha (hab.trans e2)), own_keepB hza.votes hk (fun k e e2 => by obtain ⟨a, ha, hab⟩ := Option.map_eq_some_iff.1 (show z.VA.map (·.block) = some k from e); exact hz2.out a ha (hab.trans e2)), own_keepB hza.next hk (fun k e e2 => by obtain ⟨a, ha, hab⟩ := Option.map_eq_some_iff.1 (show z.XA.map (·.block) = some k from e); exact hz3.out a ha (hab.trans e2)), own_keepB hza.mat hk (fun k e e2 => by obtain ⟨a, ha, hab⟩ := Option.map_eq_some_iff.1 (show z.MA.map (·.block) = some k from e); exact hz4.out a ha (hab.trans e2)), hza.lm⟩
    ·
     have hoV2 := own_keepB hoV (kpc : Keep (OneB b8) _ w24) (fun j e e2 => by
      have e2' : j = b8 := e2
      have := (own_blk hoV e).1
      omega)
     have hres : ∃ z : LAn, Blk w24 b8 (.cells (anC z).toArray 41 (0, 0)) ∧ z.x = y.x.tell D.ns.length ∧ AnAt w24 w.heap.size z ∧ RowOut (OneB b4) z.LA ∧ RowOut (OneB b4) z.VA ∧ RowOut (OneB b4) z.XA ∧ RowOut (OneB b4) z.MA := by
      have hrV : RowOut (OneB b4) VA := ⟨fun a ha e => by
       have e' : a.block = b4 := e
       have := (own_blk hoV (blkA_some ha)).1
       have := n8.eq
       omega⟩
      have e1 : (y.x.tell D.ns.length).next = [] := if_neg c5
      have e2 : (y.x.tell D.ns.length).mat = [] := if_neg c5
      refine ⟨⟨y.x.tell D.ns.length, LA, lc, VA, vc, none, 0, none, 0⟩, ?_, rfl, ?_, (inferInstance : RowOut (OneB b4) LA), hrV, ⟨fun a ha => by cases ha⟩, ⟨fun a ha => by cases ha⟩⟩
      ·simp only [anC, e1, e2]
       exact kb8
      ·refine ⟨own_mono (OwnI.own (w := w24) (A := LA)) Ge.le, own_mono hoV2 Ge.le, ?_, ?_, (inferInstance : ApA LA none)⟩
       ·simp only [e1]; exact World.ownsRow_nil _ _ _ _
       ·simp only [e2]; exact World.ownsRow_nil _ _ _ _
     refine x_skip ?_
     refine x_seq ?_
     obtain ⟨z, hz, hzx, hza, hz1, hz2, hz3, hz4⟩ := hres
     refine x_regionL ?_
     refine xl_v (v_loadA) ?_
     refine xl_s (e_storeA fun w34 l1b k1b => ?_)
     refine xl_v v_assign ?_
     refine xl_nil ?_
     refine x_ret ?_
     refine finR (rs := [.cell 4 41, .tmp 5]) rfl ?_
     refine ⟨⟨z, rfl, hzx, ?_⟩, lkc⟩
     have hk := l1b.keep
     exact ⟨own_keepB hza.log hk (fun k e e2 => by obtain ⟨a, ha, hab⟩ := Option.map_eq_some_iff.1 (show z.LA.map (·.block) = some k from e); exact hz1.out a ha (hab.trans e2)), own_keepB hza.votes hk (fun k e e2 => by obtain ⟨a, ha, hab⟩ := Option.map_eq_some_iff.1 (show z.VA.map (·.block) = some k from e); exact hz2.out a ha (hab.trans e2)), own_keepB hza.next hk (fun k e e2 => by obtain ⟨a, ha, hab⟩ := Option.map_eq_some_iff.1 (show z.XA.map (·.block) = some k from e); exact hz3.out a ha (hab.trans e2)), own_keepB hza.mat hk (fun k e e2 => by obtain ⟨a, ha, hab⟩ := Option.map_eq_some_iff.1 (show z.MA.map (·.block) = some k from e); exact hz4.out a ha (hab.trans e2)), hza.lm⟩
end Go.Proofs.YtljdkelgapndgaaGreat
