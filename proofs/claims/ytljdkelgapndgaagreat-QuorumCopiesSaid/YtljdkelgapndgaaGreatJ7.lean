/-
 Walks, printed by a program of this workplace (wip/tools/sx.py) off the functions' code and a text of contracts.
-/
import Derived.Test.YtljdkelgapndgaaGreatJ6
set_option linter.all false
set_option maxRecDepth 100000
set_option synthInstance.maxSize 100000
set_option synthInstance.maxHeartbeats 400000
namespace Go.Proofs.YtljdkelgapndgaaGreat
open Go.Wst
open Go.Wst.Qm
abbrev pkC (p : Pk) : List Value := [.int .i64 p.kind, .int .i64 p.a, .int .i64 p.b]
instance encN_pk : EncN pkC 3 := ⟨fun _ => rfl⟩
theorem rem_eq (a : Int) {n : Nat} (hn : 0 < n) : (a.tmod (n : Int) + (n : Int)).tmod (n : Int) = a % (n : Int) := by
 have hb1 : -(n : Int) < a.tmod (n : Int) := Int.lt_tmod_of_pos a (by omega)
 have hb2 : a.tmod (n : Int) < n := Int.tmod_lt_of_pos a (by omega)
 rw [Int.tmod_eq_emod_of_nonneg (by omega), Int.add_emod_right, Int.tmod_def, Int.sub_mul_emod_self_left]
theorem QMade.trans {q : Nat} {F F1 : Nat → Prop} {D D1 : LQu} {w w1 w' : World} {M : Qu} (h : QMade q F1 D1 w1 M w') (hs : Sub F1 F w) (hb : ∀ k, QuB q D1 k → QuB q D k ∨ w.heap.size ≤ k) (hw : w.heap.size ≤ w1.heap.size) : QMade q F D w M w' := by
 obtain ⟨D', F', h1, h2, h3, h4⟩ := h
 refine ⟨D', F', h1, h2, fun k e => (h3 k e).elim (fun e => hs k e) (fun e => .inr (Nat.le_trans hw e)), fun k e => (h4 k e).elim (fun e => hb k e) (fun e => .inr (Nat.le_trans hw e))⟩
theorem quB_eq {q : Nat} {D D1 : LQu} (h1 : D1.NA = D.NA) (h2 : D1.BA = D.BA) : ∀ k, QuB q D1 k → QuB q D k := fun k e => by unfold QuB at e ⊢; rw [h1, h2] at e; exact e
theorem nd_of {D : LQu} {i : Nat} {y : LNd} (hy : D.ns[i]? = some y) : D.pure.nd i = y.x := by simp [Qu.nd, LQu.pure, List.getD_eq_getElem?_getD, hy]
set_option maxHeartbeats 1000000 in
theorem picked_ok (q : Nat) (D : LQu) (F : Nat → Prop) (G : Gh) (p : Pk) (w : World) (h : QuAt w F q D) (hI : Inv D.pure G) : Ret Tryz.prog 40 #[.pointer (some ⟨q, 0, none⟩), .agg (pkC p).toArray] w (fun v w' => v = .int .i64 (D.pure.picked p).2 ∧ QMade q F D w (D.pure.picked p).1 w' ∧ Lk w' w (QuB q D)) := by
 haveI hb : Blk w q _ := ⟨h.hb⟩
 have hA := h.n1
 have hpl := pure_len D
 have hodd := hI.odd
 have hbl : D.bs.length ≤ 256 := by have := hI.bl; simpa [LQu.pure] using this
 rw [hpl] at hodd
 haveI hN : OwnI w D.NA D.ns.length D.nc 0 69 20 D.ns.length (D.ns.flatMap ndC) := ⟨h.nodes⟩
 haveI hB : OwnI w D.BA D.bs.length D.bc 0 75 12 D.bs.length (D.bs.flatMap blC) := ⟨h.bag⟩
 haveI hqn := h.qn
 haveI hqb := h.qb
 refine ret_of_x (N := 75) (l := [.pointer (some ⟨q, 0, none⟩), .agg (pkC p).toArray]) Tryz.func40 rfl rfl (Nat.le_of_ble_eq_true rfl) ?_
 refine x_seq ?_
 refine x_regionL ?_
 refine xl_e (e_box fun b1 w1 n1 l1 k1 => ?_)
 refine xl_v v_assign ?_
 refine xl_nil ?_
 refine x_seq ?_
 refine x_regionL ?_
 refine xl_v v_move ?_
 refine xl_Nc ?_
 refine xl_Fb ?_
 refine xl_Lc ?_
 refine xl_v v_len ?_
 refine xl_v v_assign ?_
 refine xl_nil ?_
 refine x_seq ?_
 refine x_seq ?_
 refine x_regionL ?_
 refine xl_v v_move ?_
 refine xl_v v_eql ?_
 refine xl_nil ?_
 first | refine x_condP (fun c1 => ?_) (fun c1 => ?_) | refine x_condN (fun c1 => ?_) (fun c1 => ?_) | refine x_condE (fun c1 => ?_) (fun c1 => ?_)
 ·
  refine x_seq ?_
  refine x_regionL ?_
  refine xl_v v_assign ?_
  refine xl_nil ?_
  refine x_ret ?_
  refine fin1 rfl ?_
  have hnil : D.bs = [] := List.eq_nil_of_length_eq_zero (by omega)
  have hr : D.pure.picked p = (D.pure, 5) := if_pos (by simp [LQu.pure, hnil])
  exact ⟨by rw [hr], QMade.stay h kpc (by rw [hr]), lkc⟩
 ·
  have hpos : 0 < D.bs.length := by omega
  obtain ⟨at_, hat⟩ : ∃ at_ : Nat, p.a % (D.bs.length : Int) = (at_ : Int) := ⟨(p.a % (D.bs.length : Int)).toNat, by have := Int.emod_nonneg p.a (b := (D.bs.length : Int)) (by omega); omega⟩
  have hatl : at_ < D.bs.length := by have := Int.emod_lt_of_pos p.a (b := (D.bs.length : Int)) (by omega); omega
  obtain ⟨m, hmD⟩ : ∃ m, D.bs[at_]? = some m := ⟨_, List.getElem?_eq_getElem hatl⟩
  have hmm : D.bs[at_] = m := (List.getElem?_eq_some_iff.1 hmD).2
  have hmem : m ∈ D.bs := List.mem_of_getElem? hmD
  have hmI : BlI D.pure.nodes.length D.pure.tm G m.m := hI.bg m.m (List.mem_map_of_mem hmem)
  have hmok := hmI.ok
  rw [hpl] at hmok
  obtain ⟨i, hi⟩ : ∃ i : Nat, m.m.to = (i : Int) := ⟨m.m.to.toNat, by have := hmok.t.1; omega⟩
  have hil : i < D.ns.length := by have := hmok.t.2; omega
  obtain ⟨y, hy⟩ : ∃ y, D.ns[i]? = some y := ⟨_, List.getElem?_eq_getElem hil⟩
  have hb1 : -(D.bs.length : Int) < p.a.tmod (D.bs.length : Int) := Int.lt_tmod_of_pos p.a (by omega)
  have hb2 : p.a.tmod (D.bs.length : Int) < D.bs.length := Int.tmod_lt_of_pos p.a (by omega)
  have hyok : y.x.Ok D.ns.length := by
   have := (hI.nd i (by rw [hpl]; exact hil)).ok
   rw [hpl, nd_of hy] at this
   exact this
  refine x_skip ?_
  refine x_seq ?_
  refine x_regionL ?_
  refine xl_Fb ?_
  refine xl_Lc ?_
  refine xl_v v_move ?_
  refine xl_v (v_rem (by omega)) ?_
  refine xl_v v_move ?_
  refine xl_v (v_add (by omega)) ?_
  refine xl_v v_move ?_
  refine xl_v (v_congr (u := .int .i64 (at_ : Int)) (v_rem (by omega)) (congrArg (Value.int .i64) (by rw [rem_eq p.a hpos]; exact hat))) ?_
  refine xl_v v_assign ?_
  refine xl_nil ?_
  refine x_seq ?_
  refine x_regionL ?_
  refine xl_v v_move ?_
  refine xl_Nc ?_
  refine xl_Fb ?_
  refine xl_Lc ?_
  refine xl_v v_move ?_
  refine xl_v (v_indexF at_ (by decide) rfl (by omega) hatl) ?_
  refine xl_v (v_congr (u := .agg (blC m).toArray) (v_loadF (k := at_) (by decide) hatl) (by rw [hmm])) ?_
  refine xl_e (e_alloc fun b7 w2 n7 l7 k7 => ?_)
  refine xl_s (e_storeA fun w3 l8 k8 => ?_)
  refine xl_nil ?_
  refine x_seq ?_
  refine x_seq ?_
  refine x_regionL ?_
  refine xl_Fb ?_
  refine xl_Lc ?_
  refine xl_v v_neq ?_
  refine xl_nil ?_
  refine x_condE (fun c2 => ?_) (fun c2 => ?_)
  ·
   refine x_regionL ?_
   refine xl_v v_move ?_
   refine xl_v v_move ?_
   refine xl_Nc ?_
   refine xl_Fb ?_
   refine xl_Lc ?_
   refine xl_v v_move ?_
   refine xl_v v_move ?_
   refine xl_v (v_add (by omega)) ?_
   refine xl_call (deleteB_ok D.BA D.bs.length D.bc D.bs at_ w3 (OwnI.own (w := w3) (A := D.BA)) rfl hatl (by omega)) ?_
   rintro _ w4 ⟨rfl, ho8, lk8⟩
   refine xl_Nc ?_
   refine xl_Fb ?_
   refine xl_s (e_store fun w5 l11 k11 => ?_)
   refine xl_nil ?_
   refine x_seq ?_
   refine x_seq ?_
   obtain ⟨D1, hQ1, hns, hNA, hnc, hBA, hbs⟩ : ∃ D1 : LQu, QuAt w5 F q D1 ∧ D1.ns = D.ns ∧ D1.NA = D.NA ∧ D1.nc = D.nc ∧ D1.BA = D.BA ∧ D1.bs = (if p.kind ≠ 6 then D.bs.eraseIdx at_ else D.bs) := by
    first
     | (have hk6 : p.kind ≠ 6 := by simpa using c2
        have hle : (D.bs.eraseIdx at_).length = D.bs.length - 1 := List.length_eraseIdx_of_lt hatl
        refine ⟨{ D with bs := D.bs.eraseIdx at_ }, h.setB (S := fun k => k = q ∨ blkA D.BA = some k) (bs := D.bs.eraseIdx at_) (BA := D.BA) (bc := D.bc) ?_ (fun _ _ e => e) ?_ ?_ (.inl rfl) (fun y hy => h.cmds y (List.mem_of_mem_eraseIdx hy)) (fun y hy => h.mc y (List.mem_of_mem_eraseIdx hy)), rfl, rfl, rfl, rfl, by rw [if_pos hk6]⟩
        ·haveI t1 : ∀ (W : World) (n c : Nat), SubF (OwnB (.slice D.BA n c)) (fun k => k = q ∨ blkA D.BA = some k) W := fun W n c => ⟨fun k _ e => .inr (ownB_blk.1 e)⟩
         haveI t2 : ∀ (W : World), SubF (OneB q) (fun k => k = q ∨ blkA D.BA = some k) W := fun W => ⟨fun k _ e => .inl e⟩
         exact kpc
        ·rw [show quC { D with bs := D.bs.eraseIdx at_ } = [.slice D.NA D.ns.length D.nc, .slice D.BA (D.bs.length - 1) D.bc] from by simp only [quC, hle]]
         exact k11.eq
        ·rw [hle]
         exact own_keepB ho8 l11.keep (fun k e e2 => by
          have e2' : k = q := e2
          obtain ⟨b, hb, hbb⟩ := Option.map_eq_some_iff.1 (show D.BA.map (·.block) = some k from e)
          exact h.qb.ne b hb (hbb.trans e2')))
     | exact ⟨D, h.ext kpc, rfl, rfl, rfl, rfl, by rw [if_neg (by simpa using c2)]⟩
   have lkq1 : Lk w5 w (QuB q D) := lkc
   haveI hb1' : Blk w5 q _ := ⟨hQ1.hb⟩
   haveI hN1 : OwnI w5 D1.NA D1.ns.length D1.nc 0 69 20 D1.ns.length ((D1.ns.set i y).flatMap ndC) := ⟨by rw [set_self (by rw [hns]; exact hy)]; exact hQ1.nodes⟩
   haveI li : LtI i D1.ns.length := ⟨by rw [hns]; exact hil⟩
   haveI old1 : OldA w D1.NA := by rw [hNA]; infer_instance
   have hA1 := hQ1.n1
   have hil1 : i < D1.ns.length := by rw [hns]; exact hil
   haveI hqn1 := hQ1.qn
   haveI sNq : ∀ (W : World) (n c : Nat), SubF (OwnB (.slice D1.NA n c)) (QuB q D) W := fun W n c => by rw [hNA]; infer_instance
   have hpure : D.pure.bag = D.bs.map (·.m) := rfl
   have hstep : D.pure.picked p = (if p.kind = 7 then (D1.pure, 0) else (D1.pure.come m.m, 0)) := by
    have e1 : D1.pure = (if p.kind ≠ 6 then ⟨D.pure.nodes, D.pure.bag.eraseIdx at_⟩ else D.pure) := by
     unfold LQu.pure
     rw [hns, hbs]
     split <;> simp [map_erase]
    have e2 : D.pure.bag ≠ [] := by rw [hpure]; intro e; simp at e; rw [e] at hpos; simp at hpos
    have e3 : (p.a % (D.pure.bag.length : Int)).toNat = at_ := by rw [hpure, List.length_map, hat]; rfl
    unfold Qu.picked
    simp only [if_neg e2, e3]
    rw [show D.pure.bag.getD at_ Bl.zero = m.m from by rw [hpure]; simp [List.getD_eq_getElem?_getD, hmD], ← e1]
   refine x_regionL ?_
   refine xl_Fb ?_
   refine xl_Lc ?_
   refine xl_v v_eql ?_
   refine xl_nil ?_
   first | refine x_condP (fun c3 => ?_) (fun c3 => ?_) | refine x_condN (fun c3 => ?_) (fun c3 => ?_) | refine x_condE (fun c3 => ?_) (fun c3 => ?_)
   ·
    refine x_seq ?_
    refine x_regionL ?_
    refine xl_v v_assign ?_
    refine xl_nil ?_
    refine x_ret ?_
    refine fin1 rfl ?_
    have hr : D.pure.picked p = (D1.pure, 0) := by rw [hstep, if_pos (by simpa using c3)]
    exact ⟨by rw [hr], ⟨D1, F, hQ1.ext kpc, by rw [hr], Sub.refl _ _, fun k e => .inl (quB_eq hNA hBA k e)⟩, lkc⟩
   ·
    have hr : D.pure.picked p = (D1.pure.come m.m, 0) := by rw [hstep, if_neg (by simpa using c3)]
    refine x_skip ?_
    refine x_seq ?_
    refine x_drawL (NoB) (allS) (.take 0 (.take 1 (.take 2 (.take 3 (.take 4 (.take 5 (.take 6 (.take 7 .done)))))))) mixed (by kernel_rfl) (fun _ _ _ _ _ h => h) (fun w6 l6 => ?_)
    refine xt_v rfl v_move ?_
    refine xt_Nc rfl ?_
    refine xt_Fb rfl ?_
    refine xt_Lc rfl ?_
    refine xt_Fb rfl ?_
    refine xt_Lc rfl ?_
    refine xt_v rfl (v_indexF i (by decide) hi (by omega) (by simp; omega)) ?_
    refine xt_v rfl v_assign ?_
    refine xt_nil ?_
    refine x_seq ?_
    refine x_seq ?_
    refine x_drawL (NoB) (allS) (.take 0 (.take 1 (.take 2 (.take 3 (.take 4 (.take 5 (.take 6 (.take 7 .done)))))))) mixed (by kernel_rfl) (fun _ _ _ _ _ h => h) (fun w7 l7 => ?_)
    refine xt_Fb rfl ?_
    refine xt_Lc rfl ?_
    refine xt_v rfl v_move ?_
    refine xt_Nc rfl ?_
    refine xt_Fb rfl ?_
    refine xt_Fb rfl ?_
    refine xt_Lc rfl ?_
    refine xt_v rfl v_gtr ?_
    refine xt_nil ?_
    first | refine x_condP (fun c4 => ?_) (fun c4 => ?_) | refine x_condN (fun c4 => ?_) (fun c4 => ?_) | refine x_condE (fun c4 => ?_) (fun c4 => ?_)
    ·
     refine x_regionL ?_
     refine xl_v v_move ?_
     refine xl_Fb ?_
     refine xl_Lc ?_
     refine xl_call (voter_ok D1.NA D1.ns.length D1.nc 0 i D1.ns y m.m.term w7 hA1) ?_
     rintro _ w8 ⟨rfl, o3, lk3⟩
     refine xl_nil ?_
     refine x_seq ?_
     obtain ⟨z, hz, oz, hzA, hzl, hzc⟩ : ∃ z : LNd, z.x = (if y.x.term < m.m.term then y.x.voter m.m.term else y.x) ∧ OwnI w8 D1.NA D1.ns.length D1.nc 0 69 20 D1.ns.length ((D1.ns.set i z).flatMap ndC) ∧ z.A = y.A ∧ z.x.log = y.x.log ∧ z.c = y.c := by
      first
       | exact ⟨y.voter m.m.term, by rw [if_pos c4]; rfl, o3, rfl, rfl, rfl⟩
       | exact ⟨y, by rw [if_neg c4], OwnI.mk OwnI.own, rfl, rfl, rfl⟩
     have hym : y ∈ D1.ns := by rw [hns]; exact List.mem_of_getElem? hy
     have hQ2 : QuAt w8 F q (D1.setN i z) := hQ1.setI kpc oz hym hzA hzl hzc
     have hcome : D1.pure.come m.m = (D1.setN i z).pure.goes m.m z.x := by
      rw [pure_setN, hz]
      unfold Qu.come Qu.goes
      rw [hi, pure_node (by rw [hns]; exact hy)]
      rfl
     have hzok : z.x.Ok D.ns.length := by
      rw [hz]
      by_cases e : y.x.term < m.m.term
      ·rw [if_pos e]; exact hyok.voter hmok.t1
      ·rw [if_neg e]; exact hyok
     have hmx : m.m.kind = 4 → m.m.ok = true → z.x.role = 3 → m.m.term = z.x.term → m.m.mat ≤ z.x.log.length := by
      intro e1 e2 e3 e4
      have h1 := (hI.fit.bg m.m (List.mem_map_of_mem hmem)).mm e1 e2
      rw [hi, pure_node hy] at h1
      rw [hzl]
      by_cases e : y.x.term < m.m.term
      ·rw [hz, if_pos e] at e3
       exact absurd e3 (by show (1 : Int) ≠ 3; decide)
      ·rw [hz, if_neg e] at e3 e4
       exact h1 e3 e4
     refine x_drawL (NoB) (allS) (.take 1 (.take 2 (.take 4 (.take 5 (.take 6 (.eff 0 (.take 3 (.free 7 .done)))))))) mixed (by kernel_rfl) (fun _ _ _ _ _ h => h) (fun w9 l9 => ?_)
     refine xt_Fb rfl ?_
     refine xt_Lc rfl ?_
     refine xt_v rfl v_move ?_
     refine xt_v rfl v_move ?_
     refine xt_Lb rfl ?_
     refine xt_call rfl (comes_ok w9) ?_
     rintro _ w10 ⟨⟨bm, rfl, hmb⟩, lk0⟩
     refine ⟨kpc, ?_⟩
     haveI hmI2 : MapI w10 bm Int (Value.int .i64) handlers := ⟨hmb⟩
     refine xt_v rfl (v_lookup1v m.m.kind (handler m.m.kind) rfl rfl) ?_
     refine xt_fcallv rfl (handle_ok q (D1.setN i z) F i z m w10 (hQ2.ext kpc) (get_setNL (by rw [hns]; exact hil)) ⟨hi, by rw [len_setNL, hns]; exact hmok.f, (h.cmds m hmem).keep (kpc : Keep (QuB q D) w w10) (fun k e => h.fq k e), h.mc m hmem, by have := hmok.cl; omega⟩ (by rw [len_setNL, hns]; exact hodd.2) (by rw [len_setNL, hns]; exact hodd.1) hmok.k (by rw [len_setNL, hns]; exact hzok) (by have := hmok.p0; have := hmok.p1; omega) hmx) ?_
     rintro _ w11 ⟨rfl, hM, lk7⟩
     refine ⟨kpa, ?_⟩
     refine xt_nil ?_
     refine x_seq ?_
     refine x_regionL ?_
     refine xl_v v_assign ?_
     refine xl_nil ?_
     refine x_ret ?_
     refine fin1 rfl ?_
     haveI sF : ∀ W, SubF (QuB q (D1.setN i z)) (QuB q D) W := fun W => ⟨fun k _ e => quB_eq (D := D) (D1 := D1.setN i z) hNA hBA k e⟩
     exact ⟨by rw [hr], by rw [hr, hcome]; exact hM.trans (Sub.refl _ _) (fun k e => .inl (quB_eq (D := D) (D1 := D1.setN i z) hNA hBA k e)) Ge.le, lkc⟩
    ·
     refine x_skip ?_
     refine x_seq ?_
     obtain ⟨z, hz, oz, hzA, hzl, hzc⟩ : ∃ z : LNd, z.x = (if y.x.term < m.m.term then y.x.voter m.m.term else y.x) ∧ OwnI w7 D1.NA D1.ns.length D1.nc 0 69 20 D1.ns.length ((D1.ns.set i z).flatMap ndC) ∧ z.A = y.A ∧ z.x.log = y.x.log ∧ z.c = y.c := by
      first
       | exact ⟨y.voter m.m.term, by rw [if_pos c4]; rfl, o3, rfl, rfl, rfl⟩
       | exact ⟨y, by rw [if_neg c4], OwnI.mk OwnI.own, rfl, rfl, rfl⟩
     have hym : y ∈ D1.ns := by rw [hns]; exact List.mem_of_getElem? hy
     have hQ2 : QuAt w7 F q (D1.setN i z) := hQ1.setI kpc oz hym hzA hzl hzc
     have hcome : D1.pure.come m.m = (D1.setN i z).pure.goes m.m z.x := by
      rw [pure_setN, hz]
      unfold Qu.come Qu.goes
      rw [hi, pure_node (by rw [hns]; exact hy)]
      rfl
     have hzok : z.x.Ok D.ns.length := by
      rw [hz]
      by_cases e : y.x.term < m.m.term
      ·rw [if_pos e]; exact hyok.voter hmok.t1
      ·rw [if_neg e]; exact hyok
     have hmx : m.m.kind = 4 → m.m.ok = true → z.x.role = 3 → m.m.term = z.x.term → m.m.mat ≤ z.x.log.length := by
      intro e1 e2 e3 e4
      have h1 := (hI.fit.bg m.m (List.mem_map_of_mem hmem)).mm e1 e2
      rw [hi, pure_node hy] at h1
      rw [hzl]
      by_cases e : y.x.term < m.m.term
      ·rw [hz, if_pos e] at e3
       exact absurd e3 (by show (1 : Int) ≠ 3; decide)
      ·rw [hz, if_neg e] at e3 e4
       exact h1 e3 e4
     refine x_drawL (NoB) (allS) (.take 1 (.take 2 (.take 4 (.take 5 (.take 6 (.eff 0 (.take 3 (.free 7 .done)))))))) mixed (by kernel_rfl) (fun _ _ _ _ _ h => h) (fun w12 l12 => ?_)
     refine xt_Fb rfl ?_
     refine xt_Lc rfl ?_
     refine xt_v rfl v_move ?_
     refine xt_v rfl v_move ?_
     refine xt_Lb rfl ?_
     refine xt_call rfl (comes_ok w12) ?_
     rintro _ w13 ⟨⟨bm, rfl, hmb⟩, lk0⟩
     refine ⟨kpc, ?_⟩
     haveI hmI2 : MapI w13 bm Int (Value.int .i64) handlers := ⟨hmb⟩
     refine xt_v rfl (v_lookup1v m.m.kind (handler m.m.kind) rfl rfl) ?_
     refine xt_fcallv rfl (handle_ok q (D1.setN i z) F i z m w13 (hQ2.ext kpc) (get_setNL (by rw [hns]; exact hil)) ⟨hi, by rw [len_setNL, hns]; exact hmok.f, (h.cmds m hmem).keep (kpc : Keep (QuB q D) w w13) (fun k e => h.fq k e), h.mc m hmem, by have := hmok.cl; omega⟩ (by rw [len_setNL, hns]; exact hodd.2) (by rw [len_setNL, hns]; exact hodd.1) hmok.k (by rw [len_setNL, hns]; exact hzok) (by have := hmok.p0; have := hmok.p1; omega) hmx) ?_
     rintro _ w14 ⟨rfl, hM, lk7⟩
     refine ⟨kpa, ?_⟩
     refine xt_nil ?_
     refine x_seq ?_
     refine x_regionL ?_
     refine xl_v v_assign ?_
     refine xl_nil ?_
     refine x_ret ?_
     refine fin1 rfl ?_
     haveI sF : ∀ W, SubF (QuB q (D1.setN i z)) (QuB q D) W := fun W => ⟨fun k _ e => quB_eq (D := D) (D1 := D1.setN i z) hNA hBA k e⟩
     exact ⟨by rw [hr], by rw [hr, hcome]; exact hM.trans (Sub.refl _ _) (fun k e => .inl (quB_eq (D := D) (D1 := D1.setN i z) hNA hBA k e)) Ge.le, lkc⟩
  ·
   refine x_skip ?_
   refine x_seq ?_
   refine x_seq ?_
   obtain ⟨D1, hQ1, hns, hNA, hnc, hBA, hbs⟩ : ∃ D1 : LQu, QuAt w3 F q D1 ∧ D1.ns = D.ns ∧ D1.NA = D.NA ∧ D1.nc = D.nc ∧ D1.BA = D.BA ∧ D1.bs = (if p.kind ≠ 6 then D.bs.eraseIdx at_ else D.bs) := by
    first
     | (have hk6 : p.kind ≠ 6 := by simpa using c2
        have hle : (D.bs.eraseIdx at_).length = D.bs.length - 1 := List.length_eraseIdx_of_lt hatl
        refine ⟨{ D with bs := D.bs.eraseIdx at_ }, h.setB (S := fun k => k = q ∨ blkA D.BA = some k) (bs := D.bs.eraseIdx at_) (BA := D.BA) (bc := D.bc) ?_ (fun _ _ e => e) ?_ ?_ (.inl rfl) (fun y hy => h.cmds y (List.mem_of_mem_eraseIdx hy)) (fun y hy => h.mc y (List.mem_of_mem_eraseIdx hy)), rfl, rfl, rfl, rfl, by rw [if_pos hk6]⟩
        ·haveI t1 : ∀ (W : World) (n c : Nat), SubF (OwnB (.slice D.BA n c)) (fun k => k = q ∨ blkA D.BA = some k) W := fun W n c => ⟨fun k _ e => .inr (ownB_blk.1 e)⟩
         haveI t2 : ∀ (W : World), SubF (OneB q) (fun k => k = q ∨ blkA D.BA = some k) W := fun W => ⟨fun k _ e => .inl e⟩
         exact kpc
        ·rw [show quC { D with bs := D.bs.eraseIdx at_ } = [.slice D.NA D.ns.length D.nc, .slice D.BA (D.bs.length - 1) D.bc] from by simp only [quC, hle]]
         exact k11.eq
        ·rw [hle]
         exact own_keepB ho8 l11.keep (fun k e e2 => by
          have e2' : k = q := e2
          obtain ⟨b, hb, hbb⟩ := Option.map_eq_some_iff.1 (show D.BA.map (·.block) = some k from e)
          exact h.qb.ne b hb (hbb.trans e2')))
     | exact ⟨D, h.ext kpc, rfl, rfl, rfl, rfl, by rw [if_neg (by simpa using c2)]⟩
   have lkq1 : Lk w3 w (QuB q D) := lkc
   haveI hb1' : Blk w3 q _ := ⟨hQ1.hb⟩
   haveI hN1 : OwnI w3 D1.NA D1.ns.length D1.nc 0 69 20 D1.ns.length ((D1.ns.set i y).flatMap ndC) := ⟨by rw [set_self (by rw [hns]; exact hy)]; exact hQ1.nodes⟩
   haveI li : LtI i D1.ns.length := ⟨by rw [hns]; exact hil⟩
   haveI old1 : OldA w D1.NA := by rw [hNA]; infer_instance
   have hA1 := hQ1.n1
   have hil1 : i < D1.ns.length := by rw [hns]; exact hil
   haveI hqn1 := hQ1.qn
   haveI sNq : ∀ (W : World) (n c : Nat), SubF (OwnB (.slice D1.NA n c)) (QuB q D) W := fun W n c => by rw [hNA]; infer_instance
   have hpure : D.pure.bag = D.bs.map (·.m) := rfl
   have hstep : D.pure.picked p = (if p.kind = 7 then (D1.pure, 0) else (D1.pure.come m.m, 0)) := by
    have e1 : D1.pure = (if p.kind ≠ 6 then ⟨D.pure.nodes, D.pure.bag.eraseIdx at_⟩ else D.pure) := by
     unfold LQu.pure
     rw [hns, hbs]
     split <;> simp [map_erase]
    have e2 : D.pure.bag ≠ [] := by rw [hpure]; intro e; simp at e; rw [e] at hpos; simp at hpos
    have e3 : (p.a % (D.pure.bag.length : Int)).toNat = at_ := by rw [hpure, List.length_map, hat]; rfl
    unfold Qu.picked
    simp only [if_neg e2, e3]
    rw [show D.pure.bag.getD at_ Bl.zero = m.m from by rw [hpure]; simp [List.getD_eq_getElem?_getD, hmD], ← e1]
   refine x_regionL ?_
   refine xl_Fb ?_
   refine xl_Lc ?_
   refine xl_v v_eql ?_
   refine xl_nil ?_
   first | refine x_condP (fun c3 => ?_) (fun c3 => ?_) | refine x_condN (fun c3 => ?_) (fun c3 => ?_) | refine x_condE (fun c3 => ?_) (fun c3 => ?_)
   ·
    refine x_seq ?_
    refine x_regionL ?_
    refine xl_v v_assign ?_
    refine xl_nil ?_
    refine x_ret ?_
    refine fin1 rfl ?_
    have hr : D.pure.picked p = (D1.pure, 0) := by rw [hstep, if_pos (by simpa using c3)]
    exact ⟨by rw [hr], ⟨D1, F, hQ1.ext kpc, by rw [hr], Sub.refl _ _, fun k e => .inl (quB_eq hNA hBA k e)⟩, lkc⟩
   ·
    have hr : D.pure.picked p = (D1.pure.come m.m, 0) := by rw [hstep, if_neg (by simpa using c3)]
    refine x_skip ?_
    refine x_seq ?_
    refine x_drawL (NoB) (allS) (.take 0 (.take 1 (.take 2 (.take 3 (.take 4 (.take 5 (.take 6 (.take 7 .done)))))))) mixed (by kernel_rfl) (fun _ _ _ _ _ h => h) (fun w15 l15 => ?_)
    refine xt_v rfl v_move ?_
    refine xt_Nc rfl ?_
    refine xt_Fb rfl ?_
    refine xt_Lc rfl ?_
    refine xt_Fb rfl ?_
    refine xt_Lc rfl ?_
    refine xt_v rfl (v_indexF i (by decide) hi (by omega) (by simp; omega)) ?_
    refine xt_v rfl v_assign ?_
    refine xt_nil ?_
    refine x_seq ?_
    refine x_seq ?_
    refine x_drawL (NoB) (allS) (.take 0 (.take 1 (.take 2 (.take 3 (.take 4 (.take 5 (.take 6 (.take 7 .done)))))))) mixed (by kernel_rfl) (fun _ _ _ _ _ h => h) (fun w16 l16 => ?_)
    refine xt_Fb rfl ?_
    refine xt_Lc rfl ?_
    refine xt_v rfl v_move ?_
    refine xt_Nc rfl ?_
    refine xt_Fb rfl ?_
    refine xt_Fb rfl ?_
    refine xt_Lc rfl ?_
    refine xt_v rfl v_gtr ?_
    refine xt_nil ?_
    first | refine x_condP (fun c4 => ?_) (fun c4 => ?_) | refine x_condN (fun c4 => ?_) (fun c4 => ?_) | refine x_condE (fun c4 => ?_) (fun c4 => ?_)
    ·
     refine x_regionL ?_
     refine xl_v v_move ?_
     refine xl_Fb ?_
     refine xl_Lc ?_
     refine xl_call (voter_ok D1.NA D1.ns.length D1.nc 0 i D1.ns y m.m.term w16 hA1) ?_
     rintro _ w17 ⟨rfl, o3, lk3⟩
     refine xl_nil ?_
     refine x_seq ?_
     obtain ⟨z, hz, oz, hzA, hzl, hzc⟩ : ∃ z : LNd, z.x = (if y.x.term < m.m.term then y.x.voter m.m.term else y.x) ∧ OwnI w17 D1.NA D1.ns.length D1.nc 0 69 20 D1.ns.length ((D1.ns.set i z).flatMap ndC) ∧ z.A = y.A ∧ z.x.log = y.x.log ∧ z.c = y.c := by
      first
       | exact ⟨y.voter m.m.term, by rw [if_pos c4]; rfl, o3, rfl, rfl, rfl⟩
       | exact ⟨y, by rw [if_neg c4], OwnI.mk OwnI.own, rfl, rfl, rfl⟩
     have hym : y ∈ D1.ns := by rw [hns]; exact List.mem_of_getElem? hy
     have hQ2 : QuAt w17 F q (D1.setN i z) := hQ1.setI kpc oz hym hzA hzl hzc
     have hcome : D1.pure.come m.m = (D1.setN i z).pure.goes m.m z.x := by
      rw [pure_setN, hz]
      unfold Qu.come Qu.goes
      rw [hi, pure_node (by rw [hns]; exact hy)]
      rfl
     have hzok : z.x.Ok D.ns.length := by
      rw [hz]
      by_cases e : y.x.term < m.m.term
      ·rw [if_pos e]; exact hyok.voter hmok.t1
      ·rw [if_neg e]; exact hyok
     have hmx : m.m.kind = 4 → m.m.ok = true → z.x.role = 3 → m.m.term = z.x.term → m.m.mat ≤ z.x.log.length := by
      intro e1 e2 e3 e4
      have h1 := (hI.fit.bg m.m (List.mem_map_of_mem hmem)).mm e1 e2
      rw [hi, pure_node hy] at h1
      rw [hzl]
      by_cases e : y.x.term < m.m.term
      ·rw [hz, if_pos e] at e3
       exact absurd e3 (by show (1 : Int) ≠ 3; decide)
      ·rw [hz, if_neg e] at e3 e4
       exact h1 e3 e4
     refine x_drawL (NoB) (allS) (.take 1 (.take 2 (.take 4 (.take 5 (.take 6 (.eff 0 (.take 3 (.free 7 .done)))))))) mixed (by kernel_rfl) (fun _ _ _ _ _ h => h) (fun w18 l18 => ?_)
     refine xt_Fb rfl ?_
     refine xt_Lc rfl ?_
     refine xt_v rfl v_move ?_
     refine xt_v rfl v_move ?_
     refine xt_Lb rfl ?_
     refine xt_call rfl (comes_ok w18) ?_
     rintro _ w19 ⟨⟨bm, rfl, hmb⟩, lk0⟩
     refine ⟨kpc, ?_⟩
     haveI hmI2 : MapI w19 bm Int (Value.int .i64) handlers := ⟨hmb⟩
     refine xt_v rfl (v_lookup1v m.m.kind (handler m.m.kind) rfl rfl) ?_
     refine xt_fcallv rfl (handle_ok q (D1.setN i z) F i z m w19 (hQ2.ext kpc) (get_setNL (by rw [hns]; exact hil)) ⟨hi, by rw [len_setNL, hns]; exact hmok.f, (h.cmds m hmem).keep (kpc : Keep (QuB q D) w w19) (fun k e => h.fq k e), h.mc m hmem, by have := hmok.cl; omega⟩ (by rw [len_setNL, hns]; exact hodd.2) (by rw [len_setNL, hns]; exact hodd.1) hmok.k (by rw [len_setNL, hns]; exact hzok) (by have := hmok.p0; have := hmok.p1; omega) hmx) ?_
     rintro _ w20 ⟨rfl, hM, lk7⟩
     refine ⟨kpa, ?_⟩
     refine xt_nil ?_
     refine x_seq ?_
     refine x_regionL ?_
     refine xl_v v_assign ?_
     refine xl_nil ?_
     refine x_ret ?_
     refine fin1 rfl ?_
     haveI sF : ∀ W, SubF (QuB q (D1.setN i z)) (QuB q D) W := fun W => ⟨fun k _ e => quB_eq (D := D) (D1 := D1.setN i z) hNA hBA k e⟩
     exact ⟨by rw [hr], by rw [hr, hcome]; exact hM.trans (Sub.refl _ _) (fun k e => .inl (quB_eq (D := D) (D1 := D1.setN i z) hNA hBA k e)) Ge.le, lkc⟩
    ·
     refine x_skip ?_
     refine x_seq ?_
     obtain ⟨z, hz, oz, hzA, hzl, hzc⟩ : ∃ z : LNd, z.x = (if y.x.term < m.m.term then y.x.voter m.m.term else y.x) ∧ OwnI w16 D1.NA D1.ns.length D1.nc 0 69 20 D1.ns.length ((D1.ns.set i z).flatMap ndC) ∧ z.A = y.A ∧ z.x.log = y.x.log ∧ z.c = y.c := by
      first
       | exact ⟨y.voter m.m.term, by rw [if_pos c4]; rfl, o3, rfl, rfl, rfl⟩
       | exact ⟨y, by rw [if_neg c4], OwnI.mk OwnI.own, rfl, rfl, rfl⟩
     have hym : y ∈ D1.ns := by rw [hns]; exact List.mem_of_getElem? hy
     have hQ2 : QuAt w16 F q (D1.setN i z) := hQ1.setI kpc oz hym hzA hzl hzc
     have hcome : D1.pure.come m.m = (D1.setN i z).pure.goes m.m z.x := by
      rw [pure_setN, hz]
      unfold Qu.come Qu.goes
      rw [hi, pure_node (by rw [hns]; exact hy)]
      rfl
     have hzok : z.x.Ok D.ns.length := by
      rw [hz]
      by_cases e : y.x.term < m.m.term
      ·rw [if_pos e]; exact hyok.voter hmok.t1
      ·rw [if_neg e]; exact hyok
     have hmx : m.m.kind = 4 → m.m.ok = true → z.x.role = 3 → m.m.term = z.x.term → m.m.mat ≤ z.x.log.length := by
      intro e1 e2 e3 e4
      have h1 := (hI.fit.bg m.m (List.mem_map_of_mem hmem)).mm e1 e2
      rw [hi, pure_node hy] at h1
      rw [hzl]
      by_cases e : y.x.term < m.m.term
      ·rw [hz, if_pos e] at e3
       exact absurd e3 (by show (1 : Int) ≠ 3; decide)
      ·rw [hz, if_neg e] at e3 e4
       exact h1 e3 e4
     refine x_drawL (NoB) (allS) (.take 1 (.take 2 (.take 4 (.take 5 (.take 6 (.eff 0 (.take 3 (.free 7 .done)))))))) mixed (by kernel_rfl) (fun _ _ _ _ _ h => h) (fun w21 l21 => ?_)
     refine xt_Fb rfl ?_
     refine xt_Lc rfl ?_
     refine xt_v rfl v_move ?_
     refine xt_v rfl v_move ?_
     refine xt_Lb rfl ?_
     refine xt_call rfl (comes_ok w21) ?_
     rintro _ w22 ⟨⟨bm, rfl, hmb⟩, lk0⟩
     refine ⟨kpc, ?_⟩
     haveI hmI2 : MapI w22 bm Int (Value.int .i64) handlers := ⟨hmb⟩
     refine xt_v rfl (v_lookup1v m.m.kind (handler m.m.kind) rfl rfl) ?_
     refine xt_fcallv rfl (handle_ok q (D1.setN i z) F i z m w22 (hQ2.ext kpc) (get_setNL (by rw [hns]; exact hil)) ⟨hi, by rw [len_setNL, hns]; exact hmok.f, (h.cmds m hmem).keep (kpc : Keep (QuB q D) w w22) (fun k e => h.fq k e), h.mc m hmem, by have := hmok.cl; omega⟩ (by rw [len_setNL, hns]; exact hodd.2) (by rw [len_setNL, hns]; exact hodd.1) hmok.k (by rw [len_setNL, hns]; exact hzok) (by have := hmok.p0; have := hmok.p1; omega) hmx) ?_
     rintro _ w23 ⟨rfl, hM, lk7⟩
     refine ⟨kpa, ?_⟩
     refine xt_nil ?_
     refine x_seq ?_
     refine x_regionL ?_
     refine xl_v v_assign ?_
     refine xl_nil ?_
     refine x_ret ?_
     refine fin1 rfl ?_
     haveI sF : ∀ W, SubF (QuB q (D1.setN i z)) (QuB q D) W := fun W => ⟨fun k _ e => quB_eq (D := D) (D1 := D1.setN i z) hNA hBA k e⟩
     exact ⟨by rw [hr], by rw [hr, hcome]; exact hM.trans (Sub.refl _ _) (fun k e => .inl (quB_eq (D := D) (D1 := D1.setN i z) hNA hBA k e)) Ge.le, lkc⟩
end Go.Proofs.YtljdkelgapndgaaGreat
set_option linter.all false
set_option maxRecDepth 100000
set_option synthInstance.maxSize 100000
set_option synthInstance.maxHeartbeats 400000
namespace Go.Proofs.YtljdkelgapndgaaGreat
open Go.Wst
open Go.Wst.Qm
theorem wraps32 (v : Int) : (v = IntKind.i64.wrap (IntKind.i32.wrap v)) ↔ in32 v := by
 have h : -2147483648 ≤ IntKind.i32.wrap v ∧ IntKind.i32.wrap v ≤ 2147483647 := by rw [IntKind.wrap_i32]; omega
 rw [wrap_in (by omega) (by omega)]
 constructor
 ·intro e; rw [e]; exact h
 ·intro e; exact (Go.IntWalk.i32_in v e).symm
theorem take_32 {q : Qu} {p : Pk} (h : ¬ in32 p.b) : q.take p = (q, 2) := by unfold Qu.take; simp only [if_pos h]
theorem take_role {q : Qu} {p : Pk} (h : in32 p.b) (h2 : (q.node p.a).role ≠ 3) : q.take p = (q, 160) := by unfold Qu.take; simp only [if_neg (fun e => e h : ¬ ¬ in32 p.b), if_pos h2]
theorem take_long {q : Qu} {p : Pk} (h : in32 p.b) (h2 : (q.node p.a).role = 3) (h3 : 256 ≤ (q.node p.a).log.length) : q.take p = (q, 3) := by unfold Qu.take; simp only [if_neg (fun e => e h : ¬ ¬ in32 p.b), if_neg (fun e => e h2 : ¬ (q.node p.a).role ≠ 3), if_pos h3]
theorem take_yes {q : Qu} {p : Pk} (h : in32 p.b) (h2 : (q.node p.a).role = 3) (h3 : ¬ 256 ≤ (q.node p.a).log.length) : q.take p = (q.setN p.a.toNat (Nd.commits { q.node p.a with log := (q.node p.a).log ++ [⟨(q.node p.a).term, p.b⟩], mat := setI (q.node p.a).mat p.a ((q.node p.a).log.length + 1) } q.nodes.length), 0) := by unfold Qu.take; simp only [if_neg (fun e => e h : ¬ ¬ in32 p.b), if_neg (fun e => e h2 : ¬ (q.node p.a).role ≠ 3), if_neg h3]

theorem take_ok (q : Nat) (D : LQu) (F : Nat → Prop) (i : Nat) (y : LNd) (p : Pk) (w : World) (h : QuAt w F q D) (hy : D.ns[i]? = some y) (hpa : p.a = (i : Int)) (hn5 : D.ns.length ≤ 5) (hodd : D.ns.length % 2 = 1) (ok : y.x.Ok D.ns.length) : Ret Tryz.prog 37 #[.pointer (some ⟨q, 0, none⟩), padd D.NA (i * 20), .agg (pkC p).toArray] w (fun v w' => v = .int .i64 (D.pure.take p).2 ∧ QMade q F D w (D.pure.take p).1 w' ∧ Lk w' w (QuB q D)) := by
 haveI hb : Blk w q _ := ⟨h.hb⟩
 have hi : i < D.ns.length := (List.getElem?_eq_some_iff.1 hy).1
 haveI li : LtI i D.ns.length := ⟨hi⟩
 have hA := h.n1
 have hym : y ∈ D.ns := List.mem_of_getElem? hy
 haveI hN : OwnI w D.NA D.ns.length D.nc 0 69 20 D.ns.length ((D.ns.set i y).flatMap ndC) := ⟨by rw [set_self hy]; exact h.nodes⟩
 haveI hrl : Row w y.A (cmdsC y.x.log) := ⟨(h.logs y hym).row⟩
 haveI hro : ∀ n c, RowOut (OwnB (.slice D.NA n c)) y.A := fun n c => (h.logs y hym).out (fun k e e2 => h.fq k e (.inr (.inl (ownB_blk.1 e2))))
 haveI hqn := h.qn
 have hil : i < (D.ns.set i y).length := by simpa using hi
 refine ret_of_x (N := 65) (l := [.pointer (some ⟨q, 0, none⟩), padd D.NA (i * 20), .agg (pkC p).toArray]) Tryz.func37 rfl rfl (Nat.le_of_ble_eq_true rfl) ?_
 refine x_seq ?_
 have hnode : D.pure.node p.a = y.x := by rw [hpa]; exact pure_node hy
 haveI holdA : OldA w y.A := (h.logs y hym).old h.fl
 have hll := ok.ll
 refine x_regionL ?_
 refine xl_e (e_box fun b1 w1 n1 l1 k1 => ?_)
 refine xl_v v_assign ?_
 refine xl_nil ?_
 refine x_seq ?_
 refine x_block ?_
 refine x_seq ?_
 refine x_regionL ?_
 refine xl_Fb ?_
 refine xl_Lc ?_
 refine xl_Fb ?_
 refine xl_Lc ?_
 refine xl_v v_convert ?_
 refine xl_v v_convert ?_
 refine xl_v v_neq ?_
 refine xl_v v_assign ?_
 refine xl_nil ?_
 refine x_condE (fun c1 => ?_) (fun c1 => ?_)
 ·
  refine x_seq ?_
  refine x_regionL ?_
  refine xl_v v_assign ?_
  refine xl_nil ?_
  refine x_ret ?_
  refine fin1 rfl ?_
  have hn : ¬ in32 p.b := fun e => by rw [decide_eq_true ((wraps32 p.b).2 e)] at c1; simp at c1
  exact ⟨by rw [take_32 hn], QMade.stay h kpc (by rw [take_32 hn]), lkc⟩
 ·
  have h32 : in32 p.b := (wraps32 p.b).1 (by simpa using c1)
  refine x_seq ?_
  refine x_regionL ?_
  refine xl_v v_move ?_
  refine xl_Nc ?_
  refine xl_Fb ?_
  refine xl_Lc ?_
  refine xl_v v_neq ?_
  refine xl_v v_assign ?_
  refine xl_nil ?_
  first | refine x_condP (fun c2 => ?_) (fun c2 => ?_) | refine x_condN (fun c2 => ?_) (fun c2 => ?_) | refine x_condE (fun c2 => ?_) (fun c2 => ?_)
  ·
   refine x_seq ?_
   refine x_regionL ?_
   refine xl_v v_assign ?_
   refine xl_nil ?_
   refine x_ret ?_
   refine fin1 rfl ?_
   have hr := take_role (q := D.pure) h32 (by rw [hnode]; exact c2)
   exact ⟨by rw [hr], QMade.stay h kpc (by rw [hr]), lkc⟩
  ·
   have hr3 : (D.pure.node p.a).role = 3 := by rw [hnode]; exact c2
   refine x_seq ?_
   refine x_regionL ?_
   refine xl_v v_move ?_
   refine xl_Nc ?_
   refine xl_Fb ?_
   refine xl_Fb ?_
   refine xl_Lc ?_
   refine xl_v v_len ?_
   refine xl_v v_geq ?_
   refine xl_v v_assign ?_
   refine xl_nil ?_
   first | refine x_condP (fun c3 => ?_) (fun c3 => ?_) | refine x_condN (fun c3 => ?_) (fun c3 => ?_) | refine x_condE (fun c3 => ?_) (fun c3 => ?_)
   ·
    refine x_seq ?_
    refine x_regionL ?_
    refine xl_v v_assign ?_
    refine xl_nil ?_
    refine x_ret ?_
    refine fin1 rfl ?_
    have hr := take_long (q := D.pure) h32 hr3 (by rw [hnode]; omega)
    exact ⟨by rw [hr], QMade.stay h kpc (by rw [hr]), lkc⟩
   ·
    have hr := take_yes (q := D.pure) h32 hr3 (by rw [hnode]; omega)
    rw [hnode] at hr
    refine x_skip ?_
    refine x_seq ?_
    refine x_drawL (NoB) (allS) (.take 0 (.take 1 (.take 2 (.take 3 (.take 4 (.take 5 (.take 6 (.take 7 (.take 8 (.take 9 (.take 10 (.take 11 (.take 12 (.take 13 (.eff 14 (.eff 15 (.eff 16 (.take 17 (.take 18 (.take 19 (.free 20 .done))))))))))))))))))))) mixed (by kernel_rfl) (fun _ _ _ _ _ h => h) (fun w2 l2 => ?_)
    refine xt_v rfl v_move ?_
    refine xt_v rfl v_move ?_
    refine xt_Nc rfl ?_
    refine xt_Fb rfl ?_
    refine xt_Fb rfl ?_
    refine xt_Lc rfl ?_
    refine xt_v rfl v_move ?_
    refine xt_Nc rfl ?_
    refine xt_Fb rfl ?_
    refine xt_Fb rfl ?_
    refine xt_Lc rfl ?_
    refine xt_Fb rfl ?_
    refine xt_Lc rfl ?_
    refine xt_v rfl v_build ?_
    refine xt_e rfl (e_buildSlice1 rfl fun b14 w3 n14 l14 k14 => ?_)
    refine xt_e rfl (e_buildSliceN rfl fun b15 w4 n15 l15 k15 => ?_)
    refine xt_call rfl (concatC_ok (some ⟨b15, 0, none⟩) 2 2 [⟨y.x.log, y.A, y.c⟩, ⟨[⟨y.x.term, p.b⟩], some ⟨b14, 0, none⟩, 1⟩] w4 (hra := rowB_two inferInstance rfl rfl) (by
        intro a ha
        match a, ha with
        | 0, _ => exact rowB_of (Row.row (w := w4) (A := y.A) (cs := cmdsC y.x.log))
        | 1, _ => exact rowB_of (row_blk (cs := cmdsC [⟨y.x.term, p.b⟩]) (Blk.eq : (w4).heap[b14]? = _))) rfl (by omega) (by rw [lens_two]; simp only [List.length_singleton]; omega)) ?_
    rintro _ w5 ⟨⟨A9, c9, hv9, ho9⟩, lk9⟩
    refine ⟨kpc, ?_⟩
    have hlen9 : lensC [(⟨y.x.log, y.A, y.c⟩ : LC), ⟨[⟨y.x.term, p.b⟩], some ⟨b14, 0, none⟩, 1⟩] = (y.x.log ++ [(⟨y.x.term, p.b⟩ : Cmd)]).length := by rw [lens_two, List.length_append]
    have hbody : [(⟨y.x.log, y.A, y.c⟩ : LC), ⟨[⟨y.x.term, p.b⟩], some ⟨b14, 0, none⟩, 1⟩].flatMap (fun x => x.l) = y.x.log ++ [(⟨y.x.term, p.b⟩ : Cmd)] := by simp
    rw [hlen9] at hv9
    subst hv9
    rw [hlen9, hbody] at ho9
    haveI o9 : OwnI w5 A9 _ _ _ _ _ _ _ := ⟨ho9⟩
    haveI na9 : NewA A9 _ := newA_of ho9 (Nat.le_refl _)
    have hc9 : (y.x.log ++ [(⟨y.x.term, p.b⟩ : Cmd)]).length ≤ c9 := by
     obtain ⟨_, _, e, _, e2, _⟩ := ownsRow_form ho9
     cases e
     exact e2
    refine xt_Nc rfl ?_
    refine xt_Fb rfl ?_
    refine xt_Fb rfl ?_
    refine xt_fs rfl (e_storeC i 2 { y with x := { y.x with log := y.x.log ++ [⟨y.x.term, p.b⟩] }, A := A9, c := c9 } fun w6 l20 o20 => ?_)
    refine xt_nil ?_
    refine x_seq ?_
    refine x_drawL (NoB) (allS) (.take 0 (.take 1 (.take 2 (.take 3 (.take 4 (.take 5 (.take 6 (.take 7 (.take 8 (.take 9 (.take 10 (.take 11 (.free 12 .done))))))))))))) mixed (by kernel_rfl) (fun _ _ _ _ _ h => h) (fun w7 l7 => ?_)
    refine xt_v rfl v_move ?_
    refine xt_Fb rfl ?_
    refine xt_Lc rfl ?_
    refine xt_v rfl v_move ?_
    refine xt_Nc rfl ?_
    refine xt_Fb rfl ?_
    refine xt_Fb rfl ?_
    refine xt_Lc rfl ?_
    refine xt_v rfl v_len ?_
    refine xt_Nc rfl ?_
    refine xt_Fb rfl ?_
    refine xt_v rfl (v_indexAA hpa (by omega) (by decide) hA) ?_
    refine xt_fs rfl (e_storeC i (15 + i) { y with x := { y.x with log := y.x.log ++ [⟨y.x.term, p.b⟩], mat := y.x.mat.set i ((y.x.log ++ [(⟨y.x.term, p.b⟩ : Cmd)]).length : Int) }, A := A9, c := c9 } (ho := by simp; omega) (hu := setL_mat (k := i) (by omega) (by exact ok.ml) _) fun w8 l12 o12 => ?_)
    refine xt_nil ?_
    refine x_seq ?_
    refine x_regionL ?_
    refine xl_v v_move ?_
    refine xl_Fb ?_
    refine xl_v (v_congr (u := .int .i64 (i : Int)) v_load (by rw [hpa])) ?_
    obtain ⟨z, hz⟩ : ∃ z : LNd, z = { y with x := { y.x with log := y.x.log ++ [⟨y.x.term, p.b⟩], mat := y.x.mat.set i ((y.x.log ++ [(⟨y.x.term, p.b⟩ : Cmd)]).length : Int) }, A := A9, c := c9 } := ⟨_, rfl⟩
    have hQ : QuAt w8 (grown F w w8) q (D.setN i z) := by
     rw [hz]
     exact h.setNF (fun _ e => .inl e) (fun _ e => e) (kpc : Keep (OwnB (.slice D.NA D.ns.length D.nc)) w w8) (fun k _ e => ownB_blk.1 e) o12.own (FRow.own (OwnI.own (w := w8) (A := A9)) Ge.le) hc9
    obtain ⟨F2, hF2⟩ : ∃ F2, F2 = grown F w w8 := ⟨_, rfl⟩
    rw [← hF2] at hQ
    have hsub : Sub F2 F w := by rw [hF2]; exact grown_sub
    have hzl : z.x.log.length = y.x.log.length + 1 := by rw [hz]; simp
    refine xl_call (commits_ok q (D.setN i z) F2 i z w8 (hQ.ext kpc) (get_setNL hi) (by rw [len_setNL]; exact hn5) (by rw [len_setNL]; exact hodd) (by rw [hz]; simp; exact ok.ml) (by rw [hz]; exact ok.c0) (by
        intro a ha
        rw [hzl]
        rw [hz] at ha
        rcases List.mem_or_eq_of_mem_set ha with e | e
        ·have := (ok.mb a e).2; omega
        ·rw [e]; simp) (by omega)) ?_
    rintro _ w9 ⟨rfl, hQ3, lk3⟩
    rw [setN_setNL, len_setNL] at hQ3
    have lk3' : Lk w9 w8 (OwnB (.slice D.NA (D.setN i z).ns.length D.nc)) := lk3
    refine xl_nil ?_
    refine x_seq ?_
    refine x_regionL ?_
    refine xl_v v_assign ?_
    refine xl_nil ?_
    refine x_ret ?_
    refine fin1 rfl ?_
    refine ⟨by rw [hr], ⟨_, F2, hQ3, ?_, hsub, fun k e => .inl e⟩, lkc⟩
    rw [hr, pure_setN, hpa, pure_len, hz]
    have e1 : ((y.x.log ++ [(⟨y.x.term, p.b⟩ : Cmd)]).length : Int) = (y.x.log.length : Int) + 1 := by simp
    rw [e1]
    rfl

theorem crash_ok (q : Nat) (D : LQu) (F : Nat → Prop) (i : Nat) (y : LNd) (p : Pk) (w : World) (h : QuAt w F q D) (hy : D.ns[i]? = some y) (hpa : p.a = (i : Int)) : Ret Tryz.prog 39 #[.pointer (some ⟨q, 0, none⟩), padd D.NA (i * 20), .agg (pkC p).toArray] w (fun v w' => v = .int .i64 (D.pure.crash p.a).2 ∧ QMade q F D w (D.pure.crash p.a).1 w' ∧ Lk w' w (QuB q D)) := by
 haveI hb : Blk w q _ := ⟨h.hb⟩
 have hi : i < D.ns.length := (List.getElem?_eq_some_iff.1 hy).1
 haveI li : LtI i D.ns.length := ⟨hi⟩
 have hA := h.n1
 have hym : y ∈ D.ns := List.mem_of_getElem? hy
 haveI hN : OwnI w D.NA D.ns.length D.nc 0 69 20 D.ns.length ((D.ns.set i y).flatMap ndC) := ⟨by rw [set_self hy]; exact h.nodes⟩
 haveI hrl : Row w y.A (cmdsC y.x.log) := ⟨(h.logs y hym).row⟩
 haveI hro : ∀ n c, RowOut (OwnB (.slice D.NA n c)) y.A := fun n c => (h.logs y hym).out (fun k e e2 => h.fq k e (.inr (.inl (ownB_blk.1 e2))))
 haveI hqn := h.qn
 have hil : i < (D.ns.set i y).length := by simpa using hi
 refine ret_of_x (N := 12) (l := [.pointer (some ⟨q, 0, none⟩), padd D.NA (i * 20), .agg (pkC p).toArray]) Tryz.func39 rfl rfl (Nat.le_of_ble_eq_true rfl) ?_
 refine x_seq ?_
 refine x_regionL ?_
 refine xl_e (e_box fun b1 w1 n1 l1 k1 => ?_)
 refine xl_v v_assign ?_
 refine xl_nil ?_
 refine x_seq ?_
 refine x_regionL ?_
 refine xl_v v_move ?_
 refine xl_call (voter_ok D.NA D.ns.length D.nc 0 i D.ns y 0 w1 hA) ?_
 rintro _ w2 ⟨rfl, o2, lk2⟩
 refine xl_nil ?_
 refine x_seq ?_
 refine x_regionL ?_
 refine xl_v v_move ?_
 refine xl_Nc ?_
 refine xl_Fb ?_
 refine xl_s (e_storeC i 4 { y.voter 0 with x := { (y.voter 0).x with commit := 0 } } fun w3 l3 o3 => ?_)
 refine xl_nil ?_
 refine x_seq ?_
 refine x_regionL ?_
 refine xl_v v_assign ?_
 refine xl_nil ?_
 refine x_ret ?_
 refine fin1 rfl ?_
 have hr : D.pure.crash p.a = (D.pure.setN i { y.x.voter 0 with commit := 0 }, 0) := by
  unfold Qu.crash
  rw [hpa, pure_node hy]
  rfl
 exact ⟨by rw [hr], QMade.set (h.setI kpc o3 hym rfl rfl rfl) (by rw [hr]; rfl), lkc⟩
end Go.Proofs.YtljdkelgapndgaaGreat
set_option linter.all false
set_option maxRecDepth 100000
set_option synthInstance.maxSize 100000
set_option synthInstance.maxHeartbeats 400000
namespace Go.Proofs.YtljdkelgapndgaaGreat
open Go.Wst
open Go.Wst.Qm
theorem give_arg {q : Qu} {p : Pk} (h : ¬ q.has p.b ∨ p.b = p.a) : q.give p = (q, 2) := by unfold Qu.give; simp only [if_pos h]
theorem give_role {q : Qu} {p : Pk} (h : ¬ (¬ q.has p.b ∨ p.b = p.a)) (h2 : (q.node p.a).role ≠ 3) : q.give p = (q, 160) := by unfold Qu.give; simp only [if_neg h, if_pos h2]
theorem give_yes {q : Qu} {p : Pk} {x : Nd} {fn : Nat} (h : ¬ (¬ q.has p.b ∨ p.b = p.a)) (h2 : x.role = 3) (hx : q.node p.a = x) (hf : getI x.next p.b = (fn : Int)) : q.give p = (q.send { Bl.zero with kind := 3, frm := p.a, to := p.b, term := x.term, prev := fn, prevT := ofT (x.log.take fn), commit := x.commit, cmds := (x.log.drop fn).take 4 }, 0) := by
 subst hx
 unfold Qu.give
 simp only [if_neg h, if_neg (fun e => e h2 : ¬ (q.node p.a).role ≠ 3), hf]
 rfl
theorem sub_eq {l : List Cmd} {f m : Nat} (hm : m = min l.length (f + 4)) (hf : f ≤ l.length) : (l.drop f).take (m - f) = (l.drop f).take 4 ∧ ((l.drop f).take 4).length = m - f := by
 constructor
 ·rw [List.take_eq_take_iff, List.length_drop]; omega
 ·rw [List.length_take, List.length_drop]; omega

theorem give_ok (q : Nat) (D : LQu) (F : Nat → Prop) (i : Nat) (y : LNd) (p : Pk) (w : World) (h : QuAt w F q D) (hy : D.ns[i]? = some y) (hpa : p.a = (i : Int)) (hn5 : D.ns.length ≤ 5) (ok : y.x.Ok D.ns.length) : Ret Tryz.prog 38 #[.pointer (some ⟨q, 0, none⟩), padd D.NA (i * 20), .agg (pkC p).toArray] w (fun v w' => v = .int .i64 (D.pure.give p).2 ∧ QMade q F D w (D.pure.give p).1 w' ∧ Lk w' w (QuB q D)) := by
 haveI hb : Blk w q _ := ⟨h.hb⟩
 have hi : i < D.ns.length := (List.getElem?_eq_some_iff.1 hy).1
 haveI li : LtI i D.ns.length := ⟨hi⟩
 have hA := h.n1
 have hym : y ∈ D.ns := List.mem_of_getElem? hy
 haveI hN : OwnI w D.NA D.ns.length D.nc 0 69 20 D.ns.length ((D.ns.set i y).flatMap ndC) := ⟨by rw [set_self hy]; exact h.nodes⟩
 haveI hrl : Row w y.A (cmdsC y.x.log) := ⟨(h.logs y hym).row⟩
 haveI hro : ∀ n c, RowOut (OwnB (.slice D.NA n c)) y.A := fun n c => (h.logs y hym).out (fun k e e2 => h.fq k e (.inr (.inl (ownB_blk.1 e2))))
 haveI hqn := h.qn
 have hil : i < (D.ns.set i y).length := by simpa using hi
 refine ret_of_x (N := 83) (l := [.pointer (some ⟨q, 0, none⟩), padd D.NA (i * 20), .agg (pkC p).toArray]) Tryz.func38 rfl rfl (Nat.le_of_ble_eq_true rfl) ?_
 refine x_seq ?_
 have hnode : D.pure.node p.a = y.x := by rw [hpa]; exact pure_node hy
 haveI holdA : OldA w y.A := (h.logs y hym).old h.fl
 have hll := ok.ll
 have hlc := h.lc y hym
 refine x_regionL ?_
 refine xl_e (e_box fun b1 w1 n1 l1 k1 => ?_)
 refine xl_v v_assign ?_
 refine xl_nil ?_
 refine x_seq ?_
 refine x_regionL ?_
 refine xl_Fb ?_
 refine xl_Lc ?_
 refine xl_v v_assign ?_
 refine xl_nil ?_
 refine x_seq ?_
 refine x_block ?_
 refine x_seq ?_
 refine x_regionL ?_
 refine xl_Fb ?_
 refine xl_Lc ?_
 refine xl_v v_move ?_
 refine xl_v (v_neqF rfl) ?_
 refine xl_v v_move ?_
 refine xl_gv rfl EvO.eq v_move ?_
 refine xl_gv rfl EvO.eq v_move ?_
 refine xl_gcall rfl EvO.eq (has_ok q D p.b w1) ?_
 rintro _ w2 ⟨rfl, lk7⟩
 refine xl_gv rfl EvO.eq v_not ?_
 refine xl_Pk ?_
 refine xl_v v_move ?_
 refine xl_split 23 (fun g23 => ?_) (fun g23 => ?_)
 ·
  refine xl_gs rfl EvO.eq ?_
  refine xl_gs rfl EvO.eq ?_
  refine xl_gs rfl EvO.eq ?_
  refine xl_gs rfl EvO.eq ?_
  refine xl_Pk ?_
  refine xl_v v_assign ?_
  refine xl_nil ?_
  refine x_condT ?_
  refine x_seq ?_
  refine x_regionL ?_
  refine xl_v v_assign ?_
  refine xl_nil ?_
  refine x_ret ?_
  refine fin1 rfl ?_
  have hno : ¬ D.pure.has p.b ∨ p.b = p.a := by
   unfold Qu.has
   rw [pure_len]
   first
    | (simp at g23; exact .inl (by omega))
    | (simp at c1; exact .inr c1)
  exact ⟨by rw [give_arg hno], QMade.stay h kpc (by rw [give_arg hno]), lkc⟩
 ·
  refine xl_gv rfl EvO.eq v_move ?_
  refine xl_gFb rfl EvO.eq ?_
  refine xl_gLc rfl EvO.eq ?_
  refine xl_gv rfl EvO.eq v_eql ?_
  refine xl_Pk ?_
  refine xl_v v_assign ?_
  refine xl_nil ?_
  refine x_condE (fun c1 => ?_) (fun c1 => ?_)
  ·
   refine x_seq ?_
   refine x_regionL ?_
   refine xl_v v_assign ?_
   refine xl_nil ?_
   refine x_ret ?_
   refine fin1 rfl ?_
   have hno : ¬ D.pure.has p.b ∨ p.b = p.a := by
    unfold Qu.has
    rw [pure_len]
    first
     | (simp at g23; exact .inl (by omega))
     | (simp at c1; exact .inr c1)
   exact ⟨by rw [give_arg hno], QMade.stay h kpc (by rw [give_arg hno]), lkc⟩
  ·
   have hyes : ¬ (¬ D.pure.has p.b ∨ p.b = p.a) := by
    unfold Qu.has
    rw [pure_len]
    first
     | (exfalso; simp at c1; done)
     | (simp at g23 c1; rintro (e | e); exact e g23; exact c1 e)
   have hhas : 0 ≤ p.b ∧ p.b < D.ns.length := by
    have h1 : D.pure.has p.b := Classical.byContradiction fun e => hyes (.inl e)
    unfold Qu.has at h1
    rwa [pure_len] at h1
   obtain ⟨tn, htn⟩ : ∃ tn : Nat, p.b = (tn : Int) := ⟨p.b.toNat, by omega⟩
   have htl : tn < D.ns.length := by omega
   obtain ⟨fn, hfn⟩ : ∃ fn : Nat, y.x.next.getD tn 0 = (fn : Int) := by
    have h1 : y.x.next.getD tn 0 ∈ y.x.next := by
     rw [List.getD_eq_getElem?_getD, List.getElem?_eq_getElem (by rw [ok.nl]; omega)]
     exact List.getElem_mem _
    exact ⟨(y.x.next.getD tn 0).toNat, by have := (ok.nb _ h1).1; omega⟩
   have hfl : fn ≤ y.x.log.length := by
    have h1 : y.x.next.getD tn 0 ∈ y.x.next := by
     rw [List.getD_eq_getElem?_getD, List.getElem?_eq_getElem (by rw [ok.nl]; omega)]
     exact List.getElem_mem _
    have := (ok.nb _ h1).2
    omega
   refine x_seq ?_
   refine x_regionL ?_
   refine xl_v v_move ?_
   refine xl_Nc ?_
   refine xl_Fb ?_
   refine xl_Lc ?_
   refine xl_v v_neq ?_
   refine xl_v v_assign ?_
   refine xl_nil ?_
   first | refine x_condP (fun c2 => ?_) (fun c2 => ?_) | refine x_condN (fun c2 => ?_) (fun c2 => ?_) | refine x_condE (fun c2 => ?_) (fun c2 => ?_)
   ·
    refine x_seq ?_
    refine x_regionL ?_
    refine xl_v v_assign ?_
    refine xl_nil ?_
    refine x_ret ?_
    refine fin1 rfl ?_
    have hr := give_role (q := D.pure) hyes (by rw [hnode]; exact c2)
    exact ⟨by rw [hr], QMade.stay h kpc (by rw [hr]), lkc⟩
   ·
    have hr := give_yes (q := D.pure) (x := y.x) (fn := fn) hyes c2 hnode (by unfold getI; rw [htn]; exact hfn)
    obtain ⟨mn, hmn⟩ : ∃ mn : Nat, mn = min y.x.log.length (fn + 4) := ⟨_, rfl⟩
    obtain ⟨hs1, hs2⟩ := sub_eq hmn hfl
    refine x_skip ?_
    refine x_seq ?_
    refine x_regionL ?_
    refine xl_v v_move ?_
    refine xl_v v_move ?_
    refine xl_Nc ?_
    refine xl_Fb ?_
    refine xl_v (v_indexAA htn (by omega) (by decide) hA) ?_
    refine xl_v (v_congr (u := .int .i64 (fn : Int)) (v_loadCD (i * 20) (10 + tn) (by omega) (nextC_get (y := y) (by omega))) (by rw [hfn])) ?_
    refine xl_v v_assign ?_
    refine xl_nil ?_
    refine x_seq ?_
    refine x_drawL (NoB) (allS) (.take 0 (.take 1 (.take 2 (.take 3 (.take 4 (.take 5 (.take 6 (.take 7 (.take 8 (.take 9 (.take 10 (.take 11 (.take 12 (.take 13 (.take 14 (.take 15 (.eff 16 (.take 17 .done)))))))))))))))))) mixed (by kernel_rfl) (fun _ _ _ _ _ h => h) (fun w3 l3 => ?_)
    refine xt_v rfl v_move ?_
    refine xt_Nc rfl ?_
    refine xt_Fb rfl ?_
    refine xt_Fb rfl ?_
    refine xt_Lc rfl ?_
    refine xt_v rfl v_move ?_
    refine xt_v rfl v_move ?_
    refine xt_Nc rfl ?_
    refine xt_Fb rfl ?_
    refine xt_Fb rfl ?_
    refine xt_Lc rfl ?_
    refine xt_v rfl v_len ?_
    refine xt_v rfl v_move ?_
    refine xt_v rfl (v_add (by omega)) ?_
    refine xt_v rfl v_min ?_
    refine xt_v rfl (v_sliceLH fn mn rfl (by omega) (by omega) (by omega)) ?_
    haveI hrs : Row w3 (if y.c = fn then y.A else y.A.map (·.add (fn * 2))) (cmdsC ((y.x.log.drop fn).take 4)) := ⟨by
     have h1 := row_drop (k := fn) (sz := 2) (n := y.x.log.length) (c := y.c) (Row.row (w := w3) (A := y.A) (cs := cmdsC y.x.log)) (cmds_len _) hlc
     have h2 := row_take h1 ((mn - fn) * 2)
     have e1 : cmdsC (y.x.log.drop fn) = (cmdsC y.x.log).drop (fn * 2) := flat_drop (enc := cmdC) (sz := 2) (fun _ => rfl) _ _
     have e2 : cmdsC ((y.x.log.drop fn).take (mn - fn)) = (cmdsC (y.x.log.drop fn)).take ((mn - fn) * 2) := flat_take (enc := cmdC) (sz := 2) (fun _ => rfl) _ _
     rw [← e1, ← e2, hs1] at h2
     exact h2⟩
    refine xt_call rfl (cloneC_ok _ (mn - fn) (y.c - fn) (cmdsC ((y.x.log.drop fn).take 4)) w3 (by rw [cmds_len, hs2]) (by omega) (cmds_one _) (by
        rcases Nat.eq_zero_or_pos (mn - fn) with e | e
        ·exact .inr e
        ·exact .inl (row_isSome hrs (by omega)))) ?_
    rintro _ w4 ⟨⟨A9, c9, hv9, ho9⟩, lk9⟩
    refine ⟨kpc, ?_⟩
    rw [← hs2] at hv9
    subst hv9
    rw [← hs2] at ho9
    clear hrs
    haveI o9 : OwnI w4 A9 _ _ _ _ _ _ _ := ⟨ho9⟩
    haveI na9 : NewA A9 _ := newA_of ho9 (Nat.le_refl _)
    have hc9 : ((y.x.log.drop fn).take 4).length ≤ c9 := by
     obtain ⟨_, _, e, _, e2, _⟩ := ownsRow_form ho9
     cases e
     exact e2
    refine xt_v rfl v_assign ?_
    refine xt_nil ?_
    refine x_seq ?_
    refine x_drawL (NoB) (allS) (.take 0 (.take 1 (.take 2 (.take 3 (.take 4 (.take 5 (.take 6 (.take 7 (.take 8 (.take 9 (.take 10 (.take 11 (.take 12 (.take 13 (.take 14 (.take 15 (.take 16 (.take 18 (.take 19 (.take 20 (.take 21 (.take 22 (.eff 17 (.take 23 (.free 24 .done))))))))))))))))))))))))) mixed (by kernel_rfl) (fun _ _ _ _ _ h => h) (fun w5 l5 => ?_)
    refine xt_v rfl v_move ?_
    refine xt_Fb rfl ?_
    refine xt_Lc rfl ?_
    refine xt_v rfl v_move ?_
    refine xt_v rfl v_move ?_
    refine xt_Nc rfl ?_
    refine xt_Fb rfl ?_
    refine xt_Fb rfl ?_
    refine xt_Lc rfl ?_
    refine xt_v rfl v_move ?_
    refine xt_v rfl v_move ?_
    refine xt_Nc rfl ?_
    refine xt_Fb rfl ?_
    refine xt_Fb rfl ?_
    refine xt_Lc rfl ?_
    refine xt_v rfl v_move ?_
    refine xt_v rfl (v_sliceH fn rfl (by omega)) ?_
    refine xt_v rfl v_move ?_
    refine xt_Nc rfl ?_
    refine xt_Fb rfl ?_
    refine xt_Lc rfl ?_
    refine xt_v rfl v_move ?_
    haveI hrt : Row w5 y.A (cmdsC (y.x.log.take fn)) := ⟨by
     have := row_take (Row.row (w := w5) (A := y.A) (cs := cmdsC y.x.log)) (fn * 2)
     rwa [← flat_take (enc := cmdC) (sz := 2) (fun _ => rfl)] at this⟩
    refine xt_call rfl (of_ok y.A fn y.c (y.x.log.take fn) w5 (by rw [List.length_take]; omega) (by omega)) ?_
    rintro _ w6 ⟨rfl, lk17⟩
    refine ⟨kpc, ?_⟩
    refine xt_v rfl v_build ?_
    have hQ : QuAt w6 (grown F w w6) q D := (h.ext (kpc : Keep NoB w w6)).wide (fun _ e => .inl e) (fun k e => e.imp id (fun e => ⟨fun e2 => by have := h.lt k e2; omega, e.2⟩))
    have hcm : FRow w6 (grown F w w6) A9 (cmdsC ((y.x.log.drop fn).take 4)) := FRow.own (OwnI.own (w := w6) (A := A9)) Ge.le
    obtain ⟨F2, hF2⟩ : ∃ F2, F2 = grown F w w6 := ⟨_, rfl⟩
    rw [← hF2] at hQ hcm
    have hsub : Sub F2 F w := by rw [hF2]; exact grown_sub
    refine xt_fcall rfl (send_ok q D F2 ⟨{ Bl.zero with kind := 3, frm := p.a, to := p.b, term := y.x.term, prev := fn, prevT := ofT (y.x.log.take fn), commit := y.x.commit, cmds := (y.x.log.drop fn).take 4 }, A9, c9⟩ w6 hQ hcm hc9) ?_
    rintro _ w7 ⟨⟨BA, bc, rfl, hQ2, hBA⟩, lk12⟩
    refine ⟨kpa, ?_⟩
    refine xt_nil ?_
    refine x_seq ?_
    refine x_regionL ?_
    refine xl_v v_assign ?_
    refine xl_nil ?_
    refine x_ret ?_
    refine fin1 rfl ?_
    have hB2 : blkA BA = blkA D.BA ∨ ∀ k, blkA BA = some k → w.heap.size ≤ k := hBA.imp id (fun h k e => Nat.le_trans Ge.le (h k e))
    refine ⟨by rw [hr], ⟨_, F2, hQ2, ?_, hsub, quB_sent (D := D) hB2⟩, lkc⟩
    rw [pure_sent, hr]
end Go.Proofs.YtljdkelgapndgaaGreat
set_option linter.all false
set_option maxRecDepth 100000
set_option synthInstance.maxSize 100000
set_option synthInstance.maxHeartbeats 400000
namespace Go.Proofs.YtljdkelgapndgaaGreat
open Go.Wst
open Go.Wst.Qm
theorem others_snoc (k : Nat) (n : Int) : Qm.others (k + 1) n = Qm.others k n ++ (if (k : Int) = n then [] else [(k : Int)]) := by
 unfold Qm.others
 rw [List.range_succ, List.map_append, List.filter_append]
 congr 1
 by_cases e : (k : Int) = n <;> simp [e]
def OthAl (cnt : Nat) (n : Int) : Seen → Prop := fun pre => ∃ k : Nat, k ≤ cnt ∧ pre = (Qm.others k n).map (fun j => [Value.int .i64 j])
def OthFin (cnt : Nat) (n : Int) : Seen → Prop := fun pre => pre = (Qm.others cnt n).map (fun j => [Value.int .i64 j])

theorem others_ok (q : Nat) (n : Int) (w : World) : Ret Tryz.prog 58 #[.pointer (some ⟨q, 0, none⟩), .int .i64 n] w (fun v w' => ∃ b1 b2, v = .func (.func 68) ([] : List Value).toArray [Value.pointer (some ⟨b1, 0, none⟩), Value.pointer (some ⟨b2, 0, none⟩)].toArray ∧ Blk w' b1 (.cells #[.pointer (some ⟨q, 0, none⟩)] 28 (0, 0)) ∧ Blk w' b2 (.cells #[.int .i64 n] 3 (0, 0)) ∧ w.heap.size ≤ b1 ∧ w.heap.size ≤ b2 ∧ Lk w' w NoB) := by
 refine ret_of_x (N := 6) (l := [.pointer (some ⟨q, 0, none⟩), .int .i64 n]) Tryz.func58 rfl rfl (Nat.le_of_ble_eq_true rfl) ?_
 refine x_seq ?_
 refine x_regionL ?_
 refine xl_e (e_box fun b1 w1 n1 l1 k1 => ?_)
 refine xl_e (e_box fun b2 w2 n2 l2 k2 => ?_)
 refine xl_v v_assign ?_
 refine xl_nil ?_
 refine x_seq ?_
 refine x_regionL ?_
 refine xl_v v_makeFunc ?_
 refine xl_v v_assign ?_
 refine xl_nil ?_
 refine x_ret ?_
 refine fin1 rfl ?_
 exact ⟨b1, b2, rfl, inferInstance, inferInstance, Nat.le_of_eq n1.eq.symm, by rw [n2.eq]; exact l1.keep.size, lkc⟩

theorem others1_ok (y : Value) (b1 b2 q : Nat) (n : Int) (D : LQu) (I J : Seen → (Nat → Prop) → World → Prop) (F : Nat → Prop) (w : World) [Blk w b1 (.cells #[.pointer (some ⟨q, 0, none⟩)] 28 (0, 0))] [Blk w b2 (.cells #[.int .i64 n] 3 (0, 0))] [Blk w q (.cells (quC D).toArray 71 (0, 0))] (hn : D.ns.length ≤ 1000) (w0 : World) (hy : YieldsI Tryz.prog y (OthAl D.ns.length n) I J w0) (hw0 : w0.heap.size ≤ w.heap.size) (h0 : I [] F w) (hF : ∀ k, F k → ¬ (k = b1 ∨ k = b2)) : Ret Tryz.prog 68 #[y, .pointer (some ⟨b1, 0, none⟩), .pointer (some ⟨b2, 0, none⟩)] w (fun _ w' => ∃ pre F', ((OthFin D.ns.length n pre ∧ I pre F' w') ∨ J pre F' w') ∧ Keep F w w' ∧ Sub F' F w) := by
 refine ret_of_x (N := 23) (l := [y, .pointer (some ⟨b1, 0, none⟩), .pointer (some ⟨b2, 0, none⟩)]) Tryz.func68 rfl rfl (Nat.le_of_ble_eq_true rfl) ?_
 refine x_seq ?_
 refine x_regionL ?_
 refine xl_Lc ?_
 refine xl_Nc ?_
 refine xl_Fb ?_
 refine xl_Lc ?_
 refine xl_v v_len ?_
 refine xl_v v_move ?_
 refine xl_nil ?_
 refine x_block ?_
 refine x_loop (fun m τ ds w' => ds = [] ∧ ∃ (k : Nat) (Fc : Nat → Prop), m = D.ns.length - k ∧ k ≤ D.ns.length ∧ I ((Qm.others k n).map (fun j => [Value.int .i64 j])) Fc w' ∧ Keep F w w' ∧ Sub Fc F w ∧ Ev τ 0 y ∧ Ev τ 2 (.pointer (some ⟨b2, 0, none⟩)) ∧ Ev τ 9 (.int .i64 (D.ns.length : Int)) ∧ Ev τ 10 (.int .i64 (k : Int))) (D.ns.length) ?start ?round
 case start =>
  exact ⟨rfl, 0, F, rfl, Nat.zero_le _, hy.i.keep _ _ _ _ _ h0 (kpc : Keep NoB w w) (fun _ _ h => h) (fun _ h => h.elim), (kpc : Keep NoB w w).mono (fun _ _ h => h.elim), Sub.refl _ _, inferInstance, inferInstance, inferInstance, evc⟩
 case round =>
  intro m τ1 ds1 w1 hI
  obtain ⟨rfl, k, Fc, rfl, hkn, hI, hkF, hsF, e0, e2, e9, e10⟩ := hI
  haveI lkF : Lk w1 w F := ⟨hkF⟩
  haveI nsF : NotS F b2 := ⟨fun e => hF _ e (.inr rfl)⟩
  refine x_seq ?_
  refine x_regionL ?_
  refine xl_v v_lss ?_
  refine xl_nil ?_
  refine x_seq ?_
  first | refine x_condP (fun c1 => ?_) (fun c1 => ?_) | refine x_condN (fun c1 => ?_) (fun c1 => ?_) | refine x_condE (fun c1 => ?_) (fun c1 => ?_)
  ·
   have hk1 : k < D.ns.length := by omega
   refine x_skip ?_
   refine x_seq ?_
   refine x_block ?_
   refine x_seq ?_
   refine x_regionL ?_
   refine xl_v v_move ?_
   refine xl_v v_assign ?_
   refine xl_nil ?_
   refine x_seq ?_
   refine x_regionL ?_
   refine xl_v v_move ?_
   refine xl_Lc ?_
   refine xl_v v_neq ?_
   refine xl_v v_move ?_
   refine xl_split 16 (fun g16 => ?_) (fun g16 => ?_)
   ·
    have hkn' : ¬ (k : Int) = n := by simpa using g16
    have hsn : Qm.others (k + 1) n = Qm.others k n ++ [(k : Int)] := by rw [others_snoc, if_neg hkn']
    have hal : OthAl D.ns.length n ((Qm.others k n).map (fun j => [Value.int .i64 j]) ++ [[Value.int .i64 (k : Int)]]) := ⟨k + 1, by omega, by rw [hsn, List.map_append]; rfl⟩
    refine xl_gv rfl EvO.eq v_move ?_
    refine xl_gv rfl EvO.eq v_move ?_
    refine xl_gcallv rfl EvO.eq (hy.step _ _ Fc w1 hal hI) ?_
    rintro _ w2 ⟨bb2, F2, rfl, hI3, hk3, hs3⟩
    refine xl_gv rfl EvO.eq v_not ?_
    refine xl_Pk ?_
    refine xl_nil ?_
    refine x_condE (fun c2 => ?_) (fun c2 => ?_)
    ·
     refine x_ret ?_
     refine fin0r rfl ?_
     rw [if_neg (by simpa using c2)] at hI3
     refine ⟨_, F2, .inr hI3, ?_, ?_⟩
     ·refine hkF.then hk3 (fun j hj e => ?_)
      exact (hsF j e).elim id (fun h => by omega)
     ·intro j hj
      rcases hs3 j hj with e | e
      ·exact hsF j e
      ·exact .inr (Nat.le_trans hkF.size e)
    ·
     refine x_skip ?_
     obtain ⟨wB, hwB⟩ : ∃ x, x = w1 := ⟨_, rfl⟩
     obtain ⟨F2, hI4, hk3, hs3⟩ : ∃ F2, I ((Qm.others (k + 1) n).map (fun j => [Value.int .i64 j])) F2 w2 ∧ Keep Fc w1 w2 ∧ Sub F2 Fc w1 := by
      first
       | (rw [if_pos (by simpa using c2)] at hI3
          exact ⟨F2, by rw [hsn, List.map_append]; exact hI3, hk3, hs3⟩)
       | exact ⟨Fc, by rw [hsn]; exact hI, Keep.refl _ _, Sub.refl _ _⟩
     refine x_regionL ?_
     refine xl_v (v_add (by omega)) ?_
     refine xl_v v_move ?_
     refine xl_nil ?_
     refine ⟨_, ?_, rfl, k + 1, F2, rfl, by omega, hI4, ?_, ?_, inferInstance, inferInstance, inferInstance, evc⟩
     ·omega
     ·refine hkF.then hk3 (fun j hj e => ?_)
      exact (hsF j e).elim id (fun h => by omega)
     ·intro j hj
      rcases hs3 j hj with e | e
      ·exact hsF j e
      ·exact .inr (Nat.le_trans hkF.size e)
   ·
    have hkn' : (k : Int) = n := by simpa using g16
    have hsn : Qm.others (k + 1) n = Qm.others k n := by rw [others_snoc, if_pos hkn', List.append_nil]
    refine xl_gs rfl EvO.eq ?_
    refine xl_gs rfl EvO.eq ?_
    refine xl_gs rfl EvO.eq ?_
    refine xl_gs rfl EvO.eq ?_
    refine xl_Pk ?_
    refine xl_nil ?_
    refine x_condF ?_
    refine x_skip ?_
    obtain ⟨wB, hwB⟩ : ∃ x, x = w1 := ⟨_, rfl⟩
    obtain ⟨F2, hI4, hk3, hs3⟩ : ∃ F2, I ((Qm.others (k + 1) n).map (fun j => [Value.int .i64 j])) F2 w1 ∧ Keep Fc w1 w1 ∧ Sub F2 Fc w1 := by
     first
      | (rw [if_pos (by simpa using c2)] at hI3
         exact ⟨F2, by rw [hsn, List.map_append]; exact hI3, hk3, hs3⟩)
      | exact ⟨Fc, by rw [hsn]; exact hI, Keep.refl _ _, Sub.refl _ _⟩
    refine x_regionL ?_
    refine xl_v (v_add (by omega)) ?_
    refine xl_v v_move ?_
    refine xl_nil ?_
    refine ⟨_, ?_, rfl, k + 1, F2, rfl, by omega, hI4, ?_, ?_, inferInstance, inferInstance, inferInstance, evc⟩
    ·omega
    ·refine hkF.then hk3 (fun j hj e => ?_)
     exact (hsF j e).elim id (fun h => by omega)
    ·intro j hj
     rcases hs3 j hj with e | e
     ·exact hsF j e
     ·exact .inr (Nat.le_trans hkF.size e)
  ·
   refine x_exit ?_
   refine fin0 rfl ?_
   have hk : k = D.ns.length := by omega
   rw [hk] at hI
   exact ⟨_, Fc, .inl ⟨rfl, hI⟩, hkF, hsF⟩
theorem othersIter (b1 b2 q : Nat) (n : Int) (D : LQu) (w : World) [Blk w b1 (.cells #[.pointer (some ⟨q, 0, none⟩)] 28 (0, 0))] [Blk w b2 (.cells #[.int .i64 n] 3 (0, 0))] [Blk w q (.cells (quC D).toArray 71 (0, 0))] (hn : D.ns.length ≤ 1000) :
    IterI Tryz.prog (.func (.func 68) ([] : List Value).toArray [Value.pointer (some ⟨b1, 0, none⟩), Value.pointer (some ⟨b2, 0, none⟩)].toArray) (fun k => k = b1 ∨ k = b2) (OthAl D.ns.length n) (OthFin D.ns.length n) w :=
 fun y I J F w0 hy hw0 h0 hF => CallV.of_ret (others1_ok y b1 b2 q n D I J F w hn w0 hy hw0 h0 hF)

end Go.Proofs.YtljdkelgapndgaaGreat
