/-
 Walks, printed by a program of this workplace (wip/tools/sx.py) off the functions' code and a text of contracts.
-/
import Derived.Test.YtnjpladlfiaojaaO
set_option linter.all false
set_option maxRecDepth 100000
set_option synthInstance.maxSize 100000
set_option synthInstance.maxHeartbeats 400000
namespace Go.Proofs.Ytnjpladlfiaojaa
open Go.Wst
open Go.Wst.Ct
instance subF_mM (m : Nat) (D : LMeta) (w : World) : SubF (OneB m) (MetaB m D) w := ⟨fun k _ e => ⟨.m, by have e' : k = m := e; rw [e']; rfl⟩⟩
theorem NewM.setV {m k : Nat} {D : LMeta} {w : World} (h : NewM m D w) {x : LV} (hk : k < D.vs.length) (hA : blkA x.A = blkA D.vs[k].A) : NewM m { D with vs := D.vs.set k x } w := fun j hj =>
 (growV (w := w) (List.getElem?_eq_getElem hk) (.inl hA) j hj).elim (h j) id
/-- The copy's views, behind a fence that has come to the k-th. -/
def FenceI (mc : Nat) (VA : Option Addr) (vc : Nat) (b : Int) (M : Meta) (w : World) (k : Nat) (W : World) : Prop :=
 ∃ E : LMeta, MetaAt W mc E ∧ NewM mc E w ∧ E.VA = VA ∧ E.vc = vc ∧ E.pure.views = (M.views.take k).map (View.fenced b) ++ M.views.drop k ∧ ∀ v ∈ M.views.take k, v.stuck b = false
theorem FenceI.len {mc : Nat} {b : Int} {M : Meta} {k : Nat} {E : LMeta} (hE : E.pure.views = (M.views.take k).map (View.fenced b) ++ M.views.drop k) : E.vs.length = M.views.length := by
 have := congrArg List.length hE
 simp [LMeta.pure] at this
 omega
theorem FenceI.at_ {b : Int} {M : Meta} {k : Nat} {E : LMeta} (hE : E.pure.views = (M.views.take k).map (View.fenced b) ++ M.views.drop k) (hk : k < M.views.length) (hkE : k < E.vs.length) : E.vs[k].v = M.views[k] := by
 have := congrArg (fun l => l[k]?) hE
 simp only [LMeta.pure] at this
 rw [List.getElem?_append_right (by simp; omega)] at this
 simp [hkE, hk, Nat.min_eq_left (Nat.le_of_lt hk)] at this
 exact this
theorem FenceI.step {mc : Nat} {VA : Option Addr} {vc : Nat} {b : Int} {M : Meta} {w W' : World} {k : Nat} {E : LMeta} {x : LV} (hN : NewM mc E w) (hVA : E.VA = VA) (hvc : E.vc = vc) (hE : E.pure.views = (M.views.take k).map (View.fenced b) ++ M.views.drop k) (hst : ∀ v ∈ M.views.take k, v.stuck b = false) (hk : k < M.views.length) (hkE : k < E.vs.length)
    (hM2 : MetaAt W' mc { E with vs := E.vs.set k x }) (hx : x.v = (M.views[k]).fenced b) (hns : (M.views[k]).stuck b = false) (hA : blkA x.A = blkA E.vs[k].A) : FenceI mc VA vc b M w (k + 1) W' := by
 refine ⟨_, hM2, hN.setV hkE hA, hVA, hvc, ?_, ?_⟩
 ·show (E.vs.set k x).map (·.v) = _
  rw [List.map_set]
  have hE' : E.vs.map (·.v) = (M.views.take k).map (View.fenced b) ++ M.views.drop k := hE
  rw [hE', take_snoc _ _ hk, List.map_append, hx]
  have hl : ((M.views.take k).map (View.fenced b)).length = k := by simp; omega
  rw [List.set_append_right _ _ (by omega), hl, Nat.sub_self]
  have hd : M.views.drop k = M.views[k] :: M.views.drop (k + 1) := List.drop_eq_getElem_cons hk
  rw [hd, List.set_cons_zero]
  simp only [List.map_cons, List.map_nil, List.append_assoc, List.singleton_append]
 ·intro v hv
  rw [take_snoc _ _ hk] at hv
  rcases List.mem_append.1 hv with hv | hv
  ·exact hst v hv
  ·rw [List.mem_singleton.1 hv]; exact hns
/-- A controller that takes another's views. -/
theorem MetaAt.swap {W W' : World} {m mc : Nat} {D E : LMeta} {w : World} {l : List Bool} (h : MetaAt W m D) (hE : MetaAt W mc E) (hD : ∀ k, MetaB m D k → k < w.heap.size) (hN : NewM mc E w) (hk : Keep (fun k => OneB m k ∨ OwnB (.slice D.LA D.lives.length D.lc) k) W W') (hl : l.length = D.lives.length)
    (hb : W'.heap[m]? = some (.cells (metaC { D with lives := l, vs := E.vs, VA := E.VA, vc := E.vc }).toArray 72 (0, 0))) (hrow : W'.ownsRow 0 4 1 (.slice D.LA D.lives.length D.lc) D.lives.length (bools l)) : MetaAt W' m { D with lives := l, vs := E.vs, VA := E.VA, vc := E.vc } := by
 have out : ∀ s k, s ≠ .l → s ≠ .m → D.addr m s = some k → ¬ (OneB m k ∨ OwnB (.slice D.LA D.lives.length D.lc) k) := fun s k h1 h2 hs e => by
  rcases e with e | e
  ·exact h.ne (t := .m) hs rfl h2 e
  ·exact h.ne (t := .l) hs (ownB_blk.1 e) h1 rfl
 have outE : ∀ k, MetaB mc E k → ¬ (OneB m k ∨ OwnB (.slice D.LA D.lives.length D.lc) k) := fun k hk e => by
  have h1 := hN k hk
  rcases e with e | e
  ·have e' : k = m := e
   have := hD m ⟨.m, rfl⟩; omega
  ·have := hD k ⟨.l, ownB_blk.1 e⟩; omega
 have ad : ∀ s k, LMeta.addr m { D with lives := l, vs := E.vs, VA := E.VA, vc := E.vc } s = some k → ((s = .v ∨ ∃ i, s = .vi i) ∧ E.addr mc s = some k) ∨ ((s ≠ .v ∧ ∀ i, s ≠ .vi i) ∧ D.addr m s = some k) := by
  intro s k hs
  cases s with
  | v => exact .inl ⟨.inl rfl, hs⟩
  | vi i => exact .inl ⟨.inr ⟨i, rfl⟩, hs⟩
  | m => exact .inr ⟨⟨nofun, nofun⟩, hs⟩
  | l => exact .inr ⟨⟨nofun, nofun⟩, hs⟩
  | w => exact .inr ⟨⟨nofun, nofun⟩, hs⟩
  | wi i => exact .inr ⟨⟨nofun, nofun⟩, hs⟩
 refine ⟨hb, by show W'.ownsRow 0 _ 1 (.slice D.LA l.length D.lc) l.length (bools l); rw [hl]; exact hrow, own_keepB hE.views hk (fun k e => outE k ⟨.v, e⟩), own_keepB h.wrs hk (fun k e => out .w k nofun nofun e), fun i x hx => own_keepB (hE.isr i x hx) hk (fun k e => outE k ⟨.vi i, (addr_vi (D := E) hx).trans e⟩), fun i x hx => own_keepB (h.parts i x hx) hk (fun k e => out (.wi i) k nofun nofun ((addr_wi (D := D) hx).trans e)), ?_⟩
 intro s t k hs ht
 rcases ad s k hs with ⟨_, h1⟩ | ⟨_, h1⟩ <;> rcases ad t k ht with ⟨_, h2⟩ | ⟨_, h2⟩
 ·exact hE.sep s t k h1 h2
 ·have := hN k ⟨s, h1⟩; have := hD k ⟨t, h2⟩; omega
 ·have := hN k ⟨t, h2⟩; have := hD k ⟨s, h1⟩; omega
 ·exact h.sep s t k h1 h2
theorem swap_grow {m mc : Nat} {D E : LMeta} {w : World} {l : List Bool} (hN : NewM mc E w) : ∀ k, MetaB m { D with lives := l, vs := E.vs, VA := E.VA, vc := E.vc } k → MetaB m D k ∨ w.heap.size ≤ k := by
 rintro k ⟨s, hs⟩
 cases s with
 | v => exact .inr (hN k ⟨.v, hs⟩)
 | vi i => exact .inr (hN k ⟨.vi i, hs⟩)
 | m => exact .inl ⟨.m, hs⟩
 | l => exact .inl ⟨.l, hs⟩
 | w => exact .inl ⟨.w, hs⟩
 | wi i => exact .inl ⟨.wi i, hs⟩
set_option maxHeartbeats 4000000 in
/-- (*waystation/meta.Meta).Fence -/
theorem fence_ok (m : Nat) (D : LMeta) (b : Int) (w : World) (h : MetaAt w m D) (hok : D.pure.ok) : Ret Try.prog 28 #[.pointer (some ⟨m, 0, none⟩), .int .i64 b] w (fun v w' => v = .int .i64 (D.pure.fence b).2 ∧ Made m D w (D.pure.fence b).1 w' ∧ Lk w' w (MetaB m D)) := by
 haveI hb : Blk w m _ := ⟨h.hb⟩
 have hmost : most = 2147483647 := rfl
 haveI hL : OwnI w D.LA _ _ _ _ _ _ _ := ⟨h.lives⟩
 obtain ⟨hll, hvl, hwl, hnb, hpl, _⟩ := lens hok
 refine ret_of_x (N := 119) (l := [.pointer (some ⟨m, 0, none⟩), .int .i64 b]) Try.func28 rfl rfl (Nat.le_of_ble_eq_true rfl) ?_
 refine x_seq ?_
 refine x_regionL ?_
 refine xl_v v_assign ?_
 refine xl_nil ?_
 refine x_seq ?_
 refine x_seq ?_
 refine x_regionL ?_
 refine xl_v v_move ?_
 refine xl_call (isNone_ok m D w (h.ext (kpc : Keep NoB w w))) ?_
 rintro _ w1 ⟨⟨x1, rfl, hw1, hb1, hc1⟩, lk1⟩
 refine xl_v v_move ?_
 refine xl_v v_move ?_
 refine xl_call (broker_ok m D b w1 (h.ext (kpc : Keep NoB w w1))) ?_
 rintro _ w2 ⟨⟨x2, rfl, hw2, hb2, hc2⟩, lk2⟩
 refine xl_e (e_buildSliceM (vs := [x1, x2].flatMap chkC) rfl rfl rfl fun b5 w3 n5 l5 k5 => ?_)
 refine xl_call (first2_ok _ _ x1 x2 w3 (hc1.ext lkc) (fun _ => hc2.ext lkc) (if inN b D.nb then 0 else 2) (by rw [hb1, hb2, hw2, decide_eq_false (by omega)]; by_cases e : inN b D.nb <;> simp [e])) ?_
 rintro _ w4 ⟨rfl, lk3⟩
 refine xl_v v_assign ?_
 refine xl_nil ?_
 refine x_seq ?_
 refine x_regionL ?_
 refine xl_v v_move ?_
 refine xl_v v_neq ?_
 refine xl_nil ?_
 first | refine x_condP (fun c1 => ?_) (fun c1 => ?_) | refine x_condN (fun c1 => ?_) (fun c1 => ?_) | refine x_condE (fun c1 => ?_) (fun c1 => ?_)
 ·
  have hn : ¬ inN b D.nb := fun e => by simp [e] at c1
  have hr : D.pure.fence b = (D.pure, 2) := if_pos hn
  refine x_seq ?_
  refine x_regionL ?_
  refine xl_v v_move ?_
  refine xl_v v_assign ?_
  refine xl_nil ?_
  refine x_ret ?_
  refine fin1 rfl ?_
  exact ⟨by rw [hr, if_neg hn], Made.stay h kpc (by rw [hr]), lkc⟩
 ·
  have hn : inN b D.nb := Classical.byContradiction fun e => by simp [e] at c1
  have hr : D.pure.fence b = _ := if_neg (fun e => e hn)
  obtain ⟨i, rfl, hi⟩ := nat_of hn
  have hil : i < D.lives.length := by omega
  haveI apm : ApB D.LA m := h.apm (s := .l) rfl nofun
  refine x_skip ?_
  refine x_seq ?_
  refine x_regionL ?_
  refine xl_v v_move ?_
  refine xl_call (copy_ok m D w4 (h.ext (kpc : Keep NoB w w4)) hok) ?_
  rintro _ w5 ⟨⟨mc, Dc, rfl, hMc, hPc, hNc⟩, lk4⟩
  haveI hbc : Blk w5 mc _ := ⟨hMc.hb⟩
  have hNc : NewM mc Dc w := fun k hk => Nat.le_trans Ge.le (hNc k hk)
  refine xl_Nc ?_
  refine xl_Fa ?_
  refine xl_Ld ?_
  refine xl_v v_assign ?_
  refine xl_nil ?_
  refine x_seq ?_
  refine x_seq ?_
  refine x_regionL ?_
  refine xl_v v_move ?_
  refine xl_v v_len ?_
  refine xl_v v_move ?_
  refine xl_nil ?_
  refine x_block ?_
  have hcl : Dc.vs.length = D.vs.length := by have := congrArg (fun m => (Meta.views m).length) hPc; simpa [LMeta.pure] using this
  obtain ⟨VA, hVA0⟩ : ∃ VA, VA = Dc.VA := ⟨_, rfl⟩
  obtain ⟨vc, hvc0⟩ : ∃ vc, vc = Dc.vc := ⟨_, rfl⟩
  have hF0 : FenceI mc VA vc i D.pure w 0 w5 := ⟨Dc, hMc.ext kpc, hNc, hVA0.symm, hvc0.symm, by rw [hPc]; simp, by simp⟩
  have hml : D.pure.views.length = D.vs.length := by simp [LMeta.pure]
  rw [← hVA0, ← hvc0, hcl]
  refine x_loop (fun t τ ds w' => ds = [] ∧ ∃ (k : Nat), t = D.vs.length - k ∧ k ≤ D.vs.length ∧ FenceI mc VA vc i D.pure w k w' ∧ Ev τ 0 (.pointer (some ⟨m, 0, none⟩)) ∧ Ev τ 1 (.int .i64 (i : Int)) ∧ Ev τ 6 (.slice VA D.vs.length vc) ∧ Ev τ 28 (.int .i64 (D.vs.length : Int)) ∧ Ev τ 29 (.int .i64 (k : Int)) ∧ Lk w' w NoB) (D.vs.length) ?start ?round
  case start =>
   exact ⟨rfl, 0, rfl, Nat.zero_le _, hF0, inferInstance, inferInstance, inferInstance, inferInstance, evc, lkc⟩
  case round =>
   intro m τ6 ds6 w6 hI
   obtain ⟨rfl, k, rfl, hk, hF, e0, e1, e6, e28, e29, lk⟩ := hI
   refine x_seq ?_
   refine x_regionL ?_
   refine xl_v v_lss ?_
   refine xl_nil ?_
   refine x_seq ?_
   first | refine x_condP (fun c2 => ?_) (fun c2 => ?_) | refine x_condN (fun c2 => ?_) (fun c2 => ?_) | refine x_condE (fun c2 => ?_) (fun c2 => ?_)
   ·
    obtain ⟨E, hM, hN, hVA, hvc, hE, hst⟩ := hF
    have hEl : E.vs.length = D.vs.length := (FenceI.len (mc := mc) hE).trans hml
    have hkD : k < D.vs.length := by omega
    have hkP : k < D.pure.views.length := by omega
    have hkE : k < E.vs.length := by omega
    have hyv : E.vs[k].v = D.pure.views[k] := FenceI.at_ hE hkP hkE
    have hov := hok.vs _ (List.getElem_mem hkP)
    rw [← hyv] at hov
    have he0 := hov.e0
    have he1 := hov.e1
    have hv0 := hov.v0
    have hv1 := hov.v1
    have hrise : Rises D.nb E.vs[k].v.isr := hov.rise
    have hpl2 := rises_len hrise
    rw [← hVA, ← hvc, ← hEl] at e6
    haveI hV : OwnI w6 E.VA _ _ _ _ _ _ _ := ⟨hM.views⟩
    have hi' : E.vs[k]? = some E.vs[k] := List.getElem?_eq_getElem hkE
    haveI hPt : OwnI w6 E.vs[k].A _ _ _ _ _ _ _ := ⟨hM.isr k _ hi'⟩
    haveI apw : ApA E.VA E.vs[k].A := hM.ap (s := .v) (t := .vi k) rfl (addr_vi hi') nofun
    haveI apw2 : ApA E.vs[k].A E.VA := apw.symm
    haveI sL : ∀ n c, SubF (OwnB (.slice E.VA n c)) NoB w := fun n c => subNewM hN (s := .v) rfl n c w (Nat.le_refl _)
    haveI sI : ∀ n c, SubF (OwnB (.slice E.vs[k].A n c)) NoB w := fun n c => subNewM hN (s := .vi k) (addr_vi hi') n c w (Nat.le_refl _)
    have hVA1 : E.VA.isSome = true := row_some (w := w6) (A := E.VA) (cs := E.vs.flatMap viewC) inferInstance (by rw [flat_len (sz := 4) (fun _ => rfl)]; omega)
    obtain ⟨hx1, hx2⟩ := isX_idx (i : Int) E.vs[k].v.isr
    have hlv : E.vs[k].v.leaves i = (decide (0 ≤ idx (isX (i : Int)) E.vs[k].v.isr) && decide (1 < E.vs[k].v.isr.length)) := by
     rw [View.leaves]
     congr 1
     rw [decide_eq_decide]
     exact hx1.symm
    refine x_skip ?_
    refine x_seq ?_
    refine x_block ?_
    refine x_seq ?_
    refine x_regionL ?_
    refine xl_v v_move ?_
    refine xl_v v_assign ?_
    refine xl_nil ?_
    refine x_seq ?_
    refine x_regionL ?_
    refine xl_v v_move ?_
    refine xl_v v_move ?_
    refine xl_v (v_indexF k (by decide) rfl (by omega) hkE) ?_
    refine xl_v v_assign ?_
    refine xl_nil ?_
    refine x_seq ?_
    refine x_regionL ?_
    refine xl_v v_move ?_
    refine xl_Nc ?_
    refine xl_Fa ?_
    refine xl_Ld ?_
    refine xl_v v_move ?_
    refine xl_v v_eql ?_
    refine xl_v v_assign ?_
    refine xl_nil ?_
    refine x_seq ?_
    refine x_regionL ?_
    refine xl_v v_move ?_
    refine xl_Nc ?_
    refine xl_Fa ?_
    refine xl_Ld ?_
    refine xl_v v_move ?_
    refine xl_call (index_ok E.vs[k].A _ _ E.vs[k].v.isr i w6 rfl (by omega)) ?_
    rintro _ w7 ⟨rfl, lk5⟩
    refine xl_v v_assign ?_
    refine xl_nil ?_
    refine x_seq ?_
    refine x_regionL ?_
    refine xl_v v_move ?_
    refine xl_v v_geq ?_
    refine xl_v v_move ?_
    refine xl_split 49 (fun g49 => ?_) (fun g49 => ?_)
    ·
     refine xl_gv rfl EvO.eq v_move ?_
     refine xl_gNc rfl EvO.eq ?_
     refine xl_gFa rfl EvO.eq ?_
     refine xl_gLd rfl EvO.eq ?_
     refine xl_gv rfl EvO.eq v_len ?_
     refine xl_gv rfl EvO.eq v_gtr ?_
     refine xl_Pk ?_
     refine xl_v v_assign ?_
     refine xl_nil ?_
     refine x_seq ?_
     refine x_seq ?_
     refine x_regionL ?_
     refine xl_v v_move ?_
     refine xl_v v_not ?_
     refine xl_v v_move ?_
     refine xl_split 59 (fun g59 => ?_) (fun g59 => ?_)
     ·
      refine xl_gv rfl EvO.eq v_move ?_
      refine xl_gv rfl EvO.eq v_not ?_
      refine xl_Pk ?_
      refine xl_nil ?_
      first | refine x_condP (fun c3 => ?_) (fun c3 => ?_) | refine x_condN (fun c3 => ?_) (fun c3 => ?_) | refine x_condE (fun c3 => ?_) (fun c3 => ?_)
      ·
       refine x_exit ?_
       have hF2 : FenceI mc VA vc i D.pure w (k + 1) w7 := by
        first
         | exact hFin
         | (have q1 : ¬ E.vs[k].v.lead = (i : Int) := by simpa using g59
            have q2 : ¬ (E.vs[k].v.leaves i = true) := by
             rw [hlv]
             first
              | (have q : ¬ 0 ≤ idx (isX (i : Int)) E.vs[k].v.isr := by simpa using g49
                 rw [decide_eq_false q]; simp; done)
              | (rw [decide_eq_false (by omega : ¬ 1 < E.vs[k].v.isr.length)]; simp; done)
            refine FenceI.step (x := E.vs[k]) hN hVA hvc hE hst hkP hkE (by simpa using hM.ext kpc) ?_ ?_ rfl
            ·rw [← hyv, View.fenced, if_neg (fun e => e.elim q1 q2)]
            ·rw [← hyv, View.stuck, decide_eq_false q1]
             simp [q2])
       refine x_regionL ?_
       refine xl_v (v_add (by omega)) ?_
       refine xl_v v_move ?_
       refine xl_nil ?_
       refine ⟨_, ?_, rfl, k + 1, rfl, by omega, hF2, inferInstance, inferInstance, evc (by rw [hVA, hvc, hEl]), inferInstance, evc, lkc⟩
       omega
      ·
       refine x_skip ?_
       refine x_seq ?_
       refine x_seq ?_
       have hNS : E.vs[k].v.lead = i ∨ E.vs[k].v.leaves i = true := by
        rw [hlv]
        first
         | (have q : E.vs[k].v.lead = (i : Int) := by simpa using g59
            exact .inl q)
         | (have q : 0 ≤ idx (isX (i : Int)) E.vs[k].v.isr := by simpa using g49
            exact .inr (by rw [decide_eq_true q, decide_eq_true (by omega : 1 < E.vs[k].v.isr.length)]; rfl))
       have hdn : (decide (E.vs[k].v.lead = i) || E.vs[k].v.leaves i) = true := by
        rcases hNS with q | q
        ·rw [decide_eq_true q]; rfl
        ·rw [q, Bool.or_true]
       have hstk : E.vs[k].v.stuck i = (decide (E.vs[k].v.ver = most) || decide (E.vs[k].v.lead = i) && decide (E.vs[k].v.epoch = most)) := by
        rw [View.stuck, hdn, Bool.true_and]
       have hfen : E.vs[k].v.fenced i = ⟨if E.vs[k].v.lead = i then -1 else E.vs[k].v.lead, if E.vs[k].v.lead = i then E.vs[k].v.epoch + 1 else E.vs[k].v.epoch, E.vs[k].v.ver + 1, if E.vs[k].v.leaves i then E.vs[k].v.isr.filter (fun x => !decide (x = (i : Int))) else E.vs[k].v.isr⟩ := by
        rw [View.fenced, if_pos hNS]
       refine x_regionL ?_
       refine xl_v v_move ?_
       refine xl_Nc ?_
       refine xl_Fa ?_
       refine xl_Ld ?_
       refine xl_v v_geq ?_
       refine xl_v v_move ?_
       refine xl_split 68 (fun g68 => ?_) (fun g68 => ?_)
       ·
        refine xl_gs rfl EvO.eq ?_
        refine xl_gs rfl EvO.eq ?_
        refine xl_gu rfl EvO.eq ?_
        refine xl_gu rfl EvO.eq ?_
        refine xl_gu rfl EvO.eq ?_
        refine xl_gu rfl EvO.eq ?_
        refine xl_gu rfl EvO.eq ?_
        refine xl_gs rfl EvO.eq ?_
        refine xl_Pk ?_
        refine xl_nil ?_
        refine x_condT ?_
        refine x_seq ?_
        refine x_regionL ?_
        refine xl_v v_assign ?_
        refine xl_nil ?_
        refine x_ret ?_
        refine fin1 rfl ?_
        have hS : E.vs[k].v.stuck i = true := by
         rw [hstk]
         first
          | (have q : 2147483647 ≤ E.vs[k].v.ver := by simpa using g68
             rw [decide_eq_true (by omega : E.vs[k].v.ver = most)]; rfl)
          | (have q : E.vs[k].v.lead = (i : Int) := by simpa using g70
             rw [decide_eq_true q, decide_eq_true (by omega : E.vs[k].v.epoch = most), Bool.and_true, Bool.or_true])
        have hany : D.pure.views.any (View.stuck (i : Int)) = true := List.any_eq_true.2 ⟨_, List.getElem_mem hkP, by rw [← hyv]; exact hS⟩
        rw [if_pos hany] at hr
        exact ⟨by rw [hr], Made.stay h kpc (by rw [hr]), lkc⟩
       ·
        refine xl_gv rfl EvO.eq v_move ?_
        refine xl_gv rfl EvO.eq v_move ?_
        refine xl_split 70 (fun g70 => ?_) (fun g70 => ?_)
        ·
         refine xl_gv rfl EvO.eq v_move ?_
         refine xl_gNc rfl EvO.eq ?_
         refine xl_gFa rfl EvO.eq ?_
         refine xl_gLd rfl EvO.eq ?_
         refine xl_gv rfl EvO.eq v_geq ?_
         refine xl_gPk rfl EvO.eq ?_
         refine xl_Pk ?_
         refine xl_nil ?_
         first | refine x_condP (fun c4 => ?_) (fun c4 => ?_) | refine x_condN (fun c4 => ?_) (fun c4 => ?_) | refine x_condE (fun c4 => ?_) (fun c4 => ?_)
         ·
          refine x_seq ?_
          refine x_regionL ?_
          refine xl_v v_assign ?_
          refine xl_nil ?_
          refine x_ret ?_
          refine fin1 rfl ?_
          have hS : E.vs[k].v.stuck i = true := by
           rw [hstk]
           first
            | (have q : 2147483647 ≤ E.vs[k].v.ver := by simpa using g68
               rw [decide_eq_true (by omega : E.vs[k].v.ver = most)]; rfl)
            | (have q : E.vs[k].v.lead = (i : Int) := by simpa using g70
               rw [decide_eq_true q, decide_eq_true (by omega : E.vs[k].v.epoch = most), Bool.and_true, Bool.or_true])
          have hany : D.pure.views.any (View.stuck (i : Int)) = true := List.any_eq_true.2 ⟨_, List.getElem_mem hkP, by rw [← hyv]; exact hS⟩
          rw [if_pos hany] at hr
          exact ⟨by rw [hr], Made.stay h kpc (by rw [hr]), lkc⟩
         ·
          refine x_skip ?_
          refine x_seq ?_
          refine x_seq ?_
          have hns : E.vs[k].v.stuck i = false := by
           rw [hstk]
           have q1 : ¬ 2147483647 ≤ E.vs[k].v.ver := by simpa using g68
           rw [decide_eq_false (by omega : ¬ E.vs[k].v.ver = most), Bool.false_or]
           first
            | (have q : ¬ E.vs[k].v.lead = (i : Int) := by simpa using g70
               rw [decide_eq_false q]; rfl)
            | (rw [decide_eq_false (by omega : ¬ E.vs[k].v.epoch = most), Bool.and_false])
          have hep : E.vs[k].v.lead = i → E.vs[k].v.epoch < 2147483647 := fun q => by
           rw [hstk, decide_eq_true q, Bool.true_and, Bool.or_eq_false_iff] at hns
           have := of_decide_eq_false hns.2
           omega
          have hve : E.vs[k].v.ver < 2147483647 := by
           rw [hstk, Bool.or_eq_false_iff] at hns
           have := of_decide_eq_false hns.1
           omega
          obtain ⟨wP, hwP⟩ : ∃ x, x = w7 := ⟨_, rfl⟩
          have hMP : MetaAt wP mc E := by rw [hwP]; exact hM.ext kpc
          refine x_regionL ?_
          refine xl_v v_move ?_
          refine xl_nil ?_
          first | refine x_condP (fun c5 => ?_) (fun c5 => ?_) | refine x_condN (fun c5 => ?_) (fun c5 => ?_) | refine x_condE (fun c5 => ?_) (fun c5 => ?_)
          ·
           refine x_seq ?_
           refine x_regionL ?_
           refine xl_v v_move ?_
           refine xl_Nc ?_
           refine xl_Fa ?_
           refine xl_s (e_storeG0 (E.vs[k].up (-1) E.vs[k].v.epoch E.vs[k].v.ver) hkE rfl (by decide) rfl fun w8 ya hya hia hla hga l13 on13 => ?_)
           refine xl_nil ?_
           refine x_regionL ?_
           refine xl_v v_move ?_
           refine xl_Nc ?_
           refine xl_Fa ?_
           refine xl_v (v_congr (u := .int .i64 E.vs[k].v.epoch) (v_loadFf hia) (by rw [hga])) ?_
           refine xl_v (v_add (by have := hep c5; omega)) ?_
           refine xl_Nc ?_
           refine xl_Fa ?_
           refine xl_s (e_storeG (E.vs[k].up (-1) (E.vs[k].v.epoch + 1) E.vs[k].v.ver) hia hla (by decide) (by rw [hga]; rfl) fun w9 y1 hy1 hi1 hl1 hg1 l14 on14 => ?_)
           rw [hya, List.set_set] at hy1
           obtain ⟨z, hz⟩ : ∃ z : LV, z = E.vs[k].up (-1) (E.vs[k].v.epoch + 1) E.vs[k].v.ver := ⟨_, rfl⟩
           have hzv : z = E.vs[k].up (if E.vs[k].v.lead = i then -1 else E.vs[k].v.lead) (if E.vs[k].v.lead = i then E.vs[k].v.epoch + 1 else E.vs[k].v.epoch) E.vs[k].v.ver := by rw [if_pos c5, if_pos c5, hz]
           rw [← hz] at hg1 hy1
           refine xl_nil ?_
           refine x_seq ?_
           refine x_seq ?_
           refine x_regionL ?_
           refine xl_v v_move ?_
           refine xl_nil ?_
           first | refine x_condP (fun c6 => ?_) (fun c6 => ?_) | refine x_condN (fun c6 => ?_) (fun c6 => ?_) | refine x_condE (fun c6 => ?_) (fun c6 => ?_)
           ·
            have hat : 0 ≤ idx (isX (i : Int)) E.vs[k].v.isr := by simpa using g49
            obtain ⟨j, hj, hjl⟩ := hx2 hat
            obtain ⟨hfe, hjp⟩ := erase_isX hrise.1 hjl hj
            have hlvt : E.vs[k].v.leaves i = true := by rw [hlv, decide_eq_true hat, decide_eq_true (by omega : 1 < E.vs[k].v.isr.length)]; rfl
            obtain ⟨l, hl⟩ : ∃ l, l = E.vs[k].v.isr.filter (fun x => !decide (x = (i : Int))) := ⟨_, rfl⟩
            rw [← hl] at hfe
            have hll2 : l.length = E.vs[k].v.isr.length - 1 := by rw [← hfe, List.length_eraseIdx, if_pos hjl]
            refine x_regionL ?_
            refine xl_v v_move ?_
            refine xl_v v_move ?_
            refine xl_Nc ?_
            refine xl_Fa ?_
            refine xl_v (v_congr (u := .slice E.vs[k].A E.vs[k].v.isr.length E.vs[k].c) (v_loadFf hi1) (by rw [hg1, hzv])) ?_
            refine xl_v v_move ?_
            refine xl_v v_move ?_
            refine xl_v (v_add (by omega)) ?_
            rw [hj]
            refine xl_call (delete_ok 0 E.vs[k].A E.vs[k].c E.vs[k].v.isr.length j E.vs[k].v.isr w9 OwnI.own rfl hjl) ?_
            rintro _ w10 ⟨rfl, hown, lk8⟩
            rw [hfe] at hown
            haveI hPn : OwnI w10 E.vs[k].A _ _ _ _ _ _ _ := ⟨hown⟩
            refine xl_Nc ?_
            refine xl_Fa ?_
            refine xl_s (e_storeG ⟨⟨z.v.lead, z.v.epoch, z.v.ver, l⟩, E.vs[k].A, E.vs[k].c⟩ hi1 hl1 (by decide) (by rw [hg1, hzv]; simp [setL, viewC, hll2]) fun w11 y2 hy2 hi2 hl2 hg2 l15 on15 => ?_)
            rw [hy1, List.set_set] at hy2
            have hD6 : ∃ (x2 : LV) (y2 : List LV), y2 = E.vs.set k x2 ∧ x2.A = E.vs[k].A ∧ x2.v = ⟨z.v.lead, z.v.epoch, z.v.ver, if E.vs[k].v.leaves i then E.vs[k].v.isr.filter (fun x => !decide (x = (i : Int))) else E.vs[k].v.isr⟩ ∧ (w11).ownsRow 0 44 4 (.slice E.VA E.vs.length E.vc) E.vs.length (y2.flatMap viewC) ∧ (w11).ownsRow 0 3 1 (.slice x2.A x2.v.isr.length x2.c) x2.v.isr.length (ints x2.v.isr) :=
             ⟨_, y2, hy2, rfl, by rw [if_pos hlvt, hl], OwnI.own, by have := (OwnI.own : World.ownsRow w11 _ _ _ (.slice E.vs[k].A _ E.vs[k].c) _ _); rw [← hll2] at this; exact this⟩
            refine xl_nil ?_
            have hD7 : ∃ (x2 : LV) (y2 : List LV), y2 = E.vs.set k x2 ∧ x2.A = E.vs[k].A ∧ x2.v = ⟨z.v.lead, z.v.epoch, z.v.ver, if E.vs[k].v.leaves i then E.vs[k].v.isr.filter (fun x => !decide (x = (i : Int))) else E.vs[k].v.isr⟩ ∧ (w11).ownsRow 0 44 4 (.slice E.VA E.vs.length E.vc) E.vs.length (y2.flatMap viewC) ∧ (w11).ownsRow 0 3 1 (.slice x2.A x2.v.isr.length x2.c) x2.v.isr.length (ints x2.v.isr) := by
             first
              | exact hD6
              | (have hlvf : ¬ (E.vs[k].v.leaves i = true) := by
                  rw [hlv]
                  first
                   | (have q : ¬ 0 ≤ idx (isX (i : Int)) E.vs[k].v.isr := by simpa using g49
                      rw [decide_eq_false q]; simp; done)
                   | (rw [decide_eq_false (by omega : ¬ 1 < E.vs[k].v.isr.length)]; simp; done)
                 exact ⟨z, y1, hy1, by rw [hzv], by rw [if_neg hlvf, hzv], OwnI.own, by have := (OwnI.own : World.ownsRow w11 _ _ _ (.slice E.vs[k].A _ E.vs[k].c) _ _); rw [hzv]; exact this⟩)
            obtain ⟨x2, y3, hy3, hx2A, hx2v, hrow2, hown2⟩ := hD7
            have hi3 : k < y3.length := by rw [hy3]; simpa using hkE
            have hl3 : y3.length = E.vs.length := by rw [hy3]; simp
            have hg3 : y3[k] = x2 := by subst hy3; simp
            have hx2w : x2.v.ver = E.vs[k].v.ver := by rw [hx2v, hzv]
            haveI on3 : OwnI w11 E.VA _ _ _ _ _ _ (y3.flatMap viewC) := ⟨hrow2⟩
            haveI rn3 : Row w11 E.VA (y3.flatMap viewC) := row_ownI _ _ _ _ _ _ _ _ _
            haveI oi3 : OwnI w11 x2.A _ _ _ _ _ _ _ := ⟨hown2⟩
            haveI apx : ApA E.VA x2.A := by rw [hx2A]; exact apw
            refine x_regionL ?_
            refine xl_v v_move ?_
            refine xl_Nc ?_
            refine xl_Fa ?_
            refine xl_v (v_congr (u := .int .i64 E.vs[k].v.ver) (v_loadFf hi3) (by rw [hg3, hx2w])) ?_
            refine xl_v (v_add (by omega)) ?_
            refine xl_Nc ?_
            refine xl_Fa ?_
            refine xl_s (e_storeG (x2.up x2.v.lead x2.v.epoch (E.vs[k].v.ver + 1)) hi3 hl3 (by decide) (by rw [hg3]; rfl) fun w12 y4 hy4 hi4 hl4 hg4 l16 on16 => ?_)
            rw [hy3, List.set_set] at hy4
            have hFin : FenceI mc VA vc i D.pure w (k + 1) w12 := by
             refine FenceI.step (x := x2.up x2.v.lead x2.v.epoch (E.vs[k].v.ver + 1)) hN hVA hvc hE hst hkP hkE ?_ ?_ (by rw [← hyv]; exact hns) (by show blkA x2.A = _; rw [hx2A])
             ·exact hMP.setV hi' (x2.up x2.v.lead x2.v.epoch (E.vs[k].v.ver + 1)) (S := fun j => OwnB (.slice E.VA E.vs.length E.vc) j ∨ OwnB (.slice E.vs[k].A E.vs[k].v.isr.length E.vs[k].c) j) (by rw [hwP]; exact kpc) (fun k _ e => e.imp ownB_blk.1 ownB_blk.1) (by have := (OwnI.own : World.ownsRow w12 _ _ _ (.slice E.VA _ E.vc) _ _); rw [hy4] at this; exact this) (OwnI.own : World.ownsRow w12 _ _ _ (.slice x2.A _ _) _ _) (.inl (by show blkA x2.A = _; rw [hx2A]))
             ·rw [← hyv, hfen]
              show (⟨x2.v.lead, x2.v.epoch, E.vs[k].v.ver + 1, x2.v.isr⟩ : View) = _
              rw [hx2v, hzv]
            refine xl_nil ?_
            have hF2 : FenceI mc VA vc i D.pure w (k + 1) w12 := by
             first
              | exact hFin
              | (have q1 : ¬ E.vs[k].v.lead = (i : Int) := by simpa using g59
                 have q2 : ¬ (E.vs[k].v.leaves i = true) := by
                  rw [hlv]
                  first
                   | (have q : ¬ 0 ≤ idx (isX (i : Int)) E.vs[k].v.isr := by simpa using g49
                      rw [decide_eq_false q]; simp; done)
                   | (rw [decide_eq_false (by omega : ¬ 1 < E.vs[k].v.isr.length)]; simp; done)
                 refine FenceI.step (x := E.vs[k]) hN hVA hvc hE hst hkP hkE (by simpa using hM.ext kpc) ?_ ?_ rfl
                 ·rw [← hyv, View.fenced, if_neg (fun e => e.elim q1 q2)]
                 ·rw [← hyv, View.stuck, decide_eq_false q1]
                  simp [q2])
            refine x_regionL ?_
            refine xl_v (v_add (by omega)) ?_
            refine xl_v v_move ?_
            refine xl_nil ?_
            refine ⟨_, ?_, rfl, k + 1, rfl, by omega, hF2, inferInstance, inferInstance, evc (by rw [hVA, hvc, hEl]), inferInstance, evc, lkc⟩
            omega
           ·
            refine x_skip ?_
            have hD7 : ∃ (x2 : LV) (y2 : List LV), y2 = E.vs.set k x2 ∧ x2.A = E.vs[k].A ∧ x2.v = ⟨z.v.lead, z.v.epoch, z.v.ver, if E.vs[k].v.leaves i then E.vs[k].v.isr.filter (fun x => !decide (x = (i : Int))) else E.vs[k].v.isr⟩ ∧ (w9).ownsRow 0 44 4 (.slice E.VA E.vs.length E.vc) E.vs.length (y2.flatMap viewC) ∧ (w9).ownsRow 0 3 1 (.slice x2.A x2.v.isr.length x2.c) x2.v.isr.length (ints x2.v.isr) := by
             first
              | exact hD6
              | (have hlvf : ¬ (E.vs[k].v.leaves i = true) := by
                  rw [hlv]
                  first
                   | (have q : ¬ 0 ≤ idx (isX (i : Int)) E.vs[k].v.isr := by simpa using g49
                      rw [decide_eq_false q]; simp; done)
                   | (rw [decide_eq_false (by omega : ¬ 1 < E.vs[k].v.isr.length)]; simp; done)
                 exact ⟨z, y1, hy1, by rw [hzv], by rw [if_neg hlvf, hzv], OwnI.own, by have := (OwnI.own : World.ownsRow w9 _ _ _ (.slice E.vs[k].A _ E.vs[k].c) _ _); rw [hzv]; exact this⟩)
            obtain ⟨x2, y3, hy3, hx2A, hx2v, hrow2, hown2⟩ := hD7
            have hi3 : k < y3.length := by rw [hy3]; simpa using hkE
            have hl3 : y3.length = E.vs.length := by rw [hy3]; simp
            have hg3 : y3[k] = x2 := by subst hy3; simp
            have hx2w : x2.v.ver = E.vs[k].v.ver := by rw [hx2v, hzv]
            haveI on3 : OwnI w9 E.VA _ _ _ _ _ _ (y3.flatMap viewC) := ⟨hrow2⟩
            haveI rn3 : Row w9 E.VA (y3.flatMap viewC) := row_ownI _ _ _ _ _ _ _ _ _
            haveI oi3 : OwnI w9 x2.A _ _ _ _ _ _ _ := ⟨hown2⟩
            haveI apx : ApA E.VA x2.A := by rw [hx2A]; exact apw
            refine x_regionL ?_
            refine xl_v v_move ?_
            refine xl_Nc ?_
            refine xl_Fa ?_
            refine xl_v (v_congr (u := .int .i64 E.vs[k].v.ver) (v_loadFf hi3) (by rw [hg3, hx2w])) ?_
            refine xl_v (v_add (by omega)) ?_
            refine xl_Nc ?_
            refine xl_Fa ?_
            refine xl_s (e_storeG (x2.up x2.v.lead x2.v.epoch (E.vs[k].v.ver + 1)) hi3 hl3 (by decide) (by rw [hg3]; rfl) fun w13 y4 hy4 hi4 hl4 hg4 l16 on16 => ?_)
            rw [hy3, List.set_set] at hy4
            have hFin : FenceI mc VA vc i D.pure w (k + 1) w13 := by
             refine FenceI.step (x := x2.up x2.v.lead x2.v.epoch (E.vs[k].v.ver + 1)) hN hVA hvc hE hst hkP hkE ?_ ?_ (by rw [← hyv]; exact hns) (by show blkA x2.A = _; rw [hx2A])
             ·exact hMP.setV hi' (x2.up x2.v.lead x2.v.epoch (E.vs[k].v.ver + 1)) (S := fun j => OwnB (.slice E.VA E.vs.length E.vc) j ∨ OwnB (.slice E.vs[k].A E.vs[k].v.isr.length E.vs[k].c) j) (by rw [hwP]; exact kpc) (fun k _ e => e.imp ownB_blk.1 ownB_blk.1) (by have := (OwnI.own : World.ownsRow w13 _ _ _ (.slice E.VA _ E.vc) _ _); rw [hy4] at this; exact this) (OwnI.own : World.ownsRow w13 _ _ _ (.slice x2.A _ _) _ _) (.inl (by show blkA x2.A = _; rw [hx2A]))
             ·rw [← hyv, hfen]
              show (⟨x2.v.lead, x2.v.epoch, E.vs[k].v.ver + 1, x2.v.isr⟩ : View) = _
              rw [hx2v, hzv]
            refine xl_nil ?_
            have hF2 : FenceI mc VA vc i D.pure w (k + 1) w13 := by
             first
              | exact hFin
              | (have q1 : ¬ E.vs[k].v.lead = (i : Int) := by simpa using g59
                 have q2 : ¬ (E.vs[k].v.leaves i = true) := by
                  rw [hlv]
                  first
                   | (have q : ¬ 0 ≤ idx (isX (i : Int)) E.vs[k].v.isr := by simpa using g49
                      rw [decide_eq_false q]; simp; done)
                   | (rw [decide_eq_false (by omega : ¬ 1 < E.vs[k].v.isr.length)]; simp; done)
                 refine FenceI.step (x := E.vs[k]) hN hVA hvc hE hst hkP hkE (by simpa using hM.ext kpc) ?_ ?_ rfl
                 ·rw [← hyv, View.fenced, if_neg (fun e => e.elim q1 q2)]
                 ·rw [← hyv, View.stuck, decide_eq_false q1]
                  simp [q2])
            refine x_regionL ?_
            refine xl_v (v_add (by omega)) ?_
            refine xl_v v_move ?_
            refine xl_nil ?_
            refine ⟨_, ?_, rfl, k + 1, rfl, by omega, hF2, inferInstance, inferInstance, evc (by rw [hVA, hvc, hEl]), inferInstance, evc, lkc⟩
            omega
          ·
           obtain ⟨z, hz⟩ : ∃ z : LV, z = E.vs[k] := ⟨_, rfl⟩
           have hzv : z = E.vs[k].up (if E.vs[k].v.lead = i then -1 else E.vs[k].v.lead) (if E.vs[k].v.lead = i then E.vs[k].v.epoch + 1 else E.vs[k].v.epoch) E.vs[k].v.ver := by rw [if_neg c5, if_neg c5, hz]
           obtain ⟨y1, hy10⟩ : ∃ ys : List LV, ys = E.vs := ⟨_, rfl⟩
           have hi1 : k < y1.length := by rw [hy10]; exact hkE
           have hl1 : y1.length = E.vs.length := by rw [hy10]
           have hg1 : y1[k] = z := by subst hy10; exact hz.symm
           have hy1 : y1 = E.vs.set k z := by rw [hy10, hz]; simp
           haveI on14 : OwnI w7 E.VA _ _ _ _ _ _ (y1.flatMap viewC) := by rw [hy10]; exact inferInstance
           haveI rn14 : Row w7 E.VA (y1.flatMap viewC) := by rw [hy10]; exact inferInstance
           refine x_skip ?_
           refine x_seq ?_
           refine x_seq ?_
           refine x_regionL ?_
           refine xl_v v_move ?_
           refine xl_nil ?_
           first | refine x_condP (fun c6 => ?_) (fun c6 => ?_) | refine x_condN (fun c6 => ?_) (fun c6 => ?_) | refine x_condE (fun c6 => ?_) (fun c6 => ?_)
           ·
            have hat : 0 ≤ idx (isX (i : Int)) E.vs[k].v.isr := by simpa using g49
            obtain ⟨j, hj, hjl⟩ := hx2 hat
            obtain ⟨hfe, hjp⟩ := erase_isX hrise.1 hjl hj
            have hlvt : E.vs[k].v.leaves i = true := by rw [hlv, decide_eq_true hat, decide_eq_true (by omega : 1 < E.vs[k].v.isr.length)]; rfl
            obtain ⟨l, hl⟩ : ∃ l, l = E.vs[k].v.isr.filter (fun x => !decide (x = (i : Int))) := ⟨_, rfl⟩
            rw [← hl] at hfe
            have hll2 : l.length = E.vs[k].v.isr.length - 1 := by rw [← hfe, List.length_eraseIdx, if_pos hjl]
            refine x_regionL ?_
            refine xl_v v_move ?_
            refine xl_v v_move ?_
            refine xl_Nc ?_
            refine xl_Fa ?_
            refine xl_v (v_congr (u := .slice E.vs[k].A E.vs[k].v.isr.length E.vs[k].c) (v_loadFf hi1) (by rw [hg1, hzv])) ?_
            refine xl_v v_move ?_
            refine xl_v v_move ?_
            refine xl_v (v_add (by omega)) ?_
            rw [hj]
            refine xl_call (delete_ok 0 E.vs[k].A E.vs[k].c E.vs[k].v.isr.length j E.vs[k].v.isr w7 OwnI.own rfl hjl) ?_
            rintro _ w14 ⟨rfl, hown, lk8⟩
            rw [hfe] at hown
            haveI hPn : OwnI w14 E.vs[k].A _ _ _ _ _ _ _ := ⟨hown⟩
            refine xl_Nc ?_
            refine xl_Fa ?_
            refine xl_s (e_storeG ⟨⟨z.v.lead, z.v.epoch, z.v.ver, l⟩, E.vs[k].A, E.vs[k].c⟩ hi1 hl1 (by decide) (by rw [hg1, hzv]; simp [setL, viewC, hll2]) fun w15 y2 hy2 hi2 hl2 hg2 l15 on15 => ?_)
            rw [hy1, List.set_set] at hy2
            have hD6 : ∃ (x2 : LV) (y2 : List LV), y2 = E.vs.set k x2 ∧ x2.A = E.vs[k].A ∧ x2.v = ⟨z.v.lead, z.v.epoch, z.v.ver, if E.vs[k].v.leaves i then E.vs[k].v.isr.filter (fun x => !decide (x = (i : Int))) else E.vs[k].v.isr⟩ ∧ (w15).ownsRow 0 44 4 (.slice E.VA E.vs.length E.vc) E.vs.length (y2.flatMap viewC) ∧ (w15).ownsRow 0 3 1 (.slice x2.A x2.v.isr.length x2.c) x2.v.isr.length (ints x2.v.isr) :=
             ⟨_, y2, hy2, rfl, by rw [if_pos hlvt, hl], OwnI.own, by have := (OwnI.own : World.ownsRow w15 _ _ _ (.slice E.vs[k].A _ E.vs[k].c) _ _); rw [← hll2] at this; exact this⟩
            refine xl_nil ?_
            have hD7 : ∃ (x2 : LV) (y2 : List LV), y2 = E.vs.set k x2 ∧ x2.A = E.vs[k].A ∧ x2.v = ⟨z.v.lead, z.v.epoch, z.v.ver, if E.vs[k].v.leaves i then E.vs[k].v.isr.filter (fun x => !decide (x = (i : Int))) else E.vs[k].v.isr⟩ ∧ (w15).ownsRow 0 44 4 (.slice E.VA E.vs.length E.vc) E.vs.length (y2.flatMap viewC) ∧ (w15).ownsRow 0 3 1 (.slice x2.A x2.v.isr.length x2.c) x2.v.isr.length (ints x2.v.isr) := by
             first
              | exact hD6
              | (have hlvf : ¬ (E.vs[k].v.leaves i = true) := by
                  rw [hlv]
                  first
                   | (have q : ¬ 0 ≤ idx (isX (i : Int)) E.vs[k].v.isr := by simpa using g49
                      rw [decide_eq_false q]; simp; done)
                   | (rw [decide_eq_false (by omega : ¬ 1 < E.vs[k].v.isr.length)]; simp; done)
                 exact ⟨z, y1, hy1, by rw [hzv], by rw [if_neg hlvf, hzv], OwnI.own, by have := (OwnI.own : World.ownsRow w15 _ _ _ (.slice E.vs[k].A _ E.vs[k].c) _ _); rw [hzv]; exact this⟩)
            obtain ⟨x2, y3, hy3, hx2A, hx2v, hrow2, hown2⟩ := hD7
            have hi3 : k < y3.length := by rw [hy3]; simpa using hkE
            have hl3 : y3.length = E.vs.length := by rw [hy3]; simp
            have hg3 : y3[k] = x2 := by subst hy3; simp
            have hx2w : x2.v.ver = E.vs[k].v.ver := by rw [hx2v, hzv]
            haveI on3 : OwnI w15 E.VA _ _ _ _ _ _ (y3.flatMap viewC) := ⟨hrow2⟩
            haveI rn3 : Row w15 E.VA (y3.flatMap viewC) := row_ownI _ _ _ _ _ _ _ _ _
            haveI oi3 : OwnI w15 x2.A _ _ _ _ _ _ _ := ⟨hown2⟩
            haveI apx : ApA E.VA x2.A := by rw [hx2A]; exact apw
            refine x_regionL ?_
            refine xl_v v_move ?_
            refine xl_Nc ?_
            refine xl_Fa ?_
            refine xl_v (v_congr (u := .int .i64 E.vs[k].v.ver) (v_loadFf hi3) (by rw [hg3, hx2w])) ?_
            refine xl_v (v_add (by omega)) ?_
            refine xl_Nc ?_
            refine xl_Fa ?_
            refine xl_s (e_storeG (x2.up x2.v.lead x2.v.epoch (E.vs[k].v.ver + 1)) hi3 hl3 (by decide) (by rw [hg3]; rfl) fun w16 y4 hy4 hi4 hl4 hg4 l16 on16 => ?_)
            rw [hy3, List.set_set] at hy4
            have hFin : FenceI mc VA vc i D.pure w (k + 1) w16 := by
             refine FenceI.step (x := x2.up x2.v.lead x2.v.epoch (E.vs[k].v.ver + 1)) hN hVA hvc hE hst hkP hkE ?_ ?_ (by rw [← hyv]; exact hns) (by show blkA x2.A = _; rw [hx2A])
             ·exact hMP.setV hi' (x2.up x2.v.lead x2.v.epoch (E.vs[k].v.ver + 1)) (S := fun j => OwnB (.slice E.VA E.vs.length E.vc) j ∨ OwnB (.slice E.vs[k].A E.vs[k].v.isr.length E.vs[k].c) j) (by rw [hwP]; exact kpc) (fun k _ e => e.imp ownB_blk.1 ownB_blk.1) (by have := (OwnI.own : World.ownsRow w16 _ _ _ (.slice E.VA _ E.vc) _ _); rw [hy4] at this; exact this) (OwnI.own : World.ownsRow w16 _ _ _ (.slice x2.A _ _) _ _) (.inl (by show blkA x2.A = _; rw [hx2A]))
             ·rw [← hyv, hfen]
              show (⟨x2.v.lead, x2.v.epoch, E.vs[k].v.ver + 1, x2.v.isr⟩ : View) = _
              rw [hx2v, hzv]
            refine xl_nil ?_
            have hF2 : FenceI mc VA vc i D.pure w (k + 1) w16 := by
             first
              | exact hFin
              | (have q1 : ¬ E.vs[k].v.lead = (i : Int) := by simpa using g59
                 have q2 : ¬ (E.vs[k].v.leaves i = true) := by
                  rw [hlv]
                  first
                   | (have q : ¬ 0 ≤ idx (isX (i : Int)) E.vs[k].v.isr := by simpa using g49
                      rw [decide_eq_false q]; simp; done)
                   | (rw [decide_eq_false (by omega : ¬ 1 < E.vs[k].v.isr.length)]; simp; done)
                 refine FenceI.step (x := E.vs[k]) hN hVA hvc hE hst hkP hkE (by simpa using hM.ext kpc) ?_ ?_ rfl
                 ·rw [← hyv, View.fenced, if_neg (fun e => e.elim q1 q2)]
                 ·rw [← hyv, View.stuck, decide_eq_false q1]
                  simp [q2])
            refine x_regionL ?_
            refine xl_v (v_add (by omega)) ?_
            refine xl_v v_move ?_
            refine xl_nil ?_
            refine ⟨_, ?_, rfl, k + 1, rfl, by omega, hF2, inferInstance, inferInstance, evc (by rw [hVA, hvc, hEl]), inferInstance, evc, lkc⟩
            omega
           ·
            refine x_skip ?_
            have hD7 : ∃ (x2 : LV) (y2 : List LV), y2 = E.vs.set k x2 ∧ x2.A = E.vs[k].A ∧ x2.v = ⟨z.v.lead, z.v.epoch, z.v.ver, if E.vs[k].v.leaves i then E.vs[k].v.isr.filter (fun x => !decide (x = (i : Int))) else E.vs[k].v.isr⟩ ∧ (w7).ownsRow 0 44 4 (.slice E.VA E.vs.length E.vc) E.vs.length (y2.flatMap viewC) ∧ (w7).ownsRow 0 3 1 (.slice x2.A x2.v.isr.length x2.c) x2.v.isr.length (ints x2.v.isr) := by
             first
              | exact hD6
              | (have hlvf : ¬ (E.vs[k].v.leaves i = true) := by
                  rw [hlv]
                  first
                   | (have q : ¬ 0 ≤ idx (isX (i : Int)) E.vs[k].v.isr := by simpa using g49
                      rw [decide_eq_false q]; simp; done)
                   | (rw [decide_eq_false (by omega : ¬ 1 < E.vs[k].v.isr.length)]; simp; done)
                 exact ⟨z, y1, hy1, by rw [hzv], by rw [if_neg hlvf, hzv], OwnI.own, by have := (OwnI.own : World.ownsRow w7 _ _ _ (.slice E.vs[k].A _ E.vs[k].c) _ _); rw [hzv]; exact this⟩)
            obtain ⟨x2, y3, hy3, hx2A, hx2v, hrow2, hown2⟩ := hD7
            have hi3 : k < y3.length := by rw [hy3]; simpa using hkE
            have hl3 : y3.length = E.vs.length := by rw [hy3]; simp
            have hg3 : y3[k] = x2 := by subst hy3; simp
            have hx2w : x2.v.ver = E.vs[k].v.ver := by rw [hx2v, hzv]
            haveI on3 : OwnI w7 E.VA _ _ _ _ _ _ (y3.flatMap viewC) := ⟨hrow2⟩
            haveI rn3 : Row w7 E.VA (y3.flatMap viewC) := row_ownI _ _ _ _ _ _ _ _ _
            haveI oi3 : OwnI w7 x2.A _ _ _ _ _ _ _ := ⟨hown2⟩
            haveI apx : ApA E.VA x2.A := by rw [hx2A]; exact apw
            refine x_regionL ?_
            refine xl_v v_move ?_
            refine xl_Nc ?_
            refine xl_Fa ?_
            refine xl_v (v_congr (u := .int .i64 E.vs[k].v.ver) (v_loadFf hi3) (by rw [hg3, hx2w])) ?_
            refine xl_v (v_add (by omega)) ?_
            refine xl_Nc ?_
            refine xl_Fa ?_
            refine xl_s (e_storeG (x2.up x2.v.lead x2.v.epoch (E.vs[k].v.ver + 1)) hi3 hl3 (by decide) (by rw [hg3]; rfl) fun w17 y4 hy4 hi4 hl4 hg4 l16 on16 => ?_)
            rw [hy3, List.set_set] at hy4
            have hFin : FenceI mc VA vc i D.pure w (k + 1) w17 := by
             refine FenceI.step (x := x2.up x2.v.lead x2.v.epoch (E.vs[k].v.ver + 1)) hN hVA hvc hE hst hkP hkE ?_ ?_ (by rw [← hyv]; exact hns) (by show blkA x2.A = _; rw [hx2A])
             ·exact hMP.setV hi' (x2.up x2.v.lead x2.v.epoch (E.vs[k].v.ver + 1)) (S := fun j => OwnB (.slice E.VA E.vs.length E.vc) j ∨ OwnB (.slice E.vs[k].A E.vs[k].v.isr.length E.vs[k].c) j) (by rw [hwP]; exact kpc) (fun k _ e => e.imp ownB_blk.1 ownB_blk.1) (by have := (OwnI.own : World.ownsRow w17 _ _ _ (.slice E.VA _ E.vc) _ _); rw [hy4] at this; exact this) (OwnI.own : World.ownsRow w17 _ _ _ (.slice x2.A _ _) _ _) (.inl (by show blkA x2.A = _; rw [hx2A]))
             ·rw [← hyv, hfen]
              show (⟨x2.v.lead, x2.v.epoch, E.vs[k].v.ver + 1, x2.v.isr⟩ : View) = _
              rw [hx2v, hzv]
            refine xl_nil ?_
            have hF2 : FenceI mc VA vc i D.pure w (k + 1) w17 := by
             first
              | exact hFin
              | (have q1 : ¬ E.vs[k].v.lead = (i : Int) := by simpa using g59
                 have q2 : ¬ (E.vs[k].v.leaves i = true) := by
                  rw [hlv]
                  first
                   | (have q : ¬ 0 ≤ idx (isX (i : Int)) E.vs[k].v.isr := by simpa using g49
                      rw [decide_eq_false q]; simp; done)
                   | (rw [decide_eq_false (by omega : ¬ 1 < E.vs[k].v.isr.length)]; simp; done)
                 refine FenceI.step (x := E.vs[k]) hN hVA hvc hE hst hkP hkE (by simpa using hM.ext kpc) ?_ ?_ rfl
                 ·rw [← hyv, View.fenced, if_neg (fun e => e.elim q1 q2)]
                 ·rw [← hyv, View.stuck, decide_eq_false q1]
                  simp [q2])
            refine x_regionL ?_
            refine xl_v (v_add (by omega)) ?_
            refine xl_v v_move ?_
            refine xl_nil ?_
            refine ⟨_, ?_, rfl, k + 1, rfl, by omega, hF2, inferInstance, inferInstance, evc (by rw [hVA, hvc, hEl]), inferInstance, evc, lkc⟩
            omega
        ·
         refine xl_gs rfl EvO.eq ?_
         refine xl_gs rfl EvO.eq ?_
         refine xl_gs rfl EvO.eq ?_
         refine xl_gs rfl EvO.eq ?_
         refine xl_gs rfl EvO.eq ?_
         refine xl_gPk rfl EvO.eq ?_
         refine xl_Pk ?_
         refine xl_nil ?_
         refine x_condF ?_
         refine x_skip ?_
         refine x_seq ?_
         refine x_seq ?_
         have hns : E.vs[k].v.stuck i = false := by
          rw [hstk]
          have q1 : ¬ 2147483647 ≤ E.vs[k].v.ver := by simpa using g68
          rw [decide_eq_false (by omega : ¬ E.vs[k].v.ver = most), Bool.false_or]
          first
           | (have q : ¬ E.vs[k].v.lead = (i : Int) := by simpa using g70
              rw [decide_eq_false q]; rfl)
           | (rw [decide_eq_false (by omega : ¬ E.vs[k].v.epoch = most), Bool.and_false])
         have hep : E.vs[k].v.lead = i → E.vs[k].v.epoch < 2147483647 := fun q => by
          rw [hstk, decide_eq_true q, Bool.true_and, Bool.or_eq_false_iff] at hns
          have := of_decide_eq_false hns.2
          omega
         have hve : E.vs[k].v.ver < 2147483647 := by
          rw [hstk, Bool.or_eq_false_iff] at hns
          have := of_decide_eq_false hns.1
          omega
         obtain ⟨wP, hwP⟩ : ∃ x, x = w7 := ⟨_, rfl⟩
         have hMP : MetaAt wP mc E := by rw [hwP]; exact hM.ext kpc
         refine x_regionL ?_
         refine xl_v v_move ?_
         refine xl_nil ?_
         first | refine x_condP (fun c5 => ?_) (fun c5 => ?_) | refine x_condN (fun c5 => ?_) (fun c5 => ?_) | refine x_condE (fun c5 => ?_) (fun c5 => ?_)
         ·
          refine x_seq ?_
          refine x_regionL ?_
          refine xl_v v_move ?_
          refine xl_Nc ?_
          refine xl_Fa ?_
          refine xl_s (e_storeG0 (E.vs[k].up (-1) E.vs[k].v.epoch E.vs[k].v.ver) hkE rfl (by decide) rfl fun w18 ya hya hia hla hga l13 on13 => ?_)
          refine xl_nil ?_
          refine x_regionL ?_
          refine xl_v v_move ?_
          refine xl_Nc ?_
          refine xl_Fa ?_
          refine xl_v (v_congr (u := .int .i64 E.vs[k].v.epoch) (v_loadFf hia) (by rw [hga])) ?_
          refine xl_v (v_add (by have := hep c5; omega)) ?_
          refine xl_Nc ?_
          refine xl_Fa ?_
          refine xl_s (e_storeG (E.vs[k].up (-1) (E.vs[k].v.epoch + 1) E.vs[k].v.ver) hia hla (by decide) (by rw [hga]; rfl) fun w19 y1 hy1 hi1 hl1 hg1 l14 on14 => ?_)
          rw [hya, List.set_set] at hy1
          obtain ⟨z, hz⟩ : ∃ z : LV, z = E.vs[k].up (-1) (E.vs[k].v.epoch + 1) E.vs[k].v.ver := ⟨_, rfl⟩
          have hzv : z = E.vs[k].up (if E.vs[k].v.lead = i then -1 else E.vs[k].v.lead) (if E.vs[k].v.lead = i then E.vs[k].v.epoch + 1 else E.vs[k].v.epoch) E.vs[k].v.ver := by rw [if_pos c5, if_pos c5, hz]
          rw [← hz] at hg1 hy1
          refine xl_nil ?_
          refine x_seq ?_
          refine x_seq ?_
          refine x_regionL ?_
          refine xl_v v_move ?_
          refine xl_nil ?_
          first | refine x_condP (fun c6 => ?_) (fun c6 => ?_) | refine x_condN (fun c6 => ?_) (fun c6 => ?_) | refine x_condE (fun c6 => ?_) (fun c6 => ?_)
          ·
           have hat : 0 ≤ idx (isX (i : Int)) E.vs[k].v.isr := by simpa using g49
           obtain ⟨j, hj, hjl⟩ := hx2 hat
           obtain ⟨hfe, hjp⟩ := erase_isX hrise.1 hjl hj
           have hlvt : E.vs[k].v.leaves i = true := by rw [hlv, decide_eq_true hat, decide_eq_true (by omega : 1 < E.vs[k].v.isr.length)]; rfl
           obtain ⟨l, hl⟩ : ∃ l, l = E.vs[k].v.isr.filter (fun x => !decide (x = (i : Int))) := ⟨_, rfl⟩
           rw [← hl] at hfe
           have hll2 : l.length = E.vs[k].v.isr.length - 1 := by rw [← hfe, List.length_eraseIdx, if_pos hjl]
           refine x_regionL ?_
           refine xl_v v_move ?_
           refine xl_v v_move ?_
           refine xl_Nc ?_
           refine xl_Fa ?_
           refine xl_v (v_congr (u := .slice E.vs[k].A E.vs[k].v.isr.length E.vs[k].c) (v_loadFf hi1) (by rw [hg1, hzv])) ?_
           refine xl_v v_move ?_
           refine xl_v v_move ?_
           refine xl_v (v_add (by omega)) ?_
           rw [hj]
           refine xl_call (delete_ok 0 E.vs[k].A E.vs[k].c E.vs[k].v.isr.length j E.vs[k].v.isr w19 OwnI.own rfl hjl) ?_
           rintro _ w20 ⟨rfl, hown, lk8⟩
           rw [hfe] at hown
           haveI hPn : OwnI w20 E.vs[k].A _ _ _ _ _ _ _ := ⟨hown⟩
           refine xl_Nc ?_
           refine xl_Fa ?_
           refine xl_s (e_storeG ⟨⟨z.v.lead, z.v.epoch, z.v.ver, l⟩, E.vs[k].A, E.vs[k].c⟩ hi1 hl1 (by decide) (by rw [hg1, hzv]; simp [setL, viewC, hll2]) fun w21 y2 hy2 hi2 hl2 hg2 l15 on15 => ?_)
           rw [hy1, List.set_set] at hy2
           have hD6 : ∃ (x2 : LV) (y2 : List LV), y2 = E.vs.set k x2 ∧ x2.A = E.vs[k].A ∧ x2.v = ⟨z.v.lead, z.v.epoch, z.v.ver, if E.vs[k].v.leaves i then E.vs[k].v.isr.filter (fun x => !decide (x = (i : Int))) else E.vs[k].v.isr⟩ ∧ (w21).ownsRow 0 44 4 (.slice E.VA E.vs.length E.vc) E.vs.length (y2.flatMap viewC) ∧ (w21).ownsRow 0 3 1 (.slice x2.A x2.v.isr.length x2.c) x2.v.isr.length (ints x2.v.isr) :=
            ⟨_, y2, hy2, rfl, by rw [if_pos hlvt, hl], OwnI.own, by have := (OwnI.own : World.ownsRow w21 _ _ _ (.slice E.vs[k].A _ E.vs[k].c) _ _); rw [← hll2] at this; exact this⟩
           refine xl_nil ?_
           have hD7 : ∃ (x2 : LV) (y2 : List LV), y2 = E.vs.set k x2 ∧ x2.A = E.vs[k].A ∧ x2.v = ⟨z.v.lead, z.v.epoch, z.v.ver, if E.vs[k].v.leaves i then E.vs[k].v.isr.filter (fun x => !decide (x = (i : Int))) else E.vs[k].v.isr⟩ ∧ (w21).ownsRow 0 44 4 (.slice E.VA E.vs.length E.vc) E.vs.length (y2.flatMap viewC) ∧ (w21).ownsRow 0 3 1 (.slice x2.A x2.v.isr.length x2.c) x2.v.isr.length (ints x2.v.isr) := by
            first
             | exact hD6
             | (have hlvf : ¬ (E.vs[k].v.leaves i = true) := by
                 rw [hlv]
                 first
                  | (have q : ¬ 0 ≤ idx (isX (i : Int)) E.vs[k].v.isr := by simpa using g49
                     rw [decide_eq_false q]; simp; done)
                  | (rw [decide_eq_false (by omega : ¬ 1 < E.vs[k].v.isr.length)]; simp; done)
                exact ⟨z, y1, hy1, by rw [hzv], by rw [if_neg hlvf, hzv], OwnI.own, by have := (OwnI.own : World.ownsRow w21 _ _ _ (.slice E.vs[k].A _ E.vs[k].c) _ _); rw [hzv]; exact this⟩)
           obtain ⟨x2, y3, hy3, hx2A, hx2v, hrow2, hown2⟩ := hD7
           have hi3 : k < y3.length := by rw [hy3]; simpa using hkE
           have hl3 : y3.length = E.vs.length := by rw [hy3]; simp
           have hg3 : y3[k] = x2 := by subst hy3; simp
           have hx2w : x2.v.ver = E.vs[k].v.ver := by rw [hx2v, hzv]
           haveI on3 : OwnI w21 E.VA _ _ _ _ _ _ (y3.flatMap viewC) := ⟨hrow2⟩
           haveI rn3 : Row w21 E.VA (y3.flatMap viewC) := row_ownI _ _ _ _ _ _ _ _ _
           haveI oi3 : OwnI w21 x2.A _ _ _ _ _ _ _ := ⟨hown2⟩
           haveI apx : ApA E.VA x2.A := by rw [hx2A]; exact apw
           refine x_regionL ?_
           refine xl_v v_move ?_
           refine xl_Nc ?_
           refine xl_Fa ?_
           refine xl_v (v_congr (u := .int .i64 E.vs[k].v.ver) (v_loadFf hi3) (by rw [hg3, hx2w])) ?_
           refine xl_v (v_add (by omega)) ?_
           refine xl_Nc ?_
           refine xl_Fa ?_
           refine xl_s (e_storeG (x2.up x2.v.lead x2.v.epoch (E.vs[k].v.ver + 1)) hi3 hl3 (by decide) (by rw [hg3]; rfl) fun w22 y4 hy4 hi4 hl4 hg4 l16 on16 => ?_)
           rw [hy3, List.set_set] at hy4
           have hFin : FenceI mc VA vc i D.pure w (k + 1) w22 := by
            refine FenceI.step (x := x2.up x2.v.lead x2.v.epoch (E.vs[k].v.ver + 1)) hN hVA hvc hE hst hkP hkE ?_ ?_ (by rw [← hyv]; exact hns) (by show blkA x2.A = _; rw [hx2A])
            ·exact hMP.setV hi' (x2.up x2.v.lead x2.v.epoch (E.vs[k].v.ver + 1)) (S := fun j => OwnB (.slice E.VA E.vs.length E.vc) j ∨ OwnB (.slice E.vs[k].A E.vs[k].v.isr.length E.vs[k].c) j) (by rw [hwP]; exact kpc) (fun k _ e => e.imp ownB_blk.1 ownB_blk.1) (by have := (OwnI.own : World.ownsRow w22 _ _ _ (.slice E.VA _ E.vc) _ _); rw [hy4] at this; exact this) (OwnI.own : World.ownsRow w22 _ _ _ (.slice x2.A _ _) _ _) (.inl (by show blkA x2.A = _; rw [hx2A]))
            ·rw [← hyv, hfen]
             show (⟨x2.v.lead, x2.v.epoch, E.vs[k].v.ver + 1, x2.v.isr⟩ : View) = _
             rw [hx2v, hzv]
           refine xl_nil ?_
           have hF2 : FenceI mc VA vc i D.pure w (k + 1) w22 := by
            first
             | exact hFin
             | (have q1 : ¬ E.vs[k].v.lead = (i : Int) := by simpa using g59
                have q2 : ¬ (E.vs[k].v.leaves i = true) := by
                 rw [hlv]
                 first
                  | (have q : ¬ 0 ≤ idx (isX (i : Int)) E.vs[k].v.isr := by simpa using g49
                     rw [decide_eq_false q]; simp; done)
                  | (rw [decide_eq_false (by omega : ¬ 1 < E.vs[k].v.isr.length)]; simp; done)
                refine FenceI.step (x := E.vs[k]) hN hVA hvc hE hst hkP hkE (by simpa using hM.ext kpc) ?_ ?_ rfl
                ·rw [← hyv, View.fenced, if_neg (fun e => e.elim q1 q2)]
                ·rw [← hyv, View.stuck, decide_eq_false q1]
                 simp [q2])
           refine x_regionL ?_
           refine xl_v (v_add (by omega)) ?_
           refine xl_v v_move ?_
           refine xl_nil ?_
           refine ⟨_, ?_, rfl, k + 1, rfl, by omega, hF2, inferInstance, inferInstance, evc (by rw [hVA, hvc, hEl]), inferInstance, evc, lkc⟩
           omega
          ·
           refine x_skip ?_
           have hD7 : ∃ (x2 : LV) (y2 : List LV), y2 = E.vs.set k x2 ∧ x2.A = E.vs[k].A ∧ x2.v = ⟨z.v.lead, z.v.epoch, z.v.ver, if E.vs[k].v.leaves i then E.vs[k].v.isr.filter (fun x => !decide (x = (i : Int))) else E.vs[k].v.isr⟩ ∧ (w19).ownsRow 0 44 4 (.slice E.VA E.vs.length E.vc) E.vs.length (y2.flatMap viewC) ∧ (w19).ownsRow 0 3 1 (.slice x2.A x2.v.isr.length x2.c) x2.v.isr.length (ints x2.v.isr) := by
            first
             | exact hD6
             | (have hlvf : ¬ (E.vs[k].v.leaves i = true) := by
                 rw [hlv]
                 first
                  | (have q : ¬ 0 ≤ idx (isX (i : Int)) E.vs[k].v.isr := by simpa using g49
                     rw [decide_eq_false q]; simp; done)
                  | (rw [decide_eq_false (by omega : ¬ 1 < E.vs[k].v.isr.length)]; simp; done)
                exact ⟨z, y1, hy1, by rw [hzv], by rw [if_neg hlvf, hzv], OwnI.own, by have := (OwnI.own : World.ownsRow w19 _ _ _ (.slice E.vs[k].A _ E.vs[k].c) _ _); rw [hzv]; exact this⟩)
           obtain ⟨x2, y3, hy3, hx2A, hx2v, hrow2, hown2⟩ := hD7
           have hi3 : k < y3.length := by rw [hy3]; simpa using hkE
           have hl3 : y3.length = E.vs.length := by rw [hy3]; simp
           have hg3 : y3[k] = x2 := by subst hy3; simp
           have hx2w : x2.v.ver = E.vs[k].v.ver := by rw [hx2v, hzv]
           haveI on3 : OwnI w19 E.VA _ _ _ _ _ _ (y3.flatMap viewC) := ⟨hrow2⟩
           haveI rn3 : Row w19 E.VA (y3.flatMap viewC) := row_ownI _ _ _ _ _ _ _ _ _
           haveI oi3 : OwnI w19 x2.A _ _ _ _ _ _ _ := ⟨hown2⟩
           haveI apx : ApA E.VA x2.A := by rw [hx2A]; exact apw
           refine x_regionL ?_
           refine xl_v v_move ?_
           refine xl_Nc ?_
           refine xl_Fa ?_
           refine xl_v (v_congr (u := .int .i64 E.vs[k].v.ver) (v_loadFf hi3) (by rw [hg3, hx2w])) ?_
           refine xl_v (v_add (by omega)) ?_
           refine xl_Nc ?_
           refine xl_Fa ?_
           refine xl_s (e_storeG (x2.up x2.v.lead x2.v.epoch (E.vs[k].v.ver + 1)) hi3 hl3 (by decide) (by rw [hg3]; rfl) fun w23 y4 hy4 hi4 hl4 hg4 l16 on16 => ?_)
           rw [hy3, List.set_set] at hy4
           have hFin : FenceI mc VA vc i D.pure w (k + 1) w23 := by
            refine FenceI.step (x := x2.up x2.v.lead x2.v.epoch (E.vs[k].v.ver + 1)) hN hVA hvc hE hst hkP hkE ?_ ?_ (by rw [← hyv]; exact hns) (by show blkA x2.A = _; rw [hx2A])
            ·exact hMP.setV hi' (x2.up x2.v.lead x2.v.epoch (E.vs[k].v.ver + 1)) (S := fun j => OwnB (.slice E.VA E.vs.length E.vc) j ∨ OwnB (.slice E.vs[k].A E.vs[k].v.isr.length E.vs[k].c) j) (by rw [hwP]; exact kpc) (fun k _ e => e.imp ownB_blk.1 ownB_blk.1) (by have := (OwnI.own : World.ownsRow w23 _ _ _ (.slice E.VA _ E.vc) _ _); rw [hy4] at this; exact this) (OwnI.own : World.ownsRow w23 _ _ _ (.slice x2.A _ _) _ _) (.inl (by show blkA x2.A = _; rw [hx2A]))
            ·rw [← hyv, hfen]
             show (⟨x2.v.lead, x2.v.epoch, E.vs[k].v.ver + 1, x2.v.isr⟩ : View) = _
             rw [hx2v, hzv]
           refine xl_nil ?_
           have hF2 : FenceI mc VA vc i D.pure w (k + 1) w23 := by
            first
             | exact hFin
             | (have q1 : ¬ E.vs[k].v.lead = (i : Int) := by simpa using g59
                have q2 : ¬ (E.vs[k].v.leaves i = true) := by
                 rw [hlv]
                 first
                  | (have q : ¬ 0 ≤ idx (isX (i : Int)) E.vs[k].v.isr := by simpa using g49
                     rw [decide_eq_false q]; simp; done)
                  | (rw [decide_eq_false (by omega : ¬ 1 < E.vs[k].v.isr.length)]; simp; done)
                refine FenceI.step (x := E.vs[k]) hN hVA hvc hE hst hkP hkE (by simpa using hM.ext kpc) ?_ ?_ rfl
                ·rw [← hyv, View.fenced, if_neg (fun e => e.elim q1 q2)]
                ·rw [← hyv, View.stuck, decide_eq_false q1]
                 simp [q2])
           refine x_regionL ?_
           refine xl_v (v_add (by omega)) ?_
           refine xl_v v_move ?_
           refine xl_nil ?_
           refine ⟨_, ?_, rfl, k + 1, rfl, by omega, hF2, inferInstance, inferInstance, evc (by rw [hVA, hvc, hEl]), inferInstance, evc, lkc⟩
           omega
         ·
          obtain ⟨z, hz⟩ : ∃ z : LV, z = E.vs[k] := ⟨_, rfl⟩
          have hzv : z = E.vs[k].up (if E.vs[k].v.lead = i then -1 else E.vs[k].v.lead) (if E.vs[k].v.lead = i then E.vs[k].v.epoch + 1 else E.vs[k].v.epoch) E.vs[k].v.ver := by rw [if_neg c5, if_neg c5, hz]
          obtain ⟨y1, hy10⟩ : ∃ ys : List LV, ys = E.vs := ⟨_, rfl⟩
          have hi1 : k < y1.length := by rw [hy10]; exact hkE
          have hl1 : y1.length = E.vs.length := by rw [hy10]
          have hg1 : y1[k] = z := by subst hy10; exact hz.symm
          have hy1 : y1 = E.vs.set k z := by rw [hy10, hz]; simp
          haveI on14 : OwnI w7 E.VA _ _ _ _ _ _ (y1.flatMap viewC) := by rw [hy10]; exact inferInstance
          haveI rn14 : Row w7 E.VA (y1.flatMap viewC) := by rw [hy10]; exact inferInstance
          refine x_skip ?_
          refine x_seq ?_
          refine x_seq ?_
          refine x_regionL ?_
          refine xl_v v_move ?_
          refine xl_nil ?_
          first | refine x_condP (fun c6 => ?_) (fun c6 => ?_) | refine x_condN (fun c6 => ?_) (fun c6 => ?_) | refine x_condE (fun c6 => ?_) (fun c6 => ?_)
          ·
           have hat : 0 ≤ idx (isX (i : Int)) E.vs[k].v.isr := by simpa using g49
           obtain ⟨j, hj, hjl⟩ := hx2 hat
           obtain ⟨hfe, hjp⟩ := erase_isX hrise.1 hjl hj
           have hlvt : E.vs[k].v.leaves i = true := by rw [hlv, decide_eq_true hat, decide_eq_true (by omega : 1 < E.vs[k].v.isr.length)]; rfl
           obtain ⟨l, hl⟩ : ∃ l, l = E.vs[k].v.isr.filter (fun x => !decide (x = (i : Int))) := ⟨_, rfl⟩
           rw [← hl] at hfe
           have hll2 : l.length = E.vs[k].v.isr.length - 1 := by rw [← hfe, List.length_eraseIdx, if_pos hjl]
           refine x_regionL ?_
           refine xl_v v_move ?_
           refine xl_v v_move ?_
           refine xl_Nc ?_
           refine xl_Fa ?_
           refine xl_v (v_congr (u := .slice E.vs[k].A E.vs[k].v.isr.length E.vs[k].c) (v_loadFf hi1) (by rw [hg1, hzv])) ?_
           refine xl_v v_move ?_
           refine xl_v v_move ?_
           refine xl_v (v_add (by omega)) ?_
           rw [hj]
           refine xl_call (delete_ok 0 E.vs[k].A E.vs[k].c E.vs[k].v.isr.length j E.vs[k].v.isr w7 OwnI.own rfl hjl) ?_
           rintro _ w24 ⟨rfl, hown, lk8⟩
           rw [hfe] at hown
           haveI hPn : OwnI w24 E.vs[k].A _ _ _ _ _ _ _ := ⟨hown⟩
           refine xl_Nc ?_
           refine xl_Fa ?_
           refine xl_s (e_storeG ⟨⟨z.v.lead, z.v.epoch, z.v.ver, l⟩, E.vs[k].A, E.vs[k].c⟩ hi1 hl1 (by decide) (by rw [hg1, hzv]; simp [setL, viewC, hll2]) fun w25 y2 hy2 hi2 hl2 hg2 l15 on15 => ?_)
           rw [hy1, List.set_set] at hy2
           have hD6 : ∃ (x2 : LV) (y2 : List LV), y2 = E.vs.set k x2 ∧ x2.A = E.vs[k].A ∧ x2.v = ⟨z.v.lead, z.v.epoch, z.v.ver, if E.vs[k].v.leaves i then E.vs[k].v.isr.filter (fun x => !decide (x = (i : Int))) else E.vs[k].v.isr⟩ ∧ (w25).ownsRow 0 44 4 (.slice E.VA E.vs.length E.vc) E.vs.length (y2.flatMap viewC) ∧ (w25).ownsRow 0 3 1 (.slice x2.A x2.v.isr.length x2.c) x2.v.isr.length (ints x2.v.isr) :=
            ⟨_, y2, hy2, rfl, by rw [if_pos hlvt, hl], OwnI.own, by have := (OwnI.own : World.ownsRow w25 _ _ _ (.slice E.vs[k].A _ E.vs[k].c) _ _); rw [← hll2] at this; exact this⟩
           refine xl_nil ?_
           have hD7 : ∃ (x2 : LV) (y2 : List LV), y2 = E.vs.set k x2 ∧ x2.A = E.vs[k].A ∧ x2.v = ⟨z.v.lead, z.v.epoch, z.v.ver, if E.vs[k].v.leaves i then E.vs[k].v.isr.filter (fun x => !decide (x = (i : Int))) else E.vs[k].v.isr⟩ ∧ (w25).ownsRow 0 44 4 (.slice E.VA E.vs.length E.vc) E.vs.length (y2.flatMap viewC) ∧ (w25).ownsRow 0 3 1 (.slice x2.A x2.v.isr.length x2.c) x2.v.isr.length (ints x2.v.isr) := by
            first
             | exact hD6
             | (have hlvf : ¬ (E.vs[k].v.leaves i = true) := by
                 rw [hlv]
                 first
                  | (have q : ¬ 0 ≤ idx (isX (i : Int)) E.vs[k].v.isr := by simpa using g49
                     rw [decide_eq_false q]; simp; done)
                  | (rw [decide_eq_false (by omega : ¬ 1 < E.vs[k].v.isr.length)]; simp; done)
                exact ⟨z, y1, hy1, by rw [hzv], by rw [if_neg hlvf, hzv], OwnI.own, by have := (OwnI.own : World.ownsRow w25 _ _ _ (.slice E.vs[k].A _ E.vs[k].c) _ _); rw [hzv]; exact this⟩)
           obtain ⟨x2, y3, hy3, hx2A, hx2v, hrow2, hown2⟩ := hD7
           have hi3 : k < y3.length := by rw [hy3]; simpa using hkE
           have hl3 : y3.length = E.vs.length := by rw [hy3]; simp
           have hg3 : y3[k] = x2 := by subst hy3; simp
           have hx2w : x2.v.ver = E.vs[k].v.ver := by rw [hx2v, hzv]
           haveI on3 : OwnI w25 E.VA _ _ _ _ _ _ (y3.flatMap viewC) := ⟨hrow2⟩
           haveI rn3 : Row w25 E.VA (y3.flatMap viewC) := row_ownI _ _ _ _ _ _ _ _ _
           haveI oi3 : OwnI w25 x2.A _ _ _ _ _ _ _ := ⟨hown2⟩
           haveI apx : ApA E.VA x2.A := by rw [hx2A]; exact apw
           refine x_regionL ?_
           refine xl_v v_move ?_
           refine xl_Nc ?_
           refine xl_Fa ?_
           refine xl_v (v_congr (u := .int .i64 E.vs[k].v.ver) (v_loadFf hi3) (by rw [hg3, hx2w])) ?_
           refine xl_v (v_add (by omega)) ?_
           refine xl_Nc ?_
           refine xl_Fa ?_
           refine xl_s (e_storeG (x2.up x2.v.lead x2.v.epoch (E.vs[k].v.ver + 1)) hi3 hl3 (by decide) (by rw [hg3]; rfl) fun w26 y4 hy4 hi4 hl4 hg4 l16 on16 => ?_)
           rw [hy3, List.set_set] at hy4
           have hFin : FenceI mc VA vc i D.pure w (k + 1) w26 := by
            refine FenceI.step (x := x2.up x2.v.lead x2.v.epoch (E.vs[k].v.ver + 1)) hN hVA hvc hE hst hkP hkE ?_ ?_ (by rw [← hyv]; exact hns) (by show blkA x2.A = _; rw [hx2A])
            ·exact hMP.setV hi' (x2.up x2.v.lead x2.v.epoch (E.vs[k].v.ver + 1)) (S := fun j => OwnB (.slice E.VA E.vs.length E.vc) j ∨ OwnB (.slice E.vs[k].A E.vs[k].v.isr.length E.vs[k].c) j) (by rw [hwP]; exact kpc) (fun k _ e => e.imp ownB_blk.1 ownB_blk.1) (by have := (OwnI.own : World.ownsRow w26 _ _ _ (.slice E.VA _ E.vc) _ _); rw [hy4] at this; exact this) (OwnI.own : World.ownsRow w26 _ _ _ (.slice x2.A _ _) _ _) (.inl (by show blkA x2.A = _; rw [hx2A]))
            ·rw [← hyv, hfen]
             show (⟨x2.v.lead, x2.v.epoch, E.vs[k].v.ver + 1, x2.v.isr⟩ : View) = _
             rw [hx2v, hzv]
           refine xl_nil ?_
           have hF2 : FenceI mc VA vc i D.pure w (k + 1) w26 := by
            first
             | exact hFin
             | (have q1 : ¬ E.vs[k].v.lead = (i : Int) := by simpa using g59
                have q2 : ¬ (E.vs[k].v.leaves i = true) := by
                 rw [hlv]
                 first
                  | (have q : ¬ 0 ≤ idx (isX (i : Int)) E.vs[k].v.isr := by simpa using g49
                     rw [decide_eq_false q]; simp; done)
                  | (rw [decide_eq_false (by omega : ¬ 1 < E.vs[k].v.isr.length)]; simp; done)
                refine FenceI.step (x := E.vs[k]) hN hVA hvc hE hst hkP hkE (by simpa using hM.ext kpc) ?_ ?_ rfl
                ·rw [← hyv, View.fenced, if_neg (fun e => e.elim q1 q2)]
                ·rw [← hyv, View.stuck, decide_eq_false q1]
                 simp [q2])
           refine x_regionL ?_
           refine xl_v (v_add (by omega)) ?_
           refine xl_v v_move ?_
           refine xl_nil ?_
           refine ⟨_, ?_, rfl, k + 1, rfl, by omega, hF2, inferInstance, inferInstance, evc (by rw [hVA, hvc, hEl]), inferInstance, evc, lkc⟩
           omega
          ·
           refine x_skip ?_
           have hD7 : ∃ (x2 : LV) (y2 : List LV), y2 = E.vs.set k x2 ∧ x2.A = E.vs[k].A ∧ x2.v = ⟨z.v.lead, z.v.epoch, z.v.ver, if E.vs[k].v.leaves i then E.vs[k].v.isr.filter (fun x => !decide (x = (i : Int))) else E.vs[k].v.isr⟩ ∧ (w7).ownsRow 0 44 4 (.slice E.VA E.vs.length E.vc) E.vs.length (y2.flatMap viewC) ∧ (w7).ownsRow 0 3 1 (.slice x2.A x2.v.isr.length x2.c) x2.v.isr.length (ints x2.v.isr) := by
            first
             | exact hD6
             | (have hlvf : ¬ (E.vs[k].v.leaves i = true) := by
                 rw [hlv]
                 first
                  | (have q : ¬ 0 ≤ idx (isX (i : Int)) E.vs[k].v.isr := by simpa using g49
                     rw [decide_eq_false q]; simp; done)
                  | (rw [decide_eq_false (by omega : ¬ 1 < E.vs[k].v.isr.length)]; simp; done)
                exact ⟨z, y1, hy1, by rw [hzv], by rw [if_neg hlvf, hzv], OwnI.own, by have := (OwnI.own : World.ownsRow w7 _ _ _ (.slice E.vs[k].A _ E.vs[k].c) _ _); rw [hzv]; exact this⟩)
           obtain ⟨x2, y3, hy3, hx2A, hx2v, hrow2, hown2⟩ := hD7
           have hi3 : k < y3.length := by rw [hy3]; simpa using hkE
           have hl3 : y3.length = E.vs.length := by rw [hy3]; simp
           have hg3 : y3[k] = x2 := by subst hy3; simp
           have hx2w : x2.v.ver = E.vs[k].v.ver := by rw [hx2v, hzv]
           haveI on3 : OwnI w7 E.VA _ _ _ _ _ _ (y3.flatMap viewC) := ⟨hrow2⟩
           haveI rn3 : Row w7 E.VA (y3.flatMap viewC) := row_ownI _ _ _ _ _ _ _ _ _
           haveI oi3 : OwnI w7 x2.A _ _ _ _ _ _ _ := ⟨hown2⟩
           haveI apx : ApA E.VA x2.A := by rw [hx2A]; exact apw
           refine x_regionL ?_
           refine xl_v v_move ?_
           refine xl_Nc ?_
           refine xl_Fa ?_
           refine xl_v (v_congr (u := .int .i64 E.vs[k].v.ver) (v_loadFf hi3) (by rw [hg3, hx2w])) ?_
           refine xl_v (v_add (by omega)) ?_
           refine xl_Nc ?_
           refine xl_Fa ?_
           refine xl_s (e_storeG (x2.up x2.v.lead x2.v.epoch (E.vs[k].v.ver + 1)) hi3 hl3 (by decide) (by rw [hg3]; rfl) fun w27 y4 hy4 hi4 hl4 hg4 l16 on16 => ?_)
           rw [hy3, List.set_set] at hy4
           have hFin : FenceI mc VA vc i D.pure w (k + 1) w27 := by
            refine FenceI.step (x := x2.up x2.v.lead x2.v.epoch (E.vs[k].v.ver + 1)) hN hVA hvc hE hst hkP hkE ?_ ?_ (by rw [← hyv]; exact hns) (by show blkA x2.A = _; rw [hx2A])
            ·exact hMP.setV hi' (x2.up x2.v.lead x2.v.epoch (E.vs[k].v.ver + 1)) (S := fun j => OwnB (.slice E.VA E.vs.length E.vc) j ∨ OwnB (.slice E.vs[k].A E.vs[k].v.isr.length E.vs[k].c) j) (by rw [hwP]; exact kpc) (fun k _ e => e.imp ownB_blk.1 ownB_blk.1) (by have := (OwnI.own : World.ownsRow w27 _ _ _ (.slice E.VA _ E.vc) _ _); rw [hy4] at this; exact this) (OwnI.own : World.ownsRow w27 _ _ _ (.slice x2.A _ _) _ _) (.inl (by show blkA x2.A = _; rw [hx2A]))
            ·rw [← hyv, hfen]
             show (⟨x2.v.lead, x2.v.epoch, E.vs[k].v.ver + 1, x2.v.isr⟩ : View) = _
             rw [hx2v, hzv]
           refine xl_nil ?_
           have hF2 : FenceI mc VA vc i D.pure w (k + 1) w27 := by
            first
             | exact hFin
             | (have q1 : ¬ E.vs[k].v.lead = (i : Int) := by simpa using g59
                have q2 : ¬ (E.vs[k].v.leaves i = true) := by
                 rw [hlv]
                 first
                  | (have q : ¬ 0 ≤ idx (isX (i : Int)) E.vs[k].v.isr := by simpa using g49
                     rw [decide_eq_false q]; simp; done)
                  | (rw [decide_eq_false (by omega : ¬ 1 < E.vs[k].v.isr.length)]; simp; done)
                refine FenceI.step (x := E.vs[k]) hN hVA hvc hE hst hkP hkE (by simpa using hM.ext kpc) ?_ ?_ rfl
                ·rw [← hyv, View.fenced, if_neg (fun e => e.elim q1 q2)]
                ·rw [← hyv, View.stuck, decide_eq_false q1]
                 simp [q2])
           refine x_regionL ?_
           refine xl_v (v_add (by omega)) ?_
           refine xl_v v_move ?_
           refine xl_nil ?_
           refine ⟨_, ?_, rfl, k + 1, rfl, by omega, hF2, inferInstance, inferInstance, evc (by rw [hVA, hvc, hEl]), inferInstance, evc, lkc⟩
           omega
     ·
      refine xl_gs rfl EvO.eq ?_
      refine xl_gs rfl EvO.eq ?_
      refine xl_Pk ?_
      refine xl_nil ?_
      refine x_condF ?_
      refine x_skip ?_
      refine x_seq ?_
      refine x_seq ?_
      have hNS : E.vs[k].v.lead = i ∨ E.vs[k].v.leaves i = true := by
       rw [hlv]
       first
        | (have q : E.vs[k].v.lead = (i : Int) := by simpa using g59
           exact .inl q)
        | (have q : 0 ≤ idx (isX (i : Int)) E.vs[k].v.isr := by simpa using g49
           exact .inr (by rw [decide_eq_true q, decide_eq_true (by omega : 1 < E.vs[k].v.isr.length)]; rfl))
      have hdn : (decide (E.vs[k].v.lead = i) || E.vs[k].v.leaves i) = true := by
       rcases hNS with q | q
       ·rw [decide_eq_true q]; rfl
       ·rw [q, Bool.or_true]
      have hstk : E.vs[k].v.stuck i = (decide (E.vs[k].v.ver = most) || decide (E.vs[k].v.lead = i) && decide (E.vs[k].v.epoch = most)) := by
       rw [View.stuck, hdn, Bool.true_and]
      have hfen : E.vs[k].v.fenced i = ⟨if E.vs[k].v.lead = i then -1 else E.vs[k].v.lead, if E.vs[k].v.lead = i then E.vs[k].v.epoch + 1 else E.vs[k].v.epoch, E.vs[k].v.ver + 1, if E.vs[k].v.leaves i then E.vs[k].v.isr.filter (fun x => !decide (x = (i : Int))) else E.vs[k].v.isr⟩ := by
       rw [View.fenced, if_pos hNS]
      refine x_regionL ?_
      refine xl_v v_move ?_
      refine xl_Nc ?_
      refine xl_Fa ?_
      refine xl_Ld ?_
      refine xl_v v_geq ?_
      refine xl_v v_move ?_
      refine xl_split 68 (fun g68 => ?_) (fun g68 => ?_)
      ·
       refine xl_gs rfl EvO.eq ?_
       refine xl_gs rfl EvO.eq ?_
       refine xl_gu rfl EvO.eq ?_
       refine xl_gu rfl EvO.eq ?_
       refine xl_gu rfl EvO.eq ?_
       refine xl_gu rfl EvO.eq ?_
       refine xl_gu rfl EvO.eq ?_
       refine xl_gs rfl EvO.eq ?_
       refine xl_Pk ?_
       refine xl_nil ?_
       refine x_condT ?_
       refine x_seq ?_
       refine x_regionL ?_
       refine xl_v v_assign ?_
       refine xl_nil ?_
       refine x_ret ?_
       refine fin1 rfl ?_
       have hS : E.vs[k].v.stuck i = true := by
        rw [hstk]
        first
         | (have q : 2147483647 ≤ E.vs[k].v.ver := by simpa using g68
            rw [decide_eq_true (by omega : E.vs[k].v.ver = most)]; rfl)
         | (have q : E.vs[k].v.lead = (i : Int) := by simpa using g70
            rw [decide_eq_true q, decide_eq_true (by omega : E.vs[k].v.epoch = most), Bool.and_true, Bool.or_true])
       have hany : D.pure.views.any (View.stuck (i : Int)) = true := List.any_eq_true.2 ⟨_, List.getElem_mem hkP, by rw [← hyv]; exact hS⟩
       rw [if_pos hany] at hr
       exact ⟨by rw [hr], Made.stay h kpc (by rw [hr]), lkc⟩
      ·
       refine xl_gv rfl EvO.eq v_move ?_
       refine xl_gv rfl EvO.eq v_move ?_
       refine xl_split 70 (fun g70 => ?_) (fun g70 => ?_)
       ·
        refine xl_gv rfl EvO.eq v_move ?_
        refine xl_gNc rfl EvO.eq ?_
        refine xl_gFa rfl EvO.eq ?_
        refine xl_gLd rfl EvO.eq ?_
        refine xl_gv rfl EvO.eq v_geq ?_
        refine xl_gPk rfl EvO.eq ?_
        refine xl_Pk ?_
        refine xl_nil ?_
        first | refine x_condP (fun c4 => ?_) (fun c4 => ?_) | refine x_condN (fun c4 => ?_) (fun c4 => ?_) | refine x_condE (fun c4 => ?_) (fun c4 => ?_)
        ·
         refine x_seq ?_
         refine x_regionL ?_
         refine xl_v v_assign ?_
         refine xl_nil ?_
         refine x_ret ?_
         refine fin1 rfl ?_
         have hS : E.vs[k].v.stuck i = true := by
          rw [hstk]
          first
           | (have q : 2147483647 ≤ E.vs[k].v.ver := by simpa using g68
              rw [decide_eq_true (by omega : E.vs[k].v.ver = most)]; rfl)
           | (have q : E.vs[k].v.lead = (i : Int) := by simpa using g70
              rw [decide_eq_true q, decide_eq_true (by omega : E.vs[k].v.epoch = most), Bool.and_true, Bool.or_true])
         have hany : D.pure.views.any (View.stuck (i : Int)) = true := List.any_eq_true.2 ⟨_, List.getElem_mem hkP, by rw [← hyv]; exact hS⟩
         rw [if_pos hany] at hr
         exact ⟨by rw [hr], Made.stay h kpc (by rw [hr]), lkc⟩
        ·
         refine x_skip ?_
         refine x_seq ?_
         refine x_seq ?_
         have hns : E.vs[k].v.stuck i = false := by
          rw [hstk]
          have q1 : ¬ 2147483647 ≤ E.vs[k].v.ver := by simpa using g68
          rw [decide_eq_false (by omega : ¬ E.vs[k].v.ver = most), Bool.false_or]
          first
           | (have q : ¬ E.vs[k].v.lead = (i : Int) := by simpa using g70
              rw [decide_eq_false q]; rfl)
           | (rw [decide_eq_false (by omega : ¬ E.vs[k].v.epoch = most), Bool.and_false])
         have hep : E.vs[k].v.lead = i → E.vs[k].v.epoch < 2147483647 := fun q => by
          rw [hstk, decide_eq_true q, Bool.true_and, Bool.or_eq_false_iff] at hns
          have := of_decide_eq_false hns.2
          omega
         have hve : E.vs[k].v.ver < 2147483647 := by
          rw [hstk, Bool.or_eq_false_iff] at hns
          have := of_decide_eq_false hns.1
          omega
         obtain ⟨wP, hwP⟩ : ∃ x, x = w7 := ⟨_, rfl⟩
         have hMP : MetaAt wP mc E := by rw [hwP]; exact hM.ext kpc
         refine x_regionL ?_
         refine xl_v v_move ?_
         refine xl_nil ?_
         first | refine x_condP (fun c5 => ?_) (fun c5 => ?_) | refine x_condN (fun c5 => ?_) (fun c5 => ?_) | refine x_condE (fun c5 => ?_) (fun c5 => ?_)
         ·
          refine x_seq ?_
          refine x_regionL ?_
          refine xl_v v_move ?_
          refine xl_Nc ?_
          refine xl_Fa ?_
          refine xl_s (e_storeG0 (E.vs[k].up (-1) E.vs[k].v.epoch E.vs[k].v.ver) hkE rfl (by decide) rfl fun w28 ya hya hia hla hga l13 on13 => ?_)
          refine xl_nil ?_
          refine x_regionL ?_
          refine xl_v v_move ?_
          refine xl_Nc ?_
          refine xl_Fa ?_
          refine xl_v (v_congr (u := .int .i64 E.vs[k].v.epoch) (v_loadFf hia) (by rw [hga])) ?_
          refine xl_v (v_add (by have := hep c5; omega)) ?_
          refine xl_Nc ?_
          refine xl_Fa ?_
          refine xl_s (e_storeG (E.vs[k].up (-1) (E.vs[k].v.epoch + 1) E.vs[k].v.ver) hia hla (by decide) (by rw [hga]; rfl) fun w29 y1 hy1 hi1 hl1 hg1 l14 on14 => ?_)
          rw [hya, List.set_set] at hy1
          obtain ⟨z, hz⟩ : ∃ z : LV, z = E.vs[k].up (-1) (E.vs[k].v.epoch + 1) E.vs[k].v.ver := ⟨_, rfl⟩
          have hzv : z = E.vs[k].up (if E.vs[k].v.lead = i then -1 else E.vs[k].v.lead) (if E.vs[k].v.lead = i then E.vs[k].v.epoch + 1 else E.vs[k].v.epoch) E.vs[k].v.ver := by rw [if_pos c5, if_pos c5, hz]
          rw [← hz] at hg1 hy1
          refine xl_nil ?_
          refine x_seq ?_
          refine x_seq ?_
          refine x_regionL ?_
          refine xl_v v_move ?_
          refine xl_nil ?_
          first | refine x_condP (fun c6 => ?_) (fun c6 => ?_) | refine x_condN (fun c6 => ?_) (fun c6 => ?_) | refine x_condE (fun c6 => ?_) (fun c6 => ?_)
          ·
           have hat : 0 ≤ idx (isX (i : Int)) E.vs[k].v.isr := by simpa using g49
           obtain ⟨j, hj, hjl⟩ := hx2 hat
           obtain ⟨hfe, hjp⟩ := erase_isX hrise.1 hjl hj
           have hlvt : E.vs[k].v.leaves i = true := by rw [hlv, decide_eq_true hat, decide_eq_true (by omega : 1 < E.vs[k].v.isr.length)]; rfl
           obtain ⟨l, hl⟩ : ∃ l, l = E.vs[k].v.isr.filter (fun x => !decide (x = (i : Int))) := ⟨_, rfl⟩
           rw [← hl] at hfe
           have hll2 : l.length = E.vs[k].v.isr.length - 1 := by rw [← hfe, List.length_eraseIdx, if_pos hjl]
           refine x_regionL ?_
           refine xl_v v_move ?_
           refine xl_v v_move ?_
           refine xl_Nc ?_
           refine xl_Fa ?_
           refine xl_v (v_congr (u := .slice E.vs[k].A E.vs[k].v.isr.length E.vs[k].c) (v_loadFf hi1) (by rw [hg1, hzv])) ?_
           refine xl_v v_move ?_
           refine xl_v v_move ?_
           refine xl_v (v_add (by omega)) ?_
           rw [hj]
           refine xl_call (delete_ok 0 E.vs[k].A E.vs[k].c E.vs[k].v.isr.length j E.vs[k].v.isr w29 OwnI.own rfl hjl) ?_
           rintro _ w30 ⟨rfl, hown, lk8⟩
           rw [hfe] at hown
           haveI hPn : OwnI w30 E.vs[k].A _ _ _ _ _ _ _ := ⟨hown⟩
           refine xl_Nc ?_
           refine xl_Fa ?_
           refine xl_s (e_storeG ⟨⟨z.v.lead, z.v.epoch, z.v.ver, l⟩, E.vs[k].A, E.vs[k].c⟩ hi1 hl1 (by decide) (by rw [hg1, hzv]; simp [setL, viewC, hll2]) fun w31 y2 hy2 hi2 hl2 hg2 l15 on15 => ?_)
           rw [hy1, List.set_set] at hy2
           have hD6 : ∃ (x2 : LV) (y2 : List LV), y2 = E.vs.set k x2 ∧ x2.A = E.vs[k].A ∧ x2.v = ⟨z.v.lead, z.v.epoch, z.v.ver, if E.vs[k].v.leaves i then E.vs[k].v.isr.filter (fun x => !decide (x = (i : Int))) else E.vs[k].v.isr⟩ ∧ (w31).ownsRow 0 44 4 (.slice E.VA E.vs.length E.vc) E.vs.length (y2.flatMap viewC) ∧ (w31).ownsRow 0 3 1 (.slice x2.A x2.v.isr.length x2.c) x2.v.isr.length (ints x2.v.isr) :=
            ⟨_, y2, hy2, rfl, by rw [if_pos hlvt, hl], OwnI.own, by have := (OwnI.own : World.ownsRow w31 _ _ _ (.slice E.vs[k].A _ E.vs[k].c) _ _); rw [← hll2] at this; exact this⟩
           refine xl_nil ?_
           have hD7 : ∃ (x2 : LV) (y2 : List LV), y2 = E.vs.set k x2 ∧ x2.A = E.vs[k].A ∧ x2.v = ⟨z.v.lead, z.v.epoch, z.v.ver, if E.vs[k].v.leaves i then E.vs[k].v.isr.filter (fun x => !decide (x = (i : Int))) else E.vs[k].v.isr⟩ ∧ (w31).ownsRow 0 44 4 (.slice E.VA E.vs.length E.vc) E.vs.length (y2.flatMap viewC) ∧ (w31).ownsRow 0 3 1 (.slice x2.A x2.v.isr.length x2.c) x2.v.isr.length (ints x2.v.isr) := by
            first
             | exact hD6
             | (have hlvf : ¬ (E.vs[k].v.leaves i = true) := by
                 rw [hlv]
                 first
                  | (have q : ¬ 0 ≤ idx (isX (i : Int)) E.vs[k].v.isr := by simpa using g49
                     rw [decide_eq_false q]; simp; done)
                  | (rw [decide_eq_false (by omega : ¬ 1 < E.vs[k].v.isr.length)]; simp; done)
                exact ⟨z, y1, hy1, by rw [hzv], by rw [if_neg hlvf, hzv], OwnI.own, by have := (OwnI.own : World.ownsRow w31 _ _ _ (.slice E.vs[k].A _ E.vs[k].c) _ _); rw [hzv]; exact this⟩)
           obtain ⟨x2, y3, hy3, hx2A, hx2v, hrow2, hown2⟩ := hD7
           have hi3 : k < y3.length := by rw [hy3]; simpa using hkE
           have hl3 : y3.length = E.vs.length := by rw [hy3]; simp
           have hg3 : y3[k] = x2 := by subst hy3; simp
           have hx2w : x2.v.ver = E.vs[k].v.ver := by rw [hx2v, hzv]
           haveI on3 : OwnI w31 E.VA _ _ _ _ _ _ (y3.flatMap viewC) := ⟨hrow2⟩
           haveI rn3 : Row w31 E.VA (y3.flatMap viewC) := row_ownI _ _ _ _ _ _ _ _ _
           haveI oi3 : OwnI w31 x2.A _ _ _ _ _ _ _ := ⟨hown2⟩
           haveI apx : ApA E.VA x2.A := by rw [hx2A]; exact apw
           refine x_regionL ?_
           refine xl_v v_move ?_
           refine xl_Nc ?_
           refine xl_Fa ?_
           refine xl_v (v_congr (u := .int .i64 E.vs[k].v.ver) (v_loadFf hi3) (by rw [hg3, hx2w])) ?_
           refine xl_v (v_add (by omega)) ?_
           refine xl_Nc ?_
           refine xl_Fa ?_
           refine xl_s (e_storeG (x2.up x2.v.lead x2.v.epoch (E.vs[k].v.ver + 1)) hi3 hl3 (by decide) (by rw [hg3]; rfl) fun w32 y4 hy4 hi4 hl4 hg4 l16 on16 => ?_)
           rw [hy3, List.set_set] at hy4
           have hFin : FenceI mc VA vc i D.pure w (k + 1) w32 := by
            refine FenceI.step (x := x2.up x2.v.lead x2.v.epoch (E.vs[k].v.ver + 1)) hN hVA hvc hE hst hkP hkE ?_ ?_ (by rw [← hyv]; exact hns) (by show blkA x2.A = _; rw [hx2A])
            ·exact hMP.setV hi' (x2.up x2.v.lead x2.v.epoch (E.vs[k].v.ver + 1)) (S := fun j => OwnB (.slice E.VA E.vs.length E.vc) j ∨ OwnB (.slice E.vs[k].A E.vs[k].v.isr.length E.vs[k].c) j) (by rw [hwP]; exact kpc) (fun k _ e => e.imp ownB_blk.1 ownB_blk.1) (by have := (OwnI.own : World.ownsRow w32 _ _ _ (.slice E.VA _ E.vc) _ _); rw [hy4] at this; exact this) (OwnI.own : World.ownsRow w32 _ _ _ (.slice x2.A _ _) _ _) (.inl (by show blkA x2.A = _; rw [hx2A]))
            ·rw [← hyv, hfen]
             show (⟨x2.v.lead, x2.v.epoch, E.vs[k].v.ver + 1, x2.v.isr⟩ : View) = _
             rw [hx2v, hzv]
           refine xl_nil ?_
           have hF2 : FenceI mc VA vc i D.pure w (k + 1) w32 := by
            first
             | exact hFin
             | (have q1 : ¬ E.vs[k].v.lead = (i : Int) := by simpa using g59
                have q2 : ¬ (E.vs[k].v.leaves i = true) := by
                 rw [hlv]
                 first
                  | (have q : ¬ 0 ≤ idx (isX (i : Int)) E.vs[k].v.isr := by simpa using g49
                     rw [decide_eq_false q]; simp; done)
                  | (rw [decide_eq_false (by omega : ¬ 1 < E.vs[k].v.isr.length)]; simp; done)
                refine FenceI.step (x := E.vs[k]) hN hVA hvc hE hst hkP hkE (by simpa using hM.ext kpc) ?_ ?_ rfl
                ·rw [← hyv, View.fenced, if_neg (fun e => e.elim q1 q2)]
                ·rw [← hyv, View.stuck, decide_eq_false q1]
                 simp [q2])
           refine x_regionL ?_
           refine xl_v (v_add (by omega)) ?_
           refine xl_v v_move ?_
           refine xl_nil ?_
           refine ⟨_, ?_, rfl, k + 1, rfl, by omega, hF2, inferInstance, inferInstance, evc (by rw [hVA, hvc, hEl]), inferInstance, evc, lkc⟩
           omega
          ·
           refine x_skip ?_
           have hD7 : ∃ (x2 : LV) (y2 : List LV), y2 = E.vs.set k x2 ∧ x2.A = E.vs[k].A ∧ x2.v = ⟨z.v.lead, z.v.epoch, z.v.ver, if E.vs[k].v.leaves i then E.vs[k].v.isr.filter (fun x => !decide (x = (i : Int))) else E.vs[k].v.isr⟩ ∧ (w29).ownsRow 0 44 4 (.slice E.VA E.vs.length E.vc) E.vs.length (y2.flatMap viewC) ∧ (w29).ownsRow 0 3 1 (.slice x2.A x2.v.isr.length x2.c) x2.v.isr.length (ints x2.v.isr) := by
            first
             | exact hD6
             | (have hlvf : ¬ (E.vs[k].v.leaves i = true) := by
                 rw [hlv]
                 first
                  | (have q : ¬ 0 ≤ idx (isX (i : Int)) E.vs[k].v.isr := by simpa using g49
                     rw [decide_eq_false q]; simp; done)
                  | (rw [decide_eq_false (by omega : ¬ 1 < E.vs[k].v.isr.length)]; simp; done)
                exact ⟨z, y1, hy1, by rw [hzv], by rw [if_neg hlvf, hzv], OwnI.own, by have := (OwnI.own : World.ownsRow w29 _ _ _ (.slice E.vs[k].A _ E.vs[k].c) _ _); rw [hzv]; exact this⟩)
           obtain ⟨x2, y3, hy3, hx2A, hx2v, hrow2, hown2⟩ := hD7
           have hi3 : k < y3.length := by rw [hy3]; simpa using hkE
           have hl3 : y3.length = E.vs.length := by rw [hy3]; simp
           have hg3 : y3[k] = x2 := by subst hy3; simp
           have hx2w : x2.v.ver = E.vs[k].v.ver := by rw [hx2v, hzv]
           haveI on3 : OwnI w29 E.VA _ _ _ _ _ _ (y3.flatMap viewC) := ⟨hrow2⟩
           haveI rn3 : Row w29 E.VA (y3.flatMap viewC) := row_ownI _ _ _ _ _ _ _ _ _
           haveI oi3 : OwnI w29 x2.A _ _ _ _ _ _ _ := ⟨hown2⟩
           haveI apx : ApA E.VA x2.A := by rw [hx2A]; exact apw
           refine x_regionL ?_
           refine xl_v v_move ?_
           refine xl_Nc ?_
           refine xl_Fa ?_
           refine xl_v (v_congr (u := .int .i64 E.vs[k].v.ver) (v_loadFf hi3) (by rw [hg3, hx2w])) ?_
           refine xl_v (v_add (by omega)) ?_
           refine xl_Nc ?_
           refine xl_Fa ?_
           refine xl_s (e_storeG (x2.up x2.v.lead x2.v.epoch (E.vs[k].v.ver + 1)) hi3 hl3 (by decide) (by rw [hg3]; rfl) fun w33 y4 hy4 hi4 hl4 hg4 l16 on16 => ?_)
           rw [hy3, List.set_set] at hy4
           have hFin : FenceI mc VA vc i D.pure w (k + 1) w33 := by
            refine FenceI.step (x := x2.up x2.v.lead x2.v.epoch (E.vs[k].v.ver + 1)) hN hVA hvc hE hst hkP hkE ?_ ?_ (by rw [← hyv]; exact hns) (by show blkA x2.A = _; rw [hx2A])
            ·exact hMP.setV hi' (x2.up x2.v.lead x2.v.epoch (E.vs[k].v.ver + 1)) (S := fun j => OwnB (.slice E.VA E.vs.length E.vc) j ∨ OwnB (.slice E.vs[k].A E.vs[k].v.isr.length E.vs[k].c) j) (by rw [hwP]; exact kpc) (fun k _ e => e.imp ownB_blk.1 ownB_blk.1) (by have := (OwnI.own : World.ownsRow w33 _ _ _ (.slice E.VA _ E.vc) _ _); rw [hy4] at this; exact this) (OwnI.own : World.ownsRow w33 _ _ _ (.slice x2.A _ _) _ _) (.inl (by show blkA x2.A = _; rw [hx2A]))
            ·rw [← hyv, hfen]
             show (⟨x2.v.lead, x2.v.epoch, E.vs[k].v.ver + 1, x2.v.isr⟩ : View) = _
             rw [hx2v, hzv]
           refine xl_nil ?_
           have hF2 : FenceI mc VA vc i D.pure w (k + 1) w33 := by
            first
             | exact hFin
             | (have q1 : ¬ E.vs[k].v.lead = (i : Int) := by simpa using g59
                have q2 : ¬ (E.vs[k].v.leaves i = true) := by
                 rw [hlv]
                 first
                  | (have q : ¬ 0 ≤ idx (isX (i : Int)) E.vs[k].v.isr := by simpa using g49
                     rw [decide_eq_false q]; simp; done)
                  | (rw [decide_eq_false (by omega : ¬ 1 < E.vs[k].v.isr.length)]; simp; done)
                refine FenceI.step (x := E.vs[k]) hN hVA hvc hE hst hkP hkE (by simpa using hM.ext kpc) ?_ ?_ rfl
                ·rw [← hyv, View.fenced, if_neg (fun e => e.elim q1 q2)]
                ·rw [← hyv, View.stuck, decide_eq_false q1]
                 simp [q2])
           refine x_regionL ?_
           refine xl_v (v_add (by omega)) ?_
           refine xl_v v_move ?_
           refine xl_nil ?_
           refine ⟨_, ?_, rfl, k + 1, rfl, by omega, hF2, inferInstance, inferInstance, evc (by rw [hVA, hvc, hEl]), inferInstance, evc, lkc⟩
           omega
         ·
          obtain ⟨z, hz⟩ : ∃ z : LV, z = E.vs[k] := ⟨_, rfl⟩
          have hzv : z = E.vs[k].up (if E.vs[k].v.lead = i then -1 else E.vs[k].v.lead) (if E.vs[k].v.lead = i then E.vs[k].v.epoch + 1 else E.vs[k].v.epoch) E.vs[k].v.ver := by rw [if_neg c5, if_neg c5, hz]
          obtain ⟨y1, hy10⟩ : ∃ ys : List LV, ys = E.vs := ⟨_, rfl⟩
          have hi1 : k < y1.length := by rw [hy10]; exact hkE
          have hl1 : y1.length = E.vs.length := by rw [hy10]
          have hg1 : y1[k] = z := by subst hy10; exact hz.symm
          have hy1 : y1 = E.vs.set k z := by rw [hy10, hz]; simp
          haveI on14 : OwnI w7 E.VA _ _ _ _ _ _ (y1.flatMap viewC) := by rw [hy10]; exact inferInstance
          haveI rn14 : Row w7 E.VA (y1.flatMap viewC) := by rw [hy10]; exact inferInstance
          refine x_skip ?_
          refine x_seq ?_
          refine x_seq ?_
          refine x_regionL ?_
          refine xl_v v_move ?_
          refine xl_nil ?_
          first | refine x_condP (fun c6 => ?_) (fun c6 => ?_) | refine x_condN (fun c6 => ?_) (fun c6 => ?_) | refine x_condE (fun c6 => ?_) (fun c6 => ?_)
          ·
           have hat : 0 ≤ idx (isX (i : Int)) E.vs[k].v.isr := by simpa using g49
           obtain ⟨j, hj, hjl⟩ := hx2 hat
           obtain ⟨hfe, hjp⟩ := erase_isX hrise.1 hjl hj
           have hlvt : E.vs[k].v.leaves i = true := by rw [hlv, decide_eq_true hat, decide_eq_true (by omega : 1 < E.vs[k].v.isr.length)]; rfl
           obtain ⟨l, hl⟩ : ∃ l, l = E.vs[k].v.isr.filter (fun x => !decide (x = (i : Int))) := ⟨_, rfl⟩
           rw [← hl] at hfe
           have hll2 : l.length = E.vs[k].v.isr.length - 1 := by rw [← hfe, List.length_eraseIdx, if_pos hjl]
           refine x_regionL ?_
           refine xl_v v_move ?_
           refine xl_v v_move ?_
           refine xl_Nc ?_
           refine xl_Fa ?_
           refine xl_v (v_congr (u := .slice E.vs[k].A E.vs[k].v.isr.length E.vs[k].c) (v_loadFf hi1) (by rw [hg1, hzv])) ?_
           refine xl_v v_move ?_
           refine xl_v v_move ?_
           refine xl_v (v_add (by omega)) ?_
           rw [hj]
           refine xl_call (delete_ok 0 E.vs[k].A E.vs[k].c E.vs[k].v.isr.length j E.vs[k].v.isr w7 OwnI.own rfl hjl) ?_
           rintro _ w34 ⟨rfl, hown, lk8⟩
           rw [hfe] at hown
           haveI hPn : OwnI w34 E.vs[k].A _ _ _ _ _ _ _ := ⟨hown⟩
           refine xl_Nc ?_
           refine xl_Fa ?_
           refine xl_s (e_storeG ⟨⟨z.v.lead, z.v.epoch, z.v.ver, l⟩, E.vs[k].A, E.vs[k].c⟩ hi1 hl1 (by decide) (by rw [hg1, hzv]; simp [setL, viewC, hll2]) fun w35 y2 hy2 hi2 hl2 hg2 l15 on15 => ?_)
           rw [hy1, List.set_set] at hy2
           have hD6 : ∃ (x2 : LV) (y2 : List LV), y2 = E.vs.set k x2 ∧ x2.A = E.vs[k].A ∧ x2.v = ⟨z.v.lead, z.v.epoch, z.v.ver, if E.vs[k].v.leaves i then E.vs[k].v.isr.filter (fun x => !decide (x = (i : Int))) else E.vs[k].v.isr⟩ ∧ (w35).ownsRow 0 44 4 (.slice E.VA E.vs.length E.vc) E.vs.length (y2.flatMap viewC) ∧ (w35).ownsRow 0 3 1 (.slice x2.A x2.v.isr.length x2.c) x2.v.isr.length (ints x2.v.isr) :=
            ⟨_, y2, hy2, rfl, by rw [if_pos hlvt, hl], OwnI.own, by have := (OwnI.own : World.ownsRow w35 _ _ _ (.slice E.vs[k].A _ E.vs[k].c) _ _); rw [← hll2] at this; exact this⟩
           refine xl_nil ?_
           have hD7 : ∃ (x2 : LV) (y2 : List LV), y2 = E.vs.set k x2 ∧ x2.A = E.vs[k].A ∧ x2.v = ⟨z.v.lead, z.v.epoch, z.v.ver, if E.vs[k].v.leaves i then E.vs[k].v.isr.filter (fun x => !decide (x = (i : Int))) else E.vs[k].v.isr⟩ ∧ (w35).ownsRow 0 44 4 (.slice E.VA E.vs.length E.vc) E.vs.length (y2.flatMap viewC) ∧ (w35).ownsRow 0 3 1 (.slice x2.A x2.v.isr.length x2.c) x2.v.isr.length (ints x2.v.isr) := by
            first
             | exact hD6
             | (have hlvf : ¬ (E.vs[k].v.leaves i = true) := by
                 rw [hlv]
                 first
                  | (have q : ¬ 0 ≤ idx (isX (i : Int)) E.vs[k].v.isr := by simpa using g49
                     rw [decide_eq_false q]; simp; done)
                  | (rw [decide_eq_false (by omega : ¬ 1 < E.vs[k].v.isr.length)]; simp; done)
                exact ⟨z, y1, hy1, by rw [hzv], by rw [if_neg hlvf, hzv], OwnI.own, by have := (OwnI.own : World.ownsRow w35 _ _ _ (.slice E.vs[k].A _ E.vs[k].c) _ _); rw [hzv]; exact this⟩)
           obtain ⟨x2, y3, hy3, hx2A, hx2v, hrow2, hown2⟩ := hD7
           have hi3 : k < y3.length := by rw [hy3]; simpa using hkE
           have hl3 : y3.length = E.vs.length := by rw [hy3]; simp
           have hg3 : y3[k] = x2 := by subst hy3; simp
           have hx2w : x2.v.ver = E.vs[k].v.ver := by rw [hx2v, hzv]
           haveI on3 : OwnI w35 E.VA _ _ _ _ _ _ (y3.flatMap viewC) := ⟨hrow2⟩
           haveI rn3 : Row w35 E.VA (y3.flatMap viewC) := row_ownI _ _ _ _ _ _ _ _ _
           haveI oi3 : OwnI w35 x2.A _ _ _ _ _ _ _ := ⟨hown2⟩
           haveI apx : ApA E.VA x2.A := by rw [hx2A]; exact apw
           refine x_regionL ?_
           refine xl_v v_move ?_
           refine xl_Nc ?_
           refine xl_Fa ?_
           refine xl_v (v_congr (u := .int .i64 E.vs[k].v.ver) (v_loadFf hi3) (by rw [hg3, hx2w])) ?_
           refine xl_v (v_add (by omega)) ?_
           refine xl_Nc ?_
           refine xl_Fa ?_
           refine xl_s (e_storeG (x2.up x2.v.lead x2.v.epoch (E.vs[k].v.ver + 1)) hi3 hl3 (by decide) (by rw [hg3]; rfl) fun w36 y4 hy4 hi4 hl4 hg4 l16 on16 => ?_)
           rw [hy3, List.set_set] at hy4
           have hFin : FenceI mc VA vc i D.pure w (k + 1) w36 := by
            refine FenceI.step (x := x2.up x2.v.lead x2.v.epoch (E.vs[k].v.ver + 1)) hN hVA hvc hE hst hkP hkE ?_ ?_ (by rw [← hyv]; exact hns) (by show blkA x2.A = _; rw [hx2A])
            ·exact hMP.setV hi' (x2.up x2.v.lead x2.v.epoch (E.vs[k].v.ver + 1)) (S := fun j => OwnB (.slice E.VA E.vs.length E.vc) j ∨ OwnB (.slice E.vs[k].A E.vs[k].v.isr.length E.vs[k].c) j) (by rw [hwP]; exact kpc) (fun k _ e => e.imp ownB_blk.1 ownB_blk.1) (by have := (OwnI.own : World.ownsRow w36 _ _ _ (.slice E.VA _ E.vc) _ _); rw [hy4] at this; exact this) (OwnI.own : World.ownsRow w36 _ _ _ (.slice x2.A _ _) _ _) (.inl (by show blkA x2.A = _; rw [hx2A]))
            ·rw [← hyv, hfen]
             show (⟨x2.v.lead, x2.v.epoch, E.vs[k].v.ver + 1, x2.v.isr⟩ : View) = _
             rw [hx2v, hzv]
           refine xl_nil ?_
           have hF2 : FenceI mc VA vc i D.pure w (k + 1) w36 := by
            first
             | exact hFin
             | (have q1 : ¬ E.vs[k].v.lead = (i : Int) := by simpa using g59
                have q2 : ¬ (E.vs[k].v.leaves i = true) := by
                 rw [hlv]
                 first
                  | (have q : ¬ 0 ≤ idx (isX (i : Int)) E.vs[k].v.isr := by simpa using g49
                     rw [decide_eq_false q]; simp; done)
                  | (rw [decide_eq_false (by omega : ¬ 1 < E.vs[k].v.isr.length)]; simp; done)
                refine FenceI.step (x := E.vs[k]) hN hVA hvc hE hst hkP hkE (by simpa using hM.ext kpc) ?_ ?_ rfl
                ·rw [← hyv, View.fenced, if_neg (fun e => e.elim q1 q2)]
                ·rw [← hyv, View.stuck, decide_eq_false q1]
                 simp [q2])
           refine x_regionL ?_
           refine xl_v (v_add (by omega)) ?_
           refine xl_v v_move ?_
           refine xl_nil ?_
           refine ⟨_, ?_, rfl, k + 1, rfl, by omega, hF2, inferInstance, inferInstance, evc (by rw [hVA, hvc, hEl]), inferInstance, evc, lkc⟩
           omega
          ·
           refine x_skip ?_
           have hD7 : ∃ (x2 : LV) (y2 : List LV), y2 = E.vs.set k x2 ∧ x2.A = E.vs[k].A ∧ x2.v = ⟨z.v.lead, z.v.epoch, z.v.ver, if E.vs[k].v.leaves i then E.vs[k].v.isr.filter (fun x => !decide (x = (i : Int))) else E.vs[k].v.isr⟩ ∧ (w7).ownsRow 0 44 4 (.slice E.VA E.vs.length E.vc) E.vs.length (y2.flatMap viewC) ∧ (w7).ownsRow 0 3 1 (.slice x2.A x2.v.isr.length x2.c) x2.v.isr.length (ints x2.v.isr) := by
            first
             | exact hD6
             | (have hlvf : ¬ (E.vs[k].v.leaves i = true) := by
                 rw [hlv]
                 first
                  | (have q : ¬ 0 ≤ idx (isX (i : Int)) E.vs[k].v.isr := by simpa using g49
                     rw [decide_eq_false q]; simp; done)
                  | (rw [decide_eq_false (by omega : ¬ 1 < E.vs[k].v.isr.length)]; simp; done)
                exact ⟨z, y1, hy1, by rw [hzv], by rw [if_neg hlvf, hzv], OwnI.own, by have := (OwnI.own : World.ownsRow w7 _ _ _ (.slice E.vs[k].A _ E.vs[k].c) _ _); rw [hzv]; exact this⟩)
           obtain ⟨x2, y3, hy3, hx2A, hx2v, hrow2, hown2⟩ := hD7
           have hi3 : k < y3.length := by rw [hy3]; simpa using hkE
           have hl3 : y3.length = E.vs.length := by rw [hy3]; simp
           have hg3 : y3[k] = x2 := by subst hy3; simp
           have hx2w : x2.v.ver = E.vs[k].v.ver := by rw [hx2v, hzv]
           haveI on3 : OwnI w7 E.VA _ _ _ _ _ _ (y3.flatMap viewC) := ⟨hrow2⟩
           haveI rn3 : Row w7 E.VA (y3.flatMap viewC) := row_ownI _ _ _ _ _ _ _ _ _
           haveI oi3 : OwnI w7 x2.A _ _ _ _ _ _ _ := ⟨hown2⟩
           haveI apx : ApA E.VA x2.A := by rw [hx2A]; exact apw
           refine x_regionL ?_
           refine xl_v v_move ?_
           refine xl_Nc ?_
           refine xl_Fa ?_
           refine xl_v (v_congr (u := .int .i64 E.vs[k].v.ver) (v_loadFf hi3) (by rw [hg3, hx2w])) ?_
           refine xl_v (v_add (by omega)) ?_
           refine xl_Nc ?_
           refine xl_Fa ?_
           refine xl_s (e_storeG (x2.up x2.v.lead x2.v.epoch (E.vs[k].v.ver + 1)) hi3 hl3 (by decide) (by rw [hg3]; rfl) fun w37 y4 hy4 hi4 hl4 hg4 l16 on16 => ?_)
           rw [hy3, List.set_set] at hy4
           have hFin : FenceI mc VA vc i D.pure w (k + 1) w37 := by
            refine FenceI.step (x := x2.up x2.v.lead x2.v.epoch (E.vs[k].v.ver + 1)) hN hVA hvc hE hst hkP hkE ?_ ?_ (by rw [← hyv]; exact hns) (by show blkA x2.A = _; rw [hx2A])
            ·exact hMP.setV hi' (x2.up x2.v.lead x2.v.epoch (E.vs[k].v.ver + 1)) (S := fun j => OwnB (.slice E.VA E.vs.length E.vc) j ∨ OwnB (.slice E.vs[k].A E.vs[k].v.isr.length E.vs[k].c) j) (by rw [hwP]; exact kpc) (fun k _ e => e.imp ownB_blk.1 ownB_blk.1) (by have := (OwnI.own : World.ownsRow w37 _ _ _ (.slice E.VA _ E.vc) _ _); rw [hy4] at this; exact this) (OwnI.own : World.ownsRow w37 _ _ _ (.slice x2.A _ _) _ _) (.inl (by show blkA x2.A = _; rw [hx2A]))
            ·rw [← hyv, hfen]
             show (⟨x2.v.lead, x2.v.epoch, E.vs[k].v.ver + 1, x2.v.isr⟩ : View) = _
             rw [hx2v, hzv]
           refine xl_nil ?_
           have hF2 : FenceI mc VA vc i D.pure w (k + 1) w37 := by
            first
             | exact hFin
             | (have q1 : ¬ E.vs[k].v.lead = (i : Int) := by simpa using g59
                have q2 : ¬ (E.vs[k].v.leaves i = true) := by
                 rw [hlv]
                 first
                  | (have q : ¬ 0 ≤ idx (isX (i : Int)) E.vs[k].v.isr := by simpa using g49
                     rw [decide_eq_false q]; simp; done)
                  | (rw [decide_eq_false (by omega : ¬ 1 < E.vs[k].v.isr.length)]; simp; done)
                refine FenceI.step (x := E.vs[k]) hN hVA hvc hE hst hkP hkE (by simpa using hM.ext kpc) ?_ ?_ rfl
                ·rw [← hyv, View.fenced, if_neg (fun e => e.elim q1 q2)]
                ·rw [← hyv, View.stuck, decide_eq_false q1]
                 simp [q2])
           refine x_regionL ?_
           refine xl_v (v_add (by omega)) ?_
           refine xl_v v_move ?_
           refine xl_nil ?_
           refine ⟨_, ?_, rfl, k + 1, rfl, by omega, hF2, inferInstance, inferInstance, evc (by rw [hVA, hvc, hEl]), inferInstance, evc, lkc⟩
           omega
       ·
        refine xl_gs rfl EvO.eq ?_
        refine xl_gs rfl EvO.eq ?_
        refine xl_gs rfl EvO.eq ?_
        refine xl_gs rfl EvO.eq ?_
        refine xl_gs rfl EvO.eq ?_
        refine xl_gPk rfl EvO.eq ?_
        refine xl_Pk ?_
        refine xl_nil ?_
        refine x_condF ?_
        refine x_skip ?_
        refine x_seq ?_
        refine x_seq ?_
        have hns : E.vs[k].v.stuck i = false := by
         rw [hstk]
         have q1 : ¬ 2147483647 ≤ E.vs[k].v.ver := by simpa using g68
         rw [decide_eq_false (by omega : ¬ E.vs[k].v.ver = most), Bool.false_or]
         first
          | (have q : ¬ E.vs[k].v.lead = (i : Int) := by simpa using g70
             rw [decide_eq_false q]; rfl)
          | (rw [decide_eq_false (by omega : ¬ E.vs[k].v.epoch = most), Bool.and_false])
        have hep : E.vs[k].v.lead = i → E.vs[k].v.epoch < 2147483647 := fun q => by
         rw [hstk, decide_eq_true q, Bool.true_and, Bool.or_eq_false_iff] at hns
         have := of_decide_eq_false hns.2
         omega
        have hve : E.vs[k].v.ver < 2147483647 := by
         rw [hstk, Bool.or_eq_false_iff] at hns
         have := of_decide_eq_false hns.1
         omega
        obtain ⟨wP, hwP⟩ : ∃ x, x = w7 := ⟨_, rfl⟩
        have hMP : MetaAt wP mc E := by rw [hwP]; exact hM.ext kpc
        refine x_regionL ?_
        refine xl_v v_move ?_
        refine xl_nil ?_
        first | refine x_condP (fun c5 => ?_) (fun c5 => ?_) | refine x_condN (fun c5 => ?_) (fun c5 => ?_) | refine x_condE (fun c5 => ?_) (fun c5 => ?_)
        ·
         refine x_seq ?_
         refine x_regionL ?_
         refine xl_v v_move ?_
         refine xl_Nc ?_
         refine xl_Fa ?_
         refine xl_s (e_storeG0 (E.vs[k].up (-1) E.vs[k].v.epoch E.vs[k].v.ver) hkE rfl (by decide) rfl fun w38 ya hya hia hla hga l13 on13 => ?_)
         refine xl_nil ?_
         refine x_regionL ?_
         refine xl_v v_move ?_
         refine xl_Nc ?_
         refine xl_Fa ?_
         refine xl_v (v_congr (u := .int .i64 E.vs[k].v.epoch) (v_loadFf hia) (by rw [hga])) ?_
         refine xl_v (v_add (by have := hep c5; omega)) ?_
         refine xl_Nc ?_
         refine xl_Fa ?_
         refine xl_s (e_storeG (E.vs[k].up (-1) (E.vs[k].v.epoch + 1) E.vs[k].v.ver) hia hla (by decide) (by rw [hga]; rfl) fun w39 y1 hy1 hi1 hl1 hg1 l14 on14 => ?_)
         rw [hya, List.set_set] at hy1
         obtain ⟨z, hz⟩ : ∃ z : LV, z = E.vs[k].up (-1) (E.vs[k].v.epoch + 1) E.vs[k].v.ver := ⟨_, rfl⟩
         have hzv : z = E.vs[k].up (if E.vs[k].v.lead = i then -1 else E.vs[k].v.lead) (if E.vs[k].v.lead = i then E.vs[k].v.epoch + 1 else E.vs[k].v.epoch) E.vs[k].v.ver := by rw [if_pos c5, if_pos c5, hz]
         rw [← hz] at hg1 hy1
         refine xl_nil ?_
         refine x_seq ?_
         refine x_seq ?_
         refine x_regionL ?_
         refine xl_v v_move ?_
         refine xl_nil ?_
         first | refine x_condP (fun c6 => ?_) (fun c6 => ?_) | refine x_condN (fun c6 => ?_) (fun c6 => ?_) | refine x_condE (fun c6 => ?_) (fun c6 => ?_)
         ·
          have hat : 0 ≤ idx (isX (i : Int)) E.vs[k].v.isr := by simpa using g49
          obtain ⟨j, hj, hjl⟩ := hx2 hat
          obtain ⟨hfe, hjp⟩ := erase_isX hrise.1 hjl hj
          have hlvt : E.vs[k].v.leaves i = true := by rw [hlv, decide_eq_true hat, decide_eq_true (by omega : 1 < E.vs[k].v.isr.length)]; rfl
          obtain ⟨l, hl⟩ : ∃ l, l = E.vs[k].v.isr.filter (fun x => !decide (x = (i : Int))) := ⟨_, rfl⟩
          rw [← hl] at hfe
          have hll2 : l.length = E.vs[k].v.isr.length - 1 := by rw [← hfe, List.length_eraseIdx, if_pos hjl]
          refine x_regionL ?_
          refine xl_v v_move ?_
          refine xl_v v_move ?_
          refine xl_Nc ?_
          refine xl_Fa ?_
          refine xl_v (v_congr (u := .slice E.vs[k].A E.vs[k].v.isr.length E.vs[k].c) (v_loadFf hi1) (by rw [hg1, hzv])) ?_
          refine xl_v v_move ?_
          refine xl_v v_move ?_
          refine xl_v (v_add (by omega)) ?_
          rw [hj]
          refine xl_call (delete_ok 0 E.vs[k].A E.vs[k].c E.vs[k].v.isr.length j E.vs[k].v.isr w39 OwnI.own rfl hjl) ?_
          rintro _ w40 ⟨rfl, hown, lk8⟩
          rw [hfe] at hown
          haveI hPn : OwnI w40 E.vs[k].A _ _ _ _ _ _ _ := ⟨hown⟩
          refine xl_Nc ?_
          refine xl_Fa ?_
          refine xl_s (e_storeG ⟨⟨z.v.lead, z.v.epoch, z.v.ver, l⟩, E.vs[k].A, E.vs[k].c⟩ hi1 hl1 (by decide) (by rw [hg1, hzv]; simp [setL, viewC, hll2]) fun w41 y2 hy2 hi2 hl2 hg2 l15 on15 => ?_)
          rw [hy1, List.set_set] at hy2
          have hD6 : ∃ (x2 : LV) (y2 : List LV), y2 = E.vs.set k x2 ∧ x2.A = E.vs[k].A ∧ x2.v = ⟨z.v.lead, z.v.epoch, z.v.ver, if E.vs[k].v.leaves i then E.vs[k].v.isr.filter (fun x => !decide (x = (i : Int))) else E.vs[k].v.isr⟩ ∧ (w41).ownsRow 0 44 4 (.slice E.VA E.vs.length E.vc) E.vs.length (y2.flatMap viewC) ∧ (w41).ownsRow 0 3 1 (.slice x2.A x2.v.isr.length x2.c) x2.v.isr.length (ints x2.v.isr) :=
           ⟨_, y2, hy2, rfl, by rw [if_pos hlvt, hl], OwnI.own, by have := (OwnI.own : World.ownsRow w41 _ _ _ (.slice E.vs[k].A _ E.vs[k].c) _ _); rw [← hll2] at this; exact this⟩
          refine xl_nil ?_
          have hD7 : ∃ (x2 : LV) (y2 : List LV), y2 = E.vs.set k x2 ∧ x2.A = E.vs[k].A ∧ x2.v = ⟨z.v.lead, z.v.epoch, z.v.ver, if E.vs[k].v.leaves i then E.vs[k].v.isr.filter (fun x => !decide (x = (i : Int))) else E.vs[k].v.isr⟩ ∧ (w41).ownsRow 0 44 4 (.slice E.VA E.vs.length E.vc) E.vs.length (y2.flatMap viewC) ∧ (w41).ownsRow 0 3 1 (.slice x2.A x2.v.isr.length x2.c) x2.v.isr.length (ints x2.v.isr) := by
           first
            | exact hD6
            | (have hlvf : ¬ (E.vs[k].v.leaves i = true) := by
                rw [hlv]
                first
                 | (have q : ¬ 0 ≤ idx (isX (i : Int)) E.vs[k].v.isr := by simpa using g49
                    rw [decide_eq_false q]; simp; done)
                 | (rw [decide_eq_false (by omega : ¬ 1 < E.vs[k].v.isr.length)]; simp; done)
               exact ⟨z, y1, hy1, by rw [hzv], by rw [if_neg hlvf, hzv], OwnI.own, by have := (OwnI.own : World.ownsRow w41 _ _ _ (.slice E.vs[k].A _ E.vs[k].c) _ _); rw [hzv]; exact this⟩)
          obtain ⟨x2, y3, hy3, hx2A, hx2v, hrow2, hown2⟩ := hD7
          have hi3 : k < y3.length := by rw [hy3]; simpa using hkE
          have hl3 : y3.length = E.vs.length := by rw [hy3]; simp
          have hg3 : y3[k] = x2 := by subst hy3; simp
          have hx2w : x2.v.ver = E.vs[k].v.ver := by rw [hx2v, hzv]
          haveI on3 : OwnI w41 E.VA _ _ _ _ _ _ (y3.flatMap viewC) := ⟨hrow2⟩
          haveI rn3 : Row w41 E.VA (y3.flatMap viewC) := row_ownI _ _ _ _ _ _ _ _ _
          haveI oi3 : OwnI w41 x2.A _ _ _ _ _ _ _ := ⟨hown2⟩
          haveI apx : ApA E.VA x2.A := by rw [hx2A]; exact apw
          refine x_regionL ?_
          refine xl_v v_move ?_
          refine xl_Nc ?_
          refine xl_Fa ?_
          refine xl_v (v_congr (u := .int .i64 E.vs[k].v.ver) (v_loadFf hi3) (by rw [hg3, hx2w])) ?_
          refine xl_v (v_add (by omega)) ?_
          refine xl_Nc ?_
          refine xl_Fa ?_
          refine xl_s (e_storeG (x2.up x2.v.lead x2.v.epoch (E.vs[k].v.ver + 1)) hi3 hl3 (by decide) (by rw [hg3]; rfl) fun w42 y4 hy4 hi4 hl4 hg4 l16 on16 => ?_)
          rw [hy3, List.set_set] at hy4
          have hFin : FenceI mc VA vc i D.pure w (k + 1) w42 := by
           refine FenceI.step (x := x2.up x2.v.lead x2.v.epoch (E.vs[k].v.ver + 1)) hN hVA hvc hE hst hkP hkE ?_ ?_ (by rw [← hyv]; exact hns) (by show blkA x2.A = _; rw [hx2A])
           ·exact hMP.setV hi' (x2.up x2.v.lead x2.v.epoch (E.vs[k].v.ver + 1)) (S := fun j => OwnB (.slice E.VA E.vs.length E.vc) j ∨ OwnB (.slice E.vs[k].A E.vs[k].v.isr.length E.vs[k].c) j) (by rw [hwP]; exact kpc) (fun k _ e => e.imp ownB_blk.1 ownB_blk.1) (by have := (OwnI.own : World.ownsRow w42 _ _ _ (.slice E.VA _ E.vc) _ _); rw [hy4] at this; exact this) (OwnI.own : World.ownsRow w42 _ _ _ (.slice x2.A _ _) _ _) (.inl (by show blkA x2.A = _; rw [hx2A]))
           ·rw [← hyv, hfen]
            show (⟨x2.v.lead, x2.v.epoch, E.vs[k].v.ver + 1, x2.v.isr⟩ : View) = _
            rw [hx2v, hzv]
          refine xl_nil ?_
          have hF2 : FenceI mc VA vc i D.pure w (k + 1) w42 := by
           first
            | exact hFin
            | (have q1 : ¬ E.vs[k].v.lead = (i : Int) := by simpa using g59
               have q2 : ¬ (E.vs[k].v.leaves i = true) := by
                rw [hlv]
                first
                 | (have q : ¬ 0 ≤ idx (isX (i : Int)) E.vs[k].v.isr := by simpa using g49
                    rw [decide_eq_false q]; simp; done)
                 | (rw [decide_eq_false (by omega : ¬ 1 < E.vs[k].v.isr.length)]; simp; done)
               refine FenceI.step (x := E.vs[k]) hN hVA hvc hE hst hkP hkE (by simpa using hM.ext kpc) ?_ ?_ rfl
               ·rw [← hyv, View.fenced, if_neg (fun e => e.elim q1 q2)]
               ·rw [← hyv, View.stuck, decide_eq_false q1]
                simp [q2])
          refine x_regionL ?_
          refine xl_v (v_add (by omega)) ?_
          refine xl_v v_move ?_
          refine xl_nil ?_
          refine ⟨_, ?_, rfl, k + 1, rfl, by omega, hF2, inferInstance, inferInstance, evc (by rw [hVA, hvc, hEl]), inferInstance, evc, lkc⟩
          omega
         ·
          refine x_skip ?_
          have hD7 : ∃ (x2 : LV) (y2 : List LV), y2 = E.vs.set k x2 ∧ x2.A = E.vs[k].A ∧ x2.v = ⟨z.v.lead, z.v.epoch, z.v.ver, if E.vs[k].v.leaves i then E.vs[k].v.isr.filter (fun x => !decide (x = (i : Int))) else E.vs[k].v.isr⟩ ∧ (w39).ownsRow 0 44 4 (.slice E.VA E.vs.length E.vc) E.vs.length (y2.flatMap viewC) ∧ (w39).ownsRow 0 3 1 (.slice x2.A x2.v.isr.length x2.c) x2.v.isr.length (ints x2.v.isr) := by
           first
            | exact hD6
            | (have hlvf : ¬ (E.vs[k].v.leaves i = true) := by
                rw [hlv]
                first
                 | (have q : ¬ 0 ≤ idx (isX (i : Int)) E.vs[k].v.isr := by simpa using g49
                    rw [decide_eq_false q]; simp; done)
                 | (rw [decide_eq_false (by omega : ¬ 1 < E.vs[k].v.isr.length)]; simp; done)
               exact ⟨z, y1, hy1, by rw [hzv], by rw [if_neg hlvf, hzv], OwnI.own, by have := (OwnI.own : World.ownsRow w39 _ _ _ (.slice E.vs[k].A _ E.vs[k].c) _ _); rw [hzv]; exact this⟩)
          obtain ⟨x2, y3, hy3, hx2A, hx2v, hrow2, hown2⟩ := hD7
          have hi3 : k < y3.length := by rw [hy3]; simpa using hkE
          have hl3 : y3.length = E.vs.length := by rw [hy3]; simp
          have hg3 : y3[k] = x2 := by subst hy3; simp
          have hx2w : x2.v.ver = E.vs[k].v.ver := by rw [hx2v, hzv]
          haveI on3 : OwnI w39 E.VA _ _ _ _ _ _ (y3.flatMap viewC) := ⟨hrow2⟩
          haveI rn3 : Row w39 E.VA (y3.flatMap viewC) := row_ownI _ _ _ _ _ _ _ _ _
          haveI oi3 : OwnI w39 x2.A _ _ _ _ _ _ _ := ⟨hown2⟩
          haveI apx : ApA E.VA x2.A := by rw [hx2A]; exact apw
          refine x_regionL ?_
          refine xl_v v_move ?_
          refine xl_Nc ?_
          refine xl_Fa ?_
          refine xl_v (v_congr (u := .int .i64 E.vs[k].v.ver) (v_loadFf hi3) (by rw [hg3, hx2w])) ?_
          refine xl_v (v_add (by omega)) ?_
          refine xl_Nc ?_
          refine xl_Fa ?_
          refine xl_s (e_storeG (x2.up x2.v.lead x2.v.epoch (E.vs[k].v.ver + 1)) hi3 hl3 (by decide) (by rw [hg3]; rfl) fun w43 y4 hy4 hi4 hl4 hg4 l16 on16 => ?_)
          rw [hy3, List.set_set] at hy4
          have hFin : FenceI mc VA vc i D.pure w (k + 1) w43 := by
           refine FenceI.step (x := x2.up x2.v.lead x2.v.epoch (E.vs[k].v.ver + 1)) hN hVA hvc hE hst hkP hkE ?_ ?_ (by rw [← hyv]; exact hns) (by show blkA x2.A = _; rw [hx2A])
           ·exact hMP.setV hi' (x2.up x2.v.lead x2.v.epoch (E.vs[k].v.ver + 1)) (S := fun j => OwnB (.slice E.VA E.vs.length E.vc) j ∨ OwnB (.slice E.vs[k].A E.vs[k].v.isr.length E.vs[k].c) j) (by rw [hwP]; exact kpc) (fun k _ e => e.imp ownB_blk.1 ownB_blk.1) (by have := (OwnI.own : World.ownsRow w43 _ _ _ (.slice E.VA _ E.vc) _ _); rw [hy4] at this; exact this) (OwnI.own : World.ownsRow w43 _ _ _ (.slice x2.A _ _) _ _) (.inl (by show blkA x2.A = _; rw [hx2A]))
           ·rw [← hyv, hfen]
            show (⟨x2.v.lead, x2.v.epoch, E.vs[k].v.ver + 1, x2.v.isr⟩ : View) = _
            rw [hx2v, hzv]
          refine xl_nil ?_
          have hF2 : FenceI mc VA vc i D.pure w (k + 1) w43 := by
           first
            | exact hFin
            | (have q1 : ¬ E.vs[k].v.lead = (i : Int) := by simpa using g59
               have q2 : ¬ (E.vs[k].v.leaves i = true) := by
                rw [hlv]
                first
                 | (have q : ¬ 0 ≤ idx (isX (i : Int)) E.vs[k].v.isr := by simpa using g49
                    rw [decide_eq_false q]; simp; done)
                 | (rw [decide_eq_false (by omega : ¬ 1 < E.vs[k].v.isr.length)]; simp; done)
               refine FenceI.step (x := E.vs[k]) hN hVA hvc hE hst hkP hkE (by simpa using hM.ext kpc) ?_ ?_ rfl
               ·rw [← hyv, View.fenced, if_neg (fun e => e.elim q1 q2)]
               ·rw [← hyv, View.stuck, decide_eq_false q1]
                simp [q2])
          refine x_regionL ?_
          refine xl_v (v_add (by omega)) ?_
          refine xl_v v_move ?_
          refine xl_nil ?_
          refine ⟨_, ?_, rfl, k + 1, rfl, by omega, hF2, inferInstance, inferInstance, evc (by rw [hVA, hvc, hEl]), inferInstance, evc, lkc⟩
          omega
        ·
         obtain ⟨z, hz⟩ : ∃ z : LV, z = E.vs[k] := ⟨_, rfl⟩
         have hzv : z = E.vs[k].up (if E.vs[k].v.lead = i then -1 else E.vs[k].v.lead) (if E.vs[k].v.lead = i then E.vs[k].v.epoch + 1 else E.vs[k].v.epoch) E.vs[k].v.ver := by rw [if_neg c5, if_neg c5, hz]
         obtain ⟨y1, hy10⟩ : ∃ ys : List LV, ys = E.vs := ⟨_, rfl⟩
         have hi1 : k < y1.length := by rw [hy10]; exact hkE
         have hl1 : y1.length = E.vs.length := by rw [hy10]
         have hg1 : y1[k] = z := by subst hy10; exact hz.symm
         have hy1 : y1 = E.vs.set k z := by rw [hy10, hz]; simp
         haveI on14 : OwnI w7 E.VA _ _ _ _ _ _ (y1.flatMap viewC) := by rw [hy10]; exact inferInstance
         haveI rn14 : Row w7 E.VA (y1.flatMap viewC) := by rw [hy10]; exact inferInstance
         refine x_skip ?_
         refine x_seq ?_
         refine x_seq ?_
         refine x_regionL ?_
         refine xl_v v_move ?_
         refine xl_nil ?_
         first | refine x_condP (fun c6 => ?_) (fun c6 => ?_) | refine x_condN (fun c6 => ?_) (fun c6 => ?_) | refine x_condE (fun c6 => ?_) (fun c6 => ?_)
         ·
          have hat : 0 ≤ idx (isX (i : Int)) E.vs[k].v.isr := by simpa using g49
          obtain ⟨j, hj, hjl⟩ := hx2 hat
          obtain ⟨hfe, hjp⟩ := erase_isX hrise.1 hjl hj
          have hlvt : E.vs[k].v.leaves i = true := by rw [hlv, decide_eq_true hat, decide_eq_true (by omega : 1 < E.vs[k].v.isr.length)]; rfl
          obtain ⟨l, hl⟩ : ∃ l, l = E.vs[k].v.isr.filter (fun x => !decide (x = (i : Int))) := ⟨_, rfl⟩
          rw [← hl] at hfe
          have hll2 : l.length = E.vs[k].v.isr.length - 1 := by rw [← hfe, List.length_eraseIdx, if_pos hjl]
          refine x_regionL ?_
          refine xl_v v_move ?_
          refine xl_v v_move ?_
          refine xl_Nc ?_
          refine xl_Fa ?_
          refine xl_v (v_congr (u := .slice E.vs[k].A E.vs[k].v.isr.length E.vs[k].c) (v_loadFf hi1) (by rw [hg1, hzv])) ?_
          refine xl_v v_move ?_
          refine xl_v v_move ?_
          refine xl_v (v_add (by omega)) ?_
          rw [hj]
          refine xl_call (delete_ok 0 E.vs[k].A E.vs[k].c E.vs[k].v.isr.length j E.vs[k].v.isr w7 OwnI.own rfl hjl) ?_
          rintro _ w44 ⟨rfl, hown, lk8⟩
          rw [hfe] at hown
          haveI hPn : OwnI w44 E.vs[k].A _ _ _ _ _ _ _ := ⟨hown⟩
          refine xl_Nc ?_
          refine xl_Fa ?_
          refine xl_s (e_storeG ⟨⟨z.v.lead, z.v.epoch, z.v.ver, l⟩, E.vs[k].A, E.vs[k].c⟩ hi1 hl1 (by decide) (by rw [hg1, hzv]; simp [setL, viewC, hll2]) fun w45 y2 hy2 hi2 hl2 hg2 l15 on15 => ?_)
          rw [hy1, List.set_set] at hy2
          have hD6 : ∃ (x2 : LV) (y2 : List LV), y2 = E.vs.set k x2 ∧ x2.A = E.vs[k].A ∧ x2.v = ⟨z.v.lead, z.v.epoch, z.v.ver, if E.vs[k].v.leaves i then E.vs[k].v.isr.filter (fun x => !decide (x = (i : Int))) else E.vs[k].v.isr⟩ ∧ (w45).ownsRow 0 44 4 (.slice E.VA E.vs.length E.vc) E.vs.length (y2.flatMap viewC) ∧ (w45).ownsRow 0 3 1 (.slice x2.A x2.v.isr.length x2.c) x2.v.isr.length (ints x2.v.isr) :=
           ⟨_, y2, hy2, rfl, by rw [if_pos hlvt, hl], OwnI.own, by have := (OwnI.own : World.ownsRow w45 _ _ _ (.slice E.vs[k].A _ E.vs[k].c) _ _); rw [← hll2] at this; exact this⟩
          refine xl_nil ?_
          have hD7 : ∃ (x2 : LV) (y2 : List LV), y2 = E.vs.set k x2 ∧ x2.A = E.vs[k].A ∧ x2.v = ⟨z.v.lead, z.v.epoch, z.v.ver, if E.vs[k].v.leaves i then E.vs[k].v.isr.filter (fun x => !decide (x = (i : Int))) else E.vs[k].v.isr⟩ ∧ (w45).ownsRow 0 44 4 (.slice E.VA E.vs.length E.vc) E.vs.length (y2.flatMap viewC) ∧ (w45).ownsRow 0 3 1 (.slice x2.A x2.v.isr.length x2.c) x2.v.isr.length (ints x2.v.isr) := by
           first
            | exact hD6
            | (have hlvf : ¬ (E.vs[k].v.leaves i = true) := by
                rw [hlv]
                first
                 | (have q : ¬ 0 ≤ idx (isX (i : Int)) E.vs[k].v.isr := by simpa using g49
                    rw [decide_eq_false q]; simp; done)
                 | (rw [decide_eq_false (by omega : ¬ 1 < E.vs[k].v.isr.length)]; simp; done)
               exact ⟨z, y1, hy1, by rw [hzv], by rw [if_neg hlvf, hzv], OwnI.own, by have := (OwnI.own : World.ownsRow w45 _ _ _ (.slice E.vs[k].A _ E.vs[k].c) _ _); rw [hzv]; exact this⟩)
          obtain ⟨x2, y3, hy3, hx2A, hx2v, hrow2, hown2⟩ := hD7
          have hi3 : k < y3.length := by rw [hy3]; simpa using hkE
          have hl3 : y3.length = E.vs.length := by rw [hy3]; simp
          have hg3 : y3[k] = x2 := by subst hy3; simp
          have hx2w : x2.v.ver = E.vs[k].v.ver := by rw [hx2v, hzv]
          haveI on3 : OwnI w45 E.VA _ _ _ _ _ _ (y3.flatMap viewC) := ⟨hrow2⟩
          haveI rn3 : Row w45 E.VA (y3.flatMap viewC) := row_ownI _ _ _ _ _ _ _ _ _
          haveI oi3 : OwnI w45 x2.A _ _ _ _ _ _ _ := ⟨hown2⟩
          haveI apx : ApA E.VA x2.A := by rw [hx2A]; exact apw
          refine x_regionL ?_
          refine xl_v v_move ?_
          refine xl_Nc ?_
          refine xl_Fa ?_
          refine xl_v (v_congr (u := .int .i64 E.vs[k].v.ver) (v_loadFf hi3) (by rw [hg3, hx2w])) ?_
          refine xl_v (v_add (by omega)) ?_
          refine xl_Nc ?_
          refine xl_Fa ?_
          refine xl_s (e_storeG (x2.up x2.v.lead x2.v.epoch (E.vs[k].v.ver + 1)) hi3 hl3 (by decide) (by rw [hg3]; rfl) fun w46 y4 hy4 hi4 hl4 hg4 l16 on16 => ?_)
          rw [hy3, List.set_set] at hy4
          have hFin : FenceI mc VA vc i D.pure w (k + 1) w46 := by
           refine FenceI.step (x := x2.up x2.v.lead x2.v.epoch (E.vs[k].v.ver + 1)) hN hVA hvc hE hst hkP hkE ?_ ?_ (by rw [← hyv]; exact hns) (by show blkA x2.A = _; rw [hx2A])
           ·exact hMP.setV hi' (x2.up x2.v.lead x2.v.epoch (E.vs[k].v.ver + 1)) (S := fun j => OwnB (.slice E.VA E.vs.length E.vc) j ∨ OwnB (.slice E.vs[k].A E.vs[k].v.isr.length E.vs[k].c) j) (by rw [hwP]; exact kpc) (fun k _ e => e.imp ownB_blk.1 ownB_blk.1) (by have := (OwnI.own : World.ownsRow w46 _ _ _ (.slice E.VA _ E.vc) _ _); rw [hy4] at this; exact this) (OwnI.own : World.ownsRow w46 _ _ _ (.slice x2.A _ _) _ _) (.inl (by show blkA x2.A = _; rw [hx2A]))
           ·rw [← hyv, hfen]
            show (⟨x2.v.lead, x2.v.epoch, E.vs[k].v.ver + 1, x2.v.isr⟩ : View) = _
            rw [hx2v, hzv]
          refine xl_nil ?_
          have hF2 : FenceI mc VA vc i D.pure w (k + 1) w46 := by
           first
            | exact hFin
            | (have q1 : ¬ E.vs[k].v.lead = (i : Int) := by simpa using g59
               have q2 : ¬ (E.vs[k].v.leaves i = true) := by
                rw [hlv]
                first
                 | (have q : ¬ 0 ≤ idx (isX (i : Int)) E.vs[k].v.isr := by simpa using g49
                    rw [decide_eq_false q]; simp; done)
                 | (rw [decide_eq_false (by omega : ¬ 1 < E.vs[k].v.isr.length)]; simp; done)
               refine FenceI.step (x := E.vs[k]) hN hVA hvc hE hst hkP hkE (by simpa using hM.ext kpc) ?_ ?_ rfl
               ·rw [← hyv, View.fenced, if_neg (fun e => e.elim q1 q2)]
               ·rw [← hyv, View.stuck, decide_eq_false q1]
                simp [q2])
          refine x_regionL ?_
          refine xl_v (v_add (by omega)) ?_
          refine xl_v v_move ?_
          refine xl_nil ?_
          refine ⟨_, ?_, rfl, k + 1, rfl, by omega, hF2, inferInstance, inferInstance, evc (by rw [hVA, hvc, hEl]), inferInstance, evc, lkc⟩
          omega
         ·
          refine x_skip ?_
          have hD7 : ∃ (x2 : LV) (y2 : List LV), y2 = E.vs.set k x2 ∧ x2.A = E.vs[k].A ∧ x2.v = ⟨z.v.lead, z.v.epoch, z.v.ver, if E.vs[k].v.leaves i then E.vs[k].v.isr.filter (fun x => !decide (x = (i : Int))) else E.vs[k].v.isr⟩ ∧ (w7).ownsRow 0 44 4 (.slice E.VA E.vs.length E.vc) E.vs.length (y2.flatMap viewC) ∧ (w7).ownsRow 0 3 1 (.slice x2.A x2.v.isr.length x2.c) x2.v.isr.length (ints x2.v.isr) := by
           first
            | exact hD6
            | (have hlvf : ¬ (E.vs[k].v.leaves i = true) := by
                rw [hlv]
                first
                 | (have q : ¬ 0 ≤ idx (isX (i : Int)) E.vs[k].v.isr := by simpa using g49
                    rw [decide_eq_false q]; simp; done)
                 | (rw [decide_eq_false (by omega : ¬ 1 < E.vs[k].v.isr.length)]; simp; done)
               exact ⟨z, y1, hy1, by rw [hzv], by rw [if_neg hlvf, hzv], OwnI.own, by have := (OwnI.own : World.ownsRow w7 _ _ _ (.slice E.vs[k].A _ E.vs[k].c) _ _); rw [hzv]; exact this⟩)
          obtain ⟨x2, y3, hy3, hx2A, hx2v, hrow2, hown2⟩ := hD7
          have hi3 : k < y3.length := by rw [hy3]; simpa using hkE
          have hl3 : y3.length = E.vs.length := by rw [hy3]; simp
          have hg3 : y3[k] = x2 := by subst hy3; simp
          have hx2w : x2.v.ver = E.vs[k].v.ver := by rw [hx2v, hzv]
          haveI on3 : OwnI w7 E.VA _ _ _ _ _ _ (y3.flatMap viewC) := ⟨hrow2⟩
          haveI rn3 : Row w7 E.VA (y3.flatMap viewC) := row_ownI _ _ _ _ _ _ _ _ _
          haveI oi3 : OwnI w7 x2.A _ _ _ _ _ _ _ := ⟨hown2⟩
          haveI apx : ApA E.VA x2.A := by rw [hx2A]; exact apw
          refine x_regionL ?_
          refine xl_v v_move ?_
          refine xl_Nc ?_
          refine xl_Fa ?_
          refine xl_v (v_congr (u := .int .i64 E.vs[k].v.ver) (v_loadFf hi3) (by rw [hg3, hx2w])) ?_
          refine xl_v (v_add (by omega)) ?_
          refine xl_Nc ?_
          refine xl_Fa ?_
          refine xl_s (e_storeG (x2.up x2.v.lead x2.v.epoch (E.vs[k].v.ver + 1)) hi3 hl3 (by decide) (by rw [hg3]; rfl) fun w47 y4 hy4 hi4 hl4 hg4 l16 on16 => ?_)
          rw [hy3, List.set_set] at hy4
          have hFin : FenceI mc VA vc i D.pure w (k + 1) w47 := by
           refine FenceI.step (x := x2.up x2.v.lead x2.v.epoch (E.vs[k].v.ver + 1)) hN hVA hvc hE hst hkP hkE ?_ ?_ (by rw [← hyv]; exact hns) (by show blkA x2.A = _; rw [hx2A])
           ·exact hMP.setV hi' (x2.up x2.v.lead x2.v.epoch (E.vs[k].v.ver + 1)) (S := fun j => OwnB (.slice E.VA E.vs.length E.vc) j ∨ OwnB (.slice E.vs[k].A E.vs[k].v.isr.length E.vs[k].c) j) (by rw [hwP]; exact kpc) (fun k _ e => e.imp ownB_blk.1 ownB_blk.1) (by have := (OwnI.own : World.ownsRow w47 _ _ _ (.slice E.VA _ E.vc) _ _); rw [hy4] at this; exact this) (OwnI.own : World.ownsRow w47 _ _ _ (.slice x2.A _ _) _ _) (.inl (by show blkA x2.A = _; rw [hx2A]))
           ·rw [← hyv, hfen]
            show (⟨x2.v.lead, x2.v.epoch, E.vs[k].v.ver + 1, x2.v.isr⟩ : View) = _
            rw [hx2v, hzv]
          refine xl_nil ?_
          have hF2 : FenceI mc VA vc i D.pure w (k + 1) w47 := by
           first
            | exact hFin
            | (have q1 : ¬ E.vs[k].v.lead = (i : Int) := by simpa using g59
               have q2 : ¬ (E.vs[k].v.leaves i = true) := by
                rw [hlv]
                first
                 | (have q : ¬ 0 ≤ idx (isX (i : Int)) E.vs[k].v.isr := by simpa using g49
                    rw [decide_eq_false q]; simp; done)
                 | (rw [decide_eq_false (by omega : ¬ 1 < E.vs[k].v.isr.length)]; simp; done)
               refine FenceI.step (x := E.vs[k]) hN hVA hvc hE hst hkP hkE (by simpa using hM.ext kpc) ?_ ?_ rfl
               ·rw [← hyv, View.fenced, if_neg (fun e => e.elim q1 q2)]
               ·rw [← hyv, View.stuck, decide_eq_false q1]
                simp [q2])
          refine x_regionL ?_
          refine xl_v (v_add (by omega)) ?_
          refine xl_v v_move ?_
          refine xl_nil ?_
          refine ⟨_, ?_, rfl, k + 1, rfl, by omega, hF2, inferInstance, inferInstance, evc (by rw [hVA, hvc, hEl]), inferInstance, evc, lkc⟩
          omega
    ·
     refine xl_gs rfl EvO.eq ?_
     refine xl_gs rfl EvO.eq ?_
     refine xl_gs rfl EvO.eq ?_
     refine xl_gs rfl EvO.eq ?_
     refine xl_gs rfl EvO.eq ?_
     refine xl_gs rfl EvO.eq ?_
     refine xl_Pk ?_
     refine xl_v v_assign ?_
     refine xl_nil ?_
     refine x_seq ?_
     refine x_seq ?_
     refine x_regionL ?_
     refine xl_v v_move ?_
     refine xl_v v_not ?_
     refine xl_v v_move ?_
     refine xl_split 59 (fun g59 => ?_) (fun g59 => ?_)
     ·
      refine xl_gv rfl EvO.eq v_move ?_
      refine xl_gv rfl EvO.eq v_not ?_
      refine xl_Pk ?_
      refine xl_nil ?_
      refine x_condT ?_
      refine x_exit ?_
      have hF2 : FenceI mc VA vc i D.pure w (k + 1) w7 := by
       first
        | exact hFin
        | (have q1 : ¬ E.vs[k].v.lead = (i : Int) := by simpa using g59
           have q2 : ¬ (E.vs[k].v.leaves i = true) := by
            rw [hlv]
            first
             | (have q : ¬ 0 ≤ idx (isX (i : Int)) E.vs[k].v.isr := by simpa using g49
                rw [decide_eq_false q]; simp; done)
             | (rw [decide_eq_false (by omega : ¬ 1 < E.vs[k].v.isr.length)]; simp; done)
           refine FenceI.step (x := E.vs[k]) hN hVA hvc hE hst hkP hkE (by simpa using hM.ext kpc) ?_ ?_ rfl
           ·rw [← hyv, View.fenced, if_neg (fun e => e.elim q1 q2)]
           ·rw [← hyv, View.stuck, decide_eq_false q1]
            simp [q2])
      refine x_regionL ?_
      refine xl_v (v_add (by omega)) ?_
      refine xl_v v_move ?_
      refine xl_nil ?_
      refine ⟨_, ?_, rfl, k + 1, rfl, by omega, hF2, inferInstance, inferInstance, evc (by rw [hVA, hvc, hEl]), inferInstance, evc, lkc⟩
      omega
     ·
      refine xl_gs rfl EvO.eq ?_
      refine xl_gs rfl EvO.eq ?_
      refine xl_Pk ?_
      refine xl_nil ?_
      refine x_condF ?_
      refine x_skip ?_
      refine x_seq ?_
      refine x_seq ?_
      have hNS : E.vs[k].v.lead = i ∨ E.vs[k].v.leaves i = true := by
       rw [hlv]
       first
        | (have q : E.vs[k].v.lead = (i : Int) := by simpa using g59
           exact .inl q)
        | (have q : 0 ≤ idx (isX (i : Int)) E.vs[k].v.isr := by simpa using g49
           exact .inr (by rw [decide_eq_true q, decide_eq_true (by omega : 1 < E.vs[k].v.isr.length)]; rfl))
      have hdn : (decide (E.vs[k].v.lead = i) || E.vs[k].v.leaves i) = true := by
       rcases hNS with q | q
       ·rw [decide_eq_true q]; rfl
       ·rw [q, Bool.or_true]
      have hstk : E.vs[k].v.stuck i = (decide (E.vs[k].v.ver = most) || decide (E.vs[k].v.lead = i) && decide (E.vs[k].v.epoch = most)) := by
       rw [View.stuck, hdn, Bool.true_and]
      have hfen : E.vs[k].v.fenced i = ⟨if E.vs[k].v.lead = i then -1 else E.vs[k].v.lead, if E.vs[k].v.lead = i then E.vs[k].v.epoch + 1 else E.vs[k].v.epoch, E.vs[k].v.ver + 1, if E.vs[k].v.leaves i then E.vs[k].v.isr.filter (fun x => !decide (x = (i : Int))) else E.vs[k].v.isr⟩ := by
       rw [View.fenced, if_pos hNS]
      refine x_regionL ?_
      refine xl_v v_move ?_
      refine xl_Nc ?_
      refine xl_Fa ?_
      refine xl_Ld ?_
      refine xl_v v_geq ?_
      refine xl_v v_move ?_
      refine xl_split 68 (fun g68 => ?_) (fun g68 => ?_)
      ·
       refine xl_gs rfl EvO.eq ?_
       refine xl_gs rfl EvO.eq ?_
       refine xl_gu rfl EvO.eq ?_
       refine xl_gu rfl EvO.eq ?_
       refine xl_gu rfl EvO.eq ?_
       refine xl_gu rfl EvO.eq ?_
       refine xl_gu rfl EvO.eq ?_
       refine xl_gs rfl EvO.eq ?_
       refine xl_Pk ?_
       refine xl_nil ?_
       refine x_condT ?_
       refine x_seq ?_
       refine x_regionL ?_
       refine xl_v v_assign ?_
       refine xl_nil ?_
       refine x_ret ?_
       refine fin1 rfl ?_
       have hS : E.vs[k].v.stuck i = true := by
        rw [hstk]
        first
         | (have q : 2147483647 ≤ E.vs[k].v.ver := by simpa using g68
            rw [decide_eq_true (by omega : E.vs[k].v.ver = most)]; rfl)
         | (have q : E.vs[k].v.lead = (i : Int) := by simpa using g70
            rw [decide_eq_true q, decide_eq_true (by omega : E.vs[k].v.epoch = most), Bool.and_true, Bool.or_true])
       have hany : D.pure.views.any (View.stuck (i : Int)) = true := List.any_eq_true.2 ⟨_, List.getElem_mem hkP, by rw [← hyv]; exact hS⟩
       rw [if_pos hany] at hr
       exact ⟨by rw [hr], Made.stay h kpc (by rw [hr]), lkc⟩
      ·
       refine xl_gv rfl EvO.eq v_move ?_
       refine xl_gv rfl EvO.eq v_move ?_
       refine xl_split 70 (fun g70 => ?_) (fun g70 => ?_)
       ·
        refine xl_gv rfl EvO.eq v_move ?_
        refine xl_gNc rfl EvO.eq ?_
        refine xl_gFa rfl EvO.eq ?_
        refine xl_gLd rfl EvO.eq ?_
        refine xl_gv rfl EvO.eq v_geq ?_
        refine xl_gPk rfl EvO.eq ?_
        refine xl_Pk ?_
        refine xl_nil ?_
        first | refine x_condP (fun c4 => ?_) (fun c4 => ?_) | refine x_condN (fun c4 => ?_) (fun c4 => ?_) | refine x_condE (fun c4 => ?_) (fun c4 => ?_)
        ·
         refine x_seq ?_
         refine x_regionL ?_
         refine xl_v v_assign ?_
         refine xl_nil ?_
         refine x_ret ?_
         refine fin1 rfl ?_
         have hS : E.vs[k].v.stuck i = true := by
          rw [hstk]
          first
           | (have q : 2147483647 ≤ E.vs[k].v.ver := by simpa using g68
              rw [decide_eq_true (by omega : E.vs[k].v.ver = most)]; rfl)
           | (have q : E.vs[k].v.lead = (i : Int) := by simpa using g70
              rw [decide_eq_true q, decide_eq_true (by omega : E.vs[k].v.epoch = most), Bool.and_true, Bool.or_true])
         have hany : D.pure.views.any (View.stuck (i : Int)) = true := List.any_eq_true.2 ⟨_, List.getElem_mem hkP, by rw [← hyv]; exact hS⟩
         rw [if_pos hany] at hr
         exact ⟨by rw [hr], Made.stay h kpc (by rw [hr]), lkc⟩
        ·
         refine x_skip ?_
         refine x_seq ?_
         refine x_seq ?_
         have hns : E.vs[k].v.stuck i = false := by
          rw [hstk]
          have q1 : ¬ 2147483647 ≤ E.vs[k].v.ver := by simpa using g68
          rw [decide_eq_false (by omega : ¬ E.vs[k].v.ver = most), Bool.false_or]
          first
           | (have q : ¬ E.vs[k].v.lead = (i : Int) := by simpa using g70
              rw [decide_eq_false q]; rfl)
           | (rw [decide_eq_false (by omega : ¬ E.vs[k].v.epoch = most), Bool.and_false])
         have hep : E.vs[k].v.lead = i → E.vs[k].v.epoch < 2147483647 := fun q => by
          rw [hstk, decide_eq_true q, Bool.true_and, Bool.or_eq_false_iff] at hns
          have := of_decide_eq_false hns.2
          omega
         have hve : E.vs[k].v.ver < 2147483647 := by
          rw [hstk, Bool.or_eq_false_iff] at hns
          have := of_decide_eq_false hns.1
          omega
         obtain ⟨wP, hwP⟩ : ∃ x, x = w7 := ⟨_, rfl⟩
         have hMP : MetaAt wP mc E := by rw [hwP]; exact hM.ext kpc
         refine x_regionL ?_
         refine xl_v v_move ?_
         refine xl_nil ?_
         first | refine x_condP (fun c5 => ?_) (fun c5 => ?_) | refine x_condN (fun c5 => ?_) (fun c5 => ?_) | refine x_condE (fun c5 => ?_) (fun c5 => ?_)
         ·
          refine x_seq ?_
          refine x_regionL ?_
          refine xl_v v_move ?_
          refine xl_Nc ?_
          refine xl_Fa ?_
          refine xl_s (e_storeG0 (E.vs[k].up (-1) E.vs[k].v.epoch E.vs[k].v.ver) hkE rfl (by decide) rfl fun w48 ya hya hia hla hga l13 on13 => ?_)
          refine xl_nil ?_
          refine x_regionL ?_
          refine xl_v v_move ?_
          refine xl_Nc ?_
          refine xl_Fa ?_
          refine xl_v (v_congr (u := .int .i64 E.vs[k].v.epoch) (v_loadFf hia) (by rw [hga])) ?_
          refine xl_v (v_add (by have := hep c5; omega)) ?_
          refine xl_Nc ?_
          refine xl_Fa ?_
          refine xl_s (e_storeG (E.vs[k].up (-1) (E.vs[k].v.epoch + 1) E.vs[k].v.ver) hia hla (by decide) (by rw [hga]; rfl) fun w49 y1 hy1 hi1 hl1 hg1 l14 on14 => ?_)
          rw [hya, List.set_set] at hy1
          obtain ⟨z, hz⟩ : ∃ z : LV, z = E.vs[k].up (-1) (E.vs[k].v.epoch + 1) E.vs[k].v.ver := ⟨_, rfl⟩
          have hzv : z = E.vs[k].up (if E.vs[k].v.lead = i then -1 else E.vs[k].v.lead) (if E.vs[k].v.lead = i then E.vs[k].v.epoch + 1 else E.vs[k].v.epoch) E.vs[k].v.ver := by rw [if_pos c5, if_pos c5, hz]
          rw [← hz] at hg1 hy1
          refine xl_nil ?_
          refine x_seq ?_
          refine x_seq ?_
          refine x_regionL ?_
          refine xl_v v_move ?_
          refine xl_nil ?_
          refine x_condF ?_
          refine x_skip ?_
          have hD7 : ∃ (x2 : LV) (y2 : List LV), y2 = E.vs.set k x2 ∧ x2.A = E.vs[k].A ∧ x2.v = ⟨z.v.lead, z.v.epoch, z.v.ver, if E.vs[k].v.leaves i then E.vs[k].v.isr.filter (fun x => !decide (x = (i : Int))) else E.vs[k].v.isr⟩ ∧ (w49).ownsRow 0 44 4 (.slice E.VA E.vs.length E.vc) E.vs.length (y2.flatMap viewC) ∧ (w49).ownsRow 0 3 1 (.slice x2.A x2.v.isr.length x2.c) x2.v.isr.length (ints x2.v.isr) := by
           first
            | exact hD6
            | (have hlvf : ¬ (E.vs[k].v.leaves i = true) := by
                rw [hlv]
                first
                 | (have q : ¬ 0 ≤ idx (isX (i : Int)) E.vs[k].v.isr := by simpa using g49
                    rw [decide_eq_false q]; simp; done)
                 | (rw [decide_eq_false (by omega : ¬ 1 < E.vs[k].v.isr.length)]; simp; done)
               exact ⟨z, y1, hy1, by rw [hzv], by rw [if_neg hlvf, hzv], OwnI.own, by have := (OwnI.own : World.ownsRow w49 _ _ _ (.slice E.vs[k].A _ E.vs[k].c) _ _); rw [hzv]; exact this⟩)
          obtain ⟨x2, y3, hy3, hx2A, hx2v, hrow2, hown2⟩ := hD7
          have hi3 : k < y3.length := by rw [hy3]; simpa using hkE
          have hl3 : y3.length = E.vs.length := by rw [hy3]; simp
          have hg3 : y3[k] = x2 := by subst hy3; simp
          have hx2w : x2.v.ver = E.vs[k].v.ver := by rw [hx2v, hzv]
          haveI on3 : OwnI w49 E.VA _ _ _ _ _ _ (y3.flatMap viewC) := ⟨hrow2⟩
          haveI rn3 : Row w49 E.VA (y3.flatMap viewC) := row_ownI _ _ _ _ _ _ _ _ _
          haveI oi3 : OwnI w49 x2.A _ _ _ _ _ _ _ := ⟨hown2⟩
          haveI apx : ApA E.VA x2.A := by rw [hx2A]; exact apw
          refine x_regionL ?_
          refine xl_v v_move ?_
          refine xl_Nc ?_
          refine xl_Fa ?_
          refine xl_v (v_congr (u := .int .i64 E.vs[k].v.ver) (v_loadFf hi3) (by rw [hg3, hx2w])) ?_
          refine xl_v (v_add (by omega)) ?_
          refine xl_Nc ?_
          refine xl_Fa ?_
          refine xl_s (e_storeG (x2.up x2.v.lead x2.v.epoch (E.vs[k].v.ver + 1)) hi3 hl3 (by decide) (by rw [hg3]; rfl) fun w50 y4 hy4 hi4 hl4 hg4 l16 on16 => ?_)
          rw [hy3, List.set_set] at hy4
          have hFin : FenceI mc VA vc i D.pure w (k + 1) w50 := by
           refine FenceI.step (x := x2.up x2.v.lead x2.v.epoch (E.vs[k].v.ver + 1)) hN hVA hvc hE hst hkP hkE ?_ ?_ (by rw [← hyv]; exact hns) (by show blkA x2.A = _; rw [hx2A])
           ·exact hMP.setV hi' (x2.up x2.v.lead x2.v.epoch (E.vs[k].v.ver + 1)) (S := fun j => OwnB (.slice E.VA E.vs.length E.vc) j ∨ OwnB (.slice E.vs[k].A E.vs[k].v.isr.length E.vs[k].c) j) (by rw [hwP]; exact kpc) (fun k _ e => e.imp ownB_blk.1 ownB_blk.1) (by have := (OwnI.own : World.ownsRow w50 _ _ _ (.slice E.VA _ E.vc) _ _); rw [hy4] at this; exact this) (OwnI.own : World.ownsRow w50 _ _ _ (.slice x2.A _ _) _ _) (.inl (by show blkA x2.A = _; rw [hx2A]))
           ·rw [← hyv, hfen]
            show (⟨x2.v.lead, x2.v.epoch, E.vs[k].v.ver + 1, x2.v.isr⟩ : View) = _
            rw [hx2v, hzv]
          refine xl_nil ?_
          have hF2 : FenceI mc VA vc i D.pure w (k + 1) w50 := by
           first
            | exact hFin
            | (have q1 : ¬ E.vs[k].v.lead = (i : Int) := by simpa using g59
               have q2 : ¬ (E.vs[k].v.leaves i = true) := by
                rw [hlv]
                first
                 | (have q : ¬ 0 ≤ idx (isX (i : Int)) E.vs[k].v.isr := by simpa using g49
                    rw [decide_eq_false q]; simp; done)
                 | (rw [decide_eq_false (by omega : ¬ 1 < E.vs[k].v.isr.length)]; simp; done)
               refine FenceI.step (x := E.vs[k]) hN hVA hvc hE hst hkP hkE (by simpa using hM.ext kpc) ?_ ?_ rfl
               ·rw [← hyv, View.fenced, if_neg (fun e => e.elim q1 q2)]
               ·rw [← hyv, View.stuck, decide_eq_false q1]
                simp [q2])
          refine x_regionL ?_
          refine xl_v (v_add (by omega)) ?_
          refine xl_v v_move ?_
          refine xl_nil ?_
          refine ⟨_, ?_, rfl, k + 1, rfl, by omega, hF2, inferInstance, inferInstance, evc (by rw [hVA, hvc, hEl]), inferInstance, evc, lkc⟩
          omega
         ·
          obtain ⟨z, hz⟩ : ∃ z : LV, z = E.vs[k] := ⟨_, rfl⟩
          have hzv : z = E.vs[k].up (if E.vs[k].v.lead = i then -1 else E.vs[k].v.lead) (if E.vs[k].v.lead = i then E.vs[k].v.epoch + 1 else E.vs[k].v.epoch) E.vs[k].v.ver := by rw [if_neg c5, if_neg c5, hz]
          obtain ⟨y1, hy10⟩ : ∃ ys : List LV, ys = E.vs := ⟨_, rfl⟩
          have hi1 : k < y1.length := by rw [hy10]; exact hkE
          have hl1 : y1.length = E.vs.length := by rw [hy10]
          have hg1 : y1[k] = z := by subst hy10; exact hz.symm
          have hy1 : y1 = E.vs.set k z := by rw [hy10, hz]; simp
          haveI on14 : OwnI w7 E.VA _ _ _ _ _ _ (y1.flatMap viewC) := by rw [hy10]; exact inferInstance
          haveI rn14 : Row w7 E.VA (y1.flatMap viewC) := by rw [hy10]; exact inferInstance
          refine x_skip ?_
          refine x_seq ?_
          refine x_seq ?_
          refine x_regionL ?_
          refine xl_v v_move ?_
          refine xl_nil ?_
          refine x_condF ?_
          refine x_skip ?_
          have hD7 : ∃ (x2 : LV) (y2 : List LV), y2 = E.vs.set k x2 ∧ x2.A = E.vs[k].A ∧ x2.v = ⟨z.v.lead, z.v.epoch, z.v.ver, if E.vs[k].v.leaves i then E.vs[k].v.isr.filter (fun x => !decide (x = (i : Int))) else E.vs[k].v.isr⟩ ∧ (w7).ownsRow 0 44 4 (.slice E.VA E.vs.length E.vc) E.vs.length (y2.flatMap viewC) ∧ (w7).ownsRow 0 3 1 (.slice x2.A x2.v.isr.length x2.c) x2.v.isr.length (ints x2.v.isr) := by
           first
            | exact hD6
            | (have hlvf : ¬ (E.vs[k].v.leaves i = true) := by
                rw [hlv]
                first
                 | (have q : ¬ 0 ≤ idx (isX (i : Int)) E.vs[k].v.isr := by simpa using g49
                    rw [decide_eq_false q]; simp; done)
                 | (rw [decide_eq_false (by omega : ¬ 1 < E.vs[k].v.isr.length)]; simp; done)
               exact ⟨z, y1, hy1, by rw [hzv], by rw [if_neg hlvf, hzv], OwnI.own, by have := (OwnI.own : World.ownsRow w7 _ _ _ (.slice E.vs[k].A _ E.vs[k].c) _ _); rw [hzv]; exact this⟩)
          obtain ⟨x2, y3, hy3, hx2A, hx2v, hrow2, hown2⟩ := hD7
          have hi3 : k < y3.length := by rw [hy3]; simpa using hkE
          have hl3 : y3.length = E.vs.length := by rw [hy3]; simp
          have hg3 : y3[k] = x2 := by subst hy3; simp
          have hx2w : x2.v.ver = E.vs[k].v.ver := by rw [hx2v, hzv]
          haveI on3 : OwnI w7 E.VA _ _ _ _ _ _ (y3.flatMap viewC) := ⟨hrow2⟩
          haveI rn3 : Row w7 E.VA (y3.flatMap viewC) := row_ownI _ _ _ _ _ _ _ _ _
          haveI oi3 : OwnI w7 x2.A _ _ _ _ _ _ _ := ⟨hown2⟩
          haveI apx : ApA E.VA x2.A := by rw [hx2A]; exact apw
          refine x_regionL ?_
          refine xl_v v_move ?_
          refine xl_Nc ?_
          refine xl_Fa ?_
          refine xl_v (v_congr (u := .int .i64 E.vs[k].v.ver) (v_loadFf hi3) (by rw [hg3, hx2w])) ?_
          refine xl_v (v_add (by omega)) ?_
          refine xl_Nc ?_
          refine xl_Fa ?_
          refine xl_s (e_storeG (x2.up x2.v.lead x2.v.epoch (E.vs[k].v.ver + 1)) hi3 hl3 (by decide) (by rw [hg3]; rfl) fun w51 y4 hy4 hi4 hl4 hg4 l16 on16 => ?_)
          rw [hy3, List.set_set] at hy4
          have hFin : FenceI mc VA vc i D.pure w (k + 1) w51 := by
           refine FenceI.step (x := x2.up x2.v.lead x2.v.epoch (E.vs[k].v.ver + 1)) hN hVA hvc hE hst hkP hkE ?_ ?_ (by rw [← hyv]; exact hns) (by show blkA x2.A = _; rw [hx2A])
           ·exact hMP.setV hi' (x2.up x2.v.lead x2.v.epoch (E.vs[k].v.ver + 1)) (S := fun j => OwnB (.slice E.VA E.vs.length E.vc) j ∨ OwnB (.slice E.vs[k].A E.vs[k].v.isr.length E.vs[k].c) j) (by rw [hwP]; exact kpc) (fun k _ e => e.imp ownB_blk.1 ownB_blk.1) (by have := (OwnI.own : World.ownsRow w51 _ _ _ (.slice E.VA _ E.vc) _ _); rw [hy4] at this; exact this) (OwnI.own : World.ownsRow w51 _ _ _ (.slice x2.A _ _) _ _) (.inl (by show blkA x2.A = _; rw [hx2A]))
           ·rw [← hyv, hfen]
            show (⟨x2.v.lead, x2.v.epoch, E.vs[k].v.ver + 1, x2.v.isr⟩ : View) = _
            rw [hx2v, hzv]
          refine xl_nil ?_
          have hF2 : FenceI mc VA vc i D.pure w (k + 1) w51 := by
           first
            | exact hFin
            | (have q1 : ¬ E.vs[k].v.lead = (i : Int) := by simpa using g59
               have q2 : ¬ (E.vs[k].v.leaves i = true) := by
                rw [hlv]
                first
                 | (have q : ¬ 0 ≤ idx (isX (i : Int)) E.vs[k].v.isr := by simpa using g49
                    rw [decide_eq_false q]; simp; done)
                 | (rw [decide_eq_false (by omega : ¬ 1 < E.vs[k].v.isr.length)]; simp; done)
               refine FenceI.step (x := E.vs[k]) hN hVA hvc hE hst hkP hkE (by simpa using hM.ext kpc) ?_ ?_ rfl
               ·rw [← hyv, View.fenced, if_neg (fun e => e.elim q1 q2)]
               ·rw [← hyv, View.stuck, decide_eq_false q1]
                simp [q2])
          refine x_regionL ?_
          refine xl_v (v_add (by omega)) ?_
          refine xl_v v_move ?_
          refine xl_nil ?_
          refine ⟨_, ?_, rfl, k + 1, rfl, by omega, hF2, inferInstance, inferInstance, evc (by rw [hVA, hvc, hEl]), inferInstance, evc, lkc⟩
          omega
       ·
        refine xl_gs rfl EvO.eq ?_
        refine xl_gs rfl EvO.eq ?_
        refine xl_gs rfl EvO.eq ?_
        refine xl_gs rfl EvO.eq ?_
        refine xl_gs rfl EvO.eq ?_
        refine xl_gPk rfl EvO.eq ?_
        refine xl_Pk ?_
        refine xl_nil ?_
        refine x_condF ?_
        refine x_skip ?_
        refine x_seq ?_
        refine x_seq ?_
        have hns : E.vs[k].v.stuck i = false := by
         rw [hstk]
         have q1 : ¬ 2147483647 ≤ E.vs[k].v.ver := by simpa using g68
         rw [decide_eq_false (by omega : ¬ E.vs[k].v.ver = most), Bool.false_or]
         first
          | (have q : ¬ E.vs[k].v.lead = (i : Int) := by simpa using g70
             rw [decide_eq_false q]; rfl)
          | (rw [decide_eq_false (by omega : ¬ E.vs[k].v.epoch = most), Bool.and_false])
        have hep : E.vs[k].v.lead = i → E.vs[k].v.epoch < 2147483647 := fun q => by
         rw [hstk, decide_eq_true q, Bool.true_and, Bool.or_eq_false_iff] at hns
         have := of_decide_eq_false hns.2
         omega
        have hve : E.vs[k].v.ver < 2147483647 := by
         rw [hstk, Bool.or_eq_false_iff] at hns
         have := of_decide_eq_false hns.1
         omega
        obtain ⟨wP, hwP⟩ : ∃ x, x = w7 := ⟨_, rfl⟩
        have hMP : MetaAt wP mc E := by rw [hwP]; exact hM.ext kpc
        refine x_regionL ?_
        refine xl_v v_move ?_
        refine xl_nil ?_
        first | refine x_condP (fun c5 => ?_) (fun c5 => ?_) | refine x_condN (fun c5 => ?_) (fun c5 => ?_) | refine x_condE (fun c5 => ?_) (fun c5 => ?_)
        ·
         refine x_seq ?_
         refine x_regionL ?_
         refine xl_v v_move ?_
         refine xl_Nc ?_
         refine xl_Fa ?_
         refine xl_s (e_storeG0 (E.vs[k].up (-1) E.vs[k].v.epoch E.vs[k].v.ver) hkE rfl (by decide) rfl fun w52 ya hya hia hla hga l13 on13 => ?_)
         refine xl_nil ?_
         refine x_regionL ?_
         refine xl_v v_move ?_
         refine xl_Nc ?_
         refine xl_Fa ?_
         refine xl_v (v_congr (u := .int .i64 E.vs[k].v.epoch) (v_loadFf hia) (by rw [hga])) ?_
         refine xl_v (v_add (by have := hep c5; omega)) ?_
         refine xl_Nc ?_
         refine xl_Fa ?_
         refine xl_s (e_storeG (E.vs[k].up (-1) (E.vs[k].v.epoch + 1) E.vs[k].v.ver) hia hla (by decide) (by rw [hga]; rfl) fun w53 y1 hy1 hi1 hl1 hg1 l14 on14 => ?_)
         rw [hya, List.set_set] at hy1
         obtain ⟨z, hz⟩ : ∃ z : LV, z = E.vs[k].up (-1) (E.vs[k].v.epoch + 1) E.vs[k].v.ver := ⟨_, rfl⟩
         have hzv : z = E.vs[k].up (if E.vs[k].v.lead = i then -1 else E.vs[k].v.lead) (if E.vs[k].v.lead = i then E.vs[k].v.epoch + 1 else E.vs[k].v.epoch) E.vs[k].v.ver := by rw [if_pos c5, if_pos c5, hz]
         rw [← hz] at hg1 hy1
         refine xl_nil ?_
         refine x_seq ?_
         refine x_seq ?_
         refine x_regionL ?_
         refine xl_v v_move ?_
         refine xl_nil ?_
         refine x_condF ?_
         refine x_skip ?_
         have hD7 : ∃ (x2 : LV) (y2 : List LV), y2 = E.vs.set k x2 ∧ x2.A = E.vs[k].A ∧ x2.v = ⟨z.v.lead, z.v.epoch, z.v.ver, if E.vs[k].v.leaves i then E.vs[k].v.isr.filter (fun x => !decide (x = (i : Int))) else E.vs[k].v.isr⟩ ∧ (w53).ownsRow 0 44 4 (.slice E.VA E.vs.length E.vc) E.vs.length (y2.flatMap viewC) ∧ (w53).ownsRow 0 3 1 (.slice x2.A x2.v.isr.length x2.c) x2.v.isr.length (ints x2.v.isr) := by
          first
           | exact hD6
           | (have hlvf : ¬ (E.vs[k].v.leaves i = true) := by
               rw [hlv]
               first
                | (have q : ¬ 0 ≤ idx (isX (i : Int)) E.vs[k].v.isr := by simpa using g49
                   rw [decide_eq_false q]; simp; done)
                | (rw [decide_eq_false (by omega : ¬ 1 < E.vs[k].v.isr.length)]; simp; done)
              exact ⟨z, y1, hy1, by rw [hzv], by rw [if_neg hlvf, hzv], OwnI.own, by have := (OwnI.own : World.ownsRow w53 _ _ _ (.slice E.vs[k].A _ E.vs[k].c) _ _); rw [hzv]; exact this⟩)
         obtain ⟨x2, y3, hy3, hx2A, hx2v, hrow2, hown2⟩ := hD7
         have hi3 : k < y3.length := by rw [hy3]; simpa using hkE
         have hl3 : y3.length = E.vs.length := by rw [hy3]; simp
         have hg3 : y3[k] = x2 := by subst hy3; simp
         have hx2w : x2.v.ver = E.vs[k].v.ver := by rw [hx2v, hzv]
         haveI on3 : OwnI w53 E.VA _ _ _ _ _ _ (y3.flatMap viewC) := ⟨hrow2⟩
         haveI rn3 : Row w53 E.VA (y3.flatMap viewC) := row_ownI _ _ _ _ _ _ _ _ _
         haveI oi3 : OwnI w53 x2.A _ _ _ _ _ _ _ := ⟨hown2⟩
         haveI apx : ApA E.VA x2.A := by rw [hx2A]; exact apw
         refine x_regionL ?_
         refine xl_v v_move ?_
         refine xl_Nc ?_
         refine xl_Fa ?_
         refine xl_v (v_congr (u := .int .i64 E.vs[k].v.ver) (v_loadFf hi3) (by rw [hg3, hx2w])) ?_
         refine xl_v (v_add (by omega)) ?_
         refine xl_Nc ?_
         refine xl_Fa ?_
         refine xl_s (e_storeG (x2.up x2.v.lead x2.v.epoch (E.vs[k].v.ver + 1)) hi3 hl3 (by decide) (by rw [hg3]; rfl) fun w54 y4 hy4 hi4 hl4 hg4 l16 on16 => ?_)
         rw [hy3, List.set_set] at hy4
         have hFin : FenceI mc VA vc i D.pure w (k + 1) w54 := by
          refine FenceI.step (x := x2.up x2.v.lead x2.v.epoch (E.vs[k].v.ver + 1)) hN hVA hvc hE hst hkP hkE ?_ ?_ (by rw [← hyv]; exact hns) (by show blkA x2.A = _; rw [hx2A])
          ·exact hMP.setV hi' (x2.up x2.v.lead x2.v.epoch (E.vs[k].v.ver + 1)) (S := fun j => OwnB (.slice E.VA E.vs.length E.vc) j ∨ OwnB (.slice E.vs[k].A E.vs[k].v.isr.length E.vs[k].c) j) (by rw [hwP]; exact kpc) (fun k _ e => e.imp ownB_blk.1 ownB_blk.1) (by have := (OwnI.own : World.ownsRow w54 _ _ _ (.slice E.VA _ E.vc) _ _); rw [hy4] at this; exact this) (OwnI.own : World.ownsRow w54 _ _ _ (.slice x2.A _ _) _ _) (.inl (by show blkA x2.A = _; rw [hx2A]))
          ·rw [← hyv, hfen]
           show (⟨x2.v.lead, x2.v.epoch, E.vs[k].v.ver + 1, x2.v.isr⟩ : View) = _
           rw [hx2v, hzv]
         refine xl_nil ?_
         have hF2 : FenceI mc VA vc i D.pure w (k + 1) w54 := by
          first
           | exact hFin
           | (have q1 : ¬ E.vs[k].v.lead = (i : Int) := by simpa using g59
              have q2 : ¬ (E.vs[k].v.leaves i = true) := by
               rw [hlv]
               first
                | (have q : ¬ 0 ≤ idx (isX (i : Int)) E.vs[k].v.isr := by simpa using g49
                   rw [decide_eq_false q]; simp; done)
                | (rw [decide_eq_false (by omega : ¬ 1 < E.vs[k].v.isr.length)]; simp; done)
              refine FenceI.step (x := E.vs[k]) hN hVA hvc hE hst hkP hkE (by simpa using hM.ext kpc) ?_ ?_ rfl
              ·rw [← hyv, View.fenced, if_neg (fun e => e.elim q1 q2)]
              ·rw [← hyv, View.stuck, decide_eq_false q1]
               simp [q2])
         refine x_regionL ?_
         refine xl_v (v_add (by omega)) ?_
         refine xl_v v_move ?_
         refine xl_nil ?_
         refine ⟨_, ?_, rfl, k + 1, rfl, by omega, hF2, inferInstance, inferInstance, evc (by rw [hVA, hvc, hEl]), inferInstance, evc, lkc⟩
         omega
        ·
         obtain ⟨z, hz⟩ : ∃ z : LV, z = E.vs[k] := ⟨_, rfl⟩
         have hzv : z = E.vs[k].up (if E.vs[k].v.lead = i then -1 else E.vs[k].v.lead) (if E.vs[k].v.lead = i then E.vs[k].v.epoch + 1 else E.vs[k].v.epoch) E.vs[k].v.ver := by rw [if_neg c5, if_neg c5, hz]
         obtain ⟨y1, hy10⟩ : ∃ ys : List LV, ys = E.vs := ⟨_, rfl⟩
         have hi1 : k < y1.length := by rw [hy10]; exact hkE
         have hl1 : y1.length = E.vs.length := by rw [hy10]
         have hg1 : y1[k] = z := by subst hy10; exact hz.symm
         have hy1 : y1 = E.vs.set k z := by rw [hy10, hz]; simp
         haveI on14 : OwnI w7 E.VA _ _ _ _ _ _ (y1.flatMap viewC) := by rw [hy10]; exact inferInstance
         haveI rn14 : Row w7 E.VA (y1.flatMap viewC) := by rw [hy10]; exact inferInstance
         refine x_skip ?_
         refine x_seq ?_
         refine x_seq ?_
         refine x_regionL ?_
         refine xl_v v_move ?_
         refine xl_nil ?_
         refine x_condF ?_
         refine x_skip ?_
         have hD7 : ∃ (x2 : LV) (y2 : List LV), y2 = E.vs.set k x2 ∧ x2.A = E.vs[k].A ∧ x2.v = ⟨z.v.lead, z.v.epoch, z.v.ver, if E.vs[k].v.leaves i then E.vs[k].v.isr.filter (fun x => !decide (x = (i : Int))) else E.vs[k].v.isr⟩ ∧ (w7).ownsRow 0 44 4 (.slice E.VA E.vs.length E.vc) E.vs.length (y2.flatMap viewC) ∧ (w7).ownsRow 0 3 1 (.slice x2.A x2.v.isr.length x2.c) x2.v.isr.length (ints x2.v.isr) := by
          first
           | exact hD6
           | (have hlvf : ¬ (E.vs[k].v.leaves i = true) := by
               rw [hlv]
               first
                | (have q : ¬ 0 ≤ idx (isX (i : Int)) E.vs[k].v.isr := by simpa using g49
                   rw [decide_eq_false q]; simp; done)
                | (rw [decide_eq_false (by omega : ¬ 1 < E.vs[k].v.isr.length)]; simp; done)
              exact ⟨z, y1, hy1, by rw [hzv], by rw [if_neg hlvf, hzv], OwnI.own, by have := (OwnI.own : World.ownsRow w7 _ _ _ (.slice E.vs[k].A _ E.vs[k].c) _ _); rw [hzv]; exact this⟩)
         obtain ⟨x2, y3, hy3, hx2A, hx2v, hrow2, hown2⟩ := hD7
         have hi3 : k < y3.length := by rw [hy3]; simpa using hkE
         have hl3 : y3.length = E.vs.length := by rw [hy3]; simp
         have hg3 : y3[k] = x2 := by subst hy3; simp
         have hx2w : x2.v.ver = E.vs[k].v.ver := by rw [hx2v, hzv]
         haveI on3 : OwnI w7 E.VA _ _ _ _ _ _ (y3.flatMap viewC) := ⟨hrow2⟩
         haveI rn3 : Row w7 E.VA (y3.flatMap viewC) := row_ownI _ _ _ _ _ _ _ _ _
         haveI oi3 : OwnI w7 x2.A _ _ _ _ _ _ _ := ⟨hown2⟩
         haveI apx : ApA E.VA x2.A := by rw [hx2A]; exact apw
         refine x_regionL ?_
         refine xl_v v_move ?_
         refine xl_Nc ?_
         refine xl_Fa ?_
         refine xl_v (v_congr (u := .int .i64 E.vs[k].v.ver) (v_loadFf hi3) (by rw [hg3, hx2w])) ?_
         refine xl_v (v_add (by omega)) ?_
         refine xl_Nc ?_
         refine xl_Fa ?_
         refine xl_s (e_storeG (x2.up x2.v.lead x2.v.epoch (E.vs[k].v.ver + 1)) hi3 hl3 (by decide) (by rw [hg3]; rfl) fun w55 y4 hy4 hi4 hl4 hg4 l16 on16 => ?_)
         rw [hy3, List.set_set] at hy4
         have hFin : FenceI mc VA vc i D.pure w (k + 1) w55 := by
          refine FenceI.step (x := x2.up x2.v.lead x2.v.epoch (E.vs[k].v.ver + 1)) hN hVA hvc hE hst hkP hkE ?_ ?_ (by rw [← hyv]; exact hns) (by show blkA x2.A = _; rw [hx2A])
          ·exact hMP.setV hi' (x2.up x2.v.lead x2.v.epoch (E.vs[k].v.ver + 1)) (S := fun j => OwnB (.slice E.VA E.vs.length E.vc) j ∨ OwnB (.slice E.vs[k].A E.vs[k].v.isr.length E.vs[k].c) j) (by rw [hwP]; exact kpc) (fun k _ e => e.imp ownB_blk.1 ownB_blk.1) (by have := (OwnI.own : World.ownsRow w55 _ _ _ (.slice E.VA _ E.vc) _ _); rw [hy4] at this; exact this) (OwnI.own : World.ownsRow w55 _ _ _ (.slice x2.A _ _) _ _) (.inl (by show blkA x2.A = _; rw [hx2A]))
          ·rw [← hyv, hfen]
           show (⟨x2.v.lead, x2.v.epoch, E.vs[k].v.ver + 1, x2.v.isr⟩ : View) = _
           rw [hx2v, hzv]
         refine xl_nil ?_
         have hF2 : FenceI mc VA vc i D.pure w (k + 1) w55 := by
          first
           | exact hFin
           | (have q1 : ¬ E.vs[k].v.lead = (i : Int) := by simpa using g59
              have q2 : ¬ (E.vs[k].v.leaves i = true) := by
               rw [hlv]
               first
                | (have q : ¬ 0 ≤ idx (isX (i : Int)) E.vs[k].v.isr := by simpa using g49
                   rw [decide_eq_false q]; simp; done)
                | (rw [decide_eq_false (by omega : ¬ 1 < E.vs[k].v.isr.length)]; simp; done)
              refine FenceI.step (x := E.vs[k]) hN hVA hvc hE hst hkP hkE (by simpa using hM.ext kpc) ?_ ?_ rfl
              ·rw [← hyv, View.fenced, if_neg (fun e => e.elim q1 q2)]
              ·rw [← hyv, View.stuck, decide_eq_false q1]
               simp [q2])
         refine x_regionL ?_
         refine xl_v (v_add (by omega)) ?_
         refine xl_v v_move ?_
         refine xl_nil ?_
         refine ⟨_, ?_, rfl, k + 1, rfl, by omega, hF2, inferInstance, inferInstance, evc (by rw [hVA, hvc, hEl]), inferInstance, evc, lkc⟩
         omega
   ·
    refine x_exit ?_
    refine x_seq ?_
    have hkn : k = D.vs.length := by omega
    subst hkn
    obtain ⟨E, hM, hN, hVA, hvc, hE, hst⟩ := hF
    have hEl : E.vs.length = D.vs.length := (FenceI.len (mc := mc) hE).trans hml
    rw [← hml, List.take_of_length_le (Nat.le_refl _)] at hE hst
    rw [List.drop_of_length_le (Nat.le_refl _), List.append_nil] at hE
    have hany : ¬ (D.pure.views.any (View.stuck (i : Int)) = true) := by
     rw [List.any_eq_true]
     rintro ⟨v, hv, e⟩
     rw [hst v hv] at e
     cases e
    rw [if_neg hany] at hr
    rw [← hVA, ← hvc] at e6
    obtain ⟨wR, hwR⟩ : ∃ x, x = w6 := ⟨_, rfl⟩
    have hMR : MetaAt wR m D := by rw [hwR]; exact h.ext kpc
    have hER : MetaAt wR mc E := by rw [hwR]; exact hM
    refine x_regionL ?_
    refine xl_v v_move ?_
    refine xl_Nc ?_
    refine xl_Fa ?_
    refine xl_Ld ?_
    refine xl_v v_move ?_
    refine xl_v v_move ?_
    refine xl_v v_move ?_
    refine xl_v (v_indexO i rfl (by omega) hil) ?_
    refine xl_s (e_storeOwn OwnI.own (by omega) (by decide) fun w56 l6 ho6 => ?_)
    rw [setL_map Value.bool D.lives i false (by omega)] at ho6
    haveI o6 : OwnI w56 D.LA _ _ _ _ _ _ _ := ⟨ho6⟩
    refine xl_Nc ?_
    refine xl_Fa ?_
    refine xl_s (e_store fun w57 l57 k57 => ?_)
    have hFM : MetaAt w57 m { D with lives := D.lives.set i false, vs := E.vs, VA := E.VA, vc := E.vc } := hMR.swap hER (fun k hk => h.lt k hk) hN (by rw [hwR]; exact kpc) (by simp) (by have := (Blk.eq : (w57).heap[m]? = _); rw [← hEl] at this; simpa [metaC] using this) (OwnI.own : World.ownsRow w57 _ _ _ (.slice D.LA _ _) _ _)
    refine xl_nil ?_
    refine x_seq ?_
    refine x_regionL ?_
    refine xl_v v_assign ?_
    refine xl_nil ?_
    refine x_ret ?_
    refine fin1 rfl ?_
    refine ⟨by rw [hr], ⟨_, hFM, ?_, swap_grow hN⟩, lkc⟩
    rw [hr]
    have hE' : E.vs.map (·.v) = D.pure.views.map (View.fenced i) := hE
    simp [LMeta.pure, hE']
end Go.Proofs.Ytnjpladlfiaojaa
