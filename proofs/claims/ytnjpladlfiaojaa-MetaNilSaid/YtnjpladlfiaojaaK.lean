/-
 Walks, printed by a program of this workplace (wip/tools/sx.py) off the functions' code and a text of contracts.
-/
import Derived.Test.YtnjpladlfiaojaaJ
set_option linter.all false
set_option maxRecDepth 100000
set_option synthInstance.maxSize 100000
set_option synthInstance.maxHeartbeats 400000
namespace Go.Proofs.Ytnjpladlfiaojaa
open Go.Wst
open Go.Wst.Ct
abbrev LV.up (x : LV) (lead epoch ver : Int) : LV := ⟨⟨lead, epoch, ver, x.v.isr⟩, x.A, x.c⟩

/-- (*waystation/meta.Meta).Elect$1 -/
theorem elect1_ok (mb bb m : Nat) (D : LMeta) (i : Nat) (w : World) (h : MetaAt w m D) (hi : i < D.lives.length) [Blk w mb (.cells #[.pointer (some ⟨m, 0, none⟩)] 27 (0, 0))] [Blk w bb (.cells #[.int .i64 (i : Int)] 3 (0, 0))] : Ret Try.prog 67 #[.pointer (some ⟨mb, 0, none⟩), .pointer (some ⟨bb, 0, none⟩)] w (fun v w' => v = .bool (!D.lives[i]) ∧ Lk w' w NoB) := by
 haveI hb : Blk w m _ := ⟨h.hb⟩
 haveI hL : OwnI w D.LA _ _ _ _ _ _ _ := ⟨h.lives⟩
 refine ret_of_x (N := 11) (l := [.pointer (some ⟨mb, 0, none⟩), .pointer (some ⟨bb, 0, none⟩)]) Try.func67 rfl rfl (Nat.le_of_ble_eq_true rfl) ?_
 refine x_seq ?_
 refine x_regionL ?_
 refine xl_v v_assign ?_
 refine xl_nil ?_
 refine x_seq ?_
 refine x_drawL (NoB) (allS) (.take 0 (.take 1 (.take 2 (.take 3 (.take 4 (.take 5 (.take 6 (.take 7 (.take 8 .done))))))))) mixed (by kernel_rfl) (fun _ _ _ _ _ h => h) (fun w1 l1 => ?_)
 refine xt_Ld rfl ?_
 refine xt_Nc rfl ?_
 refine xt_Fa rfl ?_
 refine xt_Ld rfl ?_
 refine xt_Ld rfl ?_
 refine xt_v rfl (v_indexO i rfl (by omega) hi) ?_
 refine xt_v rfl (v_loadO (k := i) hi) ?_
 refine xt_v rfl v_not ?_
 refine xt_v rfl v_assign ?_
 refine xt_nil ?_
 refine x_ret ?_
 refine fin1 rfl ?_
 exact ⟨rfl, lkc⟩

/-- (*waystation/meta.Meta).Elect$2 -/
theorem elect2_ok (ub vb bb : Nat) (A : Option Addr) (k : Nat) (xs : List LV) (u : Bool) (b : Int) (w : World) [Blk w ub (.cells #[.bool u] 4 (0, 0))] [Blk w vb (.cells #[padd A (k * 4)] 109 (0, 0))] [Blk w bb (.cells #[.int .i64 b] 3 (0, 0))] [Row w A (xs.flatMap viewC)] (hk : k < xs.length) [Row w xs[k].A (ints xs[k].v.isr)] (hl : xs[k].v.isr.length ≤ 1000) : Ret Try.prog 68 #[.pointer (some ⟨ub, 0, none⟩), .pointer (some ⟨vb, 0, none⟩), .pointer (some ⟨bb, 0, none⟩)] w (fun v w' => v = .bool (!u && !decide (b ∈ xs[k].v.isr)) ∧ Lk w' w NoB) := by
 have hA := row_some (w := w) (A := A) (cs := xs.flatMap viewC) inferInstance (by rw [flat_len (sz := 4) (fun _ => rfl)]; omega)
 refine ret_of_x (N := 15) (l := [.pointer (some ⟨ub, 0, none⟩), .pointer (some ⟨vb, 0, none⟩), .pointer (some ⟨bb, 0, none⟩)]) Try.func68 rfl rfl (Nat.le_of_ble_eq_true rfl) ?_
 refine x_seq ?_
 refine x_regionL ?_
 refine xl_v v_assign ?_
 refine xl_nil ?_
 refine x_seq ?_
 refine x_drawL (NoB) (allS) (.take 0 (.take 1 (.take 2 (.take 3 (.take 4 (.take 5 (.take 6 (.take 7 (.eff 8 (.take 9 (.take 10 (.take 11 .done)))))))))))) mixed (by kernel_rfl) (fun _ _ _ _ _ h => h) (fun w1 l1 => ?_)
 refine xt_Ld rfl ?_
 refine xt_v rfl v_not ?_
 refine xt_v rfl v_move ?_
 refine xt_split 6 (fun g6 => ?_) (fun g6 => ?_)
 ·
  refine xt_gLd rfl rfl EvO.eq ?_
  refine xt_gNc rfl rfl EvO.eq ?_
  refine xt_gFa rfl rfl EvO.eq ?_
  refine xt_gLd rfl rfl EvO.eq ?_
  refine xt_gLd rfl rfl EvO.eq ?_
  refine xt_gcall rfl rfl EvO.eq (contains_ok xs[k].A _ _ xs[k].v.isr b w1 rfl (by omega)) ?_
  rintro _ w2 ⟨rfl, lk5⟩
  refine ⟨kpc, ?_⟩
  refine xt_gv rfl rfl EvO.eq v_not ?_
  refine xt_Pk rfl ?_
  refine xt_v rfl v_assign ?_
  refine xt_nil ?_
  refine x_ret ?_
  refine fin1 rfl ?_
  refine ⟨congrArg Value.bool ?_, lkc⟩
  simp at g6
  simp [g6]
 ·
  refine xt_gs rfl rfl EvO.eq ?_
  refine xt_gs rfl rfl EvO.eq ?_
  refine xt_gs rfl rfl EvO.eq ?_
  refine xt_gs rfl rfl EvO.eq ?_
  refine xt_gs rfl rfl EvO.eq ?_
  refine xt_gse rfl rfl EvO.eq ?_
  refine xt_gs rfl rfl EvO.eq ?_
  refine xt_Pk rfl ?_
  refine xt_v rfl v_assign ?_
  refine xt_nil ?_
  refine x_ret ?_
  refine fin1 rfl ?_
  refine ⟨congrArg Value.bool ?_, lkc⟩
  simp at g6
  simp [g6]
set_option maxHeartbeats 1000000 in
/-- (*waystation/meta.Meta).Elect -/
theorem elect_ok (m : Nat) (D : LMeta) (p b : Int) (u : Bool) (w : World) (h : MetaAt w m D) (hok : D.pure.ok) : Ret Try.prog 30 #[.pointer (some ⟨m, 0, none⟩), .int .i64 p, .int .i64 b, .bool u] w (fun v w' => v = .int .i64 (D.pure.elect p b u).2 ∧ Made m D w (D.pure.elect p b u).1 w' ∧ Lk w' w (MetaB m D)) := by
 haveI hb : Blk w m _ := ⟨h.hb⟩
 have hmost : most = 2147483647 := rfl
 haveI hV : OwnI w D.VA _ _ _ _ _ _ _ := ⟨h.views⟩
 haveI hL : OwnI w D.LA _ _ _ _ _ _ _ := ⟨h.lives⟩
 obtain ⟨hll, hvl, hwl, hnb, hpl, _⟩ := lens hok
 refine ret_of_x (N := 75) (l := [.pointer (some ⟨m, 0, none⟩), .int .i64 p, .int .i64 b, .bool u]) Try.func30 rfl rfl (Nat.le_of_ble_eq_true rfl) ?_
 refine x_seq ?_
 refine x_regionL ?_
 refine xl_e (e_box fun b1 w1 n1 l1 k1 => ?_)
 refine xl_e (e_box fun b2 w2 n2 l2 k2 => ?_)
 refine xl_e (e_box fun b3 w3 n3 l3 k3 => ?_)
 refine xl_v v_assign ?_
 refine xl_nil ?_
 refine x_scopeG (l := 0) (fun τ ds w' => ds = [] ∧ ∃ e : Int, Ev τ 8 (.int .i64 e) ∧ e = (D.pure.elect p b u).2 ∧ Made m D w (D.pure.elect p b u).1 w' ∧ Lk w' w (MetaB m D)) rfl ?_ ?_
 ·
  refine x_seq ?_
  refine x_regionL ?_
  refine xl_e (e_alloc fun b4 w4 n4 l4 k4 => ?_)
  refine xl_nil ?_
  refine x_seq ?_
  refine x_seq ?_
  refine x_drawL (NoB) (allS) (.take 0 (.take 2 (.take 3 (.take 5 (.take 6 (.eff 1 (.eff 4 (.eff 7 (.eff 8 (.eff 9 (.take 10 .done))))))))))) mixed (by kernel_rfl) (fun _ _ _ _ _ h => h) (fun w5 l5 => ?_)
  refine xt_Ld rfl ?_
  refine xt_Ld rfl ?_
  refine xt_v rfl v_move ?_
  refine xt_Ld rfl ?_
  refine xt_Ld rfl ?_
  refine xt_call rfl (isNone_ok m D w5 (h.ext (kpc : Keep NoB w w5))) ?_
  rintro _ w6 ⟨⟨x1, rfl, hw1, hb1, hc1⟩, lk1⟩
  refine ⟨kpc, ?_⟩
  refine xt_call rfl (part_ok m D p w6 (h.ext (kpc : Keep NoB w w6))) ?_
  rintro _ w7 ⟨⟨x2, rfl, hw2, hb2, hc2⟩, lk2⟩
  refine ⟨kpc, ?_⟩
  refine xt_call rfl (broker_ok m D b w7 (h.ext (kpc : Keep NoB w w7))) ?_
  rintro _ w8 ⟨⟨x3, rfl, hw3, hb3, hc3⟩, lk3⟩
  refine ⟨kpc, ?_⟩
  refine xt_e rfl (e_buildSliceM (vs := [x1, x2, x3].flatMap chkC) rfl rfl rfl fun b5 w9 n5 l5 k5 => ?_)
  refine xt_call rfl (first3_ok _ _ x1 x2 x3 w9 (hc1.ext lkc) (fun _ => hc2.ext lkc) (fun _ _ => hc3.ext lkc) (if ¬ inN p D.np ∨ ¬ inN b D.nb then 2 else 0) (by rw [hb1, hb2, hw2, hb3, hw3, decide_eq_false (by omega)]; by_cases e : inN p D.np <;> by_cases e2 : inN b D.nb <;> simp [e, e2])) ?_
  rintro _ w10 ⟨rfl, lk4⟩
  refine ⟨kpc, ?_⟩
  refine xt_v rfl v_assign ?_
  refine xt_nil ?_
  refine x_seq ?_
  refine x_regionL ?_
  refine xl_v v_move ?_
  refine xl_v v_neq ?_
  refine xl_nil ?_
  first | refine x_condP (fun c1 => ?_) (fun c1 => ?_) | refine x_condN (fun c1 => ?_) (fun c1 => ?_) | refine x_condE (fun c1 => ?_) (fun c1 => ?_)
  ·
   have hn : ¬ inN p D.np ∨ ¬ inN b D.nb := Classical.byContradiction fun e => by rw [if_neg e] at c1; exact c1 rfl
   have hr : D.pure.elect p b u = (D.pure, 2) := if_pos hn
   have hres : (if ¬ inN p D.np ∨ ¬ inN b D.nb then 2 else 0) = (D.pure.elect p b u).2 ∧ Made m D w (D.pure.elect p b u).1 w10 ∧ Lk w10 w (MetaB m D) := ⟨by rw [hr, if_pos hn], Made.stay h kpc (by rw [hr]), lkc⟩
   refine x_goto ?_
   exact And.intro rfl (And.intro rfl ⟨_, inferInstance, hres⟩)
  ·
   have hn0 : ¬ (¬ inN p D.np ∨ ¬ inN b D.nb) := fun e => by simp [e] at c1
   have hr : D.pure.elect p b u = _ := if_neg hn0
   have hn : inN p D.np := Classical.byContradiction fun e => hn0 (.inl e)
   have hnb2 : inN b D.nb := Classical.byContradiction fun e => hn0 (.inr e)
   obtain ⟨i, rfl, hi⟩ := nat_of hn
   obtain ⟨j, rfl, hj⟩ := nat_of hnb2
   have hi : i < D.vs.length := by omega
   have hj : j < D.lives.length := by omega
   have ho := hok.view hn
   rw [view_at hi, live_at2 hj] at hr
   rw [view_at hi] at ho
   have he0 := ho.e0
   have he1 := ho.e1
   have hv0 := ho.v0
   have hv1 := ho.v1
   have hrise : Rises D.nb D.vs[i].v.isr := ho.rise
   have hpl2 := rises_len hrise
   have hi' : D.vs[i]? = some D.vs[i] := List.getElem?_eq_getElem hi
   have hVA : D.VA.isSome = true := row_some (w := w) (A := D.VA) (cs := D.vs.flatMap viewC) inferInstance (by rw [flat_len (sz := 4) (fun _ => rfl)]; omega)
   haveI apw : ApA D.VA D.vs[i].A := h.ap (s := .v) (t := .vi i) rfl (addr_vi hi') nofun
   haveI apw2 : ApA D.vs[i].A D.VA := apw.symm
   haveI apm : ApB D.VA m := h.apm (s := .v) rfl nofun
   haveI hPt : OwnI w D.vs[i].A _ _ _ _ _ _ _ := ⟨h.isr i _ hi'⟩
   refine x_skip ?_
   refine x_seq ?_
   refine x_regionL ?_
   refine xl_Ld ?_
   refine xl_Nc ?_
   refine xl_Fa ?_
   refine xl_Ld ?_
   refine xl_v v_move ?_
   refine xl_v (v_indexF i (by decide) rfl (by omega) hi) ?_
   refine xl_s (e_store fun w11 l11 k11 => ?_)
   refine xl_nil ?_
   refine x_seq ?_
   have hc4 : ∀ W, Lk W w11 NoB → ChkAt W ⟨67, [], [.pointer (some ⟨b1, 0, none⟩), .pointer (some ⟨b2, 0, none⟩)], 201, !D.lives[j]⟩ := fun W l1 W2 l2 => by
    have hM2 := h.ext ((kpc : Keep NoB w w11).trans (l1.keep.trans l2.keep))
    haveI : Lk W2 w11 NoB := ⟨l1.keep.trans l2.keep⟩
    haveI : Blk W2 b1 _ := inferInstance
    haveI : Blk W2 b2 _ := inferInstance
    exact CallV.of_ret (elect1_ok b1 b2 m D j W2 hM2 hj)
   have hc5 : ∀ W, Lk W w11 NoB → ChkAt W ⟨68, [], [.pointer (some ⟨b3, 0, none⟩), .pointer (some ⟨b4, 0, none⟩), .pointer (some ⟨b2, 0, none⟩)], 202, !u && !decide ((j : Int) ∈ D.vs[i].v.isr)⟩ := fun W l1 W2 l2 => by
    haveI : Lk W2 w11 NoB := ⟨l1.keep.trans l2.keep⟩
    haveI : Row W2 D.VA (D.vs.flatMap viewC) := inferInstance
    haveI : Row W2 D.vs[i].A (ints D.vs[i].v.isr) := inferInstance
    haveI : Blk W2 b3 _ := inferInstance
    haveI : Blk W2 b4 _ := inferInstance
    haveI : Blk W2 b2 _ := inferInstance
    exact CallV.of_ret (elect2_ok b3 b4 b2 D.VA i D.vs u j W2 hi (by omega))
   refine x_drawL (NoB) (allS) (.take 0 (.take 1 (.take 2 (.take 3 (.take 4 (.take 5 (.take 6 (.take 7 (.take 8 (.take 9 (.eff 10 (.eff 11 (.eff 12 (.eff 13 (.take 14 .done))))))))))))))) mixed (by kernel_rfl) (fun _ _ _ _ _ h => h) (fun w12 l12 => ?_)
   refine xt_v rfl v_makeFunc ?_
   refine xt_v rfl v_build ?_
   refine xt_v rfl v_makeFunc ?_
   refine xt_v rfl v_build ?_
   refine xt_Ld rfl ?_
   refine xt_Nc rfl ?_
   refine xt_Fa rfl ?_
   refine xt_Ld rfl ?_
   refine xt_Nc rfl ?_
   refine xt_Fa rfl ?_
   refine xt_e rfl (e_buildSliceN rfl fun b6 w13 n6 l6 k6 => ?_)
   haveI : Row w13 (some ⟨b6, 0, none⟩) (([(D.VA, i * 4 + 1, D.vs[i].v.epoch), (D.VA, i * 4 + 2, D.vs[i].v.ver)] : List PtI).map ptC) := ⟨row_blk Blk.eq⟩
   refine xt_call rfl (end_ok _ 2 _ [(D.VA, i * 4 + 1, D.vs[i].v.epoch), (D.VA, i * 4 + 2, D.vs[i].v.ver)] w13 rfl (by omega) (forall2 (ptV hi 1 _ rfl) (ptV hi 2 _ rfl))) ?_
   rintro _ w14 ⟨⟨x6, rfl, hw6, hb6, hc6⟩, lk5⟩
   refine ⟨kpc, ?_⟩
   refine xt_e rfl (e_buildSliceM (vs := [⟨67, [], [.pointer (some ⟨b1, 0, none⟩), .pointer (some ⟨b2, 0, none⟩)], 201, !D.lives[j]⟩, ⟨68, [], [.pointer (some ⟨b3, 0, none⟩), .pointer (some ⟨b4, 0, none⟩), .pointer (some ⟨b2, 0, none⟩)], 202, !u && !decide ((j : Int) ∈ D.vs[i].v.isr)⟩, x6].flatMap chkC) rfl rfl rfl fun b7 w15 n7 l7 k7 => ?_)
   refine xt_call rfl (first3_ok _ _ ⟨67, [], [.pointer (some ⟨b1, 0, none⟩), .pointer (some ⟨b2, 0, none⟩)], 201, !D.lives[j]⟩ ⟨68, [], [.pointer (some ⟨b3, 0, none⟩), .pointer (some ⟨b4, 0, none⟩), .pointer (some ⟨b2, 0, none⟩)], 202, !u && !decide ((j : Int) ∈ D.vs[i].v.isr)⟩ x6 w15 (hc4 _ lkc) (fun _ => hc5 _ lkc) (fun _ _ => hc6.ext lkc) (if D.lives[j] = false then 201 else if u = false ∧ (j : Int) ∉ D.vs[i].v.isr then 202 else if D.vs[i].v.epoch = most ∨ D.vs[i].v.ver = most then 204 else 0) (by
     rw [hb6, hw6]
     simp only [List.any_cons, List.any_nil, Bool.or_false]
     have q1 : decide (most ≤ D.vs[i].v.epoch) = decide (D.vs[i].v.epoch = most) := by rw [decide_eq_decide]; omega
     have q2 : decide (most ≤ D.vs[i].v.ver) = decide (D.vs[i].v.ver = most) := by rw [decide_eq_decide]; omega
     rw [q1, q2]
     cases D.lives[j] <;> cases u <;> by_cases e3 : (j : Int) ∈ D.vs[i].v.isr <;> by_cases e1 : D.vs[i].v.epoch = most <;> by_cases e2 : D.vs[i].v.ver = most <;> simp [e1, e2, e3])) ?_
   rintro _ w16 ⟨rfl, lk6⟩
   refine ⟨kpc, ?_⟩
   refine xt_v rfl v_assign ?_
   refine xt_nil ?_
   refine x_seq ?_
   refine x_seq ?_
   refine x_regionL ?_
   refine xl_v v_move ?_
   refine xl_v v_neq ?_
   refine xl_nil ?_
   first | refine x_condP (fun c2 => ?_) (fun c2 => ?_) | refine x_condN (fun c2 => ?_) (fun c2 => ?_) | refine x_condE (fun c2 => ?_) (fun c2 => ?_)
   ·
    have hE : D.pure.elect (i : Int) (j : Int) u = (D.pure, if D.lives[j] = false then 201 else if u = false ∧ (j : Int) ∉ D.vs[i].v.isr then 202 else if D.vs[i].v.epoch = most ∨ D.vs[i].v.ver = most then 204 else 0) := by
     rw [hr]
     split
     ·rfl
     next e1 =>
     rw [if_neg e1] at c2
     split
     ·rfl
     next e2 =>
     rw [if_neg e2] at c2
     split
     ·rfl
     next e3 =>
     rw [if_neg e3] at c2
     exact absurd rfl c2
    have hres : (if D.lives[j] = false then 201 else if u = false ∧ (j : Int) ∉ D.vs[i].v.isr then 202 else if D.vs[i].v.epoch = most ∨ D.vs[i].v.ver = most then 204 else 0) = (D.pure.elect (i : Int) (j : Int) u).2 ∧ Made m D w (D.pure.elect (i : Int) (j : Int) u).1 w16 ∧ Lk w16 w (MetaB m D) := ⟨by rw [hE], Made.stay h kpc (by rw [hE]), lkc⟩
    refine x_goto ?_
    exact And.intro rfl (And.intro rfl ⟨_, inferInstance, hres⟩)
   ·
    have e1 : ¬ D.lives[j] = false := fun e => by simp [e] at c2
    have e2 : ¬ (u = false ∧ (j : Int) ∉ D.vs[i].v.isr) := fun e => by rw [if_neg e1, if_pos e] at c2; omega
    have e3 : ¬ (D.vs[i].v.epoch = most ∨ D.vs[i].v.ver = most) := fun e => by rw [if_neg e1, if_neg e2, if_pos e] at c2; omega
    rw [if_neg e1, if_neg e2, if_neg e3] at hr
    obtain ⟨wP, hwP⟩ : ∃ x, x = w16 := ⟨_, rfl⟩
    have hkP : Keep NoB w wP := by rw [hwP]; exact kpc
    refine x_skip ?_
    refine x_seq ?_
    refine x_seq ?_
    refine x_drawL (NoB) (allS) (.take 0 (.take 1 (.take 2 (.take 3 (.take 4 (.eff 5 (.take 6 .done))))))) mixed (by kernel_rfl) (fun _ _ _ _ _ h => h) (fun w17 l17 => ?_)
    refine xt_Ld rfl ?_
    refine xt_Nc rfl ?_
    refine xt_Fa rfl ?_
    refine xt_Ld rfl ?_
    refine xt_Ld rfl ?_
    refine xt_call rfl (contains_ok D.vs[i].A _ _ D.vs[i].v.isr j w17 rfl (by omega)) ?_
    rintro _ w18 ⟨rfl, lk7⟩
    refine ⟨kpc, ?_⟩
    refine xt_v rfl v_not ?_
    refine xt_nil ?_
    first | refine x_condP (fun c3 => ?_) (fun c3 => ?_) | refine x_condN (fun c3 => ?_) (fun c3 => ?_) | refine x_condE (fun c3 => ?_) (fun c3 => ?_)
    ·
     have hnm : (j : Int) ∉ D.vs[i].v.isr := by simpa using c3
     have hbP : wP.heap.size ≤ (w18).heap.size := by rw [hwP]; exact Ge.le
     refine x_regionL ?_
     refine xl_Ld ?_
     refine xl_Ld ?_
     refine xl_e (e_buildSlice1 rfl fun b8 w19 n8 l8 k8 => ?_)
     have ho8 : World.ownsRow w19 0 3 1 (.slice (some ⟨b8, 0, none⟩) 1 1) 1 (ints [(j : Int)]) := ownsRow_blk (Nat.zero_le _) k8.eq (by simp [ints]) (by omega)
     obtain ⟨x, hx⟩ : ∃ x : LV, x = ⟨⟨D.vs[i].v.lead, D.vs[i].v.epoch, D.vs[i].v.ver, [(j : Int)]⟩, some ⟨b8, 0, none⟩, 1⟩ := ⟨_, rfl⟩
     haveI oX : OwnI w19 x.A x.v.isr.length x.c 0 3 1 x.v.isr.length (ints x.v.isr) := ⟨by rw [hx]; exact ho8⟩
     have hb8 : wP.heap.size ≤ b8 := by have := n8.eq; omega
     refine xl_Nc ?_
     refine xl_Fa ?_
     refine xl_s (e_storeG ⟨⟨D.vs[i].v.lead, D.vs[i].v.epoch, D.vs[i].v.ver, [(j : Int)]⟩, some ⟨b8, 0, none⟩, 1⟩ hi rfl (by decide) rfl fun w20 ys hys hiy hly hgy0 l12 on12 => ?_)
     haveI apX : ApA D.VA x.A := by rw [hx]; exact inferInstance
     have hgy : ys[i] = x := by rw [hgy0, hx]
     rw [← hx] at hys
     have hrx : D.pure.elect (i : Int) (j : Int) u = (D.pure.setV i ⟨j, x.v.epoch + 1, x.v.ver + 1, x.v.isr⟩, 0) := by rw [hr, if_neg hnm, hx]
     have hxA : blkA x.A = blkA D.vs[i].A ∨ ∀ k, blkA x.A = some k → wP.heap.size ≤ k := .inr (by rw [hx]; intro k e; have e' : some b8 = some k := e; injection e' with e'; omega)
     have hxe : x.v.epoch = D.vs[i].v.epoch ∧ x.v.ver = D.vs[i].v.ver := by rw [hx]; exact ⟨rfl, rfl⟩
     refine xl_nil ?_
     refine x_seq ?_
     refine x_regionL ?_
     refine xl_Ld ?_
     refine xl_Ld ?_
     refine xl_Nc ?_
     refine xl_Fa ?_
     refine xl_s (e_storeG0 (x.up j x.v.epoch x.v.ver) hiy hly (by decide) (by rw [hgy]; rfl) fun w21 ya hya hia hla hga l13 on13 => ?_)
     refine xl_nil ?_
     refine x_seq ?_
     refine x_regionL ?_
     refine xl_Ld ?_
     refine xl_Nc ?_
     refine xl_Fa ?_
     refine xl_v (v_congr (u := .int .i64 x.v.epoch) (v_loadFf hia) (by rw [hga])) ?_
     refine xl_v (v_add (by omega)) ?_
     refine xl_Nc ?_
     refine xl_Fa ?_
     refine xl_s (e_storeG (x.up j (x.v.epoch + 1) x.v.ver) hia hla (by decide) (by rw [hga]; rfl) fun w22 yb hyb hib hlb hgb l14 on14 => ?_)
     refine xl_nil ?_
     refine x_seq ?_
     refine x_regionL ?_
     refine xl_Ld ?_
     refine xl_Nc ?_
     refine xl_Fa ?_
     refine xl_v (v_congr (u := .int .i64 x.v.ver) (v_loadFf hib) (by rw [hgb])) ?_
     refine xl_v (v_add (by omega)) ?_
     refine xl_Nc ?_
     refine xl_Fa ?_
     refine xl_s (e_storeG (x.up j (x.v.epoch + 1) (x.v.ver + 1)) hib hlb (by decide) (by rw [hgb]; rfl) fun w23 yc hyc hic hlc hgc l15 on15 => ?_)
     rw [hyb, hya, hys, List.set_set, List.set_set, List.set_set] at hyc
     have hM : Made m D w (D.pure.elect (i : Int) (j : Int) u).1 w23 := by
      rw [hrx]
      exact Made.setV h hkP hi (x.up j (x.v.epoch + 1) (x.v.ver + 1)) (S := OwnB (.slice D.VA D.vs.length D.vc)) (W' := w23) (by rw [hwP]; exact kpc) (fun k _ e => .inl (ownB_blk.1 e)) (by have := (OwnI.own : World.ownsRow w23 _ _ _ (.slice D.VA _ D.vc) _ _); rw [hyc] at this; exact this) (OwnI.own : World.ownsRow w23 _ _ _ (.slice x.A _ _) _ _) hxA
     refine xl_nil ?_
     refine x_seq ?_
     refine x_seq ?_
     refine x_regionL ?_
     refine xl_v v_assign ?_
     refine xl_nil ?_
     refine x_ret ?_
     refine fin1 rfl ?_
     exact ⟨by rw [hrx], hM, lkc⟩
    ·
     have hnm : (j : Int) ∈ D.vs[i].v.isr := by simpa using c3
     obtain ⟨x, hx⟩ : ∃ x : LV, x = D.vs[i] := ⟨_, rfl⟩
     obtain ⟨ys, hys0⟩ : ∃ ys : List LV, ys = D.vs := ⟨_, rfl⟩
     have hiy : i < ys.length := by rw [hys0]; exact hi
     have hly : ys.length = D.vs.length := by rw [hys0]
     have hgy : ys[i] = x := by subst hys0; exact hx.symm
     have hys : ys = D.vs.set i x := by rw [hys0, hx]; simp
     haveI on12 : OwnI w18 D.VA _ _ _ _ _ _ (ys.flatMap viewC) := by rw [hys0]; exact inferInstance
     haveI rn12 : Row w18 D.VA (ys.flatMap viewC) := by rw [hys0]; exact inferInstance
     haveI oX : OwnI w18 x.A x.v.isr.length x.c 0 3 1 x.v.isr.length (ints x.v.isr) := by rw [hx]; exact inferInstance
     haveI apX : ApA D.VA x.A := by rw [hx]; exact apw
     have hrx : D.pure.elect (i : Int) (j : Int) u = (D.pure.setV i ⟨j, x.v.epoch + 1, x.v.ver + 1, x.v.isr⟩, 0) := by rw [hr, if_pos hnm, hx]
     have hxA : blkA x.A = blkA D.vs[i].A ∨ ∀ k, blkA x.A = some k → wP.heap.size ≤ k := .inl (by rw [hx])
     have hxe : x.v.epoch = D.vs[i].v.epoch ∧ x.v.ver = D.vs[i].v.ver := by rw [hx]; exact ⟨rfl, rfl⟩
     refine x_skip ?_
     refine x_seq ?_
     refine x_regionL ?_
     refine xl_Ld ?_
     refine xl_Ld ?_
     refine xl_Nc ?_
     refine xl_Fa ?_
     refine xl_s (e_storeG0 (x.up j x.v.epoch x.v.ver) hiy hly (by decide) (by rw [hgy]; rfl) fun w24 ya hya hia hla hga l13 on13 => ?_)
     refine xl_nil ?_
     refine x_seq ?_
     refine x_regionL ?_
     refine xl_Ld ?_
     refine xl_Nc ?_
     refine xl_Fa ?_
     refine xl_v (v_congr (u := .int .i64 x.v.epoch) (v_loadFf hia) (by rw [hga])) ?_
     refine xl_v (v_add (by omega)) ?_
     refine xl_Nc ?_
     refine xl_Fa ?_
     refine xl_s (e_storeG (x.up j (x.v.epoch + 1) x.v.ver) hia hla (by decide) (by rw [hga]; rfl) fun w25 yb hyb hib hlb hgb l14 on14 => ?_)
     refine xl_nil ?_
     refine x_seq ?_
     refine x_regionL ?_
     refine xl_Ld ?_
     refine xl_Nc ?_
     refine xl_Fa ?_
     refine xl_v (v_congr (u := .int .i64 x.v.ver) (v_loadFf hib) (by rw [hgb])) ?_
     refine xl_v (v_add (by omega)) ?_
     refine xl_Nc ?_
     refine xl_Fa ?_
     refine xl_s (e_storeG (x.up j (x.v.epoch + 1) (x.v.ver + 1)) hib hlb (by decide) (by rw [hgb]; rfl) fun w26 yc hyc hic hlc hgc l15 on15 => ?_)
     rw [hyb, hya, hys, List.set_set, List.set_set, List.set_set] at hyc
     have hM : Made m D w (D.pure.elect (i : Int) (j : Int) u).1 w26 := by
      rw [hrx]
      exact Made.setV h hkP hi (x.up j (x.v.epoch + 1) (x.v.ver + 1)) (S := OwnB (.slice D.VA D.vs.length D.vc)) (W' := w26) (by rw [hwP]; exact kpc) (fun k _ e => .inl (ownB_blk.1 e)) (by have := (OwnI.own : World.ownsRow w26 _ _ _ (.slice D.VA _ D.vc) _ _); rw [hyc] at this; exact this) (OwnI.own : World.ownsRow w26 _ _ _ (.slice x.A _ _) _ _) hxA
     refine xl_nil ?_
     refine x_seq ?_
     refine x_seq ?_
     refine x_regionL ?_
     refine xl_v v_assign ?_
     refine xl_nil ?_
     refine x_ret ?_
     refine fin1 rfl ?_
     exact ⟨by rw [hrx], hM, lkc⟩
 ·
  intro τ27 ds27 w27 hI
  obtain ⟨rfl, e, e8, he, hM, lk⟩ := hI
  refine x_seq ?_
  refine x_skip ?_
  refine x_seq ?_
  refine x_regionL ?_
  refine xl_v v_move ?_
  refine xl_v v_assign ?_
  refine xl_nil ?_
  refine x_ret ?_
  refine fin1 rfl ?_
  exact ⟨by rw [he], hM, lkc⟩
end Go.Proofs.Ytnjpladlfiaojaa
