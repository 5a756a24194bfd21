/-
 Walks, printed by a program of this workplace (wip/tools/sx.py) off the functions' code and a text of contracts.
-/
import Derived.Test.YtnjpladlfiaojaaP
set_option linter.all false
set_option maxRecDepth 100000
set_option synthInstance.maxSize 100000
set_option synthInstance.maxHeartbeats 400000
namespace Go.Proofs.Ytnjpladlfiaojaa
open Go.Wst
open Go.Wst.Ct

/-- (*waystation/meta.Meta).Lives -/
theorem lives_ok (m : Nat) (D : LMeta) (i : Nat) (w : World) (h : MetaAt w m D) (hok : D.pure.ok) (hi : i < D.nb) : Ret Try.prog 19 #[.pointer (some ⟨m, 0, none⟩), .int .i64 (i : Int)] w (fun v w' => v = .tuple #[.bool (D.pure.live i), .int .i64 0] ∧ Lk w' w NoB) := by
 haveI hb : Blk w m _ := ⟨h.hb⟩
 haveI hL : OwnI w D.LA _ _ _ _ _ _ _ := ⟨h.lives⟩
 obtain ⟨hll, hvl, hwl, _, _, _⟩ := lens hok
 have hin : inN (i : Int) D.nb := ⟨by omega, by omega⟩
 have hil : i < D.lives.length := by omega
 refine ret_of_x (N := 24) (l := [.pointer (some ⟨m, 0, none⟩), .int .i64 (i : Int)]) Try.func19 rfl rfl (Nat.le_of_ble_eq_true rfl) ?_
 refine x_seq ?_
 refine x_regionL ?_
 refine xl_v v_assign ?_
 refine xl_v v_assign ?_
 refine xl_nil ?_
 refine x_seq ?_
 refine x_seq ?_
 refine x_regionL ?_
 refine xl_v v_move ?_
 refine xl_call (isNone_ok m D w (h.ext (kpc : Keep NoB w w))) ?_
 rintro _ w1 ⟨⟨x1, rfl, hw1, hb1, hc1⟩, lk1⟩
 refine xl_v v_move ?_
 refine xl_v v_move ?_
 refine xl_call (broker_ok m D i w1 (h.ext (kpc : Keep NoB w w1))) ?_
 rintro _ w2 ⟨⟨x2, rfl, hw2, hb2, hc2⟩, lk2⟩
 refine xl_e (e_buildSliceM (vs := [x1, x2].flatMap chkC) rfl rfl rfl fun b5 w3 n5 l5 k5 => ?_)
 refine xl_call (first2_ok _ _ x1 x2 w3 (hc1.ext lkc) (fun _ => hc2.ext lkc) 0 (by rw [hb1, hb2, hw2, decide_eq_false (by omega), decide_eq_true hin]; rfl)) ?_
 rintro _ w4 ⟨rfl, lk3⟩
 refine xl_v v_assign ?_
 refine xl_nil ?_
 refine x_seq ?_
 refine x_regionL ?_
 refine xl_v v_move ?_
 refine xl_v v_neq ?_
 refine xl_nil ?_
 first | refine x_condP (fun c1 => ?_) (fun c1 => ?_) | refine x_condN (fun c1 => ?_) (fun c1 => ?_) | refine x_condE (fun c1 => ?_) (fun c1 => ?_)
 ·
  exact absurd rfl c1
 ·
  refine x_skip ?_
  refine x_seq ?_
  refine x_regionL ?_
  refine xl_v v_move ?_
  refine xl_Nc ?_
  refine xl_Fa ?_
  refine xl_Ld ?_
  refine xl_v v_move ?_
  refine xl_v (v_indexO i rfl (by omega) hil) ?_
  refine xl_v (v_loadO (k := i) hil) ?_
  refine xl_v v_assign ?_
  refine xl_v v_assign ?_
  refine xl_nil ?_
  refine x_ret ?_
  refine fin2 rfl ?_
  exact ⟨by rw [live_at2 hil], lkc⟩

/-- (*waystation/meta.Meta).View -/
theorem view_ok (m : Nat) (D : LMeta) (i : Nat) (w : World) (h : MetaAt w m D) (hok : D.pure.ok) (hi : i < D.np) : Ret Try.prog 18 #[.pointer (some ⟨m, 0, none⟩), .int .i64 (i : Int)] w (fun v w' => (∃ x : LV, v = .tuple #[.agg (viewC x).toArray, .int .i64 0] ∧ x.v = D.pure.view i ∧ w'.ownsRow w.heap.size 3 1 (.slice x.A x.v.isr.length x.c) x.v.isr.length (ints x.v.isr)) ∧ Lk w' w NoB) := by
 haveI hb : Blk w m _ := ⟨h.hb⟩
 haveI hV : OwnI w D.VA _ _ _ _ _ _ _ := ⟨h.views⟩
 obtain ⟨hll, hvl, hwl, hnb, _, _⟩ := lens hok
 have hin : inN (i : Int) D.np := ⟨by omega, by omega⟩
 have hil : i < D.vs.length := by omega
 have hi' : D.vs[i]? = some D.vs[i] := List.getElem?_eq_getElem hil
 haveI hPt : OwnI w D.vs[i].A _ _ _ _ _ _ _ := ⟨h.isr i _ hi'⟩
 have hpl2 := rises_len (hok.view hin).rise
 rw [view_at hil] at hpl2
 have hpl3 : D.vs[i].v.isr.length ≤ D.nb := hpl2
 refine ret_of_x (N := 31) (l := [.pointer (some ⟨m, 0, none⟩), .int .i64 (i : Int)]) Try.func18 rfl rfl (Nat.le_of_ble_eq_true rfl) ?_
 refine x_seq ?_
 refine x_regionL ?_
 refine xl_e (e_alloc fun b1 w1 n1 l1 k1 => ?_)
 refine xl_v v_assign ?_
 refine xl_nil ?_
 refine x_seq ?_
 refine x_seq ?_
 refine x_regionL ?_
 refine xl_v v_move ?_
 refine xl_call (isNone_ok m D w1 (h.ext (kpc : Keep NoB w w1))) ?_
 rintro _ w2 ⟨⟨x1, rfl, hw1, hb1, hc1⟩, lk1⟩
 refine xl_v v_move ?_
 refine xl_v v_move ?_
 refine xl_call (part_ok m D i w2 (h.ext (kpc : Keep NoB w w2))) ?_
 rintro _ w3 ⟨⟨x2, rfl, hw2, hb2, hc2⟩, lk2⟩
 refine xl_e (e_buildSliceM (vs := [x1, x2].flatMap chkC) rfl rfl rfl fun b5 w4 n5 l5 k5 => ?_)
 refine xl_call (first2_ok _ _ x1 x2 w4 (hc1.ext lkc) (fun _ => hc2.ext lkc) 0 (by rw [hb1, hb2, hw2, decide_eq_false (by omega), decide_eq_true hin]; rfl)) ?_
 rintro _ w5 ⟨rfl, lk3⟩
 refine xl_v v_assign ?_
 refine xl_nil ?_
 refine x_seq ?_
 refine x_regionL ?_
 refine xl_v v_move ?_
 refine xl_v v_neq ?_
 refine xl_nil ?_
 first | refine x_condP (fun c1 => ?_) (fun c1 => ?_) | refine x_condN (fun c1 => ?_) (fun c1 => ?_) | refine x_condE (fun c1 => ?_) (fun c1 => ?_)
 ·
  exact absurd rfl c1
 ·
  refine x_skip ?_
  refine x_seq ?_
  refine x_regionL ?_
  refine xl_v v_move ?_
  refine xl_Nc ?_
  refine xl_Fa ?_
  refine xl_Ld ?_
  refine xl_v v_move ?_
  refine xl_v (v_indexF i (by decide) rfl (by omega) hil) ?_
  refine xl_v (v_loadF (k := i) (by decide) hil) ?_
  refine xl_e (e_alloc fun b6 w6 n6 l6 k6 => ?_)
  refine xl_s (e_storeA fun w7 l7 k7 => ?_)
  refine xl_nil ?_
  refine x_seq ?_
  refine x_regionL ?_
  refine xl_Fa ?_
  refine xl_Ld ?_
  refine xl_call (cloneI_ok D.vs[i].A _ D.vs[i].c (ints D.vs[i].v.isr) w7 (by simp [ints]) (by omega) (ints_one _) (own_some (h.isr i _ hi'))) ?_
  rintro _ w8 ⟨⟨A7, c7, rfl, hown7⟩, lk7⟩
  haveI o7 : OwnI w8 A7 _ _ _ _ _ _ _ := ⟨hown7⟩
  haveI na7 : NewA A7 w7 := newA_of hown7 (Nat.le_refl _)
  refine xl_Fa ?_
  refine xl_s (e_store fun w9 l9 k9 => ?_)
  refine xl_nil ?_
  refine x_seq ?_
  refine x_regionL ?_
  refine xl_La ?_
  refine xl_s (e_storeA fun w10 l10 k10 => ?_)
  refine xl_v v_assign ?_
  refine xl_nil ?_
  refine x_ret ?_
  refine finR (rs := [.cell 4 44, .tmp 5]) rfl ?_
  exact ⟨⟨⟨D.vs[i].v, A7, c7⟩, rfl, (view_at hil).symm, own_mono (OwnI.own : World.ownsRow w10 _ _ _ (.slice A7 _ c7) _ _) Ge.le⟩, lkc⟩

/-- (*waystation/meta.Meta).Writing -/
theorem writing_ok (m : Nat) (D : LMeta) (i : Nat) (w : World) (h : MetaAt w m D) (hok : D.pure.ok) (hi : i < D.ni) : Ret Try.prog 21 #[.pointer (some ⟨m, 0, none⟩), .int .i64 (i : Int)] w (fun v w' => (∃ x : LW, v = .tuple #[.agg (wrC x).toArray, .int .i64 0] ∧ x.w = D.pure.wr i ∧ w'.ownsRow w.heap.size 3 1 (.slice x.A x.w.parts.length x.c) x.w.parts.length (ints x.w.parts)) ∧ Lk w' w NoB) := by
 haveI hb : Blk w m _ := ⟨h.hb⟩
 haveI hV : OwnI w D.WA _ _ _ _ _ _ _ := ⟨h.wrs⟩
 obtain ⟨hll, hvl, hwl, hnb, hnp, _⟩ := lens hok
 have hin : inN (i : Int) D.ni := ⟨by omega, by omega⟩
 have hil : i < D.ws.length := by omega
 have hi' : D.ws[i]? = some D.ws[i] := List.getElem?_eq_getElem hil
 haveI hPt : OwnI w D.ws[i].A _ _ _ _ _ _ _ := ⟨h.parts i _ hi'⟩
 have hpl2 := rises_len (hok.wr hin).rise
 rw [wr_at hil] at hpl2
 have hpl3 : D.ws[i].w.parts.length ≤ D.np := hpl2
 refine ret_of_x (N := 31) (l := [.pointer (some ⟨m, 0, none⟩), .int .i64 (i : Int)]) Try.func21 rfl rfl (Nat.le_of_ble_eq_true rfl) ?_
 refine x_seq ?_
 refine x_regionL ?_
 refine xl_e (e_alloc fun b1 w1 n1 l1 k1 => ?_)
 refine xl_v v_assign ?_
 refine xl_nil ?_
 refine x_seq ?_
 refine x_seq ?_
 refine x_regionL ?_
 refine xl_v v_move ?_
 refine xl_call (isNone_ok m D w1 (h.ext (kpc : Keep NoB w w1))) ?_
 rintro _ w2 ⟨⟨x1, rfl, hw1, hb1, hc1⟩, lk1⟩
 refine xl_v v_move ?_
 refine xl_v v_move ?_
 refine xl_call (id_ok m D i w2 (h.ext (kpc : Keep NoB w w2))) ?_
 rintro _ w3 ⟨⟨x2, rfl, hw2, hb2, hc2⟩, lk2⟩
 refine xl_e (e_buildSliceM (vs := [x1, x2].flatMap chkC) rfl rfl rfl fun b5 w4 n5 l5 k5 => ?_)
 refine xl_call (first2_ok _ _ x1 x2 w4 (hc1.ext lkc) (fun _ => hc2.ext lkc) 0 (by rw [hb1, hb2, hw2, decide_eq_false (by omega), decide_eq_true hin]; rfl)) ?_
 rintro _ w5 ⟨rfl, lk3⟩
 refine xl_v v_assign ?_
 refine xl_nil ?_
 refine x_seq ?_
 refine x_regionL ?_
 refine xl_v v_move ?_
 refine xl_v v_neq ?_
 refine xl_nil ?_
 first | refine x_condP (fun c1 => ?_) (fun c1 => ?_) | refine x_condN (fun c1 => ?_) (fun c1 => ?_) | refine x_condE (fun c1 => ?_) (fun c1 => ?_)
 ·
  exact absurd rfl c1
 ·
  refine x_skip ?_
  refine x_seq ?_
  refine x_regionL ?_
  refine xl_v v_move ?_
  refine xl_Nc ?_
  refine xl_Fa ?_
  refine xl_Ld ?_
  refine xl_v v_move ?_
  refine xl_v (v_indexF i (by decide) rfl (by omega) hil) ?_
  refine xl_v (v_loadF (k := i) (by decide) hil) ?_
  refine xl_e (e_alloc fun b6 w6 n6 l6 k6 => ?_)
  refine xl_s (e_storeA fun w7 l7 k7 => ?_)
  refine xl_nil ?_
  refine x_seq ?_
  refine x_regionL ?_
  refine xl_Fa ?_
  refine xl_Ld ?_
  refine xl_call (cloneI_ok D.ws[i].A _ D.ws[i].c (ints D.ws[i].w.parts) w7 (by simp [ints]) (by omega) (ints_one _) (own_some (h.parts i _ hi'))) ?_
  rintro _ w8 ⟨⟨A7, c7, rfl, hown7⟩, lk7⟩
  haveI o7 : OwnI w8 A7 _ _ _ _ _ _ _ := ⟨hown7⟩
  haveI na7 : NewA A7 w7 := newA_of hown7 (Nat.le_refl _)
  refine xl_Fa ?_
  refine xl_s (e_store fun w9 l9 k9 => ?_)
  refine xl_nil ?_
  refine x_seq ?_
  refine x_regionL ?_
  refine xl_La ?_
  refine xl_s (e_storeA fun w10 l10 k10 => ?_)
  refine xl_v v_assign ?_
  refine xl_nil ?_
  refine x_ret ?_
  refine finR (rs := [.cell 4 52, .tmp 5]) rfl ?_
  exact ⟨⟨⟨D.ws[i].w, A7, c7⟩, rfl, (wr_at hil).symm, own_mono (OwnI.own : World.ownsRow w10 _ _ _ (.slice A7 _ c7) _ _) Ge.le⟩, lkc⟩

/-- (*waystation/meta.Meta).Form -/
theorem form_ok (m : Nat) (D : LMeta) (w : World) (h : MetaAt w m D) (hok : D.pure.ok) : Ret Try.prog 33 #[.pointer (some ⟨m, 0, none⟩)] w (fun v w' => v = .agg #[.int .i64 D.nb, .int .i64 D.np, .int .i64 D.ni] ∧ Lk w' w NoB) := by
 haveI hb : Blk w m _ := ⟨h.hb⟩
 obtain ⟨hll, hvl, hwl, _, _, _⟩ := lens hok
 refine ret_of_x (N := 10) (l := [.pointer (some ⟨m, 0, none⟩)]) Try.func33 rfl rfl (Nat.le_of_ble_eq_true rfl) ?_
 refine x_seq ?_
 refine x_regionL ?_
 refine xl_e (e_alloc fun b1 w1 n1 l1 k1 => ?_)
 refine xl_nil ?_
 refine x_seq ?_
 refine x_seq ?_
 refine x_regionL ?_
 refine xl_v v_move ?_
 refine xl_call (none_ok m D w1 (h.ext (kpc : Keep NoB w w1))) ?_
 rintro _ w2 ⟨rfl, lk1⟩
 rw [decide_eq_false (by omega : ¬ D.vs.length = 0)]
 refine xl_nil ?_
 refine x_condF ?_
 refine x_skip ?_
 refine x_seq ?_
 refine x_regionL ?_
 refine xl_v v_move ?_
 refine xl_Nc ?_
 refine xl_Fa ?_
 refine xl_La ?_
 refine xl_s (e_storeA fun w3 l3 k3 => ?_)
 refine xl_nil ?_
 refine x_ret ?_
 refine finR (rs := [.cell 2 26]) rfl ?_
 exact ⟨rfl, lkc⟩

/-- waystation/meta.Same$1 -/
theorem samev_ok (x y : LV) (w : World) [hrx : Row w x.A (ints x.v.isr)] [hry : Row w y.A (ints y.v.isr)] (hl : x.v.isr.length ≤ 1000) : Ret Try.prog 59 #[.agg (viewC x).toArray, .agg (viewC y).toArray] w (fun v w' => v = .bool (decide (x.v = y.v)) ∧ Lk w' w NoB) := by
 haveI rbx : RowB w x.A w (ints x.v.isr) := rowB_of hrx.row
 haveI rby : RowB w y.A w (ints y.v.isr) := rowB_of hry.row
 refine ret_of_x (N := 31) (l := [.agg (viewC x).toArray, .agg (viewC y).toArray]) Try.func59 rfl rfl (Nat.le_of_ble_eq_true rfl) ?_
 refine x_seq ?_
 refine x_regionL ?_
 refine xl_e (e_box fun b1 w1 n1 l1 k1 => ?_)
 refine xl_e (e_box fun b2 w2 n2 l2 k2 => ?_)
 refine xl_v v_assign ?_
 refine xl_nil ?_
 refine x_seq ?_
 refine x_regionL ?_
 refine xl_Fa ?_
 refine xl_Ld ?_
 refine xl_Fa ?_
 refine xl_Ld ?_
 refine xl_v v_eql ?_
 refine xl_v v_move ?_
 refine xl_split 10 (fun g10 => ?_) (fun g10 => ?_)
 ·
  refine xl_gFa rfl EvO.eq ?_
  refine xl_gLd rfl EvO.eq ?_
  refine xl_gFa rfl EvO.eq ?_
  refine xl_gLd rfl EvO.eq ?_
  refine xl_gv rfl EvO.eq v_eql ?_
  refine xl_Pk ?_
  refine xl_v v_move ?_
  refine xl_split 17 (fun g17 => ?_) (fun g17 => ?_)
  ·
   refine xl_gFa rfl EvO.eq ?_
   refine xl_gLd rfl EvO.eq ?_
   refine xl_gFa rfl EvO.eq ?_
   refine xl_gLd rfl EvO.eq ?_
   refine xl_gv rfl EvO.eq v_eql ?_
   refine xl_Pk ?_
   refine xl_v v_move ?_
   refine xl_split 24 (fun g24 => ?_) (fun g24 => ?_)
   ·
    refine xl_gFa rfl EvO.eq ?_
    refine xl_gLd rfl EvO.eq ?_
    refine xl_gFa rfl EvO.eq ?_
    refine xl_gLd rfl EvO.eq ?_
    refine xl_gcall rfl EvO.eq (eqI_ok x.A _ x.c x.v.isr y.A _ y.c y.v.isr w2 rfl rfl (by omega)) ?_
    rintro _ w3 ⟨rfl, lk1⟩
    refine xl_Pk ?_
    refine xl_v v_assign ?_
    refine xl_nil ?_
    refine x_ret ?_
    refine fin1 rfl ?_
    refine ⟨congrArg Value.bool ?_, lkc⟩
    obtain ⟨⟨a1, a2, a3, a4⟩, a5, a6⟩ := x
    obtain ⟨⟨b1, b2, b3, b4⟩, b5, b6⟩ := y
    simp at *
    simp_all
   ·
    refine xl_gs rfl EvO.eq ?_
    refine xl_gs rfl EvO.eq ?_
    refine xl_gs rfl EvO.eq ?_
    refine xl_gs rfl EvO.eq ?_
    refine xl_gs rfl EvO.eq ?_
    refine xl_Pk ?_
    refine xl_v v_assign ?_
    refine xl_nil ?_
    refine x_ret ?_
    refine fin1 rfl ?_
    refine ⟨congrArg Value.bool ?_, lkc⟩
    obtain ⟨⟨a1, a2, a3, a4⟩, a5, a6⟩ := x
    obtain ⟨⟨b1, b2, b3, b4⟩, b5, b6⟩ := y
    simp at *
    simp_all
  ·
   refine xl_gs rfl EvO.eq ?_
   refine xl_gs rfl EvO.eq ?_
   refine xl_gs rfl EvO.eq ?_
   refine xl_gs rfl EvO.eq ?_
   refine xl_gs rfl EvO.eq ?_
   refine xl_Pk ?_
   refine xl_v v_move ?_
   refine xl_gs rfl EvO.eq ?_
   refine xl_gs rfl EvO.eq ?_
   refine xl_gs rfl EvO.eq ?_
   refine xl_gs rfl EvO.eq ?_
   refine xl_gs rfl EvO.eq ?_
   refine xl_Pk ?_
   refine xl_v v_assign ?_
   refine xl_nil ?_
   refine x_ret ?_
   refine fin1 rfl ?_
   refine ⟨congrArg Value.bool ?_, lkc⟩
   obtain ⟨⟨a1, a2, a3, a4⟩, a5, a6⟩ := x
   obtain ⟨⟨b1, b2, b3, b4⟩, b5, b6⟩ := y
   simp at *
   simp_all
 ·
  refine xl_gs rfl EvO.eq ?_
  refine xl_gs rfl EvO.eq ?_
  refine xl_gs rfl EvO.eq ?_
  refine xl_gs rfl EvO.eq ?_
  refine xl_gs rfl EvO.eq ?_
  refine xl_Pk ?_
  refine xl_v v_move ?_
  refine xl_gs rfl EvO.eq ?_
  refine xl_gs rfl EvO.eq ?_
  refine xl_gs rfl EvO.eq ?_
  refine xl_gs rfl EvO.eq ?_
  refine xl_gs rfl EvO.eq ?_
  refine xl_Pk ?_
  refine xl_v v_move ?_
  refine xl_gs rfl EvO.eq ?_
  refine xl_gs rfl EvO.eq ?_
  refine xl_gs rfl EvO.eq ?_
  refine xl_gs rfl EvO.eq ?_
  refine xl_gs rfl EvO.eq ?_
  refine xl_Pk ?_
  refine xl_v v_assign ?_
  refine xl_nil ?_
  refine x_ret ?_
  refine fin1 rfl ?_
  refine ⟨congrArg Value.bool ?_, lkc⟩
  obtain ⟨⟨a1, a2, a3, a4⟩, a5, a6⟩ := x
  obtain ⟨⟨b1, b2, b3, b4⟩, b5, b6⟩ := y
  simp at *
  simp_all

/-- waystation/meta.Same$2 -/
theorem samew_ok (x y : LW) (w : World) [hrx : Row w x.A (ints x.w.parts)] [hry : Row w y.A (ints y.w.parts)] (hl : x.w.parts.length ≤ 1000) : Ret Try.prog 61 #[.agg (wrC x).toArray, .agg (wrC y).toArray] w (fun v w' => v = .bool (decide (x.w = y.w)) ∧ Lk w' w NoB) := by
 haveI rbx : RowB w x.A w (ints x.w.parts) := rowB_of hrx.row
 haveI rby : RowB w y.A w (ints y.w.parts) := rowB_of hry.row
 refine ret_of_x (N := 45) (l := [.agg (wrC x).toArray, .agg (wrC y).toArray]) Try.func61 rfl rfl (Nat.le_of_ble_eq_true rfl) ?_
 refine x_seq ?_
 refine x_regionL ?_
 refine xl_e (e_box fun b1 w1 n1 l1 k1 => ?_)
 refine xl_e (e_box fun b2 w2 n2 l2 k2 => ?_)
 refine xl_v v_assign ?_
 refine xl_nil ?_
 refine x_seq ?_
 refine x_regionL ?_
 refine xl_Fa ?_
 refine xl_Ld ?_
 refine xl_Fa ?_
 refine xl_Ld ?_
 refine xl_v v_eql ?_
 refine xl_v v_move ?_
 refine xl_split 10 (fun g10 => ?_) (fun g10 => ?_)
 ·
  refine xl_gFa rfl EvO.eq ?_
  refine xl_gLd rfl EvO.eq ?_
  refine xl_gFa rfl EvO.eq ?_
  refine xl_gLd rfl EvO.eq ?_
  refine xl_gv rfl EvO.eq v_eql ?_
  refine xl_Pk ?_
  refine xl_v v_move ?_
  refine xl_split 17 (fun g17 => ?_) (fun g17 => ?_)
  ·
   refine xl_gFa rfl EvO.eq ?_
   refine xl_gLd rfl EvO.eq ?_
   refine xl_gFa rfl EvO.eq ?_
   refine xl_gLd rfl EvO.eq ?_
   refine xl_gv rfl EvO.eq v_eql ?_
   refine xl_Pk ?_
   refine xl_v v_move ?_
   refine xl_split 24 (fun g24 => ?_) (fun g24 => ?_)
   ·
    refine xl_gFa rfl EvO.eq ?_
    refine xl_gLd rfl EvO.eq ?_
    refine xl_gFa rfl EvO.eq ?_
    refine xl_gLd rfl EvO.eq ?_
    refine xl_gcall rfl EvO.eq (eqI_ok x.A _ x.c x.w.parts y.A _ y.c y.w.parts w2 rfl rfl (by omega)) ?_
    rintro _ w3 ⟨rfl, lk1⟩
    refine xl_Pk ?_
    refine xl_v v_move ?_
    refine xl_split 31 (fun g31 => ?_) (fun g31 => ?_)
    ·
     refine xl_gFa rfl EvO.eq ?_
     refine xl_gLd rfl EvO.eq ?_
     refine xl_gFa rfl EvO.eq ?_
     refine xl_gLd rfl EvO.eq ?_
     refine xl_gv rfl EvO.eq v_eql ?_
     refine xl_Pk ?_
     refine xl_v v_move ?_
     refine xl_split 38 (fun g38 => ?_) (fun g38 => ?_)
     ·
      refine xl_gFa rfl EvO.eq ?_
      refine xl_gLd rfl EvO.eq ?_
      refine xl_gFa rfl EvO.eq ?_
      refine xl_gLd rfl EvO.eq ?_
      refine xl_gv rfl EvO.eq v_eql ?_
      refine xl_Pk ?_
      refine xl_v v_assign ?_
      refine xl_nil ?_
      refine x_ret ?_
      refine fin1 rfl ?_
      refine ⟨congrArg Value.bool ?_, lkc⟩
      obtain ⟨⟨a1, a2, a3, a4, a7, a8⟩, a5, a6⟩ := x
      obtain ⟨⟨b1, b2, b3, b4, b7, b8⟩, b5, b6⟩ := y
      simp at *
      simp_all
     ·
      refine xl_gs rfl EvO.eq ?_
      refine xl_gs rfl EvO.eq ?_
      refine xl_gs rfl EvO.eq ?_
      refine xl_gs rfl EvO.eq ?_
      refine xl_gs rfl EvO.eq ?_
      refine xl_Pk ?_
      refine xl_v v_assign ?_
      refine xl_nil ?_
      refine x_ret ?_
      refine fin1 rfl ?_
      refine ⟨congrArg Value.bool ?_, lkc⟩
      obtain ⟨⟨a1, a2, a3, a4, a7, a8⟩, a5, a6⟩ := x
      obtain ⟨⟨b1, b2, b3, b4, b7, b8⟩, b5, b6⟩ := y
      simp at *
      simp_all
    ·
     refine xl_gs rfl EvO.eq ?_
     refine xl_gs rfl EvO.eq ?_
     refine xl_gs rfl EvO.eq ?_
     refine xl_gs rfl EvO.eq ?_
     refine xl_gs rfl EvO.eq ?_
     refine xl_Pk ?_
     refine xl_v v_move ?_
     refine xl_gs rfl EvO.eq ?_
     refine xl_gs rfl EvO.eq ?_
     refine xl_gs rfl EvO.eq ?_
     refine xl_gs rfl EvO.eq ?_
     refine xl_gs rfl EvO.eq ?_
     refine xl_Pk ?_
     refine xl_v v_assign ?_
     refine xl_nil ?_
     refine x_ret ?_
     refine fin1 rfl ?_
     refine ⟨congrArg Value.bool ?_, lkc⟩
     obtain ⟨⟨a1, a2, a3, a4, a7, a8⟩, a5, a6⟩ := x
     obtain ⟨⟨b1, b2, b3, b4, b7, b8⟩, b5, b6⟩ := y
     simp at *
     simp_all
   ·
    refine xl_gs rfl EvO.eq ?_
    refine xl_gs rfl EvO.eq ?_
    refine xl_gs rfl EvO.eq ?_
    refine xl_gs rfl EvO.eq ?_
    refine xl_gs rfl EvO.eq ?_
    refine xl_Pk ?_
    refine xl_v v_move ?_
    refine xl_gs rfl EvO.eq ?_
    refine xl_gs rfl EvO.eq ?_
    refine xl_gs rfl EvO.eq ?_
    refine xl_gs rfl EvO.eq ?_
    refine xl_gs rfl EvO.eq ?_
    refine xl_Pk ?_
    refine xl_v v_move ?_
    refine xl_gs rfl EvO.eq ?_
    refine xl_gs rfl EvO.eq ?_
    refine xl_gs rfl EvO.eq ?_
    refine xl_gs rfl EvO.eq ?_
    refine xl_gs rfl EvO.eq ?_
    refine xl_Pk ?_
    refine xl_v v_assign ?_
    refine xl_nil ?_
    refine x_ret ?_
    refine fin1 rfl ?_
    refine ⟨congrArg Value.bool ?_, lkc⟩
    obtain ⟨⟨a1, a2, a3, a4, a7, a8⟩, a5, a6⟩ := x
    obtain ⟨⟨b1, b2, b3, b4, b7, b8⟩, b5, b6⟩ := y
    simp at *
    simp_all
  ·
   refine xl_gs rfl EvO.eq ?_
   refine xl_gs rfl EvO.eq ?_
   refine xl_gs rfl EvO.eq ?_
   refine xl_gs rfl EvO.eq ?_
   refine xl_gs rfl EvO.eq ?_
   refine xl_Pk ?_
   refine xl_v v_move ?_
   refine xl_gs rfl EvO.eq ?_
   refine xl_gs rfl EvO.eq ?_
   refine xl_gs rfl EvO.eq ?_
   refine xl_gs rfl EvO.eq ?_
   refine xl_gs rfl EvO.eq ?_
   refine xl_Pk ?_
   refine xl_v v_move ?_
   refine xl_gs rfl EvO.eq ?_
   refine xl_gs rfl EvO.eq ?_
   refine xl_gs rfl EvO.eq ?_
   refine xl_gs rfl EvO.eq ?_
   refine xl_gs rfl EvO.eq ?_
   refine xl_Pk ?_
   refine xl_v v_move ?_
   refine xl_gs rfl EvO.eq ?_
   refine xl_gs rfl EvO.eq ?_
   refine xl_gs rfl EvO.eq ?_
   refine xl_gs rfl EvO.eq ?_
   refine xl_gs rfl EvO.eq ?_
   refine xl_Pk ?_
   refine xl_v v_assign ?_
   refine xl_nil ?_
   refine x_ret ?_
   refine fin1 rfl ?_
   refine ⟨congrArg Value.bool ?_, lkc⟩
   obtain ⟨⟨a1, a2, a3, a4, a7, a8⟩, a5, a6⟩ := x
   obtain ⟨⟨b1, b2, b3, b4, b7, b8⟩, b5, b6⟩ := y
   simp at *
   simp_all
 ·
  refine xl_gs rfl EvO.eq ?_
  refine xl_gs rfl EvO.eq ?_
  refine xl_gs rfl EvO.eq ?_
  refine xl_gs rfl EvO.eq ?_
  refine xl_gs rfl EvO.eq ?_
  refine xl_Pk ?_
  refine xl_v v_move ?_
  refine xl_gs rfl EvO.eq ?_
  refine xl_gs rfl EvO.eq ?_
  refine xl_gs rfl EvO.eq ?_
  refine xl_gs rfl EvO.eq ?_
  refine xl_gs rfl EvO.eq ?_
  refine xl_Pk ?_
  refine xl_v v_move ?_
  refine xl_gs rfl EvO.eq ?_
  refine xl_gs rfl EvO.eq ?_
  refine xl_gs rfl EvO.eq ?_
  refine xl_gs rfl EvO.eq ?_
  refine xl_gs rfl EvO.eq ?_
  refine xl_Pk ?_
  refine xl_v v_move ?_
  refine xl_gs rfl EvO.eq ?_
  refine xl_gs rfl EvO.eq ?_
  refine xl_gs rfl EvO.eq ?_
  refine xl_gs rfl EvO.eq ?_
  refine xl_gs rfl EvO.eq ?_
  refine xl_Pk ?_
  refine xl_v v_move ?_
  refine xl_gs rfl EvO.eq ?_
  refine xl_gs rfl EvO.eq ?_
  refine xl_gs rfl EvO.eq ?_
  refine xl_gs rfl EvO.eq ?_
  refine xl_gs rfl EvO.eq ?_
  refine xl_Pk ?_
  refine xl_v v_assign ?_
  refine xl_nil ?_
  refine x_ret ?_
  refine fin1 rfl ?_
  refine ⟨congrArg Value.bool ?_, lkc⟩
  obtain ⟨⟨a1, a2, a3, a4, a7, a8⟩, a5, a6⟩ := x
  obtain ⟨⟨b1, b2, b3, b4, b7, b8⟩, b5, b6⟩ := y
  simp at *
  simp_all

/-- waystation/meta.Same -/
theorem same_ok (m m2 : Nat) (D D2 : LMeta) (w : World) (h : MetaAt w m D) (h2 : MetaAt w m2 D2) (hok : D.pure.ok) (he : D.pure = D2.pure) : Ret Try.prog 27 #[.pointer (some ⟨m, 0, none⟩), .pointer (some ⟨m2, 0, none⟩)] w (fun v w' => v = .bool true ∧ Lk w' w NoB) := by
 haveI hb : Blk w m _ := ⟨h.hb⟩
 haveI hb2 : Blk w m2 _ := ⟨h2.hb⟩
 haveI hL : OwnI w D.LA _ _ _ _ _ _ _ := ⟨h.lives⟩
 haveI hL2 : OwnI w D2.LA _ _ _ _ _ _ _ := ⟨h2.lives⟩
 haveI hV : OwnI w D.VA _ _ _ _ _ _ _ := ⟨h.views⟩
 haveI hV2 : OwnI w D2.VA _ _ _ _ _ _ _ := ⟨h2.views⟩
 haveI hW : OwnI w D.WA _ _ _ _ _ _ _ := ⟨h.wrs⟩
 haveI hW2 : OwnI w D2.WA _ _ _ _ _ _ _ := ⟨h2.wrs⟩
 obtain ⟨hll, hvl, hwl, hnb, hnp, hni⟩ := lens hok
 obtain ⟨hll2, hvl2, hwl2, _, _, _⟩ := lens (he ▸ hok)
 have q1 : D.nb = D2.nb := congrArg Meta.nb he
 have q2 : D.np = D2.np := congrArg Meta.np he
 have q3 : D.ni = D2.ni := congrArg Meta.ni he
 have q4 : D.lives = D2.lives := congrArg Meta.lives he
 have q5 : D.vs.map (·.v) = D2.vs.map (·.v) := congrArg Meta.views he
 have q6 : D.ws.map (·.w) = D2.ws.map (·.w) := congrArg Meta.wrs he
 have q7 : ∀ i (h1 : i < D.vs.length) (h2 : i < D2.vs.length), D.vs[i].v = D2.vs[i].v := fun i h1 h2 => by
  have := congrArg (fun l => l[i]?) q5
  simpa [h1, h2] using this
 have q8 : ∀ i (h1 : i < D.ws.length) (h2 : i < D2.ws.length), D.ws[i].w = D2.ws[i].w := fun i h1 h2 => by
  have := congrArg (fun l => l[i]?) q6
  simpa [h1, h2] using this
 refine ret_of_x (N := 63) (l := [.pointer (some ⟨m, 0, none⟩), .pointer (some ⟨m2, 0, none⟩)]) Try.func27 rfl rfl (Nat.le_of_ble_eq_true rfl) ?_
 refine x_seq ?_
 refine x_regionL ?_
 refine xl_v v_assign ?_
 refine xl_nil ?_
 refine x_seq ?_
 refine x_seq ?_
 refine x_regionL ?_
 refine xl_v v_move ?_
 refine xl_call (none_ok m D w (h.ext (kpc : Keep NoB w w))) ?_
 rintro _ w1 ⟨rfl, lk1⟩
 rw [decide_eq_false (by omega : ¬ D.vs.length = 0)]
 refine xl_v v_move ?_
 refine xl_gv rfl EvO.eq v_move ?_
 refine xl_gcall rfl EvO.eq (none_ok m2 D2 w1 (h2.ext (kpc : Keep NoB w w1))) ?_
 rintro _ w2 ⟨rfl, lk2⟩
 rw [decide_eq_false (by omega : ¬ D2.vs.length = 0)]
 refine xl_Pk ?_
 refine xl_nil ?_
 refine x_condF ?_
 refine x_skip ?_
 refine x_seq ?_
 refine x_regionL ?_
 refine xl_v v_assign ?_
 refine xl_nil ?_
 refine x_seq ?_
 refine x_regionL ?_
 refine xl_v v_assign ?_
 refine xl_nil ?_
 refine x_seq ?_
 refine x_drawL (NoB) (allS) (.take 0 (.take 1 (.take 2 (.take 3 (.take 4 (.take 5 (.take 6 (.take 7 (.take 8 (.take 9 (.take 10 (.take 11 (.take 12 (.take 13 (.take 14 (.take 15 (.take 16 (.take 17 (.eff 18 (.take 19 (.take 20 (.take 21 (.take 22 (.take 23 (.take 24 (.take 25 (.take 26 (.take 27 (.take 28 (.take 29 (.eff 30 (.take 31 (.take 32 (.take 33 (.take 34 (.take 35 (.take 36 (.take 37 (.take 38 (.take 39 (.take 40 (.take 41 (.eff 42 (.take 43 (.take 44 .done))))))))))))))))))))))))))))))))))))))))))))) mixed (by kernel_rfl) (fun _ _ _ _ _ h => h) (fun w3 l3 => ?_)
 refine xt_v rfl v_move ?_
 refine xt_Nc rfl ?_
 refine xt_Fa rfl ?_
 refine xt_La rfl ?_
 refine xt_v rfl v_move ?_
 refine xt_Nc rfl ?_
 refine xt_Fa rfl ?_
 refine xt_La rfl ?_
 refine xt_v rfl (v_congr (u := .bool true) v_eql_struct (by simp [q1, q2, q3])) ?_
 refine xt_v rfl v_move ?_
 refine xt_gv rfl rfl EvO.eq v_move ?_
 refine xt_gNc rfl rfl EvO.eq ?_
 refine xt_gFa rfl rfl EvO.eq ?_
 refine xt_gLd rfl rfl EvO.eq ?_
 refine xt_gv rfl rfl EvO.eq v_move ?_
 refine xt_gNc rfl rfl EvO.eq ?_
 refine xt_gFa rfl rfl EvO.eq ?_
 refine xt_gLd rfl rfl EvO.eq ?_
 refine xt_gcall rfl rfl EvO.eq (eqB_ok D.LA _ D.lc D.lives D2.LA _ D2.lc D2.lives w3 rfl rfl (by omega)) ?_
 rintro _ w4 ⟨rfl, lk3⟩
 refine ⟨kpc, ?_⟩
 rw [decide_eq_true q4]
 refine xt_Pk rfl ?_
 refine xt_v rfl v_move ?_
 refine xt_gv rfl rfl EvO.eq v_move ?_
 refine xt_gNc rfl rfl EvO.eq ?_
 refine xt_gFa rfl rfl EvO.eq ?_
 refine xt_gLd rfl rfl EvO.eq ?_
 refine xt_gv rfl rfl EvO.eq v_move ?_
 refine xt_gNc rfl rfl EvO.eq ?_
 refine xt_gFa rfl rfl EvO.eq ?_
 refine xt_gLd rfl rfl EvO.eq ?_
 refine xt_gv rfl rfl EvO.eq v_move ?_
 refine xt_gcall rfl rfl EvO.eq (eqFV_ok D.VA _ D.vc D.vs D2.VA _ D2.vc D2.vs 59 [] [] (fun _ => true) w4 rfl rfl (by omega) (fun i h1 h2' W l => by
     have hk := h.ext (kpc : Keep NoB w W)
     have hk2 := h2.ext (kpc : Keep NoB w W)
     haveI : OwnI W D.vs[i].A _ _ _ _ _ _ _ := ⟨hk.isr i _ (List.getElem?_eq_getElem h1)⟩
     haveI : OwnI W D2.vs[i].A _ _ _ _ _ _ _ := ⟨hk2.isr i _ (List.getElem?_eq_getElem h2')⟩
     have hl := rises_len (hok.vs _ (List.mem_map.2 ⟨_, List.getElem_mem h1, rfl⟩)).rise
     have hl3 : D.vs[i].v.isr.length ≤ D.nb := hl
     refine CallV.of_ret ((samev_ok D.vs[i] D2.vs[i] W (by omega)).mono ?_)
     rintro v w' ⟨rfl, lk⟩
     exact ⟨by rw [decide_eq_true (q7 i h1 h2')], lk⟩)) ?_
 rintro _ w5 ⟨rfl, lk4⟩
 refine ⟨kpc, ?_⟩
 rw [decide_eq_true (by omega : D.vs.length = D2.vs.length), Bool.true_and, (by simp : (List.range D.vs.length).all (fun _ => true) = true)]
 refine xt_Pk rfl ?_
 refine xt_v rfl v_move ?_
 refine xt_gv rfl rfl EvO.eq v_move ?_
 refine xt_gNc rfl rfl EvO.eq ?_
 refine xt_gFa rfl rfl EvO.eq ?_
 refine xt_gLd rfl rfl EvO.eq ?_
 refine xt_gv rfl rfl EvO.eq v_move ?_
 refine xt_gNc rfl rfl EvO.eq ?_
 refine xt_gFa rfl rfl EvO.eq ?_
 refine xt_gLd rfl rfl EvO.eq ?_
 refine xt_gv rfl rfl EvO.eq v_move ?_
 refine xt_gcall rfl rfl EvO.eq (eqFW_ok D.WA _ D.wc D.ws D2.WA _ D2.wc D2.ws 61 [] [] (fun _ => true) w5 rfl rfl (by omega) (fun i h1 h2' W l => by
     have hk := h.ext (kpc : Keep NoB w W)
     have hk2 := h2.ext (kpc : Keep NoB w W)
     haveI : OwnI W D.ws[i].A _ _ _ _ _ _ _ := ⟨hk.parts i _ (List.getElem?_eq_getElem h1)⟩
     haveI : OwnI W D2.ws[i].A _ _ _ _ _ _ _ := ⟨hk2.parts i _ (List.getElem?_eq_getElem h2')⟩
     have hl := rises_len (hok.ws _ (List.mem_map.2 ⟨_, List.getElem_mem h1, rfl⟩)).rise
     have hl3 : D.ws[i].w.parts.length ≤ D.np := hl
     refine CallV.of_ret ((samew_ok D.ws[i] D2.ws[i] W (by omega)).mono ?_)
     rintro v w' ⟨rfl, lk⟩
     exact ⟨by rw [decide_eq_true (q8 i h1 h2')], lk⟩)) ?_
 rintro _ w6 ⟨rfl, lk5⟩
 refine ⟨kpc, ?_⟩
 rw [decide_eq_true (by omega : D.ws.length = D2.ws.length), Bool.true_and, (by simp : (List.range D.ws.length).all (fun _ => true) = true)]
 refine xt_Pk rfl ?_
 refine xt_v rfl v_assign ?_
 refine xt_nil ?_
 refine x_ret ?_
 refine fin1 rfl ?_
 exact ⟨rfl, lkc⟩
end Go.Proofs.Ytnjpladlfiaojaa
