/-
 Walks, printed by a program of this workplace (wip/tools/sx.py) off the functions' code and a text of contracts.
-/
import Derived.Test.YtnjpladlfiaojaaAA
set_option linter.all false
set_option maxRecDepth 100000
set_option synthInstance.maxSize 100000
set_option synthInstance.maxHeartbeats 400000
namespace Go.Proofs.Ytnjpladlfiaojaa
open Go.Wst
open Go.Wst.Ct
set_option maxHeartbeats 1000000 in
/-- waystation/waystationlaw10.same -/
theorem lsame_ok (P Q : Nat → Prop) (m : Nat) (D R : LMeta) (w : World) (h : PairM P Q m D R w) : Ret Try.prog 23 #[.pointer (some ⟨m, 0, none⟩), .agg (metaC R).toArray] w (fun v w' => v = .bool true ∧ Lk w' w NoB) := by
 obtain ⟨F, hR, hF⟩ := h.ex
 have hp := h.pure
 obtain ⟨hll, hvl, hwl, hnb, hnp, hni⟩ := lens h.ok
 obtain ⟨hll2, hvl2, hwl2, _, _, _⟩ := lens (hp ▸ h.ok)
 have q1 : D.nb = R.nb := congrArg Meta.nb hp
 have q2 : D.np = R.np := congrArg Meta.np hp
 have q3 : D.ni = R.ni := congrArg Meta.ni hp
 haveI rl : RowB w R.LA w (bools R.lives) := rowB_of hR.lives.row
 haveI rv : RowB w R.VA w (R.vs.flatMap viewC) := rowB_of hR.views.row
 haveI rw_ : RowB w R.WA w (R.ws.flatMap wrC) := rowB_of hR.wrs.row
 refine ret_of_x (N := 93) (l := [.pointer (some ⟨m, 0, none⟩), .agg (metaC R).toArray]) Try.func23 rfl rfl (Nat.le_of_ble_eq_true rfl) ?_
 refine x_seq ?_
 refine x_regionL ?_
 refine xl_e (e_box fun b1 w1 n1 l1 k1 => ?_)
 refine xl_v v_assign ?_
 refine xl_nil ?_
 refine x_seq ?_
 refine x_seq ?_
 refine x_drawL (NoB) (allS) (.take 0 (.take 2 (.take 3 (.eff 1 (.take 4 .done))))) mixed (by kernel_rfl) (fun _ _ _ _ _ h => h) (fun w2 l2 => ?_)
 refine xt_v rfl v_move ?_
 refine xt_Fa rfl ?_
 refine xt_La rfl ?_
 refine xt_call rfl (form_ok m D w2 (h.at_.ext (kpc : Keep NoB w w2)) h.ok) ?_
 rintro _ w3 ⟨rfl, lk1⟩
 refine ⟨kpc, ?_⟩
 refine xt_v rfl (v_congr (u := .bool false) v_neq_struct (by simp [q1, q2, q3])) ?_
 refine xt_nil ?_
 refine x_condF ?_
 refine x_skip ?_
 refine x_seq ?_
 refine x_seq ?_
 refine x_regionL ?_
 refine xl_v v_assign ?_
 refine xl_nil ?_
 refine x_block ?_
 have hb1l : (w3).heap[b1]? = _ := Blk.eq
 obtain ⟨wL, hwL⟩ : ∃ x, x = w3 := ⟨_, rfl⟩
 have hwwL : Keep NoB w wL := by rw [hwL]; exact kpc
 haveI lkLw : Lk wL w NoB := ⟨hwwL⟩
 rw [← hwL] at hb1l
 haveI : Blk wL b1 _ := ⟨hb1l⟩
 refine x_loop (fun t τ ds w' => ds = [] ∧ ∃ (k : Nat), t = R.nb - k ∧ k ≤ R.nb ∧ Ev τ 0 (.pointer (some ⟨m, 0, none⟩)) ∧ Ev τ 3 (.pointer (some ⟨b1, 0, none⟩)) ∧ Ev τ 5 (.int .i64 (k : Int)) ∧ Lk w' wL NoB) (R.nb) ?start ?round
 case start =>
  exact ⟨rfl, 0, rfl, Nat.zero_le _, inferInstance, inferInstance, evc, by rw [hwL]; exact lkc⟩
 case round =>
  intro m τ4 ds4 w4 hI
  obtain ⟨rfl, k, rfl, hk, e0, e3, e5, lk⟩ := hI
  refine x_seq ?_
  refine x_seq ?_
  refine x_regionL ?_
  refine xl_v v_move ?_
  refine xl_Fa ?_
  refine xl_Fa ?_
  refine xl_Ld ?_
  refine xl_v v_lss ?_
  refine xl_nil ?_
  first | refine x_condP (fun c2 => ?_) (fun c2 => ?_) | refine x_condN (fun c2 => ?_) (fun c2 => ?_) | refine x_condE (fun c2 => ?_) (fun c2 => ?_)
  ·
   have hkR : k < R.lives.length := by omega
   have hkD : k < D.lives.length := by omega
   have hlv : D.pure.live k = R.lives[k] := by rw [hp]; exact live_at2 hkR
   refine x_skip ?_
   refine x_seq ?_
   refine x_block ?_
   refine x_seq ?_
   refine x_regionL ?_
   refine xl_v v_move ?_
   refine xl_v v_move ?_
   refine xl_call (lives_ok m D k w4 (h.at_.ext (kpc : Keep NoB w w4)) h.ok (by omega)) ?_
   rintro _ w5 ⟨rfl, lk2⟩
   refine xl_v v_move ?_
   refine xl_v v_extract ?_
   refine xl_v v_extract ?_
   refine xl_v v_assign ?_
   refine xl_v v_assign ?_
   refine xl_nil ?_
   refine x_seq ?_
   refine x_regionL ?_
   refine xl_v v_move ?_
   refine xl_Fa ?_
   refine xl_Ld ?_
   refine xl_v v_move ?_
   refine xl_v (v_indexO k rfl (by omega) hkR) ?_
   refine xl_v (v_loadO (k := k) hkR) ?_
   refine xl_v (v_congr (u := .bool false) v_bneq (by rw [hlv]; simp)) ?_
   refine xl_v v_move ?_
   refine xl_gv rfl EvO.eq v_move ?_
   refine xl_gv rfl EvO.eq (v_neqF rfl) ?_
   refine xl_Pk ?_
   refine xl_nil ?_
   refine x_condF ?_
   refine x_skip ?_
   refine x_regionL ?_
   refine xl_v v_move ?_
   refine xl_v (v_add (by omega)) ?_
   refine xl_v v_assign ?_
   refine xl_nil ?_
   refine ⟨_, ?_, rfl, k + 1, rfl, by omega, inferInstance, inferInstance, evc, lkc⟩
   omega
  ·
   refine x_exit ?_
   refine x_seq ?_
   refine x_seq ?_
   refine x_regionL ?_
   refine xl_v v_assign ?_
   refine xl_nil ?_
   refine x_block ?_
   refine x_loop (fun t τ ds w' => ds = [] ∧ ∃ (k : Nat), t = R.np - k ∧ k ≤ R.np ∧ Ev τ 0 (.pointer (some ⟨m, 0, none⟩)) ∧ Ev τ 3 (.pointer (some ⟨b1, 0, none⟩)) ∧ Ev τ 8 (.int .i64 (k : Int)) ∧ Lk w' wL NoB) (R.np) ?start ?round
   case start =>
    exact ⟨rfl, 0, rfl, Nat.zero_le _, inferInstance, inferInstance, evc, lkc⟩
   case round =>
    intro m τ6 ds6 w6 hI
    clear e0 e3 e5 lk
    obtain ⟨rfl, k, rfl, hk, e0, e3, e5, lk⟩ := hI
    refine x_seq ?_
    refine x_seq ?_
    refine x_regionL ?_
    refine xl_v v_move ?_
    refine xl_Fa ?_
    refine xl_Fa ?_
    refine xl_Ld ?_
    refine xl_v v_lss ?_
    refine xl_nil ?_
    first | refine x_condP (fun c4 => ?_) (fun c4 => ?_) | refine x_condN (fun c4 => ?_) (fun c4 => ?_) | refine x_condE (fun c4 => ?_) (fun c4 => ?_)
    ·
     have hkR : k < R.vs.length := by omega
     have hlv : D.pure.view k = R.vs[k].v := by rw [hp]; exact view_at hkR
     have hpx := hR.isr R.vs[k] (List.getElem_mem hkR)
     haveI rpx : RowB w R.vs[k].A w (ints R.vs[k].v.isr) := rowB_of hpx.row
     have hov := h.ok.view (p := (k : Int)) ⟨by omega, by show (k : Int) < D.np; omega⟩
     have hpl2 : (D.pure.view k).isr.length ≤ D.nb := rises_len hov.rise
     refine x_skip ?_
     refine x_seq ?_
     refine x_block ?_
     refine x_seq ?_
     refine x_regionL ?_
     refine xl_v v_move ?_
     refine xl_v v_move ?_
     refine xl_call (view_ok m D k w6 (h.at_.ext (kpc : Keep NoB w w6)) h.ok (by omega)) ?_
     rintro _ w7 ⟨⟨x, rfl, hxv, hown⟩, lk2⟩
     haveI ox : OwnI w7 x.A _ _ _ _ _ _ _ := ⟨hown⟩
     haveI nx : NewA x.A w6 := newA_of hown (Nat.le_refl _)
     have hxl : x.v.isr.length ≤ 4 := by rw [hxv]; omega
     refine xl_v v_move ?_
     refine xl_v v_extract ?_
     refine xl_v v_extract ?_
     refine xl_e (e_alloc fun b8 w8 n8 l8 k8 => ?_)
     refine xl_s (e_storeA fun w9 l9 k9 => ?_)
     refine xl_v v_assign ?_
     refine xl_nil ?_
     refine x_seq ?_
     refine x_drawL (NoB) (allS) (.take 0 (.take 1 (.take 2 (.take 3 (.take 4 (.take 5 (.take 6 (.take 7 (.take 8 (.eff 9 (.take 10 (.take 11 .done)))))))))))) mixed (by kernel_rfl) (fun _ _ _ _ _ h => h) (fun w10 l10 => ?_)
     refine xt_v rfl v_move ?_
     refine xt_v rfl (v_neqF rfl) ?_
     refine xt_v rfl v_move ?_
     refine xt_gLa rfl rfl EvO.eq ?_
     refine xt_gFa rfl rfl EvO.eq ?_
     refine xt_gLd rfl rfl EvO.eq ?_
     refine xt_gv rfl rfl EvO.eq v_move ?_
     refine xt_gv rfl rfl EvO.eq (v_indexF k (by decide) rfl (by omega) hkR) ?_
     refine xt_gv rfl rfl EvO.eq (v_loadF (k := k) (by decide) hkR) ?_
     refine xt_gcall rfl rfl EvO.eq (refsamev_ok x R.vs[k] w10 (by omega)) ?_
     rintro _ w11 ⟨rfl, lk3⟩
     refine ⟨kpc, ?_⟩
     rw [decide_eq_true (hxv.trans hlv)]
     refine xt_gv rfl rfl EvO.eq v_not ?_
     refine xt_Pk rfl ?_
     refine xt_nil ?_
     refine x_condF ?_
     refine x_skip ?_
     refine x_regionL ?_
     refine xl_v v_move ?_
     refine xl_v (v_add (by omega)) ?_
     refine xl_v v_assign ?_
     refine xl_nil ?_
     refine ⟨_, ?_, rfl, k + 1, rfl, by omega, inferInstance, inferInstance, evc, lkc⟩
     omega
    ·
     refine x_exit ?_
     refine x_seq ?_
     refine x_seq ?_
     refine x_regionL ?_
     refine xl_v v_assign ?_
     refine xl_nil ?_
     refine x_block ?_
     refine x_loop (fun t τ ds w' => ds = [] ∧ ∃ (k : Nat), t = R.ni - k ∧ k ≤ R.ni ∧ Ev τ 0 (.pointer (some ⟨m, 0, none⟩)) ∧ Ev τ 3 (.pointer (some ⟨b1, 0, none⟩)) ∧ Ev τ 11 (.int .i64 (k : Int)) ∧ Lk w' wL NoB) (R.ni) ?start ?round
     case start =>
      exact ⟨rfl, 0, rfl, Nat.zero_le _, inferInstance, inferInstance, evc, lkc⟩
     case round =>
      intro m τ12 ds12 w12 hI
      clear e0 e3 e5 lk
      obtain ⟨rfl, k, rfl, hk, e0, e3, e5, lk⟩ := hI
      refine x_seq ?_
      refine x_seq ?_
      refine x_regionL ?_
      refine xl_v v_move ?_
      refine xl_Fa ?_
      refine xl_Fa ?_
      refine xl_Ld ?_
      refine xl_v v_lss ?_
      refine xl_nil ?_
      first | refine x_condP (fun c6 => ?_) (fun c6 => ?_) | refine x_condN (fun c6 => ?_) (fun c6 => ?_) | refine x_condE (fun c6 => ?_) (fun c6 => ?_)
      ·
       have hkR : k < R.ws.length := by omega
       have hlv : D.pure.wr k = R.ws[k].w := by rw [hp]; exact wr_at hkR
       have hpx := hR.parts R.ws[k] (List.getElem_mem hkR)
       haveI rpx : RowB w R.ws[k].A w (ints R.ws[k].w.parts) := rowB_of hpx.row
       have hov := h.ok.wr (i := (k : Int)) ⟨by omega, by show (k : Int) < D.ni; omega⟩
       have hpl2 : (D.pure.wr k).parts.length ≤ D.np := rises_len hov.rise
       refine x_skip ?_
       refine x_seq ?_
       refine x_block ?_
       refine x_seq ?_
       refine x_regionL ?_
       refine xl_v v_move ?_
       refine xl_v v_move ?_
       refine xl_call (writing_ok m D k w12 (h.at_.ext (kpc : Keep NoB w w12)) h.ok (by omega)) ?_
       rintro _ w13 ⟨⟨x, rfl, hxv, hown⟩, lk2⟩
       haveI ox : OwnI w13 x.A _ _ _ _ _ _ _ := ⟨hown⟩
       haveI nx : NewA x.A w12 := newA_of hown (Nat.le_refl _)
       have hxl : x.w.parts.length ≤ 4 := by rw [hxv]; omega
       refine xl_v v_move ?_
       refine xl_v v_extract ?_
       refine xl_v v_extract ?_
       refine xl_e (e_alloc fun b14 w14 n14 l14 k14 => ?_)
       refine xl_s (e_storeA fun w15 l15 k15 => ?_)
       refine xl_v v_assign ?_
       refine xl_nil ?_
       refine x_seq ?_
       refine x_drawL (NoB) (allS) (.take 0 (.take 1 (.take 2 (.take 3 (.take 4 (.take 5 (.take 6 (.take 7 (.take 8 (.eff 9 (.take 10 (.take 11 .done)))))))))))) mixed (by kernel_rfl) (fun _ _ _ _ _ h => h) (fun w16 l16 => ?_)
       refine xt_v rfl v_move ?_
       refine xt_v rfl (v_neqF rfl) ?_
       refine xt_v rfl v_move ?_
       refine xt_gLa rfl rfl EvO.eq ?_
       refine xt_gFa rfl rfl EvO.eq ?_
       refine xt_gLd rfl rfl EvO.eq ?_
       refine xt_gv rfl rfl EvO.eq v_move ?_
       refine xt_gv rfl rfl EvO.eq (v_indexF k (by decide) rfl (by omega) hkR) ?_
       refine xt_gv rfl rfl EvO.eq (v_loadF (k := k) (by decide) hkR) ?_
       refine xt_gcall rfl rfl EvO.eq (refsamew_ok x R.ws[k] w16 (by omega)) ?_
       rintro _ w17 ⟨rfl, lk3⟩
       refine ⟨kpc, ?_⟩
       rw [decide_eq_true (hxv.trans hlv)]
       refine xt_gv rfl rfl EvO.eq v_not ?_
       refine xt_Pk rfl ?_
       refine xt_nil ?_
       refine x_condF ?_
       refine x_skip ?_
       refine x_regionL ?_
       refine xl_v v_move ?_
       refine xl_v (v_add (by omega)) ?_
       refine xl_v v_assign ?_
       refine xl_nil ?_
       refine ⟨_, ?_, rfl, k + 1, rfl, by omega, inferInstance, inferInstance, evc, lkc⟩
       omega
      ·
       refine x_exit ?_
       refine x_seq ?_
       refine x_regionL ?_
       refine xl_v v_assign ?_
       refine xl_nil ?_
       refine x_ret ?_
       refine fin1 rfl ?_
       exact ⟨rfl, lkc⟩

/-- waystation/waystationlaw10.large -/
theorem large_ok (A : Option Addr) (n c : Nat) (xs : List LAct) (w : World) [Row w A (xs.flatMap actC)] (hl : xs.length = n) (hn : n ≤ 1000) : Ret Try.prog 12 #[.slice A n c] w (fun v w' => (∃ b, v = .bool b ∧ (b = false → ∀ j (h : j < xs.length), xs[j].a.list.length ≤ 20)) ∧ Lk w' w NoB) := by
 refine ret_of_x (N := 17) (l := [.slice A n c]) Try.func12 rfl rfl (Nat.le_of_ble_eq_true rfl) ?_
 refine x_seq ?_
 refine x_regionL ?_
 refine xl_v v_assign ?_
 refine xl_nil ?_
 refine x_seq ?_
 refine x_seq ?_
 refine x_regionL ?_
 refine xl_v v_assign ?_
 refine xl_nil ?_
 refine x_block ?_
 refine x_loop (fun m τ ds w' => ds = [] ∧ ∃ k : Nat, m = n - k ∧ k ≤ n ∧ (∀ j (h : j < xs.length), j < k → xs[j].a.list.length ≤ 20) ∧ Ev τ 0 (.slice A n c) ∧ Ev τ 3 (.int .i64 (k : Int)) ∧ Lk w' w NoB) (n) ?start ?round
 case start =>
  exact ⟨rfl, 0, rfl, Nat.zero_le _, fun _ _ h => absurd h (Nat.not_lt_zero _), inferInstance, evc, lkc⟩
 case round =>
  intro m τ1 ds1 w1 hI
  obtain ⟨rfl, k, rfl, hk, hno, e0, e3, lk⟩ := hI
  refine x_seq ?_
  refine x_seq ?_
  refine x_regionL ?_
  refine xl_v v_move ?_
  refine xl_v v_move ?_
  refine xl_v v_len ?_
  refine xl_v v_lss ?_
  refine xl_nil ?_
  first | refine x_condP (fun c1 => ?_) (fun c1 => ?_) | refine x_condN (fun c1 => ?_) (fun c1 => ?_) | refine x_condE (fun c1 => ?_) (fun c1 => ?_)
  ·
   have hk1 : k < xs.length := by omega
   refine x_skip ?_
   refine x_seq ?_
   refine x_block ?_
   refine x_seq ?_
   refine x_regionL ?_
   refine xl_v v_move ?_
   refine xl_v v_move ?_
   refine xl_v (v_indexF k (by decide) rfl (by omega) hk1) ?_
   refine xl_Fa ?_
   refine xl_v (v_loadFf (k := k) hk1) ?_
   refine xl_v v_len ?_
   refine xl_v v_gtr ?_
   refine xl_nil ?_
   first | refine x_condP (fun c2 => ?_) (fun c2 => ?_) | refine x_condN (fun c2 => ?_) (fun c2 => ?_) | refine x_condE (fun c2 => ?_) (fun c2 => ?_)
   ·
    refine x_seq ?_
    refine x_regionL ?_
    refine xl_v v_assign ?_
    refine xl_nil ?_
    refine x_ret ?_
    refine fin1 rfl ?_
    exact ⟨⟨true, rfl, nofun⟩, lkc⟩
   ·
    refine x_skip ?_
    refine x_regionL ?_
    refine xl_v v_move ?_
    refine xl_v (v_add (by omega)) ?_
    refine xl_v v_assign ?_
    refine xl_nil ?_
    refine ⟨_, ?_, rfl, k + 1, rfl, by omega, ?_, inferInstance, evc, lkc⟩
    ·omega
    ·intro j hj hjk
     by_cases h : j = k
     ·subst h; omega
     ·exact hno j hj (by omega)
  ·
   refine x_exit ?_
   refine x_seq ?_
   refine x_regionL ?_
   refine xl_v v_assign ?_
   refine xl_nil ?_
   refine x_ret ?_
   refine fin1 rfl ?_
   exact ⟨⟨false, rfl, fun _ j hj => hno j hj (by omega)⟩, lkc⟩
set_option maxHeartbeats 1000000 in
/-- waystation/waystationlaw10.known -/
theorem known_ok (w : World) : Ret Try.prog 13 #[] w (fun v w' => v = .bool true ∧ Lk w' w NoB) := by
 refine ret_of_x (N := 59) (l := []) Try.func13 rfl rfl (Nat.le_of_ble_eq_true rfl) ?_
 refine x_seq ?_
 refine x_regionL ?_
 refine xl_v v_assign ?_
 refine xl_nil ?_
 refine x_seq ?_
 refine x_regionL ?_
 refine xl_v v_build ?_
 refine xl_call (new_ok 3 1 1 w) ?_
 rintro _ w1 ⟨hnw, lk1⟩
 rw [if_pos (by decide)] at hnw
 obtain ⟨m, D, rfl, hM, hP, hN⟩ := hnw
 have hok : D.pure.ok := by rw [hP]; exact Go.Wst.Ct.new_ok (by decide) (by decide) (by decide)
 have hel : D.pure.elect 0 1 false = (⟨3, 1, 1, [true, true, true], [⟨1, 1, 1, [0, 1, 2]⟩], [⟨0, 0, 1, [], 0, 0⟩]⟩, 0) := by rw [hP]; rfl
 haveI s0 : SubF (MetaB m D) NoB w := ⟨fun k hk e => by have := hN k e; have := (Ge.le : w.heap.size ≤ (w).heap.size); omega⟩
 refine xl_v v_move ?_
 refine xl_v v_extract ?_
 refine xl_v v_extract ?_
 refine xl_v v_assign ?_
 refine xl_v v_assign ?_
 refine xl_nil ?_
 refine x_seq ?_
 refine x_regionL ?_
 refine xl_v v_move ?_
 refine xl_call (elect_ok m D 0 1 false w1 (hM.ext kpc) hok) ?_
 rintro _ w2 ⟨rfl, ⟨D1, hM1, hP1, hg1⟩, lk2⟩
 rw [hel] at hP1 ⊢
 have hok1 : D1.pure.ok := by rw [hP1]; have := hok.elect 0 1 false; rw [hel] at this; exact this
 have hin : D1.pure.init 0 = (⟨3, 1, 1, [true, true, true], [⟨1, 1, 1, [0, 1, 2]⟩], [⟨1, 0, 1, [], 0, 0⟩]⟩, 1, 0) := by rw [hP1]; rfl
 haveI s1 : SubF (MetaB m D1) NoB w := ⟨fun k hk e => by
  have h0 := (Ge.le : w.heap.size ≤ (w1).heap.size)
  rcases hg1 k e with q | q
  ·exact s0.sub k hk q
  ·omega⟩
 refine xl_v v_assign ?_
 refine xl_nil ?_
 refine x_seq ?_
 refine x_regionL ?_
 refine xl_v v_move ?_
 refine xl_call (init_ok m D1 0 w2 (hM1.ext kpc) hok1) ?_
 rintro _ w3 ⟨rfl, ⟨D2, hM2, hP2, hg2⟩, lk3⟩
 rw [hin] at hP2 ⊢
 have hok2 : D2.pure.ok := by rw [hP2]; have := hok1.init 0; rw [hin] at this; exact this
 have hnp2 : D2.np = 1 := congrArg Meta.np hP2
 have hvv : D2.pure.view 0 = ⟨1, 1, 1, [0, 1, 2]⟩ := by rw [hP2]; rfl
 refine xl_v v_move ?_
 refine xl_v v_extract ?_
 refine xl_v v_extract ?_
 refine xl_v v_assign ?_
 refine xl_v v_assign ?_
 refine xl_nil ?_
 refine x_seq ?_
 refine x_regionL ?_
 refine xl_v v_move ?_
 refine xl_call (view_ok m D2 0 w3 (hM2.ext kpc) hok2 (by omega)) ?_
 rintro _ w4 ⟨⟨x, rfl, hxv, hown⟩, lk4⟩
 have hxv' : x.v = ⟨1, 1, 1, [0, 1, 2]⟩ := hxv.trans hvv
 refine xl_v v_move ?_
 refine xl_v v_extract ?_
 refine xl_v v_extract ?_
 refine xl_e (e_alloc fun b5 w5 n5 l5 k5 => ?_)
 refine xl_s (e_storeA fun w6 l6 k6 => ?_)
 refine xl_v v_assign ?_
 refine xl_nil ?_
 refine x_seq ?_
 refine x_regionL ?_
 refine xl_v v_move ?_
 refine xl_v (v_eqlT rfl) ?_
 refine xl_v v_move ?_
 refine xl_gv rfl EvO.eq v_move ?_
 refine xl_gv rfl EvO.eq (v_eqlT rfl) ?_
 refine xl_Pk ?_
 refine xl_v v_move ?_
 refine xl_gv rfl EvO.eq v_move ?_
 refine xl_gv rfl EvO.eq (v_eqlT rfl) ?_
 refine xl_Pk ?_
 refine xl_v v_move ?_
 refine xl_gv rfl EvO.eq v_move ?_
 refine xl_gv rfl EvO.eq (v_eqlT rfl) ?_
 refine xl_Pk ?_
 refine xl_v v_move ?_
 refine xl_gv rfl EvO.eq v_move ?_
 refine xl_gv rfl EvO.eq (v_eqlT rfl) ?_
 refine xl_Pk ?_
 refine xl_v v_move ?_
 refine xl_gFa rfl EvO.eq ?_
 refine xl_gLd rfl EvO.eq ?_
 refine xl_gv rfl EvO.eq (v_eqlT (by rw [hxv'])) ?_
 refine xl_Pk ?_
 refine xl_v v_move ?_
 refine xl_gFa rfl EvO.eq ?_
 refine xl_gLd rfl EvO.eq ?_
 refine xl_gv rfl EvO.eq (v_eqlT (by rw [hxv'])) ?_
 refine xl_Pk ?_
 refine xl_v v_move ?_
 refine xl_gFa rfl EvO.eq ?_
 refine xl_gLd rfl EvO.eq ?_
 refine xl_gv rfl EvO.eq v_len ?_
 refine xl_gv rfl EvO.eq (v_eqlT (by rw [hxv']; rfl)) ?_
 refine xl_Pk ?_
 refine xl_v v_assign ?_
 refine xl_nil ?_
 refine x_ret ?_
 refine fin1 rfl ?_
 exact ⟨rfl, lkc⟩
end Go.Proofs.Ytnjpladlfiaojaa
