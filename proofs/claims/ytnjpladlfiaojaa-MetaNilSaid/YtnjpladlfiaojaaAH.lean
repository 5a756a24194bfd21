/-
 Walks, printed by a program of this workplace (wip/tools/sx.py) off the functions' code and a text of contracts.
-/
import Derived.Test.YtnjpladlfiaojaaAG
set_option linter.all false
set_option maxRecDepth 100000
set_option synthInstance.maxSize 100000
set_option synthInstance.maxHeartbeats 400000
namespace Go.Proofs.Ytnjpladlfiaojaa
open Go.Wst
open Go.Wst.Ct

/-- waystation/waystationlaw10.large -/
theorem large2_ok (A : Option Addr) (n c : Nat) (xs : List LAct) (w : World) [Row w A (xs.flatMap actC)] (hl : xs.length = n) (hn : n ≤ 9223372036854775807) : Ret Try.prog 12 #[.slice A n c] w (fun v w' => (∃ b, v = .bool b ∧ (b = false → ∀ j (h : j < xs.length), xs[j].a.list.length ≤ 20)) ∧ Lk w' w NoB) := by
 refine ret_of_x (N := 17) (l := [.slice A n c]) Try.func12 rfl rfl (Nat.le_of_ble_eq_true rfl) ?_
 refine x_seq ?_
 refine x_regionL ?_
 refine xl_v v_assign ?_
 refine xl_nil ?_
 refine x_seq ?_
 refine x_seq ?_
 refine x_regionL ?_
 refine xl_v v_assign ?_
 refine xl_nil ?_
 refine x_block ?_
 refine x_loop (fun m τ ds w' => ds = [] ∧ ∃ k : Nat, m = n - k ∧ k ≤ n ∧ (∀ j (h : j < xs.length), j < k → xs[j].a.list.length ≤ 20) ∧ Ev τ 0 (.slice A n c) ∧ Ev τ 3 (.int .i64 (k : Int)) ∧ Lk w' w NoB) (n) ?start ?round
 case start =>
  exact ⟨rfl, 0, rfl, Nat.zero_le _, fun _ _ h => absurd h (Nat.not_lt_zero _), inferInstance, evc, lkc⟩
 case round =>
  intro m τ1 ds1 w1 hI
  obtain ⟨rfl, k, rfl, hk, hno, e0, e3, lk⟩ := hI
  refine x_seq ?_
  refine x_seq ?_
  refine x_regionL ?_
  refine xl_v v_move ?_
  refine xl_v v_move ?_
  refine xl_v v_len ?_
  refine xl_v v_lss ?_
  refine xl_nil ?_
  first | refine x_condP (fun c1 => ?_) (fun c1 => ?_) | refine x_condN (fun c1 => ?_) (fun c1 => ?_) | refine x_condE (fun c1 => ?_) (fun c1 => ?_)
  ·
   have hk1 : k < xs.length := by omega
   refine x_skip ?_
   refine x_seq ?_
   refine x_block ?_
   refine x_seq ?_
   refine x_regionL ?_
   refine xl_v v_move ?_
   refine xl_v v_move ?_
   refine xl_v (v_indexF k (by decide) rfl (by omega) hk1) ?_
   refine xl_Fa ?_
   refine xl_v (v_loadFf (k := k) hk1) ?_
   refine xl_v v_len ?_
   refine xl_v v_gtr ?_
   refine xl_nil ?_
   first | refine x_condP (fun c2 => ?_) (fun c2 => ?_) | refine x_condN (fun c2 => ?_) (fun c2 => ?_) | refine x_condE (fun c2 => ?_) (fun c2 => ?_)
   ·
    refine x_seq ?_
    refine x_regionL ?_
    refine xl_v v_assign ?_
    refine xl_nil ?_
    refine x_ret ?_
    refine fin1 rfl ?_
    exact ⟨⟨true, rfl, nofun⟩, lkc⟩
   ·
    refine x_skip ?_
    refine x_regionL ?_
    refine xl_v v_move ?_
    refine xl_v (v_add (by omega)) ?_
    refine xl_v v_assign ?_
    refine xl_nil ?_
    refine ⟨_, ?_, rfl, k + 1, rfl, by omega, ?_, inferInstance, evc, lkc⟩
    ·omega
    ·intro j hj hjk
     by_cases h : j = k
     ·subst h; omega
     ·exact hno j hj (by omega)
  ·
   refine x_exit ?_
   refine x_seq ?_
   refine x_regionL ?_
   refine xl_v v_assign ?_
   refine xl_nil ?_
   refine x_ret ?_
   refine fin1 rfl ?_
   exact ⟨⟨false, rfl, fun _ j hj => hno j hj (by omega)⟩, lkc⟩
/-- Same, of two that are as they were made. -/
theorem same3_ok {w : World} {m o : Nat} {D E : LMeta} (h : MetaAt w m D) (k : MetaAt w o E) (hok : D.pure.ok) (he : E.pure = D.pure) : Ret Try.prog 27 #[.pointer (some ⟨m, 0, none⟩), .pointer (some ⟨o, 0, none⟩)] w (fun v w' => v = .bool true ∧ Lk w' w NoB) := same_ok m o D E w h k hok he.symm
theorem new3_ok (nb np ni : Nat) (w : World) (hf : formOk nb np ni) : Ret Try.prog 14 #[.agg #[.int .i64 nb, .int .i64 np, .int .i64 ni]] w (fun v w' => (∃ m D, v = .tuple #[.pointer (some ⟨m, 0, none⟩), .int .i64 0] ∧ MetaAt w' m D ∧ D.pure = new nb np ni ∧ NewM m D w) ∧ Lk w' w NoB) := by
 refine (new_ok nb np ni w).mono ?_
 rintro v w' ⟨h, lk⟩
 rw [if_pos hf] at h
 obtain ⟨m, D, e, h1, h2, h3⟩ := h
 exact ⟨⟨m, D, e, h1, by simpa using h2, h3⟩, lk⟩
set_option maxHeartbeats 4000000 in
/-- waystation/waystationlaw10.MetaCopies -/
theorem metaCopies_ok (A : Option Addr) (n c : Nat) (xs : List LAct) (A2 : Option Addr) (n2 cc : Nat) (ys : List LAct) (w : World) [hra : Row w A (xs.flatMap actC)] [hra2 : Row w A2 (ys.flatMap actC)] (hrs : ∀ j (h : j < xs.length), RowP w xs[j].A (ints xs[j].a.list)) (hss : ∀ j (h : j < xs.length), xs[j].A.isSome = true ∨ xs[j].a.list.length = 0) (hrs2 : ∀ j (h : j < ys.length), RowP w ys[j].A (ints ys[j].a.list)) (hss2 : ∀ j (h : j < ys.length), ys[j].A.isSome = true ∨ ys[j].a.list.length = 0) (hl : xs.length = n) (hl2 : ys.length = n2) (hn : n ≤ 9223372036854775807) (hn2 : n2 ≤ 9223372036854775807) : Ret Try.prog 11 #[.slice A n c, .slice A2 n2 cc] w (fun v w' => v = .bool true ∧ Lk w' w NoB) := by
 haveI hrb : RowB w A w (xs.flatMap actC) := rowB_of hra.row
 haveI hrb2 : RowB w A2 w (ys.flatMap actC) := rowB_of hra2.row
 refine ret_of_x (N := 114) (l := [.slice A n c, .slice A2 n2 cc]) Try.func11 rfl rfl (Nat.le_of_ble_eq_true rfl) ?_
 refine x_seq ?_
 refine x_regionL ?_
 refine xl_v v_assign ?_
 refine xl_nil ?_
 refine x_seq ?_
 refine x_seq ?_
 refine x_regionL ?_
 refine xl_v v_move ?_
 refine xl_v v_len ?_
 refine xl_v v_move ?_
 refine xl_v v_len ?_
 refine xl_v (v_addw) ?_
 refine xl_v v_gtr ?_
 refine xl_v v_move ?_
 refine xl_split 21 (fun g21 => ?_) (fun g21 => ?_)
 ·
  refine xl_gs rfl EvO.eq ?_
  refine xl_gs rfl EvO.eq ?_
  refine xl_Pk ?_
  refine xl_v v_move ?_
  refine xl_gs rfl EvO.eq ?_
  refine xl_gs rfl EvO.eq ?_
  refine xl_Pk ?_
  refine xl_nil ?_
  refine x_condT ?_
  refine x_seq ?_
  refine x_regionL ?_
  refine xl_call (known_ok w) ?_
  rintro _ w1 ⟨rfl, lkk⟩
  refine xl_v v_assign ?_
  refine xl_nil ?_
  refine x_ret ?_
  refine fin1 rfl ?_
  exact ⟨rfl, lkc⟩
 ·
  refine xl_gv rfl EvO.eq v_move ?_
  refine xl_gcall rfl EvO.eq (large2_ok A n c xs w hl hn) ?_
  rintro _ w2 ⟨⟨bl, rfl, hbl⟩, lkl⟩
  refine xl_Pk ?_
  refine xl_v v_move ?_
  refine xl_split 25 (fun g25 => ?_) (fun g25 => ?_)
  ·
   refine xl_gs rfl EvO.eq ?_
   refine xl_gs rfl EvO.eq ?_
   refine xl_Pk ?_
   refine xl_nil ?_
   refine x_condT ?_
   refine x_seq ?_
   refine x_regionL ?_
   refine xl_call (known_ok w2) ?_
   rintro _ w3 ⟨rfl, lkk⟩
   refine xl_v v_assign ?_
   refine xl_nil ?_
   refine x_ret ?_
   refine fin1 rfl ?_
   exact ⟨rfl, lkc⟩
  ·
   refine xl_gv rfl EvO.eq v_move ?_
   refine xl_gcall rfl EvO.eq (large2_ok A2 n2 cc ys w2 hl2 hn2) ?_
   rintro _ w4 ⟨⟨bl2, rfl, hbl2⟩, lkl2⟩
   refine xl_Pk ?_
   refine xl_nil ?_
   refine x_condE (fun c1 => ?_) (fun c1 => ?_)
   ·
    refine x_seq ?_
    refine x_regionL ?_
    refine xl_call (known_ok w4) ?_
    rintro _ w5 ⟨rfl, lkk⟩
    refine xl_v v_assign ?_
    refine xl_nil ?_
    refine x_ret ?_
    refine fin1 rfl ?_
    exact ⟨rfl, lkc⟩
   ·
    have hlen := hbl (by simpa using g25)
    have hlen2 := hbl2 c1
    refine x_skip ?_
    refine x_seq ?_
    refine x_regionL ?_
    refine xl_v v_build ?_
    refine xl_e (e_alloc fun b5 w6 n5 l5 k5 => ?_)
    refine xl_s (e_storeA fun w7 l7 k7 => ?_)
    refine xl_nil ?_
    refine x_seq ?_
    refine x_regionL ?_
    refine xl_La ?_
    refine xl_call (new3_ok 3 2 2 w7 (by decide)) ?_
    rintro _ w8 ⟨⟨m, D, rfl, hM, hP, hN⟩, lkn⟩
    refine xl_v v_move ?_
    refine xl_v v_extract ?_
    refine xl_v v_extract ?_
    refine xl_v v_assign ?_
    refine xl_v v_assign ?_
    refine xl_nil ?_
    refine x_seq ?_
    refine x_regionL ?_
    refine xl_La ?_
    refine xl_call (new3_ok 3 2 2 w8 (by decide)) ?_
    rintro _ w9 ⟨⟨o, E, rfl, hM2, hP2, hN2⟩, lkn2⟩
    have hM1 := hM.ext (kpc : Keep NoB _ w8)
    refine xl_v v_move ?_
    refine xl_v v_extract ?_
    refine xl_v v_extract ?_
    refine xl_v v_assign ?_
    refine xl_v v_assign ?_
    refine xl_nil ?_
    refine x_seq ?_
    refine x_regionL ?_
    refine xl_La ?_
    refine xl_call (refnew_ok 3 2 2 w9 (by decide) (by decide) (by decide)) ?_
    rintro _ w10 ⟨⟨R, F, rfl, hRp, hR, hRs⟩, lkf⟩
    have hM3 := hM1.ext (kpc : Keep NoB _ w9)
    have hM4 := hM2.ext (kpc : Keep NoB _ w9)
    refine xl_e (e_alloc fun bg w11 ng lg kg => ?_)
    refine xl_s (e_storeA fun w12 l12 k12 => ?_)
    refine xl_nil ?_
    refine x_seq ?_
    refine x_seq ?_
    refine x_regionL ?_
    refine xl_v v_assign ?_
    refine xl_nil ?_
    refine x_block ?_
    have hgcell : (w12).heap[bg]? = some (.cells (metaC R).toArray 35 (0, 0)) := Blk.eq
    have hT : Two w12 w.heap.size m o D E R F := ⟨⟨(hM3.ext (kpc : Keep NoB _ w12)), hR.ext (kpc : Keep NoB _ w12), by rw [hP, hRp], by rw [hP]; exact Go.Wst.Ct.new_ok (by decide) (by decide) (by decide), fun k e e2 => by
        have h1 := hM3.lt k e2
        rcases hRs k e with q | q
        ·exact q
        ·omega⟩, hM4.ext (kpc : Keep NoB _ w12), by rw [hP2, hP], fun k e => ⟨fun e2 => by
        have h1 := hM1.lt k e2
        have h2 := hN2 k e
        omega, fun e2 => by
        have h1 := hM4.lt k e
        rcases hRs k e2 with q | q
        ·exact q
        ·omega⟩, fun k e => Nat.le_trans Ge.le (hN k e), fun k e => Nat.le_trans Ge.le (hN2 k e)⟩
    have hg0 : w.heap.size ≤ bg := by rw [ng.eq]; exact Ge.le
    have hgm : ¬ MetaB m D bg ∧ ¬ MetaB o E bg ∧ ¬ F bg := ⟨fun e => by have := hM3.lt _ e; have := ng.eq; have := lkf.keep.size; omega, fun e => by have := hM4.lt _ e; have := ng.eq; have := lkf.keep.size; omega, fun e => by have := hR.lt _ e; have := ng.eq; omega⟩
    refine x_loop (fun t τ ds w' => ds = [] ∧ ∃ (k : Nat) (D E R : LMeta) (F : Nat → Prop), t = n - k ∧ k ≤ n ∧ Two w' w.heap.size m o D E R F ∧ w'.heap[bg]? = some (.cells (metaC R).toArray 35 (0, 0)) ∧ (¬ MetaB m D bg ∧ ¬ MetaB o E bg ∧ ¬ F bg) ∧ Ev τ 0 (.slice A n c) ∧ Ev τ 1 (.slice A2 n2 cc) ∧ Ev τ 6 (.pointer (some ⟨m, 0, none⟩)) ∧ Ev τ 7 (.int .i64 0) ∧ Ev τ 8 (.pointer (some ⟨o, 0, none⟩)) ∧ Ev τ 9 (.int .i64 0) ∧ Ev τ 10 (.pointer (some ⟨bg, 0, none⟩)) ∧ Ev τ 11 (.int .i64 (k : Int)) ∧ Lk w' w NoB) (n) ?start ?round
    case start =>
     exact ⟨rfl, 0, D, E, R, F, rfl, Nat.zero_le _, hT, hgcell, hgm, inferInstance, inferInstance, inferInstance, inferInstance, inferInstance, inferInstance, inferInstance, evc, lkc⟩
    case round =>
     intro m τ13 ds13 w13 hI
     clear hT hgcell hgm hM hP hN hM2 hP2 hN2 hM1 hM3 hM4 hR hRp hRs
     obtain ⟨rfl, k, D, E, R, F, rfl, hk, hT, hbg, hgm, e0, e1, e6, e7, e8, e9, e10, e11, lk⟩ := hI
     haveI kbg : Blk w13 bg _ := ⟨hbg⟩
     refine x_seq ?_
     refine x_seq ?_
     refine x_regionL ?_
     refine xl_v v_move ?_
     refine xl_v v_move ?_
     refine xl_v v_len ?_
     refine xl_v v_lss ?_
     refine xl_v v_move ?_
     refine xl_split 47 (fun g47 => ?_) (fun g47 => ?_)
     ·
      refine xl_gv rfl EvO.eq v_move ?_
      refine xl_gv rfl EvO.eq (v_eqlT rfl) ?_
      refine xl_Pk ?_
      refine xl_v v_move ?_
      refine xl_gv rfl EvO.eq v_move ?_
      refine xl_gv rfl EvO.eq (v_eqlT rfl) ?_
      refine xl_Pk ?_
      refine xl_nil ?_
      refine x_condT ?_
      refine x_skip ?_
      refine x_seq ?_
      refine x_block ?_
      refine x_seq ?_
      have hk1 : k < xs.length := by first | omega | (simp at g47; omega)
      haveI hrx : RowB w xs[k].A w (ints xs[k].a.list) := rowB_of (hrs k hk1)
      have hox := old_act hrx
      have hoA := old_acts hrb hk1
      have hll := hlen k hk1
      have hwB : w.heap.size ≤ (w13).heap.size := Ge.le
      haveI nsE : NotS (MetaB o E) bg := ⟨hgm.2.1⟩
      haveI roE : RowOut (MetaB o E) A := ⟨fun a ha e => by have h1 := hoA a ha; have h2 := hT.n2 _ e; omega⟩
      haveI sfE : SubF (MetaB o E) NoB w := ⟨fun k hk e => by have h2 := hT.n2 _ e; omega⟩
      haveI abE : Above (MetaB o E) w := ⟨hT.n2⟩
      haveI nsD : NotS (MetaB m D) bg := ⟨hgm.1⟩
      haveI roD : RowOut (MetaB m D) A := ⟨fun a ha e => by have h1 := hoA a ha; have h2 := hT.n1 _ e; omega⟩
      haveI sfD : SubF (MetaB m D) NoB w := ⟨fun k hk e => by have h2 := hT.n1 _ e; omega⟩
      haveI abD : Above (MetaB m D) w := ⟨hT.n1⟩
      refine x_drawL (MetaB o E) (allS) (.take 0 (.take 1 (.take 2 (.take 3 (.take 4 (.take 5 (.eff 6 .done))))))) mixed (by kernel_rfl) (fun _ _ _ _ _ h => h) (fun w14 l14 => ?_)
      refine xt_v rfl v_move ?_
      refine xt_La rfl ?_
      refine xt_v rfl v_move ?_
      refine xt_v rfl v_move ?_
      refine xt_v rfl (v_indexF k (by decide) rfl (by omega) hk1) ?_
      refine xt_v rfl (v_loadF (k := k) (by decide) hk1) ?_
      refine xt_call rfl (does3_ok (w := w14) xs[k] (hT.ext (kpc : Keep NoB w13 w14)).swap (by omega) (hss k hk1) (fun hne a ha e => by have h1 := hox hne a ha; have h2 := hT.n2 _ e; omega)) ?_
      rintro _ w15 ⟨⟨R1, E', F1, rfl, hA1, hp1, hs1⟩, lk1⟩
      refine ⟨kpc, ?_⟩
      have hTp := hT.ext (kpc : Keep NoB w13 w14)
      have hmid := hTp.mid lk1.keep
      refine xt_nil ?_
      refine x_drawL (MetaB m D) (allS) (.take 0 (.take 1 (.take 2 (.take 3 (.take 4 (.take 5 (.eff 6 (.take 7 (.take 8 (.takeA 9 (.free 10 .done))))))))))) mixed (by kernel_rfl) (fun _ _ _ _ _ h => h) (fun w16 l16 => ?_)
      refine xt_v rfl v_move ?_
      refine xt_La rfl ?_
      refine xt_v rfl v_move ?_
      refine xt_v rfl v_move ?_
      refine xt_v rfl (v_indexF k (by decide) rfl (by omega) hk1) ?_
      refine xt_v rfl (v_loadF (k := k) (by decide) hk1) ?_
      refine xt_call rfl (does3_ok (w := w16) xs[k] (hmid.ext (kpc : Keep NoB _ w16)) (by omega) (hss k hk1) (fun hne a ha e => by have h1 := hox hne a ha; have h2 := hT.n1 _ e; omega)) ?_
      rintro _ w17 ⟨⟨R', D', F', rfl, hA2, hp2, hs2⟩, lk2⟩
      refine ⟨kpc, ?_⟩
      have hA1p := hA1.ext (kpc : Keep NoB _ w16)
      have hT2 := hTp.step (Nat.le_trans hwB Ge.le) hox hA1p hp1 hs1 (lk1.keep.then (T := NoB) kpc (fun _ _ e => e.elim)) hA2 hp2 hs2 lk2.keep
      have hgB : bg < (w13).heap.size := (Array.getElem?_eq_some_iff.1 hbg).1
      have hg1 := hs1.off bg (Nat.lt_of_lt_of_le hgB Ge.le) hgm.2.1
      have hg2 := hs2.off bg (Nat.lt_of_lt_of_le hgB Ge.le) hgm.1
      have hg3 : ¬ F' bg := fun e => by
       rcases hs2.from_ bg e (Nat.lt_of_lt_of_le hgB Ge.le) hgm.1 with h3 | ⟨h3, h4⟩
       ·exact hgm.2.2 h3
       ·obtain ⟨a, ha, h5⟩ := Option.map_eq_some_iff.1 h4
        have h6 := hox h3 a ha
        omega
      have hgm3 : ¬ MetaB m D' bg ∧ ¬ MetaB o E' bg ∧ ¬ F' bg := ⟨hg2, hg1, hg3⟩
      refine xt_v rfl v_move ?_
      refine xt_v rfl v_extract ?_
      refine xt_av rfl v_extract ?_
      refine xt_fs rfl (e_storeA fun w18 l18 k18 => ?_)
      have hT3 : Two w18 w.heap.size m o D' E' R' F' := ⟨hT2.one.keep (S := OneB bg) kpc (fun k e e2 => hg2 (e2 ▸ e)) (fun k e e2 => hg3 (e2 ▸ e)), hT2.two.keep (S := OneB bg) kpc (fun k e e2 => hg1 (e2 ▸ e)), hT2.same, hT2.ap, hT2.n1, hT2.n2⟩
      refine xt_nil ?_
      refine x_regionL ?_
      refine xl_v v_move ?_
      refine xl_v (v_add (by omega)) ?_
      refine xl_v v_assign ?_
      refine xl_nil ?_
      refine ⟨_, ?_, rfl, k + 1, D', E', R', F', rfl, by omega, hT3, Blk.eq, hgm3, inferInstance, inferInstance, inferInstance, inferInstance, inferInstance, inferInstance, inferInstance, evc, lkc⟩
      omega
     ·
      refine xl_gs rfl EvO.eq ?_
      refine xl_gs rfl EvO.eq ?_
      refine xl_Pk ?_
      refine xl_v v_move ?_
      refine xl_gs rfl EvO.eq ?_
      refine xl_gs rfl EvO.eq ?_
      refine xl_Pk ?_
      refine xl_nil ?_
      refine x_condF ?_
      refine x_exit ?_
      refine x_seq ?_
      refine x_regionL ?_
      refine xl_v v_move ?_
      refine xl_call (copy_ok m D w13 (hT.ext (kpc : Keep NoB _ w13)).one.at_ hT.one.ok) ?_
      rintro _ w19 ⟨⟨mc, C, rfl, hC, hCp, hCn⟩, lkc1⟩
      have hTp2 := hT.ext (kpc : Keep NoB _ w13)
      have hTc := hTp2.ext lkc1.keep
      have hwp : w.heap.size ≤ (w13).heap.size := Ge.le
      have hgp : bg < (w13).heap.size := Has.lt
      have hoff : ∀ j, MetaB mc C j → ¬ MetaB m D j ∧ ¬ F j ∧ w.heap.size ≤ j ∧ j ≠ bg := fun j e => ⟨fun e2 => by have h1 := hTp2.one.at_.lt j e2; have h2 := hCn j e; omega, fun e2 => by have h1 := hTp2.one.ref.lt j e2; have h2 := hCn j e; omega, Nat.le_trans hwp (hCn j e), fun e2 => by have h2 := hCn j e; omega⟩
      refine xl_v v_assign ?_
      refine xl_nil ?_
      refine x_seq ?_
      refine x_seq ?_
      refine x_regionL ?_
      refine xl_v v_move ?_
      refine xl_v v_move ?_
      refine xl_call (same3_ok (hTc.ext (kpc : Keep NoB _ w19)).one.at_ (hTc.ext (kpc : Keep NoB _ w19)).two hTc.one.ok hTc.same) ?_
      rintro _ w20 ⟨rfl, lks⟩
      refine xl_v v_not ?_
      refine xl_v v_move ?_
      refine xl_gv rfl EvO.eq v_move ?_
      refine xl_gv rfl EvO.eq v_move ?_
      refine xl_gcall rfl EvO.eq (same3_ok (hTc.ext (kpc : Keep NoB _ w20)).one.at_ (hC.ext (kpc : Keep NoB _ w20)) hTc.one.ok hCp) ?_
      rintro _ w21 ⟨rfl, lks2⟩
      refine xl_gv rfl EvO.eq v_not ?_
      refine xl_Pk ?_
      refine xl_nil ?_
      refine x_condF ?_
      refine x_skip ?_
      refine x_seq ?_
      refine x_regionL ?_
      refine xl_La ?_
      have hAx := hTc.one.ext (kpc : Keep NoB _ w21)
      have hCx := hC.ext (kpc : Keep NoB _ w21)
      have hbgx : bg < (w21).heap.size := Has.lt
      have hwx : w.heap.size ≤ (w21).heap.size := Ge.le
      refine xl_e (e_alloc fun bx w22 nx lx kx => ?_)
      have hbxm : ¬ MetaB m D bx := fun e => by have h1 := hAx.at_.lt _ e; have h2 := nx.eq; omega
      have hbxF : ¬ F bx := fun e => by have h1 := hAx.ref.lt _ e; have h2 := nx.eq; omega
      have hbxw : w.heap.size ≤ bx := by have h2 := nx.eq; omega
      have hbgx2 : bg ≠ bx := by have h2 := nx.eq; omega
      have hoffx : ∀ j, MetaB mc C j → ¬ MetaB m D j ∧ ¬ F j ∧ w.heap.size ≤ j ∧ j ≠ bg ∧ j ≠ bx := fun j e => by
       have h1 := hoff j e
       have h2 := hCx.lt j e
       have h3 := nx.eq
       exact ⟨h1.1, h1.2.1, h1.2.2.1, h1.2.2.2, by omega⟩
      refine xl_s (e_storeA fun w23 l23 k23 => ?_)
      refine xl_nil ?_
      refine x_seq ?_
      refine x_seq ?_
      refine x_regionL ?_
      refine xl_v v_assign ?_
      refine xl_nil ?_
      refine x_block ?_
      have hAm : At3 w23 m D R F := hAx.ext (kpc : Keep NoB _ w23)
      have hCm : At3 w23 mc C R F := ⟨hCx.ext (kpc : Keep NoB _ w23), hAm.ref, by rw [hCp]; exact hAm.pure, by rw [hCp]; exact hAm.ok, fun j e e2 => (hoffx j e2).2.1 e⟩
      have hxc : (w23).heap[bx]? = some (.cells (metaC R).toArray 35 (0, 0)) := Blk.eq
      have hgc : (w23).heap[bg]? = some (.cells (metaC R).toArray 35 (0, 0)) := Blk.eq
      refine x_loop (fun t τ ds w' => ds = [] ∧ ∃ (k : Nat) (C X : LMeta) (G : Nat → Prop), t = n2 - k ∧ k ≤ n2 ∧ At3 w' mc C X G ∧ At3 w' m D R F ∧ (∀ j, MetaB mc C j → ¬ MetaB m D j ∧ ¬ F j ∧ w.heap.size ≤ j ∧ j ≠ bg ∧ j ≠ bx) ∧ ¬ G bx ∧ w'.heap[bx]? = some (.cells (metaC X).toArray 35 (0, 0)) ∧ w'.heap[bg]? = some (.cells (metaC R).toArray 35 (0, 0)) ∧ Ev τ 1 (.slice A2 n2 cc) ∧ Ev τ 6 (.pointer (some ⟨m, 0, none⟩)) ∧ Ev τ 10 (.pointer (some ⟨bg, 0, none⟩)) ∧ Ev τ 12 (.pointer (some ⟨mc, 0, none⟩)) ∧ Ev τ 13 (.pointer (some ⟨bx, 0, none⟩)) ∧ Ev τ 14 (.int .i64 (k : Int)) ∧ Lk w' w NoB) (n2) ?start ?round
      case start =>
       exact ⟨rfl, 0, C, R, F, rfl, Nat.zero_le _, hCm, hAm, hoffx, hbxF, hxc, hgc, inferInstance, inferInstance, inferInstance, inferInstance, inferInstance, evc, lkc⟩
      case round =>
       intro m τ24 ds24 w24 hI
       clear hCm hAm hoffx hxc hgc hoff hCx hCp hC hCn hAx e0 e1 e6 e7 e8 e9 e10 e11
       obtain ⟨rfl, k, C, X, G, rfl, hk, hCm, hAm, hoffx, hGx, hxc, hgc, e1, e6, e10, e12, e13, e14, lk⟩ := hI
       haveI kbg : Blk w24 bg _ := ⟨hgc⟩
       haveI kbx : Blk w24 bx _ := ⟨hxc⟩
       refine x_seq ?_
       refine x_seq ?_
       refine x_regionL ?_
       refine xl_v v_move ?_
       refine xl_v v_move ?_
       refine xl_v v_len ?_
       refine xl_v v_lss ?_
       refine xl_nil ?_
       first | refine x_condP (fun c4 => ?_) (fun c4 => ?_) | refine x_condN (fun c4 => ?_) (fun c4 => ?_) | refine x_condE (fun c4 => ?_) (fun c4 => ?_)
       ·
        have hk1 : k < ys.length := by omega
        haveI hrx : RowB w ys[k].A w (ints ys[k].a.list) := rowB_of (hrs2 k hk1)
        have hox := old_act hrx
        have hoA := old_acts hrb2 hk1
        have hll := hlen2 k hk1
        haveI nsC : NotS (MetaB mc C) bx := ⟨fun e => (hoffx _ e).2.2.2.2 rfl⟩
        haveI nsC2 : NotS (MetaB mc C) bg := ⟨fun e => (hoffx _ e).2.2.2.1 rfl⟩
        haveI roC : RowOut (MetaB mc C) A2 := ⟨fun a ha e => by have h1 := hoA a ha; have h2 := (hoffx _ e).2.2.1; omega⟩
        haveI sfC : SubF (MetaB mc C) NoB w := ⟨fun k hk e => by have h2 := (hoffx _ e).2.2.1; omega⟩
        haveI abC : Above (MetaB mc C) w := ⟨fun j e => (hoffx _ e).2.2.1⟩
        refine x_skip ?_
        refine x_seq ?_
        refine x_block ?_
        refine x_drawL (MetaB mc C) (allS) (.take 0 (.take 1 (.take 2 (.take 3 (.take 4 (.take 5 (.eff 6 (.take 7 (.take 8 (.takeA 9 (.free 10 .done))))))))))) mixed (by kernel_rfl) (fun _ _ _ _ _ h => h) (fun w25 l25 => ?_)
        refine xt_v rfl v_move ?_
        refine xt_La rfl ?_
        refine xt_v rfl v_move ?_
        refine xt_v rfl v_move ?_
        refine xt_v rfl (v_indexF k (by decide) rfl (by omega) hk1) ?_
        refine xt_v rfl (v_loadF (k := k) (by decide) hk1) ?_
        refine xt_call rfl (does3_ok (w := w25) ys[k] (hCm.ext (kpc : Keep NoB w24 w25)) (by omega) (hss2 k hk1) (fun hne a ha e => by have h1 := hox hne a ha; have h2 := (hoffx _ e).2.2.1; omega)) ?_
        rintro _ w26 ⟨⟨X', C', G', rfl, hC3, hp3, hs3⟩, lk3⟩
        refine ⟨kpc, ?_⟩
        have hA3 := (hAm.ext (kpc : Keep NoB w24 w25)).keep lk3.keep (fun j e e2 => (hoffx j e2).1 e) (fun j e e2 => (hoffx j e2).2.1 e)
        have hbxB : bx < (w25).heap.size := Has.lt
        have hbgB : bg < (w25).heap.size := Has.lt
        have hwB2 : w.heap.size ≤ (w25).heap.size := Ge.le
        have hAp := hAm.ext (kpc : Keep NoB w24 w25)
        have hoff4 : ∀ j, MetaB mc C' j → ¬ MetaB m D j ∧ ¬ F j ∧ w.heap.size ≤ j ∧ j ≠ bg ∧ j ≠ bx := fun j e => by
         rcases Nat.lt_or_ge j (w25).heap.size with h1 | h1
         ·exact hoffx j (Classical.byContradiction fun h2 => hs3.off j h1 h2 e)
         ·exact ⟨fun e2 => by have h2 := hAp.at_.lt j e2; omega, fun e2 => by have h2 := hAp.ref.lt j e2; omega, by omega, by omega, by omega⟩
        have hGx4 : ¬ G' bx := fun e => by
         rcases hs3.from_ bx e hbxB (fun e2 => (hoffx _ e2).2.2.2.2 rfl) with h3 | ⟨h3, h4⟩
         ·exact hGx h3
         ·obtain ⟨a, ha, h5⟩ := Option.map_eq_some_iff.1 h4
          have h6 := hox h3 a ha
          omega
        refine xt_v rfl v_move ?_
        refine xt_v rfl v_extract ?_
        refine xt_av rfl v_extract ?_
        refine xt_fs rfl (e_storeA fun w27 l27 k27 => ?_)
        have hC4 := hC3.keep (S := OneB bx) (w' := w27) kpc (fun j e e2 => (hoff4 j e).2.2.2.2 e2) (fun j e e2 => hGx4 (e2 ▸ e))
        have hA4 := hA3.keep (S := OneB bx) (w' := w27) kpc (fun j e e2 => hbxm (e2 ▸ e)) (fun j e e2 => hbxF (e2 ▸ e))
        refine xt_nil ?_
        refine x_regionL ?_
        refine xl_v v_move ?_
        refine xl_v (v_add (by omega)) ?_
        refine xl_v v_assign ?_
        refine xl_nil ?_
        refine ⟨_, ?_, rfl, k + 1, C', X', G', rfl, by omega, hC4, hA4, hoff4, hGx4, Blk.eq, Blk.eq, inferInstance, inferInstance, inferInstance, inferInstance, inferInstance, evc, lkc⟩
        omega
       ·
        refine x_exit ?_
        refine x_seq ?_
        refine x_regionL ?_
        refine xl_v v_move ?_
        refine xl_La ?_
        refine xl_call (lsame_ok NoB NoB m D R w24 (hAm.ext (kpc : Keep NoB _ w24)).pair) ?_
        rintro _ w28 ⟨rfl, lks3⟩
        refine xl_v v_move ?_
        refine xl_gv rfl EvO.eq v_move ?_
        refine xl_gLa rfl EvO.eq ?_
        refine xl_gcall rfl EvO.eq (lsame_ok NoB NoB mc C X w28 (hCm.ext (kpc : Keep NoB _ w28)).pair) ?_
        rintro _ w29 ⟨rfl, lks4⟩
        refine xl_Pk ?_
        refine xl_v v_move ?_
        refine xl_gcall rfl EvO.eq (known_ok w29) ?_
        rintro _ w30 ⟨rfl, lkk⟩
        refine xl_Pk ?_
        refine xl_v v_assign ?_
        refine xl_nil ?_
        refine x_ret ?_
        refine fin1 rfl ?_
        exact ⟨rfl, lkc⟩
end Go.Proofs.Ytnjpladlfiaojaa
