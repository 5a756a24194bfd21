/-
 Walks, printed by a program of this workplace (wip/tools/sx.py) off the functions' code and a text of contracts.
-/
import Derived.Test.YtnjpladlfiaojaaAK
set_option linter.all false
set_option maxRecDepth 100000
set_option synthInstance.maxSize 100000
set_option synthInstance.maxHeartbeats 400000
namespace Go.Proofs.Ytnjpladlfiaojaa
open Go.Wst
open Go.Wst.Ct
theorem d0_blk {z k : Nat} (h : MetaB z D0 k) : k = z := by
 obtain ⟨s, hs⟩ := h
 cases s <;> simp [LMeta.addr, blkA] at hs
 exact hs.symm
theorem d0_keep {w w' : World} {S : Nat → Prop} {z : Nat} (h : MetaAt w z D0) (hk : Keep S w w') (hz : ¬ S z) : MetaAt w' z D0 := h.keep hk (fun k e => by rw [d0_blk e]; exact hz)
theorem d0_none {w : World} {z : Nat} (h : MetaAt w z D0) : NoneAt w (some ⟨z, 0, none⟩) := .inr ⟨z, rfl, h⟩
set_option maxHeartbeats 8000000 in
/-- waystation/waystationlaw10.MetaNil -/
theorem metaNil_ok (x : LAct) (A : Option Addr) (n c : Nat) (xs : List LAct) (w : World) [hrx : Row w x.A (ints x.a.list)] [hra : Row w A (xs.flatMap actC)] (hxs : x.A.isSome = true ∨ x.a.list.length = 0) (hrs : ∀ j (h : j < xs.length), RowP w xs[j].A (ints xs[j].a.list)) (hss : ∀ j (h : j < xs.length), xs[j].A.isSome = true ∨ xs[j].a.list.length = 0) (hl : xs.length = n) (hn : n ≤ 9223372036854775807) : Ret Try.prog 10 #[.agg (actC x).toArray, .slice A n c] w (fun v w' => v = .bool true ∧ Lk w' w NoB) := by
 haveI hrb : RowB w A w (xs.flatMap actC) := rowB_of hra.row
 haveI hrxb : RowB w x.A w (ints x.a.list) := rowB_of hrx.row
 have hoxx := old_act hrxb
 refine ret_of_x (N := 234) (l := [.agg (actC x).toArray, .slice A n c]) Try.func10 rfl rfl (Nat.le_of_ble_eq_true rfl) ?_
 refine x_seq ?_
 refine x_regionL ?_
 refine xl_e (e_box fun ba w1 na la ka => ?_)
 refine xl_v v_assign ?_
 refine xl_nil ?_
 refine x_seq ?_
 refine x_seq ?_
 refine x_regionL ?_
 refine xl_v v_move ?_
 refine xl_v v_len ?_
 refine xl_v v_gtr ?_
 refine xl_v v_move ?_
 refine xl_split 29 (fun g29 => ?_) (fun g29 => ?_)
 ·
  refine xl_gs rfl EvO.eq ?_
  refine xl_gs rfl EvO.eq ?_
  refine xl_Pk ?_
  refine xl_v v_move ?_
  refine xl_gs rfl EvO.eq ?_
  refine xl_gs rfl EvO.eq ?_
  refine xl_gs rfl EvO.eq ?_
  refine xl_gs rfl EvO.eq ?_
  refine xl_Pk ?_
  refine xl_nil ?_
  refine x_condT ?_
  refine x_seq ?_
  refine x_regionL ?_
  refine xl_call (known_ok w1) ?_
  rintro _ w2 ⟨rfl, lkk⟩
  refine xl_v v_assign ?_
  refine xl_nil ?_
  refine x_ret ?_
  refine fin1 rfl ?_
  exact ⟨rfl, lkc⟩
 ·
  refine xl_gv rfl EvO.eq v_move ?_
  refine xl_gcall rfl EvO.eq (large2_ok A n c xs w1 hl hn) ?_
  rintro _ w3 ⟨⟨bl, rfl, hbl⟩, lkl⟩
  refine xl_Pk ?_
  refine xl_v v_move ?_
  refine xl_split 33 (fun g33 => ?_) (fun g33 => ?_)
  ·
   refine xl_gs rfl EvO.eq ?_
   refine xl_gs rfl EvO.eq ?_
   refine xl_gs rfl EvO.eq ?_
   refine xl_gs rfl EvO.eq ?_
   refine xl_Pk ?_
   refine xl_nil ?_
   refine x_condT ?_
   refine x_seq ?_
   refine x_regionL ?_
   refine xl_call (known_ok w3) ?_
   rintro _ w4 ⟨rfl, lkk⟩
   refine xl_v v_assign ?_
   refine xl_nil ?_
   refine x_ret ?_
   refine fin1 rfl ?_
   exact ⟨rfl, lkc⟩
  ·
   refine xl_gFa rfl EvO.eq ?_
   refine xl_gLd rfl EvO.eq ?_
   refine xl_gv rfl EvO.eq v_len ?_
   refine xl_gv rfl EvO.eq v_gtr ?_
   refine xl_Pk ?_
   refine xl_nil ?_
   first | refine x_condP (fun c1 => ?_) (fun c1 => ?_) | refine x_condN (fun c1 => ?_) (fun c1 => ?_) | refine x_condE (fun c1 => ?_) (fun c1 => ?_)
   ·
    refine x_seq ?_
    refine x_regionL ?_
    refine xl_call (known_ok w3) ?_
    rintro _ w5 ⟨rfl, lkk⟩
    refine xl_v v_assign ?_
    refine xl_nil ?_
    refine x_ret ?_
    refine fin1 rfl ?_
    exact ⟨rfl, lkc⟩
   ·
    have hlen := hbl (by simpa using g33)
    have hx20 : x.a.list.length ≤ 20 := by first | omega | (simp at c1; omega)
    refine x_skip ?_
    refine x_seq ?_
    refine x_regionL ?_
    refine xl_v v_assign ?_
    refine xl_nil ?_
    refine x_seq ?_
    refine x_regionL ?_
    refine xl_v v_build ?_
    refine xl_e (e_box fun z w6 nz lz kz => ?_)
    have hz : MetaAt w6 z D0 := MetaAt.start (l := []) (A := none) (c := 0) Blk.eq (World.ownsRow_nil _ _ _ _) ⟨fun a ha => by cases ha⟩
    refine xl_v v_assign ?_
    refine xl_nil ?_
    refine x_seq ?_
    refine x_regionL ?_
    refine xl_v v_move ?_
    refine xl_Fa ?_
    refine xl_Ld ?_
    refine xl_call (init0_ok none x.a.a w6 (noneAt_nil _)) ?_
    rintro _ w7 ⟨rfl, lkq5⟩
    refine xl_v v_move ?_
    refine xl_v v_extract ?_
    refine xl_v v_extract ?_
    refine xl_v v_assign ?_
    refine xl_v v_assign ?_
    refine xl_nil ?_
    refine x_seq ?_
    refine x_regionL ?_
    refine xl_v v_move ?_
    refine xl_Fa ?_
    refine xl_Ld ?_
    refine xl_Fa ?_
    refine xl_Ld ?_
    refine xl_Fa ?_
    refine xl_Ld ?_
    refine xl_call (add0_ok (some ⟨z, 0, none⟩) x.a.a x.a.n x.a.b w7 (d0_none (hz.ext (kpc : Keep NoB _ w7)))) ?_
    rintro _ w8 ⟨rfl, lkq6⟩
    refine xl_v v_move ?_
    refine xl_v v_extract ?_
    refine xl_v v_extract ?_
    refine xl_v v_assign ?_
    refine xl_v v_assign ?_
    refine xl_nil ?_
    refine x_seq ?_
    refine x_regionL ?_
    refine xl_v v_move ?_
    refine xl_Fa ?_
    refine xl_Ld ?_
    refine xl_call (lives0_ok none x.a.a w8 (noneAt_nil _)) ?_
    rintro _ w9 ⟨rfl, lkq7⟩
    refine xl_v v_move ?_
    refine xl_v v_extract ?_
    refine xl_v v_extract ?_
    refine xl_v v_assign ?_
    refine xl_v v_assign ?_
    refine xl_nil ?_
    refine x_seq ?_
    refine x_regionL ?_
    refine xl_v v_move ?_
    refine xl_Fa ?_
    refine xl_Ld ?_
    refine xl_call (view0_ok (some ⟨z, 0, none⟩) x.a.a w9 (d0_none (hz.ext (kpc : Keep NoB _ w9)))) ?_
    rintro _ w10 ⟨⟨xv, rfl⟩, lkq8⟩
    refine xl_v v_move ?_
    refine xl_v v_extract ?_
    refine xl_v v_extract ?_
    refine xl_e (e_alloc fun b13 w11 n13 l13 k13 => ?_)
    refine xl_s (e_storeA fun w12 l12 k12 => ?_)
    refine xl_v v_assign ?_
    refine xl_nil ?_
    refine x_seq ?_
    refine x_regionL ?_
    refine xl_v v_move ?_
    refine xl_Fa ?_
    refine xl_Ld ?_
    refine xl_call (writing0_ok none x.a.a w12 (noneAt_nil _)) ?_
    rintro _ w13 ⟨⟨xw, rfl⟩, lkq9⟩
    refine xl_v v_move ?_
    refine xl_v v_extract ?_
    refine xl_v v_extract ?_
    refine xl_e (e_alloc fun b15 w14 n15 l15 k15 => ?_)
    refine xl_s (e_storeA fun w15 l15 k15 => ?_)
    refine xl_v v_assign ?_
    refine xl_nil ?_
    refine x_seq ?_
    refine x_regionL ?_
    refine xl_v v_build ?_
    refine xl_e (e_alloc fun b17 w16 n17 l17 k17 => ?_)
    refine xl_s (e_storeA fun w17 l17 k17 => ?_)
    refine xl_nil ?_
    refine x_seq ?_
    refine x_regionL ?_
    refine xl_La ?_
    refine xl_call (new3_ok 3 2 2 w17 (by decide)) ?_
    rintro _ w18 ⟨⟨m, D, rfl, hM, hP, hN⟩, lkn⟩
    have hzl : z < (w17).heap.size := Has.lt
    have hal : ba < (w17).heap.size := Has.lt
    refine xl_v v_move ?_
    refine xl_v v_extract ?_
    refine xl_v v_extract ?_
    refine xl_v v_assign ?_
    refine xl_v v_assign ?_
    refine xl_nil ?_
    refine x_seq ?_
    refine x_regionL ?_
    refine xl_La ?_
    refine xl_call (refnew_ok 3 2 2 w18 (by decide) (by decide) (by decide)) ?_
    rintro _ w19 ⟨⟨R, F, rfl, hRp, hR, hRs⟩, lkf⟩
    have hM3 := hM.ext (kpc : Keep NoB _ w18)
    refine xl_e (e_alloc fun bg w20 ng lg kg => ?_)
    refine xl_s (e_storeA fun w21 l21 k21 => ?_)
    refine xl_nil ?_
    refine x_seq ?_
    refine x_seq ?_
    refine x_regionL ?_
    refine xl_v v_assign ?_
    refine xl_nil ?_
    refine x_block ?_
    have hgcell : (w21).heap[bg]? = some (.cells (metaC R).toArray 35 (0, 0)) := Blk.eq
    have hacell : (w21).heap[ba]? = some (.cells (actC x).toArray 42 (0, 0)) := Blk.eq
    have hzw : MetaAt w21 z D0 := hz.ext (kpc : Keep NoB _ w21)
    have hT : At3 w21 m D R F := ⟨(hM3.ext (kpc : Keep NoB _ w21)), hR.ext (kpc : Keep NoB _ w21), by rw [hP, hRp], by rw [hP]; exact Go.Wst.Ct.new_ok (by decide) (by decide) (by decide), fun k e e2 => by
        have h1 := hM3.lt k e2
        rcases hRs k e with q | q
        ·exact q
        ·omega⟩
    have hT1 : ∀ j, MetaB m D j → w.heap.size ≤ j := fun k e => Nat.le_trans Ge.le (hN k e)
    have hg0 : w.heap.size ≤ bg := by rw [ng.eq]; exact Ge.le
    have hz0 : w.heap.size ≤ z := by rw [nz.eq]; exact Ge.le
    have ha0 : w.heap.size ≤ ba := by rw [na.eq]; exact Ge.le
    have hgm : ¬ MetaB m D bg ∧ ¬ F bg := ⟨fun e => by have := hM3.lt _ e; have := ng.eq; have := lkf.keep.size; omega, fun e => by have := hR.lt _ e; have := ng.eq; omega⟩
    have hzm : ¬ MetaB m D z ∧ ¬ MetaB m D ba := ⟨fun e => by have := hN _ e; omega, fun e => by have := hN _ e; omega⟩
    have hzg : z ≠ bg := NeB.ne
    have hag : ba ≠ bg := NeB.ne
    refine x_loop (fun t τ ds w' => ds = [] ∧ ∃ (k : Nat) (D R : LMeta) (F : Nat → Prop), t = n - k ∧ k ≤ n ∧ At3 w' m D R F ∧ (∀ j, MetaB m D j → w.heap.size ≤ j) ∧ w'.heap[bg]? = some (.cells (metaC R).toArray 35 (0, 0)) ∧ w'.heap[ba]? = some (.cells (actC x).toArray 42 (0, 0)) ∧ MetaAt w' z D0 ∧ (¬ MetaB m D bg ∧ ¬ F bg) ∧ (¬ MetaB m D z ∧ ¬ MetaB m D ba) ∧ Ev τ 1 (.slice A n c) ∧ Ev τ 2 (.pointer (some ⟨ba, 0, none⟩)) ∧ Ev τ 5 (.pointer none) ∧ Ev τ 6 (.pointer (some ⟨z, 0, none⟩)) ∧ Ev τ 8 (.int .i64 1) ∧ Ev τ 10 (.int .i64 1) ∧ Ev τ 12 (.int .i64 1) ∧ Ev τ 14 (.int .i64 1) ∧ Ev τ 16 (.int .i64 1) ∧ Ev τ 18 (.pointer (some ⟨m, 0, none⟩)) ∧ Ev τ 20 (.pointer (some ⟨bg, 0, none⟩)) ∧ Ev τ 21 (.int .i64 (k : Int)) ∧ Lk w' w NoB) (n) ?start ?round
    case start =>
     exact ⟨rfl, 0, D, R, F, rfl, Nat.zero_le _, hT, hT1, hgcell, hacell, hzw, hgm, hzm, inferInstance, inferInstance, inferInstance, inferInstance, inferInstance, inferInstance, inferInstance, inferInstance, inferInstance, inferInstance, inferInstance, evc, lkc⟩
    case round =>
     intro m τ22 ds22 w22 hI
     clear hT hT1 hgcell hgm hM hP hN hM3 hR hRp hRs hacell hzw hzm hz
     obtain ⟨rfl, k, D, R, F, rfl, hk, hT, hT1, hbg, hba, hz, hgm, hzm, e1, e2, e5, e6, e8, e10, e12, e14, e16, e18, e20, e21, lk⟩ := hI
     haveI kbg : Blk w22 bg _ := ⟨hbg⟩
     haveI kba : Blk w22 ba _ := ⟨hba⟩
     refine x_seq ?_
     refine x_seq ?_
     refine x_regionL ?_
     refine xl_v v_move ?_
     refine xl_v v_move ?_
     refine xl_v v_len ?_
     refine xl_v v_lss ?_
     refine xl_nil ?_
     first | refine x_condP (fun c2 => ?_) (fun c2 => ?_) | refine x_condN (fun c2 => ?_) (fun c2 => ?_) | refine x_condE (fun c2 => ?_) (fun c2 => ?_)
     ·
      have hk1 : k < xs.length := by omega
      haveI hrx : RowB w xs[k].A w (ints xs[k].a.list) := rowB_of (hrs k hk1)
      have hox := old_act hrx
      have hoA := old_acts hrb hk1
      have hll := hlen k hk1
      have hwB : w.heap.size ≤ (w22).heap.size := Ge.le
      haveI nsD : NotS (MetaB m D) bg := ⟨hgm.1⟩
      haveI nsDa : NotS (MetaB m D) ba := ⟨hzm.2⟩
      haveI roD : RowOut (MetaB m D) A := ⟨fun a ha e => by have h1 := hoA a ha; have h2 := hT1 _ e; omega⟩
      haveI sfD : SubF (MetaB m D) NoB w := ⟨fun k hk e => by have h2 := hT1 _ e; omega⟩
      haveI abD : Above (MetaB m D) w := ⟨hT1⟩
      refine x_skip ?_
      refine x_seq ?_
      refine x_block ?_
      refine x_drawL (MetaB m D) (allS) (.take 0 (.take 1 (.take 2 (.take 3 (.take 4 (.take 5 (.eff 6 (.take 7 (.take 8 (.takeA 9 (.free 10 .done))))))))))) mixed (by kernel_rfl) (fun _ _ _ _ _ h => h) (fun w23 l23 => ?_)
      refine xt_v rfl v_move ?_
      refine xt_La rfl ?_
      refine xt_v rfl v_move ?_
      refine xt_v rfl v_move ?_
      refine xt_v rfl (v_indexF k (by decide) rfl (by omega) hk1) ?_
      refine xt_v rfl (v_loadF (k := k) (by decide) hk1) ?_
      refine xt_call rfl (does3_ok (w := w23) xs[k] (hT.ext (kpc : Keep NoB _ w23)) (by omega) (hss k hk1) (fun hne a ha e => by have h1 := hox hne a ha; have h2 := hT1 _ e; omega)) ?_
      rintro _ w24 ⟨⟨R', D', F', rfl, hA2, hp2, hs2⟩, lk2⟩
      refine ⟨kpc, ?_⟩
      have hgB : bg < (w22).heap.size := (Array.getElem?_eq_some_iff.1 hbg).1
      have haB : ba < (w22).heap.size := (Array.getElem?_eq_some_iff.1 hba).1
      have hzB : z < (w22).heap.size := hz.lt z ⟨.m, rfl⟩
      have hg2 := hs2.off bg (Nat.lt_of_lt_of_le hgB Ge.le) hgm.1
      have hT4 := hs2.new hT1 (Nat.le_trans hwB Ge.le)
      have hg3 : ¬ F' bg := fun e => by
       rcases hs2.from_ bg e (Nat.lt_of_lt_of_le hgB Ge.le) hgm.1 with h3 | ⟨h3, h4⟩
       ·exact hgm.2 h3
       ·obtain ⟨a, ha, h5⟩ := Option.map_eq_some_iff.1 h4
        have h6 := hox h3 a ha
        omega
      have hgm3 : ¬ MetaB m D' bg ∧ ¬ F' bg := ⟨hg2, hg3⟩
      have hzm3 : ¬ MetaB m D' z ∧ ¬ MetaB m D' ba := ⟨hs2.off z (Nat.lt_of_lt_of_le hzB Ge.le) hzm.1, hs2.off ba (Nat.lt_of_lt_of_le haB Ge.le) hzm.2⟩
      have hz2 := d0_keep (hz.ext (kpc : Keep NoB _ w23)) lk2.keep hzm.1
      refine xt_v rfl v_move ?_
      refine xt_v rfl v_extract ?_
      refine xt_av rfl v_extract ?_
      refine xt_fs rfl (e_storeA fun w25 l25 k25 => ?_)
      have hT3 : At3 w25 m D' R' F' := hA2.keep (S := OneB bg) kpc (fun k e e2 => hg2 (e2 ▸ e)) (fun k e e2 => hg3 (e2 ▸ e))
      have hz3 : MetaAt w25 z D0 := d0_keep (S := OneB bg) hz2 kpc hzg
      refine xt_nil ?_
      refine x_regionL ?_
      refine xl_v v_move ?_
      refine xl_v (v_add (by omega)) ?_
      refine xl_v v_assign ?_
      refine xl_nil ?_
      refine ⟨_, ?_, rfl, k + 1, D', R', F', rfl, by omega, hT3, hT4, Blk.eq, Blk.eq, hz3, hgm3, hzm3, inferInstance, inferInstance, inferInstance, inferInstance, inferInstance, inferInstance, inferInstance, inferInstance, inferInstance, inferInstance, inferInstance, evc, lkc⟩
      omega
     ·
      refine x_exit ?_
      refine x_seq ?_
      refine x_regionL ?_
      refine xl_v v_move ?_
      refine xl_call (copy_ok m D w22 (hT.ext (kpc : Keep NoB _ w22)).at_ hT.ok) ?_
      rintro _ w26 ⟨⟨mc, C, rfl, hC, hCp, hCn⟩, lkc1⟩
      have hTp2 := hT.ext (kpc : Keep NoB _ w22)
      have hTc := hTp2.ext lkc1.keep
      have hwp : w.heap.size ≤ (w22).heap.size := Ge.le
      have hgp : bg < (w22).heap.size := Has.lt
      have hap : ba < (w22).heap.size := Has.lt
      have hzp : z < (w22).heap.size := (hz.ext (kpc : Keep NoB _ w22)).lt z ⟨.m, rfl⟩
      have hoff : ∀ j, MetaB mc C j → ¬ MetaB m D j ∧ ¬ F j ∧ w.heap.size ≤ j ∧ j ≠ bg ∧ j ≠ ba ∧ j ≠ z := fun j e => ⟨fun e2 => by have h1 := hTp2.at_.lt j e2; have h2 := hCn j e; omega, fun e2 => by have h1 := hTp2.ref.lt j e2; have h2 := hCn j e; omega, Nat.le_trans hwp (hCn j e), fun e2 => by have h2 := hCn j e; omega, fun e2 => by have h2 := hCn j e; omega, fun e2 => by have h2 := hCn j e; omega⟩
      refine xl_v v_assign ?_
      refine xl_nil ?_
      refine x_seq ?_
      have hCm : At3 w26 mc C R F := ⟨hC.ext (kpc : Keep NoB _ w26), (hTc.ext (kpc : Keep NoB _ w26)).ref, by rw [hCp]; exact hT.pure, by rw [hCp]; exact hT.ok, fun j e e2 => (hoff j e2).2.1 e⟩
      haveI nsC2 : NotS (MetaB mc C) bg := ⟨fun e => (hoff _ e).2.2.2.1 rfl⟩
      haveI nsC3 : NotS (MetaB mc C) ba := ⟨fun e => (hoff _ e).2.2.2.2.1 rfl⟩
      haveI sfC : SubF (MetaB mc C) NoB w := ⟨fun k hk e => by have h2 := (hoff _ e).2.2.1; omega⟩
      haveI abC : Above (MetaB mc C) w := ⟨fun j e => (hoff _ e).2.2.1⟩
      refine x_regionL ?_
      refine xl_v v_move ?_
      refine xl_La ?_
      refine xl_La ?_
      refine xl_call (does3_ok (w := w26) x (hCm.ext (kpc : Keep NoB _ w26)) (by omega) hxs (fun hne a ha e => by have h1 := hoxx hne a ha; have h2 := (hoff _ e).2.2.1; omega)) ?_
      rintro _ w27 ⟨⟨X', C', G', rfl, hC3, hp3, hs3⟩, lk3⟩
      have hA3 := (hTc.ext (kpc : Keep NoB _ w26)).keep lk3.keep (fun j e e2 => (hoff j e2).1 e) (fun j e e2 => (hoff j e2).2.1 e)
      have hz3 := d0_keep (hz.ext (kpc : Keep NoB _ w26)) lk3.keep (fun e => (hoff _ e).2.2.2.2.2 rfl)
      refine xl_v v_move ?_
      refine xl_v v_extract ?_
      refine xl_v v_extract ?_
      refine xl_e (e_alloc fun bx w28 nx lx kx => ?_)
      refine xl_s (e_storeA fun w29 l29 k29 => ?_)
      refine xl_v v_assign ?_
      refine xl_nil ?_
      refine x_seq ?_
      refine x_regionL ?_
      refine xl_v v_move ?_
      refine xl_Fa ?_
      refine xl_Ld ?_
      refine xl_call (fence0_ok none x.a.a w29 (noneAt_nil _)) ?_
      rintro _ w30 ⟨rfl, lkw1⟩
      refine xl_v (v_eqlT rfl) ?_
      refine xl_v v_move ?_
      refine xl_gv rfl EvO.eq v_move ?_
      refine xl_gFa rfl EvO.eq ?_
      refine xl_gLd rfl EvO.eq ?_
      refine xl_gcall rfl EvO.eq (register0_ok (some ⟨z, 0, none⟩) x.a.a w30 (d0_none (hz3.ext (kpc : Keep NoB _ w30)))) ?_
      rintro _ w31 ⟨rfl, lkw2⟩
      refine xl_gv rfl EvO.eq (v_eqlT rfl) ?_
      refine xl_Pk ?_
      refine xl_v v_move ?_
      refine xl_gv rfl EvO.eq v_move ?_
      refine xl_gFa rfl EvO.eq ?_
      refine xl_gLd rfl EvO.eq ?_
      refine xl_gFa rfl EvO.eq ?_
      refine xl_gLd rfl EvO.eq ?_
      refine xl_gcall rfl EvO.eq (elect0_ok none x.a.a x.a.b true w31 (noneAt_nil _)) ?_
      rintro _ w32 ⟨rfl, lkw3⟩
      refine xl_gv rfl EvO.eq (v_eqlT rfl) ?_
      refine xl_Pk ?_
      refine xl_v v_move ?_
      refine xl_gv rfl EvO.eq v_move ?_
      refine xl_gFa rfl EvO.eq ?_
      refine xl_gLd rfl EvO.eq ?_
      refine xl_gFa rfl EvO.eq ?_
      refine xl_gLd rfl EvO.eq ?_
      refine xl_gFa rfl EvO.eq ?_
      refine xl_gLd rfl EvO.eq ?_
      refine xl_gFa rfl EvO.eq ?_
      refine xl_gLd rfl EvO.eq ?_
      refine xl_gFa rfl EvO.eq ?_
      refine xl_gLd rfl EvO.eq ?_
      refine xl_gcall rfl EvO.eq (alter0_ok (some ⟨z, 0, none⟩) x.a.a x.a.b x.a.n x.a.o x.A x.a.list.length x.c w32 (d0_none (hz3.ext (kpc : Keep NoB _ w32)))) ?_
      rintro _ w33 ⟨rfl, lkw4⟩
      refine xl_gv rfl EvO.eq (v_eqlT rfl) ?_
      refine xl_Pk ?_
      refine xl_v v_move ?_
      refine xl_gv rfl EvO.eq v_move ?_
      refine xl_gFa rfl EvO.eq ?_
      refine xl_gLd rfl EvO.eq ?_
      refine xl_gFa rfl EvO.eq ?_
      refine xl_gLd rfl EvO.eq ?_
      refine xl_gFa rfl EvO.eq ?_
      refine xl_gLd rfl EvO.eq ?_
      refine xl_gcall rfl EvO.eq (end0_ok none x.a.a x.a.n x.a.o true w33 (noneAt_nil _)) ?_
      rintro _ w34 ⟨rfl, lkw5⟩
      refine xl_gv rfl EvO.eq (v_eqlT rfl) ?_
      refine xl_Pk ?_
      refine xl_v v_move ?_
      refine xl_gv rfl EvO.eq v_move ?_
      refine xl_gFa rfl EvO.eq ?_
      refine xl_gLd rfl EvO.eq ?_
      refine xl_gFa rfl EvO.eq ?_
      refine xl_gLd rfl EvO.eq ?_
      refine xl_gFa rfl EvO.eq ?_
      refine xl_gLd rfl EvO.eq ?_
      refine xl_gcall rfl EvO.eq (marked0_ok (some ⟨z, 0, none⟩) x.a.a x.a.n x.a.b w34 (d0_none (hz3.ext (kpc : Keep NoB _ w34)))) ?_
      rintro _ w35 ⟨rfl, lkw6⟩
      refine xl_gv rfl EvO.eq (v_eqlT rfl) ?_
      refine xl_Pk ?_
      refine xl_v v_assign ?_
      refine xl_nil ?_
      refine x_seq ?_
      refine x_regionL ?_
      refine xl_v v_move ?_
      refine xl_v v_move ?_
      refine xl_gv rfl EvO.eq v_move ?_
      refine xl_gv rfl EvO.eq (v_eqlT rfl) ?_
      refine xl_Pk ?_
      refine xl_v v_move ?_
      refine xl_gv rfl EvO.eq v_move ?_
      refine xl_gv rfl EvO.eq (v_eqlT rfl) ?_
      refine xl_Pk ?_
      refine xl_v v_move ?_
      refine xl_gv rfl EvO.eq v_move ?_
      refine xl_gv rfl EvO.eq (v_eqlT rfl) ?_
      refine xl_Pk ?_
      refine xl_v v_move ?_
      refine xl_gv rfl EvO.eq v_move ?_
      refine xl_gv rfl EvO.eq (v_eqlT rfl) ?_
      refine xl_Pk ?_
      refine xl_v v_move ?_
      refine xl_gv rfl EvO.eq v_move ?_
      refine xl_gv rfl EvO.eq (v_eqlT rfl) ?_
      refine xl_Pk ?_
      refine xl_v v_move ?_
      refine xl_gv rfl EvO.eq v_move ?_
      refine xl_gcall rfl EvO.eq (form0_ok none w35 (noneAt_nil _)) ?_
      rintro _ w36 ⟨rfl, lkw7⟩
      refine xl_gv rfl EvO.eq v_build ?_
      refine xl_gv rfl EvO.eq v_eql_struct ?_
      refine xl_Pk ?_
      refine xl_v v_move ?_
      refine xl_gv rfl EvO.eq v_move ?_
      refine xl_gcall rfl EvO.eq (copy0_ok (some ⟨z, 0, none⟩) w36 (d0_none (hz3.ext (kpc : Keep NoB _ w36)))) ?_
      rintro _ w37 ⟨rfl, lkw8⟩
      refine xl_gv rfl EvO.eq (v_eql_pointerN) ?_
      refine xl_Pk ?_
      refine xl_v v_move ?_
      refine xl_gv rfl EvO.eq v_move ?_
      refine xl_gv rfl EvO.eq v_move ?_
      refine xl_gcall rfl EvO.eq (same00_ok none (some ⟨z, 0, none⟩) w37 (noneAt_nil _) (d0_none (hz3.ext (kpc : Keep NoB _ w37)))) ?_
      rintro _ w38 ⟨rfl, lkw9⟩
      refine xl_Pk ?_
      refine xl_v v_move ?_
      refine xl_gv rfl EvO.eq v_move ?_
      refine xl_gv rfl EvO.eq v_move ?_
      refine xl_gcall rfl EvO.eq (same01_ok none m D w38 (noneAt_nil _) (hA3.ext (kpc : Keep NoB _ w38)).at_ hA3.ok) ?_
      rintro _ w39 ⟨rfl, lkw10⟩
      refine xl_gv rfl EvO.eq (v_congr (u := .bool true) v_not rfl) ?_
      refine xl_Pk ?_
      refine xl_v v_move ?_
      refine xl_gv rfl EvO.eq v_move ?_
      refine xl_gv rfl EvO.eq v_move ?_
      refine xl_gcall rfl EvO.eq (same10_ok (some ⟨z, 0, none⟩) m D w39 (d0_none (hz3.ext (kpc : Keep NoB _ w39))) (hA3.ext (kpc : Keep NoB _ w39)).at_ hA3.ok) ?_
      rintro _ w40 ⟨rfl, lkw11⟩
      refine xl_gv rfl EvO.eq (v_congr (u := .bool true) v_not rfl) ?_
      refine xl_Pk ?_
      refine xl_v v_move ?_
      refine xl_gv rfl EvO.eq v_move ?_
      refine xl_gLa rfl EvO.eq ?_
      refine xl_gcall rfl EvO.eq (lsame_ok NoB NoB m D R w40 (hA3.ext (kpc : Keep NoB _ w40)).pair) ?_
      rintro _ w41 ⟨rfl, lkw12⟩
      refine xl_Pk ?_
      refine xl_v v_move ?_
      refine xl_gv rfl EvO.eq v_move ?_
      refine xl_gLa rfl EvO.eq ?_
      refine xl_gcall rfl EvO.eq (lsame_ok NoB NoB mc C' X' w41 (hC3.ext (kpc : Keep NoB _ w41)).pair) ?_
      rintro _ w42 ⟨rfl, lkw13⟩
      refine xl_Pk ?_
      refine xl_v v_move ?_
      refine xl_gcall rfl EvO.eq (known_ok w42) ?_
      rintro _ w43 ⟨rfl, lkk⟩
      refine xl_Pk ?_
      refine xl_v v_assign ?_
      refine xl_nil ?_
      refine x_ret ?_
      refine fin1 rfl ?_
      exact ⟨rfl, lkc⟩
end Go.Proofs.Ytnjpladlfiaojaa
