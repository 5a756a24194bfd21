/-
 Walks, printed by a program of this workplace (wip/tools/sx.py) off the functions' code and a text of contracts.
-/
import Derived.Test.YtnjpladlfiaojaaAH
set_option linter.all false
set_option maxRecDepth 100000
set_option synthInstance.maxSize 100000
set_option synthInstance.maxHeartbeats 400000
namespace Go.Proofs.Ytnjpladlfiaojaa
open Go.Wst
open Go.Wst.Ct
namespace PL
theorem getD_set {α : Type} (l : List α) (k j : Nat) (x d : α) : (l.set k x).getD j d = if k = j ∧ k < l.length then x else l.getD j d := by
 rw [List.getD_eq_getElem?_getD, List.getD_eq_getElem?_getD, List.getElem?_set]
 by_cases h : k = j
 ·by_cases h2 : k < l.length
  ·subst h; simp [h2]
  ·subst h; simp [h2]
 ·simp [h]
theorem wr_setW (m : Meta) (i j : Int) (x : Wr) : (m.setW i x).wr j = if i.toNat = j.toNat ∧ i.toNat < m.wrs.length then x else m.wr j := getD_set _ _ _ _ _
theorem view_setV (m : Meta) (i j : Int) (x : View) : (m.setV i x).view j = if i.toNat = j.toNat ∧ i.toNat < m.views.length then x else m.view j := getD_set _ _ _ _ _
/-- A session that has begun is the one that counts. -/
theorem init_ses {m : Meta} (h : m.ok) {i : Int} (he : (m.init i).2.2 = 0) : ((m.init i).1.wr i).ses = (m.init i).2.1 := by
 unfold Meta.init at he ⊢
 split at he
 ·simp at he
 ·rename_i hi
  have hin : inN i m.ni := Classical.byContradiction hi
  split at he
  ·simp at he
  ·split at he
   ·simp at he
   ·split at he
    ·simp at he
    ·rename_i h1 h2 h3
     rw [if_neg hi, if_neg h1, if_neg h2, if_neg h3]
     show ((m.setW i _).wr i).ses = _
     rw [wr_setW, if_pos ⟨rfl, by rw [h.wl]; have := hin.1; have := hin.2; omega⟩]
theorem add_elder {m : Meta} {i s p : Int} (h : s < (m.wr i).ses) : (m.add i s p).1 = m ∧ ((m.add i s p).2.2 = 200 ∨ (m.add i s p).2.2 = 2) := by
 unfold Meta.add
 split
 ·exact ⟨rfl, .inr rfl⟩
 ·rw [if_pos (by omega)]
  exact ⟨rfl, .inl rfl⟩
theorem ends_elder {m : Meta} {i s o : Int} {c : Bool} (h : s < (m.wr i).ses) : (m.ends i s c o).1 = m ∧ ((m.ends i s c o).2 = 200 ∨ (m.ends i s c o).2 = 2) := by
 unfold Meta.ends
 split
 ·exact ⟨rfl, .inr rfl⟩
 ·split
  ·exact ⟨rfl, .inr rfl⟩
  ·rw [if_pos (by omega)]
   exact ⟨rfl, .inl rfl⟩
end PL
theorem elder_add (m : Nat) (D : LMeta) (s p : Int) (w : World) (h : MetaAt w m D) (hok : D.pure.ok) (hs : s < (D.pure.wr 0).ses) : Ret Try.prog 25 #[.pointer (some ⟨m, 0, none⟩), .int .i64 0, .int .i64 s, .int .i64 p] w (fun v w' => (∃ x e : Int, v = .tuple #[.int .i64 x, .int .i64 e] ∧ (e = 200 ∨ e = 2)) ∧ Made m D w D.pure w' ∧ Lk w' w (MetaB m D)) :=
 (add_ok m D 0 s p w h hok).mono fun v w' ⟨h1, h2, h3⟩ => ⟨⟨_, _, h1, (PL.add_elder hs).2⟩, (PL.add_elder (p := p) hs).1 ▸ h2, h3⟩
theorem elder_end (m : Nat) (D : LMeta) (s o : Int) (c : Bool) (w : World) (h : MetaAt w m D) (hok : D.pure.ok) (hs : s < (D.pure.wr 0).ses) : Ret Try.prog 26 #[.pointer (some ⟨m, 0, none⟩), .int .i64 0, .int .i64 s, .bool c, .int .i64 o] w (fun v w' => (∃ e : Int, v = .int .i64 e ∧ (e = 200 ∨ e = 2)) ∧ Made m D w D.pure w' ∧ Lk w' w (MetaB m D)) :=
 (ends_ok m D 0 s c o w h hok).mono fun v w' ⟨h1, h2, h3⟩ => ⟨⟨_, h1, (PL.ends_elder hs).2⟩, (PL.ends_elder (c := c) (o := o) hs).1 ▸ h2, h3⟩
set_option maxHeartbeats 4000000 in
/-- waystation/waystationlaw10.MetaFences -/
theorem metaFences_ok (A : Option Addr) (n c : Nat) (xs : List LAct) (A2 : Option Addr) (n2 cc : Nat) (ys : List LAct) (w : World) [hra : Row w A (xs.flatMap actC)] [hra2 : Row w A2 (ys.flatMap actC)] (hrs : ∀ j (h : j < xs.length), RowP w xs[j].A (ints xs[j].a.list)) (hss : ∀ j (h : j < xs.length), xs[j].A.isSome = true ∨ xs[j].a.list.length = 0) (hl : xs.length = n) (hl2 : ys.length = n2) (hn : n ≤ 9223372036854775807) (hn2 : n2 ≤ 9223372036854775807) : Ret Try.prog 9 #[.slice A n c, .slice A2 n2 cc] w (fun v w' => v = .bool true ∧ Lk w' w NoB) := by
 haveI hrb : RowB w A w (xs.flatMap actC) := rowB_of hra.row
 haveI hrb2 : RowB w A2 w (ys.flatMap actC) := rowB_of hra2.row
 refine ret_of_x (N := 136) (l := [.slice A n c, .slice A2 n2 cc]) Try.func9 rfl rfl (Nat.le_of_ble_eq_true rfl) ?_
 refine x_seq ?_
 refine x_regionL ?_
 refine xl_v v_assign ?_
 refine xl_nil ?_
 refine x_seq ?_
 refine x_seq ?_
 refine x_regionL ?_
 refine xl_v v_move ?_
 refine xl_v v_len ?_
 refine xl_v v_gtr ?_
 refine xl_v v_move ?_
 refine xl_split 21 (fun g21 => ?_) (fun g21 => ?_)
 ·
  refine xl_gs rfl EvO.eq ?_
  refine xl_gs rfl EvO.eq ?_
  refine xl_gs rfl EvO.eq ?_
  refine xl_Pk ?_
  refine xl_v v_move ?_
  refine xl_gs rfl EvO.eq ?_
  refine xl_gs rfl EvO.eq ?_
  refine xl_Pk ?_
  refine xl_v v_move ?_
  refine xl_gs rfl EvO.eq ?_
  refine xl_gs rfl EvO.eq ?_
  refine xl_Pk ?_
  refine xl_nil ?_
  refine x_condT ?_
  refine x_seq ?_
  refine x_regionL ?_
  refine xl_call (known_ok w) ?_
  rintro _ w1 ⟨rfl, lkk⟩
  refine xl_v v_assign ?_
  refine xl_nil ?_
  refine x_ret ?_
  refine fin1 rfl ?_
  exact ⟨rfl, lkc⟩
 ·
  refine xl_gv rfl EvO.eq v_move ?_
  refine xl_gv rfl EvO.eq v_len ?_
  refine xl_gv rfl EvO.eq v_gtr ?_
  refine xl_Pk ?_
  refine xl_v v_move ?_
  refine xl_split 26 (fun g26 => ?_) (fun g26 => ?_)
  ·
   refine xl_gs rfl EvO.eq ?_
   refine xl_gs rfl EvO.eq ?_
   refine xl_Pk ?_
   refine xl_v v_move ?_
   refine xl_gs rfl EvO.eq ?_
   refine xl_gs rfl EvO.eq ?_
   refine xl_Pk ?_
   refine xl_nil ?_
   refine x_condT ?_
   refine x_seq ?_
   refine x_regionL ?_
   refine xl_call (known_ok w) ?_
   rintro _ w2 ⟨rfl, lkk⟩
   refine xl_v v_assign ?_
   refine xl_nil ?_
   refine x_ret ?_
   refine fin1 rfl ?_
   exact ⟨rfl, lkc⟩
  ·
   refine xl_gv rfl EvO.eq v_move ?_
   refine xl_gcall rfl EvO.eq (large2_ok A n c xs w hl hn) ?_
   rintro _ w3 ⟨⟨bl, rfl, hbl⟩, lkl⟩
   refine xl_Pk ?_
   refine xl_v v_move ?_
   refine xl_split 30 (fun g30 => ?_) (fun g30 => ?_)
   ·
    refine xl_gs rfl EvO.eq ?_
    refine xl_gs rfl EvO.eq ?_
    refine xl_Pk ?_
    refine xl_nil ?_
    refine x_condT ?_
    refine x_seq ?_
    refine x_regionL ?_
    refine xl_call (known_ok w3) ?_
    rintro _ w4 ⟨rfl, lkk⟩
    refine xl_v v_assign ?_
    refine xl_nil ?_
    refine x_ret ?_
    refine fin1 rfl ?_
    exact ⟨rfl, lkc⟩
   ·
    refine xl_gv rfl EvO.eq v_move ?_
    refine xl_gcall rfl EvO.eq (large2_ok A2 n2 cc ys w3 hl2 hn2) ?_
    rintro _ w5 ⟨⟨bl2, rfl, hbl2⟩, lkl2⟩
    refine xl_Pk ?_
    refine xl_nil ?_
    refine x_condE (fun c1 => ?_) (fun c1 => ?_)
    ·
     refine x_seq ?_
     refine x_regionL ?_
     refine xl_call (known_ok w5) ?_
     rintro _ w6 ⟨rfl, lkk⟩
     refine xl_v v_assign ?_
     refine xl_nil ?_
     refine x_ret ?_
     refine fin1 rfl ?_
     exact ⟨rfl, lkc⟩
    ·
     have hlen := hbl (by simpa using g30)
     refine x_skip ?_
     refine x_seq ?_
     refine x_regionL ?_
     refine xl_v v_build ?_
     refine xl_e (e_alloc fun b5 w7 n5 l5 k5 => ?_)
     refine xl_s (e_storeA fun w8 l8 k8 => ?_)
     refine xl_nil ?_
     refine x_seq ?_
     refine x_regionL ?_
     refine xl_La ?_
     refine xl_call (new3_ok 3 2 2 w8 (by decide)) ?_
     rintro _ w9 ⟨⟨m, D, rfl, hM, hP, hN⟩, lkn⟩
     refine xl_v v_move ?_
     refine xl_v v_extract ?_
     refine xl_v v_extract ?_
     refine xl_v v_assign ?_
     refine xl_v v_assign ?_
     refine xl_nil ?_
     refine x_seq ?_
     refine x_regionL ?_
     refine xl_La ?_
     refine xl_call (refnew_ok 3 2 2 w9 (by decide) (by decide) (by decide)) ?_
     rintro _ w10 ⟨⟨R, F, rfl, hRp, hR, hRs⟩, lkf⟩
     have hM3 := hM.ext (kpc : Keep NoB _ w9)
     refine xl_e (e_alloc fun bg w11 ng lg kg => ?_)
     refine xl_s (e_storeA fun w12 l12 k12 => ?_)
     refine xl_nil ?_
     refine x_seq ?_
     refine x_seq ?_
     refine x_regionL ?_
     refine xl_v v_assign ?_
     refine xl_nil ?_
     refine x_block ?_
     have hgcell : (w12).heap[bg]? = some (.cells (metaC R).toArray 35 (0, 0)) := Blk.eq
     have hT : At3 w12 m D R F := ⟨(hM3.ext (kpc : Keep NoB _ w12)), hR.ext (kpc : Keep NoB _ w12), by rw [hP, hRp], by rw [hP]; exact Go.Wst.Ct.new_ok (by decide) (by decide) (by decide), fun k e e2 => by
         have h1 := hM3.lt k e2
         rcases hRs k e with q | q
         ·exact q
         ·omega⟩
     have hT1 : ∀ j, MetaB m D j → w.heap.size ≤ j := fun k e => Nat.le_trans Ge.le (hN k e)
     have hg0 : w.heap.size ≤ bg := by rw [ng.eq]; exact Ge.le
     have hgm : ¬ MetaB m D bg ∧ ¬ F bg := ⟨fun e => by have := hM3.lt _ e; have := ng.eq; have := lkf.keep.size; omega, fun e => by have := hR.lt _ e; have := ng.eq; omega⟩
     refine x_loop (fun t τ ds w' => ds = [] ∧ ∃ (k : Nat) (D R : LMeta) (F : Nat → Prop), t = n - k ∧ k ≤ n ∧ At3 w' m D R F ∧ (∀ j, MetaB m D j → w.heap.size ≤ j) ∧ w'.heap[bg]? = some (.cells (metaC R).toArray 35 (0, 0)) ∧ (¬ MetaB m D bg ∧ ¬ F bg) ∧ Ev τ 0 (.slice A n c) ∧ Ev τ 1 (.slice A2 n2 cc) ∧ Ev τ 6 (.pointer (some ⟨m, 0, none⟩)) ∧ Ev τ 7 (.int .i64 0) ∧ Ev τ 8 (.pointer (some ⟨bg, 0, none⟩)) ∧ Ev τ 9 (.int .i64 (k : Int)) ∧ Lk w' w NoB) (n) ?start ?round
     case start =>
      exact ⟨rfl, 0, D, R, F, rfl, Nat.zero_le _, hT, hT1, hgcell, hgm, inferInstance, inferInstance, inferInstance, inferInstance, inferInstance, evc, lkc⟩
     case round =>
      intro m τ13 ds13 w13 hI
      clear hT hT1 hgcell hgm hM hP hN hM3 hR hRp hRs
      obtain ⟨rfl, k, D, R, F, rfl, hk, hT, hT1, hbg, hgm, e0, e1, e6, e7, e8, e9, lk⟩ := hI
      haveI kbg : Blk w13 bg _ := ⟨hbg⟩
      refine x_seq ?_
      refine x_seq ?_
      refine x_regionL ?_
      refine xl_v v_move ?_
      refine xl_v v_move ?_
      refine xl_v v_len ?_
      refine xl_v v_lss ?_
      refine xl_v v_move ?_
      refine xl_split 47 (fun g47 => ?_) (fun g47 => ?_)
      ·
       refine xl_gv rfl EvO.eq v_move ?_
       refine xl_gv rfl EvO.eq (v_eqlT rfl) ?_
       refine xl_Pk ?_
       refine xl_nil ?_
       refine x_condT ?_
       refine x_skip ?_
       refine x_seq ?_
       refine x_block ?_
       have hk1 : k < xs.length := by first | omega | (simp at g47; omega)
       haveI hrx : RowB w xs[k].A w (ints xs[k].a.list) := rowB_of (hrs k hk1)
       have hox := old_act hrx
       have hoA := old_acts hrb hk1
       have hll := hlen k hk1
       have hwB : w.heap.size ≤ (w13).heap.size := Ge.le
       haveI nsD : NotS (MetaB m D) bg := ⟨hgm.1⟩
       haveI roD : RowOut (MetaB m D) A := ⟨fun a ha e => by have h1 := hoA a ha; have h2 := hT1 _ e; omega⟩
       haveI sfD : SubF (MetaB m D) NoB w := ⟨fun k hk e => by have h2 := hT1 _ e; omega⟩
       haveI abD : Above (MetaB m D) w := ⟨hT1⟩
       refine x_drawL (MetaB m D) (allS) (.take 0 (.take 1 (.take 2 (.take 3 (.take 4 (.take 5 (.eff 6 (.take 7 (.take 8 (.takeA 9 (.free 10 .done))))))))))) mixed (by kernel_rfl) (fun _ _ _ _ _ h => h) (fun w14 l14 => ?_)
       refine xt_v rfl v_move ?_
       refine xt_La rfl ?_
       refine xt_v rfl v_move ?_
       refine xt_v rfl v_move ?_
       refine xt_v rfl (v_indexF k (by decide) rfl (by omega) hk1) ?_
       refine xt_v rfl (v_loadF (k := k) (by decide) hk1) ?_
       refine xt_call rfl (does3_ok (w := w14) xs[k] (hT.ext (kpc : Keep NoB _ w14)) (by omega) (hss k hk1) (fun hne a ha e => by have h1 := hox hne a ha; have h2 := hT1 _ e; omega)) ?_
       rintro _ w15 ⟨⟨R', D', F', rfl, hA2, hp2, hs2⟩, lk2⟩
       refine ⟨kpc, ?_⟩
       have hgB : bg < (w13).heap.size := (Array.getElem?_eq_some_iff.1 hbg).1
       have hg2 := hs2.off bg (Nat.lt_of_lt_of_le hgB Ge.le) hgm.1
       have hT4 := hs2.new hT1 (Nat.le_trans hwB Ge.le)
       have hg3 : ¬ F' bg := fun e => by
        rcases hs2.from_ bg e (Nat.lt_of_lt_of_le hgB Ge.le) hgm.1 with h3 | ⟨h3, h4⟩
        ·exact hgm.2 h3
        ·obtain ⟨a, ha, h5⟩ := Option.map_eq_some_iff.1 h4
         have h6 := hox h3 a ha
         omega
       have hgm3 : ¬ MetaB m D' bg ∧ ¬ F' bg := ⟨hg2, hg3⟩
       refine xt_v rfl v_move ?_
       refine xt_v rfl v_extract ?_
       refine xt_av rfl v_extract ?_
       refine xt_fs rfl (e_storeA fun w16 l16 k16 => ?_)
       have hT3 : At3 w16 m D' R' F' := hA2.keep (S := OneB bg) kpc (fun k e e2 => hg2 (e2 ▸ e)) (fun k e e2 => hg3 (e2 ▸ e))
       refine xt_nil ?_
       refine x_regionL ?_
       refine xl_v v_move ?_
       refine xl_v (v_add (by omega)) ?_
       refine xl_v v_assign ?_
       refine xl_nil ?_
       refine ⟨_, ?_, rfl, k + 1, D', R', F', rfl, by omega, hT3, hT4, Blk.eq, hgm3, inferInstance, inferInstance, inferInstance, inferInstance, inferInstance, evc, lkc⟩
       omega
      ·
       refine xl_gs rfl EvO.eq ?_
       refine xl_gs rfl EvO.eq ?_
       refine xl_Pk ?_
       refine xl_nil ?_
       refine x_condF ?_
       refine x_exit ?_
       refine x_seq ?_
       haveI sfD : SubF (MetaB m D) NoB w := ⟨fun k hk e => by have h2 := hT1 _ e; omega⟩
       haveI abD : Above (MetaB m D) w := ⟨hT1⟩
       refine x_regionL ?_
       refine xl_v v_move ?_
       refine xl_call (init_ok m D 0 w13 (hT.ext (kpc : Keep NoB _ w13)).at_ hT.ok) ?_
       rintro _ w17 ⟨rfl, ⟨D1, hD1, hp1, hg1⟩, lki⟩
       have hok1 : D1.pure.ok := by rw [hp1]; exact hT.ok.init 0
       have hwp : w.heap.size ≤ (w13).heap.size := Ge.le
       have hn1 : ∀ j, MetaB m D1 j → w.heap.size ≤ j := fun j e => (hg1 j e).elim (hT1 j) (fun h => by omega)
       refine xl_v v_move ?_
       refine xl_v v_extract ?_
       refine xl_v v_extract ?_
       refine xl_v v_assign ?_
       refine xl_v v_assign ?_
       refine xl_nil ?_
       refine x_seq ?_
       refine x_seq ?_
       refine x_regionL ?_
       refine xl_v v_move ?_
       refine xl_v v_neq ?_
       refine xl_nil ?_
       first | refine x_condP (fun c3 => ?_) (fun c3 => ?_) | refine x_condN (fun c3 => ?_) (fun c3 => ?_) | refine x_condE (fun c3 => ?_) (fun c3 => ?_)
       ·
        refine x_seq ?_
        refine x_regionL ?_
        refine xl_v v_move ?_
        refine xl_v (v_eqlT rfl) ?_
        refine xl_v v_move ?_
        refine xl_gcall rfl EvO.eq (known_ok w17) ?_
        rintro _ w18 ⟨rfl, lkk⟩
        refine xl_Pk ?_
        refine xl_v v_assign ?_
        refine xl_nil ?_
        refine x_ret ?_
        refine fin1 rfl ?_
        exact ⟨rfl, lkc⟩
       ·
        obtain ⟨N, hN⟩ : ∃ N, N = (D.pure.init 0).2.1 := ⟨_, rfl⟩
        have hses : (D1.pure.wr 0).ses = (D.pure.init 0).2.1 := by rw [hp1]; exact PL.init_ses hT.ok (by first | exact c3 | simpa using c3)
        refine x_skip ?_
        refine x_seq ?_
        refine x_regionL ?_
        refine xl_v v_move ?_
        refine xl_call (copy_ok m D1 w17 (hD1.ext (kpc : Keep NoB _ w17)) hok1) ?_
        rintro _ w19 ⟨⟨mc, C, rfl, hC, hCp, hCn⟩, lkc1⟩
        have hD1p := hD1.ext (kpc : Keep NoB _ w17)
        have hcc : ∀ j, MetaB m D1 j → ¬ MetaB mc C j := fun j e e2 => by have h1 := hD1p.lt j e; have h2 := hCn j e2; omega
        refine xl_v v_assign ?_
        refine xl_nil ?_
        refine x_seq ?_
        refine x_seq ?_
        refine x_regionL ?_
        refine xl_v v_assign ?_
        refine xl_nil ?_
        refine x_block ?_
        refine x_loop (fun t τ ds w' => ds = [] ∧ ∃ (k : Nat) (E : LMeta), t = n2 - k ∧ k ≤ n2 ∧ MetaAt w' m E ∧ E.pure = D1.pure ∧ MetaAt w' mc C ∧ (∀ j, MetaB m E j → w.heap.size ≤ j ∧ ¬ MetaB mc C j) ∧ Ev τ 1 (.slice A2 n2 cc) ∧ Ev τ 6 (.pointer (some ⟨m, 0, none⟩)) ∧ Ev τ 7 (.int .i64 0) ∧ Ev τ 10 (.int .i64 (D.pure.init 0).2.1) ∧ Ev τ 12 (.pointer (some ⟨mc, 0, none⟩)) ∧ Ev τ 13 (.int .i64 (k : Int)) ∧ Lk w' w NoB) (n2) ?start ?round
        case start =>
         exact ⟨rfl, 0, D1, rfl, Nat.zero_le _, hD1.ext (kpc : Keep NoB _ w19), rfl, hC.ext (kpc : Keep NoB _ w19), fun j e => ⟨hn1 j e, hcc j e⟩, inferInstance, inferInstance, inferInstance, inferInstance, inferInstance, evc, lkc⟩
        case round =>
         intro m τ20 ds20 w20 hI
         clear e0 e1 e6 e7 e8 e9
         obtain ⟨rfl, k, E, rfl, hk, hE, hEp, hC, hEC, e1, e6, e7, e10, e12, e13, lk⟩ := hI
         have hokE : E.pure.ok := by rw [hEp]; exact hok1
         haveI sfE : SubF (MetaB m E) NoB w := ⟨fun k hk e => by have h2 := (hEC _ e).1; omega⟩
         haveI abE : Above (MetaB m E) w := ⟨fun j e => (hEC j e).1⟩
         refine x_seq ?_
         refine x_seq ?_
         refine x_regionL ?_
         refine xl_v v_move ?_
         refine xl_v v_move ?_
         refine xl_v v_len ?_
         refine xl_v v_lss ?_
         refine xl_nil ?_
         first | refine x_condP (fun c4 => ?_) (fun c4 => ?_) | refine x_condN (fun c4 => ?_) (fun c4 => ?_) | refine x_condE (fun c4 => ?_) (fun c4 => ?_)
         ·
          have hk1 : k < ys.length := by omega
          refine x_skip ?_
          refine x_seq ?_
          refine x_block ?_
          refine x_seq ?_
          refine x_regionL ?_
          refine xl_v v_move ?_
          refine xl_v v_move ?_
          refine xl_v (v_indexF k (by decide) rfl (by omega) hk1) ?_
          refine xl_v (v_loadF (k := k) (by decide) hk1) ?_
          refine xl_e (e_alloc fun b14 w21 n14 l14 k14 => ?_)
          refine xl_s (e_storeA fun w22 l22 k22 => ?_)
          refine xl_nil ?_
          refine x_seq ?_
          refine x_seq ?_
          refine x_regionL ?_
          refine xl_Fa ?_
          refine xl_Ld ?_
          refine xl_v v_move ?_
          refine xl_v v_geq ?_
          refine xl_nil ?_
          first | refine x_condP (fun c5 => ?_) (fun c5 => ?_) | refine x_condN (fun c5 => ?_) (fun c5 => ?_) | refine x_condE (fun c5 => ?_) (fun c5 => ?_)
          ·
           obtain ⟨E2, hE2e⟩ : ∃ E2, E2 = E := ⟨_, rfl⟩
           have hE2 : MetaAt w22 m E2 := by rw [hE2e]; exact hE.ext (kpc : Keep NoB _ w22)
           have hC2 : MetaAt w22 mc C := hC.ext (kpc : Keep NoB _ w22)
           have hEp2 : E2.pure = D1.pure := by rw [hE2e]; exact hEp
           have hEC2 : ∀ j, MetaB m E2 j → w.heap.size ≤ j ∧ ¬ MetaB mc C j := by rw [hE2e]; exact hEC
           refine x_exit ?_
           refine x_regionL ?_
           refine xl_v v_move ?_
           refine xl_v (v_add (by omega)) ?_
           refine xl_v v_assign ?_
           refine xl_nil ?_
           refine ⟨_, ?_, rfl, k + 1, E2, rfl, by omega, hE2.ext (kpc : Keep NoB _ w22), hEp2, hC2.ext (kpc : Keep NoB _ w22), hEC2, inferInstance, inferInstance, inferInstance, inferInstance, inferInstance, evc, lkc⟩
           omega
          ·
           have hold : ys[k].a.n < (E.pure.wr 0).ses := by rw [hEp, hses]; first | omega | (simp at c5; omega)
           refine x_skip ?_
           refine x_seq ?_
           refine x_regionL ?_
           refine xl_Fa ?_
           refine xl_Ld ?_
           refine xl_nil ?_
           refine x_block ?_
           refine x_seq ?_
           refine x_regionL ?_
           refine xl_v v_eql ?_
           refine xl_v v_assign ?_
           refine xl_nil ?_
           first | refine x_condP (fun c6 => ?_) (fun c6 => ?_) | refine x_condN (fun c6 => ?_) (fun c6 => ?_) | refine x_condE (fun c6 => ?_) (fun c6 => ?_)
           ·
            refine x_seq ?_
            refine x_regionL ?_
            refine xl_v v_move ?_
            refine xl_Fa ?_
            refine xl_Ld ?_
            refine xl_Fa ?_
            refine xl_Ld ?_
            refine xl_call (elder_add m E _ _ w22 (hE.ext (kpc : Keep NoB _ w22)) hokE hold) ?_
            rintro _ w23 ⟨⟨xx, er, rfl, her⟩, ⟨E2, hE2, hEp2', hEg⟩, lka⟩
            have hC2 := (hC.ext (kpc : Keep NoB _ w22)).keep lka.keep (fun j e e2 => (hEC j e2).2 e)
            have hEp2 : E2.pure = D1.pure := hEp2'.trans hEp
            have hwE : w.heap.size ≤ (w22).heap.size := Ge.le
            have hCl := hC.ext (kpc : Keep NoB _ w22)
            have hEC2 : ∀ j, MetaB m E2 j → w.heap.size ≤ j ∧ ¬ MetaB mc C j := fun j e => (hEg j e).elim (hEC j) (fun h => ⟨by omega, fun e2 => by have := hCl.lt j e2; omega⟩)
            refine xl_v v_move ?_
            refine xl_v v_extract ?_
            refine xl_v v_extract ?_
            refine xl_v v_assign ?_
            refine xl_v v_assign ?_
            refine xl_nil ?_
            refine x_seq ?_
            refine x_regionL ?_
            refine xl_v v_move ?_
            refine xl_v v_neq ?_
            refine xl_v v_move ?_
            refine xl_split 106 (fun g106 => ?_) (fun g106 => ?_)
            ·
             refine xl_gv rfl EvO.eq v_move ?_
             refine xl_gv rfl EvO.eq v_neq ?_
             refine xl_Pk ?_
             refine xl_nil ?_
             first | refine x_condP (fun c7 => ?_) (fun c7 => ?_) | refine x_condN (fun c7 => ?_) (fun c7 => ?_) | refine x_condE (fun c7 => ?_) (fun c7 => ?_)
             ·
              exfalso; rcases her with e | e <;> simp_all
             ·
              refine x_skip ?_
              refine x_regionL ?_
              refine xl_v v_move ?_
              refine xl_v (v_add (by omega)) ?_
              refine xl_v v_assign ?_
              refine xl_nil ?_
              refine ⟨_, ?_, rfl, k + 1, E2, rfl, by omega, hE2.ext (kpc : Keep NoB _ w23), hEp2, hC2.ext (kpc : Keep NoB _ w23), hEC2, inferInstance, inferInstance, inferInstance, inferInstance, inferInstance, evc, lkc⟩
              omega
            ·
             refine xl_gs rfl EvO.eq ?_
             refine xl_gs rfl EvO.eq ?_
             refine xl_Pk ?_
             refine xl_nil ?_
             refine x_condF ?_
             refine x_skip ?_
             refine x_regionL ?_
             refine xl_v v_move ?_
             refine xl_v (v_add (by omega)) ?_
             refine xl_v v_assign ?_
             refine xl_nil ?_
             refine ⟨_, ?_, rfl, k + 1, E2, rfl, by omega, hE2.ext (kpc : Keep NoB _ w23), hEp2, hC2.ext (kpc : Keep NoB _ w23), hEC2, inferInstance, inferInstance, inferInstance, inferInstance, inferInstance, evc, lkc⟩
             omega
           ·
            refine x_seq ?_
            refine x_regionL ?_
            refine xl_v v_eql ?_
            refine xl_v v_assign ?_
            refine xl_nil ?_
            first | refine x_condP (fun c8 => ?_) (fun c8 => ?_) | refine x_condN (fun c8 => ?_) (fun c8 => ?_) | refine x_condE (fun c8 => ?_) (fun c8 => ?_)
            ·
             refine x_seq ?_
             refine x_regionL ?_
             refine xl_v v_move ?_
             refine xl_Fa ?_
             refine xl_Ld ?_
             refine xl_Fa ?_
             refine xl_Ld ?_
             refine xl_Fa ?_
             refine xl_Ld ?_
             refine xl_call (elder_end m E _ _ _ w22 (hE.ext (kpc : Keep NoB _ w22)) hokE hold) ?_
             rintro _ w24 ⟨⟨er, rfl, her⟩, ⟨E2, hE2, hEp2', hEg⟩, lka⟩
             have hC2 := (hC.ext (kpc : Keep NoB _ w22)).keep lka.keep (fun j e e2 => (hEC j e2).2 e)
             have hEp2 : E2.pure = D1.pure := hEp2'.trans hEp
             have hwE : w.heap.size ≤ (w22).heap.size := Ge.le
             have hCl := hC.ext (kpc : Keep NoB _ w22)
             have hEC2 : ∀ j, MetaB m E2 j → w.heap.size ≤ j ∧ ¬ MetaB mc C j := fun j e => (hEg j e).elim (hEC j) (fun h => ⟨by omega, fun e2 => by have := hCl.lt j e2; omega⟩)
             refine xl_v v_assign ?_
             refine xl_nil ?_
             refine x_seq ?_
             refine x_regionL ?_
             refine xl_v v_move ?_
             refine xl_v v_neq ?_
             refine xl_v v_move ?_
             refine xl_split 122 (fun g122 => ?_) (fun g122 => ?_)
             ·
              refine xl_gv rfl EvO.eq v_move ?_
              refine xl_gv rfl EvO.eq v_neq ?_
              refine xl_Pk ?_
              refine xl_nil ?_
              first | refine x_condP (fun c9 => ?_) (fun c9 => ?_) | refine x_condN (fun c9 => ?_) (fun c9 => ?_) | refine x_condE (fun c9 => ?_) (fun c9 => ?_)
              ·
               exfalso; rcases her with e | e <;> simp_all
              ·
               refine x_skip ?_
               refine x_regionL ?_
               refine xl_v v_move ?_
               refine xl_v (v_add (by omega)) ?_
               refine xl_v v_assign ?_
               refine xl_nil ?_
               refine ⟨_, ?_, rfl, k + 1, E2, rfl, by omega, hE2.ext (kpc : Keep NoB _ w24), hEp2, hC2.ext (kpc : Keep NoB _ w24), hEC2, inferInstance, inferInstance, inferInstance, inferInstance, inferInstance, evc, lkc⟩
               omega
             ·
              refine xl_gs rfl EvO.eq ?_
              refine xl_gs rfl EvO.eq ?_
              refine xl_Pk ?_
              refine xl_nil ?_
              refine x_condF ?_
              refine x_skip ?_
              refine x_regionL ?_
              refine xl_v v_move ?_
              refine xl_v (v_add (by omega)) ?_
              refine xl_v v_assign ?_
              refine xl_nil ?_
              refine ⟨_, ?_, rfl, k + 1, E2, rfl, by omega, hE2.ext (kpc : Keep NoB _ w24), hEp2, hC2.ext (kpc : Keep NoB _ w24), hEC2, inferInstance, inferInstance, inferInstance, inferInstance, inferInstance, evc, lkc⟩
              omega
            ·
             obtain ⟨E2, hE2e⟩ : ∃ E2, E2 = E := ⟨_, rfl⟩
             have hE2 : MetaAt w22 m E2 := by rw [hE2e]; exact hE.ext (kpc : Keep NoB _ w22)
             have hC2 : MetaAt w22 mc C := hC.ext (kpc : Keep NoB _ w22)
             have hEp2 : E2.pure = D1.pure := by rw [hE2e]; exact hEp
             have hEC2 : ∀ j, MetaB m E2 j → w.heap.size ≤ j ∧ ¬ MetaB mc C j := by rw [hE2e]; exact hEC
             refine x_skip ?_
             refine x_regionL ?_
             refine xl_v v_move ?_
             refine xl_v (v_add (by omega)) ?_
             refine xl_v v_assign ?_
             refine xl_nil ?_
             refine ⟨_, ?_, rfl, k + 1, E2, rfl, by omega, hE2.ext (kpc : Keep NoB _ w22), hEp2, hC2.ext (kpc : Keep NoB _ w22), hEC2, inferInstance, inferInstance, inferInstance, inferInstance, inferInstance, evc, lkc⟩
             omega
         ·
          refine x_exit ?_
          refine x_seq ?_
          refine x_regionL ?_
          refine xl_v v_move ?_
          refine xl_v (v_eqlT rfl) ?_
          refine xl_v v_move ?_
          refine xl_gv rfl EvO.eq v_move ?_
          refine xl_gv rfl EvO.eq v_move ?_
          refine xl_gcall rfl EvO.eq (same3_ok (hE.ext (kpc : Keep NoB _ w20)) (hC.ext (kpc : Keep NoB _ w20)) hokE (hCp.trans hEp.symm)) ?_
          rintro _ w25 ⟨rfl, lks⟩
          refine xl_Pk ?_
          refine xl_v v_move ?_
          refine xl_gcall rfl EvO.eq (known_ok w25) ?_
          rintro _ w26 ⟨rfl, lkk⟩
          refine xl_Pk ?_
          refine xl_v v_assign ?_
          refine xl_nil ?_
          refine x_ret ?_
          refine fin1 rfl ?_
          exact ⟨rfl, lkc⟩
end Go.Proofs.Ytnjpladlfiaojaa
