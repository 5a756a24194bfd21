/-
 Walks, printed by a program of this workplace (wip/tools/sx.py) off the functions' code and a text of contracts.
-/
import Derived.Test.YtnjpladlfiaojaaAI
set_option linter.all false
set_option maxRecDepth 100000
set_option synthInstance.maxSize 100000
set_option synthInstance.maxHeartbeats 400000
namespace Go.Proofs.Ytnjpladlfiaojaa
open Go.Wst
open Go.Wst.Ct
namespace PL
/-- Numbers never get less. -/
structure Rs (m m' : Meta) : Prop where
 nb : m'.nb = m.nb
 np : m'.np = m.np
 ni : m'.ni = m.ni
 v : ∀ p, (m.view p).epoch ≤ (m'.view p).epoch ∧ (m.view p).ver ≤ (m'.view p).ver ∧ ((m.view p).epoch = (m'.view p).epoch → (m.view p).lead = (m'.view p).lead)
 w : ∀ i, (m.wr i).ses ≤ (m'.wr i).ses ∧ (m.wr i).num ≤ (m'.wr i).num ∧ (m.wr i).off ≤ (m'.wr i).off
theorem Rs.refl (m : Meta) : Rs m m := ⟨rfl, rfl, rfl, fun _ => ⟨Int.le_refl _, Int.le_refl _, fun _ => rfl⟩, fun _ => ⟨Int.le_refl _, Int.le_refl _, Int.le_refl _⟩⟩
theorem Rs.setL (m : Meta) (b : Int) (x : Bool) : Rs m (m.setL b x) := ⟨rfl, rfl, rfl, fun _ => ⟨Int.le_refl _, Int.le_refl _, fun _ => rfl⟩, fun _ => ⟨Int.le_refl _, Int.le_refl _, Int.le_refl _⟩⟩
theorem Rs.setV (m : Meta) (p : Int) {x : View} (h1 : (m.view p).epoch ≤ x.epoch) (h2 : (m.view p).ver ≤ x.ver) (h3 : (m.view p).epoch = x.epoch → (m.view p).lead = x.lead) : Rs m (m.setV p x) := by
 refine ⟨rfl, rfl, rfl, fun q => ?_, fun _ => ⟨Int.le_refl _, Int.le_refl _, Int.le_refl _⟩⟩
 rw [view_setV]
 split
 ·next h =>
  have e : m.view q = m.view p := by unfold Meta.view; rw [h.1]
  rw [e]
  exact ⟨h1, h2, h3⟩
 ·exact ⟨Int.le_refl _, Int.le_refl _, fun _ => rfl⟩
theorem Rs.setW (m : Meta) (i : Int) {x : Wr} (h1 : (m.wr i).ses ≤ x.ses) (h2 : (m.wr i).num ≤ x.num) (h3 : (m.wr i).off ≤ x.off) : Rs m (m.setW i x) := by
 refine ⟨rfl, rfl, rfl, fun _ => ⟨Int.le_refl _, Int.le_refl _, fun _ => rfl⟩, fun q => ?_⟩
 rw [wr_setW]
 split
 ·next h =>
  have e : m.wr q = m.wr i := by unfold Meta.wr; rw [h.1]
  rw [e]
  exact ⟨h1, h2, h3⟩
 ·exact ⟨Int.le_refl _, Int.le_refl _, Int.le_refl _⟩
theorem fenced_up (b : Int) (v : View) : v.epoch ≤ (v.fenced b).epoch ∧ v.ver ≤ (v.fenced b).ver ∧ (v.epoch = (v.fenced b).epoch → v.lead = (v.fenced b).lead) := by
 unfold View.fenced
 split
 ·by_cases h : v.lead = b
  ·rw [if_pos h, if_pos h]
   exact ⟨by show v.epoch ≤ v.epoch + 1; omega, by show v.ver ≤ v.ver + 1; omega, fun e => by have e' : v.epoch = v.epoch + 1 := e; omega⟩
  ·rw [if_neg h, if_neg h]
   exact ⟨Int.le_refl _, by show v.ver ≤ v.ver + 1; omega, fun _ => rfl⟩
 ·exact ⟨Int.le_refl _, Int.le_refl _, fun _ => rfl⟩
theorem Rs.fence (m : Meta) (b : Int) : Rs m (m.fence b).1 := by
 unfold Meta.fence
 split
 ·exact .refl m
 ·split
  ·exact .refl m
  ·refine ⟨rfl, rfl, rfl, fun q => ?_, fun _ => ⟨Int.le_refl _, Int.le_refl _, Int.le_refl _⟩⟩
   show _ ≤ ((m.views.map (View.fenced b)).getD q.toNat ⟨-1, 0, 0, []⟩).epoch ∧ _ ≤ ((m.views.map (View.fenced b)).getD q.toNat ⟨-1, 0, 0, []⟩).ver ∧ (_ = ((m.views.map (View.fenced b)).getD q.toNat ⟨-1, 0, 0, []⟩).epoch → _ = ((m.views.map (View.fenced b)).getD q.toNat ⟨-1, 0, 0, []⟩).lead)
   unfold Meta.view
   rw [List.getD_eq_getElem?_getD, List.getD_eq_getElem?_getD, List.getElem?_map]
   cases m.views[q.toNat]? with
   | none => exact ⟨Int.le_refl _, Int.le_refl _, fun _ => rfl⟩
   | some v => exact fenced_up b v
theorem Rs.elect (m : Meta) (p b : Int) (u : Bool) : Rs m (m.elect p b u).1 := by
 unfold Meta.elect
 split
 ·exact .refl m
 split
 ·exact .refl m
 split
 ·exact .refl m
 split
 ·exact .refl m
 exact .setV m p (by show _ ≤ (m.view p).epoch + 1; omega) (by show _ ≤ (m.view p).ver + 1; omega) (fun e => by have e' : (m.view p).epoch = (m.view p).epoch + 1 := e; omega)
theorem Rs.alter (m : Meta) (p b n o : Int) (l : List Int) : Rs m (m.alter p b n o l).1 := by
 unfold Meta.alter
 split
 ·exact .refl m
 split
 ·exact .refl m
 split
 ·exact .refl m
 split
 ·exact .refl m
 exact .setV m p (Int.le_refl _) (by show _ ≤ (m.view p).ver + 1; omega) (fun _ => rfl)
theorem Rs.init (m : Meta) (i : Int) : Rs m (m.init i).1 := by
 unfold Meta.init
 split
 ·exact .refl m
 split
 ·exact .refl m
 split
 ·exact .refl m
 split
 ·exact .setW m i (by show _ ≤ (m.wr i).ses + 1; omega) (Int.le_refl _) (Int.le_refl _)
 ·exact .setW m i (by show _ ≤ (m.wr i).ses + 1; omega) (Int.le_refl _) (Int.le_refl _)
theorem Rs.add (m : Meta) (i s p : Int) : Rs m (m.add i s p).1 := by
 unfold Meta.add
 split
 ·exact .refl m
 split
 ·exact .refl m
 split
 ·exact .refl m
 split
 ·split
  ·exact .refl m
  ·exact .setW m i (Int.le_refl _) (by show _ ≤ (m.wr i).num + 1; omega) (Int.le_refl _)
 ·exact .setW m i (Int.le_refl _) (Int.le_refl _) (Int.le_refl _)
theorem Rs.ends (m : Meta) (i s : Int) (c : Bool) (o : Int) : Rs m (m.ends i s c o).1 := by
 unfold Meta.ends
 split
 ·exact .refl m
 split
 ·exact .refl m
 rename_i h
 split
 ·exact .refl m
 split
 ·exact .refl m
 split
 ·cases c <;> exact .setW m i (Int.le_refl _) (Int.le_refl _) (Int.le_refl _)
 ·cases c
  ·exact .setW m i (Int.le_refl _) (Int.le_refl _) (Int.le_refl _)
  ·exact .setW m i (Int.le_refl _) (Int.le_refl _) (by show _ ≤ o; omega)
theorem Rs.marked {m : Meta} (hm : m.ok) (i n p : Int) : Rs m (m.marked i n p).1 := by
 unfold Meta.marked
 split
 ·exact .refl m
 rename_i hi
 split
 ·exact .refl m
 have hi' : inN i m.ni := Classical.byContradiction fun e => hi (.inl e)
 have ho := (hm.wr hi').x0
 dsimp only
 split
 ·refine .setW m i (Int.le_refl _) (Int.le_refl _) ?_
  show _ ≤ (if (m.wr i).st = 3 then (m.wr i).nxt else (m.wr i).off)
  split
  ·rcases ho with e | e
   ·exact e
   ·contradiction
  ·exact Int.le_refl _
 ·exact .setW m i (Int.le_refl _) (Int.le_refl _) (Int.le_refl _)
theorem Rs.act {m : Meta} (hm : m.ok) (a : Ct.Act) : Rs m (m.act a).1 := by
 unfold Meta.act
 split
 ·exact .fence m _
 split
 ·unfold Meta.register
  split
  ·exact .refl m
  ·exact .setL m _ _
 split
 ·exact .elect m _ _ _
 split
 ·exact .alter m _ _ _ _ _
 split
 ·exact .init m _
 split
 ·exact .add m _ _ _
 split
 ·exact .ends m _ _ _ _
 split
 ·exact .marked hm _ _ _
 ·exact .refl m
theorem Rs.does {m : Meta} (hm : m.ok) (a : Ct.Act) : Rs m (m.does a) := .act hm _
end PL
open PL
theorem lives3_ok (m : Nat) (D : LMeta) (b : Int) (w : World) (h : MetaAt w m D) (hok : D.pure.ok) (hb : 0 ≤ b) (hl : b < D.nb) (hv : D.pure.live b = true) : Ret Try.prog 19 #[.pointer (some ⟨m, 0, none⟩), .int .i64 b] w (fun v w' => v = .tuple #[.bool true, .int .i64 0] ∧ Lk w' w NoB) := by
 obtain ⟨i, rfl⟩ : ∃ i : Nat, b = i := ⟨b.toNat, by omega⟩
 have := lives_ok m D i w h hok (by omega)
 rwa [hv] at this
theorem in3_ok (A : Option Addr) (xs : List Int) (c : Nat) (x : Int) (w : World) [Row w A (ints xs)] (hn : xs.length ≤ 1000000000) (hx : x ∈ xs) : Ret Try.prog 20 #[.slice A xs.length c, .int .i64 x] w (fun v w' => v = .bool true ∧ Lk w' w NoB) := by
 have := refin_ok A xs.length c xs x w rfl hn
 rwa [decide_eq_true hx] at this
set_option maxHeartbeats 4000000 in
/-- waystation/waystationlaw10.MetaRises -/
theorem metaRises_ok (A : Option Addr) (n c : Nat) (xs : List LAct) (w : World) [hra : Row w A (xs.flatMap actC)] (hrs : ∀ j (h : j < xs.length), RowP w xs[j].A (ints xs[j].a.list)) (hss : ∀ j (h : j < xs.length), xs[j].A.isSome = true ∨ xs[j].a.list.length = 0) (hl : xs.length = n) (hn : n ≤ 9223372036854775807) : Ret Try.prog 3 #[.slice A n c] w (fun v w' => v = .bool true ∧ Lk w' w NoB) := by
 haveI hrb : RowB w A w (xs.flatMap actC) := rowB_of hra.row
 refine ret_of_x (N := 189) (l := [.slice A n c]) Try.func3 rfl rfl (Nat.le_of_ble_eq_true rfl) ?_
 refine x_seq ?_
 refine x_regionL ?_
 refine xl_v v_assign ?_
 refine xl_nil ?_
 refine x_seq ?_
 refine x_seq ?_
 refine x_regionL ?_
 refine xl_v v_move ?_
 refine xl_v v_len ?_
 refine xl_v v_gtr ?_
 refine xl_v v_move ?_
 refine xl_split 24 (fun g24 => ?_) (fun g24 => ?_)
 ·
  refine xl_gs rfl EvO.eq ?_
  refine xl_gs rfl EvO.eq ?_
  refine xl_Pk ?_
  refine xl_nil ?_
  refine x_condT ?_
  refine x_seq ?_
  refine x_regionL ?_
  refine xl_call (known_ok w) ?_
  rintro _ w1 ⟨rfl, lkk⟩
  refine xl_v v_assign ?_
  refine xl_nil ?_
  refine x_ret ?_
  refine fin1 rfl ?_
  exact ⟨rfl, lkc⟩
 ·
  refine xl_gv rfl EvO.eq v_move ?_
  refine xl_gcall rfl EvO.eq (large2_ok A n c xs w hl hn) ?_
  rintro _ w2 ⟨⟨bl, rfl, hbl⟩, lkl⟩
  refine xl_Pk ?_
  refine xl_nil ?_
  refine x_condE (fun c1 => ?_) (fun c1 => ?_)
  ·
   refine x_seq ?_
   refine x_regionL ?_
   refine xl_call (known_ok w2) ?_
   rintro _ w3 ⟨rfl, lkk⟩
   refine xl_v v_assign ?_
   refine xl_nil ?_
   refine x_ret ?_
   refine fin1 rfl ?_
   exact ⟨rfl, lkc⟩
  ·
   have hlen := hbl c1
   refine x_skip ?_
   refine x_seq ?_
   refine x_regionL ?_
   refine xl_v v_build ?_
   refine xl_e (e_alloc fun b5 w4 n5 l5 k5 => ?_)
   refine xl_s (e_storeA fun w5 l5 k5 => ?_)
   refine xl_nil ?_
   refine x_seq ?_
   refine x_regionL ?_
   refine xl_La ?_
   refine xl_call (new3_ok 3 2 2 w5 (by decide)) ?_
   rintro _ w6 ⟨⟨m, D, rfl, hM, hP, hN⟩, lkn⟩
   refine xl_v v_move ?_
   refine xl_v v_extract ?_
   refine xl_v v_extract ?_
   refine xl_v v_assign ?_
   refine xl_v v_assign ?_
   refine xl_nil ?_
   refine x_seq ?_
   refine x_regionL ?_
   refine xl_La ?_
   refine xl_call (refnew_ok 3 2 2 w6 (by decide) (by decide) (by decide)) ?_
   rintro _ w7 ⟨⟨R, F, rfl, hRp, hR, hRs⟩, lkf⟩
   have hM3 := hM.ext (kpc : Keep NoB _ w6)
   refine xl_e (e_alloc fun bg w8 ng lg kg => ?_)
   refine xl_s (e_storeA fun w9 l9 k9 => ?_)
   refine xl_nil ?_
   refine x_seq ?_
   refine x_seq ?_
   refine x_regionL ?_
   refine xl_v v_move ?_
   refine xl_v (v_neqF rfl) ?_
   refine xl_nil ?_
   refine x_condF ?_
   refine x_skip ?_
   refine x_seq ?_
   refine x_seq ?_
   refine x_regionL ?_
   refine xl_v v_assign ?_
   refine xl_nil ?_
   refine x_block ?_
   have hgcell : (w9).heap[bg]? = some (.cells (metaC R).toArray 35 (0, 0)) := Blk.eq
   have hT : At3 w9 m D R F := ⟨(hM3.ext (kpc : Keep NoB _ w9)), hR.ext (kpc : Keep NoB _ w9), by rw [hP, hRp], by rw [hP]; exact Go.Wst.Ct.new_ok (by decide) (by decide) (by decide), fun k e e2 => by
       have h1 := hM3.lt k e2
       rcases hRs k e with q | q
       ·exact q
       ·omega⟩
   have hT1 : ∀ j, MetaB m D j → w.heap.size ≤ j := fun k e => Nat.le_trans Ge.le (hN k e)
   have hg0 : w.heap.size ≤ bg := by rw [ng.eq]; exact Ge.le
   have hgm : ¬ MetaB m D bg ∧ ¬ F bg := ⟨fun e => by have := hM3.lt _ e; have := ng.eq; have := lkf.keep.size; omega, fun e => by have := hR.lt _ e; have := ng.eq; omega⟩
   have hD2 : D.pure.np = 2 ∧ D.pure.ni = 2 := by rw [hP]; exact ⟨rfl, rfl⟩
   refine x_loop (fun t τ ds w' => ds = [] ∧ ∃ (k : Nat) (D R : LMeta) (F : Nat → Prop), t = n - k ∧ k ≤ n ∧ At3 w' m D R F ∧ (D.pure.np = 2 ∧ D.pure.ni = 2) ∧ (∀ j, MetaB m D j → w.heap.size ≤ j) ∧ w'.heap[bg]? = some (.cells (metaC R).toArray 35 (0, 0)) ∧ (¬ MetaB m D bg ∧ ¬ F bg) ∧ Ev τ 0 (.slice A n c) ∧ Ev τ 4 (.pointer (some ⟨m, 0, none⟩)) ∧ Ev τ 6 (.pointer (some ⟨bg, 0, none⟩)) ∧ Ev τ 7 (.int .i64 (k : Int)) ∧ Lk w' w NoB) (n) ?start ?round
   case start =>
    exact ⟨rfl, 0, D, R, F, rfl, Nat.zero_le _, hT, hD2, hT1, hgcell, hgm, inferInstance, inferInstance, inferInstance, evc, lkc⟩
   case round =>
    intro m τ10 ds10 w10 hI
    clear hT hT1 hgcell hgm hM hP hN hM3 hR hRp hRs hD2
    obtain ⟨rfl, k, D, R, F, rfl, hk, hT, hD2, hT1, hbg, hgm, e0, e4, e6, e7, lk⟩ := hI
    haveI kbg : Blk w10 bg _ := ⟨hbg⟩
    refine x_seq ?_
    refine x_seq ?_
    refine x_regionL ?_
    refine xl_v v_move ?_
    refine xl_v v_move ?_
    refine xl_v v_len ?_
    refine xl_v v_lss ?_
    refine xl_nil ?_
    first | refine x_condP (fun c3 => ?_) (fun c3 => ?_) | refine x_condN (fun c3 => ?_) (fun c3 => ?_) | refine x_condE (fun c3 => ?_) (fun c3 => ?_)
    ·
     have hk1 : k < xs.length := by omega
     haveI hrx : RowB w xs[k].A w (ints xs[k].a.list) := rowB_of (hrs k hk1)
     have hox := old_act hrx
     have hoA := old_acts hrb hk1
     have hll := hlen k hk1
     have hwB : w.heap.size ≤ (w10).heap.size := Ge.le
     haveI nsD : NotS (MetaB m D) bg := ⟨hgm.1⟩
     haveI roD : RowOut (MetaB m D) A := ⟨fun a ha e => by have h1 := hoA a ha; have h2 := hT1 _ e; omega⟩
     haveI sfD : SubF (MetaB m D) NoB w := ⟨fun k hk e => by have h2 := hT1 _ e; omega⟩
     haveI abD : Above (MetaB m D) w := ⟨hT1⟩
     refine x_skip ?_
     refine x_seq ?_
     refine x_block ?_
     refine x_seq ?_
     refine x_regionL ?_
     refine xl_v v_move ?_
     refine xl_call (copy_ok m D w10 (hT.ext (kpc : Keep NoB _ w10)).at_ hT.ok) ?_
     rintro _ w11 ⟨⟨mc, C, rfl, hC, hCp, hCn⟩, lkc1⟩
     have hTp := hT.ext (kpc : Keep NoB _ w10)
     have hcc : ∀ j, MetaB mc C j → ¬ MetaB m D j := fun j e e2 => by have h1 := hTp.at_.lt j e2; have h2 := hCn j e; omega
     have hgp : bg < (w10).heap.size := Has.lt
     have hcg : ∀ j, MetaB mc C j → j ≠ bg := fun j e e2 => by have h2 := hCn j e; omega
     refine xl_v v_assign ?_
     refine xl_nil ?_
     refine x_seq ?_
     refine x_drawL (MetaB m D) (allS) (.take 0 (.take 1 (.take 2 (.take 3 (.take 4 (.take 5 (.eff 6 (.take 7 (.take 8 (.takeA 9 (.free 10 .done))))))))))) mixed (by kernel_rfl) (fun _ _ _ _ _ h => h) (fun w12 l12 => ?_)
     refine xt_v rfl v_move ?_
     refine xt_La rfl ?_
     refine xt_v rfl v_move ?_
     refine xt_v rfl v_move ?_
     refine xt_v rfl (v_indexF k (by decide) rfl (by omega) hk1) ?_
     refine xt_v rfl (v_loadF (k := k) (by decide) hk1) ?_
     refine xt_call rfl (does3_ok (w := w12) xs[k] (hT.ext (kpc : Keep NoB _ w12)) (by omega) (hss k hk1) (fun hne a ha e => by have h1 := hox hne a ha; have h2 := hT1 _ e; omega)) ?_
     rintro _ w13 ⟨⟨R', D', F', rfl, hA2, hp2, hs2⟩, lk2⟩
     refine ⟨kpc, ?_⟩
     have hgB : bg < (w10).heap.size := (Array.getElem?_eq_some_iff.1 hbg).1
     have hg2 := hs2.off bg (Nat.lt_of_lt_of_le hgB Ge.le) hgm.1
     have hT4 := hs2.new hT1 (Nat.le_trans hwB Ge.le)
     have hg3 : ¬ F' bg := fun e => by
      rcases hs2.from_ bg e (Nat.lt_of_lt_of_le hgB Ge.le) hgm.1 with h3 | ⟨h3, h4⟩
      ·exact hgm.2 h3
      ·obtain ⟨a, ha, h5⟩ := Option.map_eq_some_iff.1 h4
       have h6 := hox h3 a ha
       omega
     have hgm3 : ¬ MetaB m D' bg ∧ ¬ F' bg := ⟨hg2, hg3⟩
     have hC2 := (hC.ext (kpc : Keep NoB _ w12)).keep lk2.keep hcc
     have hRs : Rs D.pure D'.pure := by rw [hp2]; exact Rs.does hT.ok _
     have hD3 : D'.pure.np = 2 ∧ D'.pure.ni = 2 := ⟨hRs.np.trans hD2.1, hRs.ni.trans hD2.2⟩
     have hokD := hA2.ok
     refine xt_v rfl v_move ?_
     refine xt_v rfl v_extract ?_
     refine xt_av rfl v_extract ?_
     refine xt_fs rfl (e_storeA fun w14 l14 k14 => ?_)
     have hT3 : At3 w14 m D' R' F' := hA2.keep (S := OneB bg) kpc (fun k e e2 => hg2 (e2 ▸ e)) (fun k e e2 => hg3 (e2 ▸ e))
     have hC3 : MetaAt w14 mc C := hC2.keep (S := OneB bg) kpc hcg
     have hokC : C.pure.ok := by rw [hCp]; exact hT.ok
     have hnp : D'.np = 2 := hD3.1
     have hni : D'.ni = 2 := hD3.2
     have hncp : C.np = 2 := (congrArg Meta.np hCp).trans hD2.1
     have hnci : C.ni = 2 := (congrArg Meta.ni hCp).trans hD2.2
     refine xt_nil ?_
     refine x_seq ?_
     refine x_seq ?_
     refine x_regionL ?_
     refine xl_v v_assign ?_
     refine xl_nil ?_
     refine x_block ?_
     have hgc5 : (w14).heap[bg]? = some (.cells (metaC R').toArray 35 (0, 0)) := Blk.eq
     have hT4w := hT3.ext (kpc : Keep NoB _ w14)
     have hC4w := hC3.ext (kpc : Keep NoB _ w14)
     refine x_loop (fun t τ ds w' => ds = [] ∧ ∃ (p : Nat), t = 2 - p ∧ p ≤ 2 ∧ At3 w' m D' R' F' ∧ MetaAt w' mc C ∧ w'.heap[bg]? = some (.cells (metaC R').toArray 35 (0, 0)) ∧ Ev τ 0 (.slice A n c) ∧ Ev τ 4 (.pointer (some ⟨m, 0, none⟩)) ∧ Ev τ 6 (.pointer (some ⟨bg, 0, none⟩)) ∧ Ev τ 7 (.int .i64 (k : Int)) ∧ Ev τ 8 (.pointer (some ⟨mc, 0, none⟩)) ∧ Ev τ 9 (.int .i64 (p : Int)) ∧ Lk w' w NoB) (2) ?start ?round
     case start =>
      exact ⟨rfl, 0, rfl, Nat.zero_le _, hT4w, hC4w, hgc5, inferInstance, inferInstance, inferInstance, inferInstance, inferInstance, evc, lkc⟩
     case round =>
      intro m τ15 ds15 w15 hI
      clear e0 e4 e6 e7
      obtain ⟨rfl, p, rfl, hp, hT5, hC5, hbg5, e0, e4, e6, e7, e8, e9, lk5⟩ := hI
      haveI kbg5 : Blk w15 bg _ := ⟨hbg5⟩
      refine x_seq ?_
      refine x_seq ?_
      refine x_regionL ?_
      refine xl_v v_move ?_
      refine xl_v v_lss ?_
      refine xl_nil ?_
      first | refine x_condP (fun c4 => ?_) (fun c4 => ?_) | refine x_condN (fun c4 => ?_) (fun c4 => ?_) | refine x_condE (fun c4 => ?_) (fun c4 => ?_)
      ·
       have hp1 : p < 2 := by omega
       refine x_skip ?_
       refine x_seq ?_
       refine x_block ?_
       refine x_seq ?_
       refine x_regionL ?_
       refine xl_v v_move ?_
       refine xl_v v_move ?_
       refine xl_call (view_ok mc C p w15 (hC5.ext (kpc : Keep NoB _ w15)) hokC (by omega)) ?_
       rintro _ w16 ⟨⟨x, rfl, hxv, hxo⟩, lkv⟩
       refine xl_v v_move ?_
       refine xl_v v_extract ?_
       refine xl_v v_extract ?_
       refine xl_e (e_alloc fun b10 w17 n10 l10 k10 => ?_)
       refine xl_s (e_storeA fun w18 l18 k18 => ?_)
       refine xl_v v_assign ?_
       refine xl_nil ?_
       refine x_seq ?_
       refine x_regionL ?_
       refine xl_v v_move ?_
       refine xl_v v_move ?_
       refine xl_call (view_ok m D' p w18 (hT5.ext (kpc : Keep NoB _ w18)).at_ hokD (by omega)) ?_
       rintro _ w19 ⟨⟨y, rfl, hyv, hyo⟩, lkv2⟩
       have hup : x.v.epoch ≤ y.v.epoch ∧ x.v.ver ≤ y.v.ver ∧ (x.v.epoch = y.v.epoch → x.v.lead = y.v.lead) := by rw [hxv, hyv, hCp]; exact hRs.v p
       have hyk : y.v.ok D'.pure.nb D'.pure.lives := by rw [hyv]; exact hokD.view ⟨by omega, by have := hD3.1; omega⟩
       have hyn : y.v.isr.length ≠ 0 := fun e => hyk.ne (List.length_eq_zero_iff.1 e)
       haveI oy : OwnI _ y.A _ _ _ _ _ _ _ := ⟨hyo⟩
       refine xl_v v_move ?_
       refine xl_v v_extract ?_
       refine xl_v v_extract ?_
       refine xl_e (e_alloc fun b12 w20 n12 l12 k12 => ?_)
       refine xl_s (e_storeA fun w21 l21 k21 => ?_)
       refine xl_v v_assign ?_
       refine xl_nil ?_
       refine x_seq ?_
       refine x_seq ?_
       refine x_regionL ?_
       refine xl_v v_move ?_
       refine xl_v (v_neqF rfl) ?_
       refine xl_v v_move ?_
       refine xl_gFa rfl EvO.eq ?_
       refine xl_gLd rfl EvO.eq ?_
       refine xl_gFa rfl EvO.eq ?_
       refine xl_gLd rfl EvO.eq ?_
       refine xl_gv rfl EvO.eq (v_congr (u := .bool false) v_lss (congrArg Value.bool (decide_eq_false (by omega)))) ?_
       refine xl_Pk ?_
       refine xl_v v_move ?_
       refine xl_gFa rfl EvO.eq ?_
       refine xl_gLd rfl EvO.eq ?_
       refine xl_gFa rfl EvO.eq ?_
       refine xl_gLd rfl EvO.eq ?_
       refine xl_gv rfl EvO.eq (v_congr (u := .bool false) v_lss (congrArg Value.bool (decide_eq_false (by omega)))) ?_
       refine xl_Pk ?_
       refine xl_v v_move ?_
       refine xl_gFa rfl EvO.eq ?_
       refine xl_gLd rfl EvO.eq ?_
       refine xl_gv rfl EvO.eq v_len ?_
       refine xl_gv rfl EvO.eq (v_eqlF (by omega)) ?_
       refine xl_Pk ?_
       refine xl_v v_move ?_
       refine xl_gFa rfl EvO.eq ?_
       refine xl_gLd rfl EvO.eq ?_
       refine xl_gFa rfl EvO.eq ?_
       refine xl_gLd rfl EvO.eq ?_
       refine xl_gv rfl EvO.eq v_eql ?_
       refine xl_gv rfl EvO.eq v_move ?_
       refine xl_split 101 (fun g101 => ?_) (fun g101 => ?_)
       ·
        refine xl_gFa rfl EvO.eq ?_
        refine xl_gLd rfl EvO.eq ?_
        refine xl_gFa rfl EvO.eq ?_
        refine xl_gLd rfl EvO.eq ?_
        refine xl_gv rfl EvO.eq (v_neqF (hup.2.2 (by simpa using g101))) ?_
        refine xl_gPk rfl EvO.eq ?_
        refine xl_Pk ?_
        refine xl_nil ?_
        refine x_condF ?_
        refine x_skip ?_
        refine x_seq ?_
        refine x_regionL ?_
        refine xl_Fa ?_
        refine xl_Ld ?_
        refine xl_v v_geq ?_
        refine xl_nil ?_
        first | refine x_condP (fun c6 => ?_) (fun c6 => ?_) | refine x_condN (fun c6 => ?_) (fun c6 => ?_) | refine x_condE (fun c6 => ?_) (fun c6 => ?_)
        ·
         have hyl : 0 ≤ y.v.lead := by first | exact c6 | omega | simpa using c6
         refine x_seq ?_
         refine x_regionL ?_
         refine xl_v v_move ?_
         refine xl_Fa ?_
         refine xl_Ld ?_
         refine xl_call (lives3_ok m D' y.v.lead w21 (hT5.ext (kpc : Keep NoB _ w21)).at_ hokD hyl hyk.l1 (by unfold Meta.live; rw [List.getD_eq_getElem?_getD, hyk.live _ (Int.toNat_of_nonneg hyl).symm]; rfl)) ?_
         rintro _ w22 ⟨rfl, lkl3⟩
         refine xl_v v_move ?_
         refine xl_v v_extract ?_
         refine xl_v v_extract ?_
         refine xl_v v_assign ?_
         refine xl_v v_assign ?_
         refine xl_nil ?_
         refine x_seq ?_
         refine x_regionL ?_
         refine xl_v v_move ?_
         refine xl_v (v_congr (u := .bool false) v_not rfl) ?_
         refine xl_v v_move ?_
         refine xl_gFa rfl EvO.eq ?_
         refine xl_gLd rfl EvO.eq ?_
         refine xl_gFa rfl EvO.eq ?_
         refine xl_gLd rfl EvO.eq ?_
         refine xl_gcall rfl EvO.eq (in3_ok y.A y.v.isr y.c y.v.lead w22 (by have h1 := rises_len hyk.rise; have h2 := hokD.b.2; omega) (hyk.mem hyl)) ?_
         rintro _ w23 ⟨rfl, lki3⟩
         refine xl_gv rfl EvO.eq (v_congr (u := .bool false) v_not rfl) ?_
         refine xl_Pk ?_
         refine xl_nil ?_
         refine x_condF ?_
         refine x_skip ?_
         refine x_regionL ?_
         refine xl_v v_move ?_
         refine xl_v (v_add (by omega)) ?_
         refine xl_v v_assign ?_
         refine xl_nil ?_
         refine ⟨_, ?_, rfl, p + 1, rfl, by omega, hT5.ext (kpc : Keep NoB _ w23), hC5.ext (kpc : Keep NoB _ w23), Blk.eq, inferInstance, inferInstance, inferInstance, inferInstance, inferInstance, evc, lkc⟩
         omega
        ·
         refine x_skip ?_
         refine x_regionL ?_
         refine xl_v v_move ?_
         refine xl_v (v_add (by omega)) ?_
         refine xl_v v_assign ?_
         refine xl_nil ?_
         refine ⟨_, ?_, rfl, p + 1, rfl, by omega, hT5.ext (kpc : Keep NoB _ w21), hC5.ext (kpc : Keep NoB _ w21), Blk.eq, inferInstance, inferInstance, inferInstance, inferInstance, inferInstance, evc, lkc⟩
         omega
       ·
        refine xl_gs rfl EvO.eq ?_
        refine xl_gs rfl EvO.eq ?_
        refine xl_gs rfl EvO.eq ?_
        refine xl_gs rfl EvO.eq ?_
        refine xl_gs rfl EvO.eq ?_
        refine xl_gPk rfl EvO.eq ?_
        refine xl_Pk ?_
        refine xl_nil ?_
        refine x_condF ?_
        refine x_skip ?_
        refine x_seq ?_
        refine x_regionL ?_
        refine xl_Fa ?_
        refine xl_Ld ?_
        refine xl_v v_geq ?_
        refine xl_nil ?_
        first | refine x_condP (fun c6 => ?_) (fun c6 => ?_) | refine x_condN (fun c6 => ?_) (fun c6 => ?_) | refine x_condE (fun c6 => ?_) (fun c6 => ?_)
        ·
         have hyl : 0 ≤ y.v.lead := by first | exact c6 | omega | simpa using c6
         refine x_seq ?_
         refine x_regionL ?_
         refine xl_v v_move ?_
         refine xl_Fa ?_
         refine xl_Ld ?_
         refine xl_call (lives3_ok m D' y.v.lead w21 (hT5.ext (kpc : Keep NoB _ w21)).at_ hokD hyl hyk.l1 (by unfold Meta.live; rw [List.getD_eq_getElem?_getD, hyk.live _ (Int.toNat_of_nonneg hyl).symm]; rfl)) ?_
         rintro _ w24 ⟨rfl, lkl3⟩
         refine xl_v v_move ?_
         refine xl_v v_extract ?_
         refine xl_v v_extract ?_
         refine xl_v v_assign ?_
         refine xl_v v_assign ?_
         refine xl_nil ?_
         refine x_seq ?_
         refine x_regionL ?_
         refine xl_v v_move ?_
         refine xl_v (v_congr (u := .bool false) v_not rfl) ?_
         refine xl_v v_move ?_
         refine xl_gFa rfl EvO.eq ?_
         refine xl_gLd rfl EvO.eq ?_
         refine xl_gFa rfl EvO.eq ?_
         refine xl_gLd rfl EvO.eq ?_
         refine xl_gcall rfl EvO.eq (in3_ok y.A y.v.isr y.c y.v.lead w24 (by have h1 := rises_len hyk.rise; have h2 := hokD.b.2; omega) (hyk.mem hyl)) ?_
         rintro _ w25 ⟨rfl, lki3⟩
         refine xl_gv rfl EvO.eq (v_congr (u := .bool false) v_not rfl) ?_
         refine xl_Pk ?_
         refine xl_nil ?_
         refine x_condF ?_
         refine x_skip ?_
         refine x_regionL ?_
         refine xl_v v_move ?_
         refine xl_v (v_add (by omega)) ?_
         refine xl_v v_assign ?_
         refine xl_nil ?_
         refine ⟨_, ?_, rfl, p + 1, rfl, by omega, hT5.ext (kpc : Keep NoB _ w25), hC5.ext (kpc : Keep NoB _ w25), Blk.eq, inferInstance, inferInstance, inferInstance, inferInstance, inferInstance, evc, lkc⟩
         omega
        ·
         refine x_skip ?_
         refine x_regionL ?_
         refine xl_v v_move ?_
         refine xl_v (v_add (by omega)) ?_
         refine xl_v v_assign ?_
         refine xl_nil ?_
         refine ⟨_, ?_, rfl, p + 1, rfl, by omega, hT5.ext (kpc : Keep NoB _ w21), hC5.ext (kpc : Keep NoB _ w21), Blk.eq, inferInstance, inferInstance, inferInstance, inferInstance, inferInstance, evc, lkc⟩
         omega
      ·
       refine x_exit ?_
       refine x_seq ?_
       refine x_regionL ?_
       refine xl_v v_assign ?_
       refine xl_nil ?_
       refine x_block ?_
       have hgc6 : (w15).heap[bg]? = some (.cells (metaC R').toArray 35 (0, 0)) := Blk.eq
       have hT5w := hT5.ext (kpc : Keep NoB _ w15)
       have hC5w := hC5.ext (kpc : Keep NoB _ w15)
       refine x_loop (fun t τ ds w' => ds = [] ∧ ∃ (p : Nat), t = 2 - p ∧ p ≤ 2 ∧ At3 w' m D' R' F' ∧ MetaAt w' mc C ∧ w'.heap[bg]? = some (.cells (metaC R').toArray 35 (0, 0)) ∧ Ev τ 0 (.slice A n c) ∧ Ev τ 4 (.pointer (some ⟨m, 0, none⟩)) ∧ Ev τ 6 (.pointer (some ⟨bg, 0, none⟩)) ∧ Ev τ 7 (.int .i64 (k : Int)) ∧ Ev τ 8 (.pointer (some ⟨mc, 0, none⟩)) ∧ Ev τ 16 (.int .i64 (p : Int)) ∧ Lk w' w NoB) (2) ?start ?round
       case start =>
        exact ⟨rfl, 0, rfl, Nat.zero_le _, hT5w, hC5w, hgc6, inferInstance, inferInstance, inferInstance, inferInstance, inferInstance, evc, lkc⟩
       case round =>
        intro m τ26 ds26 w26 hI
        clear e0 e4 e6 e7 e8 e9
        obtain ⟨rfl, p, rfl, hp, hT6, hC6, hbg6, e0, e4, e6, e7, e8, e16, lk6⟩ := hI
        haveI kbg6 : Blk w26 bg _ := ⟨hbg6⟩
        refine x_seq ?_
        refine x_seq ?_
        refine x_regionL ?_
        refine xl_v v_move ?_
        refine xl_v v_lss ?_
        refine xl_nil ?_
        first | refine x_condP (fun c8 => ?_) (fun c8 => ?_) | refine x_condN (fun c8 => ?_) (fun c8 => ?_) | refine x_condE (fun c8 => ?_) (fun c8 => ?_)
        ·
         have hp1 : p < 2 := by omega
         refine x_skip ?_
         refine x_seq ?_
         refine x_block ?_
         refine x_seq ?_
         refine x_regionL ?_
         refine xl_v v_move ?_
         refine xl_v v_move ?_
         refine xl_call (writing_ok mc C p w26 (hC6.ext (kpc : Keep NoB _ w26)) hokC (by omega)) ?_
         rintro _ w27 ⟨⟨x, rfl, hxv, hxo⟩, lkv⟩
         refine xl_v v_move ?_
         refine xl_v v_extract ?_
         refine xl_v v_extract ?_
         refine xl_e (e_alloc fun b17 w28 n17 l17 k17 => ?_)
         refine xl_s (e_storeA fun w29 l29 k29 => ?_)
         refine xl_v v_assign ?_
         refine xl_nil ?_
         refine x_seq ?_
         refine x_regionL ?_
         refine xl_v v_move ?_
         refine xl_v v_move ?_
         refine xl_call (writing_ok m D' p w29 (hT6.ext (kpc : Keep NoB _ w29)).at_ hokD (by omega)) ?_
         rintro _ w30 ⟨⟨y, rfl, hyv, hyo⟩, lkv2⟩
         have hup : x.w.ses ≤ y.w.ses ∧ x.w.num ≤ y.w.num ∧ x.w.off ≤ y.w.off := by rw [hxv, hyv, hCp]; exact hRs.w p
         have hyk : y.w.ok D'.pure.np := by rw [hyv]; exact hokD.wr ⟨by omega, by have := hD3.2; omega⟩
         have hnop : decide (y.w.st = 1) = decide ((y.w.parts.length : Int) = 0) := by rw [decide_eq_decide, hyk.nop, ← List.length_eq_zero_iff]; omega
         refine xl_v v_move ?_
         refine xl_v v_extract ?_
         refine xl_v v_extract ?_
         refine xl_e (e_alloc fun b19 w31 n19 l19 k19 => ?_)
         refine xl_s (e_storeA fun w32 l32 k32 => ?_)
         refine xl_v v_assign ?_
         refine xl_nil ?_
         refine x_seq ?_
         refine x_regionL ?_
         refine xl_v v_move ?_
         refine xl_v (v_neqF rfl) ?_
         refine xl_v v_move ?_
         refine xl_gFa rfl EvO.eq ?_
         refine xl_gLd rfl EvO.eq ?_
         refine xl_gFa rfl EvO.eq ?_
         refine xl_gLd rfl EvO.eq ?_
         refine xl_gv rfl EvO.eq (v_congr (u := .bool false) v_lss (congrArg Value.bool (decide_eq_false (by omega)))) ?_
         refine xl_Pk ?_
         refine xl_v v_move ?_
         refine xl_gFa rfl EvO.eq ?_
         refine xl_gLd rfl EvO.eq ?_
         refine xl_gFa rfl EvO.eq ?_
         refine xl_gLd rfl EvO.eq ?_
         refine xl_gv rfl EvO.eq (v_congr (u := .bool false) v_lss (congrArg Value.bool (decide_eq_false (by omega)))) ?_
         refine xl_Pk ?_
         refine xl_v v_move ?_
         refine xl_gFa rfl EvO.eq ?_
         refine xl_gLd rfl EvO.eq ?_
         refine xl_gFa rfl EvO.eq ?_
         refine xl_gLd rfl EvO.eq ?_
         refine xl_gv rfl EvO.eq (v_congr (u := .bool false) v_lss (congrArg Value.bool (decide_eq_false (by omega)))) ?_
         refine xl_Pk ?_
         refine xl_v v_move ?_
         refine xl_gFa rfl EvO.eq ?_
         refine xl_gLd rfl EvO.eq ?_
         refine xl_gv rfl EvO.eq v_eql ?_
         refine xl_gFa rfl EvO.eq ?_
         refine xl_gLd rfl EvO.eq ?_
         refine xl_gv rfl EvO.eq v_len ?_
         refine xl_gv rfl EvO.eq v_eql ?_
         refine xl_gv rfl EvO.eq (v_congr (u := .bool false) v_bneq (by rw [hnop]; simp)) ?_
         refine xl_Pk ?_
         refine xl_v v_move ?_
         refine xl_gFa rfl EvO.eq ?_
         refine xl_gLd rfl EvO.eq ?_
         refine xl_gv rfl EvO.eq v_neq ?_
         refine xl_gv rfl EvO.eq v_move ?_
         refine xl_split 182 (fun g182 => ?_) (fun g182 => ?_)
         ·
          refine xl_gFa rfl EvO.eq ?_
          refine xl_gLd rfl EvO.eq ?_
          refine xl_gv rfl EvO.eq (v_neqF (hyk.x3 (by simpa using g182))) ?_
          refine xl_gPk rfl EvO.eq ?_
          refine xl_Pk ?_
          refine xl_nil ?_
          refine x_condF ?_
          refine x_skip ?_
          refine x_regionL ?_
          refine xl_v v_move ?_
          refine xl_v (v_add (by omega)) ?_
          refine xl_v v_assign ?_
          refine xl_nil ?_
          refine ⟨_, ?_, rfl, p + 1, rfl, by omega, hT6.ext (kpc : Keep NoB _ w32), hC6.ext (kpc : Keep NoB _ w32), Blk.eq, inferInstance, inferInstance, inferInstance, inferInstance, inferInstance, evc, lkc⟩
          omega
         ·
          refine xl_gs rfl EvO.eq ?_
          refine xl_gs rfl EvO.eq ?_
          refine xl_gs rfl EvO.eq ?_
          refine xl_gPk rfl EvO.eq ?_
          refine xl_Pk ?_
          refine xl_nil ?_
          refine x_condF ?_
          refine x_skip ?_
          refine x_regionL ?_
          refine xl_v v_move ?_
          refine xl_v (v_add (by omega)) ?_
          refine xl_v v_assign ?_
          refine xl_nil ?_
          refine ⟨_, ?_, rfl, p + 1, rfl, by omega, hT6.ext (kpc : Keep NoB _ w32), hC6.ext (kpc : Keep NoB _ w32), Blk.eq, inferInstance, inferInstance, inferInstance, inferInstance, inferInstance, evc, lkc⟩
          omega
        ·
         refine x_exit ?_
         refine x_regionL ?_
         refine xl_v v_move ?_
         refine xl_v (v_add (by omega)) ?_
         refine xl_v v_assign ?_
         refine xl_nil ?_
         refine ⟨_, ?_, rfl, k + 1, D', R', F', rfl, by omega, hT6.ext (kpc : Keep NoB _ w26), hD3, hT4, Blk.eq, hgm3, inferInstance, inferInstance, inferInstance, evc, lkc⟩
         omega
    ·
     refine x_exit ?_
     refine x_seq ?_
     refine x_regionL ?_
     refine xl_call (known_ok w10) ?_
     rintro _ w33 ⟨rfl, lkk⟩
     refine xl_v v_assign ?_
     refine xl_nil ?_
     refine x_ret ?_
     refine fin1 rfl ?_
     exact ⟨rfl, lkc⟩
end Go.Proofs.Ytnjpladlfiaojaa
