/-
 Walks, printed by a program of this workplace (wip/tools/sx.py) off the functions' code and a text of contracts.
-/
import Derived.Test.YtnjpladlfiaojaaN
set_option linter.all false
set_option maxRecDepth 100000
set_option synthInstance.maxSize 100000
set_option synthInstance.maxHeartbeats 400000
namespace Go.Proofs.Ytnjpladlfiaojaa
open Go.Wst
open Go.Wst.Ct
theorem own_some {w : World} {base : Nat} {e : TypeId} {sz n m c : Nat} {A : Option Addr} {xs : List Value} (h : w.ownsRow base e sz (.slice A m c) n xs) : A.isSome = true ∨ m = 0 := by
 rcases h.2 with ⟨he, hn⟩ | ⟨g, cap, cur, he, _⟩
 ·cases he; exact .inr rfl
 ·cases he; exact .inl rfl
theorem MetaAt.start {W : World} {m : Nat} {nb np ni : Nat} {l : List Bool} {A : Option Addr} {c : Nat} (hb : W.heap[m]? = some (.cells (metaC ⟨nb, np, ni, l, A, c, [], none, 0, [], none, 0⟩).toArray 72 (0, 0))) (ho : W.ownsRow 0 4 1 (.slice A l.length c) l.length (bools l)) (hA : ApB A m) : MetaAt W m ⟨nb, np, ni, l, A, c, [], none, 0, [], none, 0⟩ :=
 ⟨hb, ho, World.ownsRow_nil _ _ _ _, World.ownsRow_nil _ _ _ _, fun i x h => (by cases h), fun i x h => (by cases h), fun s t k hs ht => by
  have key : ∀ k, blkA A = some k → k ≠ m := fun k hk => by
   cases A with
   | none => cases hk
   | some a => have e : a.block = k := by simpa [blkA] using hk
               exact e ▸ hA.ne a rfl
  cases s <;> cases t <;> first | rfl | (cases hs; done) | (cases ht; done) | (cases hs; exact absurd rfl (key _ ht)) | (cases ht; exact absurd rfl (key _ hs))⟩
set_option maxHeartbeats 1000000 in
/-- (*waystation/meta.Meta).Copy -/
theorem copy_ok (m : Nat) (D : LMeta) (w : World) (h : MetaAt w m D) (hok : D.pure.ok) : Ret Try.prog 16 #[.pointer (some ⟨m, 0, none⟩)] w (fun v w' => (∃ mc D2, v = .pointer (some ⟨mc, 0, none⟩) ∧ MetaAt w' mc D2 ∧ D2.pure = D.pure ∧ NewM mc D2 w) ∧ Lk w' w NoB) := by
 haveI hb : Blk w m _ := ⟨h.hb⟩
 haveI hL0 : OwnI w D.LA _ _ _ _ _ _ _ := ⟨h.lives⟩
 haveI hV0 : OwnI w D.VA _ _ _ _ _ _ _ := ⟨h.views⟩
 haveI hW0 : OwnI w D.WA _ _ _ _ _ _ _ := ⟨h.wrs⟩
 obtain ⟨hll, hvl, hwl, hnb, hpl, hil⟩ := lens hok
 refine ret_of_x (N := 70) (l := [.pointer (some ⟨m, 0, none⟩)]) Try.func16 rfl rfl (Nat.le_of_ble_eq_true rfl) ?_
 refine x_seq ?_
 refine x_regionL ?_
 refine xl_v v_assign ?_
 refine xl_nil ?_
 refine x_seq ?_
 refine x_seq ?_
 refine x_regionL ?_
 refine xl_v v_move ?_
 refine xl_call (none_ok m D w (h.ext (kpc : Keep NoB w w))) ?_
 rintro _ w1 ⟨rfl, lk1⟩
 rw [decide_eq_false (by omega : ¬ D.vs.length = 0)]
 refine xl_nil ?_
 refine x_condF ?_
 refine x_skip ?_
 refine x_seq ?_
 refine x_drawL (NoB) (allS) (.take 0 (.take 1 (.take 2 (.take 3 (.take 4 (.take 5 (.take 6 (.take 7 (.eff 8 (.take 9 (.eff 10 (.take 11 .done)))))))))))) mixed (by kernel_rfl) (fun _ _ _ _ _ h => h) (fun w2 l2 => ?_)
 refine xt_v rfl v_move ?_
 refine xt_Nc rfl ?_
 refine xt_Fa rfl ?_
 refine xt_La rfl ?_
 refine xt_v rfl v_move ?_
 refine xt_Nc rfl ?_
 refine xt_Fa rfl ?_
 refine xt_Ld rfl ?_
 refine xt_call rfl (cloneB_ok D.LA _ D.lc (bools D.lives) w2 (by simp) (by omega) (cell1l_map _ _).eq (own_some h.lives)) ?_
 rintro _ w3 ⟨⟨A8, c8, rfl, hown8⟩, lk8⟩
 refine ⟨kpc, ?_⟩
 haveI o8 : OwnI w3 A8 _ _ _ _ _ _ _ := ⟨hown8⟩
 haveI na8 : NewA A8 w2 := newA_of hown8 (Nat.le_refl _)
 refine xt_v rfl v_build ?_
 refine xt_e rfl (e_box fun bc w4 nc lc kc => ?_)
 refine xt_v rfl v_assign ?_
 refine xt_nil ?_
 refine x_seq ?_
 refine x_seq ?_
 refine x_regionL ?_
 refine xl_v v_move ?_
 refine xl_Nc ?_
 refine xl_Fa ?_
 refine xl_Ld ?_
 refine xl_v v_len ?_
 refine xl_v v_move ?_
 refine xl_nil ?_
 refine x_block ?_
 have hwc : w.heap.size ≤ bc := by rw [nc.eq]; exact Ge.le
 haveI apc : ApB A8 bc := ⟨fun a ha e => by have := (own_blk hown8 (blkA_some ha)).2; have := nc.eq; have := lc.keep.size; omega⟩
 have hM0 : MetaAt w4 bc ⟨D.nb, D.np, D.ni, D.lives, A8, c8, [], none, 0, [], none, 0⟩ := MetaAt.start Blk.eq (own_mono (OwnI.own : World.ownsRow w4 _ _ _ (.slice A8 _ c8) _ _) (Nat.zero_le _)) apc
 have hN0 : NewM bc ⟨D.nb, D.np, D.ni, D.lives, A8, c8, [], none, 0, [], none, 0⟩ w := by
  rintro k ⟨s, hs⟩
  cases s with
  | m => cases hs; exact hwc
  | l => exact Nat.le_trans (Ge.le : w.heap.size ≤ _) (own_blk hown8 hs).1
  | vi j => cases hs
  | wi j => cases hs
  | _ => cases hs
 haveI sbm : SubF (OneB bc) NoB w := subNew1 hwc (Nat.le_refl _)
 refine x_loop (fun t τ ds w' => ds = [] ∧ ∃ (k : Nat) (E : LMeta), t = D.vs.length - k ∧ k ≤ D.vs.length ∧ MetaAt w' bc E ∧ NewM bc E w ∧ E.pure = ⟨D.nb, D.np, D.ni, D.lives, (D.vs.map (·.v)).take k, []⟩ ∧ Ev τ 0 (.pointer (some ⟨m, 0, none⟩)) ∧ Ev τ 3 (.pointer (some ⟨bc, 0, none⟩)) ∧ Ev τ 24 (.slice D.VA D.vs.length D.vc) ∧ Ev τ 25 (.int .i64 (D.vs.length : Int)) ∧ Ev τ 26 (.int .i64 (k : Int)) ∧ Lk w' w NoB) (D.vs.length) ?start ?round
 case start =>
  exact ⟨rfl, 0, _, rfl, Nat.zero_le _, hM0, hN0, rfl, inferInstance, inferInstance, inferInstance, inferInstance, evc, lkc⟩
 case round =>
  intro m τ5 ds5 w5 hI
  obtain ⟨rfl, k, E, rfl, hk, hM, hN, hP, e0, e3, e24, e25, e26, lk⟩ := hI
  haveI hb : Blk w5 bc _ := ⟨hM.hb⟩
  haveI hL : OwnI w5 E.VA _ _ _ _ _ _ _ := ⟨hM.views⟩
  haveI apm : ApB E.VA bc := hM.apm (s := .v) rfl nofun
  haveI sL : ∀ n c, SubF (OwnB (.slice E.VA n c)) NoB w := fun n c => subNewM hN (s := .v) rfl n c w (Nat.le_refl _)
  have hvs : E.vs.map (·.v) = (D.vs.map (·.v)).take k := congrArg Meta.views hP
  have hvk : E.vs.length = k := by have := congrArg List.length hvs; simpa [Nat.min_eq_left hk] using this
  have hll2 : E.lives = D.lives := congrArg Meta.lives hP
  have hnbD : E.nb = D.nb := congrArg Meta.nb hP
  have hnpD : E.np = D.np := congrArg Meta.np hP
  have hniD : E.ni = D.ni := congrArg Meta.ni hP
  have hwD : E.ws = [] := List.map_eq_nil_iff.1 (congrArg Meta.wrs hP)
  refine x_seq ?_
  refine x_regionL ?_
  refine xl_v v_lss ?_
  refine xl_nil ?_
  refine x_seq ?_
  first | refine x_condP (fun c2 => ?_) (fun c2 => ?_) | refine x_condN (fun c2 => ?_) (fun c2 => ?_) | refine x_condE (fun c2 => ?_) (fun c2 => ?_)
  ·
   have hk1 : k < D.vs.length := by omega
   have hi' : D.vs[k]? = some D.vs[k] := List.getElem?_eq_getElem hk1
   haveI hPt : OwnI w D.vs[k].A _ _ _ _ _ _ _ := ⟨h.isr k _ hi'⟩
   have hpk := rises_len (hok.vs D.vs[k].v (List.mem_map.2 ⟨_, List.getElem_mem hk1, rfl⟩)).rise
   have hpk' : D.vs[k].v.isr.length ≤ D.nb := hpk
   haveI : OwnI w5 D.vs[k].A D.vs[k].v.isr.length D.vs[k].c 0 3 1 D.vs[k].v.isr.length (ints D.vs[k].v.isr) := by
    haveI lkx : Lk w5 w NoB := lk
    exact inferInstance
   refine x_skip ?_
   refine x_seq ?_
   refine x_block ?_
   refine x_seq ?_
   refine x_regionL ?_
   refine xl_v (v_indexF k (by decide) rfl (by omega) hk1) ?_
   refine xl_v (v_loadF (k := k) (by decide) hk1) ?_
   have hBv : (w5).heap.size ≤ (w5).heap.size := Ge.le
   refine xl_e (e_alloc fun bv w6 nv lv kv => ?_)
   refine xl_s (e_storeA fun w7 l7 k7 => ?_)
   refine xl_nil ?_
   refine x_seq ?_
   refine x_regionL ?_
   refine xl_Fa ?_
   refine xl_Ld ?_
   refine xl_call (cloneI_ok D.vs[k].A _ D.vs[k].c (ints D.vs[k].v.isr) w7 (by simp [ints]) (by omega) (ints_one _) (own_some (h.isr k _ hi'))) ?_
   rintro _ w8 ⟨⟨A7, c7, rfl, hown7⟩, lk7⟩
   haveI o7 : OwnI w8 A7 _ _ _ _ _ _ _ := ⟨hown7⟩
   haveI na7 : NewA A7 w7 := newA_of hown7 (Nat.le_refl _)
   have hBp : (w5).heap.size ≤ (w7).heap.size := Ge.le
   have hbv7 : bv < (w7).heap.size := Has.lt
   haveI ap7v : ApB A7 bv := ⟨fun a ha e => by have := (own_blk hown7 (blkA_some ha)).1; omega⟩
   have hbcv : bc < (w5).heap.size := hM.lt bc ⟨.m, rfl⟩
   haveI : NeB bv bc := ⟨by have := nv.eq; have := hBv; omega⟩
   refine xl_Fa ?_
   refine xl_s (e_store fun w9 l9 k9 => ?_)
   refine xl_nil ?_
   have hbvV : ApB E.VA bv := ⟨fun a ha e => by have := hM.lt a.block ⟨.v, blkA_some ha⟩; have := nv.eq; have := hBv; omega⟩
   refine x_drawL (OwnB (.slice E.VA E.vs.length E.vc)) (allS) (.take 0 (.take 1 (.take 2 (.take 3 (.take 4 (.take 5 (.eff 6 (.eff 7 (.takeA 8 (.take 9 (.free 10 .done))))))))))) mixed (by kernel_rfl) (fun _ _ _ _ _ h => h) (fun w10 l10 => ?_)
   refine xt_v rfl v_move ?_
   refine xt_v rfl v_move ?_
   refine xt_Nc rfl ?_
   refine xt_Fa rfl ?_
   refine xt_Ld rfl ?_
   refine xt_La rfl ?_
   refine xt_e rfl (e_buildSlice1 rfl fun b8 w11 n8 l8 k8 => ?_)
   have hbQ : (w5).heap.size ≤ (w11).heap.size := Ge.le
   have h7 : ∀ j, blkA A7 = some j → (w5).heap.size ≤ j ∧ j < (w11).heap.size := fun j e => ⟨Nat.le_trans hBp (own_blk hown7 e).1, Nat.lt_of_lt_of_le (own_blk hown7 e).2 Ge.le⟩
   refine xt_e rfl (e_append' (OwnI.own : World.ownsRow w11 _ _ _ (.slice E.VA _ E.vc) _ _) (Nat.zero_le _) rfl Cell1L.eq (by decide) (.inl rfl) (by omega) (by omega) fun Aa ca w12 hownA la hfa => ?_)
   haveI oAa : OwnI w12 Aa _ _ _ _ _ _ _ := ⟨hownA⟩
   have hfaB := own_from hfa hbQ
   have hfaN := own_from hfa (Nat.le_refl _)
   haveI apAm : ApB Aa bc := ⟨fun a ha e => by
    rcases hfaB with h2 | h2
    ·exact hM.ne (s := .v) (t := .m) (h2.symm.trans (blkA_some ha)) rfl nofun e
    ·have := h2 _ (blkA_some ha); have := hM.lt bc ⟨.m, rfl⟩; omega⟩
   haveI ap7m : ApB A7 bc := ⟨fun a ha e => by have := (h7 _ (blkA_some ha)).1; have := hM.lt bc ⟨.m, rfl⟩; omega⟩
   refine xt_av rfl (by first | exact v_nilCheckP | exact v_nilCheckF | exact v_nilCheckR (by first | assumption | rfl)) ?_
   refine xt_Fa rfl ?_
   refine xt_fs rfl (e_store fun w13 l13 k13 => ?_)
   have hM2 : MetaAt w13 bc { E with vs := E.vs ++ [⟨D.vs[k].v, A7, c7⟩], VA := Aa, vc := ca } := hM.pushV ⟨D.vs[k].v, A7, c7⟩ (S := fun k => OneB bc k ∨ OwnB (.slice E.VA E.vs.length E.vc) k) kpc (fun k _ e => e.imp id ownB_blk.1) (by have := (Blk.eq : (w13).heap[bc]? = _); simpa [metaC] using this) (by have := (OwnI.own : World.ownsRow w13 _ _ _ (.slice Aa _ ca) _ _); simpa [viewC] using this) (by have := (OwnI.own : World.ownsRow w13 _ _ _ (.slice A7 _ c7) _ _); exact own_mono this (Nat.zero_le _)) hbQ h7 hfaN
   have hN2 : NewM bc { E with vs := E.vs ++ [⟨D.vs[k].v, A7, c7⟩], VA := Aa, vc := ca } w := fun j hj => by
    have hsz := lk.keep.size
    rcases hj.pushV with h1 | h1 | h1
    ·exact hN j h1
    ·have := (h7 j h1).1; omega
    ·rcases hfaB with h2 | h2
     ·exact hN j ⟨.v, h2.symm.trans h1⟩
     ·have := h2 j h1; omega
   refine xt_nil ?_
   refine x_regionL ?_
   refine xl_v (v_add (by omega)) ?_
   refine xl_v v_move ?_
   refine xl_nil ?_
   refine ⟨_, ?_, rfl, k + 1, { E with vs := E.vs ++ [⟨D.vs[k].v, A7, c7⟩], VA := Aa, vc := ca }, rfl, by omega, hM2, hN2, ?_, inferInstance, inferInstance, inferInstance, inferInstance, evc, lkc⟩
   ·omega
   ·rw [take_snoc _ k (by simpa using hk1)]
    simp only [LMeta.pure, List.map_append, List.map_cons, List.map_nil, hvs, hll2, hwD, hnbD, hnpD, hniD, List.getElem_map]
  ·
   refine x_exit ?_
   refine x_seq ?_
   refine x_seq ?_
   refine x_regionL ?_
   refine xl_v v_move ?_
   refine xl_Nc ?_
   refine xl_Fa ?_
   refine xl_Ld ?_
   refine xl_v v_len ?_
   refine xl_v v_move ?_
   refine xl_nil ?_
   refine x_block ?_
   have hkn : k = D.vs.length := by omega
   subst hkn
   rw [List.take_of_length_le (by simp)] at hP
   refine x_loop (fun t τ ds w' => ds = [] ∧ ∃ (k : Nat) (E : LMeta), t = D.ws.length - k ∧ k ≤ D.ws.length ∧ MetaAt w' bc E ∧ NewM bc E w ∧ E.pure = ⟨D.nb, D.np, D.ni, D.lives, D.vs.map (·.v), (D.ws.map (·.w)).take k⟩ ∧ Ev τ 3 (.pointer (some ⟨bc, 0, none⟩)) ∧ Ev τ 48 (.slice D.WA D.ws.length D.wc) ∧ Ev τ 49 (.int .i64 (D.ws.length : Int)) ∧ Ev τ 50 (.int .i64 (k : Int)) ∧ Lk w' w NoB) (D.ws.length) ?start ?round
   case start =>
    exact ⟨rfl, 0, E, rfl, Nat.zero_le _, hM.ext kpc, hN, by rw [hP]; rfl, inferInstance, inferInstance, inferInstance, evc, lkc⟩
   case round =>
    intro m τ14 ds14 w14 hI
    clear hM hN hP hb hL apm sL hvk hvs hll2 hnbD hnpD hniD hwD lk e0 e3 e24 e25 e26
    obtain ⟨rfl, k, E, rfl, hk, hM, hN, hP, e3, e24, e25, e26, lk⟩ := hI
    haveI hb : Blk w14 bc _ := ⟨hM.hb⟩
    haveI hL : OwnI w14 E.WA _ _ _ _ _ _ _ := ⟨hM.wrs⟩
    haveI apm : ApB E.WA bc := hM.apm (s := .w) rfl nofun
    haveI sL : ∀ n c, SubF (OwnB (.slice E.WA n c)) NoB w := fun n c => subNewM hN (s := .w) rfl n c w (Nat.le_refl _)
    have hws : E.ws.map (·.w) = (D.ws.map (·.w)).take k := congrArg Meta.wrs hP
    have hwk : E.ws.length = k := by have := congrArg List.length hws; simpa [Nat.min_eq_left hk] using this
    have hvs : E.vs.map (·.v) = D.vs.map (·.v) := congrArg Meta.views hP
    have hll2 : E.lives = D.lives := congrArg Meta.lives hP
    have hnbD : E.nb = D.nb := congrArg Meta.nb hP
    have hnpD : E.np = D.np := congrArg Meta.np hP
    have hniD : E.ni = D.ni := congrArg Meta.ni hP
    refine x_seq ?_
    refine x_regionL ?_
    refine xl_v v_lss ?_
    refine xl_nil ?_
    refine x_seq ?_
    first | refine x_condP (fun c3 => ?_) (fun c3 => ?_) | refine x_condN (fun c3 => ?_) (fun c3 => ?_) | refine x_condE (fun c3 => ?_) (fun c3 => ?_)
    ·
     have hk1 : k < D.ws.length := by omega
     have hi' : D.ws[k]? = some D.ws[k] := List.getElem?_eq_getElem hk1
     haveI hPt : OwnI w D.ws[k].A _ _ _ _ _ _ _ := ⟨h.parts k _ hi'⟩
     have hpk := rises_len (hok.ws D.ws[k].w (List.mem_map.2 ⟨_, List.getElem_mem hk1, rfl⟩)).rise
     have hpk' : D.ws[k].w.parts.length ≤ D.np := hpk
     haveI : OwnI w14 D.ws[k].A D.ws[k].w.parts.length D.ws[k].c 0 3 1 D.ws[k].w.parts.length (ints D.ws[k].w.parts) := by
      haveI lkx : Lk w14 w NoB := lk
      exact inferInstance
     refine x_skip ?_
     refine x_seq ?_
     refine x_block ?_
     refine x_seq ?_
     refine x_regionL ?_
     refine xl_v (v_indexF k (by decide) rfl (by omega) hk1) ?_
     refine xl_v (v_loadF (k := k) (by decide) hk1) ?_
     have hBv : (w14).heap.size ≤ (w14).heap.size := Ge.le
     refine xl_e (e_alloc fun bv w15 nv lv kv => ?_)
     refine xl_s (e_storeA fun w16 l16 k16 => ?_)
     refine xl_nil ?_
     refine x_seq ?_
     refine x_regionL ?_
     refine xl_Fa ?_
     refine xl_Ld ?_
     refine xl_call (cloneI_ok D.ws[k].A _ D.ws[k].c (ints D.ws[k].w.parts) w16 (by simp [ints]) (by omega) (ints_one _) (own_some (h.parts k _ hi'))) ?_
     rintro _ w17 ⟨⟨A7, c7, rfl, hown7⟩, lk7⟩
     haveI o7 : OwnI w17 A7 _ _ _ _ _ _ _ := ⟨hown7⟩
     haveI na7 : NewA A7 w16 := newA_of hown7 (Nat.le_refl _)
     have hBp : (w14).heap.size ≤ (w16).heap.size := Ge.le
     have hbv7 : bv < (w16).heap.size := Has.lt
     haveI ap7v : ApB A7 bv := ⟨fun a ha e => by have := (own_blk hown7 (blkA_some ha)).1; omega⟩
     have hbcv : bc < (w14).heap.size := hM.lt bc ⟨.m, rfl⟩
     haveI : NeB bv bc := ⟨by have := nv.eq; have := hBv; omega⟩
     refine xl_Fa ?_
     refine xl_s (e_store fun w18 l18 k18 => ?_)
     refine xl_nil ?_
     have hbvV : ApB E.WA bv := ⟨fun a ha e => by have := hM.lt a.block ⟨.w, blkA_some ha⟩; have := nv.eq; have := hBv; omega⟩
     refine x_drawL (OwnB (.slice E.WA E.ws.length E.wc)) (allS) (.take 0 (.take 1 (.take 2 (.take 3 (.take 4 (.take 5 (.eff 6 (.eff 7 (.takeA 8 (.take 9 (.free 10 .done))))))))))) mixed (by kernel_rfl) (fun _ _ _ _ _ h => h) (fun w19 l19 => ?_)
     refine xt_v rfl v_move ?_
     refine xt_v rfl v_move ?_
     refine xt_Nc rfl ?_
     refine xt_Fa rfl ?_
     refine xt_Ld rfl ?_
     refine xt_La rfl ?_
     refine xt_e rfl (e_buildSlice1 rfl fun b8 w20 n8 l8 k8 => ?_)
     have hbQ : (w14).heap.size ≤ (w20).heap.size := Ge.le
     have h7 : ∀ j, blkA A7 = some j → (w14).heap.size ≤ j ∧ j < (w20).heap.size := fun j e => ⟨Nat.le_trans hBp (own_blk hown7 e).1, Nat.lt_of_lt_of_le (own_blk hown7 e).2 Ge.le⟩
     refine xt_e rfl (e_append' (OwnI.own : World.ownsRow w20 _ _ _ (.slice E.WA _ E.wc) _ _) (Nat.zero_le _) rfl Cell1L.eq (by decide) (.inl rfl) (by omega) (by omega) fun Aa ca w21 hownA la hfa => ?_)
     haveI oAa : OwnI w21 Aa _ _ _ _ _ _ _ := ⟨hownA⟩
     have hfaB := own_from hfa hbQ
     have hfaN := own_from hfa (Nat.le_refl _)
     haveI apAm : ApB Aa bc := ⟨fun a ha e => by
      rcases hfaB with h2 | h2
      ·exact hM.ne (s := .w) (t := .m) (h2.symm.trans (blkA_some ha)) rfl nofun e
      ·have := h2 _ (blkA_some ha); have := hM.lt bc ⟨.m, rfl⟩; omega⟩
     haveI ap7m : ApB A7 bc := ⟨fun a ha e => by have := (h7 _ (blkA_some ha)).1; have := hM.lt bc ⟨.m, rfl⟩; omega⟩
     refine xt_av rfl (by first | exact v_nilCheckP | exact v_nilCheckF | exact v_nilCheckR (by first | assumption | rfl)) ?_
     refine xt_Fa rfl ?_
     refine xt_fs rfl (e_store fun w22 l22 k22 => ?_)
     have hM2 : MetaAt w22 bc { E with ws := E.ws ++ [⟨D.ws[k].w, A7, c7⟩], WA := Aa, wc := ca } := hM.pushW ⟨D.ws[k].w, A7, c7⟩ (S := fun k => OneB bc k ∨ OwnB (.slice E.WA E.ws.length E.wc) k) kpc (fun k _ e => e.imp id ownB_blk.1) (by have := (Blk.eq : (w22).heap[bc]? = _); simpa [metaC] using this) (by have := (OwnI.own : World.ownsRow w22 _ _ _ (.slice Aa _ ca) _ _); simpa [wrC] using this) (by have := (OwnI.own : World.ownsRow w22 _ _ _ (.slice A7 _ c7) _ _); exact own_mono this (Nat.zero_le _)) hbQ h7 hfaN
     have hN2 : NewM bc { E with ws := E.ws ++ [⟨D.ws[k].w, A7, c7⟩], WA := Aa, wc := ca } w := fun j hj => by
      have hsz := lk.keep.size
      rcases hj.pushW with h1 | h1 | h1
      ·exact hN j h1
      ·have := (h7 j h1).1; omega
      ·rcases hfaB with h2 | h2
       ·exact hN j ⟨.w, h2.symm.trans h1⟩
       ·have := h2 j h1; omega
     refine xt_nil ?_
     refine x_regionL ?_
     refine xl_v (v_add (by omega)) ?_
     refine xl_v v_move ?_
     refine xl_nil ?_
     refine ⟨_, ?_, rfl, k + 1, { E with ws := E.ws ++ [⟨D.ws[k].w, A7, c7⟩], WA := Aa, wc := ca }, rfl, by omega, hM2, hN2, ?_, inferInstance, inferInstance, inferInstance, evc, lkc⟩
     ·omega
     ·rw [take_snoc _ k (by simpa using hk1)]
      simp only [LMeta.pure, List.map_append, List.map_cons, List.map_nil, hws, hvs, hll2, hnbD, hnpD, hniD, List.getElem_map]
    ·
     refine x_exit ?_
     refine x_seq ?_
     refine x_regionL ?_
     refine xl_v v_move ?_
     refine xl_v v_assign ?_
     refine xl_nil ?_
     refine x_ret ?_
     refine fin1 rfl ?_
     have htn : k = D.ws.length := by omega
     subst htn
     rw [List.take_of_length_le (by simp)] at hP
     exact ⟨⟨bc, E, rfl, hM.ext kpc, hP, hN⟩, lkc⟩
end Go.Proofs.Ytnjpladlfiaojaa
