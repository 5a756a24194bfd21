/-
 Walks, printed by a program of this workplace (wip/tools/sx.py) off the functions' code and a text of contracts.
-/
import Derived.Test.YtnjpladlfiaojaaI
set_option linter.all false
set_option maxRecDepth 100000
set_option synthInstance.maxSize 100000
set_option synthInstance.maxHeartbeats 400000
namespace Go.Proofs.Ytnjpladlfiaojaa
open Go.Wst
open Go.Wst.Ct
theorem own_from {A' A : Option Addr} {n' c' n c k : Nat} {w : World} (h : (Value.slice A' n' c').ownBlock = (Value.slice A n c).ownBlock ∨ (Value.slice A' n' c').ownBlock = some k) (hk : w.heap.size ≤ k) : blkA A' = blkA A ∨ ∀ j, blkA A' = some j → w.heap.size ≤ j := by
 have e : ∀ (B : Option Addr) (n c : Nat), (Value.slice B n c).ownBlock = blkA B := fun B n c => by cases B <;> rfl
 rw [e, e] at h
 rcases h with h | h
 ·exact .inl h
 ·exact .inr fun j hj => by rw [h] at hj; injection hj with hj; omega
theorem flat_set_eq {α : Type} {enc : α → List Value} {sz : Nat} (hsz : ∀ x, (enc x).length = sz) (xs : List α) (k : Nat) (a b : α) (hk : k < xs.length) (h : enc a = enc b) : (xs.set k a).flatMap enc = (xs.set k b).flatMap enc := by
 rw [← flat_set hsz xs k a hk, h, flat_set hsz xs k b hk]
set_option maxHeartbeats 1000000 in
/-- (*waystation/meta.Meta).Add -/
theorem add_ok (m : Nat) (D : LMeta) (b ses p : Int) (w : World) (h : MetaAt w m D) (hok : D.pure.ok) : Ret Try.prog 25 #[.pointer (some ⟨m, 0, none⟩), .int .i64 b, .int .i64 ses, .int .i64 p] w (fun v w' => v = .tuple #[.int .i64 (D.pure.add b ses p).2.1, .int .i64 (D.pure.add b ses p).2.2] ∧ Made m D w (D.pure.add b ses p).1 w' ∧ Lk w' w (MetaB m D)) := by
 haveI hb : Blk w m _ := ⟨h.hb⟩
 have hmost : most = 2147483647 := rfl
 haveI hW : OwnI w D.WA _ _ _ _ _ _ _ := ⟨h.wrs⟩
 obtain ⟨hll, hvl, hwl, _, hpl, _⟩ := lens hok
 refine ret_of_x (N := 97) (l := [.pointer (some ⟨m, 0, none⟩), .int .i64 b, .int .i64 ses, .int .i64 p]) Try.func25 rfl rfl (Nat.le_of_ble_eq_true rfl) ?_
 refine x_seq ?_
 refine x_regionL ?_
 refine xl_v v_assign ?_
 refine xl_v v_assign ?_
 refine xl_nil ?_
 refine x_seq ?_
 refine x_seq ?_
 refine x_regionL ?_
 refine xl_v v_move ?_
 refine xl_call (isNone_ok m D w (h.ext (kpc : Keep NoB w w))) ?_
 rintro _ w1 ⟨⟨x1, rfl, hw1, hb1, hc1⟩, lk1⟩
 refine xl_v v_move ?_
 refine xl_v v_move ?_
 refine xl_call (id_ok m D b w1 (h.ext (kpc : Keep NoB w w1))) ?_
 rintro _ w2 ⟨⟨x2, rfl, hw2, hb2, hc2⟩, lk2⟩
 refine xl_v v_move ?_
 refine xl_v v_move ?_
 refine xl_call (part_ok m D p w2 (h.ext (kpc : Keep NoB w w2))) ?_
 rintro _ w3 ⟨⟨x3, rfl, hw3, hb3, hc3⟩, lk3⟩
 refine xl_e (e_buildSliceM (vs := [x1, x2, x3].flatMap chkC) rfl rfl rfl fun b5 w4 n5 l5 k5 => ?_)
 refine xl_call (first3_ok _ _ x1 x2 x3 w4 (hc1.ext lkc) (fun _ => hc2.ext lkc) (fun _ _ => hc3.ext lkc) (if ¬ inN b D.ni ∨ ¬ inN p D.np then 2 else 0) (by rw [hb1, hb2, hw2, hb3, hw3, decide_eq_false (by omega)]; by_cases e : inN b D.ni <;> by_cases e2 : inN p D.np <;> simp [e, e2])) ?_
 rintro _ w5 ⟨rfl, lk4⟩
 refine xl_v v_assign ?_
 refine xl_nil ?_
 refine x_seq ?_
 refine x_regionL ?_
 refine xl_v v_move ?_
 refine xl_v v_neq ?_
 refine xl_nil ?_
 first | refine x_condP (fun c1 => ?_) (fun c1 => ?_) | refine x_condN (fun c1 => ?_) (fun c1 => ?_) | refine x_condE (fun c1 => ?_) (fun c1 => ?_)
 ·
  have hn : ¬ inN b D.ni ∨ ¬ inN p D.np := Classical.byContradiction fun e => by rw [if_neg e] at c1; exact c1 rfl
  have hr : D.pure.add b ses p = (D.pure, 0, 2) := if_pos hn
  refine x_seq ?_
  refine x_regionL ?_
  refine xl_v v_move ?_
  refine xl_v v_assign ?_
  refine xl_v v_assign ?_
  refine xl_nil ?_
  refine x_ret ?_
  refine fin2 rfl ?_
  exact ⟨by rw [hr, if_pos hn], Made.stay h kpc (by rw [hr]), lkc⟩
 ·
  have hn0 : ¬ (¬ inN b D.ni ∨ ¬ inN p D.np) := fun e => by simp [e] at c1
  have hr : D.pure.add b ses p = _ := if_neg hn0
  have hn : inN b D.ni := Classical.byContradiction fun e => hn0 (.inl e)
  have hnp : inN p D.np := Classical.byContradiction fun e => hn0 (.inr e)
  obtain ⟨i, rfl, hi⟩ := nat_of hn
  have hi : i < D.ws.length := by omega
  have ho := hok.wr hn
  rw [wr_at hi] at hr ho
  have hst := ho.st
  have hn1 := ho.n0
  have hn2 := ho.n1
  have hrise : Rises D.np D.ws[i].w.parts := ho.rise
  have hi' : D.ws[i]? = some D.ws[i] := List.getElem?_eq_getElem hi
  have hWA : D.WA.isSome = true := row_some (w := w) (A := D.WA) (cs := D.ws.flatMap wrC) inferInstance (by rw [flat_len (sz := 6) (fun _ => rfl)]; omega)
  haveI apw : ApA D.WA D.ws[i].A := h.ap (s := .w) (t := .wi i) rfl (addr_wi hi') nofun
  haveI apw2 : ApA D.ws[i].A D.WA := apw.symm
  haveI apm : ApB D.WA m := h.apm (s := .w) rfl nofun
  haveI apm2 : ApB D.ws[i].A m := h.apm (s := .wi i) (addr_wi hi') nofun
  haveI hPt : OwnI w D.ws[i].A _ _ _ _ _ _ _ := ⟨h.parts i _ hi'⟩
  haveI sfp : ∀ n c W, SubF (OwnB (.slice D.ws[i].A n c)) (MetaB m D) W := fun n c W => subF_wi hi' n c W
  refine x_skip ?_
  refine x_seq ?_
  refine x_regionL ?_
  refine xl_v v_move ?_
  refine xl_Nc ?_
  refine xl_Fa ?_
  refine xl_Ld ?_
  refine xl_v v_move ?_
  refine xl_v (v_indexF i (by decide) rfl (by omega) hi) ?_
  refine xl_v v_assign ?_
  refine xl_nil ?_
  refine x_seq ?_
  refine x_seq ?_
  refine x_regionL ?_
  refine xl_v v_move ?_
  refine xl_v v_move ?_
  refine xl_call (stale_ok D.WA i D.ws ses w5 hi) ?_
  rintro _ w6 ⟨⟨x4, rfl, hw4, hb4, hc4⟩, lk5⟩
  refine xl_v v_move ?_
  refine xl_call (busy_ok D.WA i D.ws w6 hi) ?_
  rintro _ w7 ⟨⟨x5, rfl, hw5, hb5, hc5⟩, lk6⟩
  refine xl_e (e_buildSliceM (vs := [x4, x5].flatMap chkC) rfl rfl rfl fun b6 w8 n6 l6 k6 => ?_)
  refine xl_call (first2_ok _ _ x4 x5 w8 (hc4.ext lkc) (fun _ => hc5.ext lkc) (if D.ws[i].w.ses ≠ ses then 200 else if 3 ≤ D.ws[i].w.st then 203 else 0) (by
    rw [hb4, hb5, hw4, hw5]
    by_cases e2 : D.ws[i].w.ses = ses
    ·simp [e2, hst.2]
    ·simp [e2])) ?_
  rintro _ w9 ⟨rfl, lk7⟩
  refine xl_v v_assign ?_
  refine xl_nil ?_
  refine x_seq ?_
  refine x_regionL ?_
  refine xl_v v_move ?_
  refine xl_v v_neq ?_
  refine xl_nil ?_
  first | refine x_condP (fun c2 => ?_) (fun c2 => ?_) | refine x_condN (fun c2 => ?_) (fun c2 => ?_) | refine x_condE (fun c2 => ?_) (fun c2 => ?_)
  ·
   have hE : D.pure.add (i : Int) ses p = (D.pure, 0, if D.ws[i].w.ses ≠ ses then 200 else if 3 ≤ D.ws[i].w.st then 203 else 0) := by
    rw [hr]
    split
    ·rfl
    next e1 =>
    rw [if_neg e1] at c2
    split
    ·rfl
    next e3 =>
    rw [if_neg e3] at c2
    exact absurd rfl c2
   refine x_seq ?_
   refine x_regionL ?_
   refine xl_v v_move ?_
   refine xl_v v_assign ?_
   refine xl_v v_assign ?_
   refine xl_nil ?_
   refine x_ret ?_
   refine fin2 rfl ?_
   exact ⟨by rw [hE], Made.stay h kpc (by rw [hE]), lkc⟩
  ·
   have e2 : ¬ D.ws[i].w.ses ≠ ses := fun e => by simp [e] at c2
   have e3 : ¬ 3 ≤ D.ws[i].w.st := fun e => by simp [e2, e] at c2
   rw [if_neg e2, if_neg e3] at hr
   refine x_skip ?_
   refine x_seq ?_
   refine x_seq ?_
   refine x_regionL ?_
   refine xl_v v_move ?_
   refine xl_Nc ?_
   refine xl_Fa ?_
   refine xl_Ld ?_
   refine xl_v v_eql ?_
   refine xl_nil ?_
   first | refine x_condP (fun c3 => ?_) (fun c3 => ?_) | refine x_condN (fun c3 => ?_) (fun c3 => ?_) | refine x_condE (fun c3 => ?_) (fun c3 => ?_)
   ·
    rw [if_pos c3] at hr
    refine x_seq ?_
    refine x_seq ?_
    refine x_regionL ?_
    refine xl_v v_move ?_
    refine xl_Nc ?_
    refine xl_Fa ?_
    refine xl_e (e_buildSlice1 rfl fun b7 w10 n7 l7 k7 => ?_)
    haveI : Row w10 (some ⟨b7, 0, none⟩) (([(D.WA, i * 6 + 1, D.ws[i].w.num)] : List PtI).map ptC) := ⟨row_blk Blk.eq⟩
    refine xl_call (end_ok _ 1 _ [(D.WA, i * 6 + 1, D.ws[i].w.num)] w10 rfl (by omega) (forall1 (ptW hi 1 _ rfl))) ?_
    rintro _ w11 ⟨⟨x6, rfl, hw6, hb6, hc6⟩, lk8⟩
    refine xl_e (e_buildSliceM (vs := [x6].flatMap chkC) rfl rfl rfl fun b8 w12 n8 l8 k8 => ?_)
    refine xl_call (first1_ok _ _ x6 w12 (hc6.ext lkc) (if D.ws[i].w.num = most then 204 else 0) (by
      rw [hb6, hw6]
      simp only [List.any_cons, List.any_nil, Bool.or_false]
      by_cases e2 : D.ws[i].w.num = most
      ·simp [e2]
      ·have e3 : ¬ most ≤ D.ws[i].w.num := by omega
       simp [e2, e3])) ?_
    rintro _ w13 ⟨rfl, lk9⟩
    refine xl_v v_assign ?_
    refine xl_nil ?_
    refine x_seq ?_
    refine x_regionL ?_
    refine xl_v v_move ?_
    refine xl_v v_neq ?_
    refine xl_nil ?_
    first | refine x_condP (fun c4 => ?_) (fun c4 => ?_) | refine x_condN (fun c4 => ?_) (fun c4 => ?_) | refine x_condE (fun c4 => ?_) (fun c4 => ?_)
    ·
     have e4 : D.ws[i].w.num = most := Classical.byContradiction fun e => by rw [if_neg e] at c4; exact c4 rfl
     rw [if_pos e4] at hr
     refine x_seq ?_
     refine x_regionL ?_
     refine xl_v v_move ?_
     refine xl_v v_assign ?_
     refine xl_v v_assign ?_
     refine xl_nil ?_
     refine x_ret ?_
     refine fin2 rfl ?_
     exact ⟨by rw [hr, if_pos e4], Made.stay h kpc (by rw [hr]), lkc⟩
    ·
     have e4 : ¬ D.ws[i].w.num = most := fun e => by simp [e] at c4
     rw [if_neg e4] at hr
     obtain ⟨wP, hwP⟩ : ∃ x, x = w13 := ⟨_, rfl⟩
     have hkP : Keep NoB w wP := by rw [hwP]; exact kpc
     refine x_skip ?_
     refine x_seq ?_
     refine x_regionL ?_
     refine xl_v v_move ?_
     refine xl_Nc ?_
     refine xl_Fa ?_
     refine xl_Ld ?_
     refine xl_v (v_add (by omega)) ?_
     refine xl_Nc ?_
     refine xl_Fa ?_
     refine xl_s (e_storeG (D.ws[i].up D.ws[i].w.ses (D.ws[i].w.num + 1) D.ws[i].w.st D.ws[i].w.off D.ws[i].w.nxt) hi rfl (by decide) rfl fun w14 ya hya hia hla hga l10 on10 => ?_)
     refine xl_nil ?_
     refine x_regionL ?_
     refine xl_v v_move ?_
     refine xl_v v_move ?_
     refine xl_Nc ?_
     refine xl_Fa ?_
     refine xl_s (e_storeG (D.ws[i].up D.ws[i].w.ses (D.ws[i].w.num + 1) 2 D.ws[i].w.off D.ws[i].w.nxt) hia hla (by decide) (by rw [hga]; rfl) fun w15 yb hyb hib hlb hgb l11 on11 => ?_)
     refine xl_Nc ?_
     refine xl_Fa ?_
     refine xl_s (e_storeG ⟨⟨D.ws[i].w.ses, D.ws[i].w.num + 1, 2, [], D.ws[i].w.off, D.ws[i].w.nxt⟩, none, 0⟩ hib hlb (by decide) (by rw [hgb]; rfl) fun w16 ys hys hiy hly hgy0 l12 on12 => ?_)
     rw [hyb, hya, List.set_set, List.set_set] at hys
     obtain ⟨x, hx⟩ : ∃ x : LW, x = ⟨⟨D.ws[i].w.ses, D.ws[i].w.num + 1, 2, [], D.ws[i].w.off, D.ws[i].w.nxt⟩, none, 0⟩ := ⟨_, rfl⟩
     have hgy : ys[i] = x := by rw [hgy0, hx]
     rw [← hx] at hys
     have hrx : D.pure.add (i : Int) ses p = (D.pure.setW i { x.w with parts := withP D.np x.w.parts p }, x.w.num, 0) := by rw [hr, hx]; rfl
     haveI oX : OwnI w16 x.A x.w.parts.length x.c 0 3 1 x.w.parts.length (ints x.w.parts) := ⟨by rw [hx]; exact World.ownsRow_nil _ _ _ _⟩
     have hxr : Rises D.np x.w.parts := by rw [hx]; exact ⟨List.Pairwise.nil, nofun⟩
     have hxA : blkA x.A = blkA D.ws[i].A ∨ ∀ k, blkA x.A ≠ some k := .inr (by rw [hx]; intro k e; cases e)
     haveI apX : ApA D.WA x.A := by rw [hx]; infer_instance
     haveI apX2 : ApA x.A D.WA := apX.symm
     haveI sfX : ∀ n c W, SubF (OwnB (.slice x.A n c)) (MetaB m D) W := fun n c W => ⟨fun k _ e => by rw [hx] at e; cases e⟩
     have hSX : ∀ k n c, OwnB (.slice x.A n c) k → blkA D.WA = some k ∨ blkA D.ws[i].A = some k := fun k n c e => by rw [hx] at e; cases e
     refine xl_nil ?_
     refine x_seq ?_
     refine x_seq ?_
     have hxl := rises_len hxr
     obtain ⟨wQ, hwQ⟩ : ∃ x, x = w16 := ⟨_, rfl⟩
     have hkPQ : Keep (fun j => blkA D.WA = some j ∨ blkA D.ws[i].A = some j) wP wQ := by
      haveI q1 : ∀ n c W, SubF (OwnB (.slice D.WA n c)) (fun j => blkA D.WA = some j ∨ blkA D.ws[i].A = some j) W := fun n c W => ⟨fun k _ e => .inl (ownB_blk.1 e)⟩
      rw [hwP, hwQ]
      exact kpc
     have hgeQ : w.heap.size ≤ wQ.heap.size := by rw [hwQ]; exact Ge.le
     refine x_regionL ?_
     refine xl_v v_move ?_
     refine xl_Nc ?_
     refine xl_Fa ?_
     refine xl_v (v_congr (u := .slice x.A x.w.parts.length x.c) (v_loadFf hiy) (by rw [hgy])) ?_
     refine xl_v v_move ?_
     refine xl_call (contains_ok x.A _ _ x.w.parts p w16 rfl (by omega)) ?_
     rintro _ w17 ⟨rfl, lk13⟩
     refine xl_v v_not ?_
     refine xl_nil ?_
     first | refine x_condP (fun c5 => ?_) (fun c5 => ?_) | refine x_condN (fun c5 => ?_) (fun c5 => ?_) | refine x_condE (fun c5 => ?_) (fun c5 => ?_)
     ·
      have hnm : p ∉ x.w.parts := by simpa using c5
      refine x_seq ?_
      refine x_regionL ?_
      refine xl_v v_move ?_
      refine xl_v v_move ?_
      refine xl_Nc ?_
      refine xl_Fa ?_
      refine xl_v (v_congr (u := .slice x.A x.w.parts.length x.c) (v_loadFf hiy) (by rw [hgy])) ?_
      refine xl_v v_move ?_
      refine xl_e (e_buildSlice1 rfl fun b9 w18 n9 l9 k9 => ?_)
      have hbQ : wQ.heap.size ≤ (w18).heap.size := by rw [hwQ]; exact Ge.le
      refine xl_e (e_append' (OwnI.own : World.ownsRow w18 _ _ _ (.slice x.A _ x.c) _ _) (Nat.zero_le _) rfl Cell1L.eq (by decide) (.inl rfl) (by omega) (by omega) fun Aa ca w19 hownA la hfa => ?_)
      haveI oA : OwnI w19 Aa _ _ _ _ _ _ _ := ⟨hownA⟩
      haveI faA := from_own hfa
      haveI apA : ApA Aa D.WA := inferInstance
      haveI apA2 : ApA D.WA Aa := apA.symm
      have hfa2 := own_from hfa hbQ
      haveI sfA : ∀ n c, SubF (OwnB (.slice Aa n c)) (MetaB m D) w := fun n c => ⟨fun k hk e => by
       rcases hfa2 with e2 | e2
       ·exact (sfX 0 0 w).sub k hk (ownB_blk.2 (e2 ▸ ownB_blk.1 e))
       ·have := e2 k (ownB_blk.1 e); omega⟩
      have hlp : (x.w.parts ++ [p]).length = x.w.parts.length + 1 := by simp
      refine xl_Nc ?_
      refine xl_Fa ?_
      refine xl_s (e_storeG ⟨⟨x.w.ses, x.w.num, x.w.st, x.w.parts ++ [p], x.w.off, x.w.nxt⟩, Aa, ca⟩ hiy hly (by decide) (by rw [hgy]; simp [setL, wrC]) fun w20 yc hyc hic hlc hgc l14 on14 => ?_)
      rw [hys, List.set_set] at hyc
      refine xl_nil ?_
      refine x_regionL ?_
      refine xl_v v_move ?_
      refine xl_Nc ?_
      refine xl_Fa ?_
      refine xl_v (v_congr (u := .slice Aa (x.w.parts ++ [p]).length ca) (v_loadFf hic) (by rw [hgc])) ?_
      refine xl_call (sort_ok 0 Aa ca (x.w.parts ++ [p]) w20 (by have := (OwnI.own : World.ownsRow w20 _ _ _ (.slice Aa _ ca) _ _); simpa [ints] using this) (by rw [hlp]; omega)) ?_
      rintro _ w21 ⟨rfl, hown5, lk15⟩
      rw [withP_add hxr hnm hnp] at hown5
      have hlw : (withP D.np x.w.parts p).length = (x.w.parts ++ [p]).length := by rw [← withP_add hxr hnm hnp]; simp
      haveI oA5 : OwnI w21 Aa _ _ _ _ _ _ _ := ⟨hown5⟩
      have hSA : ∀ k n c, k < wQ.heap.size → OwnB (.slice Aa n c) k → blkA D.WA = some k ∨ blkA D.ws[i].A = some k := fun k n c hk e => by
       rcases hfa2 with e2 | e2
       ·exact hSX k 0 0 (ownB_blk.2 (e2 ▸ ownB_blk.1 e))
       ·have := e2 k (ownB_blk.1 e); omega
      have hkQ : Keep (fun j => blkA D.WA = some j ∨ blkA D.ws[i].A = some j) wQ w21 := by
       haveI q1 : ∀ n c W, SubF (OwnB (.slice D.WA n c)) (fun j => blkA D.WA = some j ∨ blkA D.ws[i].A = some j) W := fun n c W => ⟨fun k _ e => .inl (ownB_blk.1 e)⟩
       haveI q2 : ∀ n c W, SubF (OwnB (.slice x.A n c)) (fun j => blkA D.WA = some j ∨ blkA D.ws[i].A = some j) W := fun n c W => ⟨fun k _ e => hSX k n c e⟩
       haveI q3 : ∀ n c, SubF (OwnB (.slice Aa n c)) (fun j => blkA D.WA = some j ∨ blkA D.ws[i].A = some j) wQ := fun n c => ⟨fun k hk e => hSA k n c hk e⟩
       rw [hwQ] at q3 ⊢
       exact kpc
      have hbl2 : blkA Aa = blkA D.ws[i].A ∨ ∀ k, blkA Aa = some k → wP.heap.size ≤ k := by
       rcases hfa2 with e2 | e2
       ·rw [e2]; exact hxA.imp id (fun h k e => absurd e (h k))
       ·exact .inr fun k e => Nat.le_trans hkPQ.size (e2 k e)
      have hM : Made m D w (D.pure.add (i : Int) ses p).1 w21 := by
       rw [hrx]
       exact Made.setW h hkP hi ⟨⟨x.w.ses, x.w.num, x.w.st, withP D.np x.w.parts p, x.w.off, x.w.nxt⟩, Aa, ca⟩ (W' := w21) (hkPQ.trans hkQ) (fun k _ e => e) (by have := (OwnI.own : World.ownsRow w21 _ _ _ (.slice D.WA _ D.wc) _ _); rw [hyc, flat_set_eq (enc := wrC) (sz := 6) (fun _ => rfl) D.ws i _ ⟨⟨x.w.ses, x.w.num, x.w.st, withP D.np x.w.parts p, x.w.off, x.w.nxt⟩, Aa, ca⟩ hi (by simp [wrC, hlw])] at this; exact this) (by have := (OwnI.own : World.ownsRow w21 _ _ _ (.slice Aa _ _) _ _); rw [hlw]; exact this) hbl2
      refine xl_nil ?_
      refine x_seq ?_
      refine x_regionL ?_
      refine xl_v v_move ?_
      refine xl_Nc ?_
      refine xl_Fa ?_
      refine xl_v (v_congr (u := .int .i64 x.w.num) (by first | exact v_loadFf hic | exact v_loadFf hiy) (by first | rw [hgc] | rw [hgy])) ?_
      refine xl_v v_assign ?_
      refine xl_v v_assign ?_
      refine xl_nil ?_
      refine x_ret ?_
      refine fin2 rfl ?_
      exact ⟨by rw [hrx], hM, lkc⟩
     ·
      have hnm : p ∈ x.w.parts := by simpa using c5
      have hkQ : Keep (fun j => blkA D.WA = some j ∨ blkA D.ws[i].A = some j) wQ w17 := by rw [hwQ]; exact kpc
      have hM : Made m D w (D.pure.add (i : Int) ses p).1 w17 := by
       rw [hrx, withP_has hxr hnm]
       exact Made.setW h hkP hi x (W' := w17) (hkPQ.trans hkQ) (fun k _ e => e) (by have := (OwnI.own : World.ownsRow w17 _ _ _ (.slice D.WA _ D.wc) _ _); rw [hys] at this; exact this) (OwnI.own : World.ownsRow w17 _ _ _ (.slice x.A _ _) _ _) (hxA.imp id (fun h k e => absurd e (h k)))
      refine x_skip ?_
      refine x_seq ?_
      refine x_regionL ?_
      refine xl_v v_move ?_
      refine xl_Nc ?_
      refine xl_Fa ?_
      refine xl_v (v_congr (u := .int .i64 x.w.num) (by first | exact v_loadFf hic | exact v_loadFf hiy) (by first | rw [hgc] | rw [hgy])) ?_
      refine xl_v v_assign ?_
      refine xl_v v_assign ?_
      refine xl_nil ?_
      refine x_ret ?_
      refine fin2 rfl ?_
      exact ⟨by rw [hrx], hM, lkc⟩
   ·
    rw [if_neg c3] at hr
    obtain ⟨wP, hwP⟩ : ∃ x, x = w9 := ⟨_, rfl⟩
    have hkP : Keep NoB w wP := by rw [hwP]; exact kpc
    obtain ⟨x, hx⟩ : ∃ x : LW, x = D.ws[i] := ⟨_, rfl⟩
    obtain ⟨ys, hys0⟩ : ∃ ys : List LW, ys = D.ws := ⟨_, rfl⟩
    have hiy : i < ys.length := by rw [hys0]; exact hi
    have hly : ys.length = D.ws.length := by rw [hys0]
    have hgy : ys[i] = x := by subst hys0; exact hx.symm
    have hys : ys = D.ws.set i x := by rw [hys0, hx]; simp
    haveI on12 : OwnI w9 D.WA _ _ _ _ _ _ (ys.flatMap wrC) := by rw [hys0]; exact inferInstance
    haveI rn12 : Row w9 D.WA (ys.flatMap wrC) := by rw [hys0]; exact inferInstance
    have hrx : D.pure.add (i : Int) ses p = (D.pure.setW i { x.w with parts := withP D.np x.w.parts p }, x.w.num, 0) := by rw [hr, hx]; rfl
    haveI oX : OwnI w9 x.A x.w.parts.length x.c 0 3 1 x.w.parts.length (ints x.w.parts) := by rw [hx]; exact inferInstance
    have hxr : Rises D.np x.w.parts := by rw [hx]; exact hrise
    have hxA : blkA x.A = blkA D.ws[i].A ∨ ∀ k, blkA x.A ≠ some k := .inl (by rw [hx])
    haveI apX : ApA D.WA x.A := by rw [hx]; exact apw
    haveI apX2 : ApA x.A D.WA := apX.symm
    haveI sfX : ∀ n c W, SubF (OwnB (.slice x.A n c)) (MetaB m D) W := fun n c W => by rw [hx]; exact sfp n c W
    have hSX : ∀ k n c, OwnB (.slice x.A n c) k → blkA D.WA = some k ∨ blkA D.ws[i].A = some k := fun k n c e => .inr (by rw [hx] at e; exact ownB_blk.1 e)
    refine x_skip ?_
    refine x_seq ?_
    refine x_seq ?_
    have hxl := rises_len hxr
    obtain ⟨wQ, hwQ⟩ : ∃ x, x = w9 := ⟨_, rfl⟩
    have hkPQ : Keep (fun j => blkA D.WA = some j ∨ blkA D.ws[i].A = some j) wP wQ := by
     haveI q1 : ∀ n c W, SubF (OwnB (.slice D.WA n c)) (fun j => blkA D.WA = some j ∨ blkA D.ws[i].A = some j) W := fun n c W => ⟨fun k _ e => .inl (ownB_blk.1 e)⟩
     rw [hwP, hwQ]
     exact kpc
    have hgeQ : w.heap.size ≤ wQ.heap.size := by rw [hwQ]; exact Ge.le
    refine x_regionL ?_
    refine xl_v v_move ?_
    refine xl_Nc ?_
    refine xl_Fa ?_
    refine xl_v (v_congr (u := .slice x.A x.w.parts.length x.c) (v_loadFf hiy) (by rw [hgy])) ?_
    refine xl_v v_move ?_
    refine xl_call (contains_ok x.A _ _ x.w.parts p w9 rfl (by omega)) ?_
    rintro _ w22 ⟨rfl, lk13⟩
    refine xl_v v_not ?_
    refine xl_nil ?_
    first | refine x_condP (fun c5 => ?_) (fun c5 => ?_) | refine x_condN (fun c5 => ?_) (fun c5 => ?_) | refine x_condE (fun c5 => ?_) (fun c5 => ?_)
    ·
     have hnm : p ∉ x.w.parts := by simpa using c5
     refine x_seq ?_
     refine x_regionL ?_
     refine xl_v v_move ?_
     refine xl_v v_move ?_
     refine xl_Nc ?_
     refine xl_Fa ?_
     refine xl_v (v_congr (u := .slice x.A x.w.parts.length x.c) (v_loadFf hiy) (by rw [hgy])) ?_
     refine xl_v v_move ?_
     refine xl_e (e_buildSlice1 rfl fun b9 w23 n9 l9 k9 => ?_)
     have hbQ : wQ.heap.size ≤ (w23).heap.size := by rw [hwQ]; exact Ge.le
     refine xl_e (e_append' (OwnI.own : World.ownsRow w23 _ _ _ (.slice x.A _ x.c) _ _) (Nat.zero_le _) rfl Cell1L.eq (by decide) (.inl rfl) (by omega) (by omega) fun Aa ca w24 hownA la hfa => ?_)
     haveI oA : OwnI w24 Aa _ _ _ _ _ _ _ := ⟨hownA⟩
     haveI faA := from_own hfa
     haveI apA : ApA Aa D.WA := inferInstance
     haveI apA2 : ApA D.WA Aa := apA.symm
     have hfa2 := own_from hfa hbQ
     haveI sfA : ∀ n c, SubF (OwnB (.slice Aa n c)) (MetaB m D) w := fun n c => ⟨fun k hk e => by
      rcases hfa2 with e2 | e2
      ·exact (sfX 0 0 w).sub k hk (ownB_blk.2 (e2 ▸ ownB_blk.1 e))
      ·have := e2 k (ownB_blk.1 e); omega⟩
     have hlp : (x.w.parts ++ [p]).length = x.w.parts.length + 1 := by simp
     refine xl_Nc ?_
     refine xl_Fa ?_
     refine xl_s (e_storeG ⟨⟨x.w.ses, x.w.num, x.w.st, x.w.parts ++ [p], x.w.off, x.w.nxt⟩, Aa, ca⟩ hiy hly (by decide) (by rw [hgy]; simp [setL, wrC]) fun w25 yc hyc hic hlc hgc l14 on14 => ?_)
     rw [hys, List.set_set] at hyc
     refine xl_nil ?_
     refine x_regionL ?_
     refine xl_v v_move ?_
     refine xl_Nc ?_
     refine xl_Fa ?_
     refine xl_v (v_congr (u := .slice Aa (x.w.parts ++ [p]).length ca) (v_loadFf hic) (by rw [hgc])) ?_
     refine xl_call (sort_ok 0 Aa ca (x.w.parts ++ [p]) w25 (by have := (OwnI.own : World.ownsRow w25 _ _ _ (.slice Aa _ ca) _ _); simpa [ints] using this) (by rw [hlp]; omega)) ?_
     rintro _ w26 ⟨rfl, hown5, lk15⟩
     rw [withP_add hxr hnm hnp] at hown5
     have hlw : (withP D.np x.w.parts p).length = (x.w.parts ++ [p]).length := by rw [← withP_add hxr hnm hnp]; simp
     haveI oA5 : OwnI w26 Aa _ _ _ _ _ _ _ := ⟨hown5⟩
     have hSA : ∀ k n c, k < wQ.heap.size → OwnB (.slice Aa n c) k → blkA D.WA = some k ∨ blkA D.ws[i].A = some k := fun k n c hk e => by
      rcases hfa2 with e2 | e2
      ·exact hSX k 0 0 (ownB_blk.2 (e2 ▸ ownB_blk.1 e))
      ·have := e2 k (ownB_blk.1 e); omega
     have hkQ : Keep (fun j => blkA D.WA = some j ∨ blkA D.ws[i].A = some j) wQ w26 := by
      haveI q1 : ∀ n c W, SubF (OwnB (.slice D.WA n c)) (fun j => blkA D.WA = some j ∨ blkA D.ws[i].A = some j) W := fun n c W => ⟨fun k _ e => .inl (ownB_blk.1 e)⟩
      haveI q2 : ∀ n c W, SubF (OwnB (.slice x.A n c)) (fun j => blkA D.WA = some j ∨ blkA D.ws[i].A = some j) W := fun n c W => ⟨fun k _ e => hSX k n c e⟩
      haveI q3 : ∀ n c, SubF (OwnB (.slice Aa n c)) (fun j => blkA D.WA = some j ∨ blkA D.ws[i].A = some j) wQ := fun n c => ⟨fun k hk e => hSA k n c hk e⟩
      rw [hwQ] at q3 ⊢
      exact kpc
     have hbl2 : blkA Aa = blkA D.ws[i].A ∨ ∀ k, blkA Aa = some k → wP.heap.size ≤ k := by
      rcases hfa2 with e2 | e2
      ·rw [e2]; exact hxA.imp id (fun h k e => absurd e (h k))
      ·exact .inr fun k e => Nat.le_trans hkPQ.size (e2 k e)
     have hM : Made m D w (D.pure.add (i : Int) ses p).1 w26 := by
      rw [hrx]
      exact Made.setW h hkP hi ⟨⟨x.w.ses, x.w.num, x.w.st, withP D.np x.w.parts p, x.w.off, x.w.nxt⟩, Aa, ca⟩ (W' := w26) (hkPQ.trans hkQ) (fun k _ e => e) (by have := (OwnI.own : World.ownsRow w26 _ _ _ (.slice D.WA _ D.wc) _ _); rw [hyc, flat_set_eq (enc := wrC) (sz := 6) (fun _ => rfl) D.ws i _ ⟨⟨x.w.ses, x.w.num, x.w.st, withP D.np x.w.parts p, x.w.off, x.w.nxt⟩, Aa, ca⟩ hi (by simp [wrC, hlw])] at this; exact this) (by have := (OwnI.own : World.ownsRow w26 _ _ _ (.slice Aa _ _) _ _); rw [hlw]; exact this) hbl2
     refine xl_nil ?_
     refine x_seq ?_
     refine x_regionL ?_
     refine xl_v v_move ?_
     refine xl_Nc ?_
     refine xl_Fa ?_
     refine xl_v (v_congr (u := .int .i64 x.w.num) (by first | exact v_loadFf hic | exact v_loadFf hiy) (by first | rw [hgc] | rw [hgy])) ?_
     refine xl_v v_assign ?_
     refine xl_v v_assign ?_
     refine xl_nil ?_
     refine x_ret ?_
     refine fin2 rfl ?_
     exact ⟨by rw [hrx], hM, lkc⟩
    ·
     have hnm : p ∈ x.w.parts := by simpa using c5
     have hkQ : Keep (fun j => blkA D.WA = some j ∨ blkA D.ws[i].A = some j) wQ w22 := by rw [hwQ]; exact kpc
     have hM : Made m D w (D.pure.add (i : Int) ses p).1 w22 := by
      rw [hrx, withP_has hxr hnm]
      exact Made.setW h hkP hi x (W' := w22) (hkPQ.trans hkQ) (fun k _ e => e) (by have := (OwnI.own : World.ownsRow w22 _ _ _ (.slice D.WA _ D.wc) _ _); rw [hys] at this; exact this) (OwnI.own : World.ownsRow w22 _ _ _ (.slice x.A _ _) _ _) (hxA.imp id (fun h k e => absurd e (h k)))
     refine x_skip ?_
     refine x_seq ?_
     refine x_regionL ?_
     refine xl_v v_move ?_
     refine xl_Nc ?_
     refine xl_Fa ?_
     refine xl_v (v_congr (u := .int .i64 x.w.num) (by first | exact v_loadFf hic | exact v_loadFf hiy) (by first | rw [hgc] | rw [hgy])) ?_
     refine xl_v v_assign ?_
     refine xl_v v_assign ?_
     refine xl_nil ?_
     refine x_ret ?_
     refine fin2 rfl ?_
     exact ⟨by rw [hrx], hM, lkc⟩
end Go.Proofs.Ytnjpladlfiaojaa
