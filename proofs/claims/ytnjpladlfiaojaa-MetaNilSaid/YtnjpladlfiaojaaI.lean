/-
 Walks, printed by a program of this workplace (wip/tools/sx.py) off the functions' code and a text of contracts.
-/
import Derived.Test.YtnjpladlfiaojaaH
set_option linter.all false
set_option maxRecDepth 100000
set_option synthInstance.maxSize 100000
set_option synthInstance.maxHeartbeats 400000
namespace Go.Proofs.Ytnjpladlfiaojaa
open Go.Wst
open Go.Wst.Ct
theorem rises_len {n : Nat} {l : List Int} (h : Rises n l) : l.length ≤ n := by
 have e : l = (upTo n).filter (fun x => decide (x ∈ l)) := rises_ext h.1 (rises_tail (upTo_rises n)).1 fun x => by
  rw [List.mem_filter, mem_upTo]
  simp
  exact fun hx => h.2 x hx
 rw [e]
 refine Nat.le_trans (List.length_filter_le ..) ?_
 simp [upTo]

/-- (*waystation/meta.Meta).Marked -/
theorem marked_ok (m : Nat) (D : LMeta) (b num p : Int) (w : World) (h : MetaAt w m D) (hok : D.pure.ok) : Ret Try.prog 32 #[.pointer (some ⟨m, 0, none⟩), .int .i64 b, .int .i64 num, .int .i64 p] w (fun v w' => v = .int .i64 (D.pure.marked b num p).2 ∧ Made m D w (D.pure.marked b num p).1 w' ∧ Lk w' w (MetaB m D)) := by
 haveI hb : Blk w m _ := ⟨h.hb⟩
 have hmost : most = 2147483647 := rfl
 haveI hW : OwnI w D.WA _ _ _ _ _ _ _ := ⟨h.wrs⟩
 obtain ⟨hll, hvl, hwl, _, hpl, _⟩ := lens hok
 refine ret_of_x (N := 89) (l := [.pointer (some ⟨m, 0, none⟩), .int .i64 b, .int .i64 num, .int .i64 p]) Try.func32 rfl rfl (Nat.le_of_ble_eq_true rfl) ?_
 refine x_seq ?_
 refine x_regionL ?_
 refine xl_v v_assign ?_
 refine xl_nil ?_
 refine x_seq ?_
 refine x_seq ?_
 refine x_regionL ?_
 refine xl_v v_move ?_
 refine xl_call (isNone_ok m D w (h.ext (kpc : Keep NoB w w))) ?_
 rintro _ w1 ⟨⟨x1, rfl, hw1, hb1, hc1⟩, lk1⟩
 refine xl_v v_move ?_
 refine xl_v v_move ?_
 refine xl_call (id_ok m D b w1 (h.ext (kpc : Keep NoB w w1))) ?_
 rintro _ w2 ⟨⟨x2, rfl, hw2, hb2, hc2⟩, lk2⟩
 refine xl_v v_move ?_
 refine xl_v v_move ?_
 refine xl_call (part_ok m D p w2 (h.ext (kpc : Keep NoB w w2))) ?_
 rintro _ w3 ⟨⟨x3, rfl, hw3, hb3, hc3⟩, lk3⟩
 refine xl_e (e_buildSliceM (vs := [x1, x2, x3].flatMap chkC) rfl rfl rfl fun b5 w4 n5 l5 k5 => ?_)
 refine xl_call (first3_ok _ _ x1 x2 x3 w4 (hc1.ext lkc) (fun _ => hc2.ext lkc) (fun _ _ => hc3.ext lkc) (if ¬ inN b D.ni ∨ ¬ inN p D.np then 2 else 0) (by rw [hb1, hb2, hw2, hb3, hw3, decide_eq_false (by omega)]; by_cases e : inN b D.ni <;> by_cases e2 : inN p D.np <;> simp [e, e2])) ?_
 rintro _ w5 ⟨rfl, lk4⟩
 refine xl_v v_assign ?_
 refine xl_nil ?_
 refine x_seq ?_
 refine x_regionL ?_
 refine xl_v v_move ?_
 refine xl_v v_neq ?_
 refine xl_nil ?_
 first | refine x_condP (fun c1 => ?_) (fun c1 => ?_) | refine x_condN (fun c1 => ?_) (fun c1 => ?_) | refine x_condE (fun c1 => ?_) (fun c1 => ?_)
 ·
  have hn : ¬ inN b D.ni ∨ ¬ inN p D.np := Classical.byContradiction fun e => by rw [if_neg e] at c1; exact c1 rfl
  have hr : D.pure.marked b num p = (D.pure, 2) := if_pos hn
  refine x_seq ?_
  refine x_regionL ?_
  refine xl_v v_move ?_
  refine xl_v v_assign ?_
  refine xl_nil ?_
  refine x_ret ?_
  refine fin1 rfl ?_
  exact ⟨by rw [hr, if_pos hn], Made.stay h kpc (by rw [hr]), lkc⟩
 ·
  have hn0 : ¬ (¬ inN b D.ni ∨ ¬ inN p D.np) := fun e => by simp [e] at c1
  have hr : D.pure.marked b num p = _ := if_neg hn0
  have hn : inN b D.ni := Classical.byContradiction fun e => hn0 (.inl e)
  have hnp : inN p D.np := Classical.byContradiction fun e => hn0 (.inr e)
  obtain ⟨i, rfl, hi⟩ := nat_of hn
  have hi : i < D.ws.length := by omega
  have ho := hok.wr hn
  rw [wr_at hi] at hr ho
  have hst := ho.st
  have hrise : Rises D.np D.ws[i].w.parts := ho.rise
  have hi' : D.ws[i]? = some D.ws[i] := List.getElem?_eq_getElem hi
  have hWA : D.WA.isSome = true := row_some (w := w) (A := D.WA) (cs := D.ws.flatMap wrC) inferInstance (by rw [flat_len (sz := 6) (fun _ => rfl)]; omega)
  haveI apw : ApA D.WA D.ws[i].A := h.ap (s := .w) (t := .wi i) rfl (addr_wi hi') nofun
  haveI apw2 : ApA D.ws[i].A D.WA := apw.symm
  haveI apm : ApB D.WA m := h.apm (s := .w) rfl nofun
  haveI apm2 : ApB D.ws[i].A m := h.apm (s := .wi i) (addr_wi hi') nofun
  haveI hPt : OwnI w D.ws[i].A _ _ _ _ _ _ _ := ⟨h.parts i _ hi'⟩
  have hpl2 := rises_len hrise
  obtain ⟨hx1, hx2⟩ := isX_idx p D.ws[i].w.parts
  haveI sfp : ∀ n c W, SubF (OwnB (.slice D.ws[i].A n c)) (MetaB m D) W := fun n c W => subF_wi hi' n c W
  refine x_skip ?_
  refine x_seq ?_
  refine x_regionL ?_
  refine xl_v v_move ?_
  refine xl_Nc ?_
  refine xl_Fa ?_
  refine xl_Ld ?_
  refine xl_v v_move ?_
  refine xl_v (v_indexF i (by decide) rfl (by omega) hi) ?_
  refine xl_v v_assign ?_
  refine xl_nil ?_
  refine x_seq ?_
  refine x_regionL ?_
  refine xl_v v_move ?_
  refine xl_Nc ?_
  refine xl_Fa ?_
  refine xl_Ld ?_
  refine xl_v v_move ?_
  refine xl_call (index_ok D.ws[i].A _ _ D.ws[i].w.parts p w5 rfl (by omega)) ?_
  rintro _ w6 ⟨rfl, lk5⟩
  refine xl_v v_assign ?_
  refine xl_nil ?_
  refine x_seq ?_
  refine x_seq ?_
  refine x_regionL ?_
  refine xl_v v_move ?_
  refine xl_Nc ?_
  refine xl_Fa ?_
  refine xl_Ld ?_
  refine xl_v v_move ?_
  refine xl_v v_neq ?_
  refine xl_v v_move ?_
  refine xl_split 43 (fun g43 => ?_) (fun g43 => ?_)
  ·
   refine xl_gs rfl EvO.eq ?_
   refine xl_gs rfl EvO.eq ?_
   refine xl_Pk ?_
   refine xl_v v_move ?_
   refine xl_gs rfl EvO.eq ?_
   refine xl_gs rfl EvO.eq ?_
   refine xl_gs rfl EvO.eq ?_
   refine xl_gs rfl EvO.eq ?_
   refine xl_gs rfl EvO.eq ?_
   refine xl_Pk ?_
   refine xl_nil ?_
   refine x_condT ?_
   refine x_seq ?_
   refine x_regionL ?_
   refine xl_v v_assign ?_
   refine xl_nil ?_
   refine x_ret ?_
   refine fin1 rfl ?_
   have hE : D.ws[i].w.num ≠ num ∨ D.ws[i].w.st < 3 ∨ p ∉ D.ws[i].w.parts := by
    first
     | exact hE
     | (simp at g43; exact .inl g43)
     | (simp at g47; exact .inr (.inr (fun e => by have := hx1.2 e; omega)))
   rw [if_pos hE] at hr
   exact ⟨by rw [hr], Made.stay h kpc (by rw [hr]), lkc⟩
  ·
   refine xl_gv rfl EvO.eq v_move ?_
   refine xl_gv rfl EvO.eq v_lss ?_
   refine xl_Pk ?_
   refine xl_v v_move ?_
   refine xl_split 47 (fun g47 => ?_) (fun g47 => ?_)
   ·
    refine xl_gs rfl EvO.eq ?_
    refine xl_gs rfl EvO.eq ?_
    refine xl_gs rfl EvO.eq ?_
    refine xl_gs rfl EvO.eq ?_
    refine xl_gs rfl EvO.eq ?_
    refine xl_Pk ?_
    refine xl_nil ?_
    refine x_condT ?_
    refine x_seq ?_
    refine x_regionL ?_
    refine xl_v v_assign ?_
    refine xl_nil ?_
    refine x_ret ?_
    refine fin1 rfl ?_
    have hE : D.ws[i].w.num ≠ num ∨ D.ws[i].w.st < 3 ∨ p ∉ D.ws[i].w.parts := by
     first
      | exact hE
      | (simp at g43; exact .inl g43)
      | (simp at g47; exact .inr (.inr (fun e => by have := hx1.2 e; omega)))
    rw [if_pos hE] at hr
    exact ⟨by rw [hr], Made.stay h kpc (by rw [hr]), lkc⟩
   ·
    refine xl_gv rfl EvO.eq v_move ?_
    refine xl_gcall rfl EvO.eq (busy_ok D.WA i D.ws w6 hi) ?_
    rintro _ w7 ⟨⟨x4, rfl, hw4, hb4, hc4⟩, lk6⟩
    refine xl_ge rfl EvO.eq (e_buildSliceM (vs := [x4].flatMap chkC) rfl rfl rfl fun b6 w8 n6 l6 k6 => ?_)
    refine xl_gcall rfl EvO.eq (first1_ok _ _ x4 w8 (hc4.ext lkc) (if 3 ≤ D.ws[i].w.st then 203 else 0) (by
      rw [hb4, hw4]
      by_cases e : 3 ≤ D.ws[i].w.st
      ·simp [e, hst.2]
      ·simp [e])) ?_
    rintro _ w9 ⟨rfl, lk7⟩
    refine xl_gv rfl EvO.eq v_eql ?_
    refine xl_Pk ?_
    refine xl_nil ?_
    first | refine x_condP (fun c2 => ?_) (fun c2 => ?_) | refine x_condN (fun c2 => ?_) (fun c2 => ?_) | refine x_condE (fun c2 => ?_) (fun c2 => ?_)
    ·
     have hE : D.ws[i].w.num ≠ num ∨ D.ws[i].w.st < 3 ∨ p ∉ D.ws[i].w.parts := by
      rw [← hx1]
      by_cases e : 3 ≤ D.ws[i].w.st
      ·rw [if_pos e] at c2; omega
      ·omega
     refine x_seq ?_
     refine x_regionL ?_
     refine xl_v v_assign ?_
     refine xl_nil ?_
     refine x_ret ?_
     refine fin1 rfl ?_
     have hE : D.ws[i].w.num ≠ num ∨ D.ws[i].w.st < 3 ∨ p ∉ D.ws[i].w.parts := by
      first
       | exact hE
       | (simp at g43; exact .inl g43)
       | (simp at g47; exact .inr (.inr (fun e => by have := hx1.2 e; omega)))
     rw [if_pos hE] at hr
     exact ⟨by rw [hr], Made.stay h kpc (by rw [hr]), lkc⟩
    ·
     have hE : ¬ (D.ws[i].w.num ≠ num ∨ D.ws[i].w.st < 3 ∨ p ∉ D.ws[i].w.parts) := by
      rw [← hx1]
      simp at g43 g47
      by_cases e : 3 ≤ D.ws[i].w.st
      ·omega
      ·rw [if_neg e] at c2; exact absurd rfl c2
     rw [if_neg hE] at hr
     have hge : 0 ≤ idx (isX p) D.ws[i].w.parts := by simp at g47; exact g47
     obtain ⟨k, hk, hkl⟩ := hx2 hge
     obtain ⟨hfe, hkp⟩ := erase_isX hrise.1 hkl hk
     have hr2 : (D.pure.marked (i : Int) num p).2 = 0 := by rw [hr]
     obtain ⟨wP, hwP⟩ : ∃ x, x = w9 := ⟨_, rfl⟩
     have hkP : Keep NoB w wP := by rw [hwP]; exact kpc
     obtain ⟨l, hl⟩ : ∃ l, l = D.ws[i].w.parts.filter (fun x => !decide (x = p)) := ⟨_, rfl⟩
     rw [← hl] at hfe
     have hll2 : l.length = D.ws[i].w.parts.length - 1 := by rw [← hfe, List.length_eraseIdx, if_pos hkl]
     dsimp only at hr
     rw [← hl] at hr
     refine x_skip ?_
     refine x_seq ?_
     refine x_regionL ?_
     refine xl_v v_move ?_
     refine xl_v v_move ?_
     refine xl_Nc ?_
     refine xl_Fa ?_
     refine xl_Ld ?_
     refine xl_v v_move ?_
     refine xl_v v_move ?_
     refine xl_v (v_add (by omega)) ?_
     rw [hk]
     refine xl_call (delete_ok 0 D.ws[i].A D.ws[i].c D.ws[i].w.parts.length k D.ws[i].w.parts w9 OwnI.own rfl hkl) ?_
     rintro _ w10 ⟨rfl, hown, lk8⟩
     rw [hfe] at hown
     haveI hPn : OwnI w10 D.ws[i].A _ _ _ _ _ _ _ := ⟨hown⟩
     refine xl_Nc ?_
     refine xl_Fa ?_
     refine xl_s (e_storeG ⟨⟨D.ws[i].w.ses, D.ws[i].w.num, D.ws[i].w.st, l, D.ws[i].w.off, D.ws[i].w.nxt⟩, D.ws[i].A, D.ws[i].c⟩ hi rfl (by decide) (by simp [setL, wrC, hll2]) fun w11 ws1 hws1 hi1 hl1 hg1 l11 on11 => ?_)
     refine xl_nil ?_
     refine x_seq ?_
     refine x_seq ?_
     refine x_regionL ?_
     refine xl_v v_move ?_
     refine xl_Nc ?_
     refine xl_Fa ?_
     refine xl_v (v_congr (u := .slice D.ws[i].A l.length D.ws[i].c) (v_loadFf hi1) (by rw [hg1])) ?_
     refine xl_v v_len ?_
     refine xl_v v_eql ?_
     refine xl_nil ?_
     first | refine x_condP (fun c3 => ?_) (fun c3 => ?_) | refine x_condN (fun c3 => ?_) (fun c3 => ?_) | refine x_condE (fun c3 => ?_) (fun c3 => ?_)
     ·
      have hl0 : l = [] := List.eq_nil_of_length_eq_zero (by omega)
      rw [if_pos hl0] at hr
      refine x_seq ?_
      refine x_seq ?_
      refine x_regionL ?_
      refine xl_v v_move ?_
      refine xl_Nc ?_
      refine xl_Fa ?_
      refine xl_v (v_congr (u := .int .i64 D.ws[i].w.st) (v_loadFf hi1) (by rw [hg1])) ?_
      refine xl_v v_eql ?_
      refine xl_nil ?_
      first | refine x_condP (fun c4 => ?_) (fun c4 => ?_) | refine x_condN (fun c4 => ?_) (fun c4 => ?_) | refine x_condE (fun c4 => ?_) (fun c4 => ?_)
      ·
       have hnx : (if D.ws[i].w.st = 3 then D.ws[i].w.nxt else D.ws[i].w.off) = D.ws[i].w.nxt := if_pos c4
       refine x_regionL ?_
       refine xl_v v_move ?_
       refine xl_v v_move ?_
       refine xl_Nc ?_
       refine xl_Fa ?_
       refine xl_v (v_congr (u := .int .i64 D.ws[i].w.nxt) (v_loadFf hi1) (by rw [hg1])) ?_
       refine xl_Nc ?_
       refine xl_Fa ?_
       refine xl_s (e_storeG ⟨⟨D.ws[i].w.ses, D.ws[i].w.num, D.ws[i].w.st, l, D.ws[i].w.nxt, D.ws[i].w.nxt⟩, D.ws[i].A, D.ws[i].c⟩ hi1 hl1 (by decide) (by rw [hg1]; rfl) fun w12 ws2 hws2 hi2 hl2 hg2 l12 on12 => ?_)
       rw [hws1, List.set_set] at hws2
       obtain ⟨o2, ho2⟩ : ∃ o2, o2 = D.ws[i].w.nxt := ⟨_, rfl⟩
       rw [← hnx, hnx] at hg2
       refine xl_nil ?_
       refine x_regionL ?_
       refine xl_v v_move ?_
       refine xl_v v_move ?_
       refine xl_Nc ?_
       refine xl_Fa ?_
       refine xl_s (e_storeG ⟨⟨D.ws[i].w.ses, D.ws[i].w.num, 1, l, (if D.ws[i].w.st = 3 then D.ws[i].w.nxt else D.ws[i].w.off), D.ws[i].w.nxt⟩, D.ws[i].A, D.ws[i].c⟩ hi2 hl2 (by decide) (by rw [hg2, hnx]; rfl) fun w13 ws3 hws3 hi3 hl3 hg3 l13 on13 => ?_)
       refine xl_Nc ?_
       refine xl_Fa ?_
       refine xl_s (e_storeG ⟨⟨D.ws[i].w.ses, D.ws[i].w.num, 1, l, (if D.ws[i].w.st = 3 then D.ws[i].w.nxt else D.ws[i].w.off), 0⟩, D.ws[i].A, D.ws[i].c⟩ hi3 hl3 (by decide) (by rw [hg3]; rfl) fun w14 ws4 hws4 hi4 hl4 hg4 l14 on14 => ?_)
       rw [hws3, hws2, List.set_set, List.set_set] at hws4
       have hM : Made m D w (D.pure.marked (i : Int) num p).1 w14 := by
        rw [hr]
        have := Made.setW h hkP hi ⟨⟨D.ws[i].w.ses, D.ws[i].w.num, 1, l, (if D.ws[i].w.st = 3 then D.ws[i].w.nxt else D.ws[i].w.off), 0⟩, D.ws[i].A, D.ws[i].c⟩ (S := fun j => OwnB (.slice D.WA D.ws.length D.wc) j ∨ OwnB (.slice D.ws[i].A D.ws[i].w.parts.length D.ws[i].c) j) (W' := w14) (by rw [hwP]; exact kpc) (fun k _ e => e.imp ownB_blk.1 ownB_blk.1) (by have := (OwnI.own : World.ownsRow w14 _ _ _ (.slice D.WA _ D.wc) _ _); rw [hws4] at this; exact this) (by have := (OwnI.own : World.ownsRow w14 _ _ _ (.slice D.ws[i].A _ _) _ _); rw [← hll2] at this; exact this) (.inl rfl)
        rw [hl0] at this
        exact this
       refine xl_nil ?_
       refine x_seq ?_
       refine x_regionL ?_
       refine xl_v v_assign ?_
       refine xl_nil ?_
       refine x_ret ?_
       refine fin1 rfl ?_
       exact ⟨by rw [hr2], hM, lkc⟩
      ·
       have hnx : (if D.ws[i].w.st = 3 then D.ws[i].w.nxt else D.ws[i].w.off) = D.ws[i].w.off := if_neg c4
       obtain ⟨ws2, hw2e⟩ : ∃ l, l = ws1 := ⟨_, rfl⟩
       have hws2 := hw2e.trans hws1
       have hi2 : i < ws2.length := by rw [hw2e]; exact hi1
       have hl2 : ws2.length = D.ws.length := by rw [hw2e]; exact hl1
       have hg2 : ws2[i] = ⟨⟨D.ws[i].w.ses, D.ws[i].w.num, D.ws[i].w.st, l, D.ws[i].w.off, D.ws[i].w.nxt⟩, D.ws[i].A, D.ws[i].c⟩ := by subst hw2e; exact hg1
       haveI on12 : OwnI w11 D.WA _ _ _ _ _ _ (ws2.flatMap wrC) := by rw [hw2e]; exact inferInstance
       refine x_skip ?_
       refine x_regionL ?_
       refine xl_v v_move ?_
       refine xl_v v_move ?_
       refine xl_Nc ?_
       refine xl_Fa ?_
       refine xl_s (e_storeG ⟨⟨D.ws[i].w.ses, D.ws[i].w.num, 1, l, (if D.ws[i].w.st = 3 then D.ws[i].w.nxt else D.ws[i].w.off), D.ws[i].w.nxt⟩, D.ws[i].A, D.ws[i].c⟩ hi2 hl2 (by decide) (by rw [hg2, hnx]; rfl) fun w15 ws3 hws3 hi3 hl3 hg3 l13 on13 => ?_)
       refine xl_Nc ?_
       refine xl_Fa ?_
       refine xl_s (e_storeG ⟨⟨D.ws[i].w.ses, D.ws[i].w.num, 1, l, (if D.ws[i].w.st = 3 then D.ws[i].w.nxt else D.ws[i].w.off), 0⟩, D.ws[i].A, D.ws[i].c⟩ hi3 hl3 (by decide) (by rw [hg3]; rfl) fun w16 ws4 hws4 hi4 hl4 hg4 l14 on14 => ?_)
       rw [hws3, hws2, List.set_set, List.set_set] at hws4
       have hM : Made m D w (D.pure.marked (i : Int) num p).1 w16 := by
        rw [hr]
        have := Made.setW h hkP hi ⟨⟨D.ws[i].w.ses, D.ws[i].w.num, 1, l, (if D.ws[i].w.st = 3 then D.ws[i].w.nxt else D.ws[i].w.off), 0⟩, D.ws[i].A, D.ws[i].c⟩ (S := fun j => OwnB (.slice D.WA D.ws.length D.wc) j ∨ OwnB (.slice D.ws[i].A D.ws[i].w.parts.length D.ws[i].c) j) (W' := w16) (by rw [hwP]; exact kpc) (fun k _ e => e.imp ownB_blk.1 ownB_blk.1) (by have := (OwnI.own : World.ownsRow w16 _ _ _ (.slice D.WA _ D.wc) _ _); rw [hws4] at this; exact this) (by have := (OwnI.own : World.ownsRow w16 _ _ _ (.slice D.ws[i].A _ _) _ _); rw [← hll2] at this; exact this) (.inl rfl)
        rw [hl0] at this
        exact this
       refine xl_nil ?_
       refine x_seq ?_
       refine x_regionL ?_
       refine xl_v v_assign ?_
       refine xl_nil ?_
       refine x_ret ?_
       refine fin1 rfl ?_
       exact ⟨by rw [hr2], hM, lkc⟩
     ·
      have hl0 : ¬ l = [] := fun e => by rw [e] at c3; simp at c3
      rw [if_neg hl0] at hr
      have hM : Made m D w (D.pure.marked (i : Int) num p).1 w11 := by
       rw [hr]
       exact Made.setW h hkP hi ⟨⟨D.ws[i].w.ses, D.ws[i].w.num, D.ws[i].w.st, l, D.ws[i].w.off, D.ws[i].w.nxt⟩, D.ws[i].A, D.ws[i].c⟩ (S := fun j => OwnB (.slice D.WA D.ws.length D.wc) j ∨ OwnB (.slice D.ws[i].A D.ws[i].w.parts.length D.ws[i].c) j) (W' := w11) (by rw [hwP]; exact kpc) (fun k _ e => e.imp ownB_blk.1 ownB_blk.1) (by have := (OwnI.own : World.ownsRow w11 _ _ _ (.slice D.WA _ D.wc) _ _); rw [hws1] at this; exact this) (by have := (OwnI.own : World.ownsRow w11 _ _ _ (.slice D.ws[i].A _ _) _ _); rw [← hll2] at this; exact this) (.inl rfl)
      refine x_skip ?_
      refine x_seq ?_
      refine x_regionL ?_
      refine xl_v v_assign ?_
      refine xl_nil ?_
      refine x_ret ?_
      refine fin1 rfl ?_
      exact ⟨by rw [hr2], hM, lkc⟩
end Go.Proofs.Ytnjpladlfiaojaa
