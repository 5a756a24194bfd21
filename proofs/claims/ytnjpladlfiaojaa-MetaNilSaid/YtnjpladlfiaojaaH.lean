/-
 Walks, printed by a program of this workplace (wip/tools/sx.py) off the functions' code and a text of contracts.
-/
import Derived.Test.YtnjpladlfiaojaaG
set_option linter.all false
set_option maxRecDepth 100000
set_option synthInstance.maxSize 100000
set_option synthInstance.maxHeartbeats 400000
namespace Go.Proofs.Ytnjpladlfiaojaa
open Go.Wst
open Go.Wst.Ct
theorem setW_self (M : Meta) {i : Nat} (hi : i < M.wrs.length) : M.setW i (M.wr i) = M := by
 have : M.wrs.set (i : Int).toNat (M.wrs.getD (i : Int).toNat ⟨0, 0, 0, [], 0, 0⟩) = M.wrs := by
  simp [hi]
 rw [Meta.setW, Meta.wr, this]

/-- (*waystation/meta.Meta).End$1 -/
theorem endc1_ok (ob bb : Nat) (A : Option Addr) (k : Nat) (xs : List LW) (off : Int) (w : World) [Blk w ob (.cells #[.int .i64 off] 2 (0, 0))] [Blk w bb (.cells #[padd A (k * 6)] 99 (0, 0))] [Row w A (xs.flatMap wrC)] (hk : k < xs.length) : Ret Try.prog 58 #[.pointer (some ⟨ob, 0, none⟩), .pointer (some ⟨bb, 0, none⟩)] w (fun v w' => v = .bool (decide (off < 0 ∨ most < off ∨ off < xs[k].w.off)) ∧ Lk w' w NoB) := by
 have hmost : most = 2147483647 := rfl
 have hA := row_some (w := w) (A := A) (cs := xs.flatMap wrC) inferInstance (by rw [flat_len (sz := 6) (fun _ => rfl)]; omega)
 refine ret_of_x (N := 17) (l := [.pointer (some ⟨ob, 0, none⟩), .pointer (some ⟨bb, 0, none⟩)]) Try.func58 rfl rfl (Nat.le_of_ble_eq_true rfl) ?_
 refine x_seq ?_
 refine x_regionL ?_
 refine xl_v v_assign ?_
 refine xl_nil ?_
 refine x_seq ?_
 refine x_drawL (NoB) (allS) (.take 0 (.take 1 (.take 2 (.take 3 (.take 4 (.take 5 (.take 6 (.take 7 (.take 8 (.take 9 (.take 10 (.take 11 (.take 12 (.take 13 (.take 14 .done))))))))))))))) mixed (by kernel_rfl) (fun _ _ _ _ _ h => h) (fun w1 l1 => ?_)
 refine xt_Ld rfl ?_
 refine xt_v rfl v_lss ?_
 refine xt_v rfl v_move ?_
 refine xt_split 5 (fun g5 => ?_) (fun g5 => ?_)
 ·
  refine xt_gs rfl rfl EvO.eq ?_
  refine xt_gs rfl rfl EvO.eq ?_
  refine xt_Pk rfl ?_
  refine xt_v rfl v_move ?_
  refine xt_gs rfl rfl EvO.eq ?_
  refine xt_gs rfl rfl EvO.eq ?_
  refine xt_gs rfl rfl EvO.eq ?_
  refine xt_gs rfl rfl EvO.eq ?_
  refine xt_gs rfl rfl EvO.eq ?_
  refine xt_gs rfl rfl EvO.eq ?_
  refine xt_Pk rfl ?_
  refine xt_v rfl v_assign ?_
  refine xt_nil ?_
  refine x_ret ?_
  refine fin1 rfl ?_
  refine ⟨congrArg Value.bool ?_, lkc⟩
  first
   | (simp at g5; rw [decide_eq_true (p := _ ∨ _) (.inl g5)]; done)
   | (simp at g5 g9; rw [decide_eq_true (p := _ ∨ _) (.inr (.inl g9))]; done)
   | (simp at g5 g9; rw [decide_eq_decide]; omega)
 ·
  refine xt_gLd rfl rfl EvO.eq ?_
  refine xt_gv rfl rfl EvO.eq v_gtr ?_
  refine xt_Pk rfl ?_
  refine xt_v rfl v_move ?_
  refine xt_split 9 (fun g9 => ?_) (fun g9 => ?_)
  ·
   refine xt_gs rfl rfl EvO.eq ?_
   refine xt_gs rfl rfl EvO.eq ?_
   refine xt_gs rfl rfl EvO.eq ?_
   refine xt_gs rfl rfl EvO.eq ?_
   refine xt_gs rfl rfl EvO.eq ?_
   refine xt_gs rfl rfl EvO.eq ?_
   refine xt_Pk rfl ?_
   refine xt_v rfl v_assign ?_
   refine xt_nil ?_
   refine x_ret ?_
   refine fin1 rfl ?_
   refine ⟨congrArg Value.bool ?_, lkc⟩
   first
    | (simp at g5; rw [decide_eq_true (p := _ ∨ _) (.inl g5)]; done)
    | (simp at g5 g9; rw [decide_eq_true (p := _ ∨ _) (.inr (.inl g9))]; done)
    | (simp at g5 g9; rw [decide_eq_decide]; omega)
  ·
   refine xt_gLd rfl rfl EvO.eq ?_
   refine xt_gLd rfl rfl EvO.eq ?_
   refine xt_gNc rfl rfl EvO.eq ?_
   refine xt_gFa rfl rfl EvO.eq ?_
   refine xt_gLd rfl rfl EvO.eq ?_
   refine xt_gv rfl rfl EvO.eq v_lss ?_
   refine xt_Pk rfl ?_
   refine xt_v rfl v_assign ?_
   refine xt_nil ?_
   refine x_ret ?_
   refine fin1 rfl ?_
   refine ⟨congrArg Value.bool ?_, lkc⟩
   first
    | (simp at g5; rw [decide_eq_true (p := _ ∨ _) (.inl g5)]; done)
    | (simp at g5 g9; rw [decide_eq_true (p := _ ∨ _) (.inr (.inl g9))]; done)
    | (simp at g5 g9; rw [decide_eq_decide]; omega)

/-- (*waystation/meta.Meta).End -/
theorem ends_ok (m : Nat) (D : LMeta) (b ses : Int) (commit : Bool) (off : Int) (w : World) (h : MetaAt w m D) (hok : D.pure.ok) : Ret Try.prog 26 #[.pointer (some ⟨m, 0, none⟩), .int .i64 b, .int .i64 ses, .bool commit, .int .i64 off] w (fun v w' => v = .int .i64 (D.pure.ends b ses commit off).2 ∧ Made m D w (D.pure.ends b ses commit off).1 w' ∧ Lk w' w (MetaB m D)) := by
 haveI hb : Blk w m _ := ⟨h.hb⟩
 have hmost : most = 2147483647 := rfl
 haveI hW : OwnI w D.WA _ _ _ _ _ _ _ := ⟨h.wrs⟩
 obtain ⟨hll, hvl, hwl, _, _, _⟩ := lens hok
 refine ret_of_x (N := 73) (l := [.pointer (some ⟨m, 0, none⟩), .int .i64 b, .int .i64 ses, .bool commit, .int .i64 off]) Try.func26 rfl rfl (Nat.le_of_ble_eq_true rfl) ?_
 refine x_seq ?_
 refine x_regionL ?_
 refine xl_e (e_box fun b1 w1 n1 l1 k1 => ?_)
 refine xl_v v_assign ?_
 refine xl_nil ?_
 refine x_seq ?_
 refine x_seq ?_
 refine x_regionL ?_
 refine xl_v v_move ?_
 refine xl_call (isNone_ok m D w1 (h.ext (kpc : Keep NoB w w1))) ?_
 rintro _ w2 ⟨⟨x1, rfl, hw1, hb1, hc1⟩, lk1⟩
 refine xl_v v_move ?_
 refine xl_v v_move ?_
 refine xl_call (id_ok m D b w2 (h.ext (kpc : Keep NoB w w2))) ?_
 rintro _ w3 ⟨⟨x2, rfl, hw2, hb2, hc2⟩, lk2⟩
 refine xl_e (e_buildSliceM (vs := [x1, x2].flatMap chkC) rfl rfl rfl fun b5 w4 n5 l5 k5 => ?_)
 refine xl_call (first2_ok _ _ x1 x2 w4 (hc1.ext lkc) (fun _ => hc2.ext lkc) (if inN b D.ni then 0 else 2) (by rw [hb1, hb2, hw2, decide_eq_false (by omega)]; by_cases e : inN b D.ni <;> simp [e])) ?_
 rintro _ w5 ⟨rfl, lk3⟩
 refine xl_v v_assign ?_
 refine xl_nil ?_
 refine x_seq ?_
 refine x_regionL ?_
 refine xl_v v_move ?_
 refine xl_v v_neq ?_
 refine xl_nil ?_
 first | refine x_condP (fun c1 => ?_) (fun c1 => ?_) | refine x_condN (fun c1 => ?_) (fun c1 => ?_) | refine x_condE (fun c1 => ?_) (fun c1 => ?_)
 ·
  have hn : ¬ inN b D.ni := fun e => by simp [e] at c1
  have hr : D.pure.ends b ses commit off = (D.pure, 2) := if_pos hn
  refine x_seq ?_
  refine x_regionL ?_
  refine xl_v v_move ?_
  refine xl_v v_assign ?_
  refine xl_nil ?_
  refine x_ret ?_
  refine fin1 rfl ?_
  exact ⟨by rw [hr, if_neg hn], Made.stay h kpc (by rw [hr]), lkc⟩
 ·
  have hn : inN b D.ni := Classical.byContradiction fun e => by simp [e] at c1
  have hr : D.pure.ends b ses commit off = _ := if_neg (fun e => e hn)
  obtain ⟨i, rfl, hi⟩ := nat_of hn
  have hi : i < D.ws.length := by omega
  have ho := hok.wr hn
  have hself := setW_self D.pure (i := i) (by simpa [LMeta.pure] using hi)
  rw [wr_at hi] at hr ho hself
  have hst := ho.st
  have hi' : D.ws[i]? = some D.ws[i] := List.getElem?_eq_getElem hi
  have hWA : D.WA.isSome = true := row_some (w := w) (A := D.WA) (cs := D.ws.flatMap wrC) inferInstance (by rw [flat_len (sz := 6) (fun _ => rfl)]; omega)
  haveI apw : ApA D.WA D.ws[i].A := h.ap (s := .w) (t := .wi i) rfl (addr_wi hi') nofun
  haveI apm : ApB D.WA m := h.apm (s := .w) rfl nofun
  haveI hPt : OwnI w D.ws[i].A _ _ _ _ _ _ _ := ⟨h.parts i _ hi'⟩
  refine x_skip ?_
  refine x_seq ?_
  refine x_regionL ?_
  refine xl_v v_move ?_
  refine xl_Nc ?_
  refine xl_Fa ?_
  refine xl_Ld ?_
  refine xl_v v_move ?_
  refine xl_v (v_indexF i (by decide) rfl (by omega) hi) ?_
  refine xl_e (e_alloc fun b6 w6 n6 l6 k6 => ?_)
  refine xl_s (e_store fun w7 l7 k7 => ?_)
  refine xl_nil ?_
  refine x_seq ?_
  have hc3 : ∀ W, Lk W w7 NoB → ChkAt W ⟨58, [], [.pointer (some ⟨b1, 0, none⟩), .pointer (some ⟨b6, 0, none⟩)], 2, decide (off < 0 ∨ most < off ∨ off < D.ws[i].w.off)⟩ := fun W l1 W2 l2 => by
   haveI : Lk W2 w7 NoB := ⟨l1.keep.trans l2.keep⟩
   haveI : Row W2 D.WA (D.ws.flatMap wrC) := inferInstance
   haveI : Blk W2 b1 _ := inferInstance
   haveI : Blk W2 b6 _ := inferInstance
   exact CallV.of_ret (endc1_ok b1 b6 D.WA i D.ws off W2 hi)
  refine x_drawL (NoB) (allS) (.take 0 (.take 1 (.take 2 (.take 3 (.take 5 (.eff 4 (.eff 6 (.eff 7 (.eff 8 (.take 9 .done)))))))))) mixed (by kernel_rfl) (fun _ _ _ _ _ h => h) (fun w8 l8 => ?_)
  refine xt_v rfl v_makeFunc ?_
  refine xt_v rfl v_build ?_
  refine xt_Ld rfl ?_
  refine xt_v rfl v_move ?_
  refine xt_Ld rfl ?_
  refine xt_call rfl (stale_ok D.WA i D.ws ses w8 hi) ?_
  rintro _ w9 ⟨⟨x4, rfl, hw4, hb4, hc4⟩, lk4⟩
  refine ⟨kpc, ?_⟩
  refine xt_call rfl (busy_ok D.WA i D.ws w9 hi) ?_
  rintro _ w10 ⟨⟨x5, rfl, hw5, hb5, hc5⟩, lk5⟩
  refine ⟨kpc, ?_⟩
  refine xt_e rfl (e_buildSliceM (vs := [⟨58, [], [.pointer (some ⟨b1, 0, none⟩), .pointer (some ⟨b6, 0, none⟩)], 2, decide (off < 0 ∨ most < off ∨ off < D.ws[i].w.off)⟩, x4, x5].flatMap chkC) rfl rfl rfl fun b7 w11 n7 l7 k7 => ?_)
  refine xt_call rfl (first3_ok _ _ ⟨58, [], [.pointer (some ⟨b1, 0, none⟩), .pointer (some ⟨b6, 0, none⟩)], 2, decide (off < 0 ∨ most < off ∨ off < D.ws[i].w.off)⟩ x4 x5 w11 (hc3 _ lkc) (fun _ => hc4.ext lkc) (fun _ _ => hc5.ext lkc) (if off < 0 ∨ most < off ∨ off < D.ws[i].w.off then 2 else if D.ws[i].w.ses ≠ ses then 200 else if 3 ≤ D.ws[i].w.st then 203 else 0) (by
    rw [hb4, hb5, hw4, hw5]
    by_cases e : off < 0 ∨ most < off ∨ off < D.ws[i].w.off
    ·simp [e]
    ·simp only [e, decide_false, if_false]
     by_cases e2 : D.ws[i].w.ses = ses
     ·simp [e2, hst.2]
     ·simp [e2])) ?_
  rintro _ w12 ⟨rfl, lk6⟩
  refine ⟨kpc, ?_⟩
  refine xt_v rfl v_assign ?_
  refine xt_nil ?_
  refine x_seq ?_
  refine x_seq ?_
  refine x_regionL ?_
  refine xl_v v_move ?_
  refine xl_v v_neq ?_
  refine xl_nil ?_
  first | refine x_condP (fun c2 => ?_) (fun c2 => ?_) | refine x_condN (fun c2 => ?_) (fun c2 => ?_) | refine x_condE (fun c2 => ?_) (fun c2 => ?_)
  ·
   have hE : D.pure.ends (i : Int) ses commit off = (D.pure, if off < 0 ∨ most < off ∨ off < D.ws[i].w.off then 2 else if D.ws[i].w.ses ≠ ses then 200 else if 3 ≤ D.ws[i].w.st then 203 else 0) := by
    rw [hr]
    split
    ·rfl
    next e1 =>
    rw [if_neg e1] at c2
    split
    ·rfl
    next e2 =>
    rw [if_neg e2] at c2
    split
    ·rfl
    next e3 =>
    rw [if_neg e3] at c2
    exact absurd rfl c2
   refine x_seq ?_
   refine x_regionL ?_
   refine xl_v v_move ?_
   refine xl_v v_assign ?_
   refine xl_nil ?_
   refine x_ret ?_
   refine fin1 rfl ?_
   exact ⟨by rw [hE], Made.stay h kpc (by rw [hE]), lkc⟩
  ·
   have e1 : ¬ (off < 0 ∨ most < off ∨ off < D.ws[i].w.off) := fun e => by simp [e] at c2
   have e2 : ¬ D.ws[i].w.ses ≠ ses := fun e => by simp [e1, e] at c2
   have e3 : ¬ 3 ≤ D.ws[i].w.st := fun e => by simp [e1, e2, e] at c2
   rw [if_neg e1, if_neg e2, if_neg e3] at hr
   have hr2 : (D.pure.ends (i : Int) ses commit off).2 = 0 := by rw [hr]; split <;> rfl
   obtain ⟨wP, hwP⟩ : ∃ x, x = w12 := ⟨_, rfl⟩
   have hkP : Keep NoB w wP := by rw [hwP]; exact kpc
   refine x_skip ?_
   refine x_seq ?_
   refine x_block ?_
   refine x_seq ?_
   refine x_regionL ?_
   refine xl_Ld ?_
   refine xl_Nc ?_
   refine xl_Fa ?_
   refine xl_Ld ?_
   refine xl_v v_eql ?_
   refine xl_v v_move ?_
   refine xl_split 51 (fun g51 => ?_) (fun g51 => ?_)
   ·
    refine xl_gv rfl EvO.eq v_move ?_
    refine xl_Pk ?_
    refine xl_v v_assign ?_
    refine xl_nil ?_
    first | refine x_condP (fun c3 => ?_) (fun c3 => ?_) | refine x_condN (fun c3 => ?_) (fun c3 => ?_) | refine x_condE (fun c3 => ?_) (fun c3 => ?_)
    ·
     refine x_regionL ?_
     refine xl_Ld ?_
     refine xl_Ld ?_
     refine xl_Nc ?_
     refine xl_Fa ?_
     refine xl_s (e_storeG (D.ws[i].up D.ws[i].w.ses D.ws[i].w.num D.ws[i].w.st off D.ws[i].w.nxt) hi rfl (by decide) rfl fun w13 ws1 hws1 hi1 hl1 hg1 l10 on10 => ?_)
     have hs : ¬ D.ws[i].w.st = 2 := by simp at g51; omega
     rw [if_neg hs, if_pos c3] at hr
     have hM : Made m D w (D.pure.ends (i : Int) ses commit off).1 w13 := by
      rw [hr]
      exact Made.setW h hkP hi (D.ws[i].up D.ws[i].w.ses D.ws[i].w.num D.ws[i].w.st off D.ws[i].w.nxt) (S := OwnB (.slice D.WA D.ws.length D.wc)) (W' := w13) (by rw [hwP]; exact kpc) (fun k _ e => .inl (ownB_blk.1 e)) (by have := (OwnI.own : World.ownsRow w13 _ _ _ (.slice D.WA _ D.wc) _ _); rw [hws1] at this; exact this) (OwnI.own : World.ownsRow w13 _ _ _ (.slice D.ws[i].A _ _) _ _) (.inl rfl)
     refine xl_nil ?_
     refine x_seq ?_
     refine x_regionL ?_
     refine xl_v v_assign ?_
     refine xl_nil ?_
     refine x_ret ?_
     refine fin1 rfl ?_
     exact ⟨by rw [hr2], hM, lkc⟩
    ·
     refine x_seq ?_
     refine x_regionL ?_
     refine xl_Ld ?_
     refine xl_Nc ?_
     refine xl_Fa ?_
     refine xl_Ld ?_
     refine xl_v v_eql ?_
     refine xl_v v_assign ?_
     refine xl_nil ?_
     first | refine x_condP (fun c4 => ?_) (fun c4 => ?_) | refine x_condN (fun c4 => ?_) (fun c4 => ?_) | refine x_condE (fun c4 => ?_) (fun c4 => ?_)
     ·
      have hs : ¬ D.ws[i].w.st = 2 := by omega
      have hM : Made m D w (D.pure.ends (i : Int) ses commit off).1 w12 := by
       rw [hr, if_neg hs]
       refine Made.stay h kpc ?_
       cases hcm : commit with
       | true => exact absurd hcm (by first | simpa using c3 | (simp at g51; omega))
       | false => exact hself
      refine x_skip ?_
      refine x_seq ?_
      refine x_regionL ?_
      refine xl_v v_assign ?_
      refine xl_nil ?_
      refine x_ret ?_
      refine fin1 rfl ?_
      exact ⟨by rw [hr2], hM, lkc⟩
     ·
      have hs : D.ws[i].w.st = 2 := by omega
      rw [if_pos hs] at hr
      refine x_seq ?_
      refine x_regionL ?_
      refine xl_v v_move ?_
      refine xl_v v_assign ?_
      refine xl_nil ?_
      first | refine x_condP (fun c5 => ?_) (fun c5 => ?_) | refine x_condN (fun c5 => ?_) (fun c5 => ?_) | refine x_condE (fun c5 => ?_) (fun c5 => ?_)
      ·
       refine x_drawL (OwnB (.slice D.WA D.ws.length D.wc)) (allS) (.take 0 (.take 1 (.take 2 (.take 3 (.take 4 (.eff 5 (.take 6 (.take 7 (.eff 8 .done))))))))) mixed (by kernel_rfl) (fun _ _ _ _ _ h => h) (fun w14 l14 => ?_)
       refine xt_Ld rfl ?_
       refine xt_Ld rfl ?_
       refine xt_Ld rfl ?_
       refine xt_Nc rfl ?_
       refine xt_Fa rfl ?_
       refine xt_s rfl (e_storeG (D.ws[i].up D.ws[i].w.ses D.ws[i].w.num 3 D.ws[i].w.off D.ws[i].w.nxt) hi rfl (by decide) rfl fun w15 ws1 hws1 hi1 hl1 hg1 l13 on13 => ?_)
       refine xt_Nc rfl ?_
       refine xt_Fa rfl ?_
       refine xt_s rfl (e_storeG (D.ws[i].up D.ws[i].w.ses D.ws[i].w.num 3 D.ws[i].w.off off) hi1 hl1 (by decide) (by rw [hg1]; rfl) fun w16 ws2 hws2 hi2 hl2 hg2 l14 on14 => ?_)
       rw [hws1, List.set_set] at hws2
       rw [if_pos c5] at hr
       have hM : Made m D w (D.pure.ends (i : Int) ses commit off).1 w16 := by
        rw [hr]
        exact Made.setW h hkP hi (D.ws[i].up D.ws[i].w.ses D.ws[i].w.num 3 D.ws[i].w.off off) (S := OwnB (.slice D.WA D.ws.length D.wc)) (W' := w16) (by rw [hwP]; exact kpc) (fun k _ e => .inl (ownB_blk.1 e)) (by have := (OwnI.own : World.ownsRow w16 _ _ _ (.slice D.WA _ D.wc) _ _); rw [hws2] at this; exact this) (OwnI.own : World.ownsRow w16 _ _ _ (.slice D.ws[i].A _ _) _ _) (.inl rfl)
       refine xt_nil ?_
       refine x_seq ?_
       refine x_regionL ?_
       refine xl_v v_assign ?_
       refine xl_nil ?_
       refine x_ret ?_
       refine fin1 rfl ?_
       exact ⟨by rw [hr2], hM, lkc⟩
      ·
       refine x_regionL ?_
       refine xl_Ld ?_
       refine xl_Nc ?_
       refine xl_Fa ?_
       refine xl_s (e_storeG (D.ws[i].up D.ws[i].w.ses D.ws[i].w.num 4 D.ws[i].w.off D.ws[i].w.nxt) hi rfl (by decide) rfl fun w17 ws1 hws1 hi1 hl1 hg1 l8 on8 => ?_)
       rw [if_neg (by rw [c5]; decide)] at hr
       have hM : Made m D w (D.pure.ends (i : Int) ses commit off).1 w17 := by
        rw [hr]
        exact Made.setW h hkP hi (D.ws[i].up D.ws[i].w.ses D.ws[i].w.num 4 D.ws[i].w.off D.ws[i].w.nxt) (S := OwnB (.slice D.WA D.ws.length D.wc)) (W' := w17) (by rw [hwP]; exact kpc) (fun k _ e => .inl (ownB_blk.1 e)) (by have := (OwnI.own : World.ownsRow w17 _ _ _ (.slice D.WA _ D.wc) _ _); rw [hws1] at this; exact this) (OwnI.own : World.ownsRow w17 _ _ _ (.slice D.ws[i].A _ _) _ _) (.inl rfl)
       refine xl_nil ?_
       refine x_seq ?_
       refine x_regionL ?_
       refine xl_v v_assign ?_
       refine xl_nil ?_
       refine x_ret ?_
       refine fin1 rfl ?_
       exact ⟨by rw [hr2], hM, lkc⟩
   ·
    refine xl_gs rfl EvO.eq ?_
    refine xl_Pk ?_
    refine xl_v v_assign ?_
    refine xl_nil ?_
    refine x_condF ?_
    refine x_seq ?_
    refine x_regionL ?_
    refine xl_Ld ?_
    refine xl_Nc ?_
    refine xl_Fa ?_
    refine xl_Ld ?_
    refine xl_v v_eql ?_
    refine xl_v v_assign ?_
    refine xl_nil ?_
    first | refine x_condP (fun c4 => ?_) (fun c4 => ?_) | refine x_condN (fun c4 => ?_) (fun c4 => ?_) | refine x_condE (fun c4 => ?_) (fun c4 => ?_)
    ·
     have hs : ¬ D.ws[i].w.st = 2 := by omega
     have hM : Made m D w (D.pure.ends (i : Int) ses commit off).1 w12 := by
      rw [hr, if_neg hs]
      refine Made.stay h kpc ?_
      cases hcm : commit with
      | true => exact absurd hcm (by first | simpa using c3 | (simp at g51; omega))
      | false => exact hself
     refine x_skip ?_
     refine x_seq ?_
     refine x_regionL ?_
     refine xl_v v_assign ?_
     refine xl_nil ?_
     refine x_ret ?_
     refine fin1 rfl ?_
     exact ⟨by rw [hr2], hM, lkc⟩
    ·
     have hs : D.ws[i].w.st = 2 := by omega
     rw [if_pos hs] at hr
     refine x_seq ?_
     refine x_regionL ?_
     refine xl_v v_move ?_
     refine xl_v v_assign ?_
     refine xl_nil ?_
     first | refine x_condP (fun c5 => ?_) (fun c5 => ?_) | refine x_condN (fun c5 => ?_) (fun c5 => ?_) | refine x_condE (fun c5 => ?_) (fun c5 => ?_)
     ·
      refine x_drawL (OwnB (.slice D.WA D.ws.length D.wc)) (allS) (.take 0 (.take 1 (.take 2 (.take 3 (.take 4 (.eff 5 (.take 6 (.take 7 (.eff 8 .done))))))))) mixed (by kernel_rfl) (fun _ _ _ _ _ h => h) (fun w18 l18 => ?_)
      refine xt_Ld rfl ?_
      refine xt_Ld rfl ?_
      refine xt_Ld rfl ?_
      refine xt_Nc rfl ?_
      refine xt_Fa rfl ?_
      refine xt_s rfl (e_storeG (D.ws[i].up D.ws[i].w.ses D.ws[i].w.num 3 D.ws[i].w.off D.ws[i].w.nxt) hi rfl (by decide) rfl fun w19 ws1 hws1 hi1 hl1 hg1 l13 on13 => ?_)
      refine xt_Nc rfl ?_
      refine xt_Fa rfl ?_
      refine xt_s rfl (e_storeG (D.ws[i].up D.ws[i].w.ses D.ws[i].w.num 3 D.ws[i].w.off off) hi1 hl1 (by decide) (by rw [hg1]; rfl) fun w20 ws2 hws2 hi2 hl2 hg2 l14 on14 => ?_)
      rw [hws1, List.set_set] at hws2
      rw [if_pos c5] at hr
      have hM : Made m D w (D.pure.ends (i : Int) ses commit off).1 w20 := by
       rw [hr]
       exact Made.setW h hkP hi (D.ws[i].up D.ws[i].w.ses D.ws[i].w.num 3 D.ws[i].w.off off) (S := OwnB (.slice D.WA D.ws.length D.wc)) (W' := w20) (by rw [hwP]; exact kpc) (fun k _ e => .inl (ownB_blk.1 e)) (by have := (OwnI.own : World.ownsRow w20 _ _ _ (.slice D.WA _ D.wc) _ _); rw [hws2] at this; exact this) (OwnI.own : World.ownsRow w20 _ _ _ (.slice D.ws[i].A _ _) _ _) (.inl rfl)
      refine xt_nil ?_
      refine x_seq ?_
      refine x_regionL ?_
      refine xl_v v_assign ?_
      refine xl_nil ?_
      refine x_ret ?_
      refine fin1 rfl ?_
      exact ⟨by rw [hr2], hM, lkc⟩
     ·
      refine x_regionL ?_
      refine xl_Ld ?_
      refine xl_Nc ?_
      refine xl_Fa ?_
      refine xl_s (e_storeG (D.ws[i].up D.ws[i].w.ses D.ws[i].w.num 4 D.ws[i].w.off D.ws[i].w.nxt) hi rfl (by decide) rfl fun w21 ws1 hws1 hi1 hl1 hg1 l8 on8 => ?_)
      rw [if_neg (by rw [c5]; decide)] at hr
      have hM : Made m D w (D.pure.ends (i : Int) ses commit off).1 w21 := by
       rw [hr]
       exact Made.setW h hkP hi (D.ws[i].up D.ws[i].w.ses D.ws[i].w.num 4 D.ws[i].w.off D.ws[i].w.nxt) (S := OwnB (.slice D.WA D.ws.length D.wc)) (W' := w21) (by rw [hwP]; exact kpc) (fun k _ e => .inl (ownB_blk.1 e)) (by have := (OwnI.own : World.ownsRow w21 _ _ _ (.slice D.WA _ D.wc) _ _); rw [hws1] at this; exact this) (OwnI.own : World.ownsRow w21 _ _ _ (.slice D.ws[i].A _ _) _ _) (.inl rfl)
      refine xl_nil ?_
      refine x_seq ?_
      refine x_regionL ?_
      refine xl_v v_assign ?_
      refine xl_nil ?_
      refine x_ret ?_
      refine fin1 rfl ?_
      exact ⟨by rw [hr2], hM, lkc⟩
end Go.Proofs.Ytnjpladlfiaojaa
