/-
 Walks, printed by a program of this workplace (wip/tools/sx.py) off the functions' code and a text of contracts.
-/
import Derived.Test.YtnjpladlfiaojaaE
set_option linter.all false
set_option maxRecDepth 100000
set_option synthInstance.maxSize 100000
set_option synthInstance.maxHeartbeats 400000
namespace Go.Proofs.Ytnjpladlfiaojaa
open Go.Wst
open Go.Wst.Ct
section
variable {P : Program} {N : Nat} {τ : Tau} {w : World} {ty : TypeId} {v : Value} {α : Type} {enc : α → List Value} {t e : TypeId} {x y : Operand} {base sz n cap k o bytes : Nat} {z : Value} {A : Option Addr} {xs : List α} {G : World → Prop}
/-- A store into a field, with a name for what stands then. -/
theorem e_storeG [hx : EvO N τ x (padd A (k * sz + o))] [hy : EvO N τ y v] [h1 : Cell1 v] [hi : Inf P t 1 bytes z] [hown : OwnI w A n cap base e sz n (xs.flatMap enc)] [he : EncN enc sz] (u : α) (hk : k < xs.length) (hl : xs.length = n) (ho : o < sz) (hu : setL (enc xs[k]) o [v] = enc u)
  (h : ∀ (w' : World) (ys : List α) (hys : ys = xs.set k u) (hk' : k < ys.length) (hl' : ys.length = n) (hg : ys[k] = u), Lk w' w (OwnB (.slice A n cap)) → OwnI w' A n cap base e sz n (ys.flatMap enc) → G w') : EffS P N (OwnB (.slice A n cap)) (.store t x y) ty τ w G :=
 e_storeF u hk hl ho hu fun w' lk ow => h w' _ rfl (by simpa using hk) (by simpa using hl) (by simp) lk ow
theorem e_storeG0 [hx : EvO N τ x (padd A (k * sz))] [hy : EvO N τ y v] [h1 : Cell1 v] [hi : Inf P t 1 bytes z] [hown : OwnI w A n cap base e sz n (xs.flatMap enc)] [he : EncN enc sz] (u : α) (hk : k < xs.length) (hl : xs.length = n) (ho : 0 < sz) (hu : setL (enc xs[k]) 0 [v] = enc u)
  (h : ∀ (w' : World) (ys : List α) (hys : ys = xs.set k u) (hk' : k < ys.length) (hl' : ys.length = n) (hg : ys[k] = u), Lk w' w (OwnB (.slice A n cap)) → OwnI w' A n cap base e sz n (ys.flatMap enc) → G w') : EffS P N (OwnB (.slice A n cap)) (.store t x y) ty τ w G :=
 e_storeF0 u hk hl ho hu fun w' lk ow => h w' _ rfl (by simpa using hk) (by simpa using hl) (by simp) lk ow
end
abbrev LW.up (x : LW) (ses num st off nxt : Int) : LW := ⟨⟨ses, num, st, x.w.parts, off, nxt⟩, x.A, x.c⟩
theorem ptW {w : World} {A : Option Addr} {xs : List LW} {k : Nat} [h : Row w A (xs.flatMap wrC)] (hk : k < xs.length) (o : Nat) (a : Int) (hv : (wrC xs[k])[o]? = some (.int .i64 a)) : PtAt w (A, k * 6 + o, a) := ⟨_, h.row, flat_get (enc := wrC) (fun _ => rfl) xs k hk o _ hv⟩
theorem ptV {w : World} {A : Option Addr} {xs : List LV} {k : Nat} [h : Row w A (xs.flatMap viewC)] (hk : k < xs.length) (o : Nat) (a : Int) (hv : (viewC xs[k])[o]? = some (.int .i64 a)) : PtAt w (A, k * 4 + o, a) := ⟨_, h.row, flat_get (enc := viewC) (fun _ => rfl) xs k hk o _ hv⟩
theorem forall1 {α : Type} {Q : α → Prop} {a : α} (h : Q a) : ∀ p ∈ [a], Q p := fun p hp => by rw [List.mem_singleton.1 hp]; exact h
theorem forall2 {α : Type} {Q : α → Prop} {a b : α} (h : Q a) (k : Q b) : ∀ p ∈ [a, b], Q p := fun p hp => by
 rcases List.mem_cons.1 hp with rfl | hp
 ·exact h
 ·rw [List.mem_singleton.1 hp]; exact k

/-- (*waystation/meta.Meta).Init -/
theorem init_ok (m : Nat) (D : LMeta) (b : Int) (w : World) (h : MetaAt w m D) (hok : D.pure.ok) : Ret Try.prog 24 #[.pointer (some ⟨m, 0, none⟩), .int .i64 b] w (fun v w' => v = .tuple #[.int .i64 (D.pure.init b).2.1, .int .i64 (D.pure.init b).2.2] ∧ Made m D w (D.pure.init b).1 w' ∧ Lk w' w (MetaB m D)) := by
 haveI hb : Blk w m _ := ⟨h.hb⟩
 have hmost : most = 2147483647 := rfl
 haveI hW : OwnI w D.WA _ _ _ _ _ _ _ := ⟨h.wrs⟩
 obtain ⟨hll, hvl, hwl, _, _, _⟩ := lens hok
 refine ret_of_x (N := 56) (l := [.pointer (some ⟨m, 0, none⟩), .int .i64 b]) Try.func24 rfl rfl (Nat.le_of_ble_eq_true rfl) ?_
 refine x_seq ?_
 refine x_regionL ?_
 refine xl_v v_assign ?_
 refine xl_v v_assign ?_
 refine xl_nil ?_
 refine x_seq ?_
 refine x_seq ?_
 refine x_regionL ?_
 refine xl_v v_move ?_
 refine xl_call (isNone_ok m D w (h.ext (kpc : Keep NoB w w))) ?_
 rintro _ w1 ⟨⟨x1, rfl, hw1, hb1, hc1⟩, lk1⟩
 refine xl_v v_move ?_
 refine xl_v v_move ?_
 refine xl_call (id_ok m D b w1 (h.ext (kpc : Keep NoB w w1))) ?_
 rintro _ w2 ⟨⟨x2, rfl, hw2, hb2, hc2⟩, lk2⟩
 refine xl_e (e_buildSliceM (vs := [x1, x2].flatMap chkC) rfl rfl rfl fun b5 w3 n5 l5 k5 => ?_)
 refine xl_call (first2_ok _ _ x1 x2 w3 (hc1.ext lkc) (fun _ => hc2.ext lkc) (if inN b D.ni then 0 else 2) (by rw [hb1, hb2, hw2, decide_eq_false (by omega)]; by_cases e : inN b D.ni <;> simp [e])) ?_
 rintro _ w4 ⟨rfl, lk3⟩
 refine xl_v v_assign ?_
 refine xl_nil ?_
 refine x_seq ?_
 refine x_regionL ?_
 refine xl_v v_move ?_
 refine xl_v v_neq ?_
 refine xl_nil ?_
 first | refine x_condP (fun c1 => ?_) (fun c1 => ?_) | refine x_condN (fun c1 => ?_) (fun c1 => ?_) | refine x_condE (fun c1 => ?_) (fun c1 => ?_)
 ·
  have hn : ¬ inN b D.ni := fun e => by simp [e] at c1
  have hr : D.pure.init b = (D.pure, 0, 2) := if_pos hn
  refine x_seq ?_
  refine x_regionL ?_
  refine xl_v v_move ?_
  refine xl_v v_assign ?_
  refine xl_v v_assign ?_
  refine xl_nil ?_
  refine x_ret ?_
  refine fin2 rfl ?_
  exact ⟨by rw [hr, if_neg hn], Made.stay h kpc (by rw [hr]), lkc⟩
 ·
  have hn : inN b D.ni := Classical.byContradiction fun e => by simp [e] at c1
  have hr : D.pure.init b = _ := if_neg (fun e => e hn)
  obtain ⟨i, rfl, hi⟩ := nat_of hn
  have hi : i < D.ws.length := by omega
  have ho := hok.wr hn
  rw [wr_at hi] at hr ho
  have hs0 := ho.s0
  have hs1 := ho.s1
  have hst := ho.st
  have hi' : D.ws[i]? = some D.ws[i] := List.getElem?_eq_getElem hi
  have hWA : D.WA.isSome = true := row_some (w := w) (A := D.WA) (cs := D.ws.flatMap wrC) inferInstance (by rw [flat_len (sz := 6) (fun _ => rfl)]; omega)
  haveI apw : ApA D.WA D.ws[i].A := h.ap (s := .w) (t := .wi i) rfl (addr_wi hi') nofun
  haveI apm : ApB D.WA m := h.apm (s := .w) rfl nofun
  haveI hPt : OwnI w D.ws[i].A _ _ _ _ _ _ _ := ⟨h.parts i _ hi'⟩
  refine x_skip ?_
  refine x_seq ?_
  refine x_regionL ?_
  refine xl_v v_move ?_
  refine xl_Nc ?_
  refine xl_Fa ?_
  refine xl_Ld ?_
  refine xl_v v_move ?_
  refine xl_v (v_indexF i (by decide) rfl (by omega) hi) ?_
  refine xl_v v_assign ?_
  refine xl_nil ?_
  refine x_seq ?_
  refine x_seq ?_
  refine x_drawL (NoB) (allS) (.take 0 (.take 2 (.take 3 (.take 4 (.fork 1 (.eff 5 (.eff 6 (.eff 7 (.eff 8 (.take 9 .done))))) 5 (.eff 1 (.eff 6 (.eff 7 (.eff 8 (.take 9 .done)))))))))) mixed (by kernel_rfl) (fun _ _ _ _ _ h => h) (fun w5 l5 => ?_)
  refine xt_v rfl v_move ?_
  refine xt_v rfl v_move ?_
  refine xt_Nc rfl ?_
  refine xt_Fa rfl ?_
  refine xt_fork ?_ ?_
  ·
   refine xt_call rfl (busy_ok D.WA i D.ws w5 hi) ?_
   rintro _ w6 ⟨⟨x3, rfl, hw3, hb3, hc3⟩, lk4⟩
   refine ⟨kpc, ?_⟩
   refine xt_e rfl (e_buildSlice1 rfl fun b6 w7 n6 l6 k6 => ?_)
   haveI : Row w7 (some ⟨b6, 0, none⟩) (([(D.WA, i * 6 + 0, D.ws[i].w.ses)] : List PtI).map ptC) := ⟨row_blk Blk.eq⟩
   refine xt_call rfl (end_ok _ 1 _ [(D.WA, i * 6 + 0, D.ws[i].w.ses)] w7 rfl (by omega) (forall1 (ptW hi 0 _ rfl))) ?_
   rintro _ w8 ⟨⟨x4, rfl, hw4, hb4, hc4⟩, lk5⟩
   refine ⟨kpc, ?_⟩
   refine xt_e rfl (e_buildSliceM (vs := [x3, x4].flatMap chkC) rfl rfl rfl fun b7 w9 n7 l7 k7 => ?_)
   refine xt_call rfl (first2_ok _ _ x3 x4 w9 (hc3.ext lkc) (fun _ => hc4.ext lkc) (if 3 ≤ D.ws[i].w.st then 203 else if D.ws[i].w.ses = most then 204 else 0) (by
     rw [hb3, hb4, hw3, hw4]
     by_cases e : 3 ≤ D.ws[i].w.st
     ·simp [e, hst.2]
     ·simp only [e, false_and, decide_false, List.any_cons, List.any_nil, Bool.or_false, if_false]
      by_cases e2 : D.ws[i].w.ses = most
      ·simp [e2]
      ·have e3 : ¬ most ≤ D.ws[i].w.ses := by omega
       simp [e2, e3])) ?_
   rintro _ w10 ⟨rfl, lk6⟩
   refine ⟨kpc, ?_⟩
   refine xt_v rfl v_assign ?_
   refine xt_nil ?_
   refine x_seq ?_
   refine x_regionL ?_
   refine xl_v v_move ?_
   refine xl_v v_neq ?_
   refine xl_nil ?_
   first | refine x_condP (fun c2 => ?_) (fun c2 => ?_) | refine x_condN (fun c2 => ?_) (fun c2 => ?_) | refine x_condE (fun c2 => ?_) (fun c2 => ?_)
   ·
    have hE : D.pure.init (i : Int) = (D.pure, 0, if 3 ≤ D.ws[i].w.st then 203 else if D.ws[i].w.ses = most then 204 else 0) := by
     rw [hr]
     split
     ·rfl
     ·next e =>
      rw [if_neg e] at c2
      split
      ·rfl
      ·next e2 => simp [e2] at c2
    refine x_seq ?_
    refine x_regionL ?_
    refine xl_v v_move ?_
    refine xl_v v_assign ?_
    refine xl_v v_assign ?_
    refine xl_nil ?_
    refine x_ret ?_
    refine fin2 rfl ?_
    exact ⟨by rw [hE], Made.stay h kpc (by rw [hE]), lkc⟩
   ·
    have e1 : ¬ 3 ≤ D.ws[i].w.st := fun e => by simp [e] at c2
    have e2 : ¬ D.ws[i].w.ses = most := fun e => by simp [e1, e] at c2
    rw [if_neg e1, if_neg e2] at hr
    refine x_skip ?_
    refine x_seq ?_
    obtain ⟨wP, hwP⟩ : ∃ x, x = w10 := ⟨_, rfl⟩
    have hkP : Keep NoB w wP := by rw [hwP]; exact kpc
    refine x_regionL ?_
    refine xl_v v_move ?_
    refine xl_Nc ?_
    refine xl_Fa ?_
    refine xl_Ld ?_
    refine xl_v (v_add (by omega)) ?_
    refine xl_Nc ?_
    refine xl_Fa ?_
    refine xl_s (e_storeG0 (D.ws[i].up (D.ws[i].w.ses + 1) D.ws[i].w.num D.ws[i].w.st D.ws[i].w.off D.ws[i].w.nxt) hi rfl (by decide) rfl fun w11 ws1 hws1 hi1 hl1 hg1 l9 on9 => ?_)
    refine xl_nil ?_
    refine x_seq ?_
    refine x_seq ?_
    refine x_regionL ?_
    refine xl_v v_move ?_
    refine xl_Nc ?_
    refine xl_Fa ?_
    refine xl_Ld ?_
    refine xl_v v_eql ?_
    refine xl_nil ?_
    first | refine x_condP (fun c3 => ?_) (fun c3 => ?_) | refine x_condN (fun c3 => ?_) (fun c3 => ?_) | refine x_condE (fun c3 => ?_) (fun c3 => ?_)
    ·
     have hs2 : D.ws[i].w.st = 2 := by rw [hg1] at c3; exact c3
     refine x_seq ?_
     refine x_regionL ?_
     refine xl_v v_move ?_
     refine xl_Nc ?_
     refine xl_Fa ?_
     refine xl_s (e_storeG (D.ws[i].up (D.ws[i].w.ses + 1) D.ws[i].w.num 4 D.ws[i].w.off D.ws[i].w.nxt) hi1 hl1 (by decide) (by rw [hg1]; rfl) fun w12 ws2 hws2 hi2 hl2 hg2 l10 on10 => ?_)
     rw [hws1, List.set_set] at hws2
     refine xl_nil ?_
     refine x_seq ?_
     refine x_regionL ?_
     refine xl_v v_assign ?_
     refine xl_v v_assign ?_
     refine xl_nil ?_
     refine x_ret ?_
     refine fin2 rfl ?_
     rw [if_pos hs2] at hr
     refine ⟨by rw [hr], ?_, lkc⟩
     rw [hr]
     exact Made.setW h hkP hi (D.ws[i].up (D.ws[i].w.ses + 1) D.ws[i].w.num 4 D.ws[i].w.off D.ws[i].w.nxt) (S := OwnB (.slice D.WA D.ws.length D.wc)) (W' := w12) (by rw [hwP]; exact kpc) (fun k _ e => .inl (ownB_blk.1 e)) (by have := (OwnI.own : World.ownsRow w12 _ _ _ (.slice D.WA _ D.wc) _ _); rw [hws2] at this; exact this) (OwnI.own : World.ownsRow w12 _ _ _ (.slice D.ws[i].A _ _) _ _) (.inl rfl)
    ·
     have hs2 : ¬ D.ws[i].w.st = 2 := by rw [hg1] at c3; exact c3
     refine x_skip ?_
     refine x_seq ?_
     refine x_regionL ?_
     refine xl_v v_move ?_
     refine xl_Nc ?_
     refine xl_Fa ?_
     refine xl_v (v_congr (u := .int .i64 (D.ws[i].w.ses + 1)) (v_loadF0 hi1) (by rw [hg1])) ?_
     refine xl_v v_assign ?_
     refine xl_v v_assign ?_
     refine xl_nil ?_
     refine x_ret ?_
     refine fin2 rfl ?_
     rw [if_neg hs2] at hr
     refine ⟨by rw [hr], ?_, lkc⟩
     rw [hr]
     exact Made.setW h hkP hi (D.ws[i].up (D.ws[i].w.ses + 1) D.ws[i].w.num D.ws[i].w.st D.ws[i].w.off D.ws[i].w.nxt) (S := OwnB (.slice D.WA D.ws.length D.wc)) (W' := w11) (by rw [hwP]; exact kpc) (fun k _ e => .inl (ownB_blk.1 e)) (by have := (OwnI.own : World.ownsRow w11 _ _ _ (.slice D.WA _ D.wc) _ _); rw [hws1] at this; exact this) (OwnI.own : World.ownsRow w11 _ _ _ (.slice D.ws[i].A _ _) _ _) (.inl rfl)
  ·
   refine xt_e rfl (e_buildSlice1 rfl fun b6 w13 n6 l6 k6 => ?_)
   haveI : Row w13 (some ⟨b6, 0, none⟩) (([(D.WA, i * 6 + 0, D.ws[i].w.ses)] : List PtI).map ptC) := ⟨row_blk Blk.eq⟩
   refine xt_call rfl (busy_ok D.WA i D.ws w13 hi) ?_
   rintro _ w14 ⟨⟨x3, rfl, hw3, hb3, hc3⟩, lk4⟩
   refine ⟨kpc, ?_⟩
   refine xt_call rfl (end_ok _ 1 _ [(D.WA, i * 6 + 0, D.ws[i].w.ses)] w14 rfl (by omega) (forall1 (ptW hi 0 _ rfl))) ?_
   rintro _ w15 ⟨⟨x4, rfl, hw4, hb4, hc4⟩, lk5⟩
   refine ⟨kpc, ?_⟩
   refine xt_e rfl (e_buildSliceM (vs := [x3, x4].flatMap chkC) rfl rfl rfl fun b7 w16 n7 l7 k7 => ?_)
   refine xt_call rfl (first2_ok _ _ x3 x4 w16 (hc3.ext lkc) (fun _ => hc4.ext lkc) (if 3 ≤ D.ws[i].w.st then 203 else if D.ws[i].w.ses = most then 204 else 0) (by
     rw [hb3, hb4, hw3, hw4]
     by_cases e : 3 ≤ D.ws[i].w.st
     ·simp [e, hst.2]
     ·simp only [e, false_and, decide_false, List.any_cons, List.any_nil, Bool.or_false, if_false]
      by_cases e2 : D.ws[i].w.ses = most
      ·simp [e2]
      ·have e3 : ¬ most ≤ D.ws[i].w.ses := by omega
       simp [e2, e3])) ?_
   rintro _ w17 ⟨rfl, lk6⟩
   refine ⟨kpc, ?_⟩
   refine xt_v rfl v_assign ?_
   refine xt_nil ?_
   refine x_seq ?_
   refine x_regionL ?_
   refine xl_v v_move ?_
   refine xl_v v_neq ?_
   refine xl_nil ?_
   first | refine x_condP (fun c2 => ?_) (fun c2 => ?_) | refine x_condN (fun c2 => ?_) (fun c2 => ?_) | refine x_condE (fun c2 => ?_) (fun c2 => ?_)
   ·
    have hE : D.pure.init (i : Int) = (D.pure, 0, if 3 ≤ D.ws[i].w.st then 203 else if D.ws[i].w.ses = most then 204 else 0) := by
     rw [hr]
     split
     ·rfl
     ·next e =>
      rw [if_neg e] at c2
      split
      ·rfl
      ·next e2 => simp [e2] at c2
    refine x_seq ?_
    refine x_regionL ?_
    refine xl_v v_move ?_
    refine xl_v v_assign ?_
    refine xl_v v_assign ?_
    refine xl_nil ?_
    refine x_ret ?_
    refine fin2 rfl ?_
    exact ⟨by rw [hE], Made.stay h kpc (by rw [hE]), lkc⟩
   ·
    have e1 : ¬ 3 ≤ D.ws[i].w.st := fun e => by simp [e] at c2
    have e2 : ¬ D.ws[i].w.ses = most := fun e => by simp [e1, e] at c2
    rw [if_neg e1, if_neg e2] at hr
    refine x_skip ?_
    refine x_seq ?_
    obtain ⟨wP, hwP⟩ : ∃ x, x = w17 := ⟨_, rfl⟩
    have hkP : Keep NoB w wP := by rw [hwP]; exact kpc
    refine x_regionL ?_
    refine xl_v v_move ?_
    refine xl_Nc ?_
    refine xl_Fa ?_
    refine xl_Ld ?_
    refine xl_v (v_add (by omega)) ?_
    refine xl_Nc ?_
    refine xl_Fa ?_
    refine xl_s (e_storeG0 (D.ws[i].up (D.ws[i].w.ses + 1) D.ws[i].w.num D.ws[i].w.st D.ws[i].w.off D.ws[i].w.nxt) hi rfl (by decide) rfl fun w18 ws1 hws1 hi1 hl1 hg1 l9 on9 => ?_)
    refine xl_nil ?_
    refine x_seq ?_
    refine x_seq ?_
    refine x_regionL ?_
    refine xl_v v_move ?_
    refine xl_Nc ?_
    refine xl_Fa ?_
    refine xl_Ld ?_
    refine xl_v v_eql ?_
    refine xl_nil ?_
    first | refine x_condP (fun c3 => ?_) (fun c3 => ?_) | refine x_condN (fun c3 => ?_) (fun c3 => ?_) | refine x_condE (fun c3 => ?_) (fun c3 => ?_)
    ·
     have hs2 : D.ws[i].w.st = 2 := by rw [hg1] at c3; exact c3
     refine x_seq ?_
     refine x_regionL ?_
     refine xl_v v_move ?_
     refine xl_Nc ?_
     refine xl_Fa ?_
     refine xl_s (e_storeG (D.ws[i].up (D.ws[i].w.ses + 1) D.ws[i].w.num 4 D.ws[i].w.off D.ws[i].w.nxt) hi1 hl1 (by decide) (by rw [hg1]; rfl) fun w19 ws2 hws2 hi2 hl2 hg2 l10 on10 => ?_)
     rw [hws1, List.set_set] at hws2
     refine xl_nil ?_
     refine x_seq ?_
     refine x_regionL ?_
     refine xl_v v_assign ?_
     refine xl_v v_assign ?_
     refine xl_nil ?_
     refine x_ret ?_
     refine fin2 rfl ?_
     rw [if_pos hs2] at hr
     refine ⟨by rw [hr], ?_, lkc⟩
     rw [hr]
     exact Made.setW h hkP hi (D.ws[i].up (D.ws[i].w.ses + 1) D.ws[i].w.num 4 D.ws[i].w.off D.ws[i].w.nxt) (S := OwnB (.slice D.WA D.ws.length D.wc)) (W' := w19) (by rw [hwP]; exact kpc) (fun k _ e => .inl (ownB_blk.1 e)) (by have := (OwnI.own : World.ownsRow w19 _ _ _ (.slice D.WA _ D.wc) _ _); rw [hws2] at this; exact this) (OwnI.own : World.ownsRow w19 _ _ _ (.slice D.ws[i].A _ _) _ _) (.inl rfl)
    ·
     have hs2 : ¬ D.ws[i].w.st = 2 := by rw [hg1] at c3; exact c3
     refine x_skip ?_
     refine x_seq ?_
     refine x_regionL ?_
     refine xl_v v_move ?_
     refine xl_Nc ?_
     refine xl_Fa ?_
     refine xl_v (v_congr (u := .int .i64 (D.ws[i].w.ses + 1)) (v_loadF0 hi1) (by rw [hg1])) ?_
     refine xl_v v_assign ?_
     refine xl_v v_assign ?_
     refine xl_nil ?_
     refine x_ret ?_
     refine fin2 rfl ?_
     rw [if_neg hs2] at hr
     refine ⟨by rw [hr], ?_, lkc⟩
     rw [hr]
     exact Made.setW h hkP hi (D.ws[i].up (D.ws[i].w.ses + 1) D.ws[i].w.num D.ws[i].w.st D.ws[i].w.off D.ws[i].w.nxt) (S := OwnB (.slice D.WA D.ws.length D.wc)) (W' := w18) (by rw [hwP]; exact kpc) (fun k _ e => .inl (ownB_blk.1 e)) (by have := (OwnI.own : World.ownsRow w18 _ _ _ (.slice D.WA _ D.wc) _ _); rw [hws1] at this; exact this) (OwnI.own : World.ownsRow w18 _ _ _ (.slice D.ws[i].A _ _) _ _) (.inl rfl)
end Go.Proofs.Ytnjpladlfiaojaa
