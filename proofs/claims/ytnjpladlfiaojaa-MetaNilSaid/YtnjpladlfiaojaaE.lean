/-
 Walks, printed by a program of this workplace (wip/tools/sx.py) off the functions' code and a text of contracts.
-/
import Derived.Test.YtnjpladlfiaojaaD
set_option linter.all false
set_option maxRecDepth 100000
set_option synthInstance.maxSize 100000
set_option synthInstance.maxHeartbeats 400000
namespace Go.Proofs.Ytnjpladlfiaojaa
open Go.Wst
open Go.Wst.Ct
theorem lens {D : LMeta} (hok : D.pure.ok) : D.lives.length = D.nb ∧ D.vs.length = D.np ∧ D.ws.length = D.ni ∧ (1 ≤ D.nb ∧ D.nb ≤ 4) ∧ (1 ≤ D.np ∧ D.np ≤ 4) ∧ (1 ≤ D.ni ∧ D.ni ≤ 4) :=
 ⟨hok.ll, by have := hok.vl; simpa [LMeta.pure] using this, by have := hok.wl; simpa [LMeta.pure] using this, hok.b, hok.p, hok.i⟩
instance subF_mL (m : Nat) (D : LMeta) (n c : Nat) (w : World) : SubF (OwnB (.slice D.LA n c)) (MetaB m D) w := ⟨fun k _ e => ⟨.l, ownB_blk.1 e⟩⟩
instance subF_mV (m : Nat) (D : LMeta) (n c : Nat) (w : World) : SubF (OwnB (.slice D.VA n c)) (MetaB m D) w := ⟨fun k _ e => ⟨.v, ownB_blk.1 e⟩⟩
instance subF_mW (m : Nat) (D : LMeta) (n c : Nat) (w : World) : SubF (OwnB (.slice D.WA n c)) (MetaB m D) w := ⟨fun k _ e => ⟨.w, ownB_blk.1 e⟩⟩
theorem subF_vi {m : Nat} {D : LMeta} {i : Nat} {x : LV} (hx : D.vs[i]? = some x) (n c : Nat) (w : World) : SubF (OwnB (.slice x.A n c)) (MetaB m D) w := ⟨fun k _ e => ⟨.vi i, (addr_vi hx).trans (ownB_blk.1 e)⟩⟩
theorem subF_wi {m : Nat} {D : LMeta} {i : Nat} {x : LW} (hx : D.ws[i]? = some x) (n c : Nat) (w : World) : SubF (OwnB (.slice x.A n c)) (MetaB m D) w := ⟨fun k _ e => ⟨.wi i, (addr_wi hx).trans (ownB_blk.1 e)⟩⟩
/-- What a call made of a controller. -/
def Made (m : Nat) (D : LMeta) (w : World) (M : Meta) (w' : World) : Prop := ∃ D' : LMeta, MetaAt w' m D' ∧ D'.pure = M ∧ ∀ k, MetaB m D' k → MetaB m D k ∨ w.heap.size ≤ k
theorem Made.stay {m : Nat} {D : LMeta} {w w' : World} {M : Meta} (h : MetaAt w m D) (hk : Keep NoB w w') (he : M = D.pure) : Made m D w M w' := ⟨D, h.ext hk, he.symm, fun k e => .inl e⟩
theorem nat_of {b : Int} {n : Nat} (h : inN b n) : ∃ i : Nat, b = i ∧ i < n := ⟨b.toNat, by have := h.1; omega, by have := h.1; have := h.2; omega⟩
theorem growV {m i : Nat} {D : LMeta} {w : World} {x y : LV} (hi : D.vs[i]? = some y) (hx : blkA x.A = blkA y.A ∨ ∀ k, blkA x.A = some k → w.heap.size ≤ k) : ∀ k, MetaB m { D with vs := D.vs.set i x } k → MetaB m D k ∨ w.heap.size ≤ k := by
 have hil : i < D.vs.length := (List.getElem?_eq_some_iff.1 hi).1
 rintro k ⟨s, hs⟩
 by_cases e : s = .vi i
 ·subst e
  have h1 : LMeta.addr m { D with vs := D.vs.set i x } (.vi i) = blkA x.A := by simp [LMeta.addr, List.getElem?_set_self hil]
  rw [h1] at hs
  rcases hx with hx | hx
  ·exact .inl ⟨.vi i, (addr_vi hi).trans (hx ▸ hs)⟩
  ·exact .inr (hx k hs)
 ·refine .inl ⟨s, ?_⟩
  cases s with
  | vi j =>
   have hne : i ≠ j := fun e2 => e (by rw [e2])
   simpa [LMeta.addr, List.getElem?_set_ne hne] using hs
  | _ => exact hs
theorem growW {m i : Nat} {D : LMeta} {w : World} {x y : LW} (hi : D.ws[i]? = some y) (hx : blkA x.A = blkA y.A ∨ ∀ k, blkA x.A = some k → w.heap.size ≤ k) : ∀ k, MetaB m { D with ws := D.ws.set i x } k → MetaB m D k ∨ w.heap.size ≤ k := by
 have hil : i < D.ws.length := (List.getElem?_eq_some_iff.1 hi).1
 rintro k ⟨s, hs⟩
 by_cases e : s = .wi i
 ·subst e
  have h1 : LMeta.addr m { D with ws := D.ws.set i x } (.wi i) = blkA x.A := by simp [LMeta.addr, List.getElem?_set_self hil]
  rw [h1] at hs
  rcases hx with hx | hx
  ·exact .inl ⟨.wi i, (addr_wi hi).trans (hx ▸ hs)⟩
  ·exact .inr (hx k hs)
 ·refine .inl ⟨s, ?_⟩
  cases s with
  | wi j =>
   have hne : i ≠ j := fun e2 => e (by rw [e2])
   simpa [LMeta.addr, List.getElem?_set_ne hne] using hs
  | _ => exact hs
/-- A view, a writing, changed. -/
theorem Made.setV {m : Nat} {D : LMeta} {w W W' : World} {S : Nat → Prop} (h : MetaAt w m D) (hw : Keep NoB w W) {i : Nat} (hi : i < D.vs.length) (x : LV) (hk : Keep S W W') (hS : ∀ k, k < W.heap.size → S k → blkA D.VA = some k ∨ blkA D.vs[i].A = some k)
  (hrow : W'.ownsRow 0 44 4 (.slice D.VA D.vs.length D.vc) D.vs.length ((D.vs.set i x).flatMap viewC)) (hown : W'.ownsRow 0 3 1 (.slice x.A x.v.isr.length x.c) x.v.isr.length (ints x.v.isr)) (hx : blkA x.A = blkA D.vs[i].A ∨ ∀ k, blkA x.A = some k → W.heap.size ≤ k) : Made m D w (D.pure.setV i x.v) W' := by
 have hi' : D.vs[i]? = some D.vs[i] := List.getElem?_eq_getElem hi
 refine ⟨_, (h.ext hw).setV hi' x hk hS hrow hown hx, ?_, growV hi' (hx.imp id (fun h k e => Nat.le_trans hw.size (h k e)))⟩
 simp [LMeta.pure, Meta.setV, List.map_set]
theorem Made.setW {m : Nat} {D : LMeta} {w W W' : World} {S : Nat → Prop} (h : MetaAt w m D) (hw : Keep NoB w W) {i : Nat} (hi : i < D.ws.length) (x : LW) (hk : Keep S W W') (hS : ∀ k, k < W.heap.size → S k → blkA D.WA = some k ∨ blkA D.ws[i].A = some k)
  (hrow : W'.ownsRow 0 52 6 (.slice D.WA D.ws.length D.wc) D.ws.length ((D.ws.set i x).flatMap wrC)) (hown : W'.ownsRow 0 3 1 (.slice x.A x.w.parts.length x.c) x.w.parts.length (ints x.w.parts)) (hx : blkA x.A = blkA D.ws[i].A ∨ ∀ k, blkA x.A = some k → W.heap.size ≤ k) : Made m D w (D.pure.setW i x.w) W' := by
 have hi' : D.ws[i]? = some D.ws[i] := List.getElem?_eq_getElem hi
 refine ⟨_, (h.ext hw).setW hi' x hk hS hrow hown hx, ?_, growW hi' (hx.imp id (fun h k e => Nat.le_trans hw.size (h k e)))⟩
 simp [LMeta.pure, Meta.setW, List.map_set]
theorem view_at {D : LMeta} {i : Nat} (hi : i < D.vs.length) : D.pure.view i = D.vs[i].v := by
 simp [Meta.view, LMeta.pure, hi]
theorem wr_at {D : LMeta} {i : Nat} (hi : i < D.ws.length) : D.pure.wr i = D.ws[i].w := by
 simp [Meta.wr, LMeta.pure, hi]
theorem live_at2 {D : LMeta} {i : Nat} (hi : i < D.lives.length) : D.pure.live i = D.lives[i] := by
 simp [Meta.live, LMeta.pure, hi]
theorem setL_map {α : Type} (enc : α → Value) (xs : List α) (k : Nat) (x : α) (h : k < xs.length) : setL (xs.map enc) (k * 1) [enc x] = (xs.set k x).map enc := Go.Wst.setL_map enc xs k x h

/-- (*waystation/meta.Meta).Register -/
theorem register_ok (m : Nat) (D : LMeta) (b : Int) (w : World) (h : MetaAt w m D) (hok : D.pure.ok) : Ret Try.prog 29 #[.pointer (some ⟨m, 0, none⟩), .int .i64 b] w (fun v w' => v = .int .i64 (D.pure.register b).2 ∧ Made m D w (D.pure.register b).1 w' ∧ Lk w' w (MetaB m D)) := by
 haveI hb : Blk w m _ := ⟨h.hb⟩
 haveI hL : OwnI w D.LA _ _ _ _ _ _ _ := ⟨h.lives⟩
 obtain ⟨hll, hvl, hwl, _, _, _⟩ := lens hok
 refine ret_of_x (N := 22) (l := [.pointer (some ⟨m, 0, none⟩), .int .i64 b]) Try.func29 rfl rfl (Nat.le_of_ble_eq_true rfl) ?_
 refine x_seq ?_
 refine x_regionL ?_
 refine xl_v v_assign ?_
 refine xl_nil ?_
 refine x_seq ?_
 refine x_seq ?_
 refine x_regionL ?_
 refine xl_v v_move ?_
 refine xl_call (isNone_ok m D w (h.ext (kpc : Keep NoB w w))) ?_
 rintro _ w1 ⟨⟨x1, rfl, hw1, hb1, hc1⟩, lk1⟩
 refine xl_v v_move ?_
 refine xl_v v_move ?_
 refine xl_call (broker_ok m D b w1 (h.ext (kpc : Keep NoB w w1))) ?_
 rintro _ w2 ⟨⟨x2, rfl, hw2, hb2, hc2⟩, lk2⟩
 refine xl_e (e_buildSliceM (vs := [x1, x2].flatMap chkC) rfl rfl rfl fun b5 w3 n5 l5 k5 => ?_)
 refine xl_call (first2_ok _ _ x1 x2 w3 (hc1.ext lkc) (fun _ => hc2.ext lkc) (if inN b D.nb then 0 else 2) (by rw [hb1, hb2, hw2, decide_eq_false (by omega)]; by_cases e : inN b D.nb <;> simp [e])) ?_
 rintro _ w4 ⟨rfl, lk3⟩
 refine xl_v v_assign ?_
 refine xl_nil ?_
 refine x_seq ?_
 refine x_regionL ?_
 refine xl_v v_move ?_
 refine xl_v v_neq ?_
 refine xl_nil ?_
 first | refine x_condP (fun c1 => ?_) (fun c1 => ?_) | refine x_condN (fun c1 => ?_) (fun c1 => ?_) | refine x_condE (fun c1 => ?_) (fun c1 => ?_)
 ·
  have hn : ¬ inN b D.nb := fun e => by simp [e] at c1
  have hr : D.pure.register b = (D.pure, 2) := if_pos hn
  refine x_seq ?_
  refine x_regionL ?_
  refine xl_v v_move ?_
  refine xl_v v_assign ?_
  refine xl_nil ?_
  refine x_ret ?_
  refine fin1 rfl ?_
  refine ⟨by rw [hr, if_neg hn], Made.stay h kpc (by rw [hr]), lkc⟩
 ·
  have hn : inN b D.nb := Classical.byContradiction fun e => by simp [e] at c1
  have hr : D.pure.register b = (D.pure.setL b true, 0) := if_neg (fun e => e hn)
  obtain ⟨i, rfl, hi⟩ := nat_of hn
  refine x_skip ?_
  refine x_seq ?_
  refine x_regionL ?_
  refine xl_v v_move ?_
  refine xl_Nc ?_
  refine xl_Fa ?_
  refine xl_Ld ?_
  refine xl_v v_move ?_
  refine xl_v (v_indexO i rfl (by omega) (by omega)) ?_
  have hkP : Keep NoB w w4 := kpc
  refine xl_s (e_storeOwn OwnI.own (by omega) (by decide) fun w5 l6 ho6 => ?_)
  rw [setL_map Value.bool D.lives i true (by omega)] at ho6
  have hM : Made m D w (D.pure.setL i true) w5 := ⟨{ D with lives := D.lives.set i true }, (h.ext hkP).setL _ (by simp) l6.keep (fun k _ e => ownB_blk.1 e) ho6, rfl, fun k e => .inl (by obtain ⟨s, hs⟩ := e; exact ⟨s, by cases s <;> exact hs⟩)⟩
  refine xl_nil ?_
  refine x_seq ?_
  refine x_regionL ?_
  refine xl_v v_assign ?_
  refine xl_nil ?_
  refine x_ret ?_
  refine fin1 rfl ?_
  exact ⟨by rw [hr], by rw [hr]; exact hM, lkc⟩
end Go.Proofs.Ytnjpladlfiaojaa
