/-
 Walks, printed by a program of this workplace (wip/tools/sx.py) off the functions' code and a text of contracts.
-/
import Derived.Test.YtnjpladlfiaojaaR
set_option linter.all false
set_option maxRecDepth 100000
set_option synthInstance.maxSize 100000
set_option synthInstance.maxHeartbeats 400000
namespace Go.Proofs.Ytnjpladlfiaojaa
open Go.Wst
open Go.Wst.Ct
/-- The document's controller, where it lies. -/
structure RefAt (W : World) (F : Nat → Prop) (R : LMeta) : Prop where
 lives : FRow W F R.LA (bools R.lives)
 views : FRow W F R.VA (R.vs.flatMap viewC)
 wrs : FRow W F R.WA (R.ws.flatMap wrC)
 isr : ∀ x ∈ R.vs, FRow W F x.A (ints x.v.isr)
 parts : ∀ x ∈ R.ws, FRow W F x.A (ints x.w.parts)
 lt : ∀ k, F k → k < W.heap.size
section
variable {W W' : World} {F F' S : Nat → Prop} {R : LMeta}
theorem RefAt.keep (h : RefAt W F R) (hk : Keep S W W') (hs : ∀ k, F k → ¬ S k) : RefAt W' F R :=
 ⟨h.lives.keep hk hs, h.views.keep hk hs, h.wrs.keep hk hs, fun x hx => (h.isr x hx).keep hk hs, fun x hx => (h.parts x hx).keep hk hs, fun k e => Nat.lt_of_lt_of_le (h.lt k e) hk.size⟩
theorem RefAt.ext (h : RefAt W F R) (hk : Keep NoB W W') : RefAt W' F R := h.keep hk (fun _ _ h => h)
theorem RefAt.mono (h : RefAt W F R) (hs : ∀ k, F k → F' k) (hl : ∀ k, F' k → k < W.heap.size) : RefAt W F' R :=
 ⟨h.lives.mono hs, h.views.mono hs, h.wrs.mono hs, fun x hx => (h.isr x hx).mono hs, fun x hx => (h.parts x hx).mono hs, hl⟩
end
/-- What came since, besides. -/
def grown (F : Nat → Prop) (w W : World) : Nat → Prop := fun k => F k ∨ (w.heap.size ≤ k ∧ k < W.heap.size)
theorem grown_sub {F : Nat → Prop} {w W : World} : Sub (grown F w W) F w := fun k e => e.imp id And.left
theorem _root_.Go.Wst.FRow.own {W w : World} {F : Nat → Prop} {base n m c sz : Nat} {e : TypeId} {A : Option Addr} {xs : List Value} (h : W.ownsRow base e sz (.slice A m c) n xs) (hb : w.heap.size ≤ base) : FRow W (grown F w W) A xs :=
 (FRow.of_own h).mono (fun k e => .inr ⟨Nat.le_trans hb (own_blk h (ownB_blk.1 e)).1, (own_blk h (ownB_blk.1 e)).2⟩)
theorem _root_.Go.Wst.FRow.grow {w W : World} {F : Nat → Prop} {A : Option Addr} {xs : List Value} (h : FRow w F A xs) (hk : Keep NoB w W) : FRow W (grown F w W) A xs := (h.keep hk (fun _ _ h => h)).mono (fun k e => .inl e)
theorem grown_lt {F : Nat → Prop} {w W : World} (h : ∀ k, F k → k < w.heap.size) (hk : Keep NoB w W) : ∀ k, grown F w W k → k < W.heap.size := fun k e => e.elim (fun e => Nat.lt_of_lt_of_le (h k e) hk.size) And.right

/-- (waystation/waystationref10.Meta).live -/
theorem reflive_ok (R : LMeta) (F : Nat → Prop) (i : Nat) (b : Bool) (w : World) (h : RefAt w F R) (hi : i < R.lives.length) (hn : R.lives.length ≤ 1000) : Ret Try.prog 75 #[.agg (metaC R).toArray, .int .i64 (i : Int), .bool b] w (fun v w' => (∃ (A : Option Addr) (c : Nat) (F' : Nat → Prop), v = .agg (metaC { R with lives := R.lives.set i b, LA := A, lc := c }).toArray ∧ RefAt w' F' { R with lives := R.lives.set i b, LA := A, lc := c } ∧ Sub F' F w) ∧ Lk w' w NoB) := by
 haveI hrb : RowB w R.LA w (bools R.lives) := rowB_of h.lives.row
 refine ret_of_x (N := 18) (l := [.agg (metaC R).toArray, .int .i64 (i : Int), .bool b]) Try.func75 rfl rfl (Nat.le_of_ble_eq_true rfl) ?_
 refine x_seq ?_
 refine x_regionL ?_
 refine xl_e (e_box fun b1 w1 n1 l1 k1 => ?_)
 refine xl_e (e_alloc fun b2 w2 n2 l2 k2 => ?_)
 refine xl_nil ?_
 refine x_seq ?_
 refine x_regionL ?_
 refine xl_Fa ?_
 refine xl_Ld ?_
 refine xl_e (e_appN (by omega) (by decide) (by omega) (by omega) fun Aa ca w3 oa la aa fa => ?_)
 refine xl_v v_assign ?_
 refine xl_nil ?_
 refine x_seq ?_
 refine x_regionL ?_
 refine xl_v v_move ?_
 refine xl_v v_move ?_
 refine xl_v v_move ?_
 refine xl_v (v_indexO i rfl (by omega) (by omega)) ?_
 refine xl_s (e_storeOwn OwnI.own (by omega) (by decide) fun w4 l6 ho6 => ?_)
 rw [setL_map Value.bool R.lives i b (by omega)] at ho6
 haveI o6 : OwnI w4 Aa _ _ _ _ _ _ _ := ⟨ho6⟩
 refine xl_nil ?_
 refine x_seq ?_
 refine x_regionL ?_
 refine xl_v v_move ?_
 refine xl_Fa ?_
 refine xl_s (e_store fun w5 l5 k5 => ?_)
 refine xl_nil ?_
 refine x_seq ?_
 refine x_regionL ?_
 refine xl_La ?_
 refine xl_s (e_storeA fun w6 l6 k6 => ?_)
 refine xl_nil ?_
 refine x_ret ?_
 refine finR (rs := [.cell 6 35]) rfl ?_
 have o7 := (OwnI.own : World.ownsRow w6 _ _ _ (.slice Aa _ ca) _ _)
 have hk : Keep NoB w w6 := kpc
 refine ⟨⟨Aa, ca, grown F w w6, by simp [outV, metaC], ⟨FRow.own o7 Ge.le, h.views.grow hk, h.wrs.grow hk, fun x hx => (h.isr x hx).grow hk, fun x hx => (h.parts x hx).grow hk, grown_lt h.lt hk⟩, grown_sub⟩, lkc⟩

/-- (waystation/waystationref10.Meta).view -/
theorem refview_ok (R : LMeta) (F : Nat → Prop) (i : Nat) (x : LV) (w : World) (h : RefAt w F R) (hx : FRow w F x.A (ints x.v.isr)) (hi : i < R.vs.length) (hn : R.vs.length ≤ 1000) : Ret Try.prog 77 #[.agg (metaC R).toArray, .int .i64 (i : Int), .agg (viewC x).toArray] w (fun v w' => (∃ (A : Option Addr) (c : Nat) (F' : Nat → Prop), v = .agg (metaC { R with vs := R.vs.set i x, VA := A, vc := c }).toArray ∧ RefAt w' F' { R with vs := R.vs.set i x, VA := A, vc := c } ∧ Sub F' F w) ∧ Lk w' w NoB) := by
 haveI hrb : RowB w R.VA w (R.vs.flatMap viewC) := rowB_of h.views.row
 refine ret_of_x (N := 18) (l := [.agg (metaC R).toArray, .int .i64 (i : Int), .agg (viewC x).toArray]) Try.func77 rfl rfl (Nat.le_of_ble_eq_true rfl) ?_
 refine x_seq ?_
 refine x_regionL ?_
 refine xl_e (e_box fun b1 w1 n1 l1 k1 => ?_)
 refine xl_e (e_box fun b2 w2 n2 l2 k2 => ?_)
 refine xl_e (e_alloc fun b3 w3 n3 l3 k3 => ?_)
 refine xl_nil ?_
 refine x_seq ?_
 refine x_regionL ?_
 refine xl_Fa ?_
 refine xl_Ld ?_
 refine xl_e (e_appN (by omega) (by decide) (by omega) (by omega) fun Aa ca w4 oa la aa fa => ?_)
 refine xl_v v_assign ?_
 refine xl_nil ?_
 refine x_seq ?_
 refine x_regionL ?_
 refine xl_v v_move ?_
 refine xl_v v_move ?_
 refine xl_La ?_
 refine xl_v (v_indexF i (by decide) rfl (by omega) (by omega)) ?_
 refine xl_s (e_storeOwn OwnI.own (by omega) (by decide) fun w5 l6 ho6 => ?_)
 rw [flat_set (enc := viewC) (sz := 4) (fun _ => rfl) R.vs i x (by omega)] at ho6
 haveI o6 : OwnI w5 Aa _ _ _ _ _ _ _ := ⟨ho6⟩
 refine xl_nil ?_
 refine x_seq ?_
 refine x_regionL ?_
 refine xl_v v_move ?_
 refine xl_Fa ?_
 refine xl_s (e_store fun w6 l6 k6 => ?_)
 refine xl_nil ?_
 refine x_seq ?_
 refine x_regionL ?_
 refine xl_La ?_
 refine xl_s (e_storeA fun w7 l7 k7 => ?_)
 refine xl_nil ?_
 refine x_ret ?_
 refine finR (rs := [.cell 6 35]) rfl ?_
 have o7 := (OwnI.own : World.ownsRow w7 _ _ _ (.slice Aa _ ca) _ _)
 have hk : Keep NoB w w7 := kpc
 refine ⟨⟨Aa, ca, grown F w w7, by simp [outV, metaC], ⟨h.lives.grow hk, FRow.own o7 Ge.le, h.wrs.grow hk, fun y hy => ?_, fun x hx => (h.parts x hx).grow hk, grown_lt h.lt hk⟩, grown_sub⟩, lkc⟩
 rcases mem_set hy with e | e
 ·rw [e]; exact hx.grow hk
 ·exact (h.isr y e).grow hk

/-- (waystation/waystationref10.Meta).writing -/
theorem refwr_ok (R : LMeta) (F : Nat → Prop) (i : Nat) (x : LW) (w : World) (h : RefAt w F R) (hx : FRow w F x.A (ints x.w.parts)) (hi : i < R.ws.length) (hn : R.ws.length ≤ 1000) : Ret Try.prog 79 #[.agg (metaC R).toArray, .int .i64 (i : Int), .agg (wrC x).toArray] w (fun v w' => (∃ (A : Option Addr) (c : Nat) (F' : Nat → Prop), v = .agg (metaC { R with ws := R.ws.set i x, WA := A, wc := c }).toArray ∧ RefAt w' F' { R with ws := R.ws.set i x, WA := A, wc := c } ∧ Sub F' F w) ∧ Lk w' w NoB) := by
 haveI hrb : RowB w R.WA w (R.ws.flatMap wrC) := rowB_of h.wrs.row
 refine ret_of_x (N := 18) (l := [.agg (metaC R).toArray, .int .i64 (i : Int), .agg (wrC x).toArray]) Try.func79 rfl rfl (Nat.le_of_ble_eq_true rfl) ?_
 refine x_seq ?_
 refine x_regionL ?_
 refine xl_e (e_box fun b1 w1 n1 l1 k1 => ?_)
 refine xl_e (e_box fun b2 w2 n2 l2 k2 => ?_)
 refine xl_e (e_alloc fun b3 w3 n3 l3 k3 => ?_)
 refine xl_nil ?_
 refine x_seq ?_
 refine x_regionL ?_
 refine xl_Fa ?_
 refine xl_Ld ?_
 refine xl_e (e_appN (by omega) (by decide) (by omega) (by omega) fun Aa ca w4 oa la aa fa => ?_)
 refine xl_v v_assign ?_
 refine xl_nil ?_
 refine x_seq ?_
 refine x_regionL ?_
 refine xl_v v_move ?_
 refine xl_v v_move ?_
 refine xl_La ?_
 refine xl_v (v_indexF i (by decide) rfl (by omega) (by omega)) ?_
 refine xl_s (e_storeOwn OwnI.own (by omega) (by decide) fun w5 l6 ho6 => ?_)
 rw [flat_set (enc := wrC) (sz := 6) (fun _ => rfl) R.ws i x (by omega)] at ho6
 haveI o6 : OwnI w5 Aa _ _ _ _ _ _ _ := ⟨ho6⟩
 refine xl_nil ?_
 refine x_seq ?_
 refine x_regionL ?_
 refine xl_v v_move ?_
 refine xl_Fa ?_
 refine xl_s (e_store fun w6 l6 k6 => ?_)
 refine xl_nil ?_
 refine x_seq ?_
 refine x_regionL ?_
 refine xl_La ?_
 refine xl_s (e_storeA fun w7 l7 k7 => ?_)
 refine xl_nil ?_
 refine x_ret ?_
 refine finR (rs := [.cell 6 35]) rfl ?_
 have o7 := (OwnI.own : World.ownsRow w7 _ _ _ (.slice Aa _ ca) _ _)
 have hk : Keep NoB w w7 := kpc
 refine ⟨⟨Aa, ca, grown F w w7, by simp [outV, metaC], ⟨h.lives.grow hk, h.views.grow hk, FRow.own o7 Ge.le, fun x hx => (h.isr x hx).grow hk, fun y hy => ?_, grown_lt h.lt hk⟩, grown_sub⟩, lkc⟩
 rcases mem_set hy with e | e
 ·rw [e]; exact hx.grow hk
 ·exact (h.parts y e).grow hk
end Go.Proofs.Ytnjpladlfiaojaa
