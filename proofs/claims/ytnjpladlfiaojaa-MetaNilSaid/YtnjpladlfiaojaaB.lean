/-
 Walks, printed by a program of this workplace (wip/tools/sx.py) off the functions' code and a text of contracts.
-/
import Derived.Test.YtnjpladlfiaojaaA
set_option linter.all false
set_option maxRecDepth 100000
set_option synthInstance.maxSize 100000
set_option synthInstance.maxHeartbeats 400000
namespace Go.Proofs.Ytnjpladlfiaojaa
open Go.Wst
open Go.Wst.Ct
theorem inN_not (b : Int) (n : Nat) : (!decide (inN b n)) = decide (b < 0 ∨ (n : Int) ≤ b) := by
 by_cases h : inN b n
 ·rw [decide_eq_true h, decide_eq_false]
  ·rfl
  ·have := h.1; have := h.2; omega
 ·rw [decide_eq_false h, decide_eq_true]
  ·rfl
  ·unfold inN at h; omega
/-- A check: a closure, the error, whether it goes wrong. -/
structure Chk where
 f : FuncId
 a : List Value
 c : List Value
 why : Int
 bad : Bool
abbrev chkC (x : Chk) : List Value := [.func (.func x.f) x.a.toArray x.c.toArray, .int .i64 x.why]
instance encN_chk : EncN chkC 2 := ⟨fun _ => rfl⟩
def firstE (cs : List Chk) : Int := match cs.find? (·.bad) with
 | some c => c.why
 | none => 0
theorem firstE_none {cs : List Chk} (h : ∀ j (h : j < cs.length), cs[j].bad = false) : firstE cs = 0 := by
 have : cs.find? (·.bad) = none := List.find?_eq_none.2 fun x hx => by
  obtain ⟨j, hj, rfl⟩ := List.getElem_of_mem hx
  simp [h j hj]
 rw [firstE, this]
theorem firstE_at {cs : List Chk} {k : Nat} (hk : k < cs.length) (h : ∀ j (h : j < cs.length), j < k → cs[j].bad = false) (hb : cs[k].bad = true) : firstE cs = cs[k].why := by
 have : cs.find? (·.bad) = some cs[k] := by
  rw [List.find?_eq_some_iff_getElem]
  refine ⟨hb, k, hk, rfl, fun j hj => ?_⟩
  simp [h j (by omega) hj]
 rw [firstE, this]
/-- What a check's closure answers from a world on. -/
def ChkAt (w : World) (x : Chk) : Prop := ∀ W, Lk W w NoB → CallV Try.prog (.func (.func x.f) x.a.toArray x.c.toArray) [] W (fun v w2 => v = .bool x.bad ∧ Lk w2 W NoB)
theorem ChkAt.ext {w w' : World} {x : Chk} (h : ChkAt w x) (hk : Lk w' w NoB) : ChkAt w' x := fun W l => h W ⟨hk.keep.trans l.keep⟩

/-- (*waystation/meta.Meta).none -/
theorem none_ok (m : Nat) (D : LMeta) (w : World) (h : MetaAt w m D) : Ret Try.prog 35 #[.pointer (some ⟨m, 0, none⟩)] w (fun v w' => v = .bool (decide (D.vs.length = 0)) ∧ Lk w' w NoB) := by
 haveI hb : Blk w m _ := ⟨h.hb⟩
 refine ret_of_x (N := 13) (l := [.pointer (some ⟨m, 0, none⟩)]) Try.func35 rfl rfl (Nat.le_of_ble_eq_true rfl) ?_
 refine x_seq ?_
 refine x_regionL ?_
 refine xl_v v_assign ?_
 refine xl_nil ?_
 refine x_seq ?_
 refine x_regionL ?_
 refine xl_v v_move ?_
 refine xl_v (by first | exact v_eql_pointerS | exact v_eql_pointerN) ?_
 refine xl_v v_move ?_
 refine xl_gv rfl EvO.eq v_move ?_
 refine xl_gNc rfl EvO.eq ?_
 refine xl_gFa rfl EvO.eq ?_
 refine xl_gLd rfl EvO.eq ?_
 refine xl_gv rfl EvO.eq v_len ?_
 refine xl_gv rfl EvO.eq v_eql ?_
 refine xl_Pk ?_
 refine xl_v v_assign ?_
 refine xl_nil ?_
 refine x_ret ?_
 refine fin1 rfl ?_
 refine ⟨?_, lkc⟩
 congr 1
 rw [decide_eq_decide]
 omega

/-- (*waystation/meta.Meta).none -/
theorem noneN_ok (w : World) : Ret Try.prog 35 #[.pointer none] w (fun v w' => v = .bool true ∧ Lk w' w NoB) := by
 refine ret_of_x (N := 13) (l := [.pointer none]) Try.func35 rfl rfl (Nat.le_of_ble_eq_true rfl) ?_
 refine x_seq ?_
 refine x_regionL ?_
 refine xl_v v_assign ?_
 refine xl_nil ?_
 refine x_seq ?_
 refine x_regionL ?_
 refine xl_v v_move ?_
 refine xl_v (by first | exact v_eql_pointerS | exact v_eql_pointerN) ?_
 refine xl_v v_move ?_
 refine xl_gs rfl EvO.eq ?_
 refine xl_gs rfl EvO.eq ?_
 refine xl_gs rfl EvO.eq ?_
 refine xl_gs rfl EvO.eq ?_
 refine xl_gs rfl EvO.eq ?_
 refine xl_gs rfl EvO.eq ?_
 refine xl_Pk ?_
 refine xl_v v_assign ?_
 refine xl_nil ?_
 refine x_ret ?_
 refine fin1 rfl ?_
 exact ⟨rfl, lkc⟩

/-- waystation/meta.first -/
theorem first_ok (A : Option Addr) (n c : Nat) (cs : List Chk) (w : World) [Row w A (cs.flatMap chkC)] (hl : cs.length = n) (hn : n ≤ 100) (hp : ∀ i (h : i < cs.length), (∀ j (hj : j < i), cs[j].bad = false) → ChkAt w cs[i]) : Ret Try.prog 46 #[.slice A n c] w (fun v w' => v = .int .i64 (firstE cs) ∧ Lk w' w NoB) := by
 refine ret_of_x (N := 17) (l := [.slice A n c]) Try.func46 rfl rfl (Nat.le_of_ble_eq_true rfl) ?_
 refine x_seq ?_
 refine x_regionL ?_
 refine xl_v v_assign ?_
 refine xl_nil ?_
 refine x_seq ?_
 refine x_seq ?_
 refine x_regionL ?_
 refine xl_v v_move ?_
 refine xl_v v_len ?_
 refine xl_v v_move ?_
 refine xl_nil ?_
 refine x_block ?_
 refine x_loop (fun m τ ds w' => ds = [] ∧ ∃ k : Nat, m = n - k ∧ k ≤ n ∧ (∀ j (h : j < cs.length), j < k → cs[j].bad = false) ∧ Ev τ 5 (.slice A n c) ∧ Ev τ 6 (.int .i64 (n : Int)) ∧ Ev τ 7 (.int .i64 (k : Int)) ∧ Lk w' w NoB) (n) ?start ?round
 case start =>
  exact ⟨rfl, 0, rfl, Nat.zero_le _, fun _ _ h => absurd h (Nat.not_lt_zero _), inferInstance, inferInstance, evc, lkc⟩
 case round =>
  intro m τ1 ds1 w1 hI
  obtain ⟨rfl, k, rfl, hk, hno, e5, e6, e7, lk⟩ := hI
  refine x_seq ?_
  refine x_regionL ?_
  refine xl_v v_lss ?_
  refine xl_nil ?_
  refine x_seq ?_
  first | refine x_condP (fun c1 => ?_) (fun c1 => ?_) | refine x_condN (fun c1 => ?_) (fun c1 => ?_) | refine x_condE (fun c1 => ?_) (fun c1 => ?_)
  ·
   have hk1 : k < cs.length := by omega
   refine x_skip ?_
   refine x_seq ?_
   refine x_block ?_
   refine x_seq ?_
   refine x_regionL ?_
   refine xl_v (v_indexF k (by decide) rfl (by omega) hk1) ?_
   refine xl_v (v_loadF (k := k) (by decide) hk1) ?_
   refine xl_e (e_alloc fun b2 w2 n2 l2 k2 => ?_)
   refine xl_s (e_storeA fun w3 l3 k3 => ?_)
   refine xl_nil ?_
   refine x_seq ?_
   refine x_regionL ?_
   refine xl_Fa ?_
   refine xl_Ld ?_
   refine xl_callv ((hp k hk1 (fun j hj => hno j (by omega) hj) w3 lkc)) ?_
   rintro _ w4 ⟨rfl, lk2⟩
   refine xl_nil ?_
   refine x_condE (fun c2 => ?_) (fun c2 => ?_)
   ·
    refine x_seq ?_
    refine x_regionL ?_
    refine xl_Fa ?_
    refine xl_Ld ?_
    refine xl_v v_assign ?_
    refine xl_nil ?_
    refine x_ret ?_
    refine fin1 rfl ?_
    exact ⟨by rw [firstE_at hk1 hno c2], lkc⟩
   ·
    refine x_skip ?_
    refine x_regionL ?_
    refine xl_v (v_add (by omega)) ?_
    refine xl_v v_move ?_
    refine xl_nil ?_
    refine ⟨_, ?_, rfl, k + 1, rfl, by omega, ?_, inferInstance, inferInstance, evc, lkc⟩
    ·omega
    ·intro j hj hjk
     by_cases h : j = k
     ·subst h; exact c2
     ·exact hno j hj (by omega)
  ·
   refine x_exit ?_
   refine x_seq ?_
   refine x_regionL ?_
   refine xl_v v_assign ?_
   refine xl_nil ?_
   refine x_ret ?_
   refine fin1 rfl ?_
   exact ⟨by rw [firstE_none fun j hj => hno j hj (by omega)], lkc⟩

/-- (*waystation/meta.Meta).isNone -/
theorem isNone_ok (m : Nat) (D : LMeta) (w : World) (h : MetaAt w m D) : Ret Try.prog 47 #[.pointer (some ⟨m, 0, none⟩)] w (fun v w' => (∃ x : Chk, v = .agg (chkC x).toArray ∧ x.why = 1 ∧ x.bad = decide (D.vs.length = 0) ∧ ChkAt w' x) ∧ Lk w' w NoB) := by
 refine ret_of_x (N := 6) (l := [.pointer (some ⟨m, 0, none⟩)]) Try.func47 rfl rfl (Nat.le_of_ble_eq_true rfl) ?_
 refine x_seq ?_
 refine x_regionL ?_
 refine xl_e (e_alloc fun b1 w1 n1 l1 k1 => ?_)
 refine xl_nil ?_
 refine x_seq ?_
 refine x_regionL ?_
 refine xl_v v_move ?_
 refine xl_v v_makeFunc ?_
 refine xl_v v_build ?_
 refine xl_s (e_storeA fun w2 l2 k2 => ?_)
 refine xl_nil ?_
 refine x_ret ?_
 refine finR (rs := [.cell 2 94]) rfl ?_
 refine ⟨⟨⟨_, [_], [], 1, _⟩, rfl, rfl, rfl, fun W l => ?_⟩, lkc⟩
 exact CallV.of_ret (none_ok m D W (h.ext (kpc : Keep NoB w W)))

/-- (*waystation/meta.Meta).isNone -/
theorem isNoneN_ok (w : World) : Ret Try.prog 47 #[.pointer none] w (fun v w' => (∃ x : Chk, v = .agg (chkC x).toArray ∧ x.why = 1 ∧ x.bad = true ∧ ChkAt w' x) ∧ Lk w' w NoB) := by
 refine ret_of_x (N := 6) (l := [.pointer none]) Try.func47 rfl rfl (Nat.le_of_ble_eq_true rfl) ?_
 refine x_seq ?_
 refine x_regionL ?_
 refine xl_e (e_alloc fun b1 w1 n1 l1 k1 => ?_)
 refine xl_nil ?_
 refine x_seq ?_
 refine x_regionL ?_
 refine xl_v v_move ?_
 refine xl_v v_makeFunc ?_
 refine xl_v v_build ?_
 refine xl_s (e_storeA fun w2 l2 k2 => ?_)
 refine xl_nil ?_
 refine x_ret ?_
 refine finR (rs := [.cell 2 94]) rfl ?_
 refine ⟨⟨⟨_, [_], [], 1, _⟩, rfl, rfl, rfl, fun W l => ?_⟩, lkc⟩
 exact CallV.of_ret (noneN_ok W)

/-- (*waystation/meta.Meta).broker$1 -/
theorem broker1_ok (bb mb m : Nat) (D : LMeta) (b : Int) (w : World) (h : MetaAt w m D) [Blk w bb (.cells #[.int .i64 b] 3 (0, 0))] [Blk w mb (.cells #[.pointer (some ⟨m, 0, none⟩)] 27 (0, 0))] : Ret Try.prog 81 #[.pointer (some ⟨bb, 0, none⟩), .pointer (some ⟨mb, 0, none⟩)] w (fun v w' => v = .bool (!decide (inN b D.nb)) ∧ Lk w' w NoB) := by
 haveI hb : Blk w m _ := ⟨h.hb⟩
 refine ret_of_x (N := 14) (l := [.pointer (some ⟨bb, 0, none⟩), .pointer (some ⟨mb, 0, none⟩)]) Try.func81 rfl rfl (Nat.le_of_ble_eq_true rfl) ?_
 refine x_seq ?_
 refine x_regionL ?_
 refine xl_v v_assign ?_
 refine xl_nil ?_
 refine x_seq ?_
 refine x_drawL (NoB) (allS) (.take 0 (.take 1 (.take 2 (.take 3 (.take 4 (.take 5 (.take 6 (.take 7 (.take 8 (.take 9 (.take 10 (.take 11 .done)))))))))))) mixed (by kernel_rfl) (fun _ _ _ _ _ h => h) (fun w1 l1 => ?_)
 refine xt_Ld rfl ?_
 refine xt_v rfl v_lss ?_
 refine xt_v rfl v_move ?_
 refine xt_split 5 (fun g5 => ?_) (fun g5 => ?_)
 ·
  refine xt_gs rfl rfl EvO.eq ?_
  refine xt_gs rfl rfl EvO.eq ?_
  refine xt_gs rfl rfl EvO.eq ?_
  refine xt_gs rfl rfl EvO.eq ?_
  refine xt_gs rfl rfl EvO.eq ?_
  refine xt_gs rfl rfl EvO.eq ?_
  refine xt_gs rfl rfl EvO.eq ?_
  refine xt_Pk rfl ?_
  refine xt_v rfl v_assign ?_
  refine xt_nil ?_
  refine x_ret ?_
  refine fin1 rfl ?_
  refine ⟨?_, lkc⟩
  refine congrArg Value.bool ?_
  rw [inN_not]
  simp at g5
  first
   | (rw [decide_eq_true (show b < 0 ∨ _ from .inl g5)]; done)
   | (rw [decide_eq_decide]; omega)
 ·
  refine xt_gLd rfl rfl EvO.eq ?_
  refine xt_gLd rfl rfl EvO.eq ?_
  refine xt_gNc rfl rfl EvO.eq ?_
  refine xt_gFa rfl rfl EvO.eq ?_
  refine xt_gFa rfl rfl EvO.eq ?_
  refine xt_gLd rfl rfl EvO.eq ?_
  refine xt_gv rfl rfl EvO.eq v_geq ?_
  refine xt_Pk rfl ?_
  refine xt_v rfl v_assign ?_
  refine xt_nil ?_
  refine x_ret ?_
  refine fin1 rfl ?_
  refine ⟨?_, lkc⟩
  refine congrArg Value.bool ?_
  rw [inN_not]
  simp at g5
  first
   | (rw [decide_eq_true (show b < 0 ∨ _ from .inl g5)]; done)
   | (rw [decide_eq_decide]; omega)

/-- (*waystation/meta.Meta).part$1 -/
theorem part1_ok (bb mb m : Nat) (D : LMeta) (b : Int) (w : World) (h : MetaAt w m D) [Blk w bb (.cells #[.int .i64 b] 3 (0, 0))] [Blk w mb (.cells #[.pointer (some ⟨m, 0, none⟩)] 27 (0, 0))] : Ret Try.prog 80 #[.pointer (some ⟨bb, 0, none⟩), .pointer (some ⟨mb, 0, none⟩)] w (fun v w' => v = .bool (!decide (inN b D.np)) ∧ Lk w' w NoB) := by
 haveI hb : Blk w m _ := ⟨h.hb⟩
 refine ret_of_x (N := 14) (l := [.pointer (some ⟨bb, 0, none⟩), .pointer (some ⟨mb, 0, none⟩)]) Try.func80 rfl rfl (Nat.le_of_ble_eq_true rfl) ?_
 refine x_seq ?_
 refine x_regionL ?_
 refine xl_v v_assign ?_
 refine xl_nil ?_
 refine x_seq ?_
 refine x_drawL (NoB) (allS) (.take 0 (.take 1 (.take 2 (.take 3 (.take 4 (.take 5 (.take 6 (.take 7 (.take 8 (.take 9 (.take 10 (.take 11 .done)))))))))))) mixed (by kernel_rfl) (fun _ _ _ _ _ h => h) (fun w1 l1 => ?_)
 refine xt_Ld rfl ?_
 refine xt_v rfl v_lss ?_
 refine xt_v rfl v_move ?_
 refine xt_split 5 (fun g5 => ?_) (fun g5 => ?_)
 ·
  refine xt_gs rfl rfl EvO.eq ?_
  refine xt_gs rfl rfl EvO.eq ?_
  refine xt_gs rfl rfl EvO.eq ?_
  refine xt_gs rfl rfl EvO.eq ?_
  refine xt_gs rfl rfl EvO.eq ?_
  refine xt_gs rfl rfl EvO.eq ?_
  refine xt_gs rfl rfl EvO.eq ?_
  refine xt_Pk rfl ?_
  refine xt_v rfl v_assign ?_
  refine xt_nil ?_
  refine x_ret ?_
  refine fin1 rfl ?_
  refine ⟨?_, lkc⟩
  refine congrArg Value.bool ?_
  rw [inN_not]
  simp at g5
  first
   | (rw [decide_eq_true (show b < 0 ∨ _ from .inl g5)]; done)
   | (rw [decide_eq_decide]; omega)
 ·
  refine xt_gLd rfl rfl EvO.eq ?_
  refine xt_gLd rfl rfl EvO.eq ?_
  refine xt_gNc rfl rfl EvO.eq ?_
  refine xt_gFa rfl rfl EvO.eq ?_
  refine xt_gFa rfl rfl EvO.eq ?_
  refine xt_gLd rfl rfl EvO.eq ?_
  refine xt_gv rfl rfl EvO.eq v_geq ?_
  refine xt_Pk rfl ?_
  refine xt_v rfl v_assign ?_
  refine xt_nil ?_
  refine x_ret ?_
  refine fin1 rfl ?_
  refine ⟨?_, lkc⟩
  refine congrArg Value.bool ?_
  rw [inN_not]
  simp at g5
  first
   | (rw [decide_eq_true (show b < 0 ∨ _ from .inl g5)]; done)
   | (rw [decide_eq_decide]; omega)

/-- (*waystation/meta.Meta).id$1 -/
theorem id1_ok (bb mb m : Nat) (D : LMeta) (b : Int) (w : World) (h : MetaAt w m D) [Blk w bb (.cells #[.int .i64 b] 3 (0, 0))] [Blk w mb (.cells #[.pointer (some ⟨m, 0, none⟩)] 27 (0, 0))] : Ret Try.prog 82 #[.pointer (some ⟨bb, 0, none⟩), .pointer (some ⟨mb, 0, none⟩)] w (fun v w' => v = .bool (!decide (inN b D.ni)) ∧ Lk w' w NoB) := by
 haveI hb : Blk w m _ := ⟨h.hb⟩
 refine ret_of_x (N := 14) (l := [.pointer (some ⟨bb, 0, none⟩), .pointer (some ⟨mb, 0, none⟩)]) Try.func82 rfl rfl (Nat.le_of_ble_eq_true rfl) ?_
 refine x_seq ?_
 refine x_regionL ?_
 refine xl_v v_assign ?_
 refine xl_nil ?_
 refine x_seq ?_
 refine x_drawL (NoB) (allS) (.take 0 (.take 1 (.take 2 (.take 3 (.take 4 (.take 5 (.take 6 (.take 7 (.take 8 (.take 9 (.take 10 (.take 11 .done)))))))))))) mixed (by kernel_rfl) (fun _ _ _ _ _ h => h) (fun w1 l1 => ?_)
 refine xt_Ld rfl ?_
 refine xt_v rfl v_lss ?_
 refine xt_v rfl v_move ?_
 refine xt_split 5 (fun g5 => ?_) (fun g5 => ?_)
 ·
  refine xt_gs rfl rfl EvO.eq ?_
  refine xt_gs rfl rfl EvO.eq ?_
  refine xt_gs rfl rfl EvO.eq ?_
  refine xt_gs rfl rfl EvO.eq ?_
  refine xt_gs rfl rfl EvO.eq ?_
  refine xt_gs rfl rfl EvO.eq ?_
  refine xt_gs rfl rfl EvO.eq ?_
  refine xt_Pk rfl ?_
  refine xt_v rfl v_assign ?_
  refine xt_nil ?_
  refine x_ret ?_
  refine fin1 rfl ?_
  refine ⟨?_, lkc⟩
  refine congrArg Value.bool ?_
  rw [inN_not]
  simp at g5
  first
   | (rw [decide_eq_true (show b < 0 ∨ _ from .inl g5)]; done)
   | (rw [decide_eq_decide]; omega)
 ·
  refine xt_gLd rfl rfl EvO.eq ?_
  refine xt_gLd rfl rfl EvO.eq ?_
  refine xt_gNc rfl rfl EvO.eq ?_
  refine xt_gFa rfl rfl EvO.eq ?_
  refine xt_gFa rfl rfl EvO.eq ?_
  refine xt_gLd rfl rfl EvO.eq ?_
  refine xt_gv rfl rfl EvO.eq v_geq ?_
  refine xt_Pk rfl ?_
  refine xt_v rfl v_assign ?_
  refine xt_nil ?_
  refine x_ret ?_
  refine fin1 rfl ?_
  refine ⟨?_, lkc⟩
  refine congrArg Value.bool ?_
  rw [inN_not]
  simp at g5
  first
   | (rw [decide_eq_true (show b < 0 ∨ _ from .inl g5)]; done)
   | (rw [decide_eq_decide]; omega)

/-- (*waystation/meta.Meta).broker -/
theorem broker_ok (m : Nat) (D : LMeta) (b : Int) (w : World) (h : MetaAt w m D) : Ret Try.prog 49 #[.pointer (some ⟨m, 0, none⟩), .int .i64 b] w (fun v w' => (∃ x : Chk, v = .agg (chkC x).toArray ∧ x.why = 2 ∧ x.bad = !decide (inN b D.nb) ∧ ChkAt w' x) ∧ Lk w' w NoB) := by
 refine ret_of_x (N := 7) (l := [.pointer (some ⟨m, 0, none⟩), .int .i64 b]) Try.func49 rfl rfl (Nat.le_of_ble_eq_true rfl) ?_
 refine x_seq ?_
 refine x_regionL ?_
 refine xl_e (e_box fun b1 w1 n1 l1 k1 => ?_)
 refine xl_e (e_box fun b2 w2 n2 l2 k2 => ?_)
 refine xl_e (e_alloc fun b3 w3 n3 l3 k3 => ?_)
 refine xl_nil ?_
 refine x_seq ?_
 refine x_regionL ?_
 refine xl_v v_makeFunc ?_
 refine xl_v v_build ?_
 refine xl_s (e_storeA fun w4 l4 k4 => ?_)
 refine xl_nil ?_
 refine x_ret ?_
 refine finR (rs := [.cell 4 94]) rfl ?_
 refine ⟨⟨⟨_, [], [_, _], 2, _⟩, rfl, rfl, rfl, fun W l => ?_⟩, lkc⟩
 exact CallV.of_ret (broker1_ok b2 b1 m D b W (h.ext (kpc : Keep NoB w W)))

/-- (*waystation/meta.Meta).broker -/
theorem brokerU_ok (P : Value) (b : Int) (w : World) [Cell1 P] [Cells P #[P]] : Ret Try.prog 49 #[P, .int .i64 b] w (fun v w' => (∃ x : Chk, v = .agg (chkC x).toArray ∧ x.why = 2) ∧ Lk w' w NoB) := by
 refine ret_of_x (N := 7) (l := [P, .int .i64 b]) Try.func49 rfl rfl (Nat.le_of_ble_eq_true rfl) ?_
 refine x_seq ?_
 refine x_regionL ?_
 refine xl_e (e_box fun b1 w1 n1 l1 k1 => ?_)
 refine xl_e (e_box fun b2 w2 n2 l2 k2 => ?_)
 refine xl_e (e_alloc fun b3 w3 n3 l3 k3 => ?_)
 refine xl_nil ?_
 refine x_seq ?_
 refine x_regionL ?_
 refine xl_v v_makeFunc ?_
 refine xl_v v_build ?_
 refine xl_s (e_storeA fun w4 l4 k4 => ?_)
 refine xl_nil ?_
 refine x_ret ?_
 refine finR (rs := [.cell 4 94]) rfl ?_
 exact ⟨⟨⟨_, [], [_, _], 2, true⟩, rfl, rfl⟩, lkc⟩

/-- (*waystation/meta.Meta).part -/
theorem part_ok (m : Nat) (D : LMeta) (b : Int) (w : World) (h : MetaAt w m D) : Ret Try.prog 48 #[.pointer (some ⟨m, 0, none⟩), .int .i64 b] w (fun v w' => (∃ x : Chk, v = .agg (chkC x).toArray ∧ x.why = 2 ∧ x.bad = !decide (inN b D.np) ∧ ChkAt w' x) ∧ Lk w' w NoB) := by
 refine ret_of_x (N := 7) (l := [.pointer (some ⟨m, 0, none⟩), .int .i64 b]) Try.func48 rfl rfl (Nat.le_of_ble_eq_true rfl) ?_
 refine x_seq ?_
 refine x_regionL ?_
 refine xl_e (e_box fun b1 w1 n1 l1 k1 => ?_)
 refine xl_e (e_box fun b2 w2 n2 l2 k2 => ?_)
 refine xl_e (e_alloc fun b3 w3 n3 l3 k3 => ?_)
 refine xl_nil ?_
 refine x_seq ?_
 refine x_regionL ?_
 refine xl_v v_makeFunc ?_
 refine xl_v v_build ?_
 refine xl_s (e_storeA fun w4 l4 k4 => ?_)
 refine xl_nil ?_
 refine x_ret ?_
 refine finR (rs := [.cell 4 94]) rfl ?_
 refine ⟨⟨⟨_, [], [_, _], 2, _⟩, rfl, rfl, rfl, fun W l => ?_⟩, lkc⟩
 exact CallV.of_ret (part1_ok b2 b1 m D b W (h.ext (kpc : Keep NoB w W)))

/-- (*waystation/meta.Meta).part -/
theorem partU_ok (P : Value) (b : Int) (w : World) [Cell1 P] [Cells P #[P]] : Ret Try.prog 48 #[P, .int .i64 b] w (fun v w' => (∃ x : Chk, v = .agg (chkC x).toArray ∧ x.why = 2) ∧ Lk w' w NoB) := by
 refine ret_of_x (N := 7) (l := [P, .int .i64 b]) Try.func48 rfl rfl (Nat.le_of_ble_eq_true rfl) ?_
 refine x_seq ?_
 refine x_regionL ?_
 refine xl_e (e_box fun b1 w1 n1 l1 k1 => ?_)
 refine xl_e (e_box fun b2 w2 n2 l2 k2 => ?_)
 refine xl_e (e_alloc fun b3 w3 n3 l3 k3 => ?_)
 refine xl_nil ?_
 refine x_seq ?_
 refine x_regionL ?_
 refine xl_v v_makeFunc ?_
 refine xl_v v_build ?_
 refine xl_s (e_storeA fun w4 l4 k4 => ?_)
 refine xl_nil ?_
 refine x_ret ?_
 refine finR (rs := [.cell 4 94]) rfl ?_
 exact ⟨⟨⟨_, [], [_, _], 2, true⟩, rfl, rfl⟩, lkc⟩

/-- (*waystation/meta.Meta).id -/
theorem id_ok (m : Nat) (D : LMeta) (b : Int) (w : World) (h : MetaAt w m D) : Ret Try.prog 50 #[.pointer (some ⟨m, 0, none⟩), .int .i64 b] w (fun v w' => (∃ x : Chk, v = .agg (chkC x).toArray ∧ x.why = 2 ∧ x.bad = !decide (inN b D.ni) ∧ ChkAt w' x) ∧ Lk w' w NoB) := by
 refine ret_of_x (N := 7) (l := [.pointer (some ⟨m, 0, none⟩), .int .i64 b]) Try.func50 rfl rfl (Nat.le_of_ble_eq_true rfl) ?_
 refine x_seq ?_
 refine x_regionL ?_
 refine xl_e (e_box fun b1 w1 n1 l1 k1 => ?_)
 refine xl_e (e_box fun b2 w2 n2 l2 k2 => ?_)
 refine xl_e (e_alloc fun b3 w3 n3 l3 k3 => ?_)
 refine xl_nil ?_
 refine x_seq ?_
 refine x_regionL ?_
 refine xl_v v_makeFunc ?_
 refine xl_v v_build ?_
 refine xl_s (e_storeA fun w4 l4 k4 => ?_)
 refine xl_nil ?_
 refine x_ret ?_
 refine finR (rs := [.cell 4 94]) rfl ?_
 refine ⟨⟨⟨_, [], [_, _], 2, _⟩, rfl, rfl, rfl, fun W l => ?_⟩, lkc⟩
 exact CallV.of_ret (id1_ok b2 b1 m D b W (h.ext (kpc : Keep NoB w W)))

/-- (*waystation/meta.Meta).id -/
theorem idU_ok (P : Value) (b : Int) (w : World) [Cell1 P] [Cells P #[P]] : Ret Try.prog 50 #[P, .int .i64 b] w (fun v w' => (∃ x : Chk, v = .agg (chkC x).toArray ∧ x.why = 2) ∧ Lk w' w NoB) := by
 refine ret_of_x (N := 7) (l := [P, .int .i64 b]) Try.func50 rfl rfl (Nat.le_of_ble_eq_true rfl) ?_
 refine x_seq ?_
 refine x_regionL ?_
 refine xl_e (e_box fun b1 w1 n1 l1 k1 => ?_)
 refine xl_e (e_box fun b2 w2 n2 l2 k2 => ?_)
 refine xl_e (e_alloc fun b3 w3 n3 l3 k3 => ?_)
 refine xl_nil ?_
 refine x_seq ?_
 refine x_regionL ?_
 refine xl_v v_makeFunc ?_
 refine xl_v v_build ?_
 refine xl_s (e_storeA fun w4 l4 k4 => ?_)
 refine xl_nil ?_
 refine x_ret ?_
 refine finR (rs := [.cell 4 94]) rfl ?_
 exact ⟨⟨⟨_, [], [_, _], 2, true⟩, rfl, rfl⟩, lkc⟩
end Go.Proofs.Ytnjpladlfiaojaa
