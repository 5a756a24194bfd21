/-
 Walks, printed by a program of this workplace (wip/tools/sx.py) off the functions' code and a text of contracts.
-/
import Derived.Test.YtnjpladlfiaojaaK
set_option linter.all false
set_option maxRecDepth 100000
set_option synthInstance.maxSize 100000
set_option synthInstance.maxHeartbeats 400000
namespace Go.Proofs.Ytnjpladlfiaojaa
open Go.Wst
open Go.Wst.Ct

/-- (*waystation/meta.Meta).Alter$1 -/
theorem alter1_ok (mb m : Nat) (D : LMeta) (i : Nat) (w : World) (h : MetaAt w m D) (hi : i < D.lives.length) [Blk w mb (.cells #[.pointer (some ⟨m, 0, none⟩)] 27 (0, 0))] : Ret Try.prog 69 #[.int .i64 (i : Int), .pointer (some ⟨mb, 0, none⟩)] w (fun v w' => v = .bool (!D.lives[i]) ∧ Lk w' w NoB) := by
 haveI hb : Blk w m _ := ⟨h.hb⟩
 haveI hL : OwnI w D.LA _ _ _ _ _ _ _ := ⟨h.lives⟩
 refine ret_of_x (N := 12) (l := [.int .i64 (i : Int), .pointer (some ⟨mb, 0, none⟩)]) Try.func69 rfl rfl (Nat.le_of_ble_eq_true rfl) ?_
 refine x_seq ?_
 refine x_regionL ?_
 refine xl_v v_assign ?_
 refine xl_nil ?_
 refine x_seq ?_
 refine x_regionL ?_
 refine xl_Ld ?_
 refine xl_Nc ?_
 refine xl_Fa ?_
 refine xl_Ld ?_
 refine xl_v v_move ?_
 refine xl_v (v_indexO i rfl (by omega) hi) ?_
 refine xl_v (v_loadO (k := i) hi) ?_
 refine xl_v v_not ?_
 refine xl_v v_assign ?_
 refine xl_nil ?_
 refine x_ret ?_
 refine fin1 rfl ?_
 exact ⟨rfl, lkc⟩
theorem rises_alt {l : List Int} {n : Nat} (hne : l ≠ []) : Rises n l ↔ l.Pairwise (· < ·) ∧ ∃ a z, l[0]? = some a ∧ l[l.length - 1]? = some z ∧ 0 ≤ a ∧ z < n := by
 have hpos : 0 < l.length := List.length_pos_iff.2 hne
 have h0 : l[0]? = some l[0] := List.getElem?_eq_getElem hpos
 have h1 : l[l.length - 1]? = some l[l.length - 1] := List.getElem?_eq_getElem (by omega)
 constructor
 ·rintro ⟨hp, hb⟩
  exact ⟨hp, _, _, h0, h1, (hb _ (List.getElem_mem _)).1, (hb _ (List.getElem_mem _)).2⟩
 ·rintro ⟨hp, a, z, ha, hz, h2, h3⟩
  rw [h0] at ha
  rw [h1] at hz
  injection ha with ha
  injection hz with hz
  refine ⟨hp, fun b hb => ?_⟩
  obtain ⟨k, hk, rfl⟩ := List.getElem_of_mem hb
  have hpw := List.pairwise_iff_getElem.1 hp
  constructor
  ·by_cases e : k = 0
   ·subst e; omega
   ·have := hpw 0 k hpos hk (by omega); omega
  ·by_cases e : k = l.length - 1
   ·subst e; omega
   ·have := hpw k (l.length - 1) hk (by omega) (by omega); omega

/-- (*waystation/meta.Meta).Alter$2 -/
theorem alter2_ok (ib lb mb m : Nat) (D : LMeta) (A : Option Addr) (n c : Nat) (l : List Int) (b : Int) (w : World) (h : MetaAt w m D) [Blk w ib (.cells #[.slice A n c] 40 (0, 0))] [Blk w lb (.cells #[.int .i64 b] 3 (0, 0))] [Blk w mb (.cells #[.pointer (some ⟨m, 0, none⟩)] 27 (0, 0))] [Row w A (ints l)] (hl : l.length = n) (hn : n ≤ 1000000) : Ret Try.prog 70 #[.pointer (some ⟨ib, 0, none⟩), .pointer (some ⟨lb, 0, none⟩), .pointer (some ⟨mb, 0, none⟩)] w (fun v w' => v = .bool (!decide (Rises D.nb l ∧ b ∈ l)) ∧ Lk w' w NoB) := by
 haveI hb : Blk w m _ := ⟨h.hb⟩
 refine ret_of_x (N := 33) (l := [.pointer (some ⟨ib, 0, none⟩), .pointer (some ⟨lb, 0, none⟩), .pointer (some ⟨mb, 0, none⟩)]) Try.func70 rfl rfl (Nat.le_of_ble_eq_true rfl) ?_
 refine x_seq ?_
 refine x_regionL ?_
 refine xl_v v_assign ?_
 refine xl_nil ?_
 refine x_seq ?_
 refine x_drawL (NoB) (allS) (.take 0 (.eff 1 (.take 2 (.take 3 (.take 4 (.take 5 (.eff 6 (.take 7 (.take 8 (.take 9 (.take 10 (.take 11 (.take 12 (.take 13 (.take 14 (.take 15 (.take 16 (.take 17 (.take 18 (.take 19 (.take 20 (.take 21 (.take 22 (.take 23 (.take 24 (.take 25 (.take 26 (.take 27 (.take 28 (.take 29 .done)))))))))))))))))))))))))))))) mixed (by kernel_rfl) (fun _ _ _ _ _ h => h) (fun w1 l1 => ?_)
 refine xt_Ld rfl ?_
 refine xt_call rfl (rising_ok A n c l w1 hl (by omega)) ?_
 rintro _ w2 ⟨rfl, lk1⟩
 refine ⟨kpc, ?_⟩
 refine xt_v rfl v_not ?_
 refine xt_v rfl v_move ?_
 refine xt_split 7 (fun g7 => ?_) (fun g7 => ?_)
 ·
  refine xt_gs rfl rfl EvO.eq ?_
  refine xt_gs rfl rfl EvO.eq ?_
  refine xt_gse rfl rfl EvO.eq ?_
  refine xt_gs rfl rfl EvO.eq ?_
  refine xt_Pk rfl ?_
  refine xt_v rfl v_move ?_
  refine xt_gs rfl rfl EvO.eq ?_
  refine xt_gs rfl rfl EvO.eq ?_
  refine xt_gs rfl rfl EvO.eq ?_
  refine xt_gs rfl rfl EvO.eq ?_
  refine xt_Pk rfl ?_
  refine xt_v rfl v_move ?_
  refine xt_gs rfl rfl EvO.eq ?_
  refine xt_gs rfl rfl EvO.eq ?_
  refine xt_gs rfl rfl EvO.eq ?_
  refine xt_gs rfl rfl EvO.eq ?_
  refine xt_gs rfl rfl EvO.eq ?_
  refine xt_gs rfl rfl EvO.eq ?_
  refine xt_gs rfl rfl EvO.eq ?_
  refine xt_gs rfl rfl EvO.eq ?_
  refine xt_gs rfl rfl EvO.eq ?_
  refine xt_gs rfl rfl EvO.eq ?_
  refine xt_gs rfl rfl EvO.eq ?_
  refine xt_gs rfl rfl EvO.eq ?_
  refine xt_Pk rfl ?_
  refine xt_v rfl v_assign ?_
  refine xt_nil ?_
  refine x_ret ?_
  refine fin1 rfl ?_
  refine ⟨congrArg Value.bool ?_, lkc⟩
  first
   | (have hp : ¬ l.Pairwise (· < ·) := by simpa using g7
      rw [decide_eq_false (p := Rises D.nb l ∧ b ∈ l) (fun e => hp e.1.1)]
      rfl)
   | (have hbl : b ∉ l := by simpa using g13
      rw [decide_eq_false (p := Rises D.nb l ∧ b ∈ l) (fun e => hbl e.2)]
      rfl)
   | (have h0 : l[0] < 0 := by simpa using g19
      rw [decide_eq_false (p := Rises D.nb l ∧ b ∈ l) (fun e => by have := (e.1.2 _ (List.getElem_mem hpos)).1; omega)]
      rfl)
   | (have h0 : ¬ l[0] < 0 := by simpa using g19
      rw [← decide_not, decide_eq_decide, hra]
      constructor
      ·rintro h9 ⟨⟨_, a, z, ha, hz, h3, h4⟩, _⟩
       rw [List.getElem?_eq_getElem (by omega)] at hz
       injection hz with hz
       omega
      ·intro h9
       refine Classical.byContradiction fun h10 => h9 ⟨⟨hp, l[0], l[l.length - 1], List.getElem?_eq_getElem hpos, List.getElem?_eq_getElem (by omega), by omega, by omega⟩, hbl⟩)
 ·
  refine xt_gLd rfl rfl EvO.eq ?_
  refine xt_gLd rfl rfl EvO.eq ?_
  refine xt_gcall rfl rfl EvO.eq (contains_ok A n c l b w2 hl (by omega)) ?_
  rintro _ w3 ⟨rfl, lk2⟩
  refine ⟨kpc, ?_⟩
  refine xt_gv rfl rfl EvO.eq v_not ?_
  refine xt_Pk rfl ?_
  refine xt_v rfl v_move ?_
  refine xt_split 13 (fun g13 => ?_) (fun g13 => ?_)
  ·
   refine xt_gs rfl rfl EvO.eq ?_
   refine xt_gs rfl rfl EvO.eq ?_
   refine xt_gs rfl rfl EvO.eq ?_
   refine xt_gs rfl rfl EvO.eq ?_
   refine xt_Pk rfl ?_
   refine xt_v rfl v_move ?_
   refine xt_gs rfl rfl EvO.eq ?_
   refine xt_gs rfl rfl EvO.eq ?_
   refine xt_gs rfl rfl EvO.eq ?_
   refine xt_gs rfl rfl EvO.eq ?_
   refine xt_gs rfl rfl EvO.eq ?_
   refine xt_gs rfl rfl EvO.eq ?_
   refine xt_gs rfl rfl EvO.eq ?_
   refine xt_gs rfl rfl EvO.eq ?_
   refine xt_gs rfl rfl EvO.eq ?_
   refine xt_gs rfl rfl EvO.eq ?_
   refine xt_gs rfl rfl EvO.eq ?_
   refine xt_gs rfl rfl EvO.eq ?_
   refine xt_Pk rfl ?_
   refine xt_v rfl v_assign ?_
   refine xt_nil ?_
   refine x_ret ?_
   refine fin1 rfl ?_
   refine ⟨congrArg Value.bool ?_, lkc⟩
   first
    | (have hp : ¬ l.Pairwise (· < ·) := by simpa using g7
       rw [decide_eq_false (p := Rises D.nb l ∧ b ∈ l) (fun e => hp e.1.1)]
       rfl)
    | (have hbl : b ∉ l := by simpa using g13
       rw [decide_eq_false (p := Rises D.nb l ∧ b ∈ l) (fun e => hbl e.2)]
       rfl)
    | (have h0 : l[0] < 0 := by simpa using g19
       rw [decide_eq_false (p := Rises D.nb l ∧ b ∈ l) (fun e => by have := (e.1.2 _ (List.getElem_mem hpos)).1; omega)]
       rfl)
    | (have h0 : ¬ l[0] < 0 := by simpa using g19
       rw [← decide_not, decide_eq_decide, hra]
       constructor
       ·rintro h9 ⟨⟨_, a, z, ha, hz, h3, h4⟩, _⟩
        rw [List.getElem?_eq_getElem (by omega)] at hz
        injection hz with hz
        omega
       ·intro h9
        refine Classical.byContradiction fun h10 => h9 ⟨⟨hp, l[0], l[l.length - 1], List.getElem?_eq_getElem hpos, List.getElem?_eq_getElem (by omega), by omega, by omega⟩, hbl⟩)
  ·
   refine xt_gLd rfl rfl EvO.eq ?_
   have hp : l.Pairwise (· < ·) := by simpa using g7
   have hbl : b ∈ l := by simpa using g13
   have hne : l ≠ [] := fun e => by rw [e] at hbl; cases hbl
   have hpos : 0 < l.length := List.length_pos_iff.2 hne
   have hra := rises_alt (n := D.nb) hne
   refine xt_gv rfl rfl EvO.eq (v_indexO 0 rfl (by omega) hpos) ?_
   refine xt_gv rfl rfl EvO.eq (v_loadO (k := 0) hpos) ?_
   refine xt_gv rfl rfl EvO.eq v_lss ?_
   refine xt_Pk rfl ?_
   refine xt_v rfl v_move ?_
   refine xt_split 19 (fun g19 => ?_) (fun g19 => ?_)
   ·
    refine xt_gs rfl rfl EvO.eq ?_
    refine xt_gs rfl rfl EvO.eq ?_
    refine xt_gs rfl rfl EvO.eq ?_
    refine xt_gs rfl rfl EvO.eq ?_
    refine xt_gs rfl rfl EvO.eq ?_
    refine xt_gs rfl rfl EvO.eq ?_
    refine xt_gs rfl rfl EvO.eq ?_
    refine xt_gs rfl rfl EvO.eq ?_
    refine xt_gs rfl rfl EvO.eq ?_
    refine xt_gs rfl rfl EvO.eq ?_
    refine xt_gs rfl rfl EvO.eq ?_
    refine xt_gs rfl rfl EvO.eq ?_
    refine xt_Pk rfl ?_
    refine xt_v rfl v_assign ?_
    refine xt_nil ?_
    refine x_ret ?_
    refine fin1 rfl ?_
    refine ⟨congrArg Value.bool ?_, lkc⟩
    first
     | (have hp : ¬ l.Pairwise (· < ·) := by simpa using g7
        rw [decide_eq_false (p := Rises D.nb l ∧ b ∈ l) (fun e => hp e.1.1)]
        rfl)
     | (have hbl : b ∉ l := by simpa using g13
        rw [decide_eq_false (p := Rises D.nb l ∧ b ∈ l) (fun e => hbl e.2)]
        rfl)
     | (have h0 : l[0] < 0 := by simpa using g19
        rw [decide_eq_false (p := Rises D.nb l ∧ b ∈ l) (fun e => by have := (e.1.2 _ (List.getElem_mem hpos)).1; omega)]
        rfl)
     | (have h0 : ¬ l[0] < 0 := by simpa using g19
        rw [← decide_not, decide_eq_decide, hra]
        constructor
        ·rintro h9 ⟨⟨_, a, z, ha, hz, h3, h4⟩, _⟩
         rw [List.getElem?_eq_getElem (by omega)] at hz
         injection hz with hz
         omega
        ·intro h9
         refine Classical.byContradiction fun h10 => h9 ⟨⟨hp, l[0], l[l.length - 1], List.getElem?_eq_getElem hpos, List.getElem?_eq_getElem (by omega), by omega, by omega⟩, hbl⟩)
   ·
    refine xt_gLd rfl rfl EvO.eq ?_
    refine xt_gLd rfl rfl EvO.eq ?_
    refine xt_gv rfl rfl EvO.eq v_len ?_
    refine xt_gv rfl rfl EvO.eq (v_sub (by omega)) ?_
    refine xt_gv rfl rfl EvO.eq (v_indexO (l.length - 1) (by omega) (by omega) (by omega : l.length - 1 < l.length)) ?_
    refine xt_gv rfl rfl EvO.eq (v_loadO (k := l.length - 1) (by omega : l.length - 1 < l.length)) ?_
    refine xt_gLd rfl rfl EvO.eq ?_
    refine xt_gNc rfl rfl EvO.eq ?_
    refine xt_gFa rfl rfl EvO.eq ?_
    refine xt_gFa rfl rfl EvO.eq ?_
    refine xt_gLd rfl rfl EvO.eq ?_
    refine xt_gv rfl rfl EvO.eq v_geq ?_
    refine xt_Pk rfl ?_
    refine xt_v rfl v_assign ?_
    refine xt_nil ?_
    refine x_ret ?_
    refine fin1 rfl ?_
    refine ⟨congrArg Value.bool ?_, lkc⟩
    first
     | (have hp : ¬ l.Pairwise (· < ·) := by simpa using g7
        rw [decide_eq_false (p := Rises D.nb l ∧ b ∈ l) (fun e => hp e.1.1)]
        rfl)
     | (have hbl : b ∉ l := by simpa using g13
        rw [decide_eq_false (p := Rises D.nb l ∧ b ∈ l) (fun e => hbl e.2)]
        rfl)
     | (have h0 : l[0] < 0 := by simpa using g19
        rw [decide_eq_false (p := Rises D.nb l ∧ b ∈ l) (fun e => by have := (e.1.2 _ (List.getElem_mem hpos)).1; omega)]
        rfl)
     | (have h0 : ¬ l[0] < 0 := by simpa using g19
        rw [← decide_not, decide_eq_decide, hra]
        constructor
        ·rintro h9 ⟨⟨_, a, z, ha, hz, h3, h4⟩, _⟩
         rw [List.getElem?_eq_getElem (by omega)] at hz
         injection hz with hz
         omega
        ·intro h9
         refine Classical.byContradiction fun h10 => h9 ⟨⟨hp, l[0], l[l.length - 1], List.getElem?_eq_getElem hpos, List.getElem?_eq_getElem (by omega), by omega, by omega⟩, hbl⟩)

/-- (*waystation/meta.Meta).Alter$3 -/
theorem alter3_ok (vb lb eb ob : Nat) (A : Option Addr) (k : Nat) (xs : List LV) (b n o : Int) (w : World) [Blk w vb (.cells #[padd A (k * 4)] 109 (0, 0))] [Blk w lb (.cells #[.int .i64 b] 3 (0, 0))] [Blk w eb (.cells #[.int .i64 n] 2 (0, 0))] [Blk w ob (.cells #[.int .i64 o] 2 (0, 0))] [Row w A (xs.flatMap viewC)] (hk : k < xs.length) : Ret Try.prog 72 #[.pointer (some ⟨vb, 0, none⟩), .pointer (some ⟨lb, 0, none⟩), .pointer (some ⟨eb, 0, none⟩), .pointer (some ⟨ob, 0, none⟩)] w (fun v w' => v = .bool (decide (xs[k].v.lead ≠ b ∨ xs[k].v.epoch ≠ n ∨ xs[k].v.ver ≠ o)) ∧ Lk w' w NoB) := by
 have hA := row_some (w := w) (A := A) (cs := xs.flatMap viewC) inferInstance (by rw [flat_len (sz := 4) (fun _ => rfl)]; omega)
 refine ret_of_x (N := 27) (l := [.pointer (some ⟨vb, 0, none⟩), .pointer (some ⟨lb, 0, none⟩), .pointer (some ⟨eb, 0, none⟩), .pointer (some ⟨ob, 0, none⟩)]) Try.func72 rfl rfl (Nat.le_of_ble_eq_true rfl) ?_
 refine x_seq ?_
 refine x_regionL ?_
 refine xl_v v_assign ?_
 refine xl_nil ?_
 refine x_seq ?_
 refine x_drawL (NoB) (allS) (.take 0 (.take 1 (.take 2 (.take 3 (.take 4 (.take 5 (.take 6 (.take 7 (.take 8 (.take 9 (.take 10 (.take 11 (.take 12 (.take 13 (.take 14 (.take 15 (.take 16 (.take 17 (.take 18 (.take 19 (.take 20 (.take 21 (.take 22 .done))))))))))))))))))))))) mixed (by kernel_rfl) (fun _ _ _ _ _ h => h) (fun w1 l1 => ?_)
 refine xt_Ld rfl ?_
 refine xt_Nc rfl ?_
 refine xt_Fa rfl ?_
 refine xt_Ld rfl ?_
 refine xt_Ld rfl ?_
 refine xt_v rfl v_neq ?_
 refine xt_v rfl v_move ?_
 refine xt_split 11 (fun g11 => ?_) (fun g11 => ?_)
 ·
  refine xt_gs rfl rfl EvO.eq ?_
  refine xt_gs rfl rfl EvO.eq ?_
  refine xt_gs rfl rfl EvO.eq ?_
  refine xt_gs rfl rfl EvO.eq ?_
  refine xt_gs rfl rfl EvO.eq ?_
  refine xt_gs rfl rfl EvO.eq ?_
  refine xt_Pk rfl ?_
  refine xt_v rfl v_move ?_
  refine xt_gs rfl rfl EvO.eq ?_
  refine xt_gs rfl rfl EvO.eq ?_
  refine xt_gs rfl rfl EvO.eq ?_
  refine xt_gs rfl rfl EvO.eq ?_
  refine xt_gs rfl rfl EvO.eq ?_
  refine xt_gs rfl rfl EvO.eq ?_
  refine xt_Pk rfl ?_
  refine xt_v rfl v_assign ?_
  refine xt_nil ?_
  refine x_ret ?_
  refine fin1 rfl ?_
  refine ⟨congrArg Value.bool ?_, lkc⟩
  first
   | (have h0 : xs[k].v.lead ≠ b := by simpa using g11
      rw [decide_eq_true (p := _ ∨ _) (.inl h0)]; done)
   | (have h0 : xs[k].v.epoch ≠ n := by simpa using g19
      rw [decide_eq_true (p := _ ∨ _) (.inr (.inl h0))]; done)
   | (simp at g11 g19
      rw [← decide_not, decide_eq_decide]
      omega)
 ·
  refine xt_gLd rfl rfl EvO.eq ?_
  refine xt_gNc rfl rfl EvO.eq ?_
  refine xt_gFa rfl rfl EvO.eq ?_
  refine xt_gLd rfl rfl EvO.eq ?_
  refine xt_gLd rfl rfl EvO.eq ?_
  refine xt_gv rfl rfl EvO.eq v_neq ?_
  refine xt_Pk rfl ?_
  refine xt_v rfl v_move ?_
  refine xt_split 19 (fun g19 => ?_) (fun g19 => ?_)
  ·
   refine xt_gs rfl rfl EvO.eq ?_
   refine xt_gs rfl rfl EvO.eq ?_
   refine xt_gs rfl rfl EvO.eq ?_
   refine xt_gs rfl rfl EvO.eq ?_
   refine xt_gs rfl rfl EvO.eq ?_
   refine xt_gs rfl rfl EvO.eq ?_
   refine xt_Pk rfl ?_
   refine xt_v rfl v_assign ?_
   refine xt_nil ?_
   refine x_ret ?_
   refine fin1 rfl ?_
   refine ⟨congrArg Value.bool ?_, lkc⟩
   first
    | (have h0 : xs[k].v.lead ≠ b := by simpa using g11
       rw [decide_eq_true (p := _ ∨ _) (.inl h0)]; done)
    | (have h0 : xs[k].v.epoch ≠ n := by simpa using g19
       rw [decide_eq_true (p := _ ∨ _) (.inr (.inl h0))]; done)
    | (simp at g11 g19
       rw [← decide_not, decide_eq_decide]
       omega)
  ·
   refine xt_gLd rfl rfl EvO.eq ?_
   refine xt_gNc rfl rfl EvO.eq ?_
   refine xt_gFa rfl rfl EvO.eq ?_
   refine xt_gLd rfl rfl EvO.eq ?_
   refine xt_gLd rfl rfl EvO.eq ?_
   refine xt_gv rfl rfl EvO.eq v_neq ?_
   refine xt_Pk rfl ?_
   refine xt_v rfl v_assign ?_
   refine xt_nil ?_
   refine x_ret ?_
   refine fin1 rfl ?_
   refine ⟨congrArg Value.bool ?_, lkc⟩
   first
    | (have h0 : xs[k].v.lead ≠ b := by simpa using g11
       rw [decide_eq_true (p := _ ∨ _) (.inl h0)]; done)
    | (have h0 : xs[k].v.epoch ≠ n := by simpa using g19
       rw [decide_eq_true (p := _ ∨ _) (.inr (.inl h0))]; done)
    | (simp at g11 g19
       rw [← decide_not, decide_eq_decide]
       omega)

/-- (*waystation/meta.Meta).Alter$4 -/
theorem alter4_ok (ib db mb m : Nat) (D : LMeta) (A : Option Addr) (n c : Nat) (l : List Int) (w : World) (h : MetaAt w m D) (hok : D.pure.ok) [Blk w ib (.cells #[.slice A n c] 40 (0, 0))] [Blk w db (.cells #[.func (.func 69) ([] : List Value).toArray [.pointer (some ⟨mb, 0, none⟩)].toArray] 112 (0, 0))] [Blk w mb (.cells #[.pointer (some ⟨m, 0, none⟩)] 27 (0, 0))] [Row w A (ints l)] (hl : l.length = n) (hn : n ≤ 1000000) (hr : Rises D.nb l) : Ret Try.prog 73 #[.pointer (some ⟨ib, 0, none⟩), .pointer (some ⟨db, 0, none⟩)] w (fun v w' => v = .bool (l.any (fun x => !D.pure.live x)) ∧ Lk w' w NoB) := by
 obtain ⟨hll, hvl, hwl, hnb, hpl, _⟩ := lens hok
 refine ret_of_x (N := 6) (l := [.pointer (some ⟨ib, 0, none⟩), .pointer (some ⟨db, 0, none⟩)]) Try.func73 rfl rfl (Nat.le_of_ble_eq_true rfl) ?_
 refine x_seq ?_
 refine x_regionL ?_
 refine xl_v v_assign ?_
 refine xl_nil ?_
 refine x_seq ?_
 refine x_regionL ?_
 refine xl_Ld ?_
 refine xl_Ld ?_
 refine xl_call (cfI_ok A n c (ints l) 69 [] [.pointer (some ⟨mb, 0, none⟩)] (fun k => if h : k < l.length then !D.pure.live l[k] else false) w (by simpa [ints] using hl) (by omega) (fun k hk _ W lw => by
   have hk2 : k < l.length := by simpa [ints] using hk
   obtain ⟨i, hi, hi2⟩ := nat_of (hr.2 _ (List.getElem_mem hk2))
   have hi3 : i < D.lives.length := by omega
   have hMW := h.ext (kpc : Keep NoB w W)
   haveI : Blk W mb _ := inferInstance
   rw [dif_pos hk2]
   have e1 : (ints l)[k] = .int .i64 (i : Int) := by simp [ints, hi]
   rw [e1]
   rw [hi, live_at2 hi3]
   exact CallV.of_ret (alter1_ok mb m D i W hMW hi3))) ?_
 rintro _ w1 ⟨rfl, lk⟩
 refine xl_v v_assign ?_
 refine xl_nil ?_
 refine x_ret ?_
 refine fin1 rfl ?_
 refine ⟨congrArg Value.bool ?_, lkc⟩
 rw [← hl]
 exact range_any l _ _ (fun k hk => by rw [dif_pos hk])
set_option maxHeartbeats 1000000 in
/-- (*waystation/meta.Meta).Alter -/
theorem alter_ok (m : Nat) (D : LMeta) (p b n o : Int) (A : Option Addr) (c ln : Nat) (l : List Int) (w : World) (h : MetaAt w m D) (hok : D.pure.ok) [hrl : Row w A (ints l)] (hl : l.length = ln) (hln : ln ≤ 1000) (hsm : A.isSome = true ∨ ln = 0) : Ret Try.prog 31 #[.pointer (some ⟨m, 0, none⟩), .int .i64 p, .int .i64 b, .int .i64 n, .int .i64 o, .slice A ln c] w (fun v w' => v = .int .i64 (D.pure.alter p b n o l).2 ∧ Made m D w (D.pure.alter p b n o l).1 w' ∧ Lk w' w (MetaB m D)) := by
 haveI hb : Blk w m _ := ⟨h.hb⟩
 have hmost : most = 2147483647 := rfl
 haveI hrB : RowB w A w (ints l) := rowB_of hrl.row
 haveI hV : OwnI w D.VA _ _ _ _ _ _ _ := ⟨h.views⟩
 obtain ⟨hll, hvl, hwl, hnb, hpl, _⟩ := lens hok
 refine ret_of_x (N := 65) (l := [.pointer (some ⟨m, 0, none⟩), .int .i64 p, .int .i64 b, .int .i64 n, .int .i64 o, .slice A ln c]) Try.func31 rfl rfl (Nat.le_of_ble_eq_true rfl) ?_
 refine x_seq ?_
 refine x_regionL ?_
 refine xl_e (e_box fun b1 w1 n1 l1 k1 => ?_)
 refine xl_e (e_box fun b2 w2 n2 l2 k2 => ?_)
 refine xl_e (e_box fun b3 w3 n3 l3 k3 => ?_)
 refine xl_e (e_box fun b4 w4 n4 l4 k4 => ?_)
 refine xl_e (e_box fun b5 w5 n5 l5 k5 => ?_)
 refine xl_v v_assign ?_
 refine xl_nil ?_
 refine x_seq ?_
 refine x_seq ?_
 refine x_drawL (NoB) (allS) (.take 0 (.take 2 (.take 3 (.take 5 (.take 6 (.eff 1 (.eff 4 (.eff 7 (.eff 8 (.eff 9 (.take 10 .done))))))))))) mixed (by kernel_rfl) (fun _ _ _ _ _ h => h) (fun w6 l6 => ?_)
 refine xt_Ld rfl ?_
 refine xt_Ld rfl ?_
 refine xt_v rfl v_move ?_
 refine xt_Ld rfl ?_
 refine xt_Ld rfl ?_
 refine xt_call rfl (isNone_ok m D w6 (h.ext (kpc : Keep NoB w w6))) ?_
 rintro _ w7 ⟨⟨x1, rfl, hw1, hb1, hc1⟩, lk1⟩
 refine ⟨kpc, ?_⟩
 refine xt_call rfl (part_ok m D p w7 (h.ext (kpc : Keep NoB w w7))) ?_
 rintro _ w8 ⟨⟨x2, rfl, hw2, hb2, hc2⟩, lk2⟩
 refine ⟨kpc, ?_⟩
 refine xt_call rfl (broker_ok m D b w8 (h.ext (kpc : Keep NoB w w8))) ?_
 rintro _ w9 ⟨⟨x3, rfl, hw3, hb3, hc3⟩, lk3⟩
 refine ⟨kpc, ?_⟩
 refine xt_e rfl (e_buildSliceM (vs := [x1, x2, x3].flatMap chkC) rfl rfl rfl fun b7 w10 n7 l7 k7 => ?_)
 refine xt_call rfl (first3_ok _ _ x1 x2 x3 w10 (hc1.ext lkc) (fun _ => hc2.ext lkc) (fun _ _ => hc3.ext lkc) (if ¬ inN p D.np ∨ ¬ inN b D.nb then 2 else 0) (by rw [hb1, hb2, hw2, hb3, hw3, decide_eq_false (by omega)]; by_cases e : inN p D.np <;> by_cases e2 : inN b D.nb <;> simp [e, e2])) ?_
 rintro _ w11 ⟨rfl, lk4⟩
 refine ⟨kpc, ?_⟩
 refine xt_v rfl v_assign ?_
 refine xt_nil ?_
 refine x_seq ?_
 refine x_regionL ?_
 refine xl_v v_move ?_
 refine xl_v v_neq ?_
 refine xl_nil ?_
 first | refine x_condP (fun c1 => ?_) (fun c1 => ?_) | refine x_condN (fun c1 => ?_) (fun c1 => ?_) | refine x_condE (fun c1 => ?_) (fun c1 => ?_)
 ·
  have hn : ¬ inN p D.np ∨ ¬ inN b D.nb := Classical.byContradiction fun e => by rw [if_neg e] at c1; exact c1 rfl
  have hr : D.pure.alter p b n o l = (D.pure, 2) := if_pos (hn.imp id .inl)
  refine x_seq ?_
  refine x_regionL ?_
  refine xl_v v_move ?_
  refine xl_v v_assign ?_
  refine xl_nil ?_
  refine x_ret ?_
  refine fin1 rfl ?_
  exact ⟨by rw [hr, if_pos hn], Made.stay h kpc (by rw [hr]), lkc⟩
 ·
  have hn0 : ¬ (¬ inN p D.np ∨ ¬ inN b D.nb) := fun e => by simp [e] at c1
  have hn : inN p D.np := Classical.byContradiction fun e => hn0 (.inl e)
  have hnb2 : inN b D.nb := Classical.byContradiction fun e => hn0 (.inr e)
  have hr0 : D.pure.alter p b n o l = if ¬ (Rises D.nb l ∧ b ∈ l) then (D.pure, 2) else if (D.pure.view p).lead ≠ b ∨ (D.pure.view p).epoch ≠ n ∨ (D.pure.view p).ver ≠ o then (D.pure, 200) else if l.any (fun x => !D.pure.live x) then (D.pure, 201) else if (D.pure.view p).ver = most then (D.pure, 204) else (D.pure.setV p ⟨(D.pure.view p).lead, (D.pure.view p).epoch, (D.pure.view p).ver + 1, l⟩, 0) := by
   rw [Meta.alter]
   by_cases e : Rises D.nb l ∧ b ∈ l
   ·rw [if_neg (not_not_intro e), if_neg]
    rintro (q | q | q | q)
    ·exact q hn
    ·exact q hnb2
    ·exact q e.1
    ·exact q e.2
   ·rw [if_pos e, if_pos]
    by_cases e2 : Rises D.nb l
    ·exact .inr (.inr (.inr fun q => e ⟨e2, q⟩))
    ·exact .inr (.inr (.inl e2))
  obtain ⟨i, rfl, hi⟩ := nat_of hn
  have hi : i < D.vs.length := by omega
  have ho := hok.view hn
  rw [view_at hi] at hr0 ho
  have hv0 := ho.v0
  have hv1 := ho.v1
  have hi' : D.vs[i]? = some D.vs[i] := List.getElem?_eq_getElem hi
  have hVA : D.VA.isSome = true := row_some (w := w) (A := D.VA) (cs := D.vs.flatMap viewC) inferInstance (by rw [flat_len (sz := 4) (fun _ => rfl)]; omega)
  haveI apm : ApB D.VA m := h.apm (s := .v) rfl nofun
  refine x_skip ?_
  refine x_seq ?_
  refine x_regionL ?_
  refine xl_Ld ?_
  refine xl_Nc ?_
  refine xl_Fa ?_
  refine xl_Ld ?_
  refine xl_v v_move ?_
  refine xl_v (v_indexF i (by decide) rfl (by omega) hi) ?_
  refine xl_e (e_alloc fun bv w12 nv lv kv => ?_)
  refine xl_s (e_store fun w13 l13 k13 => ?_)
  refine xl_nil ?_
  refine x_seq ?_
  refine x_regionL ?_
  refine xl_v v_makeFunc ?_
  refine xl_e (e_alloc fun bd w14 nd ld kd => ?_)
  refine xl_s (e_store fun w15 l15 k15 => ?_)
  refine xl_nil ?_
  refine x_seq ?_
  have hc4 : ∀ W, Lk W w15 NoB → ChkAt W ⟨70, [], [.pointer (some ⟨b5, 0, none⟩), .pointer (some ⟨b2, 0, none⟩), .pointer (some ⟨b1, 0, none⟩)], 2, !decide (Rises D.nb l ∧ b ∈ l)⟩ := fun W l1 W2 l2 => by
   have hM2 := h.ext ((kpc : Keep NoB w w15).trans (l1.keep.trans l2.keep))
   haveI : Lk W2 w15 NoB := ⟨l1.keep.trans l2.keep⟩
   haveI : Row W2 A (ints l) := inferInstance
   haveI : Blk W2 b5 _ := inferInstance
   haveI : Blk W2 b2 _ := inferInstance
   haveI : Blk W2 b1 _ := inferInstance
   exact CallV.of_ret (alter2_ok b5 b2 b1 m D A ln c l b W2 hM2 hl (by omega))
  have hc5 : ∀ W, Lk W w15 NoB → ChkAt W ⟨72, [], [.pointer (some ⟨bv, 0, none⟩), .pointer (some ⟨b2, 0, none⟩), .pointer (some ⟨b3, 0, none⟩), .pointer (some ⟨b4, 0, none⟩)], 200, decide (D.vs[i].v.lead ≠ b ∨ D.vs[i].v.epoch ≠ n ∨ D.vs[i].v.ver ≠ o)⟩ := fun W l1 W2 l2 => by
   haveI : Lk W2 w15 NoB := ⟨l1.keep.trans l2.keep⟩
   haveI : Row W2 D.VA (D.vs.flatMap viewC) := inferInstance
   haveI : Blk W2 bv _ := inferInstance
   haveI : Blk W2 b2 _ := inferInstance
   haveI : Blk W2 b3 _ := inferInstance
   haveI : Blk W2 b4 _ := inferInstance
   exact CallV.of_ret (alter3_ok bv b2 b3 b4 D.VA i D.vs b n o W2 hi)
  have hc6 : Rises D.nb l → ∀ W, Lk W w15 NoB → ChkAt W ⟨73, [], [.pointer (some ⟨b5, 0, none⟩), .pointer (some ⟨bd, 0, none⟩)], 201, l.any (fun x => !D.pure.live x)⟩ := fun hrs W l1 W2 l2 => by
   have hM2 := h.ext ((kpc : Keep NoB w w15).trans (l1.keep.trans l2.keep))
   haveI : Lk W2 w15 NoB := ⟨l1.keep.trans l2.keep⟩
   haveI : Row W2 A (ints l) := inferInstance
   haveI : Blk W2 b5 _ := inferInstance
   haveI : Blk W2 bd _ := inferInstance
   haveI : Blk W2 b1 _ := inferInstance
   exact CallV.of_ret (alter4_ok b5 bd b1 m D A ln c l W2 hM2 hok hl (by omega) hrs)
  refine x_regionL ?_
  refine xl_v v_makeFunc ?_
  refine xl_v v_build ?_
  refine xl_v v_makeFunc ?_
  refine xl_v v_build ?_
  refine xl_v v_makeFunc ?_
  refine xl_v v_build ?_
  refine xl_Ld ?_
  refine xl_Nc ?_
  refine xl_Fa ?_
  refine xl_e (e_buildSlice1 rfl fun b8 w16 n8 l8 k8 => ?_)
  haveI : Row w16 (some ⟨b8, 0, none⟩) (([(D.VA, i * 4 + 2, D.vs[i].v.ver)] : List PtI).map ptC) := ⟨row_blk Blk.eq⟩
  refine xl_call (end_ok _ 1 _ [(D.VA, i * 4 + 2, D.vs[i].v.ver)] w16 rfl (by omega) (forall1 (ptV hi 2 _ rfl))) ?_
  rintro _ w17 ⟨⟨x7, rfl, hw7, hb7, hc7⟩, lk5⟩
  refine xl_e (e_buildSliceM (vs := [⟨70, [], [.pointer (some ⟨b5, 0, none⟩), .pointer (some ⟨b2, 0, none⟩), .pointer (some ⟨b1, 0, none⟩)], 2, !decide (Rises D.nb l ∧ b ∈ l)⟩, ⟨72, [], [.pointer (some ⟨bv, 0, none⟩), .pointer (some ⟨b2, 0, none⟩), .pointer (some ⟨b3, 0, none⟩), .pointer (some ⟨b4, 0, none⟩)], 200, decide (D.vs[i].v.lead ≠ b ∨ D.vs[i].v.epoch ≠ n ∨ D.vs[i].v.ver ≠ o)⟩, ⟨73, [], [.pointer (some ⟨b5, 0, none⟩), .pointer (some ⟨bd, 0, none⟩)], 201, l.any (fun x => !D.pure.live x)⟩, x7].flatMap chkC) rfl rfl rfl fun b9 w18 n9 l9 k9 => ?_)
  refine xl_call (first4_ok _ _ _ _ _ x7 w18 (hc4 _ lkc) (fun _ => hc5 _ lkc) (fun hh _ => hc6 (by have q : (!decide (Rises D.nb l ∧ b ∈ l)) = false := hh; simp at q; exact q.1) _ lkc) (fun _ _ _ => hc7.ext lkc) (if ¬ (Rises D.nb l ∧ b ∈ l) then 2 else if D.vs[i].v.lead ≠ b ∨ D.vs[i].v.epoch ≠ n ∨ D.vs[i].v.ver ≠ o then 200 else if l.any (fun x => !D.pure.live x) then 201 else if D.vs[i].v.ver = most then 204 else 0) (by
    rw [hb7, hw7]
    simp only [List.any_cons, List.any_nil, Bool.or_false]
    have q2 : decide (most ≤ D.vs[i].v.ver) = decide (D.vs[i].v.ver = most) := by rw [decide_eq_decide]; omega
    rw [q2]
    by_cases e1 : Rises D.nb l ∧ b ∈ l
    ·rw [if_neg (not_not_intro e1), decide_eq_true e1]
     by_cases e2 : D.vs[i].v.lead ≠ b ∨ D.vs[i].v.epoch ≠ n ∨ D.vs[i].v.ver ≠ o
     ·rw [if_pos e2, decide_eq_true e2]; rfl
     ·rw [if_neg e2, decide_eq_false e2]
      by_cases e3 : D.vs[i].v.ver = most <;> cases l.any (fun x => !D.pure.live x) <;> simp [e3]
    ·rw [if_pos e1, decide_eq_false e1]; rfl)) ?_
  rintro _ w19 ⟨rfl, lk6⟩
  refine xl_v v_assign ?_
  refine xl_nil ?_
  refine x_seq ?_
  refine x_seq ?_
  refine x_regionL ?_
  refine xl_v v_move ?_
  refine xl_v v_neq ?_
  refine xl_nil ?_
  first | refine x_condP (fun c2 => ?_) (fun c2 => ?_) | refine x_condN (fun c2 => ?_) (fun c2 => ?_) | refine x_condE (fun c2 => ?_) (fun c2 => ?_)
  ·
   have hE : D.pure.alter (i : Int) b n o l = (D.pure, if ¬ (Rises D.nb l ∧ b ∈ l) then 2 else if D.vs[i].v.lead ≠ b ∨ D.vs[i].v.epoch ≠ n ∨ D.vs[i].v.ver ≠ o then 200 else if l.any (fun x => !D.pure.live x) then 201 else if D.vs[i].v.ver = most then 204 else 0) := by
    rw [hr0]
    split
    ·rfl
    next e0 =>
    rw [if_neg e0] at c2
    split
    ·rfl
    next e1 =>
    rw [if_neg e1] at c2
    split
    ·rfl
    next e2 =>
    rw [if_neg e2] at c2
    split
    ·rfl
    next e3 =>
    rw [if_neg e3] at c2
    exact absurd rfl c2
   refine x_seq ?_
   refine x_regionL ?_
   refine xl_v v_move ?_
   refine xl_v v_assign ?_
   refine xl_nil ?_
   refine x_ret ?_
   refine fin1 rfl ?_
   exact ⟨by rw [hE], Made.stay h kpc (by rw [hE]), lkc⟩
  ·
   have e0 : ¬ ¬ (Rises D.nb l ∧ b ∈ l) := fun e => by rw [if_pos e] at c2; omega
   have e1 : ¬ (D.vs[i].v.lead ≠ b ∨ D.vs[i].v.epoch ≠ n ∨ D.vs[i].v.ver ≠ o) := fun e => by rw [if_neg e0, if_pos e] at c2; omega
   have e2 : ¬ (l.any (fun x => !D.pure.live x) = true) := fun e => by rw [if_neg e0, if_neg e1, if_pos e] at c2; omega
   have e3 : ¬ D.vs[i].v.ver = most := fun e => by rw [if_neg e0, if_neg e1, if_neg e2, if_pos e] at c2; omega
   rw [if_neg e0, if_neg e1, if_neg e2, if_neg e3] at hr0
   obtain ⟨wP, hwP⟩ : ∃ x, x = w19 := ⟨_, rfl⟩
   have hkP : Keep NoB w wP := by rw [hwP]; exact kpc
   refine x_skip ?_
   refine x_seq ?_
   refine x_drawL (OwnB (.slice D.VA D.vs.length D.vc)) (allS) (.take 0 (.take 1 (.eff 2 (.take 3 (.take 4 (.eff 5 .done)))))) mixed (by kernel_rfl) (fun _ _ _ _ _ h => h) (fun w20 l20 => ?_)
   refine xt_Ld rfl ?_
   refine xt_Ld rfl ?_
   have hbP : wP.heap.size ≤ (w20).heap.size := by rw [hwP]; exact Ge.le
   refine xt_call rfl (cloneI_ok A ln c (ints l) w20 (by simpa [ints] using hl) (by omega) (ints_one l) hsm) ?_
   rintro _ w21 ⟨⟨A9, c9, rfl, hown⟩, lk9⟩
   refine ⟨kpc, ?_⟩
   subst hl
   haveI o9 : OwnI w21 A9 _ _ _ _ _ _ _ := ⟨hown⟩
   haveI na9 : NewA A9 w20 := newA_of hown (Nat.le_refl _)
   refine xt_Nc rfl ?_
   refine xt_Fa rfl ?_
   refine xt_s rfl (e_storeG ⟨⟨D.vs[i].v.lead, D.vs[i].v.epoch, D.vs[i].v.ver, l⟩, A9, c9⟩ hi rfl (by decide) rfl fun w22 ya hya hia hla hga l13 on13 => ?_)
   refine xt_nil ?_
   refine x_seq ?_
   refine x_regionL ?_
   refine xl_Ld ?_
   refine xl_Nc ?_
   refine xl_Fa ?_
   refine xl_v (v_congr (u := .int .i64 D.vs[i].v.ver) (v_loadFf hia) (by rw [hga])) ?_
   refine xl_v (v_add (by omega)) ?_
   refine xl_Nc ?_
   refine xl_Fa ?_
   refine xl_s (e_storeG ⟨⟨D.vs[i].v.lead, D.vs[i].v.epoch, D.vs[i].v.ver + 1, l⟩, A9, c9⟩ hia hla (by decide) (by rw [hga]; rfl) fun w23 yc hyc hic hlc hgc l15 on15 => ?_)
   rw [hya, List.set_set] at hyc
   have hM : Made m D w (D.pure.alter (i : Int) b n o l).1 w23 := by
    rw [hr0]
    exact Made.setV h hkP hi ⟨⟨D.vs[i].v.lead, D.vs[i].v.epoch, D.vs[i].v.ver + 1, l⟩, A9, c9⟩ (S := OwnB (.slice D.VA D.vs.length D.vc)) (W' := w23) (by rw [hwP]; exact kpc) (fun k _ e => .inl (ownB_blk.1 e)) (by have := (OwnI.own : World.ownsRow w23 _ _ _ (.slice D.VA _ D.vc) _ _); rw [hyc] at this; exact this) (own_mono (OwnI.own : World.ownsRow w23 _ _ _ (.slice A9 _ _) _ _) (Nat.zero_le _)) (.inr (fun k e => Nat.le_trans hbP (own_blk hown e).1))
   refine xl_nil ?_
   refine x_seq ?_
   refine x_regionL ?_
   refine xl_v v_assign ?_
   refine xl_nil ?_
   refine x_ret ?_
   refine fin1 rfl ?_
   exact ⟨by rw [hr0], hM, lkc⟩
end Go.Proofs.Ytnjpladlfiaojaa
