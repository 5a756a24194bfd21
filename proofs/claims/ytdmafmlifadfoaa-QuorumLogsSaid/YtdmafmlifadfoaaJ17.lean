/-
 Walks, printed by a program of this workplace (wip/tools/sx.py) off the functions' code and a text of contracts.
-/
import Derived.Test.YtdmafmlifadfoaaJAN
set_option linter.all false
set_option maxRecDepth 100000
set_option synthInstance.maxSize 100000
set_option synthInstance.maxHeartbeats 400000
namespace Go.Proofs.Ytdmafmlifadfoaa
open Go.Wst
open Go.Wst.Qm
theorem newD_x (X : Nat → Prop) (n : Int) (hn : n = 1 ∨ n = 3 ∨ n = 5) (q : Nat) (D : LQu) (w : World) (hQ : QuAt w (fun _ => False) q D) (hp : D.pure = Qu.new n.toNat) (hX : ∀ k, X k → k < w.heap.size ∧ ¬ QuB q D k) :
    Ret Try.prog 21 #[.int .i64 n] w (fun v w' => (∃ R, v = .tuple #[.agg (dqC R).toArray, .int .i64 0] ∧ PairQ X q D R D.pure.tell w') ∧ Lk w' w NoB) := by
 refine (newD_ok n w).mono ?_
 rintro v w' ⟨h | h, lk⟩
 ·obtain ⟨_, R, rfl, hR, hA⟩ := h
  refine ⟨⟨R, rfl, ⟨⟨_, _, hQ.ext lk.keep, by rw [hp]; exact inv_newN hn, fun k e => e.elim⟩, hA.wide (fun k _ e => ⟨fun e2 => ?_, fun e2 => ?_⟩), by rw [hR, hp, tell_newQ], fun k e => ⟨Nat.lt_of_lt_of_le (hX k e).1 lk.keep.size, (hX k e).2⟩⟩⟩, lk⟩
  ·have := hQ.lt k e2
   omega
  ·have := (hX k e2).1
   omega
 ·exact absurd hn h.1
set_option maxHeartbeats 2000000 in
/-- waystation/waystationlaw06.played -/
theorem played_ok (n : Int) (A : Option Addr) (m c : Nat) (l : List Pk) (w : World) [hrow : Row w A (l.flatMap pkC)] (hl : l.length = m) (hm : m ≤ 1000) (hn : n = 1 ∨ n = 3 ∨ n = 5) : Ret Try.prog 25 #[.int .i64 n, .slice A m c] w (fun v w' => (∃ q D R, v = .tuple #[.pointer (some ⟨q, 0, none⟩), .agg (dqC R).toArray, .bool true] ∧ PairQ NoB q D R D.pure.tell w' ∧ D.pure = (Qu.new n.toNat).run l ∧ ∀ j, QuB q D j → w.heap.size ≤ j) ∧ Lk w' w NoB) := by
 haveI hrw : RowB w A w (l.flatMap pkC) := rowB_of hrow.row
 refine ret_of_x (N := 68) (l := [.int .i64 n, .slice A m c]) Try.func25 rfl rfl (Nat.le_of_ble_eq_true rfl) ?_
 refine x_seq ?_
 refine x_regionL ?_
 refine xl_v v_assign ?_
 refine xl_e (e_alloc fun b5 w1 n5 l5 k5 => ?_)
 refine xl_v v_assign ?_
 refine xl_nil ?_
 refine x_seq ?_
 have hb5w : w.heap.size ≤ b5 := Nat.le_of_eq n5.eq.symm
 refine x_regionL ?_
 refine xl_v v_move ?_
 refine xl_call (newQ_p n hn w1) ?_
 rintro _ w2 ⟨⟨q, D, rfl, hQ, hp, hnw⟩, lk3⟩
 have hb5q : ¬ QuB q D b5 := fun e => by
  have h1 := hnw b5 e
  have h2 : b5 < (w1).heap.size := Has.lt
  omega
 refine xl_v v_move ?_
 refine xl_v v_extract ?_
 refine xl_v v_extract ?_
 refine xl_v v_assign ?_
 refine xl_v v_assign ?_
 refine xl_nil ?_
 refine x_seq ?_
 refine x_regionL ?_
 refine xl_v v_move ?_
 refine xl_call (newD_x (Ap1 b5) n hn q D w2 (hQ.ext (kpc : Keep NoB _ w2)) hp (fun k e => by have e2 : k = b5 := e; subst e2; exact ⟨Has.lt, hb5q⟩)) ?_
 rintro _ w3 ⟨⟨R, rfl, hP⟩, lk4⟩
 refine xl_v v_move ?_
 refine xl_v v_extract ?_
 refine xl_v v_extract ?_
 refine xl_e (e_alloc fun b9 w4 n9 l9 k9 => ?_)
 have hP7 := hP.add (kpc : Keep NoB _ w4) (Nat.le_of_eq n9.eq.symm) Has.lt
 have hne : b9 ≠ b5 := NeB.ne
 refine xl_s (e_storeA fun w5 l26 k26 => ?_)
 refine xl_v v_assign ?_
 refine xl_nil ?_
 refine x_seq ?_
 refine x_regionL ?_
 refine xl_v v_move ?_
 refine xl_call (num_ok _ _) ?_
 rintro _ _ ⟨rfl, rfl⟩
 refine xl_v (v_eqlT rfl) ?_
 refine xl_v v_move ?_
 refine xl_gv rfl EvO.eq v_move ?_
 refine xl_gv rfl EvO.eq (v_eqlT rfl) ?_
 refine xl_Pk ?_
 refine xl_v v_assign ?_
 refine xl_nil ?_
 refine x_seq ?_
 refine x_seq ?_
 refine x_regionL ?_
 refine xl_v v_assign ?_
 refine xl_nil ?_
 refine x_block ?_
 have hP8 := hP7.keep (kpc : Keep (OneB b9) _ w5) (fun _ _ e => .inr e)
 have hb5l : (w5).heap[b5]? = _ := Blk.eq
 haveI ne95 : NeB b9 b5 := ⟨hne⟩
 refine x_loop (fun t τ ds w' => ds = [] ∧ ∃ (k : Nat) (D : LQu) (R : LDq), t = m - k ∧ k ≤ m ∧ PairQ (fun j => Ap1 b5 j ∨ j = b9) q D R D.pure.tell w' ∧ D.pure = (Qu.new n.toNat).run (l.take k) ∧ (∀ j, QuB q D j → w.heap.size ≤ j) ∧ Blk w' b9 (.cells (dqC R).toArray 48 (0, 0)) ∧ w'.heap[b5]? = some (.cells [.slice none 0 0, .slice none 0 0].toArray 48 (0, 0)) ∧ Ev τ 1 (.slice A m c) ∧ Ev τ 5 (.pointer (some ⟨b5, 0, none⟩)) ∧ Ev τ 7 (.pointer (some ⟨q, 0, none⟩)) ∧ Ev τ 9 (.pointer (some ⟨b9, 0, none⟩)) ∧ Ev τ 11 (.bool true) ∧ Ev τ 12 (.int .i64 (k : Int)) ∧ Lk w' w NoB) (m) ?start ?round
 case start =>
  exact ⟨rfl, 0, D, R, rfl, Nat.zero_le _, hP8, hp, fun j e => Nat.le_trans Ge.le (hnw j e), inferInstance, hb5l, inferInstance, inferInstance, inferInstance, inferInstance, inferInstance, evc, lkc⟩
 case round =>
  intro m τ7 ds7 w7 hI
  clear hP8 hb5l
  obtain ⟨rfl, k, D, R, rfl, hk, hP, hpr, hq, kb9, hb5l, e1, e5, e7, e9, e11, e12, lk⟩ := hI
  haveI kb5 : Blk w7 b5 _ := ⟨hb5l⟩
  haveI nb9 : NotS (QuB q D) b9 := ⟨(hP.xl b9 (.inr rfl)).2⟩
  haveI nb5 : NotS (QuB q D) b5 := ⟨(hP.xl b5 (.inl rfl)).2⟩
  haveI sD : SubF (QuB q D) NoB w := ⟨fun j hj e => by have := hq j e; omega⟩
  refine x_seq ?_
  refine x_seq ?_
  refine x_regionL ?_
  refine xl_v v_move ?_
  refine xl_v v_move ?_
  refine xl_v v_len ?_
  refine xl_v v_lss ?_
  refine xl_v v_move ?_
  refine xl_split 36 (fun g36 => ?_) (fun g36 => ?_)
  ·
   refine xl_gv rfl EvO.eq v_move ?_
   refine xl_Pk ?_
   refine xl_nil ?_
   refine x_condE (fun c1 => ?_) (fun c1 => ?_)
   ·
    have hk1 : k < l.length := by
     first
      | omega
      | (simp at g36; omega)
      | (simp at c1; omega)
    haveI hoA : OldA w A := old_pk hrow.row (by omega)
    refine x_skip ?_
    refine x_seq ?_
    refine x_block ?_
    refine x_seq ?_
    refine x_drawL (NewS w7) (allS) (.take 0 (.take 1 (.take 2 (.take 3 (.take 4 (.fork 5 (.take 6 (.take 7 (.take 8 (.eff 9 (.eff 10 (.take 11 .done)))))) 9 (.eff 5 (.take 6 (.take 7 (.take 8 (.eff 10 (.take 11 .done)))))))))))) mixed (by kernel_rfl) (fun _ _ _ _ _ h => h) (fun w8 l8 => ?_)
    refine xt_Lb rfl ?_
    refine xt_v rfl v_move ?_
    refine xt_v rfl v_move ?_
    refine xt_v rfl (v_indexF k (by decide) rfl (by omega) hk1) ?_
    refine xt_v rfl (v_loadF (k := k) (by decide) hk1) ?_
    refine xt_fork ?_ ?_
    ·
     refine xt_call rfl (stepD_p _ q D R l[k] w8 (hP.mid (kpc : Keep NoB _ w8))) ?_
     rintro _ w9 ⟨⟨R1, rfl, hP1⟩, lk8⟩
     refine ⟨kpc, ?_⟩
     refine xt_v rfl v_move ?_
     refine xt_v rfl v_extract ?_
     refine xt_v rfl v_extract ?_
     refine xt_e rfl (e_alloc fun b10 w10 n10 l10 k10 => ?_)
     refine xt_s rfl (e_storeA fun w11 l11 k11 => ?_)
     refine xt_v rfl v_assign ?_
     refine xt_nil ?_
     refine x_seq ?_
     haveI nb10 : NotS (QuB q D) b10 := ⟨(hP.up b10 (by rw [n10.eq]; exact Ge.le)).1⟩
     have hP3 : PairQ (fun j => Ap1 b5 j ∨ j = b9) q D R1 (D.pure.step l[k]).1.tell w11 := by
      first
       | exact (hP1.ext (kpc : Keep NoB _ w11)).less (fun _ e => .inl e)
       | exact (hP1.keep (kpc : Keep (OneB b10) _ w11) (fun k _ e => .inr (by have e2 : k = b10 := e; subst e2; exact ⟨by rw [n10.eq]; exact Ge.le, Has.lt⟩))).less (fun _ e => .inl e)
     refine x_regionL ?_
     refine xl_v v_move ?_
     refine xl_v v_move ?_
     refine xl_v v_move ?_
     refine xl_v (v_indexF k (by decide) rfl (by omega) hk1) ?_
     refine xl_v (v_loadF (k := k) (by decide) hk1) ?_
     refine xl_call (stepQ_p _ q D R1 l[k] w11 (hP3.ext (kpc : Keep NoB _ w11))) ?_
     rintro _ w12 ⟨rfl, ⟨D1, hP2, hp2, hb2⟩, lk9⟩
     refine xl_call (num_ok _ _) ?_
     rintro _ _ ⟨rfl, rfl⟩
     refine xl_v v_move ?_
     refine xl_v (v_eqlT rfl) ?_
     refine xl_v v_assign ?_
     refine xl_nil ?_
     refine x_regionL ?_
     refine xl_Lb ?_
     refine xl_s (e_storeA fun w14 l91 k91 => ?_)
     refine xl_nil ?_
     refine x_regionL ?_
     refine xl_v v_move ?_
     refine xl_v (v_add (by omega)) ?_
     refine xl_v v_assign ?_
     refine xl_nil ?_
     refine ⟨_, ?_, rfl, k + 1, D1, R1, rfl, by omega, hP2.keep (kpc : Keep (OneB b9) _ _) (fun _ _ e => .inr e), ?_, fun j e => (hb2 j e).elim (hq j) (fun e => Nat.le_trans Ge.le e), inferInstance, Blk.eq, inferInstance, inferInstance, inferInstance, inferInstance, inferInstance, evc, lkc⟩
     ·omega
     ·rw [hp2, hpr, take_snoc l k hk1, run_snoc]
    ·
     refine xt_e rfl (e_alloc fun b10 w15 n10 l10 k10 => ?_)
     refine xt_call rfl (stepD_p _ q D R l[k] w15 (hP.mid (kpc : Keep NoB _ w15))) ?_
     rintro _ w16 ⟨⟨R1, rfl, hP1⟩, lk8⟩
     refine ⟨kpc, ?_⟩
     refine xt_v rfl v_move ?_
     refine xt_v rfl v_extract ?_
     refine xt_v rfl v_extract ?_
     refine xt_s rfl (e_storeA fun w17 l17 k17 => ?_)
     refine xt_v rfl v_assign ?_
     refine xt_nil ?_
     refine x_seq ?_
     haveI nb10 : NotS (QuB q D) b10 := ⟨(hP.up b10 (by rw [n10.eq]; exact Ge.le)).1⟩
     have hP3 : PairQ (fun j => Ap1 b5 j ∨ j = b9) q D R1 (D.pure.step l[k]).1.tell w17 := by
      first
       | exact (hP1.ext (kpc : Keep NoB _ w17)).less (fun _ e => .inl e)
       | exact (hP1.keep (kpc : Keep (OneB b10) _ w17) (fun k _ e => .inr (by have e2 : k = b10 := e; subst e2; exact ⟨by rw [n10.eq]; exact Ge.le, Has.lt⟩))).less (fun _ e => .inl e)
     refine x_regionL ?_
     refine xl_v v_move ?_
     refine xl_v v_move ?_
     refine xl_v v_move ?_
     refine xl_v (v_indexF k (by decide) rfl (by omega) hk1) ?_
     refine xl_v (v_loadF (k := k) (by decide) hk1) ?_
     refine xl_call (stepQ_p _ q D R1 l[k] w17 (hP3.ext (kpc : Keep NoB _ w17))) ?_
     rintro _ w18 ⟨rfl, ⟨D1, hP2, hp2, hb2⟩, lk9⟩
     refine xl_call (num_ok _ _) ?_
     rintro _ _ ⟨rfl, rfl⟩
     refine xl_v v_move ?_
     refine xl_v (v_eqlT rfl) ?_
     refine xl_v v_assign ?_
     refine xl_nil ?_
     refine x_regionL ?_
     refine xl_Lb ?_
     refine xl_s (e_storeA fun w20 l91 k91 => ?_)
     refine xl_nil ?_
     refine x_regionL ?_
     refine xl_v v_move ?_
     refine xl_v (v_add (by omega)) ?_
     refine xl_v v_assign ?_
     refine xl_nil ?_
     refine ⟨_, ?_, rfl, k + 1, D1, R1, rfl, by omega, hP2.keep (kpc : Keep (OneB b9) _ _) (fun _ _ e => .inr e), ?_, fun j e => (hb2 j e).elim (hq j) (fun e => Nat.le_trans Ge.le e), inferInstance, Blk.eq, inferInstance, inferInstance, inferInstance, inferInstance, inferInstance, evc, lkc⟩
     ·omega
     ·rw [hp2, hpr, take_snoc l k hk1, run_snoc]
   ·
    refine x_exit ?_
    refine x_seq ?_
    have hkm : k = m := by
     first
      | omega
      | (simp at g36; omega)
      | (simp at c1; omega)
      | (simp at c1; done)
    refine x_drawL (OneB b5) (allS) (.take 0 (.take 1 (.take 2 (.take 3 (.take 4 (.take 5 (.eff 6 (.take 7 (.take 8 (.eff 9 (.take 10 .done))))))))))) mixed (by kernel_rfl) (fun _ _ _ _ _ h => h) (fun w21 l21 => ?_)
    refine xt_v rfl v_move ?_
    refine xt_Lb rfl ?_
    refine xt_v rfl v_move ?_
    refine xt_v rfl v_move ?_
    refine xt_gv rfl rfl EvO.eq v_move ?_
    refine xt_gLb rfl rfl EvO.eq ?_
    refine xt_gcall rfl rfl EvO.eq (is_ok _ q D R w21 (hP.ext (kpc : Keep NoB _ w21))) ?_
    rintro _ w22 ⟨rfl, lk106⟩
    refine ⟨kpc, ?_⟩
    refine xt_Pk rfl ?_
    refine xt_v rfl v_assign ?_
    refine xt_s rfl (e_storeA fun w23 l109 k109 => ?_)
    refine xt_v rfl v_assign ?_
    refine xt_nil ?_
    refine x_ret ?_
    refine finR (rs := [.tmp 4, .cell 5 48, .tmp 6]) rfl ?_
    rw [hkm, List.take_of_length_le (by omega)] at hpr
    exact ⟨⟨q, D, R, by simp [outV], (hP.keep (kpc : Keep (OneB b5) _ _) (fun _ _ e => .inl e)).less (fun _ e => e.elim), hpr, hq⟩, lkc⟩
  ·
   refine xl_gs rfl EvO.eq ?_
   refine xl_Pk ?_
   refine xl_nil ?_
   refine x_condF ?_
   refine x_exit ?_
   refine x_seq ?_
   have hkm : k = m := by
    first
     | omega
     | (simp at g36; omega)
     | (simp at c1; omega)
     | (simp at c1; done)
   refine x_drawL (OneB b5) (allS) (.take 0 (.take 1 (.take 2 (.take 3 (.take 4 (.take 5 (.eff 6 (.take 7 (.take 8 (.eff 9 (.take 10 .done))))))))))) mixed (by kernel_rfl) (fun _ _ _ _ _ h => h) (fun w24 l24 => ?_)
   refine xt_v rfl v_move ?_
   refine xt_Lb rfl ?_
   refine xt_v rfl v_move ?_
   refine xt_v rfl v_move ?_
   refine xt_gv rfl rfl EvO.eq v_move ?_
   refine xt_gLb rfl rfl EvO.eq ?_
   refine xt_gcall rfl rfl EvO.eq (is_ok _ q D R w24 (hP.ext (kpc : Keep NoB _ w24))) ?_
   rintro _ w25 ⟨rfl, lk106⟩
   refine ⟨kpc, ?_⟩
   refine xt_Pk rfl ?_
   refine xt_v rfl v_assign ?_
   refine xt_s rfl (e_storeA fun w26 l109 k109 => ?_)
   refine xt_v rfl v_assign ?_
   refine xt_nil ?_
   refine x_ret ?_
   refine finR (rs := [.tmp 4, .cell 5 48, .tmp 6]) rfl ?_
   rw [hkm, List.take_of_length_le (by omega)] at hpr
   exact ⟨⟨q, D, R, by simp [outV], (hP.keep (kpc : Keep (OneB b5) _ _) (fun _ _ e => .inl e)).less (fun _ e => e.elim), hpr, hq⟩, lkc⟩
end Go.Proofs.Ytdmafmlifadfoaa
set_option linter.all false
set_option maxRecDepth 100000
set_option synthInstance.maxSize 100000
set_option synthInstance.maxHeartbeats 400000
namespace Go.Proofs.Ytdmafmlifadfoaa
open Go.Wst
open Go.Wst.Qm
set_option maxHeartbeats 2000000 in
/-- waystation/waystationlaw06.QuorumOne -/
theorem one_ok (n : Int) (A : Option Addr) (m c : Nat) (l : List Pk) (p : Pk) (w : World) [hrow : Row w A (l.flatMap pkC)] (hl : l.length = m) : Ret Try.prog 6 #[.int .i64 n, .slice A m c, .agg (pkC p).toArray] w (fun v w' => v = .bool true ∧ Lk w' w NoB) := by
 haveI hrw : RowB w A w (l.flatMap pkC) := rowB_of hrow.row
 refine ret_of_x (N := 51) (l := [.int .i64 n, .slice A m c, .agg (pkC p).toArray]) Try.func6 rfl rfl (Nat.le_of_ble_eq_true rfl) ?_
 refine x_seq ?_
 refine x_regionL ?_
 refine xl_e (e_box fun b5 w1 n5 l5 k5 => ?_)
 refine xl_v v_assign ?_
 refine xl_nil ?_
 refine x_seq ?_
 refine x_seq ?_
 refine x_regionL ?_
 refine xl_v v_move ?_
 refine xl_call (right_ok _ _) ?_
 rintro _ _ ⟨rfl, rfl⟩
 refine xl_v v_not ?_
 refine xl_v v_move ?_
 refine xl_split 15 (fun g15 => ?_) (fun g15 => ?_)
 ·
  refine xl_gs rfl EvO.eq ?_
  refine xl_gs rfl EvO.eq ?_
  refine xl_gs rfl EvO.eq ?_
  refine xl_Pk ?_
  refine xl_nil ?_
  refine x_condT ?_
  refine x_seq ?_
  refine x_regionL ?_
  refine xl_call (works_ok w1) ?_
  rintro _ w3 ⟨rfl, lk2⟩
  refine xl_v v_assign ?_
  refine xl_nil ?_
  refine x_ret ?_
  refine fin1 rfl ?_
  exact ⟨rfl, lkc⟩
 ·
  refine xl_gv rfl EvO.eq v_move ?_
  refine xl_gv rfl EvO.eq v_len ?_
  refine xl_gv rfl EvO.eq v_gtr ?_
  refine xl_Pk ?_
  refine xl_nil ?_
  refine x_condE (fun c1 => ?_) (fun c1 => ?_)
  ·
   refine x_seq ?_
   refine x_regionL ?_
   refine xl_call (works_ok w1) ?_
   rintro _ w4 ⟨rfl, lk2⟩
   refine xl_v v_assign ?_
   refine xl_nil ?_
   refine x_ret ?_
   refine fin1 rfl ?_
   exact ⟨rfl, lkc⟩
  ·
   refine x_skip ?_
   refine x_seq ?_
   have hn : n = 1 ∨ n = 3 ∨ n = 5 := by
    first
     | (simp at g15 c1; omega)
     | (simp at g15; omega)
   have hm : m ≤ 1000 := by
    first
     | (simp at g15 c1; omega)
     | (simp at c1; omega)
   refine x_regionL ?_
   refine xl_v v_move ?_
   refine xl_v v_move ?_
   refine xl_call (played_ok n A m c l w1 hl hm hn) ?_
   rintro _ w5 ⟨⟨q, D, R, rfl, hP, hpr, hq⟩, lk3⟩
   have hqw : ∀ j, QuB q D j → w.heap.size ≤ j := fun j e => Nat.le_trans (Ge.le : w.heap.size ≤ (w1).heap.size) (hq j e)
   refine xl_v v_move ?_
   refine xl_v v_extract ?_
   refine xl_v v_extract ?_
   refine xl_v v_extract ?_
   refine xl_e (e_alloc fun b8 w6 n8 l8 k8 => ?_)
   have hP7 := hP.one (kpc : Keep NoB _ w6) n8.eq Has.lt
   refine xl_v v_assign ?_
   refine xl_s (e_storeA fun w7 l39 k39 => ?_)
   refine xl_v v_assign ?_
   refine xl_nil ?_
   refine x_seq ?_
   have hP8 := hP7.keep (kpc : Keep (OneB b8) _ w7) (fun _ _ e => e)
   refine x_regionL ?_
   refine xl_Lb ?_
   refine xl_Lb ?_
   refine xl_call (stepD_p (Ap1 b8) q D R p w7 (hP8.ext (kpc : Keep NoB _ w7))) ?_
   rintro _ w8 ⟨⟨R1, rfl, hP1⟩, lk42⟩
   refine xl_v v_move ?_
   refine xl_v v_extract ?_
   refine xl_v v_extract ?_
   refine xl_e (e_alloc fun b10 w9 n10 l10 k10 => ?_)
   refine xl_s (e_storeA fun w10 l10 k10 => ?_)
   refine xl_v v_assign ?_
   refine xl_nil ?_
   refine x_seq ?_
   haveI nb10 : NotS (QuB q D) b10 := ⟨(hP1.up b10 (Nat.le_of_eq n10.eq.symm)).1⟩
   haveI sD : SubF (QuB q D) NoB w := ⟨fun j hj e => by have := hqw j e; omega⟩
   refine x_regionL ?_
   refine xl_v v_move ?_
   refine xl_v v_move ?_
   refine xl_gv rfl EvO.eq v_move ?_
   refine xl_gLb rfl EvO.eq ?_
   refine xl_gcall rfl EvO.eq (stepQ_p (Ap1 b8) q D R1 p w10 (hP1.ext (kpc : Keep NoB _ w10))) ?_
   rintro _ w11 ⟨rfl, ⟨D1, hP2, hp2, hb2⟩, lk54⟩
   refine xl_gcall rfl EvO.eq (num_ok _ _) ?_
   rintro _ _ ⟨rfl, rfl⟩
   refine xl_gv rfl EvO.eq v_move ?_
   refine xl_gv rfl EvO.eq (v_eqlT rfl) ?_
   refine xl_Pk ?_
   refine xl_v v_move ?_
   refine xl_gv rfl EvO.eq v_move ?_
   refine xl_gLb rfl EvO.eq ?_
   refine xl_gcall rfl EvO.eq (is_ok (Ap1 b8) q D1 R1 w11 (hP2.ext (kpc : Keep NoB _ w11))) ?_
   rintro _ w13 ⟨rfl, lk512⟩
   refine xl_Pk ?_
   refine xl_v v_move ?_
   refine xl_gcall rfl EvO.eq (works_ok w13) ?_
   rintro _ w14 ⟨rfl, lk515⟩
   refine xl_Pk ?_
   refine xl_v v_assign ?_
   refine xl_nil ?_
   refine x_ret ?_
   refine fin1 rfl ?_
   exact ⟨rfl, lkc⟩
set_option maxHeartbeats 2000000 in
/-- waystation/waystationlaw06.QuorumCrashes -/
theorem crashes_ok (n : Int) (A : Option Addr) (m c : Nat) (l : List Pk) (who : Int) (A2 : Option Addr) (m2 c2 : Nat) (l2 : List Pk) (w : World) [hrow : Row w A (l.flatMap pkC)] (hl : l.length = m) [hrow2 : Row w A2 (l2.flatMap pkC)] (hl2 : l2.length = m2) : Ret Try.prog 10 #[.int .i64 n, .slice A m c, .int .i64 who, .slice A2 m2 c2] w (fun v w' => v = .bool true ∧ Lk w' w NoB) := by
 haveI hrw : RowB w A w (l.flatMap pkC) := rowB_of hrow.row
 haveI hrw2 : RowB w A2 w (l2.flatMap pkC) := rowB_of hrow2.row
 refine ret_of_x (N := 47) (l := [.int .i64 n, .slice A m c, .int .i64 who, .slice A2 m2 c2]) Try.func10 rfl rfl (Nat.le_of_ble_eq_true rfl) ?_
 refine x_seq ?_
 refine x_regionL ?_
 refine xl_v v_assign ?_
 refine xl_nil ?_
 refine x_seq ?_
 refine x_seq ?_
 refine x_regionL ?_
 refine xl_v v_move ?_
 refine xl_call (right_ok _ _) ?_
 rintro _ _ ⟨rfl, rfl⟩
 refine xl_v v_not ?_
 refine xl_v v_move ?_
 refine xl_split 16 (fun g16 => ?_) (fun g16 => ?_)
 ·
  refine xl_gs rfl EvO.eq ?_
  refine xl_gs rfl EvO.eq ?_
  refine xl_gs rfl EvO.eq ?_
  refine xl_Pk ?_
  refine xl_v v_move ?_
  refine xl_gs rfl EvO.eq ?_
  refine xl_gs rfl EvO.eq ?_
  refine xl_gs rfl EvO.eq ?_
  refine xl_Pk ?_
  refine xl_nil ?_
  refine x_condT ?_
  refine x_seq ?_
  refine x_regionL ?_
  refine xl_call (works_ok w) ?_
  rintro _ w2 ⟨rfl, lk2⟩
  refine xl_v v_assign ?_
  refine xl_nil ?_
  refine x_ret ?_
  refine fin1 rfl ?_
  exact ⟨rfl, lkc⟩
 ·
  refine xl_gv rfl EvO.eq v_move ?_
  refine xl_gv rfl EvO.eq v_len ?_
  refine xl_gv rfl EvO.eq v_gtr ?_
  refine xl_Pk ?_
  refine xl_v v_move ?_
  refine xl_split 21 (fun g21 => ?_) (fun g21 => ?_)
  ·
   refine xl_gs rfl EvO.eq ?_
   refine xl_gs rfl EvO.eq ?_
   refine xl_gs rfl EvO.eq ?_
   refine xl_Pk ?_
   refine xl_nil ?_
   refine x_condT ?_
   refine x_seq ?_
   refine x_regionL ?_
   refine xl_call (works_ok w) ?_
   rintro _ w3 ⟨rfl, lk2⟩
   refine xl_v v_assign ?_
   refine xl_nil ?_
   refine x_ret ?_
   refine fin1 rfl ?_
   exact ⟨rfl, lkc⟩
  ·
   refine xl_gv rfl EvO.eq v_move ?_
   refine xl_gv rfl EvO.eq v_len ?_
   refine xl_gv rfl EvO.eq v_gtr ?_
   refine xl_Pk ?_
   refine xl_nil ?_
   refine x_condE (fun c1 => ?_) (fun c1 => ?_)
   ·
    refine x_seq ?_
    refine x_regionL ?_
    refine xl_call (works_ok w) ?_
    rintro _ w4 ⟨rfl, lk2⟩
    refine xl_v v_assign ?_
    refine xl_nil ?_
    refine x_ret ?_
    refine fin1 rfl ?_
    exact ⟨rfl, lkc⟩
   ·
    refine x_skip ?_
    refine x_seq ?_
    have hn : n = 1 ∨ n = 3 ∨ n = 5 := by
     first
      | (simp at g16; omega)
      | (simp at g16 g21; omega)
      | (simp at g16 g21 c1; omega)
    have hm : m ≤ 80 := by
     first
      | (simp at g21; omega)
      | (simp at g16 g21; omega)
      | (simp at g16 g21 c1; omega)
    have hm2 : m2 ≤ 40 := by
     first
      | (simp at c1; omega)
      | (simp at g16 g21 c1; omega)
    refine x_regionL ?_
    refine xl_e (e_buildSlice0 fun b5 w5 n5 l5 k5 => ?_)
    refine xl_v v_move ?_
    refine xl_e (e_appE (by simp [flat_len (enc := pkC) (sz := 3) (fun _ => rfl), hl]) (by decide) (by omega) (by omega) fun Aa ca w6 oa la aa fa => ?_)
    refine xl_v v_move ?_
    refine xl_call (pick_ok 4 who 0 w6) ?_
    rintro _ w7 ⟨rfl, lk34⟩
    refine xl_e (e_buildSlice1 rfl fun b5 w8 n5 l5 k5 => ?_)
    refine xl_e (e_app (by first | omega | simp) (by decide) (by omega) (by omega) (by first | exact Ge.le | omega) fun Ab cb w9 ob lb ab fb => ?_)
    refine xl_v v_move ?_
    refine xl_e (e_app (by simp [flat_len (enc := pkC) (sz := 3) (fun _ => rfl), hl2]) (by decide) (by omega) (by omega) (by first | exact Ge.le | omega) fun Ac cc w10 oc lc ac fc => ?_)
    refine xl_v v_assign ?_
    refine xl_nil ?_
    refine x_seq ?_
    have hoc := (OwnI.own : World.ownsRow w10 _ _ _ (.slice Ac _ cc) _ _)
    have hfl : (l ++ [(⟨4, who, 0⟩ : Pk)] ++ l2).flatMap pkC = l.flatMap pkC ++ pkC ⟨4, who, 0⟩ ++ l2.flatMap pkC := by simp
    haveI hrn : Row w10 Ac ((l ++ [(⟨4, who, 0⟩ : Pk)] ++ l2).flatMap pkC) := ⟨by rw [hfl]; exact (FRow.of_own hoc).row⟩
    refine x_regionL ?_
    refine xl_v v_move ?_
    refine xl_v v_move ?_
    refine xl_call (played_ok n Ac (m + 1 + m2) cc (l ++ [(⟨4, who, 0⟩ : Pk)] ++ l2) w10 (by simp [hl, hl2]; omega) (by omega) hn) ?_
    rintro _ w11 ⟨⟨q, D, R, rfl, hP, hpr, hq⟩, lk4⟩
    refine xl_v v_move ?_
    refine xl_v v_extract ?_
    refine xl_v v_extract ?_
    refine xl_v v_extract ?_
    refine xl_e (e_alloc fun b8 w12 n8 l8 k8 => ?_)
    refine xl_v v_assign ?_
    refine xl_s (e_storeA fun w13 l13 k13 => ?_)
    refine xl_v v_assign ?_
    refine xl_nil ?_
    refine x_seq ?_
    refine x_regionL ?_
    refine xl_v v_move ?_
    refine xl_v v_move ?_
    refine xl_gcall rfl EvO.eq (works_ok w13) ?_
    rintro _ w14 ⟨rfl, lk52⟩
    refine xl_Pk ?_
    refine xl_v v_assign ?_
    refine xl_nil ?_
    refine x_ret ?_
    refine fin1 rfl ?_
    exact ⟨rfl, lkc⟩
end Go.Proofs.Ytdmafmlifadfoaa
