/-
 Walks, printed by a program of this workplace (wip/tools/sx.py) off the functions' code and a text of contracts.
-/
import Derived.Test.YtdmafmlifadfoaaJ17
set_option linter.all false
set_option maxRecDepth 100000
set_option synthInstance.maxSize 100000
set_option synthInstance.maxHeartbeats 400000
namespace Go.Proofs.Ytdmafmlifadfoaa
open Go.Wst
open Go.Wst.Qm
theorem snoc_row {w : World} {A : Option Addr} {c k base : Nat} {l : List Pk} {p : Pk} (h : w.ownsRow base 35 3 (.slice A (k + 1) c) (k + 1) (l.flatMap pkC ++ pkC p)) : w.ownsRow base 35 3 (.slice A (k + 1) c) (k + 1) ((l ++ [p]).flatMap pkC) := by
 rw [List.flatMap_append]
 simpa using h
set_option maxHeartbeats 2000000 in
/-- waystation/waystationlaw06.QuorumVotes -/
theorem votes_ok (n : Int) (A : Option Addr) (m c : Nat) (xs : List Int) (A2 : Option Addr) (m2 cc2 : Nat) (ys : List Int) (w : World) [hrow : Row w A (ints xs)] (hl : xs.length = m) [hrow2 : Row w A2 (ints ys)] (hl2 : ys.length = m2) : Ret Try.prog 7 #[.int .i64 n, .slice A m c, .slice A2 m2 cc2] w (fun v w' => v = .bool true ∧ Lk w' w NoB) := by
 haveI hrw : RowB w A w (ints xs) := rowB_of hrow.row
 haveI hrw2 : RowB w A2 w (ints ys) := rowB_of hrow2.row
 refine ret_of_x (N := 66) (l := [.int .i64 n, .slice A m c, .slice A2 m2 cc2]) Try.func7 rfl rfl (Nat.le_of_ble_eq_true rfl) ?_
 refine x_seq ?_
 refine x_regionL ?_
 refine xl_v v_assign ?_
 refine xl_nil ?_
 refine x_seq ?_
 refine x_seq ?_
 refine x_regionL ?_
 refine xl_v v_move ?_
 refine xl_call (right_ok _ _) ?_
 rintro _ _ ⟨rfl, rfl⟩
 refine xl_v v_not ?_
 refine xl_v v_move ?_
 refine xl_split 16 (fun g16 => ?_) (fun g16 => ?_)
 ·
  refine xl_gs rfl EvO.eq ?_
  refine xl_gs rfl EvO.eq ?_
  refine xl_gs rfl EvO.eq ?_
  refine xl_Pk ?_
  refine xl_v v_move ?_
  refine xl_gs rfl EvO.eq ?_
  refine xl_gs rfl EvO.eq ?_
  refine xl_gs rfl EvO.eq ?_
  refine xl_Pk ?_
  refine xl_nil ?_
  refine x_condT ?_
  refine x_seq ?_
  refine x_regionL ?_
  refine xl_call (works_ok w) ?_
  rintro _ w2 ⟨rfl, lk2⟩
  refine xl_v v_assign ?_
  refine xl_nil ?_
  refine x_ret ?_
  refine fin1 rfl ?_
  exact ⟨rfl, lkc⟩
 ·
  refine xl_gv rfl EvO.eq v_move ?_
  refine xl_gv rfl EvO.eq v_len ?_
  refine xl_gv rfl EvO.eq v_gtr ?_
  refine xl_Pk ?_
  refine xl_v v_move ?_
  refine xl_split 21 (fun g21 => ?_) (fun g21 => ?_)
  ·
   refine xl_gs rfl EvO.eq ?_
   refine xl_gs rfl EvO.eq ?_
   refine xl_gs rfl EvO.eq ?_
   refine xl_Pk ?_
   refine xl_nil ?_
   refine x_condT ?_
   refine x_seq ?_
   refine x_regionL ?_
   refine xl_call (works_ok w) ?_
   rintro _ w3 ⟨rfl, lk2⟩
   refine xl_v v_assign ?_
   refine xl_nil ?_
   refine x_ret ?_
   refine fin1 rfl ?_
   exact ⟨rfl, lkc⟩
  ·
   refine xl_gv rfl EvO.eq v_move ?_
   refine xl_gv rfl EvO.eq v_len ?_
   refine xl_gv rfl EvO.eq v_gtr ?_
   refine xl_Pk ?_
   refine xl_nil ?_
   refine x_condE (fun c1 => ?_) (fun c1 => ?_)
   ·
    refine x_seq ?_
    refine x_regionL ?_
    refine xl_call (works_ok w) ?_
    rintro _ w4 ⟨rfl, lk2⟩
    refine xl_v v_assign ?_
    refine xl_nil ?_
    refine x_ret ?_
    refine fin1 rfl ?_
    exact ⟨rfl, lkc⟩
   ·
    refine x_skip ?_
    refine x_seq ?_
    have hn : n = 1 ∨ n = 3 ∨ n = 5 := by
     first
      | (simp at g16; omega)
      | (simp at g16 g21; omega)
      | (simp at g16 g21 c1; omega)
    have hm : m ≤ 5 := by
     first
      | (simp at g21; omega)
      | (simp at g16 g21; omega)
      | (simp at g16 g21 c1; omega)
    have hm2 : m2 ≤ 40 := by
     first
      | (simp at c1; omega)
      | (simp at g16 g21 c1; omega)
    refine x_regionL ?_
    refine xl_v v_assign ?_
    refine xl_nil ?_
    refine x_seq ?_
    refine x_seq ?_
    refine x_regionL ?_
    refine xl_v v_assign ?_
    refine xl_nil ?_
    refine x_block ?_
    refine x_loop (fun t τ ds w' => ds = [] ∧ ∃ (k : Nat) (A7 : Option Addr) (c7 : Nat) (l : List Pk), t = m - k ∧ k ≤ m ∧ l.length = k ∧ w'.ownsRow w.heap.size 35 3 (.slice A7 k c7) k (l.flatMap pkC) ∧ Ev τ 0 (.int .i64 n) ∧ Ev τ 1 (.slice A m c) ∧ Ev τ 2 (.slice A2 m2 cc2) ∧ Ev τ 7 (.slice A7 k c7) ∧ Ev τ 8 (.int .i64 (k : Int)) ∧ Lk w' w NoB) (m) ?start ?round
    case start =>
     exact ⟨rfl, 0, none, 0, [], rfl, Nat.zero_le _, rfl, World.ownsRow_nil _ _ _ _, inferInstance, inferInstance, inferInstance, inferInstance, evc, lkc⟩
    case round =>
     intro m τ5 ds5 w5 hI
     obtain ⟨rfl, k, A7, c7, l, rfl, hk, hlk, ho7, e0, e1, e2, e7, e8, lk⟩ := hI
     haveI o7 : OwnI w5 A7 _ _ _ _ _ _ _ := ⟨ho7⟩
     haveI na7 : NewA A7 w := newA_of ho7 (Nat.le_refl _)
     refine x_seq ?_
     refine x_seq ?_
     refine x_regionL ?_
     refine xl_v v_move ?_
     refine xl_v v_move ?_
     refine xl_v v_len ?_
     refine xl_v v_lss ?_
     refine xl_nil ?_
     first | refine x_condP (fun c2 => ?_) (fun c2 => ?_) | refine x_condN (fun c2 => ?_) (fun c2 => ?_) | refine x_condE (fun c2 => ?_) (fun c2 => ?_)
     ·
      have hk1 : k < xs.length := by omega
      refine x_skip ?_
      refine x_seq ?_
      refine x_block ?_
      refine x_regionL ?_
      refine xl_v v_move ?_
      refine xl_v v_move ?_
      refine xl_v v_move ?_
      refine xl_v (v_indexO k rfl (by omega) hk1) ?_
      refine xl_v (v_loadO (k := k) hk1) ?_
      refine xl_call (pick_ok 1 xs[k] 0 w5) ?_
      rintro _ w6 ⟨rfl, lk75⟩
      refine xl_e (e_buildSlice1 rfl fun b5 w7 n5 l5 k5 => ?_)
      refine xl_e (e_app (by first | omega | simp) (by decide) (by omega) (by omega) (by first | exact Ge.le | omega) fun Ab cb w8 ob lb ab fb => ?_)
      refine xl_v v_assign ?_
      refine xl_nil ?_
      refine x_regionL ?_
      refine xl_v v_move ?_
      refine xl_v (v_add (by omega)) ?_
      refine xl_v v_assign ?_
      refine xl_nil ?_
      refine ⟨_, ?_, rfl, k + 1, Ab, cb, l ++ [⟨1, xs[k], 0⟩], rfl, by omega, by simp [hlk], snoc_row (OwnI.own : World.ownsRow w8 _ _ _ (.slice Ab _ cb) _ _), inferInstance, inferInstance, inferInstance, inferInstance, evc, lkc⟩
      omega
     ·
      refine x_exit ?_
      refine x_seq ?_
      refine x_seq ?_
      refine x_regionL ?_
      refine xl_v v_assign ?_
      refine xl_nil ?_
      refine x_block ?_
      have hkm : k = m := by omega
      refine x_loop (fun t τ ds w' => ds = [] ∧ ∃ (k2 k : Nat) (A7 : Option Addr) (c7 : Nat) (l : List Pk), t = m2 - k ∧ k ≤ m2 ∧ k2 = m + k ∧ l.length = k2 ∧ w'.ownsRow w.heap.size 35 3 (.slice A7 k2 c7) k2 (l.flatMap pkC) ∧ Ev τ 0 (.int .i64 n) ∧ Ev τ 2 (.slice A2 m2 cc2) ∧ Ev τ 7 (.slice A7 k2 c7) ∧ Ev τ 9 (.int .i64 (k : Int)) ∧ Lk w' w NoB) (m2) ?start ?round
      case start =>
       exact ⟨rfl, k, 0, A7, c7, l, rfl, Nat.zero_le _, by omega, hlk, own_ext ho7 lkc, inferInstance, inferInstance, inferInstance, evc, lkc⟩
      case round =>
       intro m τ9 ds9 w9 hI
       clear e0 e1 e2 e7 e8 lk hkm ho7 hlk
       obtain ⟨rfl, k2, k, A7, c7, l, rfl, hk, hk2, hlk, ho7, e0, e2, e7, e9, lk⟩ := hI
       haveI o7 : OwnI w9 A7 _ _ _ _ _ _ _ := ⟨ho7⟩
       haveI na7 : NewA A7 w := newA_of ho7 (Nat.le_refl _)
       refine x_seq ?_
       refine x_seq ?_
       refine x_regionL ?_
       refine xl_v v_move ?_
       refine xl_v v_move ?_
       refine xl_v v_len ?_
       refine xl_v v_lss ?_
       refine xl_nil ?_
       first | refine x_condP (fun c3 => ?_) (fun c3 => ?_) | refine x_condN (fun c3 => ?_) (fun c3 => ?_) | refine x_condE (fun c3 => ?_) (fun c3 => ?_)
       ·
        have hk1 : k < ys.length := by omega
        refine x_skip ?_
        refine x_seq ?_
        refine x_block ?_
        refine x_regionL ?_
        refine xl_v v_move ?_
        refine xl_v v_move ?_
        refine xl_v v_move ?_
        refine xl_v (v_indexO k rfl (by omega) hk1) ?_
        refine xl_v (v_loadO (k := k) hk1) ?_
        refine xl_call (pick_ok 5 ys[k] 0 w9) ?_
        rintro _ w10 ⟨rfl, lk115⟩
        refine xl_e (e_buildSlice1 rfl fun b5 w11 n5 l5 k5 => ?_)
        refine xl_e (e_app (by first | omega | simp) (by decide) (by omega) (by omega) (by first | exact Ge.le | omega) fun Ab cb w12 ob lb ab fb => ?_)
        refine xl_v v_assign ?_
        refine xl_nil ?_
        refine x_regionL ?_
        refine xl_v v_move ?_
        refine xl_v (v_add (by omega)) ?_
        refine xl_v v_assign ?_
        refine xl_nil ?_
        refine ⟨_, ?_, rfl, k2 + 1, k + 1, Ab, cb, l ++ [⟨5, ys[k], 0⟩], rfl, by omega, by omega, by simp [hlk], snoc_row (OwnI.own : World.ownsRow w12 _ _ _ (.slice Ab _ cb) _ _), inferInstance, inferInstance, inferInstance, evc, lkc⟩
        omega
       ·
        refine x_exit ?_
        refine x_seq ?_
        haveI hrn : Row w9 A7 (l.flatMap pkC) := ⟨(FRow.of_own ho7).row⟩
        refine x_regionL ?_
        refine xl_v v_move ?_
        refine xl_v v_move ?_
        refine xl_call (played_ok n A7 k2 c7 l w9 hlk (by omega) hn) ?_
        rintro _ w13 ⟨⟨q, D, R, rfl, hP, hpr, hq⟩, lk4⟩
        refine xl_v v_move ?_
        refine xl_v v_extract ?_
        refine xl_v v_extract ?_
        refine xl_v v_extract ?_
        refine xl_e (e_alloc fun b8 w14 n8 l8 k8 => ?_)
        refine xl_v v_assign ?_
        refine xl_s (e_storeA fun w15 l15 k15 => ?_)
        refine xl_v v_assign ?_
        refine xl_nil ?_
        refine x_seq ?_
        refine x_regionL ?_
        refine xl_v v_move ?_
        refine xl_v v_move ?_
        refine xl_gcall rfl EvO.eq (works_ok w15) ?_
        rintro _ w16 ⟨rfl, lk52⟩
        refine xl_Pk ?_
        refine xl_v v_assign ?_
        refine xl_nil ?_
        refine x_ret ?_
        refine fin1 rfl ?_
        exact ⟨rfl, lkc⟩
end Go.Proofs.Ytdmafmlifadfoaa
set_option linter.all false
set_option maxRecDepth 100000
set_option synthInstance.maxSize 100000
set_option synthInstance.maxHeartbeats 400000
namespace Go.Proofs.Ytdmafmlifadfoaa
open Go.Wst
open Go.Wst.Qm
theorem tmod_in {x : Int} {n : Nat} (hn : 0 < n) : -(n : Int) < x.tmod n ∧ x.tmod n < n := ⟨Int.lt_tmod_of_pos x (by omega), Int.tmod_lt_of_pos x (by omega)⟩
theorem tmod_nn {x n : Int} (hx : 0 ≤ x) (hn : 0 < n) : 0 ≤ x.tmod n ∧ x.tmod n < n := ⟨Int.tmod_nonneg n hx, Int.tmod_lt_of_pos x hn⟩
set_option maxHeartbeats 4000000 in
/-- waystation/waystationlaw06.QuorumLogs -/
theorem logs_ok (b : Bool) (A : Option Addr) (m c : Nat) (xs : List Int) (A2 : Option Addr) (m2 cc2 : Nat) (ys : List Int) (w : World) [hrow : Row w A (ints xs)] (hl : xs.length = m) [hrow2 : Row w A2 (ints ys)] (hl2 : ys.length = m2) (hxs : ∀ a ∈ xs, In64 a) : Ret Try.prog 8 #[.bool b, .slice A m c, .slice A2 m2 cc2] w (fun v w' => v = .bool true ∧ Lk w' w NoB) := by
 haveI hrw : RowB w A w (ints xs) := rowB_of hrow.row
 haveI hrw2 : RowB w A2 w (ints ys) := rowB_of hrow2.row
 refine ret_of_x (N := 115) (l := [.bool b, .slice A m c, .slice A2 m2 cc2]) Try.func8 rfl rfl (Nat.le_of_ble_eq_true rfl) ?_
 refine x_seq ?_
 refine x_regionL ?_
 refine xl_v v_assign ?_
 refine xl_nil ?_
 refine x_seq ?_
 refine x_seq ?_
 refine x_regionL ?_
 refine xl_v v_move ?_
 refine xl_v v_len ?_
 refine xl_v v_gtr ?_
 refine xl_v v_move ?_
 refine xl_split 20 (fun g20 => ?_) (fun g20 => ?_)
 ·
  refine xl_gs rfl EvO.eq ?_
  refine xl_gs rfl EvO.eq ?_
  refine xl_gs rfl EvO.eq ?_
  refine xl_Pk ?_
  refine xl_nil ?_
  refine x_condT ?_
  refine x_seq ?_
  refine x_regionL ?_
  refine xl_call (works_ok w) ?_
  rintro _ w1 ⟨rfl, lk2⟩
  refine xl_v v_assign ?_
  refine xl_nil ?_
  refine x_ret ?_
  refine fin1 rfl ?_
  exact ⟨rfl, lkc⟩
 ·
  refine xl_gv rfl EvO.eq v_move ?_
  refine xl_gv rfl EvO.eq v_len ?_
  refine xl_gv rfl EvO.eq v_gtr ?_
  refine xl_Pk ?_
  refine xl_nil ?_
  refine x_condE (fun c1 => ?_) (fun c1 => ?_)
  ·
   refine x_seq ?_
   refine x_regionL ?_
   refine xl_call (works_ok w) ?_
   rintro _ w2 ⟨rfl, lk2⟩
   refine xl_v v_assign ?_
   refine xl_nil ?_
   refine x_ret ?_
   refine fin1 rfl ?_
   exact ⟨rfl, lkc⟩
  ·
   refine x_skip ?_
   refine x_seq ?_
   have hm : m ≤ 12 := by
    first
     | (simp at g15; omega)
     | (simp at g20; omega)
     | (simp at g3; omega)
     | (simp at g20 c1; omega)
   have hm2 : m2 ≤ 60 := by
    first
     | (simp at c1; omega)
     | (simp at g20 c1; omega)
   refine x_regionL ?_
   refine xl_v v_assign ?_
   refine xl_nil ?_
   refine x_seq ?_
   refine x_seq ?_
   refine x_regionL ?_
   refine xl_v v_move ?_
   refine xl_nil ?_
   refine x_condE (fun c2 => ?_) (fun c2 => ?_)
   ·
    obtain ⟨n, hn7⟩ : ∃ n : Int, n = 5 := ⟨5, rfl⟩
    refine x_regionL ?_
    refine xl_v v_assign ?_
    refine xl_nil ?_
    refine x_seq ?_
    have hn : n = 1 ∨ n = 3 ∨ n = 5 := by omega
    obtain ⟨m1, hm1⟩ : ∃ m1 : Nat, (m1 : Int) = 2 * n := ⟨(2 * n).toNat, by omega⟩
    refine x_regionL ?_
    refine xl_call (pick_ok 1 0 0 w) ?_
    rintro _ w3 ⟨rfl, lk60⟩
    refine xl_e (e_buildSlice1 rfl fun b61 w4 n61 l61 k61 => ?_)
    refine xl_v v_assign ?_
    refine xl_nil ?_
    refine x_seq ?_
    refine x_seq ?_
    refine x_regionL ?_
    refine xl_v v_assign ?_
    refine xl_nil ?_
    refine x_block ?_
    have ho8 : (w4).ownsRow w.heap.size 35 3 (.slice (some ⟨b61, 0, none⟩) 1 1) 1 ([(⟨1, 0, 0⟩ : Pk)].flatMap pkC) := ownsRow_blk (by rw [n61.eq]; exact Ge.le) k61.eq rfl (by decide)
    refine x_loop (fun t τ ds w' => ds = [] ∧ ∃ (k2 k : Nat) (A7 : Option Addr) (c7 : Nat) (l : List Pk), t = m1 - k ∧ k ≤ m1 ∧ k2 = k + 1 ∧ l.length = k2 ∧ w'.ownsRow w.heap.size 35 3 (.slice A7 k2 c7) k2 (l.flatMap pkC) ∧ Ev τ 1 (.slice A m c) ∧ Ev τ 2 (.slice A2 m2 cc2) ∧ Ev τ 7 (.int .i64 n) ∧ Ev τ 8 (.slice A7 k2 c7) ∧ Ev τ 9 (.int .i64 (k : Int)) ∧ Lk w' w NoB) (m1) ?start ?round
    case start =>
     exact ⟨rfl, 1, 0, _, 1, [⟨1, 0, 0⟩], rfl, Nat.zero_le _, rfl, rfl, ho8, inferInstance, inferInstance, evc (by rw [hn7]), inferInstance, evc, lkc⟩
    case round =>
     intro m τ5 ds5 w5 hI
     obtain ⟨rfl, k2, k, A7, c7, l, rfl, hk, hk2, hlk, ho7, e1, e2, e7, e8, e9, lk⟩ := hI
     haveI o7 : OwnI w5 A7 _ _ _ _ _ _ _ := ⟨ho7⟩
     haveI na7 : NewA A7 w := newA_of ho7 (Nat.le_refl _)
     refine x_seq ?_
     refine x_seq ?_
     refine x_regionL ?_
     refine xl_v v_move ?_
     refine xl_v v_move ?_
     refine xl_v (v_mul (by omega)) ?_
     refine xl_v v_lss ?_
     refine xl_nil ?_
     first | refine x_condP (fun c3 => ?_) (fun c3 => ?_) | refine x_condN (fun c3 => ?_) (fun c3 => ?_) | refine x_condE (fun c3 => ?_) (fun c3 => ?_)
     ·
      refine x_skip ?_
      refine x_seq ?_
      refine x_block ?_
      refine x_regionL ?_
      refine xl_v v_move ?_
      refine xl_call (pick_ok 5 0 0 w5) ?_
      rintro _ w6 ⟨rfl, lk101⟩
      refine xl_e (e_buildSlice1 rfl fun b5 w7 n5 l5 k5 => ?_)
      refine xl_e (e_app (by first | omega | simp) (by decide) (by omega) (by omega) (by first | exact Ge.le | omega) fun Ab cb w8 ob lb ab fb => ?_)
      refine xl_v v_assign ?_
      refine xl_nil ?_
      refine x_regionL ?_
      refine xl_v v_move ?_
      refine xl_v (v_add (by omega)) ?_
      refine xl_v v_assign ?_
      refine xl_nil ?_
      refine ⟨_, ?_, rfl, k2 + 1, k + 1, Ab, cb, l ++ [⟨5, 0, 0⟩], rfl, by omega, by omega, by simp [hlk], snoc_row (OwnI.own : World.ownsRow w8 _ _ _ (.slice Ab _ cb) _ _), inferInstance, inferInstance, inferInstance, inferInstance, evc, lkc⟩
      omega
     ·
      refine x_exit ?_
      refine x_seq ?_
      refine x_seq ?_
      refine x_regionL ?_
      refine xl_v v_assign ?_
      refine xl_nil ?_
      refine x_block ?_
      have hkm : k2 ≤ 11 := by omega
      refine x_loop (fun t τ ds w' => ds = [] ∧ ∃ (k2 k : Nat) (A7 : Option Addr) (c7 : Nat) (l : List Pk), t = m - k ∧ k ≤ m ∧ k2 ≤ 11 + 2 * k ∧ l.length = k2 ∧ w'.ownsRow w.heap.size 35 3 (.slice A7 k2 c7) k2 (l.flatMap pkC) ∧ Ev τ 1 (.slice A m c) ∧ Ev τ 2 (.slice A2 m2 cc2) ∧ Ev τ 7 (.int .i64 n) ∧ Ev τ 8 (.slice A7 k2 c7) ∧ Ev τ 10 (.int .i64 (k : Int)) ∧ Lk w' w NoB) (m) ?start ?round
      case start =>
       exact ⟨rfl, k2, 0, A7, c7, l, rfl, Nat.zero_le _, by omega, hlk, own_ext ho7 lkc, inferInstance, inferInstance, inferInstance, inferInstance, evc, lkc⟩
      case round =>
       intro m τ9 ds9 w9 hI
       clear e1 e2 e7 e8 e9 lk ho7 hlk hk2 hkm
       obtain ⟨rfl, k2, k, A7, c7, l, rfl, hk, hk2, hlk, ho7, e1, e2, e7, e8, e10, lk⟩ := hI
       haveI o7 : OwnI w9 A7 _ _ _ _ _ _ _ := ⟨ho7⟩
       haveI na7 : NewA A7 w := newA_of ho7 (Nat.le_refl _)
       refine x_seq ?_
       refine x_seq ?_
       refine x_regionL ?_
       refine xl_v v_move ?_
       refine xl_v v_move ?_
       refine xl_v v_len ?_
       refine xl_v v_lss ?_
       refine xl_nil ?_
       first | refine x_condP (fun c4 => ?_) (fun c4 => ?_) | refine x_condN (fun c4 => ?_) (fun c4 => ?_) | refine x_condE (fun c4 => ?_) (fun c4 => ?_)
       ·
        have hk1 : k < xs.length := by omega
        have htm := tmod_nn (x := (k : Int)) (n := n - 1) (by omega) (by omega)
        haveI hoA : OldA w A := old_of hrow.row (by simp [ints]; omega)
        refine x_skip ?_
        refine x_seq ?_
        refine x_block ?_
        refine x_drawL (NewS w) (allS) (.take 0 (.take 1 (.take 2 (.take 3 (.take 4 (.take 6 (.take 7 (.take 8 (.take 9 (.take 10 (.eff 5 (.eff 11 (.eff 12 (.eff 13 (.take 14 .done))))))))))))))) mixed (by kernel_rfl) (fun _ _ _ _ _ h => h) (fun w10 l10 => ?_)
        refine xt_v rfl v_move ?_
        refine xt_v rfl v_move ?_
        refine xt_v rfl v_move ?_
        refine xt_v rfl (v_indexO k rfl (by omega) hk1) ?_
        refine xt_v rfl (v_loadO (k := k) hk1) ?_
        refine xt_v rfl v_move ?_
        refine xt_v rfl v_move ?_
        refine xt_v rfl (v_sub (by omega)) ?_
        refine xt_v rfl (v_rem (by omega)) ?_
        refine xt_v rfl (v_add (by omega)) ?_
        refine xt_call rfl (pick_ok 2 0 xs[k] w10) ?_
        rintro _ w11 ⟨rfl, lk145⟩
        refine ⟨kpc, ?_⟩
        refine xt_call rfl (pick_ok 3 0 (1 + (k : Int).tmod (n - 1)) w11) ?_
        rintro _ w12 ⟨rfl, lk1411⟩
        refine ⟨kpc, ?_⟩
        refine xt_e rfl (e_buildSliceM (vs := [(⟨2, 0, xs[k]⟩ : Pk), ⟨3, 0, 1 + (k : Int).tmod (n - 1)⟩].flatMap pkC) rfl rfl rfl fun b12 w13 n12 l12 k12 => ?_)
        refine xt_e rfl (e_app (by first | omega | simp) (by decide) (by omega) (by omega) (by first | exact Ge.le | omega) fun Ab cb w14 ob lb ab fb => ?_)
        refine xt_v rfl v_assign ?_
        refine xt_nil ?_
        refine x_regionL ?_
        refine xl_v v_move ?_
        refine xl_v (v_add (by omega)) ?_
        refine xl_v v_assign ?_
        refine xl_nil ?_
        refine ⟨_, ?_, rfl, k2 + 2, k + 1, Ab, cb, l ++ [⟨2, 0, xs[k]⟩, ⟨3, 0, 1 + (k : Int).tmod (n - 1)⟩], rfl, by omega, by omega, by simp [hlk], ?_, inferInstance, inferInstance, inferInstance, inferInstance, evc, lkc⟩
        ·omega
        ·rw [List.flatMap_append]
         exact (OwnI.own : World.ownsRow w14 _ _ _ (.slice Ab _ cb) _ _)
       ·
        refine x_exit ?_
        refine x_seq ?_
        refine x_seq ?_
        refine x_regionL ?_
        refine xl_v v_assign ?_
        refine xl_nil ?_
        refine x_block ?_
        have hkm : k2 ≤ 35 := by omega
        refine x_loop (fun t τ ds w' => ds = [] ∧ ∃ (k2 k : Nat) (A7 : Option Addr) (c7 : Nat) (l : List Pk), t = m2 - k ∧ k ≤ m2 ∧ k2 ≤ 35 + k ∧ l.length = k2 ∧ w'.ownsRow w.heap.size 35 3 (.slice A7 k2 c7) k2 (l.flatMap pkC) ∧ Ev τ 2 (.slice A2 m2 cc2) ∧ Ev τ 7 (.int .i64 n) ∧ Ev τ 8 (.slice A7 k2 c7) ∧ Ev τ 11 (.int .i64 (k : Int)) ∧ Lk w' w NoB) (m2) ?start ?round
        case start =>
         exact ⟨rfl, k2, 0, A7, c7, l, rfl, Nat.zero_le _, by omega, hlk, own_ext ho7 lkc, inferInstance, inferInstance, inferInstance, evc, lkc⟩
        case round =>
         intro m τ15 ds15 w15 hI
         clear e1 e2 e7 e8 e10 lk ho7 hlk hk2 hkm
         obtain ⟨rfl, k2, k, A7, c7, l, rfl, hk, hk2, hlk, ho7, e2, e7, e8, e11, lk⟩ := hI
         haveI o7 : OwnI w15 A7 _ _ _ _ _ _ _ := ⟨ho7⟩
         haveI na7 : NewA A7 w := newA_of ho7 (Nat.le_refl _)
         refine x_seq ?_
         refine x_seq ?_
         refine x_regionL ?_
         refine xl_v v_move ?_
         refine xl_v v_move ?_
         refine xl_v v_len ?_
         refine xl_v v_lss ?_
         refine xl_nil ?_
         first | refine x_condP (fun c5 => ?_) (fun c5 => ?_) | refine x_condN (fun c5 => ?_) (fun c5 => ?_) | refine x_condE (fun c5 => ?_) (fun c5 => ?_)
         ·
          have hk1 : k < ys.length := by omega
          have ht1 : -5 < ys[k].tmod 5 ∧ ys[k].tmod 5 < 5 := tmod_in (n := 5) (by decide)
          have ht2 := tmod_nn (x := ys[k].tmod 5 + 5) (n := 5) (by omega) (by omega)
          obtain ⟨j, hj⟩ : ∃ j : Nat, (ys[k].tmod 5 + 5).tmod 5 = (j : Int) := ⟨((ys[k].tmod 5 + 5).tmod 5).toNat, by omega⟩
          have hj5 : j < [(5 : Int), 5, 6, 7, 3].length := by simp; omega
          have htm := tmod_nn (x := (k : Int)) (n := n - 1) (by omega) (by omega)
          obtain ⟨kd, hkd⟩ : ∃ kd : Int, [(5 : Int), 5, 6, 7, 3][j] = kd := ⟨_, rfl⟩
          refine x_skip ?_
          refine x_seq ?_
          refine x_block ?_
          refine x_seq ?_
          refine x_regionL ?_
          refine xl_e (e_buildSliceM (vs := ints [(5 : Int), 5, 6, 7, 3]) rfl rfl rfl fun b18 w16 n18 l18 k18 => ?_)
          haveI hr18 : Row w16 (some ⟨b18, 0, none⟩) (ints [(5 : Int), 5, 6, 7, 3]) := ⟨row_blk k18.eq⟩
          refine xl_v v_move ?_
          refine xl_v v_move ?_
          refine xl_v (v_indexO k rfl (by omega) hk1) ?_
          refine xl_v (v_loadO (k := k) hk1) ?_
          refine xl_v (v_rem (by decide)) ?_
          refine xl_v (v_add (by omega)) ?_
          refine xl_v (v_rem (by decide)) ?_
          refine xl_v (v_indexO j hj (by omega) hj5) ?_
          refine xl_v (v_congr (u := .int .i64 kd) (v_loadO (k := j) hj5) (by rw [hkd])) ?_
          refine xl_v v_assign ?_
          refine xl_nil ?_
          refine x_seq ?_
          refine x_regionL ?_
          refine xl_v v_move ?_
          refine xl_v v_eql ?_
          refine xl_nil ?_
          refine x_condE (fun c6 => ?_) (fun c6 => ?_)
          ·
           refine x_regionL ?_
           refine xl_v v_move ?_
           refine xl_v v_move ?_
           refine xl_v v_move ?_
           refine xl_v v_move ?_
           refine xl_v (v_sub (by omega)) ?_
           refine xl_v (v_rem (by omega)) ?_
           refine xl_v (v_add (by omega)) ?_
           refine xl_call (pick_ok kd 0 (1 + (k : Int).tmod (n - 1)) w16) ?_
           rintro _ w17 ⟨rfl, lk207⟩
           obtain ⟨pk9, hpk9⟩ : ∃ p : Pk, p = ⟨kd, 0, 1 + (k : Int).tmod (n - 1)⟩ := ⟨_, rfl⟩
           refine xl_e (e_buildSlice1 rfl fun b5 w18 n5 l5 k5 => ?_)
           refine xl_e (e_app (by first | omega | simp) (by decide) (by omega) (by omega) (by first | exact Ge.le | omega) fun Ab cb w19 ob lb ab fb => ?_)
           refine xl_v v_assign ?_
           refine xl_nil ?_
           refine x_regionL ?_
           refine xl_v v_move ?_
           refine xl_v (v_add (by omega)) ?_
           refine xl_v v_assign ?_
           refine xl_nil ?_
           refine ⟨_, ?_, rfl, k2 + 1, k + 1, Ab, cb, l ++ [pk9], rfl, by omega, by omega, by simp [hlk], snoc_row (by rw [hpk9]; exact (OwnI.own : World.ownsRow w19 _ _ _ (.slice Ab _ cb) _ _)), inferInstance, inferInstance, inferInstance, evc, lkc⟩
           omega
          ·
           refine x_regionL ?_
           refine xl_v v_move ?_
           refine xl_v v_move ?_
           refine xl_v v_move ?_
           refine xl_v v_move ?_
           refine xl_v (v_indexO k rfl (by omega) hk1) ?_
           refine xl_v (v_loadO (k := k) hk1) ?_
           refine xl_call (pick_ok kd ys[k] 0 w16) ?_
           rintro _ w20 ⟨rfl, lk216⟩
           obtain ⟨pk9, hpk9⟩ : ∃ p : Pk, p = ⟨kd, ys[k], 0⟩ := ⟨_, rfl⟩
           refine xl_e (e_buildSlice1 rfl fun b5 w21 n5 l5 k5 => ?_)
           refine xl_e (e_app (by first | omega | simp) (by decide) (by omega) (by omega) (by first | exact Ge.le | omega) fun Ab cb w22 ob lb ab fb => ?_)
           refine xl_v v_assign ?_
           refine xl_nil ?_
           refine x_regionL ?_
           refine xl_v v_move ?_
           refine xl_v (v_add (by omega)) ?_
           refine xl_v v_assign ?_
           refine xl_nil ?_
           refine ⟨_, ?_, rfl, k2 + 1, k + 1, Ab, cb, l ++ [pk9], rfl, by omega, by omega, by simp [hlk], snoc_row (by rw [hpk9]; exact (OwnI.own : World.ownsRow w22 _ _ _ (.slice Ab _ cb) _ _)), inferInstance, inferInstance, inferInstance, evc, lkc⟩
           omega
         ·
          refine x_exit ?_
          refine x_seq ?_
          haveI hrn : Row w15 A7 (l.flatMap pkC) := ⟨(FRow.of_own ho7).row⟩
          refine x_regionL ?_
          refine xl_v v_move ?_
          refine xl_v v_move ?_
          refine xl_call (played_ok n A7 k2 c7 l w15 hlk (by omega) hn) ?_
          rintro _ w23 ⟨⟨q, D, R, rfl, hP, hpr, hq⟩, lk4⟩
          obtain ⟨F, G, hQ, hInv, _⟩ := hP.ex
          have hok := node_ok_of hInv
          obtain ⟨hlen, hbags, hns⟩ := tell_at hP.eq
          have hn5 : D.ns.length ≤ 5 := by have := hInv.odd.2; rw [pure_len] at this; exact this
          have hcom : ∀ z ∈ R.ns, 0 ≤ z.x.commit ∧ z.x.commit ≤ z.x.log.length ∧ z.x.log.length ≤ 256 := by
           intro z hz
           obtain ⟨k, hk, rfl⟩ := List.getElem_of_mem hz
           have hk2 : k < D.ns.length := by omega
           rw [hns k hk hk2]
           have := hok _ (List.getElem_mem hk2)
           exact ⟨this.c0, this.c1, this.ll⟩
          refine xl_v v_move ?_
          refine xl_v v_extract ?_
          refine xl_v v_extract ?_
          refine xl_v v_extract ?_
          refine xl_e (e_alloc fun b8 w24 n8 l8 k8 => ?_)
          refine xl_v v_assign ?_
          refine xl_s (e_storeA fun w25 l25 k25 => ?_)
          refine xl_v v_assign ?_
          refine xl_nil ?_
          refine x_seq ?_
          refine x_regionL ?_
          refine xl_v v_move ?_
          refine xl_call (committed_ok q D F w25 (hQ.ext (kpc : Keep NoB _ w25)) hok hn5) ?_
          rintro _ w26 ⟨⟨A9, c9, rfl, ho9, hl9⟩, lk10⟩
          haveI o9 : OwnI w26 A9 _ _ _ _ _ _ _ := ⟨ho9⟩
          refine xl_v v_assign ?_
          refine xl_nil ?_
          refine x_seq ?_
          refine x_regionL ?_
          refine xl_v v_move ?_
          refine xl_v v_move ?_
          refine xl_gv rfl EvO.eq v_move ?_
          refine xl_gLb rfl EvO.eq ?_
          refine xl_gcall rfl EvO.eq (committedD_ok (OutQ NoB q D) R w26 (hP.ref.ext (kpc : Keep NoB _ w26)) (by omega) hcom) ?_
          rintro _ w27 ⟨⟨A10, c10, rfl, hf10, hl10⟩, lk11⟩
          haveI r10 : Row w27 A10 _ := ⟨hf10.row⟩
          refine xl_gcall rfl EvO.eq (sameC_ok A9 _ c9 D.pure.committed A10 _ c10 R.pure.committed w27 rfl rfl (by omega)) ?_
          rintro _ w28 ⟨rfl, lk12⟩
          rw [decide_eq_true (show D.pure.committed = R.pure.committed from by rw [hP.eq, tell_committed])]
          refine xl_Pk ?_
          refine xl_v v_move ?_
          refine xl_gcall rfl EvO.eq (works_ok w28) ?_
          rintro _ w29 ⟨rfl, lk52⟩
          refine xl_Pk ?_
          refine xl_v v_assign ?_
          refine xl_nil ?_
          refine x_ret ?_
          refine fin1 rfl ?_
          exact ⟨rfl, lkc⟩
   ·
    obtain ⟨n, hn7⟩ : ∃ n : Int, n = 3 := ⟨3, rfl⟩
    refine x_skip ?_
    refine x_seq ?_
    have hn : n = 1 ∨ n = 3 ∨ n = 5 := by omega
    obtain ⟨m1, hm1⟩ : ∃ m1 : Nat, (m1 : Int) = 2 * n := ⟨(2 * n).toNat, by omega⟩
    refine x_regionL ?_
    refine xl_call (pick_ok 1 0 0 w) ?_
    rintro _ w30 ⟨rfl, lk60⟩
    refine xl_e (e_buildSlice1 rfl fun b61 w31 n61 l61 k61 => ?_)
    refine xl_v v_assign ?_
    refine xl_nil ?_
    refine x_seq ?_
    refine x_seq ?_
    refine x_regionL ?_
    refine xl_v v_assign ?_
    refine xl_nil ?_
    refine x_block ?_
    have ho8 : (w31).ownsRow w.heap.size 35 3 (.slice (some ⟨b61, 0, none⟩) 1 1) 1 ([(⟨1, 0, 0⟩ : Pk)].flatMap pkC) := ownsRow_blk (by rw [n61.eq]; exact Ge.le) k61.eq rfl (by decide)
    refine x_loop (fun t τ ds w' => ds = [] ∧ ∃ (k2 k : Nat) (A7 : Option Addr) (c7 : Nat) (l : List Pk), t = m1 - k ∧ k ≤ m1 ∧ k2 = k + 1 ∧ l.length = k2 ∧ w'.ownsRow w.heap.size 35 3 (.slice A7 k2 c7) k2 (l.flatMap pkC) ∧ Ev τ 1 (.slice A m c) ∧ Ev τ 2 (.slice A2 m2 cc2) ∧ Ev τ 7 (.int .i64 n) ∧ Ev τ 8 (.slice A7 k2 c7) ∧ Ev τ 9 (.int .i64 (k : Int)) ∧ Lk w' w NoB) (m1) ?start ?round
    case start =>
     exact ⟨rfl, 1, 0, _, 1, [⟨1, 0, 0⟩], rfl, Nat.zero_le _, rfl, rfl, ho8, inferInstance, inferInstance, evc (by rw [hn7]), inferInstance, evc, lkc⟩
    case round =>
     intro m τ32 ds32 w32 hI
     obtain ⟨rfl, k2, k, A7, c7, l, rfl, hk, hk2, hlk, ho7, e1, e2, e7, e8, e9, lk⟩ := hI
     haveI o7 : OwnI w32 A7 _ _ _ _ _ _ _ := ⟨ho7⟩
     haveI na7 : NewA A7 w := newA_of ho7 (Nat.le_refl _)
     refine x_seq ?_
     refine x_seq ?_
     refine x_regionL ?_
     refine xl_v v_move ?_
     refine xl_v v_move ?_
     refine xl_v (v_mul (by omega)) ?_
     refine xl_v v_lss ?_
     refine xl_nil ?_
     first | refine x_condP (fun c3 => ?_) (fun c3 => ?_) | refine x_condN (fun c3 => ?_) (fun c3 => ?_) | refine x_condE (fun c3 => ?_) (fun c3 => ?_)
     ·
      refine x_skip ?_
      refine x_seq ?_
      refine x_block ?_
      refine x_regionL ?_
      refine xl_v v_move ?_
      refine xl_call (pick_ok 5 0 0 w32) ?_
      rintro _ w33 ⟨rfl, lk101⟩
      refine xl_e (e_buildSlice1 rfl fun b5 w34 n5 l5 k5 => ?_)
      refine xl_e (e_app (by first | omega | simp) (by decide) (by omega) (by omega) (by first | exact Ge.le | omega) fun Ab cb w35 ob lb ab fb => ?_)
      refine xl_v v_assign ?_
      refine xl_nil ?_
      refine x_regionL ?_
      refine xl_v v_move ?_
      refine xl_v (v_add (by omega)) ?_
      refine xl_v v_assign ?_
      refine xl_nil ?_
      refine ⟨_, ?_, rfl, k2 + 1, k + 1, Ab, cb, l ++ [⟨5, 0, 0⟩], rfl, by omega, by omega, by simp [hlk], snoc_row (OwnI.own : World.ownsRow w35 _ _ _ (.slice Ab _ cb) _ _), inferInstance, inferInstance, inferInstance, inferInstance, evc, lkc⟩
      omega
     ·
      refine x_exit ?_
      refine x_seq ?_
      refine x_seq ?_
      refine x_regionL ?_
      refine xl_v v_assign ?_
      refine xl_nil ?_
      refine x_block ?_
      have hkm : k2 ≤ 11 := by omega
      refine x_loop (fun t τ ds w' => ds = [] ∧ ∃ (k2 k : Nat) (A7 : Option Addr) (c7 : Nat) (l : List Pk), t = m - k ∧ k ≤ m ∧ k2 ≤ 11 + 2 * k ∧ l.length = k2 ∧ w'.ownsRow w.heap.size 35 3 (.slice A7 k2 c7) k2 (l.flatMap pkC) ∧ Ev τ 1 (.slice A m c) ∧ Ev τ 2 (.slice A2 m2 cc2) ∧ Ev τ 7 (.int .i64 n) ∧ Ev τ 8 (.slice A7 k2 c7) ∧ Ev τ 10 (.int .i64 (k : Int)) ∧ Lk w' w NoB) (m) ?start ?round
      case start =>
       exact ⟨rfl, k2, 0, A7, c7, l, rfl, Nat.zero_le _, by omega, hlk, own_ext ho7 lkc, inferInstance, inferInstance, inferInstance, inferInstance, evc, lkc⟩
      case round =>
       intro m τ36 ds36 w36 hI
       clear e1 e2 e7 e8 e9 lk ho7 hlk hk2 hkm
       obtain ⟨rfl, k2, k, A7, c7, l, rfl, hk, hk2, hlk, ho7, e1, e2, e7, e8, e10, lk⟩ := hI
       haveI o7 : OwnI w36 A7 _ _ _ _ _ _ _ := ⟨ho7⟩
       haveI na7 : NewA A7 w := newA_of ho7 (Nat.le_refl _)
       refine x_seq ?_
       refine x_seq ?_
       refine x_regionL ?_
       refine xl_v v_move ?_
       refine xl_v v_move ?_
       refine xl_v v_len ?_
       refine xl_v v_lss ?_
       refine xl_nil ?_
       first | refine x_condP (fun c4 => ?_) (fun c4 => ?_) | refine x_condN (fun c4 => ?_) (fun c4 => ?_) | refine x_condE (fun c4 => ?_) (fun c4 => ?_)
       ·
        have hk1 : k < xs.length := by omega
        have htm := tmod_nn (x := (k : Int)) (n := n - 1) (by omega) (by omega)
        haveI hoA : OldA w A := old_of hrow.row (by simp [ints]; omega)
        refine x_skip ?_
        refine x_seq ?_
        refine x_block ?_
        refine x_drawL (NewS w) (allS) (.take 0 (.take 1 (.take 2 (.take 3 (.take 4 (.take 6 (.take 7 (.take 8 (.take 9 (.take 10 (.eff 5 (.eff 11 (.eff 12 (.eff 13 (.take 14 .done))))))))))))))) mixed (by kernel_rfl) (fun _ _ _ _ _ h => h) (fun w37 l37 => ?_)
        refine xt_v rfl v_move ?_
        refine xt_v rfl v_move ?_
        refine xt_v rfl v_move ?_
        refine xt_v rfl (v_indexO k rfl (by omega) hk1) ?_
        refine xt_v rfl (v_loadO (k := k) hk1) ?_
        refine xt_v rfl v_move ?_
        refine xt_v rfl v_move ?_
        refine xt_v rfl (v_sub (by omega)) ?_
        refine xt_v rfl (v_rem (by omega)) ?_
        refine xt_v rfl (v_add (by omega)) ?_
        refine xt_call rfl (pick_ok 2 0 xs[k] w37) ?_
        rintro _ w38 ⟨rfl, lk145⟩
        refine ⟨kpc, ?_⟩
        refine xt_call rfl (pick_ok 3 0 (1 + (k : Int).tmod (n - 1)) w38) ?_
        rintro _ w39 ⟨rfl, lk1411⟩
        refine ⟨kpc, ?_⟩
        refine xt_e rfl (e_buildSliceM (vs := [(⟨2, 0, xs[k]⟩ : Pk), ⟨3, 0, 1 + (k : Int).tmod (n - 1)⟩].flatMap pkC) rfl rfl rfl fun b12 w40 n12 l12 k12 => ?_)
        refine xt_e rfl (e_app (by first | omega | simp) (by decide) (by omega) (by omega) (by first | exact Ge.le | omega) fun Ab cb w41 ob lb ab fb => ?_)
        refine xt_v rfl v_assign ?_
        refine xt_nil ?_
        refine x_regionL ?_
        refine xl_v v_move ?_
        refine xl_v (v_add (by omega)) ?_
        refine xl_v v_assign ?_
        refine xl_nil ?_
        refine ⟨_, ?_, rfl, k2 + 2, k + 1, Ab, cb, l ++ [⟨2, 0, xs[k]⟩, ⟨3, 0, 1 + (k : Int).tmod (n - 1)⟩], rfl, by omega, by omega, by simp [hlk], ?_, inferInstance, inferInstance, inferInstance, inferInstance, evc, lkc⟩
        ·omega
        ·rw [List.flatMap_append]
         exact (OwnI.own : World.ownsRow w41 _ _ _ (.slice Ab _ cb) _ _)
       ·
        refine x_exit ?_
        refine x_seq ?_
        refine x_seq ?_
        refine x_regionL ?_
        refine xl_v v_assign ?_
        refine xl_nil ?_
        refine x_block ?_
        have hkm : k2 ≤ 35 := by omega
        refine x_loop (fun t τ ds w' => ds = [] ∧ ∃ (k2 k : Nat) (A7 : Option Addr) (c7 : Nat) (l : List Pk), t = m2 - k ∧ k ≤ m2 ∧ k2 ≤ 35 + k ∧ l.length = k2 ∧ w'.ownsRow w.heap.size 35 3 (.slice A7 k2 c7) k2 (l.flatMap pkC) ∧ Ev τ 2 (.slice A2 m2 cc2) ∧ Ev τ 7 (.int .i64 n) ∧ Ev τ 8 (.slice A7 k2 c7) ∧ Ev τ 11 (.int .i64 (k : Int)) ∧ Lk w' w NoB) (m2) ?start ?round
        case start =>
         exact ⟨rfl, k2, 0, A7, c7, l, rfl, Nat.zero_le _, by omega, hlk, own_ext ho7 lkc, inferInstance, inferInstance, inferInstance, evc, lkc⟩
        case round =>
         intro m τ42 ds42 w42 hI
         clear e1 e2 e7 e8 e10 lk ho7 hlk hk2 hkm
         obtain ⟨rfl, k2, k, A7, c7, l, rfl, hk, hk2, hlk, ho7, e2, e7, e8, e11, lk⟩ := hI
         haveI o7 : OwnI w42 A7 _ _ _ _ _ _ _ := ⟨ho7⟩
         haveI na7 : NewA A7 w := newA_of ho7 (Nat.le_refl _)
         refine x_seq ?_
         refine x_seq ?_
         refine x_regionL ?_
         refine xl_v v_move ?_
         refine xl_v v_move ?_
         refine xl_v v_len ?_
         refine xl_v v_lss ?_
         refine xl_nil ?_
         first | refine x_condP (fun c5 => ?_) (fun c5 => ?_) | refine x_condN (fun c5 => ?_) (fun c5 => ?_) | refine x_condE (fun c5 => ?_) (fun c5 => ?_)
         ·
          have hk1 : k < ys.length := by omega
          have ht1 : -5 < ys[k].tmod 5 ∧ ys[k].tmod 5 < 5 := tmod_in (n := 5) (by decide)
          have ht2 := tmod_nn (x := ys[k].tmod 5 + 5) (n := 5) (by omega) (by omega)
          obtain ⟨j, hj⟩ : ∃ j : Nat, (ys[k].tmod 5 + 5).tmod 5 = (j : Int) := ⟨((ys[k].tmod 5 + 5).tmod 5).toNat, by omega⟩
          have hj5 : j < [(5 : Int), 5, 6, 7, 3].length := by simp; omega
          have htm := tmod_nn (x := (k : Int)) (n := n - 1) (by omega) (by omega)
          obtain ⟨kd, hkd⟩ : ∃ kd : Int, [(5 : Int), 5, 6, 7, 3][j] = kd := ⟨_, rfl⟩
          refine x_skip ?_
          refine x_seq ?_
          refine x_block ?_
          refine x_seq ?_
          refine x_regionL ?_
          refine xl_e (e_buildSliceM (vs := ints [(5 : Int), 5, 6, 7, 3]) rfl rfl rfl fun b18 w43 n18 l18 k18 => ?_)
          haveI hr18 : Row w43 (some ⟨b18, 0, none⟩) (ints [(5 : Int), 5, 6, 7, 3]) := ⟨row_blk k18.eq⟩
          refine xl_v v_move ?_
          refine xl_v v_move ?_
          refine xl_v (v_indexO k rfl (by omega) hk1) ?_
          refine xl_v (v_loadO (k := k) hk1) ?_
          refine xl_v (v_rem (by decide)) ?_
          refine xl_v (v_add (by omega)) ?_
          refine xl_v (v_rem (by decide)) ?_
          refine xl_v (v_indexO j hj (by omega) hj5) ?_
          refine xl_v (v_congr (u := .int .i64 kd) (v_loadO (k := j) hj5) (by rw [hkd])) ?_
          refine xl_v v_assign ?_
          refine xl_nil ?_
          refine x_seq ?_
          refine x_regionL ?_
          refine xl_v v_move ?_
          refine xl_v v_eql ?_
          refine xl_nil ?_
          refine x_condE (fun c6 => ?_) (fun c6 => ?_)
          ·
           refine x_regionL ?_
           refine xl_v v_move ?_
           refine xl_v v_move ?_
           refine xl_v v_move ?_
           refine xl_v v_move ?_
           refine xl_v (v_sub (by omega)) ?_
           refine xl_v (v_rem (by omega)) ?_
           refine xl_v (v_add (by omega)) ?_
           refine xl_call (pick_ok kd 0 (1 + (k : Int).tmod (n - 1)) w43) ?_
           rintro _ w44 ⟨rfl, lk207⟩
           obtain ⟨pk9, hpk9⟩ : ∃ p : Pk, p = ⟨kd, 0, 1 + (k : Int).tmod (n - 1)⟩ := ⟨_, rfl⟩
           refine xl_e (e_buildSlice1 rfl fun b5 w45 n5 l5 k5 => ?_)
           refine xl_e (e_app (by first | omega | simp) (by decide) (by omega) (by omega) (by first | exact Ge.le | omega) fun Ab cb w46 ob lb ab fb => ?_)
           refine xl_v v_assign ?_
           refine xl_nil ?_
           refine x_regionL ?_
           refine xl_v v_move ?_
           refine xl_v (v_add (by omega)) ?_
           refine xl_v v_assign ?_
           refine xl_nil ?_
           refine ⟨_, ?_, rfl, k2 + 1, k + 1, Ab, cb, l ++ [pk9], rfl, by omega, by omega, by simp [hlk], snoc_row (by rw [hpk9]; exact (OwnI.own : World.ownsRow w46 _ _ _ (.slice Ab _ cb) _ _)), inferInstance, inferInstance, inferInstance, evc, lkc⟩
           omega
          ·
           refine x_regionL ?_
           refine xl_v v_move ?_
           refine xl_v v_move ?_
           refine xl_v v_move ?_
           refine xl_v v_move ?_
           refine xl_v (v_indexO k rfl (by omega) hk1) ?_
           refine xl_v (v_loadO (k := k) hk1) ?_
           refine xl_call (pick_ok kd ys[k] 0 w43) ?_
           rintro _ w47 ⟨rfl, lk216⟩
           obtain ⟨pk9, hpk9⟩ : ∃ p : Pk, p = ⟨kd, ys[k], 0⟩ := ⟨_, rfl⟩
           refine xl_e (e_buildSlice1 rfl fun b5 w48 n5 l5 k5 => ?_)
           refine xl_e (e_app (by first | omega | simp) (by decide) (by omega) (by omega) (by first | exact Ge.le | omega) fun Ab cb w49 ob lb ab fb => ?_)
           refine xl_v v_assign ?_
           refine xl_nil ?_
           refine x_regionL ?_
           refine xl_v v_move ?_
           refine xl_v (v_add (by omega)) ?_
           refine xl_v v_assign ?_
           refine xl_nil ?_
           refine ⟨_, ?_, rfl, k2 + 1, k + 1, Ab, cb, l ++ [pk9], rfl, by omega, by omega, by simp [hlk], snoc_row (by rw [hpk9]; exact (OwnI.own : World.ownsRow w49 _ _ _ (.slice Ab _ cb) _ _)), inferInstance, inferInstance, inferInstance, evc, lkc⟩
           omega
         ·
          refine x_exit ?_
          refine x_seq ?_
          haveI hrn : Row w42 A7 (l.flatMap pkC) := ⟨(FRow.of_own ho7).row⟩
          refine x_regionL ?_
          refine xl_v v_move ?_
          refine xl_v v_move ?_
          refine xl_call (played_ok n A7 k2 c7 l w42 hlk (by omega) hn) ?_
          rintro _ w50 ⟨⟨q, D, R, rfl, hP, hpr, hq⟩, lk4⟩
          obtain ⟨F, G, hQ, hInv, _⟩ := hP.ex
          have hok := node_ok_of hInv
          obtain ⟨hlen, hbags, hns⟩ := tell_at hP.eq
          have hn5 : D.ns.length ≤ 5 := by have := hInv.odd.2; rw [pure_len] at this; exact this
          have hcom : ∀ z ∈ R.ns, 0 ≤ z.x.commit ∧ z.x.commit ≤ z.x.log.length ∧ z.x.log.length ≤ 256 := by
           intro z hz
           obtain ⟨k, hk, rfl⟩ := List.getElem_of_mem hz
           have hk2 : k < D.ns.length := by omega
           rw [hns k hk hk2]
           have := hok _ (List.getElem_mem hk2)
           exact ⟨this.c0, this.c1, this.ll⟩
          refine xl_v v_move ?_
          refine xl_v v_extract ?_
          refine xl_v v_extract ?_
          refine xl_v v_extract ?_
          refine xl_e (e_alloc fun b8 w51 n8 l8 k8 => ?_)
          refine xl_v v_assign ?_
          refine xl_s (e_storeA fun w52 l52 k52 => ?_)
          refine xl_v v_assign ?_
          refine xl_nil ?_
          refine x_seq ?_
          refine x_regionL ?_
          refine xl_v v_move ?_
          refine xl_call (committed_ok q D F w52 (hQ.ext (kpc : Keep NoB _ w52)) hok hn5) ?_
          rintro _ w53 ⟨⟨A9, c9, rfl, ho9, hl9⟩, lk10⟩
          haveI o9 : OwnI w53 A9 _ _ _ _ _ _ _ := ⟨ho9⟩
          refine xl_v v_assign ?_
          refine xl_nil ?_
          refine x_seq ?_
          refine x_regionL ?_
          refine xl_v v_move ?_
          refine xl_v v_move ?_
          refine xl_gv rfl EvO.eq v_move ?_
          refine xl_gLb rfl EvO.eq ?_
          refine xl_gcall rfl EvO.eq (committedD_ok (OutQ NoB q D) R w53 (hP.ref.ext (kpc : Keep NoB _ w53)) (by omega) hcom) ?_
          rintro _ w54 ⟨⟨A10, c10, rfl, hf10, hl10⟩, lk11⟩
          haveI r10 : Row w54 A10 _ := ⟨hf10.row⟩
          refine xl_gcall rfl EvO.eq (sameC_ok A9 _ c9 D.pure.committed A10 _ c10 R.pure.committed w54 rfl rfl (by omega)) ?_
          rintro _ w55 ⟨rfl, lk12⟩
          rw [decide_eq_true (show D.pure.committed = R.pure.committed from by rw [hP.eq, tell_committed])]
          refine xl_Pk ?_
          refine xl_v v_move ?_
          refine xl_gcall rfl EvO.eq (works_ok w55) ?_
          rintro _ w56 ⟨rfl, lk52⟩
          refine xl_Pk ?_
          refine xl_v v_assign ?_
          refine xl_nil ?_
          refine x_ret ?_
          refine fin1 rfl ?_
          exact ⟨rfl, lkc⟩
end Go.Proofs.Ytdmafmlifadfoaa
