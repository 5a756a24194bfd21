/-
 Walks, printed by a program of this workplace (wip/tools/sx.py) off the functions' code and a text of contracts.
-/
import Derived.Test.YtdmafmlifadfoaaJ17
set_option linter.all false
set_option maxRecDepth 100000
set_option synthInstance.maxSize 100000
set_option synthInstance.maxHeartbeats 400000
namespace Go.Proofs.Ytdmafmlifadfoaa
open Go.Wst
open Go.Wst.Qm
theorem snoc_row {w : World} {A : Option Addr} {c k base : Nat} {l : List Pk} {p : Pk} (h : w.ownsRow base 35 3 (.slice A (k + 1) c) (k + 1) (l.flatMap pkC ++ pkC p)) : w.ownsRow base 35 3 (.slice A (k + 1) c) (k + 1) ((l ++ [p]).flatMap pkC) := by
 rw [List.flatMap_append]
 simpa using h
set_option maxHeartbeats 2000000 in
/-- waystation/waystationlaw06.QuorumVotes -/
theorem votes_ok (n : Int) (A : Option Addr) (m c : Nat) (xs : List Int) (A2 : Option Addr) (m2 cc2 : Nat) (ys : List Int) (w : World) [hrow : Row w A (ints xs)] (hl : xs.length = m) [hrow2 : Row w A2 (ints ys)] (hl2 : ys.length = m2) : Ret Try.prog 7 #[.int .i64 n, .slice A m c, .slice A2 m2 cc2] w (fun v w' => v = .bool true ∧ Lk w' w NoB) := by
 haveI hrw : RowB w A w (ints xs) := rowB_of hrow.row
 haveI hrw2 : RowB w A2 w (ints ys) := rowB_of hrow2.row
 refine ret_of_x (N := 66) (l := [.int .i64 n, .slice A m c, .slice A2 m2 cc2]) Try.func7 rfl rfl (Nat.le_of_ble_eq_true rfl) ?_
 refine x_seq ?_
 refine x_regionL ?_
 refine xl_v v_assign ?_
 refine xl_nil ?_
 refine x_seq ?_
 refine x_seq ?_
 refine x_regionL ?_
 refine xl_v v_move ?_
 refine xl_call (right_ok _ _) ?_
 rintro _ _ ⟨rfl, rfl⟩
 refine xl_v v_not ?_
 refine xl_v v_move ?_
 refine xl_split 16 (fun g16 => ?_) (fun g16 => ?_)
 ·
  refine xl_gs rfl EvO.eq ?_
  refine xl_gs rfl EvO.eq ?_
  refine xl_gs rfl EvO.eq ?_
  refine xl_Pk ?_
  refine xl_v v_move ?_
  refine xl_gs rfl EvO.eq ?_
  refine xl_gs rfl EvO.eq ?_
  refine xl_gs rfl EvO.eq ?_
  refine xl_Pk ?_
  refine xl_nil ?_
  refine x_condT ?_
  refine x_seq ?_
  refine x_regionL ?_
  refine xl_call (works_ok w) ?_
  rintro _ w2 ⟨rfl, lk2⟩
  refine xl_v v_assign ?_
  refine xl_nil ?_
  refine x_ret ?_
  refine fin1 rfl ?_
  exact ⟨rfl, lkc⟩
 ·
  refine xl_gv rfl EvO.eq v_move ?_
  refine xl_gv rfl EvO.eq v_len ?_
  refine xl_gv rfl EvO.eq v_gtr ?_
  refine xl_Pk ?_
  refine xl_v v_move ?_
  refine xl_split 21 (fun g21 => ?_) (fun g21 => ?_)
  ·
   refine xl_gs rfl EvO.eq ?_
   refine xl_gs rfl EvO.eq ?_
   refine xl_gs rfl EvO.eq ?_
   refine xl_Pk ?_
   refine xl_nil ?_
   refine x_condT ?_
   refine x_seq ?_
   refine x_regionL ?_
   refine xl_call (works_ok w) ?_
   rintro _ w3 ⟨rfl, lk2⟩
   refine xl_v v_assign ?_
   refine xl_nil ?_
   refine x_ret ?_
   refine fin1 rfl ?_
   exact ⟨rfl, lkc⟩
  ·
   refine xl_gv rfl EvO.eq v_move ?_
   refine xl_gv rfl EvO.eq v_len ?_
   refine xl_gv rfl EvO.eq v_gtr ?_
   refine xl_Pk ?_
   refine xl_nil ?_
   refine x_condE (fun c1 => ?_) (fun c1 => ?_)
   ·
    refine x_seq ?_
    refine x_regionL ?_
    refine xl_call (works_ok w) ?_
    rintro _ w4 ⟨rfl, lk2⟩
    refine xl_v v_assign ?_
    refine xl_nil ?_
    refine x_ret ?_
    refine fin1 rfl ?_
    exact ⟨rfl, lkc⟩
   ·
    refine x_skip ?_
    refine x_seq ?_
    have hn : n = 1 ∨ n = 3 ∨ n = 5 := by
     first
      | (simp at g16; omega)
      | (simp at g16 g21; omega)
      | (simp at g16 g21 c1; omega)
    have hm : m ≤ 5 := by
     first
      | (simp at g21; omega)
      | (simp at g16 g21; omega)
      | (simp at g16 g21 c1; omega)
    have hm2 : m2 ≤ 40 := by
     first
      | (simp at c1; omega)
      | (simp at g16 g21 c1; omega)
    refine x_regionL ?_
    refine xl_v v_assign ?_
    refine xl_nil ?_
    refine x_seq ?_
    refine x_seq ?_
    refine x_regionL ?_
    refine xl_v v_assign ?_
    refine xl_nil ?_
    refine x_block ?_
    refine x_loop (fun t τ ds w' => ds = [] ∧ ∃ (k : Nat) (A7 : Option Addr) (c7 : Nat) (l : List Pk), t = m - k ∧ k ≤ m ∧ l.length = k ∧ w'.ownsRow w.heap.size 35 3 (.slice A7 k c7) k (l.flatMap pkC) ∧ Ev τ 0 (.int .i64 n) ∧ Ev τ 1 (.slice A m c) ∧ Ev τ 2 (.slice A2 m2 cc2) ∧ Ev τ 7 (.slice A7 k c7) ∧ Ev τ 8 (.int .i64 (k : Int)) ∧ Lk w' w NoB) (m) ?start ?round
    case start =>
     exact ⟨rfl, 0, none, 0, [], rfl, Nat.zero_le _, rfl, World.ownsRow_nil _ _ _ _, inferInstance, inferInstance, inferInstance, inferInstance, evc, lkc⟩
    case round =>
     intro m τ5 ds5 w5 hI
     obtain ⟨rfl, k, A7, c7, l, rfl, hk, hlk, ho7, e0, e1, e2, e7, e8, lk⟩ := hI
     haveI o7 : OwnI w5 A7 _ _ _ _ _ _ _ := ⟨ho7⟩
     haveI na7 : NewA A7 w := newA_of ho7 (Nat.le_refl _)
     refine x_seq ?_
     refine x_seq ?_
     refine x_regionL ?_
     refine xl_v v_move ?_
     refine xl_v v_move ?_
     refine xl_v v_len ?_
     refine xl_v v_lss ?_
     refine xl_nil ?_
     first | refine x_condP (fun c2 => ?_) (fun c2 => ?_) | refine x_condN (fun c2 => ?_) (fun c2 => ?_) | refine x_condE (fun c2 => ?_) (fun c2 => ?_)
     ·
      have hk1 : k < xs.length := by omega
      refine x_skip ?_
      refine x_seq ?_
      refine x_block ?_
      refine x_regionL ?_
      refine xl_v v_move ?_
      refine xl_v v_move ?_
      refine xl_v v_move ?_
      refine xl_v (v_indexO k rfl (by omega) hk1) ?_
      refine xl_v (v_loadO (k := k) hk1) ?_
      refine xl_call (pick_ok 1 xs[k] 0 w5) ?_
      rintro _ w6 ⟨rfl, lk75⟩
      refine xl_e (e_buildSlice1 rfl fun b5 w7 n5 l5 k5 => ?_)
      refine xl_e (e_app (by first | omega | simp) (by decide) (by omega) (by omega) (by first | exact Ge.le | omega) fun Ab cb w8 ob lb ab fb => ?_)
      refine xl_v v_assign ?_
      refine xl_nil ?_
      refine x_regionL ?_
      refine xl_v v_move ?_
      refine xl_v (v_add (by omega)) ?_
      refine xl_v v_assign ?_
      refine xl_nil ?_
      refine ⟨_, ?_, rfl, k + 1, Ab, cb, l ++ [⟨1, xs[k], 0⟩], rfl, by omega, by simp [hlk], snoc_row (OwnI.own : World.ownsRow w8 _ _ _ (.slice Ab _ cb) _ _), inferInstance, inferInstance, inferInstance, inferInstance, evc, lkc⟩
      omega
     ·
      refine x_exit ?_
      refine x_seq ?_
      refine x_seq ?_
      refine x_regionL ?_
      refine xl_v v_assign ?_
      refine xl_nil ?_
      refine x_block ?_
      have hkm : k = m := by omega
      refine x_loop (fun t τ ds w' => ds = [] ∧ ∃ (k2 k : Nat) (A7 : Option Addr) (c7 : Nat) (l : List Pk), t = m2 - k ∧ k ≤ m2 ∧ k2 = m + k ∧ l.length = k2 ∧ w'.ownsRow w.heap.size 35 3 (.slice A7 k2 c7) k2 (l.flatMap pkC) ∧ Ev τ 0 (.int .i64 n) ∧ Ev τ 2 (.slice A2 m2 cc2) ∧ Ev τ 7 (.slice A7 k2 c7) ∧ Ev τ 9 (.int .i64 (k : Int)) ∧ Lk w' w NoB) (m2) ?start ?round
      case start =>
       exact ⟨rfl, k, 0, A7, c7, l, rfl, Nat.zero_le _, by omega, hlk, own_ext ho7 lkc, inferInstance, inferInstance, inferInstance, evc, lkc⟩
      case round =>
       intro m τ9 ds9 w9 hI
       clear e0 e1 e2 e7 e8 lk hkm ho7 hlk
       obtain ⟨rfl, k2, k, A7, c7, l, rfl, hk, hk2, hlk, ho7, e0, e2, e7, e9, lk⟩ := hI
       haveI o7 : OwnI w9 A7 _ _ _ _ _ _ _ := ⟨ho7⟩
       haveI na7 : NewA A7 w := newA_of ho7 (Nat.le_refl _)
       refine x_seq ?_
       refine x_seq ?_
       refine x_regionL ?_
       refine xl_v v_move ?_
       refine xl_v v_move ?_
       refine xl_v v_len ?_
       refine xl_v v_lss ?_
       refine xl_nil ?_
       first | refine x_condP (fun c3 => ?_) (fun c3 => ?_) | refine x_condN (fun c3 => ?_) (fun c3 => ?_) | refine x_condE (fun c3 => ?_) (fun c3 => ?_)
       ·
        have hk1 : k < ys.length := by omega
        refine x_skip ?_
        refine x_seq ?_
        refine x_block ?_
        refine x_regionL ?_
        refine xl_v v_move ?_
        refine xl_v v_move ?_
        refine xl_v v_move ?_
        refine xl_v (v_indexO k rfl (by omega) hk1) ?_
        refine xl_v (v_loadO (k := k) hk1) ?_
        refine xl_call (pick_ok 5 ys[k] 0 w9) ?_
        rintro _ w10 ⟨rfl, lk115⟩
        refine xl_e (e_buildSlice1 rfl fun b5 w11 n5 l5 k5 => ?_)
        refine xl_e (e_app (by first | omega | simp) (by decide) (by omega) (by omega) (by first | exact Ge.le | omega) fun Ab cb w12 ob lb ab fb => ?_)
        refine xl_v v_assign ?_
        refine xl_nil ?_
        refine x_regionL ?_
        refine xl_v v_move ?_
        refine xl_v (v_add (by omega)) ?_
        refine xl_v v_assign ?_
        refine xl_nil ?_
        refine ⟨_, ?_, rfl, k2 + 1, k + 1, Ab, cb, l ++ [⟨5, ys[k], 0⟩], rfl, by omega, by omega, by simp [hlk], snoc_row (OwnI.own : World.ownsRow w12 _ _ _ (.slice Ab _ cb) _ _), inferInstance, inferInstance, inferInstance, evc, lkc⟩
        omega
       ·
        refine x_exit ?_
        refine x_seq ?_
        haveI hrn : Row w9 A7 (l.flatMap pkC) := ⟨(FRow.of_own ho7).row⟩
        refine x_regionL ?_
        refine xl_v v_move ?_
        refine xl_v v_move ?_
        refine xl_call (played_ok n A7 k2 c7 l w9 hlk (by omega) hn) ?_
        rintro _ w13 ⟨⟨q, D, R, rfl, hP, hpr, hq⟩, lk4⟩
        refine xl_v v_move ?_
        refine xl_v v_extract ?_
        refine xl_v v_extract ?_
        refine xl_v v_extract ?_
        refine xl_e (e_alloc fun b8 w14 n8 l8 k8 => ?_)
        refine xl_v v_assign ?_
        refine xl_s (e_storeA fun w15 l15 k15 => ?_)
        refine xl_v v_assign ?_
        refine xl_nil ?_
        refine x_seq ?_
        refine x_regionL ?_
        refine xl_v v_move ?_
        refine xl_v v_move ?_
        refine xl_gcall rfl EvO.eq (works_ok w15) ?_
        rintro _ w16 ⟨rfl, lk52⟩
        refine xl_Pk ?_
        refine xl_v v_assign ?_
        refine xl_nil ?_
        refine x_ret ?_
        refine fin1 rfl ?_
        exact ⟨rfl, lkc⟩
end Go.Proofs.Ytdmafmlifadfoaa
