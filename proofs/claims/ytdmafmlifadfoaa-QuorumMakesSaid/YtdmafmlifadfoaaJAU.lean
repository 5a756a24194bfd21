/-
 Walks, printed by a program of this workplace (wip/tools/sx.py) off the functions' code and a text of contracts.
-/
import Derived.Test.YtdmafmlifadfoaaJAN
set_option linter.all false
set_option maxRecDepth 100000
set_option synthInstance.maxSize 100000
set_option synthInstance.maxHeartbeats 400000
namespace Go.Proofs.Ytdmafmlifadfoaa
open Go.Wst
open Go.Wst.Qm

/-- (*waystation/quorum.Quorum).Run -/
theorem runN_ok (A : Option Addr) (n c : Nat) (l : List Pk) (w : World) [hrow : Row w A (l.flatMap pkC)] [hold : OldA w A] (hl : l.length = n) (hn : n ≤ 1000) : Ret Try.prog 24 #[.pointer none, .slice A n c] w (fun v w' => (∃ (A' : Option Addr) (c' : Nat), v = .slice A' n c' ∧ w'.ownsRow w.heap.size 26 1 v n (ints (List.replicate n 1))) ∧ Lk w' w NoB) := by
 haveI hrw : RowB w A w (l.flatMap pkC) := rowB_of hrow.row
 refine ret_of_x (N := 22) (l := [.pointer none, .slice A n c]) Try.func24 rfl rfl (Nat.le_of_ble_eq_true rfl) ?_
 refine x_seq ?_
 refine x_regionL ?_
 refine xl_v v_assign ?_
 refine xl_nil ?_
 refine x_seq ?_
 refine x_regionL ?_
 refine xl_v v_assign ?_
 refine xl_nil ?_
 refine x_seq ?_
 refine x_seq ?_
 refine x_regionL ?_
 refine xl_v v_move ?_
 refine xl_v v_len ?_
 refine xl_v v_move ?_
 refine xl_nil ?_
 refine x_block ?_
 refine x_loop (fun m τ ds w' => ds = [] ∧ ∃ (k : Nat) (A7 : Option Addr) (c7 : Nat), m = n - k ∧ k ≤ n ∧ w'.ownsRow w.heap.size 26 1 (.slice A7 k c7) k (ints (List.replicate k 1)) ∧ Ev τ 0 (.pointer none) ∧ Ev τ 5 (.slice A7 k c7) ∧ Ev τ 8 (.slice A n c) ∧ Ev τ 9 (.int .i64 (n : Int)) ∧ Ev τ 10 (.int .i64 (k : Int)) ∧ Lk w' w NoB) (n) ?start ?round
 case start =>
  exact ⟨rfl, 0, none, 0, rfl, Nat.zero_le _, World.ownsRow_nil _ _ _ _, inferInstance, inferInstance, inferInstance, evc, evc, lkc⟩
 case round =>
  intro m τ1 ds1 w1 hI
  obtain ⟨rfl, k, A7, c7, rfl, hkn, ho7, e0, e5, e8, e9, e10, lk⟩ := hI
  haveI o7 : OwnI w1 A7 _ _ _ _ _ _ _ := ⟨ho7⟩
  haveI na7 : NewA A7 w := newA_of ho7 (Nat.le_refl _)
  refine x_seq ?_
  refine x_regionL ?_
  refine xl_v v_lss ?_
  refine xl_nil ?_
  refine x_seq ?_
  first | refine x_condP (fun c1 => ?_) (fun c1 => ?_) | refine x_condN (fun c1 => ?_) (fun c1 => ?_) | refine x_condE (fun c1 => ?_) (fun c1 => ?_)
  ·
   have hk1 : k < l.length := by omega
   refine x_skip ?_
   refine x_seq ?_
   refine x_block ?_
   refine x_seq ?_
   refine x_regionL ?_
   refine xl_v (v_indexF k (by decide) rfl (by omega) hk1) ?_
   refine xl_v (v_loadF (k := k) (by decide) hk1) ?_
   refine xl_e (e_alloc fun b2 w2 n2 l2 k2 => ?_)
   refine xl_s (e_storeA fun w3 l3 k3 => ?_)
   refine xl_nil ?_
   refine x_regionL ?_
   refine xl_v v_move ?_
   refine xl_v v_move ?_
   refine xl_Lb ?_
   refine xl_call (stepN_ok l[k] w3) ?_
   rintro _ w4 ⟨rfl, lk3⟩
   refine xl_e (e_buildSlice1 rfl fun b5 w5 n5 l5 k5 => ?_)
   refine xl_e (e_app (by simp [ints]) (by decide) (by omega) (by omega) Ge.le fun A6 c6 w6 o6 l6 a6 f6 => ?_)
   refine xl_v v_assign ?_
   refine xl_nil ?_
   refine x_regionL ?_
   refine xl_v (v_add (by omega)) ?_
   refine xl_v v_move ?_
   refine xl_nil ?_
   refine ⟨_, ?_, rfl, k + 1, A6, c6, rfl, by omega, ?_, inferInstance, evc, inferInstance, inferInstance, evc, lkc⟩
   ·omega
   ·rw [List.replicate_succ', ints_append]
    exact own_ext o6.own lkc
  ·
   refine x_exit ?_
   refine x_seq ?_
   refine x_regionL ?_
   refine xl_v v_move ?_
   refine xl_v v_assign ?_
   refine xl_nil ?_
   refine x_ret ?_
   refine fin1 rfl ?_
   have hk : k = n := by omega
   subst hk
   exact ⟨⟨A7, c7, rfl, own_ext ho7 lkc⟩, lkc⟩
theorem newQ_e (n : Int) (hn : ¬ (n = 1 ∨ n = 3 ∨ n = 5)) (w : World) :
    Ret Try.prog 14 #[.int .i64 n] w (fun v w' => v = .tuple #[.pointer none, .int .i64 2] ∧ Lk w' w NoB) := by
 refine (new_ok n w).mono ?_
 rintro v w' ⟨h | h, lk⟩
 ·exact absurd h.1 hn
 ·exact ⟨h.2, lk⟩
theorem newD_e (n : Int) (hn : ¬ (n = 1 ∨ n = 3 ∨ n = 5)) (w : World) :
    Ret Try.prog 21 #[.int .i64 n] w (fun v w' => v = .tuple #[.agg (dqC ⟨[], none, 0, [], none, 0⟩).toArray, .int .i64 2] ∧ Lk w' w NoB) := by
 refine (newD_ok n w).mono ?_
 rintro v w' ⟨h | h, lk⟩
 ·exact absurd h.1 hn
 ·exact ⟨h.2, lk⟩

set_option maxHeartbeats 4000000 in
/-- waystation/waystationlaw06.QuorumMakes -/
theorem makesE_ok (n : Int) (hn : ¬ (n = 1 ∨ n = 3 ∨ n = 5)) (w : World) : Ret Try.prog 11 #[.int .i64 n] w (fun v w' => v = .bool true ∧ Lk w' w NoB) := by
 refine ret_of_x (N := 136) (l := [.int .i64 n]) Try.func11 rfl rfl (Nat.le_of_ble_eq_true rfl) ?_
 refine x_seq ?_
 refine x_regionL ?_
 refine xl_v v_assign ?_
 refine xl_nil ?_
 refine x_seq ?_
 refine x_regionL ?_
 refine xl_v v_move ?_
 refine xl_call (newQ_e n hn w) ?_
 rintro _ w1 ⟨rfl, lk1⟩
 refine xl_v v_move ?_
 refine xl_v v_extract ?_
 refine xl_v v_extract ?_
 refine xl_v v_assign ?_
 refine xl_v v_assign ?_
 refine xl_nil ?_
 refine x_seq ?_
 refine x_regionL ?_
 refine xl_v v_move ?_
 refine xl_call (newD_e n hn w1) ?_
 rintro _ w2 ⟨rfl, lk2⟩
 refine xl_v v_move ?_
 refine xl_v v_extract ?_
 refine xl_v v_extract ?_
 refine xl_e (e_alloc fun b5 w3 n5 l5 k5 => ?_)
 refine xl_s (e_storeA fun w4 l4 k4 => ?_)
 refine xl_v v_assign ?_
 refine xl_nil ?_
 refine x_seq ?_
 refine x_regionL ?_
 refine xl_v v_assign ?_
 refine xl_nil ?_
 refine x_seq ?_
 refine x_regionL ?_
 refine xl_v v_move ?_
 refine xl_call (nodeN_ok 0 w4) ?_
 rintro _ w5 ⟨rfl, lk41⟩
 refine xl_v v_move ?_
 refine xl_v v_extract ?_
 refine xl_v v_extract ?_
 refine xl_e (e_alloc fun b8 w6 n8 l8 k8 => ?_)
 refine xl_s (e_storeA fun w7 l7 k7 => ?_)
 refine xl_v v_assign ?_
 refine xl_nil ?_
 refine x_seq ?_
 refine x_regionL ?_
 refine xl_v v_move ?_
 refine xl_call (pick_ok 1 0 0 w7) ?_
 rintro _ w8 ⟨rfl, lk51⟩
 refine xl_e (e_buildSliceM (vs := [(⟨1, 0, 0⟩ : Pk)].flatMap pkC) rfl rfl rfl fun b10 w9 n10 l10 k10 => ?_)
 haveI hr10 : Row w9 (some ⟨b10, 0, none⟩) ([(⟨1, 0, 0⟩ : Pk)].flatMap pkC) := ⟨row_blk k10.eq⟩
 haveI hold10 : OldA w9 (some ⟨b10, 0, none⟩) := ⟨fun a ha => by cases ha; exact Has.lt⟩
 refine xl_call (runN_ok (some ⟨b10, 0, none⟩) 1 1 [⟨1, 0, 0⟩] w9 rfl (by omega)) ?_
 rintro _ w10 ⟨⟨A10, c10, rfl, ho10⟩, lk53⟩
 haveI ra10 : RowB w10 A10 w10 (ints (List.replicate 1 1)) := rowB_of (FRow.of_own ho10).row
 refine xl_v v_assign ?_
 refine xl_nil ?_
 refine x_seq ?_
 refine x_seq ?_
 refine x_regionL ?_
 refine xl_v v_move ?_
 refine xl_call (num_ok _ _) ?_
 rintro _ _ ⟨rfl, rfl⟩
 refine xl_v (v_neqF rfl) ?_
 refine xl_v v_move ?_
 refine xl_gv rfl EvO.eq v_move ?_
 refine xl_gv rfl EvO.eq v_len ?_
 refine xl_gv rfl EvO.eq (v_neqF rfl) ?_
 refine xl_Pk ?_
 refine xl_v v_move ?_
 refine xl_gv rfl EvO.eq v_move ?_
 refine xl_gv rfl EvO.eq (v_indexO 0 rfl (by decide) (show 0 < (List.replicate 1 (1 : Int)).length from Nat.zero_lt_one)) ?_
 refine xl_gv rfl EvO.eq (v_loadO (k := 0) (show 0 < (List.replicate 1 (1 : Int)).length from Nat.zero_lt_one)) ?_
 refine xl_gcall rfl EvO.eq (num_ok _ _) ?_
 rintro _ _ ⟨rfl, rfl⟩
 refine xl_gv rfl EvO.eq (v_neqF rfl) ?_
 refine xl_Pk ?_
 refine xl_v v_move ?_
 refine xl_gv rfl EvO.eq v_move ?_
 refine xl_gv rfl EvO.eq v_build ?_
 refine xl_gcall rfl EvO.eq (stepN_ok ⟨0, 0, 0⟩ w10) ?_
 rintro _ w13 ⟨rfl, lk618⟩
 refine xl_gcall rfl EvO.eq (num_ok _ _) ?_
 rintro _ _ ⟨rfl, rfl⟩
 refine xl_gv rfl EvO.eq (v_neqF rfl) ?_
 refine xl_Pk ?_
 refine xl_v v_move ?_
 refine xl_gv rfl EvO.eq v_move ?_
 refine xl_gcall rfl EvO.eq (nodesN_ok w13) ?_
 rintro _ w15 ⟨rfl, lk624⟩
 refine xl_gv rfl EvO.eq v_move ?_
 refine xl_gcall rfl EvO.eq (bagN_ok w15) ?_
 rintro _ w16 ⟨rfl, lk626⟩
 refine xl_gv rfl EvO.eq v_len ?_
 refine xl_gv rfl EvO.eq (v_add (by omega)) ?_
 refine xl_gv rfl EvO.eq v_move ?_
 refine xl_gcall rfl EvO.eq (committedN_ok w16) ?_
 rintro _ w17 ⟨rfl, lk630⟩
 refine xl_gv rfl EvO.eq v_len ?_
 refine xl_gv rfl EvO.eq (v_add (by omega)) ?_
 refine xl_gv rfl EvO.eq (v_neqF rfl) ?_
 refine xl_Pk ?_
 refine xl_v v_move ?_
 refine xl_gv rfl EvO.eq v_move ?_
 refine xl_gcall rfl EvO.eq (copyN_ok w17) ?_
 rintro _ w18 ⟨rfl, lk637⟩
 refine xl_gv rfl EvO.eq (v_neq_pointerN) ?_
 refine xl_Pk ?_
 refine xl_v v_move ?_
 refine xl_gv rfl EvO.eq v_move ?_
 refine xl_gcall rfl EvO.eq (same00_ok w18) ?_
 rintro _ w19 ⟨rfl, lk642⟩
 refine xl_gv rfl EvO.eq (v_congr (u := .bool false) v_not rfl) ?_
 refine xl_Pk ?_
 refine xl_nil ?_
 refine x_condF ?_
 refine x_skip ?_
 refine x_seq ?_
 refine x_seq ?_
 refine x_regionL ?_
 refine xl_v v_move ?_
 refine xl_v (v_neqT (by decide)) ?_
 refine xl_nil ?_
 refine x_condT ?_
 refine x_seq ?_
 refine x_regionL ?_
 refine xl_v v_move ?_
 refine xl_v (by first | exact v_eql_pointerS | exact v_eql_pointerN) ?_
 refine xl_v v_move ?_
 refine xl_gv rfl EvO.eq v_move ?_
 refine xl_gcall rfl EvO.eq (num_ok _ _) ?_
 rintro _ _ ⟨rfl, rfl⟩
 refine xl_gv rfl EvO.eq v_move ?_
 refine xl_gv rfl EvO.eq (v_eqlT rfl) ?_
 refine xl_Pk ?_
 refine xl_v v_move ?_
 refine xl_gcall rfl EvO.eq (works_ok w19) ?_
 rintro _ w21 ⟨rfl, lk99⟩
 refine xl_Pk ?_
 refine xl_v v_assign ?_
 refine xl_nil ?_
 refine x_ret ?_
 refine fin1 rfl ?_
 exact ⟨rfl, lkc⟩
set_option maxHeartbeats 4000000 in
/-- waystation/waystationlaw06.QuorumMakes -/
theorem makesT_ok (n : Int) (hn : n = 1 ∨ n = 3 ∨ n = 5) (w : World) : Ret Try.prog 11 #[.int .i64 n] w (fun v w' => v = .bool true ∧ Lk w' w NoB) := by
 refine ret_of_x (N := 136) (l := [.int .i64 n]) Try.func11 rfl rfl (Nat.le_of_ble_eq_true rfl) ?_
 refine x_seq ?_
 refine x_regionL ?_
 refine xl_v v_assign ?_
 refine xl_nil ?_
 refine x_seq ?_
 refine x_regionL ?_
 refine xl_v v_move ?_
 refine xl_call (newQ_p n hn w) ?_
 rintro _ w1 ⟨⟨q, D, rfl, hQ, hp, hnw⟩, lk1⟩
 have hDl : (D.ns.length : Int) = n := by
  have h1 := congrArg (fun q : Qu => q.nodes.length) hp
  simp [LQu.pure, Qu.new] at h1
  omega
 haveI hbq : Blk w1 q _ := ⟨hQ.hb⟩
 refine xl_v v_move ?_
 refine xl_v v_extract ?_
 refine xl_v v_extract ?_
 refine xl_v v_assign ?_
 refine xl_v v_assign ?_
 refine xl_nil ?_
 refine x_seq ?_
 refine x_regionL ?_
 refine xl_v v_move ?_
 refine xl_call (newD_p n hn q D w1 (hQ.ext (kpc : Keep NoB _ w1)) hp) ?_
 rintro _ w2 ⟨⟨R, rfl, hP⟩, lk2⟩
 refine xl_v v_move ?_
 refine xl_v v_extract ?_
 refine xl_v v_extract ?_
 refine xl_e (e_alloc fun b5 w3 n5 l5 k5 => ?_)
 refine xl_s (e_storeA fun w4 l4 k4 => ?_)
 refine xl_v v_assign ?_
 refine xl_nil ?_
 refine x_seq ?_
 refine x_regionL ?_
 refine xl_v v_assign ?_
 refine xl_nil ?_
 refine x_seq ?_
 refine x_regionL ?_
 refine xl_v v_move ?_
 refine xl_call (nodeN_ok 0 w4) ?_
 rintro _ w5 ⟨rfl, lk41⟩
 refine xl_v v_move ?_
 refine xl_v v_extract ?_
 refine xl_v v_extract ?_
 refine xl_e (e_alloc fun b8 w6 n8 l8 k8 => ?_)
 refine xl_s (e_storeA fun w7 l7 k7 => ?_)
 refine xl_v v_assign ?_
 refine xl_nil ?_
 refine x_seq ?_
 refine x_regionL ?_
 refine xl_v v_move ?_
 refine xl_call (pick_ok 1 0 0 w7) ?_
 rintro _ w8 ⟨rfl, lk51⟩
 refine xl_e (e_buildSliceM (vs := [(⟨1, 0, 0⟩ : Pk)].flatMap pkC) rfl rfl rfl fun b10 w9 n10 l10 k10 => ?_)
 haveI hr10 : Row w9 (some ⟨b10, 0, none⟩) ([(⟨1, 0, 0⟩ : Pk)].flatMap pkC) := ⟨row_blk k10.eq⟩
 haveI hold10 : OldA w9 (some ⟨b10, 0, none⟩) := ⟨fun a ha => by cases ha; exact Has.lt⟩
 refine xl_call (runN_ok (some ⟨b10, 0, none⟩) 1 1 [⟨1, 0, 0⟩] w9 rfl (by omega)) ?_
 rintro _ w10 ⟨⟨A10, c10, rfl, ho10⟩, lk53⟩
 haveI ra10 : RowB w10 A10 w10 (ints (List.replicate 1 1)) := rowB_of (FRow.of_own ho10).row
 refine xl_v v_assign ?_
 refine xl_nil ?_
 refine x_seq ?_
 refine x_seq ?_
 refine x_regionL ?_
 refine xl_v v_move ?_
 refine xl_call (num_ok _ _) ?_
 rintro _ _ ⟨rfl, rfl⟩
 refine xl_v (v_neqF rfl) ?_
 refine xl_v v_move ?_
 refine xl_gv rfl EvO.eq v_move ?_
 refine xl_gv rfl EvO.eq v_len ?_
 refine xl_gv rfl EvO.eq (v_neqF rfl) ?_
 refine xl_Pk ?_
 refine xl_v v_move ?_
 refine xl_gv rfl EvO.eq v_move ?_
 refine xl_gv rfl EvO.eq (v_indexO 0 rfl (by decide) (show 0 < (List.replicate 1 (1 : Int)).length from Nat.zero_lt_one)) ?_
 refine xl_gv rfl EvO.eq (v_loadO (k := 0) (show 0 < (List.replicate 1 (1 : Int)).length from Nat.zero_lt_one)) ?_
 refine xl_gcall rfl EvO.eq (num_ok _ _) ?_
 rintro _ _ ⟨rfl, rfl⟩
 refine xl_gv rfl EvO.eq (v_neqF rfl) ?_
 refine xl_Pk ?_
 refine xl_v v_move ?_
 refine xl_gv rfl EvO.eq v_move ?_
 refine xl_gv rfl EvO.eq v_build ?_
 refine xl_gcall rfl EvO.eq (stepN_ok ⟨0, 0, 0⟩ w10) ?_
 rintro _ w13 ⟨rfl, lk618⟩
 refine xl_gcall rfl EvO.eq (num_ok _ _) ?_
 rintro _ _ ⟨rfl, rfl⟩
 refine xl_gv rfl EvO.eq (v_neqF rfl) ?_
 refine xl_Pk ?_
 refine xl_v v_move ?_
 refine xl_gv rfl EvO.eq v_move ?_
 refine xl_gcall rfl EvO.eq (nodesN_ok w13) ?_
 rintro _ w15 ⟨rfl, lk624⟩
 refine xl_gv rfl EvO.eq v_move ?_
 refine xl_gcall rfl EvO.eq (bagN_ok w15) ?_
 rintro _ w16 ⟨rfl, lk626⟩
 refine xl_gv rfl EvO.eq v_len ?_
 refine xl_gv rfl EvO.eq (v_add (by omega)) ?_
 refine xl_gv rfl EvO.eq v_move ?_
 refine xl_gcall rfl EvO.eq (committedN_ok w16) ?_
 rintro _ w17 ⟨rfl, lk630⟩
 refine xl_gv rfl EvO.eq v_len ?_
 refine xl_gv rfl EvO.eq (v_add (by omega)) ?_
 refine xl_gv rfl EvO.eq (v_neqF rfl) ?_
 refine xl_Pk ?_
 refine xl_v v_move ?_
 refine xl_gv rfl EvO.eq v_move ?_
 refine xl_gcall rfl EvO.eq (copyN_ok w17) ?_
 rintro _ w18 ⟨rfl, lk637⟩
 refine xl_gv rfl EvO.eq (v_neq_pointerN) ?_
 refine xl_Pk ?_
 refine xl_v v_move ?_
 refine xl_gv rfl EvO.eq v_move ?_
 refine xl_gcall rfl EvO.eq (same00_ok w18) ?_
 rintro _ w19 ⟨rfl, lk642⟩
 refine xl_gv rfl EvO.eq (v_congr (u := .bool false) v_not rfl) ?_
 refine xl_Pk ?_
 refine xl_nil ?_
 refine x_condF ?_
 refine x_skip ?_
 refine x_seq ?_
 refine x_seq ?_
 refine x_regionL ?_
 refine xl_v v_move ?_
 refine xl_v (v_neqF rfl) ?_
 refine xl_nil ?_
 refine x_condF ?_
 refine x_skip ?_
 refine x_seq ?_
 refine x_regionL ?_
 refine xl_v v_move ?_
 refine xl_v v_move ?_
 refine xl_call (nodeE_ok q D n w19 hQ.n1 (by omega)) ?_
 rintro _ w20 ⟨rfl, lk102⟩
 refine xl_v v_move ?_
 refine xl_v v_extract ?_
 refine xl_v v_extract ?_
 refine xl_e (e_alloc fun b11 w21 n11 l11 k11 => ?_)
 refine xl_s (e_storeA fun w22 l22 k22 => ?_)
 refine xl_v v_assign ?_
 refine xl_nil ?_
 refine x_seq ?_
 refine x_regionL ?_
 refine xl_v v_move ?_
 refine xl_call (nodeE_ok q D (-1) w22 hQ.n1 (by omega)) ?_
 rintro _ w23 ⟨rfl, lk111⟩
 refine xl_v v_move ?_
 refine xl_v v_extract ?_
 refine xl_v v_extract ?_
 refine xl_e (e_alloc fun b13 w24 n13 l13 k13 => ?_)
 refine xl_s (e_storeA fun w25 l25 k25 => ?_)
 refine xl_v v_assign ?_
 refine xl_nil ?_
 refine x_seq ?_
 refine x_regionL ?_
 refine xl_v v_move ?_
 refine xl_call (num_ok _ _) ?_
 rintro _ _ ⟨rfl, rfl⟩
 refine xl_v (v_eqlT rfl) ?_
 refine xl_v v_move ?_
 refine xl_gv rfl EvO.eq v_move ?_
 refine xl_gcall rfl EvO.eq (num_ok _ _) ?_
 rintro _ _ ⟨rfl, rfl⟩
 refine xl_gv rfl EvO.eq (v_eqlT rfl) ?_
 refine xl_Pk ?_
 refine xl_v v_move ?_
 refine xl_gv rfl EvO.eq v_move ?_
 refine xl_gcall rfl EvO.eq (num_ok _ _) ?_
 rintro _ _ ⟨rfl, rfl⟩
 refine xl_gv rfl EvO.eq (v_eqlT rfl) ?_
 refine xl_Pk ?_
 refine xl_v v_move ?_
 refine xl_gv rfl EvO.eq v_move ?_
 refine xl_gLb rfl EvO.eq ?_
 refine xl_gcall rfl EvO.eq (is_ok _ q D R w25 (hP.ext (kpc : Keep NoB _ w25))) ?_
 rintro _ w29 ⟨rfl, lk1216⟩
 refine xl_Pk ?_
 refine xl_v v_move ?_
 refine xl_gv rfl EvO.eq v_move ?_
 refine xl_gv rfl EvO.eq v_move ?_
 refine xl_gcall rfl EvO.eq (same10_ok q D w29 (by omega)) ?_
 rintro _ w30 ⟨rfl, lk1221⟩
 refine xl_gv rfl EvO.eq (v_congr (u := .bool true) v_not rfl) ?_
 refine xl_Pk ?_
 refine xl_v v_move ?_
 refine xl_gv rfl EvO.eq v_move ?_
 refine xl_gv rfl EvO.eq v_move ?_
 refine xl_gcall rfl EvO.eq (same01_ok q D w30 (by omega)) ?_
 rintro _ w31 ⟨rfl, lk1227⟩
 refine xl_gv rfl EvO.eq (v_congr (u := .bool true) v_not rfl) ?_
 refine xl_Pk ?_
 refine xl_v v_move ?_
 refine xl_gcall rfl EvO.eq (works_ok w31) ?_
 rintro _ w32 ⟨rfl, lk1231⟩
 refine xl_Pk ?_
 refine xl_v v_assign ?_
 refine xl_nil ?_
 refine x_ret ?_
 refine fin1 rfl ?_
 exact ⟨rfl, lkc⟩
theorem makes_ok (n : Int) (w : World) : Ret Try.prog 11 #[.int .i64 n] w (fun v w' => v = .bool true ∧ Lk w' w NoB) := by
 by_cases hn : n = 1 ∨ n = 3 ∨ n = 5
 ·exact makesT_ok n hn w
 ·exact makesE_ok n hn w

end Go.Proofs.Ytdmafmlifadfoaa
