/-
 Walks, printed by a program of this workplace (wip/tools/sx.py) off the functions' code and a text of contracts.
-/
import Derived.Test.YtnjpladlfiaojaaAD
import Derived.Test.YtnjpladlfiaojaaXm
set_option linter.all false
set_option maxRecDepth 100000
set_option synthInstance.maxSize 100000
set_option synthInstance.maxHeartbeats 400000
namespace Go.Proofs.Ytnjpladlfiaojaa
open Go.Wst
open Go.Wst.Ct
/-- Three bytes. -/
abbrev triC (x : Int × Int × Int) : List Value := [.int .u8 x.1, .int .u8 x.2.1, .int .u8 x.2.2]
instance encN_tri : EncN triC 3 := ⟨fun _ => rfl⟩
theorem old_tri {W w : World} {A : Option Addr} {ts : List (Int × Int × Int)} {k : Nat} (h : RowB W A w (ts.flatMap triC)) (hk : k < ts.length) : OldA w A := ⟨fun a ha => by
 rcases h.far with e | e
 ·have h1 := flat_len (enc := triC) (sz := 3) (fun _ => rfl) ts
  rw [e] at h1
  simp at h1
  omega
 ·exact e a ha⟩
set_option maxHeartbeats 1000000 in
/-- waystation/waystationlaw10.MetaSessions -/
theorem metaSessions_ok (A : Option Addr) (n c : Nat) (ts : List (Int × Int × Int)) (w : World) [hra : Row w A (ts.flatMap triC)] (hl : ts.length = n) (hn : n ≤ 9223372036854775807) : Ret Try.prog 7 #[.slice A n c] w (fun v w' => v = .bool true ∧ Lk w' w NoB) := by
 haveI hraB : RowB w A w (ts.flatMap triC) := rowB_of hra.row
 refine ret_of_x (N := 59) (l := [.slice A n c]) Try.func7 rfl rfl (Nat.le_of_ble_eq_true rfl) ?_
 refine x_seq ?_
 refine x_regionL ?_
 refine xl_v v_assign ?_
 refine xl_nil ?_
 refine x_seq ?_
 refine x_seq ?_
 refine x_regionL ?_
 refine xl_v v_move ?_
 refine xl_v v_len ?_
 refine xl_v v_gtr ?_
 refine xl_nil ?_
 first | refine x_condP (fun c1 => ?_) (fun c1 => ?_) | refine x_condN (fun c1 => ?_) (fun c1 => ?_) | refine x_condE (fun c1 => ?_) (fun c1 => ?_)
 ·
  refine x_seq ?_
  refine x_regionL ?_
  refine xl_call (known_ok w) ?_
  rintro _ w1 ⟨rfl, lkk⟩
  refine xl_v v_assign ?_
  refine xl_nil ?_
  refine x_ret ?_
  refine fin1 rfl ?_
  exact ⟨rfl, lkc⟩
 ·
  have hsm : n ≤ 40 := by
   simp at c1
   omega
  refine x_skip ?_
  refine x_seq ?_
  refine x_regionL ?_
  refine xl_v v_assign ?_
  refine xl_nil ?_
  refine x_seq ?_
  refine x_seq ?_
  refine x_regionL ?_
  refine xl_v v_assign ?_
  refine xl_nil ?_
  refine x_block ?_
  refine x_loop (fun m τ ds w' => ds = [] ∧ ∃ (k : Nat) (ys : List LAct) (C : Option Addr) (d q : Nat), m = n - k ∧ k ≤ n ∧ ys.length = q ∧ q ≤ k ∧ Bare ys ∧ OwnI w' C q d w.heap.size 42 8 q (ys.flatMap actC) ∧ NewA C w ∧ Ev τ 0 (.slice A n c) ∧ Ev τ 3 (.slice C q d) ∧ Ev τ 4 (.int .i64 (k : Int)) ∧ Lk w' w NoB) (n) ?start ?round
  case start =>
   exact ⟨rfl, 0, [], none, 0, 0, rfl, Nat.zero_le _, rfl, Nat.le_refl _, (fun y hy => by cases hy), ⟨World.ownsRow_nil _ _ _ _⟩, newA_none _, inferInstance, inferInstance, evc, lkc⟩
  case round =>
   intro m τ2 ds2 w2 hI
   obtain ⟨rfl, k, ys, C, d, q, rfl, hk, hyl, hqk, hbr, oC, nC, e0, e3, e4, lk⟩ := hI
   refine x_seq ?_
   refine x_seq ?_
   refine x_regionL ?_
   refine xl_v v_move ?_
   refine xl_v v_move ?_
   refine xl_v v_len ?_
   refine xl_v v_lss ?_
   refine xl_nil ?_
   first | refine x_condP (fun c2 => ?_) (fun c2 => ?_) | refine x_condN (fun c2 => ?_) (fun c2 => ?_) | refine x_condE (fun c2 => ?_) (fun c2 => ?_)
   ·
    have hk1 : k < ts.length := by omega
    haveI oA : OldA w A := old_tri hraB hk1
    haveI apA : ApA C A := ⟨fun a b ha hb e => by have h1 := nC.le a ha; have h2 := oA.lt b hb; omega⟩
    refine x_skip ?_
    refine x_seq ?_
    refine x_block ?_
    refine x_drawL (OwnB (.slice C q d)) (allS) (.take 0 (.take 1 (.take 2 (.take 3 (.take 4 (.take 5 (.take 6 (.take 7 (.take 8 (.take 9 (.take 10 (.take 11 (.take 12 (.take 13 (.take 14 (.take 15 (.take 16 (.take 17 (.take 18 (.take 19 (.take 20 (.take 21 (.take 22 (.take 23 (.take 24 (.take 25 (.take 26 (.take 27 (.take 28 (.take 29 (.take 30 (.take 31 (.take 32 (.take 33 (.take 34 (.take 35 (.take 36 (.take 37 (.take 38 (.eff 39 (.eff 40 (.take 41 .done)))))))))))))))))))))))))))))))))))))))))) mixed (by kernel_rfl) (fun _ _ _ _ _ h => h) (fun w3 l3 => ?_)
    refine xt_v rfl v_move ?_
    refine xt_v rfl v_move ?_
    refine xt_v rfl v_move ?_
    refine xt_v rfl (v_indexF k (by decide) rfl (by omega) hk1) ?_
    refine xt_v rfl (v_indexAF (m := 0) rfl (by decide) (by decide) (by decide) hk1) ?_
    refine xt_Ld rfl ?_
    refine xt_v rfl (v_rem (by decide)) ?_
    refine xt_v rfl (v_convert) ?_
    refine xt_v rfl (v_addw) ?_
    refine xt_v rfl v_move ?_
    refine xt_v rfl v_move ?_
    refine xt_v rfl (v_indexF k (by decide) rfl (by omega) hk1) ?_
    refine xt_v rfl (v_indexAF (m := 1) rfl (by decide) (by decide) (by decide) hk1) ?_
    refine xt_Ld rfl ?_
    refine xt_v rfl (v_rem (by decide)) ?_
    refine xt_v rfl (v_convert) ?_
    refine xt_v rfl (v_negw) ?_
    refine xt_v rfl v_move ?_
    refine xt_v rfl v_move ?_
    refine xt_v rfl (v_indexF k (by decide) rfl (by omega) hk1) ?_
    refine xt_v rfl (v_indexAF (m := 2) rfl (by decide) (by decide) (by decide) hk1) ?_
    refine xt_Ld rfl ?_
    refine xt_v rfl (v_rem (by decide)) ?_
    refine xt_v rfl (v_convert) ?_
    refine xt_v rfl v_move ?_
    refine xt_v rfl v_move ?_
    refine xt_v rfl (v_indexF k (by decide) rfl (by omega) hk1) ?_
    refine xt_v rfl (v_indexAF (m := 2) rfl (by decide) (by decide) (by decide) hk1) ?_
    refine xt_Ld rfl ?_
    refine xt_v rfl (v_rem (by decide)) ?_
    refine xt_v rfl v_neq ?_
    refine xt_v rfl v_move ?_
    refine xt_v rfl v_move ?_
    refine xt_v rfl (v_indexF k (by decide) rfl (by omega) hk1) ?_
    refine xt_v rfl (v_indexAF (m := 1) rfl (by decide) (by decide) (by decide) hk1) ?_
    refine xt_Ld rfl ?_
    refine xt_v rfl (v_rem (by decide)) ?_
    refine xt_v rfl (v_convert) ?_
    refine xt_v rfl v_build ?_
    refine xt_e rfl (e_buildSlice1 rfl fun b8 w4 n8 l8 k8 => ?_)
    have hsz8 := l8.keep.size
    refine xt_e rfl (e_app (by rfl) (by decide) (by omega) (by omega) (by first | exact Ge.le | omega) fun C9 d9 w5 o9 l9 a9 f9 => ?_)
    obtain ⟨z, hz1, hz2, o10⟩ : ∃ z : LAct, z.a.list = [] ∧ z.A = none ∧ World.ownsRow w5 w.heap.size 42 8 (.slice C9 (q + 1) d9) (q + 1) (ys.flatMap actC ++ actC z) := ⟨⟨⟨_, _, _, _, _, _, _, []⟩, none, 0⟩, rfl, rfl, o9.own⟩
    haveI o11 : OwnI w5 C9 (q + 1) d9 _ _ _ _ _ := ⟨o10⟩
    refine xt_v rfl v_assign ?_
    refine xt_nil ?_
    refine x_regionL ?_
    refine xl_v v_move ?_
    refine xl_v (v_add (by omega)) ?_
    refine xl_v v_assign ?_
    refine xl_nil ?_
    refine ⟨_, ?_, rfl, k + 1, ys ++ [z], C9, d9, q + 1, rfl, by omega, by simp [hyl], by omega, hbr.snoc hz1 hz2, ⟨by rw [List.flatMap_append]; exact (OwnI.own : World.ownsRow w5 _ _ _ (.slice C9 _ d9) _ _)⟩, inferInstance, inferInstance, inferInstance, evc, lkc⟩
    omega
   ·
    refine x_exit ?_
    refine x_seq ?_
    refine x_regionL ?_
    refine xl_v v_build ?_
    refine xl_v v_move ?_
    refine xl_call (metaPlay_ok 1 2 1 C q d ys w2 (hra := ⟨by haveI : OwnI w2 C _ _ _ _ _ _ _ := ⟨oC.own⟩; exact Row.row⟩) hbr.row hbr.some hyl) ?_
    rintro _ w6 ⟨rfl, lk2⟩
    refine xl_v v_assign ?_
    refine xl_nil ?_
    refine x_ret ?_
    refine fin1 rfl ?_
    exact ⟨rfl, lkc⟩
end Go.Proofs.Ytnjpladlfiaojaa
