/-
  Walks, printed by a program of this workplace (wip/tools/sx.py) off the functions' code and a text of contracts.
-/
import Derived.Test.YtabknhgbijcklaaAB
set_option linter.all false
set_option maxRecDepth 100000
set_option synthInstance.maxSize 100000
set_option synthInstance.maxHeartbeats 400000
namespace Go.Proofs.Ytabknhgbijcklaa
open Go.Wst
open Go.Wst.Dm

/-- (*waystation/disk.Disk).Read -/
theorem read_nil (name : ByteArray) (w : World) : Ret Try.prog 26 #[.pointer none, .string name] w (fun v w' => (∃ A c, v = .tuple #[.slice A 0 c, .int .i64 1]) ∧ Lk w' w NoB) := by
  refine ret_of_x (N := 19) (l := [.pointer none, .string name]) Try.func26 rfl rfl (Nat.le_of_ble_eq_true rfl) ?_
  refine x_seq ?_
  refine x_regionL ?_
  refine xl_v v_assign ?_
  refine xl_v v_assign ?_
  refine xl_nil ?_
  refine x_seq ?_
  refine x_regionL ?_
  refine xl_v v_move ?_
  refine xl_v v_move ?_
  refine xl_v v_makeFunc ?_
  refine xl_v v_move ?_
  refine xl_call (there_nil name _ w) ?_
  rintro _ w1 ⟨rfl, lk1⟩
  refine xl_v v_move ?_
  refine xl_v v_extract ?_
  refine xl_v v_extract ?_
  refine xl_v v_assign ?_
  refine xl_v v_assign ?_
  refine xl_nil ?_
  refine x_seq ?_
  refine x_regionL ?_
  refine xl_v v_move ?_
  refine xl_call ((haveI : Row w1 none [] := ⟨fun j v h => by simp at h⟩; cloneb_ok none 0 0 [] w1 rfl (by decide) (by simp) (.inr rfl))) ?_
  rintro _ w2 ⟨⟨A2, c2, rfl, ho2⟩, lk3⟩
  refine xl_v v_move ?_
  refine xl_v v_assign ?_
  refine xl_v v_assign ?_
  refine xl_nil ?_
  refine x_ret ?_
  refine fin2 rfl ?_
  exact ⟨⟨A2, c2, by simp [outV]⟩, lkc⟩

/-- (*waystation/disk.Disk).Lasts -/
theorem lasts_nil (name : ByteArray) (w : World) : Ret Try.prog 30 #[.pointer none, .string name] w (fun v w' => (∃ A c, v = .tuple #[.slice A 0 c, .int .i64 1]) ∧ Lk w' w NoB) := by
  refine ret_of_x (N := 19) (l := [.pointer none, .string name]) Try.func30 rfl rfl (Nat.le_of_ble_eq_true rfl) ?_
  refine x_seq ?_
  refine x_regionL ?_
  refine xl_v v_assign ?_
  refine xl_v v_assign ?_
  refine xl_nil ?_
  refine x_seq ?_
  refine x_regionL ?_
  refine xl_v v_move ?_
  refine xl_v v_move ?_
  refine xl_v v_makeFunc ?_
  refine xl_v v_move ?_
  refine xl_call (there_nil name _ w) ?_
  rintro _ w1 ⟨rfl, lk1⟩
  refine xl_v v_move ?_
  refine xl_v v_extract ?_
  refine xl_v v_extract ?_
  refine xl_v v_assign ?_
  refine xl_v v_assign ?_
  refine xl_nil ?_
  refine x_seq ?_
  refine x_regionL ?_
  refine xl_v v_move ?_
  refine xl_call ((haveI : Row w1 none [] := ⟨fun j v h => by simp at h⟩; cloneb_ok none 0 0 [] w1 rfl (by decide) (by simp) (.inr rfl))) ?_
  rintro _ w2 ⟨⟨A2, c2, rfl, ho2⟩, lk3⟩
  refine xl_v v_move ?_
  refine xl_v v_assign ?_
  refine xl_v v_assign ?_
  refine xl_nil ?_
  refine x_ret ?_
  refine fin2 rfl ?_
  exact ⟨⟨A2, c2, by simp [outV]⟩, lkc⟩

/-- (*waystation/disk.Disk).Crash -/
theorem crash_nil (k t : Int) (w : World) : Ret Try.prog 23 #[.pointer none, .agg #[.int .i64 k, .int .i64 t]] w (fun v w' => v = .tuple #[.pointer none, .int .i64 1] ∧ Lk w' w NoB) := by
  refine ret_of_x (N := 35) (l := [.pointer none, .agg #[.int .i64 k, .int .i64 t]]) Try.func23 rfl rfl (Nat.le_of_ble_eq_true rfl) ?_
  refine x_seq ?_
  refine x_regionL ?_
  refine xl_e (e_box fun b1 w1 n1 l1 k1 => ?_)
  refine xl_v v_assign ?_
  refine xl_v v_assign ?_
  refine xl_nil ?_
  refine x_seq ?_
  refine x_seq ?_
  refine x_regionL ?_
  refine xl_v v_move ?_
  refine xl_call (none_nil w1) ?_
  rintro _ _ ⟨rfl, rfl⟩
  refine xl_nil ?_
  refine x_condT ?_
  refine x_seq ?_
  refine x_regionL ?_
  refine xl_v v_assign ?_
  refine xl_v v_assign ?_
  refine xl_nil ?_
  refine x_ret ?_
  refine fin2 rfl ?_
  exact ⟨rfl, lkc⟩

/-- (*waystation/disk.Disk).Put -/
theorem put_nil (name : ByteArray) (w : World) : Ret Try.prog 14 #[.pointer none, .string name, .slice none 0 0] w (fun v w' => v = .int .i64 1 ∧ Lk w' w NoB) := by
  refine ret_of_x (N := 39) (l := [.pointer none, .string name, .slice none 0 0]) Try.func14 rfl rfl (Nat.le_of_ble_eq_true rfl) ?_
  refine x_seq ?_
  refine x_regionL ?_
  refine xl_e (e_box fun b1 w1 n1 l1 k1 => ?_)
  refine xl_e (e_box fun b2 w2 n2 l2 k2 => ?_)
  refine xl_v v_assign ?_
  refine xl_nil ?_
  refine x_seq ?_
  refine x_seq ?_
  refine x_regionL ?_
  refine xl_v v_move ?_
  refine xl_v (by first | exact v_load | exact v_loadO (by omega) | exact v_loadFf (by omega) | exact v_loadF0 (by omega)) ?_
  refine xl_call (named_nil name w2) ?_
  rintro _ w3 ⟨rfl, lk1⟩
  refine xl_v v_assign ?_
  refine xl_nil ?_
  refine x_seq ?_
  refine x_regionL ?_
  refine xl_v v_move ?_
  refine xl_v (v_congr (u := .bool true) v_neq (by simp)) ?_
  refine xl_nil ?_
  refine x_condT ?_
  refine x_seq ?_
  refine x_regionL ?_
  refine xl_v v_move ?_
  refine xl_v v_assign ?_
  refine xl_nil ?_
  refine x_ret ?_
  refine fin1 rfl ?_
  exact ⟨rfl, lkc⟩

/-- (*waystation/disk.Disk).Cut -/
theorem cut_nil (name : ByteArray) (n : Int) (w : World) : Ret Try.prog 17 #[.pointer none, .string name, .int .i64 n] w (fun v w' => v = .int .i64 1 ∧ Lk w' w NoB) := by
  refine ret_of_x (N := 37) (l := [.pointer none, .string name, .int .i64 n]) Try.func17 rfl rfl (Nat.le_of_ble_eq_true rfl) ?_
  refine x_seq ?_
  refine x_regionL ?_
  refine xl_e (e_box fun b1 w1 n1 l1 k1 => ?_)
  refine xl_e (e_box fun b2 w2 n2 l2 k2 => ?_)
  refine xl_v v_assign ?_
  refine xl_nil ?_
  refine x_seq ?_
  refine x_regionL ?_
  refine xl_v v_move ?_
  refine xl_v v_move ?_
  refine xl_v v_makeFunc ?_
  refine xl_v (by first | exact v_load | exact v_loadO (by omega) | exact v_loadFf (by omega) | exact v_loadF0 (by omega)) ?_
  refine xl_call (there_nil name _ w2) ?_
  rintro _ w3 ⟨rfl, lk1⟩
  refine xl_v v_move ?_
  refine xl_v v_extract ?_
  refine xl_v v_extract ?_
  refine xl_v v_assign ?_
  refine xl_v v_assign ?_
  refine xl_nil ?_
  refine x_seq ?_
  refine x_block ?_
  refine x_seq ?_
  refine x_regionL ?_
  refine xl_v v_move ?_
  refine xl_v (v_congr (u := .bool true) v_neq (by simp)) ?_
  refine xl_v v_assign ?_
  refine xl_nil ?_
  refine x_condT ?_
  refine x_seq ?_
  refine x_regionL ?_
  refine xl_v v_move ?_
  refine xl_v v_assign ?_
  refine xl_nil ?_
  refine x_ret ?_
  refine fin1 rfl ?_
  exact ⟨rfl, lkc⟩

/-- (*waystation/disk.Disk).Remove -/
theorem remove_nil (name : ByteArray) (w : World) : Ret Try.prog 18 #[.pointer none, .string name] w (fun v w' => v = .int .i64 1 ∧ Lk w' w NoB) := by
  refine ret_of_x (N := 24) (l := [.pointer none, .string name]) Try.func18 rfl rfl (Nat.le_of_ble_eq_true rfl) ?_
  refine x_seq ?_
  refine x_regionL ?_
  refine xl_e (e_box fun b1 w1 n1 l1 k1 => ?_)
  refine xl_v v_assign ?_
  refine xl_nil ?_
  refine x_seq ?_
  refine x_seq ?_
  refine x_regionL ?_
  refine xl_v v_move ?_
  refine xl_v v_move ?_
  refine xl_v v_makeFunc ?_
  refine xl_v (by first | exact v_load | exact v_loadO (by omega) | exact v_loadFf (by omega) | exact v_loadF0 (by omega)) ?_
  refine xl_call (there_nil name _ w1) ?_
  rintro _ w2 ⟨rfl, lk1⟩
  refine xl_v v_move ?_
  refine xl_v v_extract ?_
  refine xl_v v_extract ?_
  refine xl_v v_assign ?_
  refine xl_v v_assign ?_
  refine xl_nil ?_
  refine x_seq ?_
  refine x_regionL ?_
  refine xl_v v_move ?_
  refine xl_v (v_congr (u := .bool true) v_neq (by simp)) ?_
  refine xl_nil ?_
  refine x_condT ?_
  refine x_seq ?_
  refine x_regionL ?_
  refine xl_v v_move ?_
  refine xl_v v_assign ?_
  refine xl_nil ?_
  refine x_ret ?_
  refine fin1 rfl ?_
  exact ⟨rfl, lkc⟩

/-- (*waystation/disk.Disk).Flush -/
theorem flush_nil (w : World) : Ret Try.prog 21 #[.pointer none] w (fun v w' => v = .int .i64 1 ∧ Lk w' w NoB) := by
  refine ret_of_x (N := 16) (l := [.pointer none]) Try.func21 rfl rfl (Nat.le_of_ble_eq_true rfl) ?_
  refine x_seq ?_
  refine x_regionL ?_
  refine xl_v v_assign ?_
  refine xl_nil ?_
  refine x_seq ?_
  refine x_seq ?_
  refine x_regionL ?_
  refine xl_v v_move ?_
  refine xl_call (none_nil w) ?_
  rintro _ _ ⟨rfl, rfl⟩
  refine xl_nil ?_
  refine x_condT ?_
  refine x_seq ?_
  refine x_regionL ?_
  refine xl_v v_assign ?_
  refine xl_nil ?_
  refine x_ret ?_
  refine fin1 rfl ?_
  exact ⟨rfl, lkc⟩

/-- (*waystation/disk.Disk).Waits -/
theorem waits_nil (w : World) : Ret Try.prog 24 #[.pointer none] w (fun v w' => v = .int .i64 0 ∧ Lk w' w NoB) := by
  refine ret_of_x (N := 10) (l := [.pointer none]) Try.func24 rfl rfl (Nat.le_of_ble_eq_true rfl) ?_
  refine x_seq ?_
  refine x_regionL ?_
  refine xl_v v_assign ?_
  refine xl_nil ?_
  refine x_seq ?_
  refine x_seq ?_
  refine x_regionL ?_
  refine xl_v v_move ?_
  refine xl_call (none_nil w) ?_
  rintro _ _ ⟨rfl, rfl⟩
  refine xl_nil ?_
  refine x_condT ?_
  refine x_seq ?_
  refine x_regionL ?_
  refine xl_v v_assign ?_
  refine xl_nil ?_
  refine x_ret ?_
  refine fin1 rfl ?_
  exact ⟨rfl, lkc⟩

/-- (*waystation/disk.Disk).Used -/
theorem Used_nil (w : World) : Ret Try.prog 16 #[.pointer none] w (fun v w' => v = .int .i64 0 ∧ Lk w' w NoB) := by
  refine ret_of_x (N := 10) (l := [.pointer none]) Try.func16 rfl rfl (Nat.le_of_ble_eq_true rfl) ?_
  refine x_seq ?_
  refine x_regionL ?_
  refine xl_v v_assign ?_
  refine xl_nil ?_
  refine x_seq ?_
  refine x_seq ?_
  refine x_regionL ?_
  refine xl_v v_move ?_
  refine xl_call (none_nil w) ?_
  rintro _ _ ⟨rfl, rfl⟩
  refine xl_nil ?_
  refine x_condT ?_
  refine x_seq ?_
  refine x_regionL ?_
  refine xl_v v_assign ?_
  refine xl_nil ?_
  refine x_ret ?_
  refine fin1 rfl ?_
  exact ⟨rfl, lkc⟩

/-- (*waystation/disk.Disk).Names -/
theorem names_nil (w : World) : Ret Try.prog 35 #[.pointer none] w (fun v w' => v = .slice none 0 0 ∧ Lk w' w NoB) := by
  refine ret_of_x (N := 12) (l := [.pointer none]) Try.func35 rfl rfl (Nat.le_of_ble_eq_true rfl) ?_
  refine x_seq ?_
  refine x_regionL ?_
  refine xl_v v_assign ?_
  refine xl_nil ?_
  refine x_seq ?_
  refine x_seq ?_
  refine x_regionL ?_
  refine xl_v v_move ?_
  refine xl_call (none_nil w) ?_
  rintro _ _ ⟨rfl, rfl⟩
  refine xl_nil ?_
  refine x_condT ?_
  refine x_seq ?_
  refine x_regionL ?_
  refine xl_v v_assign ?_
  refine xl_nil ?_
  refine x_ret ?_
  refine fin1 rfl ?_
  exact ⟨rfl, lkc⟩

/-- (*waystation/disk.Disk).Copy -/
theorem copy_nil (w : World) : Ret Try.prog 36 #[.pointer none] w (fun v w' => v = .pointer none ∧ Lk w' w NoB) := by
  refine ret_of_x (N := 26) (l := [.pointer none]) Try.func36 rfl rfl (Nat.le_of_ble_eq_true rfl) ?_
  refine x_seq ?_
  refine x_regionL ?_
  refine xl_v v_assign ?_
  refine xl_nil ?_
  refine x_seq ?_
  refine x_seq ?_
  refine x_regionL ?_
  refine xl_v v_move ?_
  refine xl_call (none_nil w) ?_
  rintro _ _ ⟨rfl, rfl⟩
  refine xl_nil ?_
  refine x_condT ?_
  refine x_seq ?_
  refine x_regionL ?_
  refine xl_v v_assign ?_
  refine xl_nil ?_
  refine x_ret ?_
  refine fin1 rfl ?_
  exact ⟨rfl, lkc⟩

/-- waystation/disk.Same -/
theorem same_nn (w : World) : Ret Try.prog 37 #[.pointer none, .pointer none] w (fun v w' => v = .bool true ∧ Lk w' w NoB) := by
  refine ret_of_x (N := 66) (l := [.pointer none, .pointer none]) Try.func37 rfl rfl (Nat.le_of_ble_eq_true rfl) ?_
  refine x_seq ?_
  refine x_regionL ?_
  refine xl_v v_assign ?_
  refine xl_nil ?_
  refine x_seq ?_
  refine x_seq ?_
  refine x_regionL ?_
  refine xl_v v_move ?_
  refine xl_call (none_nil w) ?_
  rintro _ _ ⟨rfl, rfl⟩
  refine xl_v v_move ?_
  refine xl_gs rfl EvO.eq ?_
  refine xl_gs rfl EvO.eq ?_
  refine xl_v (by first | exact v_pickT | exact v_pickF | exact v_pick) ?_
  refine xl_nil ?_
  refine x_condT ?_
  refine x_seq ?_
  refine x_regionL ?_
  refine xl_v v_move ?_
  refine xl_call (none_nil w) ?_
  rintro _ _ ⟨rfl, rfl⟩
  refine xl_v v_move ?_
  refine xl_gv rfl EvO.eq v_move ?_
  refine xl_gcall rfl EvO.eq (none_nil w) ?_
  rintro _ _ ⟨rfl, rfl⟩
  refine xl_v (by first | exact v_pickT | exact v_pickF | exact v_pick) ?_
  refine xl_v v_assign ?_
  refine xl_nil ?_
  refine x_ret ?_
  refine fin1 rfl ?_
  exact ⟨rfl, lkc⟩

/-- waystation/disk.Same -/
theorem same_sn (P R : Nat → Prop) (d : Nat) (M : Disk) (w : World) (h : DiskW P R d M w) : Ret Try.prog 37 #[.pointer (some ⟨d, 0, none⟩), .pointer none] w (fun v w' => v = .bool false ∧ Lk w' w NoB) := by
  obtain ⟨mb, ml, G, D, hD, hS, hP, hR⟩ := h
  refine ret_of_x (N := 66) (l := [.pointer (some ⟨d, 0, none⟩), .pointer none]) Try.func37 rfl rfl (Nat.le_of_ble_eq_true rfl) ?_
  refine x_seq ?_
  refine x_regionL ?_
  refine xl_v v_assign ?_
  refine xl_nil ?_
  refine x_seq ?_
  refine x_seq ?_
  refine x_regionL ?_
  refine xl_v v_move ?_
  refine xl_call (none_ok d mb ml G D M w (hD.ext (kpc : Keep NoB w w)) hS) ?_
  rintro _ _ ⟨rfl, rfl⟩
  refine xl_v v_move ?_
  refine xl_gv rfl EvO.eq v_move ?_
  refine xl_gcall rfl EvO.eq (none_nil w) ?_
  rintro _ _ ⟨rfl, rfl⟩
  refine xl_v (by first | exact v_pickT | exact v_pickF | exact v_pick) ?_
  refine xl_nil ?_
  refine x_condT ?_
  refine x_seq ?_
  refine x_regionL ?_
  refine xl_v v_move ?_
  refine xl_call (none_ok d mb ml G D M w (hD.ext (kpc : Keep NoB w w)) hS) ?_
  rintro _ _ ⟨rfl, rfl⟩
  refine xl_v v_move ?_
  refine xl_gs rfl EvO.eq ?_
  refine xl_gs rfl EvO.eq ?_
  refine xl_v (by first | exact v_pickT | exact v_pickF | exact v_pick) ?_
  refine xl_v v_assign ?_
  refine xl_nil ?_
  refine x_ret ?_
  refine fin1 rfl ?_
  exact ⟨rfl, lkc⟩

/-- waystation/disk.Same -/
theorem same_ns (P R : Nat → Prop) (d : Nat) (M : Disk) (w : World) (h : DiskW P R d M w) : Ret Try.prog 37 #[.pointer none, .pointer (some ⟨d, 0, none⟩)] w (fun v w' => v = .bool false ∧ Lk w' w NoB) := by
  obtain ⟨mb, ml, G, D, hD, hS, hP, hR⟩ := h
  refine ret_of_x (N := 66) (l := [.pointer none, .pointer (some ⟨d, 0, none⟩)]) Try.func37 rfl rfl (Nat.le_of_ble_eq_true rfl) ?_
  refine x_seq ?_
  refine x_regionL ?_
  refine xl_v v_assign ?_
  refine xl_nil ?_
  refine x_seq ?_
  refine x_seq ?_
  refine x_regionL ?_
  refine xl_v v_move ?_
  refine xl_call (none_nil w) ?_
  rintro _ _ ⟨rfl, rfl⟩
  refine xl_v v_move ?_
  refine xl_gs rfl EvO.eq ?_
  refine xl_gs rfl EvO.eq ?_
  refine xl_v (by first | exact v_pickT | exact v_pickF | exact v_pick) ?_
  refine xl_nil ?_
  refine x_condT ?_
  refine x_seq ?_
  refine x_regionL ?_
  refine xl_v v_move ?_
  refine xl_call (none_nil w) ?_
  rintro _ _ ⟨rfl, rfl⟩
  refine xl_v v_move ?_
  refine xl_gv rfl EvO.eq v_move ?_
  refine xl_gcall rfl EvO.eq (none_ok d mb ml G D M w (hD.ext (kpc : Keep NoB w w)) hS) ?_
  rintro _ _ ⟨rfl, rfl⟩
  refine xl_v (by first | exact v_pickT | exact v_pickF | exact v_pick) ?_
  refine xl_v v_assign ?_
  refine xl_nil ?_
  refine x_ret ?_
  refine fin1 rfl ?_
  exact ⟨rfl, lkc⟩
theorem new4_ok (room : Int) (w : World) : Ret Try.prog 13 #[.int .i64 room] w (fun v w' => (∃ dp no, v = .tuple #[.pointer dp, .int .i64 no] ∧ ((no = 0 ∧ (1 ≤ room ∧ room ≤ 16777216) ∧ ∃ d, dp = some ⟨d, 0, none⟩ ∧ DiskW NoB (fun k => k < w.heap.size) d ⟨room, [], []⟩ w') ∨ (no = 2 ∧ ¬ (1 ≤ room ∧ room ≤ 16777216) ∧ dp = none))) ∧ Lk w' w NoB) := by
  by_cases hm : 1 ≤ room ∧ room ≤ 16777216
  · refine (new2_ok room w hm).mono ?_
    rintro v w' ⟨⟨d, rfl, hD, _⟩, lk⟩
    exact ⟨⟨_, _, rfl, .inl ⟨rfl, hm, d, rfl, hD⟩⟩, lk⟩
  · refine (new_ok room w).mono ?_
    rintro v w' ⟨h, lk⟩
    rw [if_neg hm] at h
    exact ⟨⟨_, _, h, .inr ⟨rfl, hm, rfl⟩⟩, lk⟩
theorem refnew4_ok (room : Int) (w : World) : Ret Try.prog 27 #[.int .i64 room] w (fun v w' => (∃ Rz no, v = .tuple #[.agg (refC Rz).toArray, .int .i64 no] ∧ ((no = 0 ∧ (1 ≤ room ∧ room ≤ 16777216) ∧ Rz = ⟨room, [], none, 0, [], none, 0⟩) ∨ (no = 2 ∧ ¬ (1 ≤ room ∧ room ≤ 16777216)))) ∧ Lk w' w NoB) := by
  refine (refnew_ok room w).mono ?_
  rintro v w' ⟨h, lk⟩
  refine ⟨?_, lk⟩
  split at h
  · next hm => exact ⟨_, 0, h, .inl ⟨rfl, hm, rfl⟩⟩
  · next hm => exact ⟨_, 2, h, .inr ⟨rfl, hm⟩⟩
set_option maxHeartbeats 1000000 in
/-- waystation/waystationlaw03.DiskMakes -/
theorem diskMakes_ok (room : Int) (w : World) (hroom : In64 room) : Ret Try.prog 10 #[.int .i64 room] w (fun v w' => v = .bool true ∧ Lk w' w NoB) := by
  refine ret_of_x (N := 131) (l := [.int .i64 room]) Try.func10 rfl rfl (Nat.le_of_ble_eq_true rfl) ?_
  refine x_seq ?_
  refine x_regionL ?_
  refine xl_v v_assign ?_
  refine xl_nil ?_
  refine x_seq ?_
  refine x_regionL ?_
  refine xl_v v_move ?_
  refine xl_call (new4_ok room w) ?_
  rintro _ w1 ⟨⟨dp, no, rfl, hno⟩, lk1⟩
  refine xl_v v_move ?_
  refine xl_v v_extract ?_
  refine xl_v v_extract ?_
  refine xl_v v_assign ?_
  refine xl_v v_assign ?_
  refine xl_nil ?_
  refine x_seq ?_
  refine x_regionL ?_
  refine xl_v v_move ?_
  refine xl_call (refnew4_ok room w1) ?_
  rintro _ w2 ⟨⟨Rz, no2, rfl, hno2⟩, lk2⟩
  refine xl_v v_move ?_
  refine xl_v v_extract ?_
  refine xl_v v_extract ?_
  refine xl_e (e_alloc fun b3 w3 n3 l3 k3 => ?_)
  refine xl_s (e_storeA fun w4 l4 k4 => ?_)
  refine xl_v v_assign ?_
  refine xl_nil ?_
  refine x_seq ?_
  refine x_regionL ?_
  refine xl_v v_assign ?_
  refine xl_nil ?_
  refine x_seq ?_
  refine x_regionL ?_
  refine xl_v v_move ?_
  refine xl_call (read_nil _ w4) ?_
  rintro _ w5 ⟨⟨A1, c1', rfl⟩, lk3⟩
  refine xl_v v_move ?_
  refine xl_v v_extract ?_
  refine xl_v v_extract ?_
  refine xl_v v_assign ?_
  refine xl_v v_assign ?_
  refine xl_nil ?_
  refine x_seq ?_
  refine x_regionL ?_
  refine xl_v v_move ?_
  refine xl_call (lasts_nil _ w5) ?_
  rintro _ w6 ⟨⟨A2, c2', rfl⟩, lk4⟩
  refine xl_v v_move ?_
  refine xl_v v_extract ?_
  refine xl_v v_extract ?_
  refine xl_v v_assign ?_
  refine xl_v v_assign ?_
  refine xl_nil ?_
  refine x_seq ?_
  refine x_regionL ?_
  refine xl_v v_move ?_
  refine xl_v v_build ?_
  refine xl_call (crash_nil 0 0 w6) ?_
  rintro _ w7 ⟨rfl, lk5⟩
  refine xl_v v_move ?_
  refine xl_v v_extract ?_
  refine xl_v v_extract ?_
  refine xl_v v_assign ?_
  refine xl_v v_assign ?_
  refine xl_nil ?_
  refine x_seq ?_
  refine x_seq ?_
  refine x_regionL ?_
  refine xl_v v_move ?_
  refine xl_call (num_ok _ _) ?_
  rintro _ _ ⟨rfl, rfl⟩
  refine xl_v v_move ?_
  refine xl_call (num_ok _ _) ?_
  rintro _ _ ⟨rfl, rfl⟩
  refine xl_v (v_add (by omega)) ?_
  refine xl_v v_move ?_
  refine xl_call (num_ok _ _) ?_
  rintro _ _ ⟨rfl, rfl⟩
  refine xl_v (v_add (by omega)) ?_
  refine xl_v (v_congr (u := .bool false) v_neq (by simp)) ?_
  refine xl_v v_move ?_
  refine xl_gv rfl EvO.eq v_move ?_
  refine xl_gcall rfl EvO.eq (put_nil _ w7) ?_
  rintro _ w11 ⟨rfl, lk6⟩
  refine xl_gcall rfl EvO.eq (num_ok _ _) ?_
  rintro _ _ ⟨rfl, rfl⟩
  refine xl_gv rfl EvO.eq (v_congr (u := .bool false) v_neq (by simp)) ?_
  refine xl_v (by first | exact v_pickT | exact v_pickF | exact v_pick) ?_
  refine xl_v v_move ?_
  refine xl_gv rfl EvO.eq v_move ?_
  refine xl_gcall rfl EvO.eq (cut_nil _ 0 w11) ?_
  rintro _ w13 ⟨rfl, lk7⟩
  refine xl_gcall rfl EvO.eq (num_ok _ _) ?_
  rintro _ _ ⟨rfl, rfl⟩
  refine xl_gv rfl EvO.eq (v_congr (u := .bool false) v_neq (by simp)) ?_
  refine xl_v (by first | exact v_pickT | exact v_pickF | exact v_pick) ?_
  refine xl_v v_move ?_
  refine xl_gv rfl EvO.eq v_move ?_
  refine xl_gcall rfl EvO.eq (remove_nil _ w13) ?_
  rintro _ w15 ⟨rfl, lk8⟩
  refine xl_gcall rfl EvO.eq (num_ok _ _) ?_
  rintro _ _ ⟨rfl, rfl⟩
  refine xl_gv rfl EvO.eq (v_congr (u := .bool false) v_neq (by simp)) ?_
  refine xl_v (by first | exact v_pickT | exact v_pickF | exact v_pick) ?_
  refine xl_v v_move ?_
  refine xl_gv rfl EvO.eq v_move ?_
  refine xl_gcall rfl EvO.eq (flush_nil w15) ?_
  rintro _ w17 ⟨rfl, lk9⟩
  refine xl_gcall rfl EvO.eq (num_ok _ _) ?_
  rintro _ _ ⟨rfl, rfl⟩
  refine xl_gv rfl EvO.eq (v_congr (u := .bool false) v_neq (by simp)) ?_
  refine xl_v (by first | exact v_pickT | exact v_pickF | exact v_pick) ?_
  refine xl_v v_move ?_
  refine xl_gv rfl EvO.eq v_move ?_
  refine xl_gcall rfl EvO.eq (waits_nil w17) ?_
  rintro _ w19 ⟨rfl, lk10⟩
  refine xl_gv rfl EvO.eq v_move ?_
  refine xl_gcall rfl EvO.eq (Used_nil w19) ?_
  rintro _ w20 ⟨rfl, lk11⟩
  refine xl_gv rfl EvO.eq (v_add (by omega)) ?_
  refine xl_gv rfl EvO.eq v_move ?_
  refine xl_gcall rfl EvO.eq (names_nil w20) ?_
  rintro _ w21 ⟨rfl, lk12⟩
  refine xl_gv rfl EvO.eq v_len ?_
  refine xl_gv rfl EvO.eq (v_add (by omega)) ?_
  refine xl_gv rfl EvO.eq (v_congr (u := .bool false) v_neq (by simp)) ?_
  refine xl_v (by first | exact v_pickT | exact v_pickF | exact v_pick) ?_
  refine xl_v v_move ?_
  refine xl_gv rfl EvO.eq v_move ?_
  refine xl_gcall rfl EvO.eq (copy_nil w21) ?_
  rintro _ w22 ⟨rfl, lk13⟩
  refine xl_gv rfl EvO.eq (by first | exact v_neq_pointerS | exact v_neq_pointerN) ?_
  refine xl_v (by first | exact v_pickT | exact v_pickF | exact v_pick) ?_
  refine xl_v v_move ?_
  refine xl_gv rfl EvO.eq v_move ?_
  refine xl_gcall rfl EvO.eq (same_nn w22) ?_
  rintro _ w23 ⟨rfl, lk14⟩
  refine xl_gv rfl EvO.eq v_not ?_
  refine xl_v (by first | exact v_pickT | exact v_pickF | exact v_pick) ?_
  refine xl_nil ?_
  refine x_condF ?_
  refine x_skip ?_
  refine x_seq ?_
  refine x_seq ?_
  refine x_regionL ?_
  refine xl_v v_move ?_
  refine xl_v v_neq ?_
  refine xl_nil ?_
  first | refine x_condP (fun c2 => ?_) (fun c2 => ?_) | refine x_condN (fun c2 => ?_) (fun c2 => ?_) | refine x_condE (fun c2 => ?_) (fun c2 => ?_)
  ·
    obtain ⟨e2, hm2⟩ : no2 = 2 ∧ ¬ (1 ≤ room ∧ room ≤ 16777216) := by
      rcases hno2 with ⟨e, _⟩ | h
      · omega
      · exact h
    obtain ⟨e1, _, rfl⟩ : no = 2 ∧ ¬ (1 ≤ room ∧ room ≤ 16777216) ∧ dp = none := by
      rcases hno with ⟨_, h, _⟩ | h
      · exact absurd h hm2
      · exact h
    refine x_seq ?_
    refine x_regionL ?_
    refine xl_v v_move ?_
    refine xl_v (by first | exact v_eql_pointerS | exact v_eql_pointerN) ?_
    refine xl_v v_move ?_
    refine xl_gv rfl EvO.eq v_move ?_
    refine xl_gcall rfl EvO.eq (num_ok _ _) ?_
    rintro _ _ ⟨rfl, rfl⟩
    refine xl_gv rfl EvO.eq v_move ?_
    refine xl_gv rfl EvO.eq (v_congr (u := .bool true) v_eql (by simp [e1, e2])) ?_
    refine xl_v (by first | exact v_pickT | exact v_pickF | exact v_pick) ?_
    refine xl_v v_move ?_
    refine xl_gcall rfl EvO.eq (works_ok w23) ?_
    rintro _ w25 ⟨rfl, lkw⟩
    refine xl_v (by first | exact v_pickT | exact v_pickF | exact v_pick) ?_
    refine xl_v v_assign ?_
    refine xl_nil ?_
    refine x_ret ?_
    refine fin1 rfl ?_
    exact ⟨rfl, lkc⟩
  ·
    obtain ⟨e2, hm2, rfl⟩ : no2 = 0 ∧ (1 ≤ room ∧ room ≤ 16777216) ∧ Rz = ⟨room, [], none, 0, [], none, 0⟩ := by
      rcases hno2 with h | ⟨e, _⟩
      · exact h
      · omega
    obtain ⟨e1, _, d, rfl, hD⟩ : no = 0 ∧ (1 ≤ room ∧ room ≤ 16777216) ∧ ∃ d, dp = some ⟨d, 0, none⟩ ∧ DiskW _ _ d ⟨room, [], []⟩ _ := by
      rcases hno with h | ⟨_, h, _⟩
      · exact h
      · exact absurd hm2 h
    refine x_skip ?_
    refine x_seq ?_
    refine x_regionL ?_
    refine xl_v v_move ?_
    refine xl_call (num_ok _ _) ?_
    rintro _ _ ⟨rfl, rfl⟩
    refine xl_v (v_congr (u := .bool true) v_eql (by simp [e1])) ?_
    refine xl_v v_move ?_
    refine xl_gv rfl EvO.eq v_move ?_
    refine xl_gv rfl EvO.eq (by first | exact v_loadA | exact v_loadF (by decide) (by omega)) ?_
    refine xl_gcall rfl EvO.eq (is_ok _ _ d ⟨room, [], []⟩ ⟨room, [], none, 0, [], none, 0⟩ NoB w23 (hD.ext (kpc : Keep NoB _ w23)) (refAt_nil _ _ (fun k e => e.elim) _) (refS_new hm2)) ?_
    rintro _ w27 ⟨rfl, lk15⟩
    refine xl_v (by first | exact v_pickT | exact v_pickF | exact v_pick) ?_
    refine xl_v v_move ?_
    refine xl_gv rfl EvO.eq v_move ?_
    refine xl_gv rfl EvO.eq v_move ?_
    refine xl_gcall rfl EvO.eq (same_sn _ _ d ⟨room, [], []⟩ w27 (hD.ext (kpc : Keep NoB _ w27))) ?_
    rintro _ w28 ⟨rfl, lk16⟩
    refine xl_gv rfl EvO.eq v_not ?_
    refine xl_v (by first | exact v_pickT | exact v_pickF | exact v_pick) ?_
    refine xl_v v_move ?_
    refine xl_gv rfl EvO.eq v_move ?_
    refine xl_gv rfl EvO.eq v_move ?_
    refine xl_gcall rfl EvO.eq (same_ns _ _ d ⟨room, [], []⟩ w28 (hD.ext (kpc : Keep NoB _ w28))) ?_
    rintro _ w29 ⟨rfl, lk17⟩
    refine xl_gv rfl EvO.eq v_not ?_
    refine xl_v (by first | exact v_pickT | exact v_pickF | exact v_pick) ?_
    refine xl_v v_move ?_
    refine xl_gcall rfl EvO.eq (works_ok w29) ?_
    rintro _ w30 ⟨rfl, lkw⟩
    refine xl_v (by first | exact v_pickT | exact v_pickF | exact v_pick) ?_
    refine xl_v v_assign ?_
    refine xl_nil ?_
    refine x_ret ?_
    refine fin1 rfl ?_
    exact ⟨rfl, lkc⟩
end Go.Proofs.Ytabknhgbijcklaa
