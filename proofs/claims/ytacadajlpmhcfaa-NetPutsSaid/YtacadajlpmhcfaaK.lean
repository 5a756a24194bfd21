/-
  Walks, printed by a program of this workplace (wip/tools/sx.py) off the functions' code and a text of contracts.
-/
import Derived.Test.YtacadajlpmhcfaaJ
set_option linter.all false
set_option maxRecDepth 100000
set_option synthInstance.maxSize 100000
set_option synthInstance.maxHeartbeats 400000
namespace Go.Proofs.Ytacadajlpmhcfaa
open Go.Wst
open Go.Wst.Nm
theorem put_q (b mb : Nat) (G : Nat → Prop) (N : NetL) (m : Msg) (A : Option Addr) (n c : Nat) (hn : m.bytes.length = n) (w : World) (h : NetAt w b mb G N) (hok : N.pure.ok) (hc : N.came ≤ 100000000) (hr : RowP w A (bytesC m.bytes)) {M' : Net} {k e : Int} (h1 : N.pure.putM m = M') (h2 : N.pure.putN m = k) (h3 : N.pure.putNo m = e) :
    Ret Try.prog 10 #[.pointer (some ⟨b, 0, none⟩), .agg #[.int .i64 m.src, .int .i64 m.dst, .slice A n c]] w (fun v w' => v = .tuple #[.int .i64 k, .int .i64 e] ∧ Lk w' w (TwoB b mb) ∧ ∃ (G' : Nat → Prop) (N' : NetL), NetAt w' b mb G' N' ∧ N'.pure = M' ∧ M'.ok ∧ Sub G' G w ∧ (∀ k, G k → G' k)) := by
  subst hn
  haveI : Row w (⟨m, A, c⟩ : LMsg).A (bytesC (⟨m, A, c⟩ : LMsg).m.bytes) := ⟨hr⟩
  exact put_p b mb G N ⟨m, A, c⟩ w h hok hc h1 h2 h3
def bm : Msg := ⟨63, 0, []⟩
def BN (k : Nat) : Net := ⟨4096, k, (List.range k).map (fun (i : Nat) => ((i : Int), bm))⟩
theorem BN_len (k : Nat) : (BN k).l.length = k := by simp [BN]
theorem BN_ok {k : Nat} (h : k ≤ 4096) : (BN k).ok := by
  refine ⟨(by decide : (1 : Int) ≤ 4096), (by decide : (4096 : Int) ≤ 4096), ?_, ?_, ?_, ?_⟩
  · rw [BN_len]; show (k : Int) ≤ 4096; omega
  · intro p hp
    obtain ⟨i, hi, rfl⟩ := List.mem_map.1 hp
    have := List.mem_range.1 hi
    show (0 : Int) ≤ i ∧ (i : Int) < (k : Nat)
    omega
  · show List.Pairwise _ (((List.range k).map (fun (i : Nat) => ((i : Int), bm))).map (·.1))
    rw [List.map_map, List.pairwise_map]
    exact List.pairwise_lt_range.imp (fun h => by simp only [Function.comp]; omega)
  · intro p hp
    obtain ⟨i, hi, rfl⟩ := List.mem_map.1 hp
    exact (by decide : placeB bm.src = true ∧ placeB bm.dst = true ∧ bm.bytes.length ≤ 4096)
theorem BN_no {k : Nat} (h : k < 4096) : (BN k).putNo bm = 0 := by
  rw [Net.putNo, if_pos (by decide), if_neg (by decide), if_neg]
  rw [BN_len]
  show ¬ ((4096 : Int) ≤ k)
  omega
theorem BN_put {k : Nat} (h : k < 4096) : (BN k).putM bm = BN (k + 1) := by
  rw [Net.putM, if_pos (BN_no h)]
  simp [BN, List.range_succ]
theorem BN_n {k : Nat} (h : k < 4096) : (BN k).putN bm = k := by
  rw [Net.putN, if_pos (BN_no h)]; rfl
theorem full_no (M : Net) (m : Msg) (h1 : placeB m.src = true ∧ placeB m.dst = true) (h2 : m.bytes.length ≤ 4096) (h3 : M.most ≤ (M.l.length : Int)) : M.putNo m = 150 := by
  rw [Net.putNo, if_pos h1, if_neg (by omega), if_pos h3]
theorem no_put {M : Net} {m : Msg} (h : M.putNo m ≠ 0) : M.putM m = M ∧ M.putN m = 0 := by
  rw [Net.putM, Net.putN, if_neg h, if_neg h]
  exact ⟨rfl, rfl⟩
theorem BN_full {m : Msg} (h1 : placeB m.src = true ∧ placeB m.dst = true) (h2 : m.bytes.length ≤ 4096) : (BN 4096).putNo m = 150 := full_no _ m h1 h2 (by rw [BN_len]; decide)
theorem BN_at : (BN 4096).at_ (-1) = 4095 := by
  rw [Net.at_, BN_len]; decide
theorem BN_peek : (BN 4096).peek (-1) = (bm, 4095, 0) := by
  rw [Net.peek, BN_at]
  have : (BN 4096).l[4095]? = some (4095, bm) := by simp [BN]
  rw [this]
theorem BN_ne : ¬ (BN 4096).l = [] := fun e => by have := BN_len 4096; rw [e] at this; simp at this
def BT : Net := (BN 4096).without 4095
theorem BN_take : (BN 4096).takeM (-1) = BT := by rw [Net.takeM, if_neg BN_ne, BN_at]; rfl
theorem BN_dup : (BN 4096).dupM (-1) = BN 4096 ∧ (BN 4096).dupN (-1) = 0 ∧ (BN 4096).dupNo (-1) = 150 := by
  have h := BN_full (m := bm) (by decide) (by decide)
  have h2 := no_put (M := BN 4096) (m := bm) (by rw [h]; decide)
  rw [Net.dupM, Net.dupN, Net.dupNo, if_neg BN_ne, if_neg BN_ne, if_neg BN_ne, BN_peek]
  exact ⟨h2.1, h2.2, h⟩
theorem BT_len : BT.l.length = 4095 := by
  show ((BN 4096).l.eraseIdx 4095).length = 4095
  rw [List.length_eraseIdx, BN_len]
  decide
def bz (n : Nat) : Msg := ⟨0, 0, List.replicate n 0⟩
theorem bz_len (n : Nat) : (bz n).bytes.length = n := by simp [bz]
theorem BT_no : BT.putNo (bz 4096) = 0 := by
  rw [Net.putNo, if_pos (by exact ⟨rfl, rfl⟩), if_neg (by rw [bz_len]; decide), if_neg]
  rw [BT_len]
  decide
def BZ : Net := BT.putM (bz 4096)
theorem BZ_came : BZ.came = 4097 := by
  rw [BZ, Net.putM, if_pos BT_no]
  rfl
theorem BT_n : BT.putN (bz 4096) = 4096 := by
  rw [Net.putN, if_pos BT_no]; rfl
theorem BZ_no : BZ.putNo (bz 4097) = 3 := by
  rw [Net.putNo, if_pos (by exact ⟨rfl, rfl⟩), if_pos (by rw [bz_len]; decide)]
theorem bz_row {w : World} {g n : Nat} (h : w.heap[g]? = some (.cells (List.replicate n (Value.int .u8 0)).toArray 5 (0, 0))) : RowP w (some ⟨g, 0, none⟩) (bytesC (bz n).bytes) := by
  have : bytesC (bz n).bytes = List.replicate n (Value.int .u8 0) := by simp [bytesC, bz, byteC]
  rw [this]
  exact row_blk h
/-- waystation/waystationlaw05.NetBounds -/
theorem netBounds_ok (w : World) : Ret Try.prog 3 #[] w (fun v w' => v = .bool true ∧ Lk w' w NoB) := by
  refine ret_of_x (N := 106) (l := []) Try.func3 rfl rfl (Nat.le_of_ble_eq_true rfl) ?_
  refine x_seq ?_
  refine x_regionL ?_
  refine xl_v v_assign ?_
  refine xl_nil ?_
  refine x_seq ?_
  refine x_regionL ?_
  refine xl_call (new_ok 4096 w) ?_
  rintro _ w1 ⟨hnew, lk1⟩
  rw [if_pos (by decide)] at hnew
  obtain ⟨b, mb, rfl, hN0, hgb, hgm⟩ := hnew
  haveI sT : SubF (TwoB b mb) NoB w := ⟨fun k hk e => by have h1 := (lk1.keep.size); rcases e with e | e <;> omega⟩
  have hN0' : ∀ W, Lk W w1 NoB → NetAt W b mb NoB ⟨4096, 0, []⟩ := fun W l => hN0.ext l.keep
  refine xl_v v_move ?_
  refine xl_v v_extract ?_
  refine xl_v v_extract ?_
  refine xl_v v_assign ?_
  refine xl_v v_assign ?_
  refine xl_nil ?_
  refine x_seq ?_
  refine x_seq ?_
  refine x_regionL ?_
  refine xl_v v_assign ?_
  refine xl_nil ?_
  refine x_block ?_
  refine x_loop (fun m τ ds w' => ds = [] ∧ ∃ (k : Nat) (G : Nat → Prop) (N : NetL), m = 4096 - k ∧ k ≤ 4096 ∧ NetAt w' b mb G N ∧ N.pure = BN k ∧ Ev τ 1 (.pointer (some ⟨b, 0, none⟩)) ∧ Ev τ 2 (.int .i64 0) ∧ Ev τ 3 (.int .i64 (k : Int)) ∧ Lk w' w NoB) (4096) ?start ?round
  case start =>
    exact ⟨rfl, 0, NoB, _, rfl, by omega, hN0' _ lkc, rfl, inferInstance, inferInstance, evc, lkc⟩
  case round =>
    intro m τ2 ds2 w2 hI
    obtain ⟨rfl, k, G, N, rfl, hk, hN, hp, e1, e2, e3, lk⟩ := hI
    have hN' : ∀ W, Lk W w2 NoB → NetAt W b mb G N := fun W l => hN.ext l.keep
    refine x_seq ?_
    refine x_seq ?_
    refine x_regionL ?_
    refine xl_v v_move ?_
    refine xl_v v_lss ?_
    refine xl_nil ?_
    first | refine x_condP (fun c1 => ?_) (fun c1 => ?_) | refine x_condN (fun c1 => ?_) (fun c1 => ?_) | refine x_condE (fun c1 => ?_) (fun c1 => ?_)
    ·
      have hk1 : k < 4096 := by omega
      refine x_skip ?_
      refine x_seq ?_
      refine x_block ?_
      refine x_seq ?_
      refine x_regionL ?_
      refine xl_v v_move ?_
      refine xl_v v_build ?_
      refine xl_call ((put_q b mb G N bm none 0 0 rfl w2 (hN' _ lkc) (by rw [hp]; exact BN_ok hk) (by show N.pure.came ≤ _; rw [hp]; show k ≤ _; omega) (fun j v h => by simp [bm] at h) (M' := BN (k + 1)) (k := k) (e := 0) (by rw [hp]; exact BN_put hk1) (by rw [hp]; exact BN_n hk1) (by rw [hp]; exact BN_no hk1) : Ret Try.prog 10 #[.pointer (some ⟨b, 0, none⟩), .agg #[.int .i64 63, .int .i64 0, .slice none 0 0]] w2 _)) ?_
      rintro _ w3 ⟨rfl, lk2, G2, N2, hN2, hp2, ho2, _, _⟩
      refine xl_v v_move ?_
      refine xl_v v_extract ?_
      refine xl_v v_extract ?_
      refine xl_v v_assign ?_
      refine xl_v v_assign ?_
      refine xl_nil ?_
      refine x_seq ?_
      refine x_regionL ?_
      refine xl_v v_move ?_
      refine xl_v v_move ?_
      refine xl_v (v_neqF rfl) ?_
      refine xl_v v_move ?_
      refine xl_gv rfl EvO.eq v_move ?_
      refine xl_gcall rfl EvO.eq (num_ok _ _) ?_
      rintro _ _ ⟨rfl, rfl⟩
      refine xl_gv rfl EvO.eq (v_neqF rfl) ?_
      refine xl_v (by first | exact v_pickT | exact v_pickF | exact v_pick) ?_
      refine xl_nil ?_
      refine x_condF ?_
      refine x_skip ?_
      refine x_regionL ?_
      refine xl_v v_move ?_
      refine xl_v (v_add (by omega)) ?_
      refine xl_v v_assign ?_
      refine xl_nil ?_
      refine ⟨_, ?_, rfl, k + 1, G2, N2, rfl, by omega, hN2, hp2, inferInstance, inferInstance, evc, lkc⟩
      omega
    ·
      have hke : k = 4096 := by omega
      subst hke
      refine x_exit ?_
      refine x_seq ?_
      refine x_regionL ?_
      refine xl_v v_move ?_
      refine xl_v v_build ?_
      refine xl_call ((put_q b mb G N zeroMsg none 0 0 rfl w2 (hN' _ lkc) (by rw [hp]; exact BN_ok hk) (by show N.pure.came ≤ _; rw [hp]; show 4096 ≤ _; omega) (fun j v h => by simp [zeroMsg] at h) (M' := BN 4096) (k := 0) (e := 150) (by rw [hp]; exact (no_put (by rw [BN_full (by decide) (by decide)]; decide)).1) (by rw [hp]; exact (no_put (by rw [BN_full (by decide) (by decide)]; decide)).2) (by rw [hp]; exact BN_full (by decide) (by decide)) : Ret Try.prog 10 #[.pointer (some ⟨b, 0, none⟩), .agg #[.int .i64 0, .int .i64 0, .slice none 0 0]] w2 _)) ?_
      rintro _ w5 ⟨rfl, lk3, G3, N3, hN3, hp3, ho3, _, _⟩
      have hN3' : ∀ W, Lk W w5 NoB → NetAt W b mb G3 N3 := fun W l => hN3.ext l.keep
      refine xl_v v_move ?_
      refine xl_v v_extract ?_
      refine xl_v v_extract ?_
      refine xl_v v_assign ?_
      refine xl_v v_assign ?_
      refine xl_nil ?_
      refine x_seq ?_
      refine x_regionL ?_
      refine xl_v v_move ?_
      refine xl_call (dup_p b mb G3 N3 (-1) w5 (hN3' _ lkc) (by rw [hp3]; exact ho3) (by show N3.pure.came ≤ _; rw [hp3]; show 4096 ≤ _; omega) (M' := BN 4096) (k := 0) (e := 150) (by rw [hp3]; exact BN_dup.1) (by rw [hp3]; exact BN_dup.2.1) (by rw [hp3]; exact BN_dup.2.2)) ?_
      rintro _ w6 ⟨rfl, lk4, G4, N4, hN4, hp4, ho4, _, _⟩
      have hN4' : ∀ W, Lk W w6 NoB → NetAt W b mb G4 N4 := fun W l => hN4.ext l.keep
      refine xl_v v_move ?_
      refine xl_v v_extract ?_
      refine xl_v v_extract ?_
      refine xl_v v_assign ?_
      refine xl_v v_assign ?_
      refine xl_nil ?_
      refine x_seq ?_
      refine x_regionL ?_
      refine xl_v v_move ?_
      refine xl_call (take_p b mb G4 N4 (-1) w6 (hN4' _ lkc) (by rw [hp4]; exact ho4) (M' := BT) (m := bm) (k := 4095) (e := 0) (by rw [hp4]; exact BN_take) (by rw [hp4]; exact BN_peek)) ?_
      rintro _ w7 ⟨⟨A5, c5, rfl, ho5⟩, lk5, N5, hN5, hp5, hq5⟩
      have hN5' : ∀ W, Lk W w7 NoB → NetAt W b mb G4 N5 := fun W l => hN5.ext l.keep
      refine xl_v v_move ?_
      refine xl_v v_extract ?_
      refine xl_v v_extract ?_
      refine xl_v v_extract ?_
      refine xl_e (e_alloc fun b8 w8 n8 l8 k8 => ?_)
      refine xl_s (e_storeA fun w9 l9 k9 => ?_)
      refine xl_v v_assign ?_
      refine xl_v v_assign ?_
      refine xl_nil ?_
      refine x_seq ?_
      refine x_regionL ?_
      refine xl_v v_move ?_
      refine xl_e (e_makeSlice 4096 4096 rfl rfl (by omega) (by omega) (by omega) fun g6 w10 n6 l6 k6 => ?_)
      refine xl_v v_build ?_
      refine xl_call ((put_q b mb G4 N5 (bz 4096) (some ⟨g6, 0, none⟩) 4096 4096 (bz_len _) w10 (hN5' _ lkc) (by rw [hp5]; exact hq5) (by show N5.pure.came ≤ _; rw [hp5]; show 4096 ≤ _; omega) (bz_row k6.eq) (M' := BZ) (k := 4096) (e := 0) (by rw [hp5]; rfl) (by rw [hp5]; exact BT_n) (by rw [hp5]; exact BT_no) : Ret Try.prog 10 #[.pointer (some ⟨b, 0, none⟩), .agg #[.int .i64 0, .int .i64 0, .slice (some ⟨g6, 0, none⟩) 4096 4096]] w10 _)) ?_
      rintro _ w11 ⟨rfl, lk7, G7, N7, hN7, hp7, ho7, _, _⟩
      have hN7' : ∀ W, Lk W w11 NoB → NetAt W b mb G7 N7 := fun W l => hN7.ext l.keep
      refine xl_v v_move ?_
      refine xl_v v_extract ?_
      refine xl_v v_extract ?_
      refine xl_v v_assign ?_
      refine xl_v v_assign ?_
      refine xl_nil ?_
      refine x_seq ?_
      refine x_regionL ?_
      refine xl_v v_move ?_
      refine xl_e (e_makeSlice 4097 4097 rfl rfl (by omega) (by omega) (by omega) fun g8 w12 n8 l8 k8 => ?_)
      refine xl_v v_build ?_
      refine xl_call ((put_q b mb G7 N7 (bz 4097) (some ⟨g8, 0, none⟩) 4097 4097 (bz_len _) w12 (hN7' _ lkc) (by rw [hp7]; exact ho7) (by show N7.pure.came ≤ _; rw [hp7, BZ_came]; omega) (bz_row k8.eq) (M' := BZ) (k := 0) (e := 3) (by rw [hp7]; exact (no_put (by rw [BZ_no]; decide)).1) (by rw [hp7]; exact (no_put (by rw [BZ_no]; decide)).2) (by rw [hp7]; exact BZ_no) : Ret Try.prog 10 #[.pointer (some ⟨b, 0, none⟩), .agg #[.int .i64 0, .int .i64 0, .slice (some ⟨g8, 0, none⟩) 4097 4097]] w12 _)) ?_
      rintro _ w13 ⟨rfl, lk9, G9, N9, hN9, hp9, ho9, _, _⟩
      have hN9' : ∀ W, Lk W w13 NoB → NetAt W b mb G9 N9 := fun W l => hN9.ext l.keep
      refine xl_v v_move ?_
      refine xl_v v_extract ?_
      refine xl_v v_extract ?_
      refine xl_v v_assign ?_
      refine xl_v v_assign ?_
      refine xl_nil ?_
      refine x_seq ?_
      refine x_regionL ?_
      refine xl_v v_move ?_
      refine xl_call (num_ok _ _) ?_
      rintro _ _ ⟨rfl, rfl⟩
      refine xl_v v_move ?_
      refine xl_call (num_ok _ _) ?_
      rintro _ _ ⟨rfl, rfl⟩
      refine xl_v (v_add (by omega)) ?_
      refine xl_v v_move ?_
      refine xl_call (num_ok _ _) ?_
      rintro _ _ ⟨rfl, rfl⟩
      refine xl_v (v_add (by omega)) ?_
      refine xl_v (v_congr (u := .bool true) v_eql (by simp)) ?_
      refine xl_v v_move ?_
      refine xl_gv rfl EvO.eq v_move ?_
      refine xl_gcall rfl EvO.eq (num_ok _ _) ?_
      rintro _ _ ⟨rfl, rfl⟩
      refine xl_gv rfl EvO.eq (v_congr (u := .bool true) v_eql (by simp)) ?_
      refine xl_v (by first | exact v_pickT | exact v_pickF | exact v_pick) ?_
      refine xl_v v_move ?_
      refine xl_gv rfl EvO.eq v_move ?_
      refine xl_gcall rfl EvO.eq (num_ok _ _) ?_
      rintro _ _ ⟨rfl, rfl⟩
      refine xl_gv rfl EvO.eq (v_congr (u := .bool true) v_eql (by simp)) ?_
      refine xl_v (by first | exact v_pickT | exact v_pickF | exact v_pick) ?_
      refine xl_v v_move ?_
      refine xl_gv rfl EvO.eq v_move ?_
      refine xl_gcall rfl EvO.eq (num_ok _ _) ?_
      rintro _ _ ⟨rfl, rfl⟩
      refine xl_gv rfl EvO.eq (v_congr (u := .bool true) v_eql (by simp)) ?_
      refine xl_v (by first | exact v_pickT | exact v_pickF | exact v_pick) ?_
      refine xl_v v_move ?_
      refine xl_gv rfl EvO.eq v_move ?_
      refine xl_gv rfl EvO.eq (v_congr (u := .bool true) v_eql (by simp)) ?_
      refine xl_v (by first | exact v_pickT | exact v_pickF | exact v_pick) ?_
      refine xl_v v_move ?_
      refine xl_gv rfl EvO.eq v_move ?_
      refine xl_gcall rfl EvO.eq (came_ok b mb G9 N9 w13 (hN9' _ lkc)) ?_
      rintro _ w20 ⟨rfl, lk10⟩
      rw [show N9.came = N9.pure.came from rfl, hp9, BZ_came]
      refine xl_gv rfl EvO.eq (v_congr (u := .bool true) v_eql (by simp)) ?_
      refine xl_v (by first | exact v_pickT | exact v_pickF | exact v_pick) ?_
      refine xl_v v_move ?_
      refine xl_gcall rfl EvO.eq (works_ok w20) ?_
      rintro _ w21 ⟨rfl, lk11⟩
      refine xl_v (by first | exact v_pickT | exact v_pickF | exact v_pick) ?_
      refine xl_v v_assign ?_
      refine xl_nil ?_
      refine x_ret ?_
      refine fin1 rfl ?_
      exact ⟨rfl, lkc⟩
end Go.Proofs.Ytacadajlpmhcfaa
