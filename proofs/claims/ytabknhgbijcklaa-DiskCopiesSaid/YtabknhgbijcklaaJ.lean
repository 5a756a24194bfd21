/-
  Walks, printed by a program of this workplace (wip/tools/sx.py) off the functions' code and a text of contracts.
-/
import Derived.Test.YtabknhgbijcklaaI
set_option linter.all false
set_option maxRecDepth 100000
set_option synthInstance.maxSize 100000
set_option synthInstance.maxHeartbeats 400000
namespace Go.Proofs.Ytabknhgbijcklaa
open Go.Wst
open Go.Wst.Dm
theorem DiskW.new {P R : Nat → Prop} {d mb ml : Nat} {room : Int} {W : World} (h : DiskAt W d mb ml NoB ⟨room, [], [], [], none, 0⟩) (hm : 1 ≤ room ∧ room ≤ 16777216) (hP : ∀ k, P k → k < W.heap.size ∧ k ≠ d ∧ k ≠ mb ∧ k ≠ ml) (hR : ∀ k, R k → k < W.heap.size ∧ k ≠ d ∧ k ≠ mb ∧ k ≠ ml) : DiskW P R d ⟨room, [], []⟩ W :=
  ⟨mb, ml, NoB, _, h, ⟨rfl, rfl, Dm.Alike.nil, Dm.Alike.nil, ⟨hm.1, hm.2, by simp [Rise], nofun, by show ((0 : Nat) : Int) ≤ room; omega⟩, by simp, nofun⟩, fun k e => ⟨(hP k e).1, by
    rintro ((e2 | e2 | e2 | ⟨a, ha, _⟩) | e2)
    · exact (hP k e).2.1 e2
    · exact (hP k e).2.2.1 e2
    · exact (hP k e).2.2.2 e2
    · cases ha
    · exact e2⟩, fun k e => ⟨(hR k e).1, by
    rintro (e2 | e2 | e2 | ⟨a, ha, _⟩)
    · exact (hR k e).2.1 e2
    · exact (hR k e).2.2.1 e2
    · exact (hR k e).2.2.2 e2
    · cases ha⟩⟩
theorem new2_ok (room : Int) (w : World) (hm : 1 ≤ room ∧ room ≤ 16777216) :
    Ret Try.prog 13 #[.int .i64 room] w (fun v w' => (∃ d, v = .tuple #[.pointer (some ⟨d, 0, none⟩), .int .i64 0] ∧ DiskW NoB (fun k => k < w.heap.size) d ⟨room, [], []⟩ w' ∧ w.heap.size ≤ d) ∧ Lk w' w NoB) := by
  refine (new_ok room w).mono ?_
  rintro v w' ⟨h, lk⟩
  rw [if_pos hm] at h
  obtain ⟨d, mb, ml, rfl, h1, h2, h3, h4⟩ := h
  exact ⟨⟨d, rfl, DiskW.new h1 hm (fun k e => e.elim) (fun k e => ⟨Nat.lt_of_lt_of_le e lk.keep.size, by omega, by omega, by omega⟩), h2⟩, lk⟩
instance subF_old (w w0 : World) [g : Ge w0 w] : SubF (NotP (fun k => k < w0.heap.size)) NoB w := ⟨fun k hk e => absurd (Nat.lt_of_lt_of_le hk g.le) e⟩
def wa : ByteArray := ⟨#[97]⟩
def wb' : ByteArray := ⟨#[98]⟩
theorem nameOk_wa : nameOk wa = true := by simp [nameOk, wa, ByteArray.toList_eq, byteOk]
theorem nameOk_wb : nameOk wb' = true := by simp [nameOk, wb', ByteArray.toList_eq, byteOk]
theorem done_nil (a : ByteArray) (x : List UInt8) (k : Int) : Dm.done [] ⟨0, a, x, k⟩ = [(a, x)] := by simp [Dm.done, doneL]
theorem done_self (a : ByteArray) (x y : List UInt8) (k : Int) : Dm.done [(a, x)] ⟨0, a, y, k⟩ = [(a, x ++ y)] := by simp [Dm.done, doneL, Thing.of, blt_irrefl]
abbrev T1 : Thing := ⟨0, wa, [104, 105], 0⟩
abbrev T2 : Thing := ⟨0, wa, [121, 111, 117], 0⟩
abbrev T3 : Thing := ⟨0, wb', [49, 50, 51, 52], 0⟩
abbrev M0 : Disk := ⟨8, [], []⟩
abbrev M1 : Disk := ⟨8, [], [T1]⟩
abbrev M2 : Disk := ⟨8, [(wa, [104, 105])], []⟩
abbrev M3 : Disk := ⟨8, [(wa, [104, 105])], [T2]⟩
abbrev M5 : Disk := ⟨8, [(wa, [104, 105, 121, 111])], []⟩
theorem w_no1 : M0.doNo T1 = 0 ∧ M0.does T1 = M1 := by
  have h : M0.doNo T1 = 0 := by rw [doNo_put, nameOk_wa]; decide
  exact ⟨h, by rw [Disk.does, if_pos h]; rfl⟩
theorem w_fl : M1.flush = M2 := by
  have : M1.files = [(wa, [104, 105])] := done_nil wa [104, 105] 0
  rw [Disk.flush, this]
theorem w_no2 : M2.doNo T2 = 0 ∧ M2.does T2 = M3 := by
  have h : M2.doNo T2 = 0 := by rw [doNo_put, nameOk_wa]; decide
  exact ⟨h, by rw [Disk.does, if_pos h]; rfl⟩
theorem w_files3 : M3.files = [(wa, [104, 105, 121, 111, 117])] := done_self wa [104, 105] [121, 111, 117] 0
theorem w_no3 : M3.doNo T3 = 131 ∧ M3.does T3 = M3 := by
  have h : M3.doNo T3 = 131 := by rw [doNo_put, nameOk_wb, w_files3]; decide
  exact ⟨h, by rw [Disk.does, if_neg (by rw [h]; decide)]⟩
theorem w_crash : M3.crash 0 2 = M5 := by
  have h : M3.crash 0 2 = ⟨8, Dm.done [(wa, [104, 105])] ⟨0, wa, [121, 111], 0⟩, []⟩ := by
    unfold Disk.crash
    simp [pickN, tornT]
  rw [h, done_self]
  rfl
theorem w_read : readB M5.files wa = [104, 105, 121, 111] ∧ readNo M5.files wa = 0 := by
  have h : M5.files = [(wa, [104, 105, 121, 111])] := rfl
  rw [h]
  simp [readB, readNo, nameOk_wa, akey]

/-- waystation/waystationlaw03.num -/
theorem num_ok (e : Int) (w : World) : Ret Try.prog 15 #[.int .i64 e] w (fun v w' => v = .int .i64 e ∧ w = w') := by
  refine ret_of_x (N := 4) (l := [.int .i64 e]) Try.func15 rfl rfl (Nat.le_of_ble_eq_true rfl) ?_
  refine x_seq ?_
  refine x_regionL ?_
  refine xl_v v_assign ?_
  refine xl_nil ?_
  refine x_seq ?_
  refine x_regionL ?_
  refine xl_v v_move ?_
  refine xl_v v_assign ?_
  refine xl_nil ?_
  refine x_ret ?_
  refine fin1 rfl ?_
  exact ⟨rfl, rfl⟩

/-- waystation/waystationlaw03.works -/
theorem works_ok (w : World) : Ret Try.prog 12 #[] w (fun v w' => v = .bool true ∧ Lk w' w NoB) := by
  refine ret_of_x (N := 78) (l := []) Try.func12 rfl rfl (Nat.le_of_ble_eq_true rfl) ?_
  refine x_seq ?_
  refine x_regionL ?_
  refine xl_v v_assign ?_
  refine xl_nil ?_
  refine x_seq ?_
  refine x_regionL ?_
  refine xl_call (new2_ok 8 w (by decide)) ?_
  rintro _ w1 ⟨⟨d, rfl, hD0, hgd⟩, lk1⟩
  refine xl_v v_move ?_
  refine xl_v v_extract ?_
  refine xl_v v_extract ?_
  refine xl_v v_assign ?_
  refine xl_v v_assign ?_
  refine xl_nil ?_
  refine x_seq ?_
  refine x_regionL ?_
  refine xl_v v_move ?_
  refine xl_e (e_buildSliceN rfl fun b1 w2 n1 l1 k1 => ?_)
  refine xl_e (e_convConst fun w3 l2 k2 => ?_)
  haveI : Row w3 (some ⟨b1, 0, none⟩) (bytesC [104, 105]) := ⟨row_blk k2⟩
  refine xl_call (put_ok NoB _ d M0 wa (some ⟨b1, 0, none⟩) 2 [104, 105] 0 w3 (hD0.ext (kpc : Keep NoB _ w3)) (by decide) (by decide)) ?_
  rintro _ w4 ⟨rfl, hD1, lk3⟩
  rw [w_no1.2] at hD1
  rw [w_no1.1]
  refine xl_v v_move ?_
  refine xl_call (flush_ok NoB _ d M1 w4 (hD1.ext (kpc : Keep NoB _ w4))) ?_
  rintro _ w5 ⟨rfl, hD2, lk4⟩
  rw [w_fl] at hD2
  refine xl_v v_assign ?_
  refine xl_v v_assign ?_
  refine xl_nil ?_
  refine x_seq ?_
  refine x_regionL ?_
  refine xl_v v_move ?_
  refine xl_e (e_buildSliceN rfl fun b3 w6 n3 l5 k3 => ?_)
  refine xl_e (e_convConst fun w7 l6 k4 => ?_)
  haveI : Row w7 (some ⟨b3, 0, none⟩) (bytesC [121, 111, 117]) := ⟨row_blk k4⟩
  refine xl_call (put_ok NoB _ d M2 wa (some ⟨b3, 0, none⟩) 3 [121, 111, 117] 0 w7 (hD2.ext (kpc : Keep NoB _ w7)) (by decide) (by decide)) ?_
  rintro _ w8 ⟨rfl, hD3, lk7⟩
  rw [w_no2.2] at hD3
  rw [w_no2.1]
  refine xl_v v_move ?_
  refine xl_e (e_buildSliceN rfl fun b5 w9 n5 l8 k5 => ?_)
  refine xl_e (e_convConst fun w10 l9 k6 => ?_)
  haveI : Row w10 (some ⟨b5, 0, none⟩) (bytesC [49, 50, 51, 52]) := ⟨row_blk k6⟩
  refine xl_call (put_ok NoB _ d M3 wb' (some ⟨b5, 0, none⟩) 4 [49, 50, 51, 52] 0 w10 (hD3.ext (kpc : Keep NoB _ w10)) (by decide) (by decide)) ?_
  rintro _ w11 ⟨rfl, hD4, lk10⟩
  rw [w_no3.2] at hD4
  rw [w_no3.1]
  refine xl_v v_assign ?_
  refine xl_v v_assign ?_
  refine xl_nil ?_
  refine x_seq ?_
  refine x_regionL ?_
  refine xl_v v_move ?_
  refine xl_v v_build ?_
  refine xl_call (crash_ok NoB _ d M3 0 2 w11 (hD4.ext (kpc : Keep NoB _ w11)) (by decide) (by decide)) ?_
  rintro _ w12 ⟨⟨x, rfl, hX, hgx⟩, lk11⟩
  rw [w_crash] at hX
  refine xl_v v_move ?_
  refine xl_v v_extract ?_
  refine xl_v v_extract ?_
  refine xl_v v_assign ?_
  refine xl_v v_assign ?_
  refine xl_nil ?_
  refine x_seq ?_
  refine x_regionL ?_
  refine xl_v v_move ?_
  refine xl_call (read_ok NoB _ x M5 wa w12 (hX.ext (kpc : Keep NoB _ w12))) ?_
  rintro _ w13 ⟨⟨A9, c9, rfl, ho9⟩, lk12⟩
  rw [w_read.1] at ho9 ⊢
  rw [w_read.2]
  haveI : OwnI w13 A9 _ _ _ _ _ _ _ := ⟨ho9⟩
  refine xl_v v_move ?_
  refine xl_v v_extract ?_
  refine xl_v v_extract ?_
  refine xl_v v_assign ?_
  refine xl_v v_assign ?_
  refine xl_nil ?_
  refine x_seq ?_
  refine x_regionL ?_
  refine xl_v v_move ?_
  refine xl_call (num_ok _ _) ?_
  rintro _ _ ⟨rfl, rfl⟩
  refine xl_v v_move ?_
  refine xl_call (num_ok _ _) ?_
  rintro _ _ ⟨rfl, rfl⟩
  refine xl_v (v_add (by omega)) ?_
  refine xl_v v_move ?_
  refine xl_call (num_ok _ _) ?_
  rintro _ _ ⟨rfl, rfl⟩
  refine xl_v (v_add (by omega)) ?_
  refine xl_v v_move ?_
  refine xl_call (num_ok _ _) ?_
  rintro _ _ ⟨rfl, rfl⟩
  refine xl_v (v_add (by omega)) ?_
  refine xl_v v_move ?_
  refine xl_call (num_ok _ _) ?_
  rintro _ _ ⟨rfl, rfl⟩
  refine xl_v (v_add (by omega)) ?_
  refine xl_v v_move ?_
  refine xl_call (num_ok _ _) ?_
  rintro _ _ ⟨rfl, rfl⟩
  refine xl_v (v_add (by omega)) ?_
  refine xl_v (v_congr (u := .bool true) v_eql (by simp)) ?_
  refine xl_v v_move ?_
  refine xl_gv rfl EvO.eq v_move ?_
  refine xl_gcall rfl EvO.eq (num_ok _ _) ?_
  rintro _ _ ⟨rfl, rfl⟩
  refine xl_gv rfl EvO.eq (v_congr (u := .bool true) v_eql (by simp)) ?_
  refine xl_v (by first | exact v_pickT | exact v_pickF | exact v_pick) ?_
  refine xl_v v_move ?_
  refine xl_gv rfl EvO.eq v_move ?_
  refine xl_gv rfl EvO.eq (v_bytesStr (xs := [104, 105, 121, 111]) rfl) ?_
  refine xl_gv rfl EvO.eq (v_congr (u := .bool true) v_seql (by simp)) ?_
  refine xl_v (by first | exact v_pickT | exact v_pickF | exact v_pick) ?_
  refine xl_v v_move ?_
  refine xl_gv rfl EvO.eq v_move ?_
  refine xl_gcall rfl EvO.eq (waits_ok NoB _ d M3 w13 (hD4.ext (kpc : Keep NoB _ w13))) ?_
  rintro _ w21 ⟨rfl, lk13⟩
  refine xl_gv rfl EvO.eq (v_congr (u := .bool true) v_eql (by simp)) ?_
  refine xl_v (by first | exact v_pickT | exact v_pickF | exact v_pick) ?_
  refine xl_v v_move ?_
  refine xl_gv rfl EvO.eq v_move ?_
  refine xl_gcall rfl EvO.eq (waits_ok NoB _ x M5 w21 (hX.ext (kpc : Keep NoB _ w21))) ?_
  rintro _ w22 ⟨rfl, lk14⟩
  refine xl_gv rfl EvO.eq (v_congr (u := .bool true) v_eql (by simp)) ?_
  refine xl_v (by first | exact v_pickT | exact v_pickF | exact v_pick) ?_
  refine xl_v v_assign ?_
  refine xl_nil ?_
  refine x_ret ?_
  refine fin1 rfl ?_
  exact ⟨rfl, lkc⟩
end Go.Proofs.Ytabknhgbijcklaa
