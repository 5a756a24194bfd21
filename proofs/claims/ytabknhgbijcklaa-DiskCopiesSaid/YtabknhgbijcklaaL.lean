/-
  Walks, printed by a program of this workplace (wip/tools/sx.py) off the functions' code and a text of contracts.
-/
import Derived.Test.YtabknhgbijcklaaK
set_option linter.all false
set_option maxRecDepth 100000
set_option synthInstance.maxSize 100000
set_option synthInstance.maxHeartbeats 400000
namespace Go.Proofs.Ytabknhgbijcklaa
open Go.Wst
open Go.Wst.Dm
abbrev intC (i : Int) : List Value := [Value.int .i64 i]
instance encN_int : EncN intC 1 := ⟨fun _ => rfl⟩
def wx : ByteArray := ⟨#[120]⟩
theorem nameOk_wx : nameOk wx = true := by simp [nameOk, wx, ByteArray.toList_eq, byteOk]
theorem zeros_bytes (n : Nat) : List.replicate n (Value.int .u8 0) = bytesC (List.replicate n (0 : UInt8)) := by simp [bytesC, byteC]
theorem used_put {l : Fs} (hr : Rise l) (name : ByteArray) (xs : List UInt8) (k : Int) : usedB (Dm.done l ⟨0, name, xs, k⟩) = usedB l + xs.length := by
  have h := used_done (t := ⟨0, name, xs, k⟩) hr (.inl rfl)
  simp only [Thing.look, if_true, Option.getD_some, List.length_append] at h
  omega
instance above_old (w0 w00 : World) [g : Ge w0 w00] : Above (NotP (fun k => k < w0.heap.size)) w00 := ⟨fun k e => by
  have h1 : ¬ k < w0.heap.size := e
  have := g.le
  omega⟩

/-- waystation/waystationlaw03.DiskFull -/
theorem diskFull_ok (room : Int) (A : Option Addr) (n c : Nat) (xs : List Int) (w : World) [hra : Row w A (xs.flatMap intC)] (hl : xs.length = n) (hn : n ≤ 9223372036854775807) : Ret Try.prog 3 #[.int .i64 room, .slice A n c] w (fun v w' => v = .bool true ∧ Lk w' w NoB) := by
  haveI hrb : RowB w A w (xs.flatMap intC) := rowB_of hra.row
  refine ret_of_x (N := 79) (l := [.int .i64 room, .slice A n c]) Try.func3 rfl rfl (Nat.le_of_ble_eq_true rfl) ?_
  refine x_seq ?_
  refine x_regionL ?_
  refine xl_v v_assign ?_
  refine xl_nil ?_
  refine x_seq ?_
  refine x_seq ?_
  refine x_regionL ?_
  refine xl_v v_move ?_
  refine xl_v v_lss ?_
  refine xl_v v_move ?_
  refine xl_split 13 (fun g13 => ?_) (fun g13 => ?_)
  ·
    refine xl_gs rfl EvO.eq ?_
    refine xl_gs rfl EvO.eq ?_
    refine xl_v (by first | exact v_pickT | exact v_pickF | exact v_pick) ?_
    refine xl_v v_move ?_
    refine xl_gs rfl EvO.eq ?_
    refine xl_gs rfl EvO.eq ?_
    refine xl_gs rfl EvO.eq ?_
    refine xl_v (by first | exact v_pickT | exact v_pickF | exact v_pick) ?_
    refine xl_nil ?_
    refine x_condT ?_
    refine x_seq ?_
    refine x_regionL ?_
    refine xl_call (works_ok w) ?_
    rintro _ w1 ⟨rfl, lkw⟩
    refine xl_v v_assign ?_
    refine xl_nil ?_
    refine x_ret ?_
    refine fin1 rfl ?_
    exact ⟨rfl, lkc⟩
  ·
    refine xl_gv rfl EvO.eq v_move ?_
    refine xl_gv rfl EvO.eq v_gtr ?_
    refine xl_v (by first | exact v_pickT | exact v_pickF | exact v_pick) ?_
    refine xl_v v_move ?_
    refine xl_split 17 (fun g17 => ?_) (fun g17 => ?_)
    ·
      refine xl_gs rfl EvO.eq ?_
      refine xl_gs rfl EvO.eq ?_
      refine xl_gs rfl EvO.eq ?_
      refine xl_v (by first | exact v_pickT | exact v_pickF | exact v_pick) ?_
      refine xl_nil ?_
      refine x_condT ?_
      refine x_seq ?_
      refine x_regionL ?_
      refine xl_call (works_ok w) ?_
      rintro _ w2 ⟨rfl, lkw⟩
      refine xl_v v_assign ?_
      refine xl_nil ?_
      refine x_ret ?_
      refine fin1 rfl ?_
      exact ⟨rfl, lkc⟩
    ·
      refine xl_gv rfl EvO.eq v_move ?_
      refine xl_gv rfl EvO.eq v_len ?_
      refine xl_gv rfl EvO.eq v_gtr ?_
      refine xl_v (by first | exact v_pickT | exact v_pickF | exact v_pick) ?_
      refine xl_nil ?_
      first | refine x_condP (fun c1 => ?_) (fun c1 => ?_) | refine x_condN (fun c1 => ?_) (fun c1 => ?_) | refine x_condE (fun c1 => ?_) (fun c1 => ?_)
      ·
        refine x_seq ?_
        refine x_regionL ?_
        refine xl_call (works_ok w) ?_
        rintro _ w3 ⟨rfl, lkw⟩
        refine xl_v v_assign ?_
        refine xl_nil ?_
        refine x_ret ?_
        refine fin1 rfl ?_
        exact ⟨rfl, lkc⟩
      ·
        have hroom : 1 ≤ room ∧ room ≤ 2000 := by
          have g0 := of_decide_eq_false g13
          have g1 := of_decide_eq_false g17
          omega
        have hn40 : n ≤ 40 := by
          first
            | omega
            | (simp at c1; omega)
        refine x_skip ?_
        refine x_seq ?_
        refine x_regionL ?_
        refine xl_v v_move ?_
        refine xl_call (new2_ok room w (by omega)) ?_
        rintro _ w4 ⟨⟨d, rfl, hD0, hgd⟩, lk1⟩
        refine xl_v v_move ?_
        refine xl_v v_extract ?_
        refine xl_v v_extract ?_
        refine xl_v v_assign ?_
        refine xl_v v_assign ?_
        refine xl_nil ?_
        refine x_seq ?_
        refine x_regionL ?_
        refine xl_v v_assign ?_
        refine xl_nil ?_
        refine x_seq ?_
        refine x_seq ?_
        refine x_regionL ?_
        refine xl_v v_assign ?_
        refine xl_nil ?_
        refine x_block ?_
        have hD0w : DiskW NoB (fun k => k < w.heap.size) d ⟨room, [], []⟩ w4 := hD0.keep (kpc : Keep NoB _ w4) (fun _ _ h => h.elim) (fun k e => e.elim) (fun k e => ⟨Nat.lt_of_lt_of_le e Ge.le, .inl (Nat.lt_of_lt_of_le e Ge.le)⟩)
        refine x_loop (fun m τ ds w' => ds = [] ∧ ∃ (k : Nat) (M : Disk), m = n - k ∧ k ≤ n ∧ DiskW NoB (fun k => k < w.heap.size) d M w' ∧ M.room = room ∧ M.lasts = [] ∧ M.waits.length ≤ k ∧ Ev τ 0 (.int .i64 room) ∧ Ev τ 1 (.slice A n c) ∧ Ev τ 5 (.pointer (some ⟨d, 0, none⟩)) ∧ Ev τ 6 (.int .i64 0) ∧ Ev τ 7 (.int .i64 (usedB M.files : Int)) ∧ Ev τ 8 (.int .i64 (k : Int)) ∧ Lk w' w NoB) (n) ?start ?round
        case start =>
          exact ⟨rfl, 0, _, rfl, by omega, hD0w, rfl, rfl, by simp, inferInstance, inferInstance, inferInstance, inferInstance, evc, evc, lkc⟩
        case round =>
          intro m τ5 ds5 w5 hI
          obtain ⟨rfl, k, M, rfl, hk, hD, hMr, hMl, hMw, e0, e1, e5, e6, e7, e8, lk⟩ := hI
          refine x_seq ?_
          refine x_seq ?_
          refine x_regionL ?_
          refine xl_v v_move ?_
          refine xl_v v_move ?_
          refine xl_v v_len ?_
          refine xl_v v_lss ?_
          refine xl_nil ?_
          first | refine x_condP (fun c2 => ?_) (fun c2 => ?_) | refine x_condN (fun c2 => ?_) (fun c2 => ?_) | refine x_condE (fun c2 => ?_) (fun c2 => ?_)
          ·
            have hk1 : k < xs.length := by omega
            obtain ⟨q, hq⟩ : ∃ q : Nat, max (0 : Int) (min 300 xs[k]) = (q : Int) := ⟨(max (0 : Int) (min 300 xs[k])).toNat, by omega⟩
            have hq300 : q ≤ 300 := by omega
            obtain ⟨hd1, hd2, hd3⟩ := does_len M ⟨0, wx, List.replicate q 0, 0⟩
            have hM := hD.ok
            have hdo : M.doNo ⟨0, wx, List.replicate q 0, 0⟩ = if (usedB M.files : Int) + q ≤ room then 0 else 131 := by
              rw [doNo_put, if_neg (by rw [nameOk_wx]; decide), hMr, List.length_replicate]
              split
              · rw [if_neg (by omega)]
              · rw [if_pos (by omega)]
            have hus2 : usedB (M.does ⟨0, wx, List.replicate q 0, 0⟩).files = usedB M.files + (if (usedB M.files : Int) + q ≤ room then q else 0) := by
              by_cases h : (usedB M.files : Int) + q ≤ room
              · rw [if_pos h] at hdo ⊢
                rw [foldl_snoc hdo, used_put hM.1.files.1, List.length_replicate]
              · rw [if_neg h] at hdo ⊢
                rw [Disk.does, if_neg (by rw [hdo]; decide)]
                rfl
            have huM := hM.1.files.2.1
            refine x_skip ?_
            refine x_seq ?_
            refine x_block ?_
            refine x_seq ?_
            refine x_regionL ?_
            refine xl_v v_move ?_
            refine xl_v v_move ?_
            refine xl_v (v_indexF k (by decide) rfl (by omega) hk1) ?_
            refine xl_v (v_loadF0 hk1) ?_
            refine xl_v v_min ?_
            refine xl_v (v_congr (u := .int .i64 (q : Int)) v_max (by rw [hq])) ?_
            refine xl_v v_assign ?_
            refine xl_nil ?_
            refine x_seq ?_
            refine x_regionL ?_
            refine xl_v v_move ?_
            refine xl_v v_move ?_
            refine xl_e (e_makeSlice q q rfl rfl (Nat.le_refl _) (by omega) (by omega) fun bz w6 nz lz kz => ?_)
            haveI : Row w6 (some ⟨bz, 0, none⟩) (bytesC (List.replicate q 0)) := ⟨by rw [← zeros_bytes]; exact row_blk kz.eq⟩
            have hput := put_ok NoB (fun k => k < w.heap.size) d M wx (some ⟨bz, 0, none⟩) q (List.replicate q 0) 0 w6 (hD.ext (kpc : Keep NoB _ w6)) (by simp; omega) (by rw [hMl]; simp; omega)
            rw [List.length_replicate] at hput
            refine xl_call (hput) ?_
            rintro _ w7 ⟨rfl, hD2, lk3⟩
            rw [hdo]
            refine xl_v v_assign ?_
            refine xl_nil ?_
            refine x_seq ?_
            refine x_seq ?_
            refine x_regionL ?_
            refine xl_v v_move ?_
            refine xl_call (num_ok _ _) ?_
            rintro _ _ ⟨rfl, rfl⟩
            refine xl_v v_eql ?_
            refine xl_v v_move ?_
            refine xl_v v_move ?_
            refine xl_v (v_add (by omega)) ?_
            refine xl_v v_move ?_
            refine xl_v v_leq ?_
            refine xl_v (v_congr (u := .bool false) v_bneq (by by_cases h : (usedB M.files : Int) + q ≤ room <;> simp [h])) ?_
            refine xl_v v_move ?_
            refine xl_gv rfl EvO.eq v_move ?_
            refine xl_gcall rfl EvO.eq (num_ok _ _) ?_
            rintro _ _ ⟨rfl, rfl⟩
            refine xl_gv rfl EvO.eq v_neq ?_
            refine xl_gv rfl EvO.eq v_move ?_
            refine xl_split 57 (fun g57 => ?_) (fun g57 => ?_)
            ·
              refine xl_gv rfl EvO.eq v_move ?_
              refine xl_gcall rfl EvO.eq (num_ok _ _) ?_
              rintro _ _ ⟨rfl, rfl⟩
              refine xl_gv rfl EvO.eq (v_congr (u := .bool false) v_neq (by by_cases h : (usedB M.files : Int) + q ≤ room <;> simp [h] at g57 ⊢)) ?_
              refine xl_gv rfl EvO.eq (by first | exact v_pickT | exact v_pickF | exact v_pick) ?_
              refine xl_v (by first | exact v_pickT | exact v_pickF | exact v_pick) ?_
              refine xl_nil ?_
              refine x_condF ?_
              refine x_skip ?_
              refine x_seq ?_
              refine x_seq ?_
              refine x_regionL ?_
              refine xl_v v_move ?_
              refine xl_call (num_ok _ _) ?_
              rintro _ _ ⟨rfl, rfl⟩
              refine xl_v v_eql ?_
              refine xl_nil ?_
              first | refine x_condP (fun c4 => ?_) (fun c4 => ?_) | refine x_condN (fun c4 => ?_) (fun c4 => ?_) | refine x_condE (fun c4 => ?_) (fun c4 => ?_)
              ·
                refine x_regionL ?_
                refine xl_v v_move ?_
                refine xl_v v_move ?_
                refine xl_v (v_add (by omega)) ?_
                refine xl_v v_assign ?_
                refine xl_nil ?_
                refine x_seq ?_
                refine x_regionL ?_
                refine xl_v v_move ?_
                refine xl_call (Used_ok NoB _ d (M.does ⟨0, wx, List.replicate q 0, 0⟩) w7 (hD2.ext (kpc : Keep NoB _ w7))) ?_
                rintro _ w12 ⟨rfl, lk4⟩
                refine xl_v v_move ?_
                refine xl_v (v_congr (u := .bool false) v_neq (by rw [hus2]; by_cases h : (usedB M.files : Int) + q ≤ room <;> simp [h] at c4 ⊢)) ?_
                refine xl_nil ?_
                refine x_condF ?_
                refine x_skip ?_
                refine x_regionL ?_
                refine xl_v v_move ?_
                refine xl_v (v_add (by omega)) ?_
                refine xl_v v_assign ?_
                refine xl_nil ?_
                refine ⟨_, ?_, rfl, k + 1, M.does ⟨0, wx, List.replicate q 0, 0⟩, rfl, by omega, hD2.ext (kpc : Keep NoB _ w12), by rw [hd3, hMr], by rw [hd1, hMl], by omega, inferInstance, inferInstance, inferInstance, inferInstance, evc (congrArg (Value.int .i64) (by rw [hus2]; by_cases h : (usedB M.files : Int) + q ≤ room <;> simp [h] at c4 ⊢)), evc, lkc⟩
                omega
              ·
                refine x_skip ?_
                refine x_seq ?_
                refine x_regionL ?_
                refine xl_v v_move ?_
                refine xl_call (Used_ok NoB _ d (M.does ⟨0, wx, List.replicate q 0, 0⟩) w7 (hD2.ext (kpc : Keep NoB _ w7))) ?_
                rintro _ w13 ⟨rfl, lk4⟩
                refine xl_v v_move ?_
                refine xl_v (v_congr (u := .bool false) v_neq (by rw [hus2]; by_cases h : (usedB M.files : Int) + q ≤ room <;> simp [h] at c4 ⊢)) ?_
                refine xl_nil ?_
                refine x_condF ?_
                refine x_skip ?_
                refine x_regionL ?_
                refine xl_v v_move ?_
                refine xl_v (v_add (by omega)) ?_
                refine xl_v v_assign ?_
                refine xl_nil ?_
                refine ⟨_, ?_, rfl, k + 1, M.does ⟨0, wx, List.replicate q 0, 0⟩, rfl, by omega, hD2.ext (kpc : Keep NoB _ w13), by rw [hd3, hMr], by rw [hd1, hMl], by omega, inferInstance, inferInstance, inferInstance, inferInstance, evc (congrArg (Value.int .i64) (by rw [hus2]; by_cases h : (usedB M.files : Int) + q ≤ room <;> simp [h] at c4 ⊢)), evc, lkc⟩
                omega
            ·
              refine xl_gs rfl EvO.eq ?_
              refine xl_gs rfl EvO.eq ?_
              refine xl_gs rfl EvO.eq ?_
              refine xl_gv rfl EvO.eq (by first | exact v_pickT | exact v_pickF | exact v_pick) ?_
              refine xl_v (by first | exact v_pickT | exact v_pickF | exact v_pick) ?_
              refine xl_nil ?_
              refine x_condF ?_
              refine x_skip ?_
              refine x_seq ?_
              refine x_seq ?_
              refine x_regionL ?_
              refine xl_v v_move ?_
              refine xl_call (num_ok _ _) ?_
              rintro _ _ ⟨rfl, rfl⟩
              refine xl_v v_eql ?_
              refine xl_nil ?_
              first | refine x_condP (fun c4 => ?_) (fun c4 => ?_) | refine x_condN (fun c4 => ?_) (fun c4 => ?_) | refine x_condE (fun c4 => ?_) (fun c4 => ?_)
              ·
                refine x_regionL ?_
                refine xl_v v_move ?_
                refine xl_v v_move ?_
                refine xl_v (v_add (by omega)) ?_
                refine xl_v v_assign ?_
                refine xl_nil ?_
                refine x_seq ?_
                refine x_regionL ?_
                refine xl_v v_move ?_
                refine xl_call (Used_ok NoB _ d (M.does ⟨0, wx, List.replicate q 0, 0⟩) w7 (hD2.ext (kpc : Keep NoB _ w7))) ?_
                rintro _ w15 ⟨rfl, lk4⟩
                refine xl_v v_move ?_
                refine xl_v (v_congr (u := .bool false) v_neq (by rw [hus2]; by_cases h : (usedB M.files : Int) + q ≤ room <;> simp [h] at c4 ⊢)) ?_
                refine xl_nil ?_
                refine x_condF ?_
                refine x_skip ?_
                refine x_regionL ?_
                refine xl_v v_move ?_
                refine xl_v (v_add (by omega)) ?_
                refine xl_v v_assign ?_
                refine xl_nil ?_
                refine ⟨_, ?_, rfl, k + 1, M.does ⟨0, wx, List.replicate q 0, 0⟩, rfl, by omega, hD2.ext (kpc : Keep NoB _ w15), by rw [hd3, hMr], by rw [hd1, hMl], by omega, inferInstance, inferInstance, inferInstance, inferInstance, evc (congrArg (Value.int .i64) (by rw [hus2]; by_cases h : (usedB M.files : Int) + q ≤ room <;> simp [h] at c4 ⊢)), evc, lkc⟩
                omega
              ·
                refine x_skip ?_
                refine x_seq ?_
                refine x_regionL ?_
                refine xl_v v_move ?_
                refine xl_call (Used_ok NoB _ d (M.does ⟨0, wx, List.replicate q 0, 0⟩) w7 (hD2.ext (kpc : Keep NoB _ w7))) ?_
                rintro _ w16 ⟨rfl, lk4⟩
                refine xl_v v_move ?_
                refine xl_v (v_congr (u := .bool false) v_neq (by rw [hus2]; by_cases h : (usedB M.files : Int) + q ≤ room <;> simp [h] at c4 ⊢)) ?_
                refine xl_nil ?_
                refine x_condF ?_
                refine x_skip ?_
                refine x_regionL ?_
                refine xl_v v_move ?_
                refine xl_v (v_add (by omega)) ?_
                refine xl_v v_assign ?_
                refine xl_nil ?_
                refine ⟨_, ?_, rfl, k + 1, M.does ⟨0, wx, List.replicate q 0, 0⟩, rfl, by omega, hD2.ext (kpc : Keep NoB _ w16), by rw [hd3, hMr], by rw [hd1, hMl], by omega, inferInstance, inferInstance, inferInstance, inferInstance, evc (congrArg (Value.int .i64) (by rw [hus2]; by_cases h : (usedB M.files : Int) + q ≤ room <;> simp [h] at c4 ⊢)), evc, lkc⟩
                omega
          ·
            refine x_exit ?_
            refine x_seq ?_
            refine x_regionL ?_
            refine xl_v v_move ?_
            refine xl_call (num_ok _ _) ?_
            rintro _ _ ⟨rfl, rfl⟩
            refine xl_v (v_congr (u := .bool true) v_eql (by simp)) ?_
            refine xl_v v_move ?_
            refine xl_gcall rfl EvO.eq (works_ok w5) ?_
            rintro _ w18 ⟨rfl, lkw⟩
            refine xl_v (by first | exact v_pickT | exact v_pickF | exact v_pick) ?_
            refine xl_v v_assign ?_
            refine xl_nil ?_
            refine x_ret ?_
            refine fin1 rfl ?_
            exact ⟨rfl, lkc⟩
end Go.Proofs.Ytabknhgbijcklaa
