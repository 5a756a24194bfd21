/-
  Walks, printed by a program of this workplace (wip/tools/sx.py) off the functions' code and a text of contracts.
-/
import Derived.Test.YtbihphclmdokeaaAE
set_option linter.all false
set_option maxRecDepth 100000
set_option synthInstance.maxSize 100000
set_option synthInstance.maxHeartbeats 400000
namespace Go.Proofs.Ytbihphclmdokeaa
open Go.Wst
open Go.Wst.Sm
structure LongS (M : Mach) (a c p : Nat) : Prop where
  ok : M.ok
  rules : M.rules = [(0, (twR, p))]
  two : M.parts.length = 2
  inn : (M.part 0).length = a
  out : (M.part 1).length = c
theorem long_new : (Mach.new 2).ruleB twR = true ∧ LongS ((Mach.new 2).ruleM twR) 0 0 0 := by
  have hb : (Mach.new 2).ruleB twR = true := by kernel_rfl
  refine ⟨hb, (Mach.ok.new (by decide) (by decide)).rule _, ?_, ?_, ?_, ?_⟩ <;> rw [Mach.ruleM, if_pos hb] <;> rfl
theorem long_put0 {M : Mach} {a c p : Nat} (h : LongS M a c p) (ha : a < 4096) {v : Int} (hv : valB v = true) : M.putNo 0 v = 0 ∧ LongS (M.putM 0 v) (a + 1) c p := by
  have hh : M.hasB 0 = true := by simp [Mach.hasB, h.two]
  have hn : M.putNo 0 v = 0 := by rw [Mach.putNo, if_pos hh, if_pos hv, if_neg (by rw [h.inn]; omega)]
  refine ⟨hn, h.ok.put _ _, ?_, ?_, ?_, ?_⟩ <;> rw [Mach.putM, if_pos hn]
  · exact h.rules
  · simpa using h.two
  · rw [Mach.part_set, if_pos (by simp [h.two])]; simp [h.inn]
  · rw [Mach.part_set, if_neg (by simp)]; exact h.out
theorem long_put1 {M : Mach} {a c p : Nat} (h : LongS M a c p) (hc : c < 4096) {v : Int} (hv : valB v = true) : M.putNo 1 v = 0 ∧ LongS (M.putM 1 v) a (c + 1) p := by
  have hh : M.hasB 1 = true := by simp [Mach.hasB, h.two]
  have hn : M.putNo 1 v = 0 := by rw [Mach.putNo, if_pos hh, if_pos hv, if_neg (by rw [h.out]; omega)]
  refine ⟨hn, h.ok.put _ _, ?_, ?_, ?_, ?_⟩ <;> rw [Mach.putM, if_pos hn]
  · exact h.rules
  · simpa using h.two
  · rw [Mach.part_set, if_neg (by simp)]; exact h.inn
  · rw [Mach.part_set, if_pos (by simp [h.two])]; simp [h.out]
theorem long_full {M : Mach} {n v : Int} (hh : M.hasB n = true) (hv : valB v = true) (hl : (M.part n).length = 4096) : M.putNo n v = 3 ∧ M.putM n v = M := by
  have hn : M.putNo n v = 3 := by rw [Mach.putNo, if_pos hh, if_pos hv, if_pos (by omega)]
  exact ⟨hn, by rw [Mach.putM, if_neg (by omega)]⟩
theorem long_left {M : Mach} {a c p : Nat} (h : LongS M a c p) (most : Int) : (M.left (twR, p) most).length = min most.toNat (a - p) := by
  have := h.inn
  simp [Mach.left, this]
theorem long_key {M : Mach} {a c p : Nat} (h : LongS M a c p) : akey M.rules 0 = some (twR, p) := by rw [h.rules]; rfl
theorem long_round {M : Mach} {a c p : Nat} (h : LongS M a c p) {most : Int} {n : Nat} (hm : 0 ≤ most) (hn : min most.toNat (a - p) = n) (hn0 : 0 < n) (hc : c + n ≤ 4096) : M.roundN 0 most = n ∧ M.roundNo 0 most = 0 ∧ LongS (M.roundM 0 most) a (c + n) (p + n) := by
  have hl := (long_left h most).trans hn
  have hno : M.roundNo 0 most = 0 := by
    rw [Mach.roundNo, long_key h]
    simp only []
    rw [if_neg (by omega), if_neg (by omega), if_neg (by have := h.out; simp only [hl]; omega)]
  have hN : M.roundN 0 most = n := by
    rw [Mach.roundN, long_key h]
    simp only []
    rw [if_pos hno, hl]
  have hM : M.roundM 0 most = ⟨M.parts.set 1 (M.part 1 ++ madeBy (twR, p) 0 (M.left (twR, p) most)), aput M.rules 0 (twR, p + (M.left (twR, p) most).length)⟩ := by
    rw [Mach.roundM, long_key h]
    simp only []
    rw [if_pos hno]
    rfl
  refine ⟨hN, hno, h.ok.round _ _, ?_, ?_, ?_, ?_⟩ <;> rw [hM]
  · simp [h.rules, aput, hl]
  · simpa using h.two
  · rw [Mach.part_set, if_neg (by simp)]; exact h.inn
  · rw [Mach.part_set, if_pos (by simp [h.two])]; simp [madeBy_len, hl, h.out]
theorem long_stop {M : Mach} {a c p : Nat} (h : LongS M a c p) {most : Int} (hm : 0 < most) (hp : p < a) (hc : 4096 < c + min most.toNat (a - p)) : M.roundN 0 most = 0 ∧ M.roundNo 0 most = 3 ∧ M.roundM 0 most = M := by
  have hl := long_left h most
  have hno : M.roundNo 0 most = 3 := by
    rw [Mach.roundNo, long_key h]
    simp only []
    rw [if_neg (by omega), if_neg (by omega), if_pos (by have := h.out; simp only [hl]; omega)]
  obtain ⟨e1, e2⟩ := round_not (M := M) (id := 0) (most := most) (by omega)
  exact ⟨e2, hno, e1⟩
theorem long_drain {M : Mach} {a c p : Nat} (h : LongS M a c p) (hp : p < a) (hc : 4096 < c + min 4096 (a - p)) : (M.drain 3).2 = 0 := by
  obtain ⟨e1, _, e3⟩ := long_stop h (most := 4096) (by decide) hp (by simpa using hc)
  have hi : M.ids = [0] := by simp [Mach.ids, h.rules]
  have hpass : M.pass M.ids = (M, 0) := by rw [hi]; simp [Mach.pass, e1, e3]
  rw [show (3 : Nat) = 2 + 1 from rfl, Mach.drain, hpass]
  simp
/-- waystation/waystationlaw14.StreamLong -/
theorem StreamLong_ok (w : World) : Ret Try.prog 5 #[] w (fun v w' => v = .bool true ∧ Lk w' w NoB) := by
  obtain ⟨hb, hL0⟩ := long_new
  refine ret_of_x (N := 101) (l := []) Try.func5 rfl rfl (Nat.le_of_ble_eq_true rfl) ?_
  refine x_seq ?_
  refine x_regionL ?_
  refine xl_v v_assign ?_
  refine xl_nil ?_
  refine x_seq ?_
  refine x_regionL ?_
  refine xl_call (new_ok 2 w) ?_
  rintro _ w1 ⟨hnew, lk1⟩
  rw [if_pos (by decide)] at hnew
  obtain ⟨b, pb, mb, u1, rfl, hM1, hs1⟩ := hnew
  refine xl_v v_move ?_
  refine xl_v v_extract ?_
  refine xl_v v_extract ?_
  refine xl_v v_assign ?_
  refine xl_v v_assign ?_
  refine xl_nil ?_
  refine x_seq ?_
  refine x_regionL ?_
  refine xl_v v_move ?_
  refine xl_call (twice_ok _) ?_
  rintro _ w2 ⟨rfl, lk⟩
  refine xl_call (rule_ok b pb mb u1 (Mach.new 2) twR _ (hM1.keep (kpc : Keep NoB _ w2) (fun _ _ h => h))) ?_
  rintro _ w3 ⟨hv, hM2, lk2⟩
  rw [if_pos hb] at hv
  subst hv
  refine xl_v v_assign ?_
  refine xl_nil ?_
  refine x_seq ?_
  refine x_seq ?_
  refine x_regionL ?_
  refine xl_v v_assign ?_
  refine xl_nil ?_
  refine x_block ?_
  refine x_loop (fun m τ ds w' => ds = [] ∧ ∃ (k : Nat) (vs : List Value) (M : Mach), m = 4096 - k ∧ k ≤ 4096 ∧ LongS M k 0 0 ∧ MachAt w' b pb mb vs M ∧ (∀ i, MachF b pb mb vs i → w.heap.size ≤ i) ∧ Ev τ 1 (.pointer (some ⟨b, 0, none⟩)) ∧ Ev τ 2 (.int .i64 0) ∧ Ev τ 3 (.int .i64 0) ∧ Ev τ 4 (.int .i64 (k : Int)) ∧ Lk w' w NoB) (4096) ?start ?round
  case start =>
    haveI := subF_since (S := NoB) hs1
    exact ⟨rfl, 0, u1, _, rfl, Nat.zero_le _, hL0, hM2.keep (kpc : Keep NoB _ w3) (fun _ _ h => h), hs1, inferInstance, inferInstance, inferInstance, evc, lkc⟩
  case round =>
    intro m τ4 ds4 w4 hI
    obtain ⟨rfl, k, vs, M, rfl, hk, hL, hM, hs, e1, e2, e3, e4, lk⟩ := hI
    haveI := subF_since (S := NoB) hs
    refine x_seq ?_
    refine x_seq ?_
    refine x_regionL ?_
    refine xl_v v_move ?_
    refine xl_v v_lss ?_
    refine xl_nil ?_
    first | refine x_condP (fun c1 => ?_) (fun c1 => ?_) | refine x_condN (fun c1 => ?_) (fun c1 => ?_) | refine x_condE (fun c1 => ?_) (fun c1 => ?_)
    ·
      have hk1 : k < 4096 := by omega
      obtain ⟨hno, hL2⟩ := long_put0 hL hk1 (v := (k : Int)) (by simp [valB]; omega)
      refine x_skip ?_
      refine x_seq ?_
      refine x_block ?_
      refine x_seq ?_
      refine x_regionL ?_
      refine xl_v v_move ?_
      refine xl_v v_move ?_
      refine xl_call (put_ok b pb mb vs M 0 (k : Int) w4 hM hL.ok) ?_
      rintro _ w5 ⟨hv, lkp, vs2, hM2, hs2⟩
      rw [hno] at hv
      subst hv
      refine xl_call (num_ok _ _) ?_
      rintro _ _ ⟨rfl, rfl⟩
      refine xl_v (v_neqF rfl) ?_
      refine xl_nil ?_
      refine x_condF ?_
      refine x_skip ?_
      refine x_regionL ?_
      refine xl_v v_move ?_
      refine xl_v (v_add (by omega)) ?_
      refine xl_v v_assign ?_
      refine xl_nil ?_
      exact ⟨_, by omega, rfl, k + 1, vs2, _, rfl, by omega, hL2, hM2, sub_new hs2 hs lk.keep.size, inferInstance, inferInstance, inferInstance, evc, lkc⟩
    ·
      have hk2 : k = 4096 := by omega
      subst hk2
      obtain ⟨f1, f2⟩ := long_full (n := 0) (v := 1) (by simp [Mach.hasB, hL.two]) (by decide) hL.inn
      obtain ⟨g1, g2, hL3⟩ := long_round hL (most := 4095) (n := 4095) (by decide) (by decide) (by decide) (by decide)
      obtain ⟨p1, hL4⟩ := long_put1 hL3 (by decide) (v := 7) (by decide)
      obtain ⟨q1, q2⟩ := long_full (n := 1) (v := 8) (by simp [Mach.hasB, hL4.two]) (by decide) hL4.out
      obtain ⟨s1, s2, s3⟩ := long_stop hL4 (most := 1) (by decide) (by decide) (by decide)
      have hdr := long_drain hL4 (by decide) (by decide)
      refine x_exit ?_
      refine x_seq ?_
      refine x_regionL ?_
      refine xl_v v_move ?_
      refine xl_call (put_ok b pb mb vs M 0 1 w4 hM hL.ok) ?_
      rintro _ w7 ⟨hv, lka, va, hMa, hsa⟩
      rw [f1] at hv
      rw [f2] at hMa
      subst hv
      have hna := sub_new hsa hs lk.keep.size
      haveI := subF_since (S := NoB) hna
      refine xl_v v_assign ?_
      refine xl_nil ?_
      refine x_seq ?_
      refine x_regionL ?_
      refine xl_v v_move ?_
      refine xl_call (round_ok b pb mb va M 0 4095 w7 hMa hL.ok) ?_
      rintro _ w8 ⟨hv, lkb, vb, hMb, hsb⟩
      rw [g1, g2] at hv
      subst hv
      have hnb := sub_new hsb hna Ge.le
      haveI := subF_since (S := NoB) hnb
      refine xl_v v_move ?_
      refine xl_v v_extract ?_
      refine xl_v v_extract ?_
      refine xl_v v_assign ?_
      refine xl_v v_assign ?_
      refine xl_nil ?_
      refine x_seq ?_
      refine x_regionL ?_
      refine xl_v v_move ?_
      refine xl_call (put_ok b pb mb vb _ 1 7 w8 hMb hL3.ok) ?_
      rintro _ w9 ⟨hv, lkc1, vc, hMc, hsc⟩
      rw [p1] at hv
      subst hv
      have hnc := sub_new hsc hnb Ge.le
      haveI := subF_since (S := NoB) hnc
      refine xl_v v_move ?_
      refine xl_call (put_ok b pb mb vc _ 1 8 w9 hMc hL4.ok) ?_
      rintro _ w10 ⟨hv, lkd, vd, hMd, hsd⟩
      rw [q1] at hv
      rw [q2] at hMd
      subst hv
      have hnd := sub_new hsd hnc Ge.le
      haveI := subF_since (S := NoB) hnd
      refine xl_v v_assign ?_
      refine xl_v v_assign ?_
      refine xl_nil ?_
      refine x_seq ?_
      refine x_regionL ?_
      refine xl_v v_move ?_
      refine xl_call (round_ok b pb mb vd _ 0 1 w10 hMd hL4.ok) ?_
      rintro _ w11 ⟨hv, lke, ve, hMe, hse⟩
      rw [s1, s2] at hv
      rw [s3] at hMe
      subst hv
      have hne := sub_new hse hnd Ge.le
      haveI := subF_since (S := NoB) hne
      refine xl_v v_move ?_
      refine xl_v v_extract ?_
      refine xl_v v_extract ?_
      refine xl_v v_assign ?_
      refine xl_v v_assign ?_
      refine xl_nil ?_
      refine x_seq ?_
      refine x_regionL ?_
      refine xl_v v_move ?_
      refine xl_call (pos_ok b pb mb ve _ 0 w11 hMe) ?_
      rintro _ w12 ⟨hv, lkf⟩
      rw [long_key hL4] at hv
      obtain rfl : _ = Value.tuple #[.int .i64 4095, .int .i64 0] := hv
      refine xl_v v_move ?_
      refine xl_v v_extract ?_
      refine xl_v v_extract ?_
      refine xl_v v_assign ?_
      refine xl_v v_assign ?_
      refine xl_nil ?_
      refine x_seq ?_
      refine x_regionL ?_
      refine xl_v v_move ?_
      refine xl_call (num_ok _ _) ?_
      rintro _ _ ⟨rfl, rfl⟩
      refine xl_v v_move ?_
      refine xl_call (num_ok _ _) ?_
      rintro _ _ ⟨rfl, rfl⟩
      refine xl_v (v_add (by omega)) ?_
      refine xl_v v_move ?_
      refine xl_call (num_ok _ _) ?_
      rintro _ _ ⟨rfl, rfl⟩
      refine xl_v (v_add (by omega)) ?_
      refine xl_v v_move ?_
      refine xl_call (num_ok _ _) ?_
      rintro _ _ ⟨rfl, rfl⟩
      refine xl_v (v_add (by omega)) ?_
      refine xl_v v_move ?_
      refine xl_call (num_ok _ _) ?_
      rintro _ _ ⟨rfl, rfl⟩
      refine xl_v (v_add (by omega)) ?_
      refine xl_v (v_eqlT rfl) ?_
      refine xl_v v_move ?_
      refine xl_gv rfl EvO.eq v_move ?_
      refine xl_gcall rfl EvO.eq (num_ok _ _) ?_
      rintro _ _ ⟨rfl, rfl⟩
      refine xl_gv rfl EvO.eq (v_eqlT rfl) ?_
      refine xl_v (by first | exact v_pickT | exact v_pickF | exact v_pick) ?_
      refine xl_v v_move ?_
      refine xl_gv rfl EvO.eq v_move ?_
      refine xl_gv rfl EvO.eq (v_eqlT rfl) ?_
      refine xl_v (by first | exact v_pickT | exact v_pickF | exact v_pick) ?_
      refine xl_v v_move ?_
      refine xl_gv rfl EvO.eq v_move ?_
      refine xl_gcall rfl EvO.eq (num_ok _ _) ?_
      rintro _ _ ⟨rfl, rfl⟩
      refine xl_gv rfl EvO.eq (v_eqlT rfl) ?_
      refine xl_v (by first | exact v_pickT | exact v_pickF | exact v_pick) ?_
      refine xl_v v_move ?_
      refine xl_gv rfl EvO.eq v_move ?_
      refine xl_gv rfl EvO.eq (v_eqlT rfl) ?_
      refine xl_v (by first | exact v_pickT | exact v_pickF | exact v_pick) ?_
      refine xl_v v_move ?_
      refine xl_gv rfl EvO.eq v_move ?_
      refine xl_gcall rfl EvO.eq (num_ok _ _) ?_
      rintro _ _ ⟨rfl, rfl⟩
      refine xl_gv rfl EvO.eq (v_eqlT rfl) ?_
      refine xl_v (by first | exact v_pickT | exact v_pickF | exact v_pick) ?_
      refine xl_v v_move ?_
      refine xl_gv rfl EvO.eq v_move ?_
      refine xl_gv rfl EvO.eq (v_eqlT rfl) ?_
      refine xl_v (by first | exact v_pickT | exact v_pickF | exact v_pick) ?_
      refine xl_v v_move ?_
      refine xl_gv rfl EvO.eq v_move ?_
      refine xl_gcall rfl EvO.eq (drain_ok b pb mb ve _ 3 w12 (hMe.keep (kpc : Keep NoB _ w12) (fun _ _ h => h)) hL4.ok (by decide)) ?_
      rintro _ w21 ⟨hv, lkg, vg, hMg, hsg⟩
      obtain rfl : _ = Value.int .i64 0 := hv.trans (by rw [show ((3 : Int).toNat) = 3 from rfl, hdr]; rfl)
      refine xl_gv rfl EvO.eq (v_eqlT rfl) ?_
      refine xl_v (by first | exact v_pickT | exact v_pickF | exact v_pick) ?_
      refine xl_v v_move ?_
      refine xl_gcall rfl EvO.eq (works_ok _) ?_
      rintro _ w22 ⟨rfl, lk⟩
      refine xl_v (by first | exact v_pickT | exact v_pickF | exact v_pick) ?_
      refine xl_v v_assign ?_
      refine xl_nil ?_
      refine x_ret ?_
      refine fin1 rfl ?_
      exact ⟨rfl, lkc⟩
end Go.Proofs.Ytbihphclmdokeaa
