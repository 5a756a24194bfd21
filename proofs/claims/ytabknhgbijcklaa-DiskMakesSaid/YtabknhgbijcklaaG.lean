/-
  Walks, printed by a program of this workplace (wip/tools/sx.py) off the functions' code and a text of contracts.
-/
import Derived.Test.YtabknhgbijcklaaF
set_option linter.all false
set_option maxRecDepth 100000
set_option synthInstance.maxSize 100000
set_option synthInstance.maxHeartbeats 400000
namespace Go.Proofs.Ytabknhgbijcklaa
open Go.Wst
open Go.Wst.Dm
theorem there_read {l : List (ByteArray × LB)} {L : Fs} (h : Dm.Alike (fsP l) L) (name : ByteArray) : (thereB l name).bytes = readB L name ∧ thereNo l name = readNo L name := by
  have e : akey L name = (akey l name).map (fun x => x.bytes) := by rw [← h.eq, fsP_akey]
  unfold thereB thereNo readB readNo
  rw [e]
  constructor
  · split
    · cases akey l name <;> rfl
    · rfl
  · split
    · rfl
    · cases akey l name <;> simp
theorem there_row {W : World} {m : Nat} {G : Nat → Prop} {l : List (ByteArray × LB)} (h : FilesAt W m G l) (name : ByteArray) : FRow W G (thereB l name).A (bytesC (thereB l name).bytes) := by
  unfold thereB
  split
  · exact (atB_row h name).1
  · exact FRow.nil _ _
theorem there_len {l : List (ByteArray × LB)} (hn : (l.map (·.1)).Nodup) (name : ByteArray) : (thereB l name).bytes.length ≤ usedB (fsP l) := by
  unfold thereB
  split
  · exact used_at hn name
  · exact Nat.zero_le _

/-- (*waystation/disk.Disk).Cut -/
theorem cut_ok (P R : Nat → Prop) (d : Nat) (M : Disk) (name : ByteArray) (n : Int) (xs : List UInt8) (w : World) (h : DiskW P R d M w) (hn : xs.length ≤ 16777216) (hfew : M.lasts.length + M.waits.length + 1 ≤ 10000) : Ret Try.prog 17 #[.pointer (some ⟨d, 0, none⟩), .string name, .int .i64 n] w (fun v w' => v = .int .i64 (M.doNo ⟨1, name, xs, n⟩) ∧ DiskW P R d (M.does ⟨1, name, xs, n⟩) w' ∧ Lk w' w (NotP R)) := by
  obtain ⟨mb, ml, G, D, hD, hS, hP, hR⟩ := h
  haveI sP : SubF (DiskB d mb ml D.A) (NotP R) w := ⟨fun k _ e e2 => (hR k e2).2 e⟩
  have hno := doNo_cut M name xs n
  obtain ⟨hr1, hr2⟩ := there_read hS.cur name
  have hlen := there_len hD.cur.nodup name
  have hu := hS.used
  refine ret_of_x (N := 37) (l := [.pointer (some ⟨d, 0, none⟩), .string name, .int .i64 n]) Try.func17 rfl rfl (Nat.le_of_ble_eq_true rfl) ?_
  refine x_seq ?_
  refine x_regionL ?_
  refine xl_e (e_box fun b1 w1 n1 l1 k1 => ?_)
  refine xl_e (e_box fun b2 w2 n2 l2 k2 => ?_)
  refine xl_v v_assign ?_
  refine xl_nil ?_
  refine x_seq ?_
  refine x_regionL ?_
  refine xl_v v_move ?_
  refine xl_v v_move ?_
  refine xl_v v_makeFunc ?_
  refine xl_v (by first | exact v_load | exact v_loadO (by omega) | exact v_loadFf (by omega) | exact v_loadF0 (by omega)) ?_
  refine xl_call (there_ok d mb ml G D M name 48 mb D.cur w2 (hD.ext (kpc : Keep NoB w w2)) hS (hD.cur.ext (kpc : Keep NoB w w2)) (fun W l => stands_ok d mb ml G D W (hD.ext (kpc : Keep NoB w W)))) ?_
  rintro _ w3 ⟨rfl, lk1⟩
  have hb1w : w.heap.size ≤ b1 := by rw [n1.eq]; exact Ge.le
  have hb2w : w.heap.size ≤ b2 := by rw [n2.eq]; exact Ge.le
  refine xl_v v_move ?_
  refine xl_v v_extract ?_
  refine xl_v v_extract ?_
  refine xl_v v_assign ?_
  refine xl_v v_assign ?_
  refine xl_nil ?_
  refine x_seq ?_
  refine x_block ?_
  refine x_seq ?_
  refine x_regionL ?_
  refine xl_v v_move ?_
  refine xl_v v_neq ?_
  refine xl_v v_assign ?_
  refine xl_nil ?_
  refine x_condE (fun c1 => ?_) (fun c1 => ?_)
  ·
    refine x_seq ?_
    refine x_regionL ?_
    refine xl_v v_move ?_
    refine xl_v v_assign ?_
    refine xl_nil ?_
    refine x_ret ?_
    refine fin1 rfl ?_
    rw [if_pos (by rw [← hr2]; intro e; rw [e] at c1; simp at c1)] at hno
    refine ⟨by rw [hno, hr2], ?_, lkc⟩
    rw [Disk.does, if_neg (by rw [hno, ← hr2]; intro e; rw [e] at c1; simp at c1)]
    exact DiskW.ext ⟨mb, ml, G, D, hD, hS, hP, hR⟩ (kpc : Keep NoB w w3)
  ·
    have h0 : readNo M.files name = 0 := by
      rw [← hr2]
      simpa using c1
    rw [if_neg (fun h => h h0)] at hno
    refine x_seq ?_
    refine x_regionL ?_
    refine xl_v (by first | exact v_load | exact v_loadO (by omega) | exact v_loadFf (by omega) | exact v_loadF0 (by omega)) ?_
    refine xl_v v_lss ?_
    refine xl_v v_move ?_
    refine xl_split 24 (fun g24 => ?_) (fun g24 => ?_)
    ·
      refine xl_gs rfl EvO.eq ?_
      refine xl_gs rfl EvO.eq ?_
      refine xl_gs rfl EvO.eq ?_
      refine xl_gs rfl EvO.eq ?_
      refine xl_v (by first | exact v_pickT | exact v_pickF | exact v_pick) ?_
      refine xl_v v_assign ?_
      refine xl_nil ?_
      refine x_condT ?_
      refine x_seq ?_
      refine x_regionL ?_
      refine xl_v v_assign ?_
      refine xl_nil ?_
      refine x_ret ?_
      refine fin1 rfl ?_
      rw [if_pos (by
        rw [← hr1]
        first
          | (simp at c2; omega)
          | (simp at g24; omega))] at hno
      refine ⟨by rw [hno], ?_, lkc⟩
      rw [Disk.does, if_neg (by rw [hno]; decide)]
      exact DiskW.ext ⟨mb, ml, G, D, hD, hS, hP, hR⟩ (kpc : Keep NoB w w3)
    ·
      refine xl_gv rfl EvO.eq (by first | exact v_load | exact v_loadO (by omega) | exact v_loadFf (by omega) | exact v_loadF0 (by omega)) ?_
      refine xl_gv rfl EvO.eq v_move ?_
      refine xl_gv rfl EvO.eq v_len ?_
      refine xl_gv rfl EvO.eq v_gtr ?_
      refine xl_v (by first | exact v_pickT | exact v_pickF | exact v_pick) ?_
      refine xl_v v_assign ?_
      refine xl_nil ?_
      first | refine x_condP (fun c2 => ?_) (fun c2 => ?_) | refine x_condN (fun c2 => ?_) (fun c2 => ?_) | refine x_condE (fun c2 => ?_) (fun c2 => ?_)
      ·
        refine x_seq ?_
        refine x_regionL ?_
        refine xl_v v_assign ?_
        refine xl_nil ?_
        refine x_ret ?_
        refine fin1 rfl ?_
        rw [if_pos (by
          rw [← hr1]
          first
            | (simp at c2; omega)
            | (simp at g24; omega))] at hno
        refine ⟨by rw [hno], ?_, lkc⟩
        rw [Disk.does, if_neg (by rw [hno]; decide)]
        exact DiskW.ext ⟨mb, ml, G, D, hD, hS, hP, hR⟩ (kpc : Keep NoB w w3)
      ·
        have hn0 : 0 ≤ n ∧ n ≤ ((thereB D.cur name).bytes.length : Int) := by
          simp at g24 c2
          omega
        rw [if_neg (by rw [← hr1]; omega)] at hno
        have hok : okT M.room M.files ⟨1, name, xs, n⟩ := Disk.doNo_ok (.inr (.inl rfl)) hno
        refine x_skip ?_
        refine x_seq ?_
        refine x_regionL ?_
        refine xl_v v_move ?_
        refine xl_v v_makeFunc ?_
        refine xl_v (by first | exact v_load | exact v_loadO (by omega) | exact v_loadFf (by omega) | exact v_loadF0 (by omega)) ?_
        refine xl_v (by first | exact v_load | exact v_loadO (by omega) | exact v_loadFf (by omega) | exact v_loadF0 (by omega)) ?_
        refine xl_v (v_buildA) ?_
        refine xl_v v_build ?_
        refine xl_call (begin_ok d mb ml G (fun j => j = b1 ∨ j = b2) D M ⟨⟨1, name, xs, n⟩, .func (.func 49) ([] : List Value).toArray [Value.pointer (some ⟨b1, 0, none⟩), Value.pointer (some ⟨b2, 0, none⟩)].toArray, rfl⟩ w3 (hD.ext (kpc : Keep NoB w w3)) hS (acts_cut b1 b2 name xs n hn0.1 w3 Blk.eq Blk.eq) (fun j e e2 => by
              have h1 := hD.lt j (.inl e2)
              rcases e with e | e <;> omega) hok hn hfew) ?_
        rintro _ w4 ⟨rfl, ⟨G', D', hD', hS', hB', hG'⟩, lk4⟩
        have hgp9 := (Ge.le : w.heap.size ≤ (w3).heap.size)
        refine xl_v v_assign ?_
        refine xl_nil ?_
        refine x_ret ?_
        refine fin1 rfl ?_
        refine ⟨by rw [hno], ?_, lkc⟩
        rw [Disk.does, if_pos hno]
        refine DiskW.begun hD.lt hP hR (fun j e => ?_) hgp9 lk4.keep.size hD' hS' hB' hG'
        rcases e with e | e <;> omega

/-- (*waystation/disk.Disk).Remove -/
theorem remove_ok (P R : Nat → Prop) (d : Nat) (M : Disk) (name : ByteArray) (n : Int) (xs : List UInt8) (w : World) (h : DiskW P R d M w) (hn : xs.length ≤ 16777216) (hfew : M.lasts.length + M.waits.length + 1 ≤ 10000) : Ret Try.prog 18 #[.pointer (some ⟨d, 0, none⟩), .string name] w (fun v w' => v = .int .i64 (M.doNo ⟨2, name, xs, n⟩) ∧ DiskW P R d (M.does ⟨2, name, xs, n⟩) w' ∧ Lk w' w (NotP R)) := by
  obtain ⟨mb, ml, G, D, hD, hS, hP, hR⟩ := h
  haveI sP : SubF (DiskB d mb ml D.A) (NotP R) w := ⟨fun k _ e e2 => (hR k e2).2 e⟩
  have hno := doNo_remove M name xs n
  obtain ⟨hr1, hr2⟩ := there_read hS.cur name
  refine ret_of_x (N := 24) (l := [.pointer (some ⟨d, 0, none⟩), .string name]) Try.func18 rfl rfl (Nat.le_of_ble_eq_true rfl) ?_
  refine x_seq ?_
  refine x_regionL ?_
  refine xl_e (e_box fun b1 w1 n1 l1 k1 => ?_)
  refine xl_v v_assign ?_
  refine xl_nil ?_
  refine x_seq ?_
  refine x_seq ?_
  refine x_regionL ?_
  refine xl_v v_move ?_
  refine xl_v v_move ?_
  refine xl_v v_makeFunc ?_
  refine xl_v (by first | exact v_load | exact v_loadO (by omega) | exact v_loadFf (by omega) | exact v_loadF0 (by omega)) ?_
  refine xl_call (there_ok d mb ml G D M name 48 mb D.cur w1 (hD.ext (kpc : Keep NoB w w1)) hS (hD.cur.ext (kpc : Keep NoB w w1)) (fun W l => stands_ok d mb ml G D W (hD.ext (kpc : Keep NoB w W)))) ?_
  rintro _ w2 ⟨rfl, lk1⟩
  have hb1w : w.heap.size ≤ b1 := by rw [n1.eq]; exact Ge.le
  refine xl_v v_move ?_
  refine xl_v v_extract ?_
  refine xl_v v_extract ?_
  refine xl_v v_assign ?_
  refine xl_v v_assign ?_
  refine xl_nil ?_
  refine x_seq ?_
  refine x_regionL ?_
  refine xl_v v_move ?_
  refine xl_v v_neq ?_
  refine xl_nil ?_
  refine x_condE (fun c1 => ?_) (fun c1 => ?_)
  ·
    refine x_seq ?_
    refine x_regionL ?_
    refine xl_v v_move ?_
    refine xl_v v_assign ?_
    refine xl_nil ?_
    refine x_ret ?_
    refine fin1 rfl ?_
    refine ⟨by rw [hno, hr2], ?_, lkc⟩
    rw [Disk.does, if_neg (by rw [hno, ← hr2]; intro e; rw [e] at c1; simp at c1)]
    exact DiskW.ext ⟨mb, ml, G, D, hD, hS, hP, hR⟩ (kpc : Keep NoB w w2)
  ·
    have h0 : readNo M.files name = 0 := by
      rw [← hr2]
      simpa using c1
    rw [h0] at hno
    have hok : okT M.room M.files ⟨2, name, xs, n⟩ := Disk.doNo_ok (.inr (.inr rfl)) hno
    refine x_skip ?_
    refine x_seq ?_
    refine x_regionL ?_
    refine xl_v v_move ?_
    refine xl_v v_makeFunc ?_
    refine xl_v (by first | exact v_load | exact v_loadO (by omega) | exact v_loadFf (by omega) | exact v_loadF0 (by omega)) ?_
    refine xl_v (v_buildA) ?_
    refine xl_v v_build ?_
    refine xl_call (begin_ok d mb ml G (fun j => j = b1) D M ⟨⟨2, name, xs, n⟩, .func (.func 50) ([] : List Value).toArray [Value.pointer (some ⟨b1, 0, none⟩)].toArray, rfl⟩ w2 (hD.ext (kpc : Keep NoB w w2)) hS (acts_remove b1 name xs n w2 Blk.eq) (fun j e e2 => by
          have h1 := hD.lt j (.inl e2)
          omega) hok hn hfew) ?_
    rintro _ w3 ⟨rfl, ⟨G', D', hD', hS', hB', hG'⟩, lk4⟩
    have hgp9 := (Ge.le : w.heap.size ≤ (w2).heap.size)
    refine xl_v v_assign ?_
    refine xl_nil ?_
    refine x_ret ?_
    refine fin1 rfl ?_
    refine ⟨by rw [hno], ?_, lkc⟩
    rw [Disk.does, if_pos hno]
    exact DiskW.begun hD.lt hP hR (fun j e => by omega) hgp9 lk4.keep.size hD' hS' hB' hG'

/-- (*waystation/disk.Disk).Flush -/
theorem flush_ok (P R : Nat → Prop) (d : Nat) (M : Disk) (w : World) (h : DiskW P R d M w) : Ret Try.prog 21 #[.pointer (some ⟨d, 0, none⟩)] w (fun v w' => v = .int .i64 0 ∧ DiskW P R d M.flush w' ∧ Lk w' w (NotP R)) := by
  obtain ⟨mb, ml, G, D, hD, hS, hP, hR⟩ := h
  haveI hb : Blk w d _ := ⟨hD.hb⟩
  haveI sP : SubF (OneB d) (NotP R) w := ⟨fun k _ e e2 => (hR k e2).2 (.inl e)⟩
  have hdl := hD.lt d (.inl (.inl rfl))
  have hmbl := hD.lt mb (.inl (.inr (.inl rfl)))
  refine ret_of_x (N := 16) (l := [.pointer (some ⟨d, 0, none⟩)]) Try.func21 rfl rfl (Nat.le_of_ble_eq_true rfl) ?_
  refine x_seq ?_
  refine x_regionL ?_
  refine xl_v v_assign ?_
  refine xl_nil ?_
  refine x_seq ?_
  refine x_seq ?_
  refine x_regionL ?_
  refine xl_v v_move ?_
  refine xl_call (none_ok d mb ml G D M w (hD.ext (kpc : Keep NoB w w)) hS) ?_
  rintro _ _ ⟨rfl, rfl⟩
  refine xl_nil ?_
  refine x_condF ?_
  refine x_skip ?_
  refine x_seq ?_
  refine x_regionL ?_
  refine xl_v v_move ?_
  refine xl_v v_move ?_
  refine xl_v v_move ?_
  refine xl_v (by first | exact v_nilCheckP | exact v_nilCheckF) ?_
  refine xl_v (by first | exact v_fieldAddr | exact v_fieldAddrF (by decide) (by omega) | exact v_fieldAddrR (by first | assumption | rfl)) ?_
  refine xl_v (by first | exact v_loadA | exact v_loadF (by decide) (by omega)) ?_
  refine xl_call (copied_ok mb G D.cur w (hD.cur.ext (kpc : Keep NoB w w))) ?_
  rintro _ w2 ⟨⟨ml2, rfl, hF2, hg2⟩, lk1⟩
  have hgp := (Ge.le : w.heap.size ≤ (w).heap.size)
  refine xl_v (by first | exact v_nilCheckP | exact v_nilCheckF) ?_
  refine xl_v (by first | exact v_fieldAddr | exact v_fieldAddrF (by decide) (by omega) | exact v_fieldAddrR (by first | assumption | rfl)) ?_
  refine xl_s (e_storeA fun w3 l3 k3 => ?_)
  refine xl_v (by first | exact v_nilCheckP | exact v_nilCheckF) ?_
  refine xl_v (by first | exact v_fieldAddr | exact v_fieldAddrF (by decide) (by omega) | exact v_fieldAddrR (by first | assumption | rfl)) ?_
  refine xl_s (e_store fun w4 l4 k4 => ?_)
  refine xl_nil ?_
  refine x_seq ?_
  refine x_regionL ?_
  refine xl_v v_assign ?_
  refine xl_nil ?_
  refine x_ret ?_
  refine fin1 rfl ?_
  have K : Keep (OneB d) w w4 := kpc
  have hGd : ∀ k, G k → ¬ OneB d k := fun k e e2 => hD.gd (by have e2' : k = d := e2; exact e2' ▸ e)
  refine ⟨rfl, ⟨mb, ml2, G, ⟨D.room, D.cur, D.cur, [], none, 0⟩, ⟨by simpa using (Blk.eq : (w4).heap[d]? = _), hD.cur.keep K (fun e => hD.d1 (by have e' : mb = d := e; exact e'.symm)) hGd, hF2.keep (kpc : Keep (OneB d) _ w4) (fun e => by have e' : ml2 = d := e; omega) hGd, World.ownsRow_nil _ _ _ _, nofun, hD.d1, by omega, by omega, hD.gd, nofun⟩, ⟨hS.room, rfl, hS.cur, hS.cur, hS.ok.flush, ?_, nofun⟩, ?_, ?_⟩, lkc⟩
  · have := fold_len M.waits M.lasts
    have := hS.few
    show (M.waits.foldl done M.lasts).length + 0 ≤ 10000
    omega
  · intro k e
    obtain ⟨e1, e2⟩ := hP k e
    refine ⟨Nat.lt_of_lt_of_le e1 Ge.le, ?_⟩
    rintro ((e3 | e3 | e3 | ⟨a, ha, _⟩) | e3)
    · exact e2 (.inl (.inl e3))
    · exact e2 (.inl (.inr (.inl e3)))
    · omega
    · cases ha
    · exact e2 (.inr e3)
  · intro k e
    obtain ⟨e1, e2⟩ := hR k e
    refine ⟨Nat.lt_of_lt_of_le e1 Ge.le, ?_⟩
    rintro (e3 | e3 | e3 | ⟨a, ha, _⟩)
    · exact e2 (.inl e3)
    · exact e2 (.inr (.inl e3))
    · omega
    · cases ha

/-- (*waystation/disk.Disk).Read -/
theorem read_ok (P R : Nat → Prop) (d : Nat) (M : Disk) (name : ByteArray) (w : World) (h : DiskW P R d M w) : Ret Try.prog 26 #[.pointer (some ⟨d, 0, none⟩), .string name] w (fun v w' => (∃ A' c', v = .tuple #[.slice A' (readB M.files name).length c', .int .i64 (readNo M.files name)] ∧ w'.ownsRow w.heap.size 5 1 (.slice A' (readB M.files name).length c') (readB M.files name).length (bytesC (readB M.files name))) ∧ Lk w' w NoB) := by
  obtain ⟨mb, ml, G, D, hD, hS, hP, hR⟩ := h
  obtain ⟨hr1, hr2⟩ := there_read hS.cur name
  have hlen := there_len hD.cur.nodup name
  have hu := hS.used
  have hrow := there_row hD.cur name
  haveI : Row w (thereB D.cur name).A (bytesC (thereB D.cur name).bytes) := ⟨hrow.row⟩
  refine ret_of_x (N := 19) (l := [.pointer (some ⟨d, 0, none⟩), .string name]) Try.func26 rfl rfl (Nat.le_of_ble_eq_true rfl) ?_
  refine x_seq ?_
  refine x_regionL ?_
  refine xl_v v_assign ?_
  refine xl_v v_assign ?_
  refine xl_nil ?_
  refine x_seq ?_
  refine x_regionL ?_
  refine xl_v v_move ?_
  refine xl_v v_move ?_
  refine xl_v v_makeFunc ?_
  refine xl_v v_move ?_
  refine xl_call (there_ok d mb ml G D M name 48 mb D.cur w (hD.ext (kpc : Keep NoB w w)) hS (hD.cur.ext (kpc : Keep NoB w w)) (fun W l => stands_ok d mb ml G D W (hD.ext (kpc : Keep NoB w W)))) ?_
  rintro _ w1 ⟨rfl, lk1⟩
  refine xl_v v_move ?_
  refine xl_v v_extract ?_
  refine xl_v v_extract ?_
  refine xl_v v_assign ?_
  refine xl_v v_assign ?_
  refine xl_nil ?_
  refine x_seq ?_
  refine x_regionL ?_
  refine xl_v v_move ?_
  refine xl_call (cloneb_ok (thereB D.cur name).A (thereB D.cur name).bytes.length (thereB D.cur name).c (bytesC (thereB D.cur name).bytes) w1 (by simp) (by omega) (bytesC_one _) (nil_some hrow.row rfl)) ?_
  rintro _ w2 ⟨⟨A2, c2, rfl, ho2⟩, lk3⟩
  refine xl_v v_move ?_
  refine xl_v v_assign ?_
  refine xl_v v_assign ?_
  refine xl_nil ?_
  refine x_ret ?_
  refine fin2 rfl ?_
  rw [← hr1, ← hr2]
  exact ⟨⟨A2, c2, by simp [outV], own_mono (own_ext ho2 lkc) Ge.le⟩, lkc⟩

/-- (*waystation/disk.Disk).Lasts -/
theorem lasts_ok (P R : Nat → Prop) (d : Nat) (M : Disk) (name : ByteArray) (w : World) (h : DiskW P R d M w) : Ret Try.prog 30 #[.pointer (some ⟨d, 0, none⟩), .string name] w (fun v w' => (∃ A' c', v = .tuple #[.slice A' (readB M.lasts name).length c', .int .i64 (readNo M.lasts name)] ∧ w'.ownsRow w.heap.size 5 1 (.slice A' (readB M.lasts name).length c') (readB M.lasts name).length (bytesC (readB M.lasts name))) ∧ Lk w' w NoB) := by
  obtain ⟨mb, ml, G, D, hD, hS, hP, hR⟩ := h
  obtain ⟨hr1, hr2⟩ := there_read hS.las name
  have hlen := there_len hD.las.nodup name
  have hu := hS.used
  have hrow := there_row hD.las name
  haveI : Row w (thereB D.lasts name).A (bytesC (thereB D.lasts name).bytes) := ⟨hrow.row⟩
  refine ret_of_x (N := 19) (l := [.pointer (some ⟨d, 0, none⟩), .string name]) Try.func30 rfl rfl (Nat.le_of_ble_eq_true rfl) ?_
  refine x_seq ?_
  refine x_regionL ?_
  refine xl_v v_assign ?_
  refine xl_v v_assign ?_
  refine xl_nil ?_
  refine x_seq ?_
  refine x_regionL ?_
  refine xl_v v_move ?_
  refine xl_v v_move ?_
  refine xl_v v_makeFunc ?_
  refine xl_v v_move ?_
  refine xl_call (there_ok d mb ml G D M name 54 ml D.lasts w (hD.ext (kpc : Keep NoB w w)) hS (hD.las.ext (kpc : Keep NoB w w)) (fun W l => lasting_ok d mb ml G D W (hD.ext (kpc : Keep NoB w W)))) ?_
  rintro _ w1 ⟨rfl, lk1⟩
  refine xl_v v_move ?_
  refine xl_v v_extract ?_
  refine xl_v v_extract ?_
  refine xl_v v_assign ?_
  refine xl_v v_assign ?_
  refine xl_nil ?_
  refine x_seq ?_
  refine x_regionL ?_
  refine xl_v v_move ?_
  refine xl_call (cloneb_ok (thereB D.lasts name).A (thereB D.lasts name).bytes.length (thereB D.lasts name).c (bytesC (thereB D.lasts name).bytes) w1 (by simp) (by omega) (bytesC_one _) (nil_some hrow.row rfl)) ?_
  rintro _ w2 ⟨⟨A2, c2, rfl, ho2⟩, lk3⟩
  refine xl_v v_move ?_
  refine xl_v v_assign ?_
  refine xl_v v_assign ?_
  refine xl_nil ?_
  refine x_ret ?_
  refine fin2 rfl ?_
  rw [← hr1, ← hr2]
  exact ⟨⟨A2, c2, by simp [outV], own_mono (own_ext ho2 lkc) Ge.le⟩, lkc⟩

/-- (*waystation/disk.Disk).Waits -/
theorem waits_ok (P R : Nat → Prop) (d : Nat) (M : Disk) (w : World) (h : DiskW P R d M w) : Ret Try.prog 24 #[.pointer (some ⟨d, 0, none⟩)] w (fun v w' => v = .int .i64 (M.waits.length : Int) ∧ Lk w' w NoB) := by
  obtain ⟨mb, ml, G, D, hD, hS, hP, hR⟩ := h
  haveI hb : Blk w d _ := ⟨hD.hb⟩
  refine ret_of_x (N := 10) (l := [.pointer (some ⟨d, 0, none⟩)]) Try.func24 rfl rfl (Nat.le_of_ble_eq_true rfl) ?_
  refine x_seq ?_
  refine x_regionL ?_
  refine xl_v v_assign ?_
  refine xl_nil ?_
  refine x_seq ?_
  refine x_seq ?_
  refine x_regionL ?_
  refine xl_v v_move ?_
  refine xl_call (none_ok d mb ml G D M w (hD.ext (kpc : Keep NoB w w)) hS) ?_
  rintro _ _ ⟨rfl, rfl⟩
  refine xl_nil ?_
  refine x_condF ?_
  refine x_skip ?_
  refine x_seq ?_
  refine x_regionL ?_
  refine xl_v v_move ?_
  refine xl_v (by first | exact v_nilCheckP | exact v_nilCheckF) ?_
  refine xl_v (by first | exact v_fieldAddr | exact v_fieldAddrF (by decide) (by omega) | exact v_fieldAddrR (by first | assumption | rfl)) ?_
  refine xl_v (by first | exact v_load | exact v_loadO (by omega) | exact v_loadFf (by omega) | exact v_loadF0 (by omega)) ?_
  refine xl_v v_len ?_
  refine xl_v v_assign ?_
  refine xl_nil ?_
  refine x_ret ?_
  refine fin1 rfl ?_
  exact ⟨by rw [← hS.waits]; simp, lkc⟩

/-- (*waystation/disk.Disk).Used -/
theorem Used_ok (P R : Nat → Prop) (d : Nat) (M : Disk) (w : World) (h : DiskW P R d M w) : Ret Try.prog 16 #[.pointer (some ⟨d, 0, none⟩)] w (fun v w' => v = .int .i64 (usedB M.files : Int) ∧ Lk w' w NoB) := by
  obtain ⟨mb, ml, G, D, hD, hS, hP, hR⟩ := h
  haveI hb : Blk w d _ := ⟨hD.hb⟩
  have hu := hS.used
  refine ret_of_x (N := 10) (l := [.pointer (some ⟨d, 0, none⟩)]) Try.func16 rfl rfl (Nat.le_of_ble_eq_true rfl) ?_
  refine x_seq ?_
  refine x_regionL ?_
  refine xl_v v_assign ?_
  refine xl_nil ?_
  refine x_seq ?_
  refine x_seq ?_
  refine x_regionL ?_
  refine xl_v v_move ?_
  refine xl_call (none_ok d mb ml G D M w (hD.ext (kpc : Keep NoB w w)) hS) ?_
  rintro _ _ ⟨rfl, rfl⟩
  refine xl_nil ?_
  refine x_condF ?_
  refine x_skip ?_
  refine x_seq ?_
  refine x_regionL ?_
  refine xl_v v_move ?_
  refine xl_v (by first | exact v_nilCheckP | exact v_nilCheckF) ?_
  refine xl_v (by first | exact v_fieldAddr | exact v_fieldAddrF (by decide) (by omega) | exact v_fieldAddrR (by first | assumption | rfl)) ?_
  refine xl_v (by first | exact v_loadA | exact v_loadF (by decide) (by omega)) ?_
  refine xl_call (used_ok mb G D.cur w (hD.cur.ext (kpc : Keep NoB w w)) (by omega)) ?_
  rintro _ w2 ⟨rfl, lk2⟩
  refine xl_v v_assign ?_
  refine xl_nil ?_
  refine x_ret ?_
  refine fin1 rfl ?_
  exact ⟨by rw [hS.cur.used], lkc⟩
end Go.Proofs.Ytabknhgbijcklaa
