/-
  Walks, printed by a program of this workplace (wip/tools/sx.py) off the functions' code and a text of contracts.
-/
import Derived.Test.YtabknhgbijcklaaS
set_option linter.all false
set_option maxRecDepth 100000
set_option synthInstance.maxSize 100000
set_option synthInstance.maxHeartbeats 400000
namespace Go.Proofs.Ytabknhgbijcklaa
open Go.Wst
open Go.Wst.Dm
theorem crash_keep {M : Disk} {keep torn : Int} (h : ∀ t, M.waits[pickN keep M.waits.length]? = some t → ¬ (t.what = 0 ∧ 0 < pickN torn t.bytes.length)) : M.crash keep torn = ⟨M.room, (M.waits.take (pickN keep M.waits.length)).foldl Dm.done M.lasts, []⟩ := by
  unfold Disk.crash
  dsimp only
  split
  · rfl
  · next t ht => rw [if_neg (h t ht)]
theorem crash_torn {M : Disk} {keep torn : Int} {t : Thing} (ht : M.waits[pickN keep M.waits.length]? = some t) (h : t.what = 0 ∧ 0 < pickN torn t.bytes.length) : M.crash keep torn = ⟨M.room, Dm.done ((M.waits.take (pickN keep M.waits.length)).foldl Dm.done M.lasts) (tornT t (pickN torn t.bytes.length)), []⟩ := by
  unfold Disk.crash
  dsimp only
  rw [ht]
  dsimp only
  rw [if_pos h]
theorem crash_len (M : Disk) (keep torn : Int) : (M.crash keep torn).lasts.length ≤ M.lasts.length + M.waits.length := by
  have h0 := fold_len (M.waits.take (pickN keep M.waits.length)) M.lasts
  have h1 : (M.waits.take (pickN keep M.waits.length)).length ≤ pickN keep M.waits.length := by simp; omega
  have h2 := pickN_le keep M.waits.length
  by_cases h : ∀ t, M.waits[pickN keep M.waits.length]? = some t → ¬ (t.what = 0 ∧ 0 < pickN torn t.bytes.length)
  · rw [crash_keep h]
    show ((M.waits.take (pickN keep M.waits.length)).foldl Dm.done M.lasts).length ≤ _
    omega
  · have ⟨t, ht⟩ := Classical.not_forall.1 h
    have ⟨ht2, h3⟩ := Classical.not_imp.1 ht
    rw [crash_torn ht2 (Classical.not_not.1 h3)]
    have h4 := (List.getElem?_eq_some_iff.1 ht2).1
    have h5 := done_len ((M.waits.take (pickN keep M.waits.length)).foldl Dm.done M.lasts) (tornT t (pickN torn t.bytes.length))
    show (Dm.done ((M.waits.take (pickN keep M.waits.length)).foldl Dm.done M.lasts) (tornT t (pickN torn t.bytes.length))).length ≤ _
    omega
theorem RefS.crashed {R : LRef} {M : Disk} {keep torn : Int} {l : List (ByteArray × LB)} {A : Option Addr} {c : Nat} (hs : RefS R M) (hl : fsP l = (M.crash keep torn).lasts) : RefS ⟨R.room, l, A, c, [], none, 0⟩ (M.crash keep torn) := by
  obtain ⟨h1, h2⟩ := crash_shape M keep torn
  have h3 := crash_len M keep torn
  have h4 := hs.few
  exact ⟨hs.room.trans h1.symm, hl, by rw [h2]; rfl, hs.ok.crash keep torn, by rw [h2]; simp; omega, by rw [h2]; nofun⟩
theorem RefAt.lasting {W : World} {F : Nat → Prop} {l : List (ByteArray × LB)} {A : Option Addr} {c : Nat} {room : Int} (h : FsRow W F A l) : RefAt W F ⟨room, l, A, c, [], none, 0⟩ := ⟨h, FRow.nil _ _, nofun, nofun, Nat.le_refl _⟩
theorem RefS.flushed {R : LRef} {M : Disk} {l : List (ByteArray × LB)} {A : Option Addr} {c : Nat} (hs : RefS R M) (hl : fsP l = M.files) : RefS ⟨R.room, l, A, c, [], none, 0⟩ M.flush :=
  ⟨hs.room, hl, rfl, hs.ok.flush, by have := files_len hs.few; show M.files.length + 0 ≤ 10000; omega, nofun⟩
theorem RefAt.take {W : World} {F : Nat → Prop} {R : LRef} (h : RefAt W F R) (k : Nat) : RefAt W F ⟨R.room, R.lasts, R.A, R.c, R.waits.take k, R.B, R.e⟩ :=
  ⟨h.lasts, ⟨fun j v hv => h.row.row j v (by
    have e : R.waits.flatMap thC = (R.waits.take k).flatMap thC ++ (R.waits.drop k).flatMap thC := by rw [← List.flatMap_append, List.take_append_drop]
    obtain ⟨hj, e2⟩ := List.getElem?_eq_some_iff.1 hv
    rw [e, List.getElem?_append_left hj]; exact hv), h.row.blk⟩, fun x hx => h.items x (List.mem_of_mem_take hx), fun x hx => h.caps x (List.mem_of_mem_take hx), by have := h.cap; simp; omega⟩
theorem RefS.take {R : LRef} {M : Disk} (h : RefS R M) (k : Nat) : RefS ⟨R.room, R.lasts, R.A, R.c, R.waits.take k, R.B, R.e⟩ ⟨M.room, M.lasts, M.waits.take k⟩ :=
  ⟨h.room, h.lasts, by simp [h.waits, List.map_take], ⟨h.ok.one, h.ok.most, h.ok.rise, h.ok.names, h.ok.good.take k⟩, by have := h.few; simp; omega, fun t ht => h.lens t (List.mem_of_mem_take ht)⟩
theorem reffilesT_ok (R : LRef) (M : Disk) (F : Nat → Prop) (k : Nat) (w : World) (h : RefAt w F R) (hs : RefS R M) (hk : k ≤ R.waits.length) :
    Ret Try.prog 29 #[.agg #[.int .i64 R.room, .slice R.A R.lasts.length R.c, .slice R.B k R.e]] w (fun v w' => (∃ (A' : Option Addr) (c' : Nat) (l : List (ByteArray × LB)) (F' : Nat → Prop), v = .slice A' l.length c' ∧ fsP l = (M.waits.take k).foldl Dm.done M.lasts ∧ FsRow w' F' A' l ∧ ∀ k, F' k → F k ∨ w.heap.size ≤ k) ∧ Lk w' w NoB) := by
  have := reffiles_ok _ _ F w (h.take k) (hs.take k)
  have e : (R.waits.take k).length = k := by simp; omega
  simp only [e, refC] at this
  exact this
theorem doneT_ok (A : Option Addr) (c : Nat) (l : List (ByteArray × LB)) (F : Nat → Prop) (x : LT) (n : Nat) (w : World) (h : FsRow w F A l) (hx : RowP w x.A (bytesC x.t.bytes)) (hn : n ≤ x.t.bytes.length) (h0 : x.t.what = 0) (hl : l.length ≤ 1000000) (hb : x.t.bytes.length ≤ 16777216) (hu : usedB (fsP l) ≤ 16777216) (hnd : ((fsP l).map (·.1)).Nodup) :
    Ret Try.prog 53 #[.slice A l.length c, .agg #[.int .i64 x.t.what, .string x.t.name, .slice x.A n x.c, .int .i64 x.t.n]] w (fun v w' => (∃ (A' : Option Addr) (c' : Nat) (l' : List (ByteArray × LB)) (F' : Nat → Prop), v = .slice A' l'.length c' ∧ fsP l' = Dm.done (fsP l) (tornT x.t n) ∧ FsRow w' F' A' l' ∧ ∀ k, F' k → F k ∨ w.heap.size ≤ k) ∧ Lk w' w NoB) := by
  have e : (x.t.bytes.take n).length = n := by simp; omega
  have := done_ok A c l F ⟨tornT x.t n, x.A, x.c⟩ w h (rowP_bytes _ hx) (.inl h0) (fun h1 => by have e : x.t.what = 1 := h1; omega) hl (by show (x.t.bytes.take n).length ≤ _; omega) hu hnd
  simp only [thC, tornT, e] at this
  exact this

/-- (waystation/waystationref03.Disk).Flush -/
theorem refflush_ok (R : LRef) (M : Disk) (F : Nat → Prop) (w : World) (h : RefAt w F R) (hs : RefS R M) : Ret Try.prog 39 #[.agg (refC R).toArray] w (fun v w' => (∃ (R' : LRef) (F' : Nat → Prop), v = .agg (refC R').toArray ∧ RefS R' M.flush ∧ RefAt w' F' R' ∧ ∀ k, F' k → F k ∨ w.heap.size ≤ k) ∧ Lk w' w NoB) := by
  refine ret_of_x (N := 8) (l := [.agg (refC R).toArray]) Try.func39 rfl rfl (Nat.le_of_ble_eq_true rfl) ?_
  refine x_seq ?_
  refine x_regionL ?_
  refine xl_e (e_box fun b1 w1 n1 l1 k1 => ?_)
  refine xl_e (e_alloc fun b2 w2 n2 l2 k2 => ?_)
  refine xl_nil ?_
  refine x_seq ?_
  refine x_regionL ?_
  refine xl_v (by first | exact v_loadA | exact v_loadF (by decide) (by omega)) ?_
  refine xl_call (reffiles_ok R M F w2 (h.ext (kpc : Keep NoB w w2)) hs) ?_
  rintro _ w3 ⟨⟨A6, c6, q6, F6, rfl, hf6, hr6, hF6⟩, lk1⟩
  have hgp := (Ge.le : w.heap.size ≤ (w2).heap.size)
  have hb12 : (w.heap.size ≤ b1 ∧ b1 < (w2).heap.size) ∧ (w.heap.size ≤ b2 ∧ b2 < (w2).heap.size) := ⟨⟨by rw [n1.eq]; exact Ge.le, Has.lt⟩, ⟨by rw [n2.eq]; exact Ge.le, Has.lt⟩⟩
  have hFo : ∀ j, F6 j → ¬ (j = b1 ∨ j = b2) := fun j e e2 => by
    rcases hF6 j e with e3 | e3
    · have := h.lt j e3; omega
    · omega
  refine xl_v (by first | exact v_fieldAddr | exact v_fieldAddrF (by decide) (by omega) | exact v_fieldAddrR (by first | assumption | rfl)) ?_
  refine xl_s (e_store fun w4 l4 k4 => ?_)
  refine xl_v (by first | exact v_fieldAddr | exact v_fieldAddrF (by decide) (by omega) | exact v_fieldAddrR (by first | assumption | rfl)) ?_
  refine xl_s (e_store fun w5 l5 k5 => ?_)
  refine xl_nil ?_
  refine x_seq ?_
  refine x_regionL ?_
  refine xl_v (by first | exact v_loadA | exact v_loadF (by decide) (by omega)) ?_
  refine xl_s (e_storeA fun w6 l6 k6 => ?_)
  refine xl_nil ?_
  refine x_ret ?_
  refine finR (rs := [.cell 2 54]) rfl ?_
  exact ⟨⟨⟨R.room, q6, A6, c6, [], none, 0⟩, F6, by simp [outV], hs.flushed hf6, RefAt.lasting (hr6.keep (kpc : Keep (fun j => OneB b1 j ∨ OneB b2 j) _ w6) hFo), fun k e => (hF6 k e).imp id (fun e => by omega)⟩, lkc⟩

/-- waystation/waystationref03.Pick -/
theorem refpick_ok (k : Int) (n : Nat) (w : World) (hk : In64 k) (hn : n ≤ 100000000) : Ret Try.prog 55 #[.int .i64 k, .int .i64 n] w (fun v w' => v = .int .i64 (pickN k n : Int) ∧ w = w') := by
  have h1 : -((n : Int) + 1) < k.tmod (n + 1) := Int.lt_tmod_of_pos k (by omega)
  have h2 : k.tmod (n + 1) < (n : Int) + 1 := Int.tmod_lt_of_pos k (by omega)
  refine ret_of_x (N := 16) (l := [.int .i64 k, .int .i64 n]) Try.func55 rfl rfl (Nat.le_of_ble_eq_true rfl) ?_
  refine x_seq ?_
  refine x_regionL ?_
  refine xl_v v_assign ?_
  refine xl_nil ?_
  refine x_seq ?_
  refine x_regionL ?_
  refine xl_v v_move ?_
  refine xl_v v_move ?_
  refine xl_v (v_add (by omega)) ?_
  refine xl_v (v_rem (by omega)) ?_
  refine xl_v v_assign ?_
  refine xl_nil ?_
  refine x_seq ?_
  refine x_seq ?_
  refine x_regionL ?_
  refine xl_v v_move ?_
  refine xl_v v_lss ?_
  refine xl_nil ?_
  first | refine x_condP (fun c1 => ?_) (fun c1 => ?_) | refine x_condN (fun c1 => ?_) (fun c1 => ?_) | refine x_condE (fun c1 => ?_) (fun c1 => ?_)
  ·
    refine x_regionL ?_
    refine xl_v v_move ?_
    refine xl_v v_move ?_
    refine xl_v (v_add (by omega)) ?_
    refine xl_v (v_add (by omega)) ?_
    refine xl_v v_assign ?_
    refine xl_nil ?_
    refine x_seq ?_
    refine x_regionL ?_
    refine xl_v v_move ?_
    refine xl_v v_assign ?_
    refine xl_nil ?_
    refine x_ret ?_
    refine fin1 rfl ?_
    refine ⟨congrArg (Value.int .i64) ?_, rfl⟩
    unfold pickN
    first
      | (rw [if_pos c1]; omega)
      | (rw [if_neg c1]; omega)
  ·
    refine x_skip ?_
    refine x_seq ?_
    refine x_regionL ?_
    refine xl_v v_move ?_
    refine xl_v v_assign ?_
    refine xl_nil ?_
    refine x_ret ?_
    refine fin1 rfl ?_
    refine ⟨congrArg (Value.int .i64) ?_, rfl⟩
    unfold pickN
    first
      | (rw [if_pos c1]; omega)
      | (rw [if_neg c1]; omega)

/-- (waystation/waystationref03.Disk).Crash -/
theorem refcrash_ok (R : LRef) (M : Disk) (F : Nat → Prop) (keep torn : Int) (w : World) (h : RefAt w F R) (hs : RefS R M) (hkp : In64 keep) (htn : In64 torn) : Ret Try.prog 32 #[.agg (refC R).toArray, .int .i64 keep, .int .i64 torn] w (fun v w' => (∃ (R' : LRef) (F' : Nat → Prop), v = .agg (refC R').toArray ∧ RefS R' (M.crash keep torn) ∧ RefAt w' F' R' ∧ ∀ k, F' k → F k ∨ w.heap.size ≤ k) ∧ Lk w' w NoB) := by
  haveI hrB : RowB w R.B w (R.waits.flatMap thC) := rowB_of h.row.row
  have hwl := hs.len
  have hll := hs.llen
  have hmost := hs.ok.most
  have hfew := hs.few
  have hcap := h.cap
  have hpk := pickN_le keep R.waits.length
  obtain ⟨kk, hkk⟩ : ∃ kk, kk = pickN keep R.waits.length := ⟨_, rfl⟩
  rw [← hkk] at hpk
  have hkm : pickN keep M.waits.length = kk := by rw [hkk, hwl]
  refine ret_of_x (N := 74) (l := [.agg (refC R).toArray, .int .i64 keep, .int .i64 torn]) Try.func32 rfl rfl (Nat.le_of_ble_eq_true rfl) ?_
  refine x_seq ?_
  refine x_regionL ?_
  refine xl_e (e_box fun b1 w1 n1 l1 k1 => ?_)
  refine xl_e (e_alloc fun b2 w2 n2 l2 k2 => ?_)
  refine xl_nil ?_
  refine x_seq ?_
  refine x_regionL ?_
  refine xl_v v_move ?_
  refine xl_v (by first | exact v_fieldAddr | exact v_fieldAddrF (by decide) (by omega) | exact v_fieldAddrR (by first | assumption | rfl)) ?_
  refine xl_v (by first | exact v_load | exact v_loadO (by omega) | exact v_loadFf (by omega) | exact v_loadF0 (by omega)) ?_
  refine xl_v v_len ?_
  refine xl_call (refpick_ok keep R.waits.length w2 hkp (by omega)) ?_
  rintro _ _ ⟨rfl, rfl⟩
  refine xl_v v_assign ?_
  refine xl_nil ?_
  rw [← hkk]
  refine x_seq ?_
  refine x_drawL (NoB) (.take 0 (.take 1 (.take 2 (.take 3 (.take 4 (.take 5 (.take 6 (.take 7 (.take 8 (.eff 9 (.take 10 .done))))))))))) mixed (by kernel_rfl) (fun _ _ _ _ _ h => h) (fun w4 l4 => ?_)
  refine xt_v rfl (by first | exact v_fieldAddr | exact v_fieldAddrF (by decide) (by omega) | exact v_fieldAddrR (by first | assumption | rfl)) ?_
  refine xt_v rfl (by first | exact v_load | exact v_loadO (by omega) | exact v_loadFf (by omega) | exact v_loadF0 (by omega)) ?_
  refine xt_v rfl (by first | exact v_fieldAddr | exact v_fieldAddrF (by decide) (by omega) | exact v_fieldAddrR (by first | assumption | rfl)) ?_
  refine xt_v rfl (by first | exact v_load | exact v_loadO (by omega) | exact v_loadFf (by omega) | exact v_loadF0 (by omega)) ?_
  refine xt_v rfl (by first | exact v_fieldAddr | exact v_fieldAddrF (by decide) (by omega) | exact v_fieldAddrR (by first | assumption | rfl)) ?_
  refine xt_v rfl (by first | exact v_load | exact v_loadO (by omega) | exact v_loadFf (by omega) | exact v_loadF0 (by omega)) ?_
  refine xt_v rfl v_move ?_
  refine xt_v rfl (v_sliceH kk rfl (by omega)) ?_
  refine xt_v rfl v_build ?_
  refine xt_call rfl (reffilesT_ok R M F kk w4 (h.ext (kpc : Keep NoB w w4)) hs hpk) ?_
  rintro _ w5 ⟨⟨A6, c6, q6, F6, rfl, hf6, hr6, hF6⟩, lk1⟩
  refine ⟨kpc, ?_⟩
  have hgp := (Ge.le : w.heap.size ≤ (w4).heap.size)
  have hb2p : b2 < (w4).heap.size := Has.lt
  refine xt_v rfl v_assign ?_
  refine xt_nil ?_
  have hb2w : w.heap.size ≤ b2 ∧ b2 < (w5).heap.size := ⟨by rw [n2.eq]; exact Ge.le, Has.lt⟩
  have hFo : ∀ j, F6 j → ¬ OneB b2 j := fun j e e2 => by
    have e2' : j = b2 := e2
    rcases hF6 j e with e3 | e3
    · have := h.lt j e3; omega
    · omega
  refine x_seq ?_
  refine x_seq ?_
  refine x_regionL ?_
  refine xl_v v_move ?_
  refine xl_v (by first | exact v_fieldAddr | exact v_fieldAddrF (by decide) (by omega) | exact v_fieldAddrR (by first | assumption | rfl)) ?_
  refine xl_v (by first | exact v_load | exact v_loadO (by omega) | exact v_loadFf (by omega) | exact v_loadF0 (by omega)) ?_
  refine xl_v v_len ?_
  refine xl_v v_lss ?_
  refine xl_v v_move ?_
  refine xl_split 31 (fun g31 => ?_) (fun g31 => ?_)
  ·
    have hk1 : kk < R.waits.length := by
      have := of_decide_eq_true g31
      omega
    have hgt := hs.get hk1
    have hgd := good_at hs.ok.good hgt
    have hbl := hs.lens _ (List.mem_of_getElem? hgt)
    have hcx := h.caps _ (List.getElem_mem hk1)
    refine xl_gv rfl EvO.eq (by first | exact v_fieldAddr | exact v_fieldAddrF (by decide) (by omega) | exact v_fieldAddrR (by first | assumption | rfl)) ?_
    refine xl_gv rfl EvO.eq (by first | exact v_load | exact v_loadO (by omega) | exact v_loadFf (by omega) | exact v_loadF0 (by omega)) ?_
    refine xl_gv rfl EvO.eq v_move ?_
    refine xl_gv rfl EvO.eq (v_indexF kk (by decide) rfl (by omega) hk1) ?_
    refine xl_gv rfl EvO.eq (by first | exact v_fieldAddr | exact v_fieldAddrF (by decide) (by omega) | exact v_fieldAddrR (by first | assumption | rfl)) ?_
    refine xl_gv rfl EvO.eq (v_loadF0 hk1) ?_
    refine xl_gv rfl EvO.eq v_eql ?_
    refine xl_v (by first | exact v_pickT | exact v_pickF | exact v_pick) ?_
    refine xl_v v_move ?_
    refine xl_split 40 (fun g40 => ?_) (fun g40 => ?_)
    ·
      refine xl_gv rfl EvO.eq (by first | exact v_fieldAddr | exact v_fieldAddrF (by decide) (by omega) | exact v_fieldAddrR (by first | assumption | rfl)) ?_
      refine xl_gv rfl EvO.eq (by first | exact v_load | exact v_loadO (by omega) | exact v_loadFf (by omega) | exact v_loadF0 (by omega)) ?_
      refine xl_gv rfl EvO.eq v_move ?_
      refine xl_gv rfl EvO.eq (v_indexF kk (by decide) rfl (by omega) hk1) ?_
      refine xl_gv rfl EvO.eq (by first | exact v_fieldAddr | exact v_fieldAddrF (by decide) (by omega) | exact v_fieldAddrR (by first | assumption | rfl)) ?_
      refine xl_gv rfl EvO.eq (v_loadFf hk1) ?_
      refine xl_gv rfl EvO.eq v_len ?_
      refine xl_gv rfl EvO.eq v_gtr ?_
      refine xl_v (by first | exact v_pickT | exact v_pickF | exact v_pick) ?_
      refine xl_nil ?_
      first | refine x_condP (fun c1 => ?_) (fun c1 => ?_) | refine x_condN (fun c1 => ?_) (fun c1 => ?_) | refine x_condE (fun c1 => ?_) (fun c1 => ?_)
      ·
        refine x_seq ?_
        refine x_regionL ?_
        refine xl_v (by first | exact v_fieldAddr | exact v_fieldAddrF (by decide) (by omega) | exact v_fieldAddrR (by first | assumption | rfl)) ?_
        refine xl_v (by first | exact v_load | exact v_loadO (by omega) | exact v_loadFf (by omega) | exact v_loadF0 (by omega)) ?_
        refine xl_v v_move ?_
        refine xl_v (v_indexF kk (by decide) rfl (by omega) hk1) ?_
        refine xl_v (by first | exact v_loadA | exact v_loadF (by decide) (by omega)) ?_
        refine xl_e (e_alloc fun b9 w6 n9 l9 k9 => ?_)
        refine xl_s (e_storeA fun w7 l7 k7 => ?_)
        refine xl_nil ?_
        refine x_seq ?_
        refine x_regionL ?_
        refine xl_v v_move ?_
        refine xl_v (by first | exact v_fieldAddr | exact v_fieldAddrF (by decide) (by omega) | exact v_fieldAddrR (by first | assumption | rfl)) ?_
        refine xl_v (by first | exact v_load | exact v_loadO (by omega) | exact v_loadFf (by omega) | exact v_loadF0 (by omega)) ?_
        refine xl_v v_len ?_
        refine xl_call (refpick_ok torn R.waits[kk].t.bytes.length w7 htn (by omega)) ?_
        rintro _ _ ⟨rfl, rfl⟩
        refine xl_v v_assign ?_
        refine xl_nil ?_
        have hpt := pickN_le torn R.waits[kk].t.bytes.length
        have h0 : R.waits[kk].t.what = 0 := by simpa using g40
        refine x_seq ?_
        refine x_regionL ?_
        refine xl_v v_move ?_
        refine xl_v v_gtr ?_
        refine xl_nil ?_
        first | refine x_condP (fun c2 => ?_) (fun c2 => ?_) | refine x_condN (fun c2 => ?_) (fun c2 => ?_) | refine x_condE (fun c2 => ?_) (fun c2 => ?_)
        ·
          refine x_seq ?_
          refine x_regionL ?_
          refine xl_v (by first | exact v_fieldAddr | exact v_fieldAddrF (by decide) (by omega) | exact v_fieldAddrR (by first | assumption | rfl)) ?_
          refine xl_v (by first | exact v_load | exact v_loadO (by omega) | exact v_loadFf (by omega) | exact v_loadF0 (by omega)) ?_
          refine xl_v v_move ?_
          refine xl_v (v_sliceH (pickN torn R.waits[kk].t.bytes.length) rfl (by omega)) ?_
          refine xl_v (by first | exact v_fieldAddr | exact v_fieldAddrF (by decide) (by omega) | exact v_fieldAddrR (by first | assumption | rfl)) ?_
          refine xl_s (e_store fun w9 l9 k9 => ?_)
          refine xl_nil ?_
          have hgs := hs.ok.good.take kk
          have hl8 : q6.length ≤ 1000000 := by
            rw [← fsP_len, hf6]
            have h5 := fold_len (M.waits.take kk) M.lasts
            have h6 : (M.waits.take kk).length ≤ kk := by simp; omega
            omega
          refine x_regionL ?_
          refine xl_v v_move ?_
          refine xl_v (by first | exact v_loadA | exact v_loadF (by decide) (by omega)) ?_
          refine xl_call (doneT_ok A6 c6 q6 F6 R.waits[kk] (pickN torn R.waits[kk].t.bytes.length) w9 (hr6.ext (kpc : Keep NoB _ w9)) ((h.items _ (List.getElem_mem hk1)).keep (kpc : Keep NoB w w9) (fun _ _ h => h)).row hpt h0 hl8 hbl (by rw [hf6]; have := hgs.fold; omega) (by rw [hf6]; exact (hgs.rise hs.ok.rise).nodup)) ?_
          rintro _ w10 ⟨⟨A8, c8, q8, F8, rfl, hf8, hr8, hF8⟩, lk8⟩
          have hgp8 := (Ge.le : w.heap.size ≤ (w9).heap.size)
          have hb2p8 : b2 < (w9).heap.size := Has.lt
          refine xl_v v_assign ?_
          refine xl_nil ?_
          refine x_seq ?_
          refine x_regionL ?_
          refine xl_v (by first | exact v_fieldAddr | exact v_fieldAddrF (by decide) (by omega) | exact v_fieldAddrR (by first | assumption | rfl)) ?_
          refine xl_v (by first | exact v_load | exact v_loadO (by omega) | exact v_loadFf (by omega) | exact v_loadF0 (by omega)) ?_
          refine xl_v v_move ?_
          refine xl_v v_build ?_
          refine xl_s (e_storeA fun w11 l11 k11 => ?_)
          refine xl_nil ?_
          refine x_ret ?_
          refine finR (rs := [.cell 6 54]) rfl ?_
          first
          | (refine ⟨⟨⟨R.room, q8, A8, c8, [], none, 0⟩, F8, by simp [outV], hs.crashed ?_, RefAt.lasting (hr8.keep (kpc : Keep (OneB b2) _ w11) (fun j e => (hF8 j e).elim (hFo j) (fun e2 e3 => by have e3' : j = b2 := e3; omega))), fun k e => ?_⟩, lkc⟩
             · rw [crash_torn (by rw [hkm]; exact hgt) ⟨h0, by omega⟩, hkm, hf8, hf6]
             · rcases hF8 k e with e | e
               · exact (hF6 k e).imp id (fun e => by omega)
               · exact .inr (by omega))
          | (refine ⟨⟨⟨R.room, q6, A6, c6, [], none, 0⟩, F6, by simp [outV], hs.crashed ?_, RefAt.lasting (hr6.keep (kpc : Keep (OneB b2) _ w11) hFo), fun k e => (hF6 k e).imp id (fun e => by omega)⟩, lkc⟩
             rw [crash_keep, hkm, hf6]
             rw [hkm]
             rintro t ht ⟨z1, z2⟩
             obtain ⟨q1, q2⟩ := List.getElem?_eq_some_iff.1 ht
             have hkx : kk < R.waits.length := by omega
             have e : t = R.waits[kk].t := by
               have := hs.get hkx
               rw [ht] at this
               exact Option.some.inj this
             subst e
             have hpt9 := pickN_le torn R.waits[kk].t.bytes.length
             first
               | (have := of_decide_eq_false g31; omega)
               | (simp [z1] at g40; done)
               | omega
               | (simp at c1; omega))
        ·
          refine x_skip ?_
          refine x_seq ?_
          refine x_regionL ?_
          refine xl_v (by first | exact v_fieldAddr | exact v_fieldAddrF (by decide) (by omega) | exact v_fieldAddrR (by first | assumption | rfl)) ?_
          refine xl_v (by first | exact v_load | exact v_loadO (by omega) | exact v_loadFf (by omega) | exact v_loadF0 (by omega)) ?_
          refine xl_v v_move ?_
          refine xl_v v_build ?_
          refine xl_s (e_storeA fun w12 l12 k12 => ?_)
          refine xl_nil ?_
          refine x_ret ?_
          refine finR (rs := [.cell 6 54]) rfl ?_
          first
          | (refine ⟨⟨⟨R.room, q8, A8, c8, [], none, 0⟩, F8, by simp [outV], hs.crashed ?_, RefAt.lasting (hr8.keep (kpc : Keep (OneB b2) _ w12) (fun j e => (hF8 j e).elim (hFo j) (fun e2 e3 => by have e3' : j = b2 := e3; omega))), fun k e => ?_⟩, lkc⟩
             · rw [crash_torn (by rw [hkm]; exact hgt) ⟨h0, by omega⟩, hkm, hf8, hf6]
             · rcases hF8 k e with e | e
               · exact (hF6 k e).imp id (fun e => by omega)
               · exact .inr (by omega))
          | (refine ⟨⟨⟨R.room, q6, A6, c6, [], none, 0⟩, F6, by simp [outV], hs.crashed ?_, RefAt.lasting (hr6.keep (kpc : Keep (OneB b2) _ w12) hFo), fun k e => (hF6 k e).imp id (fun e => by omega)⟩, lkc⟩
             rw [crash_keep, hkm, hf6]
             rw [hkm]
             rintro t ht ⟨z1, z2⟩
             obtain ⟨q1, q2⟩ := List.getElem?_eq_some_iff.1 ht
             have hkx : kk < R.waits.length := by omega
             have e : t = R.waits[kk].t := by
               have := hs.get hkx
               rw [ht] at this
               exact Option.some.inj this
             subst e
             have hpt9 := pickN_le torn R.waits[kk].t.bytes.length
             first
               | (have := of_decide_eq_false g31; omega)
               | (simp [z1] at g40; done)
               | omega
               | (simp at c1; omega))
      ·
        refine x_skip ?_
        refine x_seq ?_
        refine x_regionL ?_
        refine xl_v (by first | exact v_fieldAddr | exact v_fieldAddrF (by decide) (by omega) | exact v_fieldAddrR (by first | assumption | rfl)) ?_
        refine xl_v (by first | exact v_load | exact v_loadO (by omega) | exact v_loadFf (by omega) | exact v_loadF0 (by omega)) ?_
        refine xl_v v_move ?_
        refine xl_v v_build ?_
        refine xl_s (e_storeA fun w13 l13 k13 => ?_)
        refine xl_nil ?_
        refine x_ret ?_
        refine finR (rs := [.cell 6 54]) rfl ?_
        first
        | (refine ⟨⟨⟨R.room, q8, A8, c8, [], none, 0⟩, F8, by simp [outV], hs.crashed ?_, RefAt.lasting (hr8.keep (kpc : Keep (OneB b2) _ w13) (fun j e => (hF8 j e).elim (hFo j) (fun e2 e3 => by have e3' : j = b2 := e3; omega))), fun k e => ?_⟩, lkc⟩
           · rw [crash_torn (by rw [hkm]; exact hgt) ⟨h0, by omega⟩, hkm, hf8, hf6]
           · rcases hF8 k e with e | e
             · exact (hF6 k e).imp id (fun e => by omega)
             · exact .inr (by omega))
        | (refine ⟨⟨⟨R.room, q6, A6, c6, [], none, 0⟩, F6, by simp [outV], hs.crashed ?_, RefAt.lasting (hr6.keep (kpc : Keep (OneB b2) _ w13) hFo), fun k e => (hF6 k e).imp id (fun e => by omega)⟩, lkc⟩
           rw [crash_keep, hkm, hf6]
           rw [hkm]
           rintro t ht ⟨z1, z2⟩
           obtain ⟨q1, q2⟩ := List.getElem?_eq_some_iff.1 ht
           have hkx : kk < R.waits.length := by omega
           have e : t = R.waits[kk].t := by
             have := hs.get hkx
             rw [ht] at this
             exact Option.some.inj this
           subst e
           have hpt9 := pickN_le torn R.waits[kk].t.bytes.length
           first
             | (have := of_decide_eq_false g31; omega)
             | (simp [z1] at g40; done)
             | omega
             | (simp at c1; omega))
    ·
      refine xl_gs rfl EvO.eq ?_
      refine xl_gs rfl EvO.eq ?_
      refine xl_gs rfl EvO.eq ?_
      refine xl_gs rfl EvO.eq ?_
      refine xl_gs rfl EvO.eq ?_
      refine xl_gs rfl EvO.eq ?_
      refine xl_gs rfl EvO.eq ?_
      refine xl_gs rfl EvO.eq ?_
      refine xl_v (by first | exact v_pickT | exact v_pickF | exact v_pick) ?_
      refine xl_nil ?_
      refine x_condF ?_
      refine x_skip ?_
      refine x_seq ?_
      refine x_regionL ?_
      refine xl_v (by first | exact v_fieldAddr | exact v_fieldAddrF (by decide) (by omega) | exact v_fieldAddrR (by first | assumption | rfl)) ?_
      refine xl_v (by first | exact v_load | exact v_loadO (by omega) | exact v_loadFf (by omega) | exact v_loadF0 (by omega)) ?_
      refine xl_v v_move ?_
      refine xl_v v_build ?_
      refine xl_s (e_storeA fun w14 l14 k14 => ?_)
      refine xl_nil ?_
      refine x_ret ?_
      refine finR (rs := [.cell 6 54]) rfl ?_
      first
      | (refine ⟨⟨⟨R.room, q8, A8, c8, [], none, 0⟩, F8, by simp [outV], hs.crashed ?_, RefAt.lasting (hr8.keep (kpc : Keep (OneB b2) _ w14) (fun j e => (hF8 j e).elim (hFo j) (fun e2 e3 => by have e3' : j = b2 := e3; omega))), fun k e => ?_⟩, lkc⟩
         · rw [crash_torn (by rw [hkm]; exact hgt) ⟨h0, by omega⟩, hkm, hf8, hf6]
         · rcases hF8 k e with e | e
           · exact (hF6 k e).imp id (fun e => by omega)
           · exact .inr (by omega))
      | (refine ⟨⟨⟨R.room, q6, A6, c6, [], none, 0⟩, F6, by simp [outV], hs.crashed ?_, RefAt.lasting (hr6.keep (kpc : Keep (OneB b2) _ w14) hFo), fun k e => (hF6 k e).imp id (fun e => by omega)⟩, lkc⟩
         rw [crash_keep, hkm, hf6]
         rw [hkm]
         rintro t ht ⟨z1, z2⟩
         obtain ⟨q1, q2⟩ := List.getElem?_eq_some_iff.1 ht
         have hkx : kk < R.waits.length := by omega
         have e : t = R.waits[kk].t := by
           have := hs.get hkx
           rw [ht] at this
           exact Option.some.inj this
         subst e
         have hpt9 := pickN_le torn R.waits[kk].t.bytes.length
         first
           | (have := of_decide_eq_false g31; omega)
           | (simp [z1] at g40; done)
           | omega
           | (simp at c1; omega))
  ·
    refine xl_gs rfl EvO.eq ?_
    refine xl_gs rfl EvO.eq ?_
    refine xl_gs rfl EvO.eq ?_
    refine xl_gs rfl EvO.eq ?_
    refine xl_gs rfl EvO.eq ?_
    refine xl_gs rfl EvO.eq ?_
    refine xl_gs rfl EvO.eq ?_
    refine xl_v (by first | exact v_pickT | exact v_pickF | exact v_pick) ?_
    refine xl_v v_move ?_
    refine xl_gs rfl EvO.eq ?_
    refine xl_gs rfl EvO.eq ?_
    refine xl_gs rfl EvO.eq ?_
    refine xl_gs rfl EvO.eq ?_
    refine xl_gs rfl EvO.eq ?_
    refine xl_gs rfl EvO.eq ?_
    refine xl_gs rfl EvO.eq ?_
    refine xl_gs rfl EvO.eq ?_
    refine xl_v (by first | exact v_pickT | exact v_pickF | exact v_pick) ?_
    refine xl_nil ?_
    refine x_condF ?_
    refine x_skip ?_
    refine x_seq ?_
    refine x_regionL ?_
    refine xl_v (by first | exact v_fieldAddr | exact v_fieldAddrF (by decide) (by omega) | exact v_fieldAddrR (by first | assumption | rfl)) ?_
    refine xl_v (by first | exact v_load | exact v_loadO (by omega) | exact v_loadFf (by omega) | exact v_loadF0 (by omega)) ?_
    refine xl_v v_move ?_
    refine xl_v v_build ?_
    refine xl_s (e_storeA fun w15 l15 k15 => ?_)
    refine xl_nil ?_
    refine x_ret ?_
    refine finR (rs := [.cell 6 54]) rfl ?_
    first
    | (refine ⟨⟨⟨R.room, q8, A8, c8, [], none, 0⟩, F8, by simp [outV], hs.crashed ?_, RefAt.lasting (hr8.keep (kpc : Keep (OneB b2) _ w15) (fun j e => (hF8 j e).elim (hFo j) (fun e2 e3 => by have e3' : j = b2 := e3; omega))), fun k e => ?_⟩, lkc⟩
       · rw [crash_torn (by rw [hkm]; exact hgt) ⟨h0, by omega⟩, hkm, hf8, hf6]
       · rcases hF8 k e with e | e
         · exact (hF6 k e).imp id (fun e => by omega)
         · exact .inr (by omega))
    | (refine ⟨⟨⟨R.room, q6, A6, c6, [], none, 0⟩, F6, by simp [outV], hs.crashed ?_, RefAt.lasting (hr6.keep (kpc : Keep (OneB b2) _ w15) hFo), fun k e => (hF6 k e).imp id (fun e => by omega)⟩, lkc⟩
       rw [crash_keep, hkm, hf6]
       rw [hkm]
       rintro t ht ⟨z1, z2⟩
       obtain ⟨q1, q2⟩ := List.getElem?_eq_some_iff.1 ht
       have hkx : kk < R.waits.length := by omega
       have e : t = R.waits[kk].t := by
         have := hs.get hkx
         rw [ht] at this
         exact Option.some.inj this
       subst e
       have hpt9 := pickN_le torn R.waits[kk].t.bytes.length
       first
         | (have := of_decide_eq_false g31; omega)
         | (simp [z1] at g40; done)
         | omega
         | (simp at c1; omega))
end Go.Proofs.Ytabknhgbijcklaa
