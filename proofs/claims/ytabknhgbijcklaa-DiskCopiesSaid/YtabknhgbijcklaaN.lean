/-
  Walks, printed by a program of this workplace (wip/tools/sx.py) off the functions' code and a text of contracts.
-/
import Derived.Test.YtabknhgbijcklaaM
set_option linter.all false
set_option maxRecDepth 100000
set_option synthInstance.maxSize 100000
set_option synthInstance.maxHeartbeats 400000
namespace Go.Proofs.Ytabknhgbijcklaa
open Go.Wst
open Go.Wst.Dm
theorem files_len {M : Disk} (h : M.lasts.length + M.waits.length ≤ 10000) : M.files.length ≤ 10000 := by
  have := fold_len M.waits M.lasts
  show (M.waits.foldl Dm.done M.lasts).length ≤ 10000
  omega

/-- (*waystation/disk.Disk).Names -/
theorem names_ok (P R : Nat → Prop) (d : Nat) (M : Disk) (w : World) (h : DiskW P R d M w) : Ret Try.prog 35 #[.pointer (some ⟨d, 0, none⟩)] w (fun v w' => (∃ A c, v = .slice A M.files.length c ∧ w'.ownsRow w.heap.size 9 1 (.slice A M.files.length c) M.files.length (strs (M.files.map (·.1)))) ∧ Lk w' w NoB) := by
  obtain ⟨hok0, hfew0⟩ := h.ok
  obtain ⟨mb, ml, G, D, hD, hS, hP, hR⟩ := h
  haveI hb : Blk w d _ := ⟨hD.hb⟩
  have hfl := files_len hfew0
  have hlen : D.cur.length = M.files.length := by have := hS.cur.len; simpa [fsP] using this
  refine ret_of_x (N := 12) (l := [.pointer (some ⟨d, 0, none⟩)]) Try.func35 rfl rfl (Nat.le_of_ble_eq_true rfl) ?_
  refine x_seq ?_
  refine x_regionL ?_
  refine xl_v v_assign ?_
  refine xl_nil ?_
  refine x_seq ?_
  refine x_seq ?_
  refine x_regionL ?_
  refine xl_v v_move ?_
  refine xl_call (none_ok d mb ml G D M w (hD.ext (kpc : Keep NoB w w)) hS) ?_
  rintro _ _ ⟨rfl, rfl⟩
  refine xl_nil ?_
  refine x_condF ?_
  refine x_skip ?_
  refine x_seq ?_
  refine x_regionL ?_
  refine xl_v v_move ?_
  refine xl_v (by first | exact v_nilCheckP | exact v_nilCheckF) ?_
  refine xl_v (by first | exact v_fieldAddr | exact v_fieldAddrF (by decide) (by omega) | exact v_fieldAddrR (by first | assumption | rfl)) ?_
  refine xl_v (by first | exact v_fieldAddr | exact v_fieldAddrF (by decide) (by omega) | exact v_fieldAddrR (by first | assumption | rfl)) ?_
  refine xl_v (by first | exact v_load | exact v_loadO (by omega) | exact v_loadFf (by omega) | exact v_loadF0 (by omega)) ?_
  refine xl_call (mkeys_ok (some mb) w) ?_
  rintro _ w2 ⟨bk, rfl, kbk, hgk, lkk⟩
  have hblt : bk < (w2).heap.size := Has.lt
  have hmb := (hD.cur.ext (kpc : Keep NoB w w2)).map
  have hmlt2 := hmb.lt
  refine xl_call (sorted_ok _ [_] (fun k => k = bk ∨ k = mb) (KeysAl ((fsV D.cur).map (·.1))) (KeysFin ((fsV D.cur).map (·.1))) _ (fun W l => mkeysIter bk mb (fsV D.cur) W (hmb.keep l.keep (fun h => h))) (by rintro k (rfl | rfl); exact hblt; exact hmlt2) (by rintro pre ⟨l, rest, h1, h2⟩; exact ⟨l, h1, by have := h2.length_eq; simp [fsV] at this; omega⟩) (by rintro pre ⟨l, h1, h2⟩; exact ⟨l, [], h1, by simpa using h2⟩)) ?_
  rintro _ w3 ⟨ks, A, c, hfin, rfl, ho, lk⟩
  have hperm : sortB ks = M.files.map (·.1) := by
    obtain ⟨l, hl1, hl2⟩ := hfin
    have hkl : ks = l := (List.map_inj_right (fun x y h => by simpa using h)).1 hl1
    subst hkl
    rw [fsV_keys, ← fsP_keys] at hl2
    exact sortB_perm (hl2.trans (hS.cur.perm.map _)) hS.cur.rise
  rw [hperm] at ho
  have hidl : ks.length = M.files.length := by
    have h1 := congrArg List.length hperm
    simp [sortB] at h1
    exact h1
  rw [hidl] at ho ⊢
  refine xl_v v_assign ?_
  refine xl_nil ?_
  refine x_ret ?_
  refine fin1 rfl ?_
  exact ⟨⟨A, c, rfl, own_mono (own_ext ho lkc) Ge.le⟩, lkc⟩
abbrev fileC (p : ByteArray × LB) : List Value := [.string p.1, lbV p.2]
instance encN_file : EncN fileC 2 := ⟨fun _ => rfl⟩
/-- Files in a row. -/
structure FsRow (W : World) (F : Nat → Prop) (A : Option Addr) (l : List (ByteArray × LB)) : Prop where
  row : FRow W F A (l.flatMap fileC)
  items : ∀ p ∈ l, FRow W F p.2.A (bytesC p.2.bytes)
  caps : ∀ p ∈ l, p.2.bytes.length ≤ p.2.c
  lt : ∀ k, F k → k < W.heap.size
theorem FsRow.keep {W W' : World} {F S : Nat → Prop} {A : Option Addr} {l : List (ByteArray × LB)} (h : FsRow W F A l) (hk : Keep S W W') (hs : ∀ k, F k → ¬ S k) : FsRow W' F A l :=
  ⟨h.row.keep hk hs, fun p hp => (h.items p hp).keep hk hs, h.caps, fun k e => Nat.lt_of_lt_of_le (h.lt k e) hk.size⟩
theorem FsRow.ext {W W' : World} {F : Nat → Prop} {A : Option Addr} {l : List (ByteArray × LB)} (h : FsRow W F A l) (hk : Keep NoB W W') : FsRow W' F A l := h.keep hk (fun _ _ h => h)
theorem fsP_len (l : List (ByteArray × LB)) : (fsP l).length = l.length := by simp [fsP]
theorem fsP_get {l : List (ByteArray × LB)} {k : Nat} (h : k < l.length) : (fsP l)[k]? = some (l[k].1, l[k].2.bytes) := by simp [fsP, h]
theorem file_read {M : Disk} (hok : M.ok) {k : Nat} (hk : k < M.files.length) : readNo M.files M.files[k].1 = 0 ∧ readB M.files M.files[k].1 = M.files[k].2 := by
  have hm := List.getElem_mem hk
  have h1 := hok.files.2.2 _ hm
  have h2 : akey M.files M.files[k].1 = some M.files[k].2 := (akey_mem hok.files.1.nodup).2 hm
  unfold readNo readB
  rw [h1, h2]
  exact ⟨rfl, rfl⟩

/-- waystation/waystationlaw03.files -/
theorem files_ok (P R : Nat → Prop) (d : Nat) (M : Disk) (w : World) (h : DiskW P R d M w) : Ret Try.prog 22 #[.pointer (some ⟨d, 0, none⟩)] w (fun v w' => (∃ (A : Option Addr) (c : Nat) (l : List (ByteArray × LB)) (F : Nat → Prop), v = .slice A l.length c ∧ fsP l = M.files ∧ FsRow w' F A l ∧ ∀ k, F k → w.heap.size ≤ k) ∧ Lk w' w NoB) := by
  obtain ⟨hok0, hfew0⟩ := h.ok
  have hfl := files_len hfew0
  refine ret_of_x (N := 38) (l := [.pointer (some ⟨d, 0, none⟩)]) Try.func22 rfl rfl (Nat.le_of_ble_eq_true rfl) ?_
  refine x_seq ?_
  refine x_regionL ?_
  refine xl_v v_assign ?_
  refine xl_nil ?_
  refine x_seq ?_
  refine x_regionL ?_
  refine xl_v v_assign ?_
  refine xl_nil ?_
  refine x_seq ?_
  refine x_regionL ?_
  refine xl_v v_move ?_
  refine xl_call (names_ok P R d M w (h.ext (kpc : Keep NoB w w))) ?_
  rintro _ w1 ⟨⟨A4, c4, rfl, ho4⟩, lk1⟩
  refine xl_v v_assign ?_
  refine xl_nil ?_
  refine x_seq ?_
  refine x_seq ?_
  refine x_regionL ?_
  refine xl_v v_assign ?_
  refine xl_nil ?_
  refine x_block ?_
  have ho4' := own_ext ho4 (lkc : Lk w1 _ NoB)
  have hr4 : Row w1 A4 (strs (M.files.map (·.1))) := ⟨(FRow.of_own ho4').row⟩
  have hA4l := own_blk ho4'
  have hgL := (Ge.le : w.heap.size ≤ (w1).heap.size)
  refine x_loop (fun m τ ds w' => ds = [] ∧ ∃ (k : Nat) (q : List (ByteArray × LB)) (A7 : Option Addr) (c7 : Nat) (F : Nat → Prop), m = M.files.length - k ∧ k ≤ M.files.length ∧ fsP q = M.files.take k ∧ w'.ownsRow (w1).heap.size 49 2 (.slice A7 q.length c7) q.length (q.flatMap fileC) ∧ (∀ p ∈ q, FRow w' F p.2.A (bytesC p.2.bytes) ∧ p.2.bytes.length ≤ p.2.c) ∧ (∀ j, F j → j < w'.heap.size ∧ (w1).heap.size ≤ j ∧ ∀ a, A7 = some a → a.block ≠ j) ∧ Ev τ 0 (.pointer (some ⟨d, 0, none⟩)) ∧ Ev τ 3 (.slice A7 q.length c7) ∧ Ev τ 4 (.slice A4 M.files.length c4) ∧ Ev τ 5 (.int .i64 (k : Int)) ∧ Lk w' w1 NoB) (M.files.length) ?start ?round
  case start =>
    exact ⟨rfl, 0, [], none, 0, NoB, rfl, by omega, rfl, World.ownsRow_nil _ _ _ _, nofun, fun j e => e.elim, inferInstance, inferInstance, inferInstance, evc, lkc⟩
  case round =>
    intro m τ2 ds2 w2 hI
    obtain ⟨rfl, k, q, A7, c7, F, rfl, hk, hq, ho7, hrw, hF, e0, e3, e4, e5, lk⟩ := hI
    haveI : OwnI w2 A7 _ _ _ _ _ _ _ := ⟨ho7⟩
    haveI := newA_of ho7 (Nat.le_refl _)
    haveI hr4w : Row w2 A4 (strs (M.files.map (·.1))) := ⟨hr4.row.keep lk.keep (fun _ _ h => h)⟩
    have hLB := lk.keep.size
    have hql : q.length = k := by
      have := congrArg List.length hq
      rw [fsP_len, List.length_take] at this
      omega
    have hDk : DiskW P R d M w2 := h.ext (kpc : Keep NoB w w2)
    refine x_seq ?_
    refine x_seq ?_
    refine x_regionL ?_
    refine xl_v v_move ?_
    refine xl_v v_move ?_
    refine xl_v v_len ?_
    refine xl_v v_lss ?_
    refine xl_nil ?_
    first | refine x_condP (fun c1 => ?_) (fun c1 => ?_) | refine x_condN (fun c1 => ?_) (fun c1 => ?_) | refine x_condE (fun c1 => ?_) (fun c1 => ?_)
    ·
      have hk1 : k < M.files.length := by omega
      obtain ⟨hrn, hrb⟩ := file_read hok0 hk1
      refine x_skip ?_
      refine x_seq ?_
      refine x_block ?_
      refine x_seq ?_
      refine x_regionL ?_
      refine xl_v v_move ?_
      refine xl_v v_move ?_
      refine xl_v v_move ?_
      refine xl_v (v_indexAddr k rfl (by omega) (row_some hr4w (by simp [strs]; omega))) ?_
      refine xl_v (v_loadR (v := .string M.files[k].1) (by rw [Nat.mul_one]; simp [hk1])) ?_
      refine xl_call (read_ok P R d M M.files[k].1 w2 (hDk.ext (kpc : Keep NoB w2 w2))) ?_
      rintro _ w3 ⟨⟨A9, c9, rfl, ho9⟩, lk9⟩
      rw [hrb] at ho9 ⊢
      rw [hrn]
      have hcap9 := own_cap ho9
      haveI : NewA A9 w2 := newA_of ho9 (Nat.le_refl _)
      haveI : OwnI w3 A9 _ _ _ _ _ _ _ := ⟨ho9⟩
      have hszp := (Ge.le : (w2).heap.size ≤ (w2).heap.size)
      refine xl_v v_move ?_
      refine xl_v v_extract ?_
      refine xl_v v_extract ?_
      refine xl_v v_assign ?_
      refine xl_v v_assign ?_
      refine xl_nil ?_
      refine x_seq ?_
      refine x_regionL ?_
      refine xl_v v_move ?_
      refine xl_call (num_ok _ _) ?_
      rintro _ _ ⟨rfl, rfl⟩
      refine xl_v (v_congr (u := .bool true) v_eql (by simp)) ?_
      refine xl_nil ?_
      refine x_condT ?_
      refine x_regionL ?_
      refine xl_v v_move ?_
      refine xl_v v_move ?_
      refine xl_v v_move ?_
      refine xl_v (v_indexAddr k rfl (by omega) (row_some hr4w (by simp [strs]; omega))) ?_
      refine xl_v (v_loadR (v := .string M.files[k].1) (by rw [Nat.mul_one]; simp [hk1])) ?_
      refine xl_v v_move ?_
      refine xl_v v_build ?_
      refine xl_e (e_buildSlice1 rfl fun b5 w5 n5 l5 k5 => ?_)
      have hsA := (Ge.le : (w2).heap.size ≤ (w5).heap.size)
      have ho9a := own_blk (OwnI.own : World.ownsRow w5 _ _ _ (.slice A9 _ c9) _ _)
      refine xl_e (e_app (by simp) (by decide) (by omega) (by omega) Ge.le fun A8 c8 w6 ox lx ax fx => ?_)
      have hkA : Keep (OwnB (.slice A7 q.length c7)) w2 w6 := kpc
      have hr9 : RowP w6 A9 (bytesC M.files[k].2) := (inferInstance : Row w6 A9 (bytesC M.files[k].2)).row
      have ho9w := (OwnI.own : World.ownsRow w6 _ _ _ (.slice A9 _ c9) _ _)
      have hszx := lx.keep.size
      refine xl_v v_assign ?_
      refine xl_nil ?_
      refine x_regionL ?_
      refine xl_v v_move ?_
      refine xl_v (v_add (by omega)) ?_
      refine xl_v v_assign ?_
      refine xl_nil ?_
      refine ⟨_, ?_, rfl, k + 1, q ++ [(M.files[k].1, ⟨M.files[k].2, A9, c9⟩)], A8, c8, fun j => F j ∨ (∃ a, A9 = some a ∧ a.block = j), rfl, by omega, ?_, ?_, ?_, ?_, inferInstance, evc (by simp), inferInstance, evc, lkc⟩
      · omega
      · rw [List.take_succ_eq_append_getElem hk1, ← hq]
        simp [fsP]
      · have := own_ext ox.own (lkc : Lk w6 _ NoB)
        simpa using this
      · intro p hp
        rcases List.mem_append.1 hp with hp | hp
        · obtain ⟨g1, g2⟩ := hrw p hp
          exact ⟨(g1.keep hkA (fun j e e2 => by obtain ⟨a, ha, e3⟩ := ownB_ex e2; exact (hF j e).2.2 a ha e3)).mono (fun j e => .inl e), g2⟩
        · have e : p = (M.files[k].1, ⟨M.files[k].2, A9, c9⟩) := by simpa using hp
          subst e
          exact ⟨⟨hr9, fun a ha => .inr ⟨a, ha, rfl⟩⟩, hcap9⟩
      · rintro j (e | ⟨a, ha, e⟩)
        · obtain ⟨g1, g2, g3⟩ := hF j e
          refine ⟨Nat.lt_of_lt_of_le g1 hkA.size, g2, fun b hb e4 => ?_⟩
          rcases fx.or b hb with ⟨c, hc, e5⟩ | e5
          · exact g3 c hc (by omega)
          · omega
        · have g1 := own_blk ho9w a ha
          have g2 := ho9a a ha
          refine ⟨by omega, by omega, fun b hb e4 => ?_⟩
          rcases fx.or b hb with ⟨c, hc, e5⟩ | e5
          · have := (own_blk ho7 c hc).2; omega
          · omega
    ·
      refine x_exit ?_
      refine x_seq ?_
      refine x_regionL ?_
      refine xl_v v_move ?_
      refine xl_v v_assign ?_
      refine xl_nil ?_
      refine x_ret ?_
      refine fin1 rfl ?_
      have hkn : k = M.files.length := by omega
      refine ⟨⟨A7, c7, q, fun j => F j ∨ ∃ a, A7 = some a ∧ a.block = j, rfl, by rw [hq, List.take_of_length_le (by omega)], ⟨⟨(FRow.of_own ho7).row, fun a ha => .inr ⟨a, ha, rfl⟩⟩, fun p hp => ((hrw p hp).1).mono (fun j e => .inl e), fun p hp => (hrw p hp).2, fun j e => ?_⟩, fun j e => ?_⟩, lkc⟩
      · rcases e with e | ⟨a, ha, e⟩
        · exact (hF j e).1
        · have := (own_blk ho7 a ha).2; omega
      · rcases e with e | ⟨a, ha, e⟩
        · have := (hF j e).2.1; omega
        · have := (own_blk ho7 a ha).1; omega
end Go.Proofs.Ytabknhgbijcklaa
