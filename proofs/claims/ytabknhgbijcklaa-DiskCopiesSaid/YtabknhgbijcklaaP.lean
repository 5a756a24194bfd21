/-
  Walks, printed by a program of this workplace (wip/tools/sx.py) off the functions' code and a text of contracts.
-/
import Derived.Test.YtabknhgbijcklaaO
set_option linter.all false
set_option maxRecDepth 100000
set_option synthInstance.maxSize 100000
set_option synthInstance.maxHeartbeats 400000
namespace Go.Proofs.Ytabknhgbijcklaa
open Go.Wst
open Go.Wst.Dm
theorem doneL_away (t : Thing) (k : ByteArray) (hk : t.name ≠ k) (l : Fs) : akey (Dm.done l t) k = akey l k := doneL_other t k (fun e => hk e.symm) l false
theorem fold_away : ∀ (ts : List Thing) (l : Fs) (k : ByteArray), (∀ t ∈ ts, t.name ≠ k) → akey (ts.foldl Dm.done l) k = akey l k
  | [], _, _, _ => rfl
  | t :: ts, l, k, h => by
    rw [List.foldl_cons, fold_away ts _ k (fun u hu => h u (List.mem_cons_of_mem _ hu)), doneL_away t k (h t (List.mem_cons_self ..))]
theorem crash_files (M : Disk) (kp tn : Int) : (M.crash kp tn).files = (M.crash kp tn).lasts := by
  obtain ⟨_, h2⟩ := crash_shape M kp tn
  rw [Disk.files, h2]; rfl
theorem crash_away (M : Disk) (kp tn : Int) (k : ByteArray) (h : ∀ t ∈ M.waits, t.name ≠ k) : akey (M.crash kp tn).files k = akey M.lasts k := by
  rw [crash_files]
  have h1 : ∀ n, akey ((M.waits.take n).foldl Dm.done M.lasts) k = akey M.lasts k := fun n => fold_away _ _ _ (fun t ht => h t (List.mem_of_mem_take ht))
  unfold Disk.crash
  dsimp only
  split
  · exact h1 _
  · next t ht =>
    split
    · show akey (Dm.done _ (tornT t _)) k = _
      rw [doneL_away (tornT t (pickN tn t.bytes.length)) k (h t (List.mem_of_getElem? ht)), h1]
    · exact h1 _
theorem crash_none (M : Disk) : (M.crash 0 0).lasts = M.lasts := by
  have h0 : ∀ n, pickN 0 n = 0 := fun n => by simp [pickN]
  unfold Disk.crash
  dsimp only
  rw [h0]
  split
  · rfl
  · rw [if_neg]
    · rfl
    · rintro ⟨_, h⟩
      rw [h0] at h
      omega
theorem pick_all (n : Nat) : pickN (n : Int) n = n := by
  unfold pickN
  have h1 : (n : Int).tmod ((n : Int) + 1) = n := Int.tmod_eq_of_lt (by omega) (by omega)
  rw [h1, if_neg (by omega)]
  omega
theorem crash_all (M : Disk) : (M.crash (M.waits.length : Int) 0).lasts = M.files := by
  unfold Disk.crash
  dsimp only
  rw [pick_all, List.getElem?_eq_none (Nat.le_refl _)]
  show (M.waits.take M.waits.length).foldl Dm.done M.lasts = _
  rw [List.take_length]
  rfl
/-- What a call makes of a disk. -/
def _root_.Go.Wst.Dm.Disk.step (M : Disk) (t : Thing) : Disk := if t.what = 0 ∨ t.what = 1 ∨ t.what = 2 then M.does t else M.flush
theorem oldR_row {R : Nat → Prop} {w' w1 : World} {A : Option Addr} {F : Nat → Prop} {l : List (ByteArray × LB)} (h : FsRow w1 F A l) (lk : Lk w' w1 (NotP R)) (hF : ∀ k, F k → R k) : FsRow w' F A l := h.keep lk.keep (fun k e e2 => e2 (hF k e))
abbrev blkP (A : Option Addr) : Nat → Prop := fun j => ∃ a, A = some a ∧ a.block = j
set_option maxHeartbeats 1000000 in
/-- waystation/waystationlaw03.DiskLasts -/
theorem diskLasts_ok (A : Option Addr) (n c : Nat) (xs : List LT) (kp tn : Int) (w : World) [hra : Row w A (xs.flatMap thC)] (hrs : ∀ j (h : j < xs.length), RowP w xs[j].A (bytesC xs[j].t.bytes)) (hl : xs.length = n) (hn : n ≤ 9223372036854775807) (hkp : In64 kp) (htn : In64 tn) : Ret Try.prog 5 #[.slice A n c, .agg #[.int .i64 kp, .int .i64 tn]] w (fun v w' => v = .bool true ∧ Lk w' w NoB) := by
  haveI hrb : RowB w A w (xs.flatMap thC) := rowB_of hra.row
  refine ret_of_x (N := 175) (l := [.slice A n c, .agg #[.int .i64 kp, .int .i64 tn]]) Try.func5 rfl rfl (Nat.le_of_ble_eq_true rfl) ?_
  refine x_seq ?_
  refine x_regionL ?_
  refine xl_e (e_box fun b1 w1 n1 l1 k1 => ?_)
  refine xl_v v_assign ?_
  refine xl_nil ?_
  refine x_seq ?_
  refine x_seq ?_
  refine x_regionL ?_
  refine xl_v v_move ?_
  refine xl_call (few_ok A n c xs w1 (hra := rowB_of (inferInstance : Row w1 A (xs.flatMap thC)).row) hl hn) ?_
  rintro _ w2 ⟨⟨fb, rfl, hfb⟩, lkf⟩
  refine xl_v v_not ?_
  refine xl_nil ?_
  first | refine x_condP (fun c1 => ?_) (fun c1 => ?_) | refine x_condN (fun c1 => ?_) (fun c1 => ?_) | refine x_condE (fun c1 => ?_) (fun c1 => ?_)
  ·
    refine x_seq ?_
    refine x_regionL ?_
    refine xl_call (works_ok w2) ?_
    rintro _ w3 ⟨rfl, lkw⟩
    refine xl_v v_assign ?_
    refine xl_nil ?_
    refine x_ret ?_
    refine fin1 rfl ?_
    exact ⟨rfl, lkc⟩
  ·
    have hfew : n ≤ 66 ∧ ∀ j (h : j < xs.length), xs[j].t.bytes.length ≤ 4000 ∧ xs[j].t.name.size ≤ 4000 := hfb (by simpa using c1)
    refine x_skip ?_
    refine x_seq ?_
    refine x_regionL ?_
    refine xl_call (new2_ok 1000 w2 (by decide)) ?_
    rintro _ w4 ⟨⟨d, rfl, hD0, hgd⟩, lk1⟩
    have hb1p : b1 < (w2).heap.size := Has.lt
    refine xl_v v_move ?_
    refine xl_v v_extract ?_
    refine xl_v v_extract ?_
    refine xl_v v_assign ?_
    refine xl_v v_assign ?_
    refine xl_nil ?_
    refine x_seq ?_
    refine x_regionL ?_
    refine xl_v v_assign ?_
    refine xl_nil ?_
    refine x_seq ?_
    refine x_regionL ?_
    refine xl_v v_assign ?_
    refine xl_nil ?_
    refine x_seq ?_
    refine x_seq ?_
    refine x_regionL ?_
    refine xl_v v_assign ?_
    refine xl_nil ?_
    refine x_block ?_
    have hD0w : DiskW (blkP none) (fun j => j < w.heap.size ∨ j = b1) d ⟨1000, [], []⟩ w4 := hD0.keep (kpc : Keep NoB _ w4) (fun _ _ h => h.elim) (fun k e => by obtain ⟨a, ha, _⟩ := e; cases ha) (fun k e => by
      rcases e with e | e
      · exact ⟨Nat.lt_of_lt_of_le e Ge.le, .inl (Nat.lt_of_lt_of_le e Ge.le)⟩
      · subst e; exact ⟨Has.lt, .inl hb1p⟩)
    refine x_loop (fun m τ ds w' => ds = [] ∧ ∃ (k : Nat) (M : Disk) (ns : List ByteArray) (A7 : Option Addr) (ca : Nat) (A8 : Option Addr) (cb : Nat) (l8 : List (ByteArray × LB)) (F8 R : Nat → Prop), m = n - k ∧ k ≤ n ∧ DiskW (blkP A7) R d M w' ∧ (∀ j, j < w.heap.size → R j) ∧ (∀ j, F8 j → R j ∧ ∀ a, A7 = some a → a.block ≠ j) ∧ (∀ a, A7 = some a → R a.block ∧ a.block ≠ b1) ∧ M.lasts.length + M.waits.length ≤ k ∧ (∀ t ∈ M.waits, t.name ∈ ns) ∧ ns.length ≤ k ∧ w'.ownsRow w.heap.size 9 1 (.slice A7 ns.length ca) ns.length (strs ns) ∧ fsP l8 = M.lasts ∧ FsRow w' F8 A8 l8 ∧ Ev τ 0 (.slice A n c) ∧ Ev τ 3 (.pointer (some ⟨b1, 0, none⟩)) ∧ Ev τ 5 (.pointer (some ⟨d, 0, none⟩)) ∧ Ev τ 6 (.int .i64 0) ∧ Ev τ 7 (.slice A7 ns.length ca) ∧ Ev τ 8 (.slice A8 l8.length cb) ∧ Ev τ 9 (.int .i64 (k : Int)) ∧ R b1 ∧ w'.heap[b1]? = some (.cells #[.int .i64 kp, .int .i64 tn] 38 (0, 0)) ∧ Lk w' w NoB) (n) ?start ?round
    case start =>
      exact ⟨rfl, 0, ⟨1000, [], []⟩, [], none, 0, none, 0, [], NoB, _, rfl, by omega, hD0w, fun j e => .inl e, fun j e => e.elim, nofun, by simp, nofun, by simp, World.ownsRow_nil _ _ _ _, rfl, ⟨FRow.nil _ _, nofun, nofun, fun j e => e.elim⟩, inferInstance, inferInstance, inferInstance, inferInstance, inferInstance, inferInstance, evc, .inr rfl, Blk.eq, lkc⟩
    case round =>
      intro m τ5 ds5 w5 hI
      obtain ⟨rfl, k, M, ns, A7, ca, A8, cb, l8, F8, R, rfl, hk, hD, hRo, hRF, hRA, hlen, hnm, hnl, ho7, hf8, hr8, e0, e3, e5, e6, e7, e8, e9, hRb, hb1r, lk⟩ := hI
      haveI : OwnI w5 A7 _ _ _ _ _ _ _ := ⟨ho7⟩
      haveI : NewA A7 w := newA_of ho7 (Nat.le_refl _)
      haveI : Blk w5 b1 _ := ⟨hb1r⟩
      haveI : NotS (OwnB (.slice A7 ns.length ca)) b1 := ⟨fun e => by obtain ⟨a, ha, e2⟩ := ownB_ex e; exact (hRA a ha).2 e2⟩
      refine x_seq ?_
      refine x_seq ?_
      refine x_regionL ?_
      refine xl_v v_move ?_
      refine xl_v v_move ?_
      refine xl_v v_len ?_
      refine xl_v v_lss ?_
      refine xl_nil ?_
      first | refine x_condP (fun c2 => ?_) (fun c2 => ?_) | refine x_condN (fun c2 => ?_) (fun c2 => ?_) | refine x_condE (fun c2 => ?_) (fun c2 => ?_)
      ·
        have hk1 : k < xs.length := by omega
        haveI hrx : RowB w xs[k].A w (bytesC xs[k].t.bytes) := rowB_of (hrs k hk1)
        obtain ⟨hfb1, hfn1⟩ := hfew.2 k hk1
        have hDlt := hD.lt
        refine x_skip ?_
        refine x_seq ?_
        refine x_block ?_
        refine x_seq ?_
        refine x_regionL ?_
        refine xl_v v_move ?_
        refine xl_v v_move ?_
        refine xl_v (v_indexF k (by decide) rfl (by omega) hk1) ?_
        refine xl_v (by first | exact v_loadA | exact v_loadF (by decide) (by omega)) ?_
        refine xl_e (e_alloc fun b10 w6 n10 l10 k10 => ?_)
        refine xl_s (e_storeA fun w7 l7 k7 => ?_)
        refine xl_nil ?_
        obtain ⟨R2, hR2d⟩ : ∃ R2 : Nat → Prop, R2 = fun j => R j ∨ j = b10 := ⟨_, rfl⟩
        have hD10 : DiskW (blkP A7) R2 d M w7 := hD.keep (kpc : Keep NoB w5 w7) (fun _ _ h => h.elim) (fun j e => ⟨Nat.lt_of_lt_of_le (hDlt.1 j e) Ge.le, .inl e⟩) (fun j e => by
          rw [hR2d] at e
          rcases e with e | e
          · exact ⟨Nat.lt_of_lt_of_le (hDlt.2 j e) Ge.le, .inl e⟩
          · subst e; exact ⟨Has.lt, .inr (by rw [n10.eq]; exact Ge.le)⟩)
        have hR2o : ∀ j, j < w.heap.size → R2 j := fun j e => by rw [hR2d]; exact .inl (hRo j e)
        have hR2F : ∀ j, F8 j → R2 j := fun j e => by rw [hR2d]; exact .inl (hRF j e).1
        have hR2A : ∀ a, A7 = some a → R2 a.block := fun a e => by rw [hR2d]; exact .inl (hRA a e).1
        have hR2b : R2 b1 := by rw [hR2d]; exact .inl hRb
        have hR2c : R2 b10 := by rw [hR2d]; exact .inr rfl
        haveI sR : SubF (NotP R2) NoB w := ⟨fun j hj e => absurd (hR2o j hj) e⟩
        haveI aR : Above (NotP R2) w := ⟨fun j e => Nat.le_of_not_lt (fun h => e (hR2o j h))⟩
        haveI : NotS (NotP R2) b10 := ⟨fun e => e hR2c⟩
        haveI : NotS (NotP R2) b1 := ⟨fun e => e hR2b⟩
        haveI : RowOut (NotP R2) A7 := ⟨fun a ha e => e (hR2A a ha)⟩
        have hr8w := hr8.ext (kpc : Keep NoB w5 w7)
        refine x_seq ?_
        refine x_seq ?_
        refine x_regionL ?_
        refine xl_v (by first | exact v_fieldAddr | exact v_fieldAddrF (by decide) (by omega) | exact v_fieldAddrR (by first | assumption | rfl)) ?_
        refine xl_v (by first | exact v_load | exact v_loadO (by omega) | exact v_loadFf (by omega) | exact v_loadF0 (by omega)) ?_
        refine xl_nil ?_
        refine x_block ?_
        refine x_seq ?_
        refine x_regionL ?_
        refine xl_v v_eql ?_
        refine xl_v v_assign ?_
        refine xl_nil ?_
        first | refine x_condP (fun c3 => ?_) (fun c3 => ?_) | refine x_condN (fun c3 => ?_) (fun c3 => ?_) | refine x_condE (fun c3 => ?_) (fun c3 => ?_)
        ·
          refine x_regionL ?_
          refine xl_v v_move ?_
          refine xl_v (by first | exact v_fieldAddr | exact v_fieldAddrF (by decide) (by omega) | exact v_fieldAddrR (by first | assumption | rfl)) ?_
          refine xl_v (by first | exact v_load | exact v_loadO (by omega) | exact v_loadFf (by omega) | exact v_loadF0 (by omega)) ?_
          refine xl_v (by first | exact v_fieldAddr | exact v_fieldAddrF (by decide) (by omega) | exact v_fieldAddrR (by first | assumption | rfl)) ?_
          refine xl_v (by first | exact v_load | exact v_loadO (by omega) | exact v_loadFf (by omega) | exact v_loadF0 (by omega)) ?_
          refine xl_call (put_ok (blkP A7) R2 d M xs[k].t.name xs[k].A xs[k].c xs[k].t.bytes xs[k].t.n w7 (hD10.ext (kpc : Keep NoB _ w7)) (by omega) (by omega)) ?_
          rintro _ w8 ⟨rfl, hD2, lk3⟩
          have hT : xs[k].t = ⟨0, xs[k].t.name, xs[k].t.bytes, xs[k].t.n⟩ := by rw [← c3]
          rw [← hT] at hD2
          have hr8b := oldR_row (hr8w.ext (kpc : Keep NoB _ w7)) lk3 hR2F
          refine xl_nil ?_
          refine x_regionL ?_
          refine xl_v v_move ?_
          refine xl_v (by first | exact v_fieldAddr | exact v_fieldAddrF (by decide) (by omega) | exact v_fieldAddrR (by first | assumption | rfl)) ?_
          refine xl_v (by first | exact v_load | exact v_loadO (by omega) | exact v_loadFf (by omega) | exact v_loadF0 (by omega)) ?_
          refine xl_e (e_buildSlice1 rfl fun b9 w9 n9 l9 k9 => ?_)
          have hD2w := hD2.ext (kpc : Keep NoB _ w9)
          have hlt19 := hD2w.lt
          have hr8c := hr8b.ext (kpc : Keep NoB _ w9)
          refine xl_e (e_app (by simp) (by decide) (by omega) (by omega) Ge.le fun A10 c10 w10 ox lx ax fx => ?_)
          refine xl_v v_assign ?_
          refine xl_nil ?_
          obtain ⟨R4, hR4d⟩ : ∃ R4 : Nat → Prop, R4 = fun j => R2 j ∨ blkP A10 j := ⟨_, rfl⟩
          obtain ⟨dl1, dl2, _⟩ := does_len M xs[k].t
          have hA10 : ∀ a, A10 = some a → a.block < (w10).heap.size := fun a ha => (own_blk ox.own a ha).2
          have hE1 : DiskW (blkP A10) R4 d (M.does xs[k].t) w10 := hD2w.keep lx.keep (fun j _ e => ownB_ex e) (fun j e => by
            obtain ⟨a, ha, e⟩ := e
            refine ⟨by have := hA10 a ha; omega, ?_⟩
            rcases fx.or a ha with ⟨b, hb, e2⟩ | e2
            · exact .inl ⟨b, hb, by omega⟩
            · exact .inr (by omega)) (fun j e => by
            rw [hR4d] at e
            rcases e with e | ⟨a, ha, e⟩
            · exact ⟨Nat.lt_of_lt_of_le (hlt19.2 j e) lx.keep.size, .inl e⟩
            · refine ⟨by have := hA10 a ha; omega, ?_⟩
              rcases fx.or a ha with ⟨b, hb, e2⟩ | e2
              · exact .inl (by have := hR2A b hb; rwa [← e, e2])
              · exact .inr (by omega))
          have hE2 : ∀ j, j < w.heap.size → R4 j := fun j e => by rw [hR4d]; exact .inl (hR2o j e)
          have hE3 : ∀ j, F8 j → R4 j ∧ ∀ a, A10 = some a → a.block ≠ j := fun j e => ⟨by rw [hR4d]; exact .inl (hR2F j e), fun a ha e2 => by
            rcases fx.or a ha with ⟨b, hb, e3⟩ | e3
            · exact (hRF j e).2 b hb (by omega)
            · have := hr8c.lt j e; omega⟩
          have hE4 : ∀ a, A10 = some a → R4 a.block ∧ a.block ≠ b1 := fun a ha => ⟨by rw [hR4d]; exact .inr ⟨a, ha, rfl⟩, by
            rcases fx.or a ha with ⟨b, hb, e3⟩ | e3
            · have := (hRA b hb).2; omega
            · have := hlt19.2 b1 hR2b; omega⟩
          have hE5 : (M.does xs[k].t).lasts.length + (M.does xs[k].t).waits.length ≤ k + 1 := by rw [dl1]; omega
          have hE6 : ∀ t ∈ (M.does xs[k].t).waits, t.name ∈ ns ++ [xs[k].t.name] := by
            intro t ht
            unfold Disk.does at ht
            split at ht
            · rcases List.mem_append.1 ht with h1 | h1
              · exact List.mem_append.2 (.inl (hnm t h1))
              · have e : t = xs[k].t := by simpa using h1
                rw [e]; simp
            · exact List.mem_append.2 (.inl (hnm t ht))
          have hE7 : (ns ++ [xs[k].t.name]).length ≤ k + 1 := by simp; omega
          have hE8 : World.ownsRow w10 w.heap.size 9 1 (.slice A10 (ns ++ [xs[k].t.name]).length c10) (ns ++ [xs[k].t.name]).length (strs (ns ++ [xs[k].t.name])) := by
            have := ox.own
            simpa using this
          have hE9 : fsP l8 = (M.does xs[k].t).lasts := by rw [dl1]; exact hf8
          have hE10 : FsRow w10 F8 A8 l8 := hr8c.keep lx.keep (fun j e e2 => by obtain ⟨a, ha, e3⟩ := ownB_ex e2; exact (hRF j e).2 a ha e3)
          have hE11 : R4 b1 := by rw [hR4d]; exact .inl hR2b
          refine x_regionL ?_
          refine xl_v v_move ?_
          refine xl_v (v_add (by omega)) ?_
          refine xl_v v_assign ?_
          refine xl_nil ?_
          first
          | (refine ⟨_, ?_, rfl, k + 1, M.does xs[k].t, ns ++ [xs[k].t.name], A10, c10, A8, cb, l8, F8, R4, rfl, by omega, hE1, hE2, hE3, hE4, hE5, hE6, hE7, hE8, hE9, hE10, inferInstance, inferInstance, inferInstance, inferInstance, evc (by simp), inferInstance, evc, hE11, Blk.eq, lkc⟩; omega)
          | (refine ⟨_, ?_, rfl, k + 1, M.flush, [], none, 0, A9, c9, l9, F9, R4, rfl, by omega, hE1, hE2, hE3, hE4, hE5, hE6, hE7, hE8, hE9, hE10, inferInstance, inferInstance, inferInstance, inferInstance, evc, inferInstance, evc, hE11, Blk.eq, lkc⟩; omega)
        ·
          refine x_seq ?_
          refine x_regionL ?_
          refine xl_v v_eql ?_
          refine xl_v v_assign ?_
          refine xl_nil ?_
          first | refine x_condP (fun c4 => ?_) (fun c4 => ?_) | refine x_condN (fun c4 => ?_) (fun c4 => ?_) | refine x_condE (fun c4 => ?_) (fun c4 => ?_)
          ·
            refine x_regionL ?_
            refine xl_v v_move ?_
            refine xl_v (by first | exact v_fieldAddr | exact v_fieldAddrF (by decide) (by omega) | exact v_fieldAddrR (by first | assumption | rfl)) ?_
            refine xl_v (by first | exact v_load | exact v_loadO (by omega) | exact v_loadFf (by omega) | exact v_loadF0 (by omega)) ?_
            refine xl_v (by first | exact v_fieldAddr | exact v_fieldAddrF (by decide) (by omega) | exact v_fieldAddrR (by first | assumption | rfl)) ?_
            refine xl_v (by first | exact v_load | exact v_loadO (by omega) | exact v_loadFf (by omega) | exact v_loadF0 (by omega)) ?_
            refine xl_call (cut_ok (blkP A7) R2 d M xs[k].t.name xs[k].t.n xs[k].t.bytes w7 (hD10.ext (kpc : Keep NoB _ w7)) (by omega) (by omega)) ?_
            rintro _ w11 ⟨rfl, hD2, lk3⟩
            have hT : xs[k].t = ⟨1, xs[k].t.name, xs[k].t.bytes, xs[k].t.n⟩ := by rw [← c4]
            rw [← hT] at hD2
            have hr8b := oldR_row (hr8w.ext (kpc : Keep NoB _ w7)) lk3 hR2F
            refine xl_nil ?_
            refine x_regionL ?_
            refine xl_v v_move ?_
            refine xl_v (by first | exact v_fieldAddr | exact v_fieldAddrF (by decide) (by omega) | exact v_fieldAddrR (by first | assumption | rfl)) ?_
            refine xl_v (by first | exact v_load | exact v_loadO (by omega) | exact v_loadFf (by omega) | exact v_loadF0 (by omega)) ?_
            refine xl_e (e_buildSlice1 rfl fun b12 w12 n12 l12 k12 => ?_)
            have hD2w := hD2.ext (kpc : Keep NoB _ w12)
            have hlt19 := hD2w.lt
            have hr8c := hr8b.ext (kpc : Keep NoB _ w12)
            refine xl_e (e_app (by simp) (by decide) (by omega) (by omega) Ge.le fun A10 c10 w13 ox lx ax fx => ?_)
            refine xl_v v_assign ?_
            refine xl_nil ?_
            obtain ⟨R4, hR4d⟩ : ∃ R4 : Nat → Prop, R4 = fun j => R2 j ∨ blkP A10 j := ⟨_, rfl⟩
            obtain ⟨dl1, dl2, _⟩ := does_len M xs[k].t
            have hA10 : ∀ a, A10 = some a → a.block < (w13).heap.size := fun a ha => (own_blk ox.own a ha).2
            have hE1 : DiskW (blkP A10) R4 d (M.does xs[k].t) w13 := hD2w.keep lx.keep (fun j _ e => ownB_ex e) (fun j e => by
              obtain ⟨a, ha, e⟩ := e
              refine ⟨by have := hA10 a ha; omega, ?_⟩
              rcases fx.or a ha with ⟨b, hb, e2⟩ | e2
              · exact .inl ⟨b, hb, by omega⟩
              · exact .inr (by omega)) (fun j e => by
              rw [hR4d] at e
              rcases e with e | ⟨a, ha, e⟩
              · exact ⟨Nat.lt_of_lt_of_le (hlt19.2 j e) lx.keep.size, .inl e⟩
              · refine ⟨by have := hA10 a ha; omega, ?_⟩
                rcases fx.or a ha with ⟨b, hb, e2⟩ | e2
                · exact .inl (by have := hR2A b hb; rwa [← e, e2])
                · exact .inr (by omega))
            have hE2 : ∀ j, j < w.heap.size → R4 j := fun j e => by rw [hR4d]; exact .inl (hR2o j e)
            have hE3 : ∀ j, F8 j → R4 j ∧ ∀ a, A10 = some a → a.block ≠ j := fun j e => ⟨by rw [hR4d]; exact .inl (hR2F j e), fun a ha e2 => by
              rcases fx.or a ha with ⟨b, hb, e3⟩ | e3
              · exact (hRF j e).2 b hb (by omega)
              · have := hr8c.lt j e; omega⟩
            have hE4 : ∀ a, A10 = some a → R4 a.block ∧ a.block ≠ b1 := fun a ha => ⟨by rw [hR4d]; exact .inr ⟨a, ha, rfl⟩, by
              rcases fx.or a ha with ⟨b, hb, e3⟩ | e3
              · have := (hRA b hb).2; omega
              · have := hlt19.2 b1 hR2b; omega⟩
            have hE5 : (M.does xs[k].t).lasts.length + (M.does xs[k].t).waits.length ≤ k + 1 := by rw [dl1]; omega
            have hE6 : ∀ t ∈ (M.does xs[k].t).waits, t.name ∈ ns ++ [xs[k].t.name] := by
              intro t ht
              unfold Disk.does at ht
              split at ht
              · rcases List.mem_append.1 ht with h1 | h1
                · exact List.mem_append.2 (.inl (hnm t h1))
                · have e : t = xs[k].t := by simpa using h1
                  rw [e]; simp
              · exact List.mem_append.2 (.inl (hnm t ht))
            have hE7 : (ns ++ [xs[k].t.name]).length ≤ k + 1 := by simp; omega
            have hE8 : World.ownsRow w13 w.heap.size 9 1 (.slice A10 (ns ++ [xs[k].t.name]).length c10) (ns ++ [xs[k].t.name]).length (strs (ns ++ [xs[k].t.name])) := by
              have := ox.own
              simpa using this
            have hE9 : fsP l8 = (M.does xs[k].t).lasts := by rw [dl1]; exact hf8
            have hE10 : FsRow w13 F8 A8 l8 := hr8c.keep lx.keep (fun j e e2 => by obtain ⟨a, ha, e3⟩ := ownB_ex e2; exact (hRF j e).2 a ha e3)
            have hE11 : R4 b1 := by rw [hR4d]; exact .inl hR2b
            refine x_regionL ?_
            refine xl_v v_move ?_
            refine xl_v (v_add (by omega)) ?_
            refine xl_v v_assign ?_
            refine xl_nil ?_
            first
            | (refine ⟨_, ?_, rfl, k + 1, M.does xs[k].t, ns ++ [xs[k].t.name], A10, c10, A8, cb, l8, F8, R4, rfl, by omega, hE1, hE2, hE3, hE4, hE5, hE6, hE7, hE8, hE9, hE10, inferInstance, inferInstance, inferInstance, inferInstance, evc (by simp), inferInstance, evc, hE11, Blk.eq, lkc⟩; omega)
            | (refine ⟨_, ?_, rfl, k + 1, M.flush, [], none, 0, A9, c9, l9, F9, R4, rfl, by omega, hE1, hE2, hE3, hE4, hE5, hE6, hE7, hE8, hE9, hE10, inferInstance, inferInstance, inferInstance, inferInstance, evc, inferInstance, evc, hE11, Blk.eq, lkc⟩; omega)
          ·
            refine x_seq ?_
            refine x_regionL ?_
            refine xl_v v_eql ?_
            refine xl_v v_assign ?_
            refine xl_nil ?_
            first | refine x_condP (fun c5 => ?_) (fun c5 => ?_) | refine x_condN (fun c5 => ?_) (fun c5 => ?_) | refine x_condE (fun c5 => ?_) (fun c5 => ?_)
            ·
              refine x_regionL ?_
              refine xl_v v_move ?_
              refine xl_v (by first | exact v_fieldAddr | exact v_fieldAddrF (by decide) (by omega) | exact v_fieldAddrR (by first | assumption | rfl)) ?_
              refine xl_v (by first | exact v_load | exact v_loadO (by omega) | exact v_loadFf (by omega) | exact v_loadF0 (by omega)) ?_
              refine xl_call (remove_ok (blkP A7) R2 d M xs[k].t.name xs[k].t.n xs[k].t.bytes w7 (hD10.ext (kpc : Keep NoB _ w7)) (by omega) (by omega)) ?_
              rintro _ w14 ⟨rfl, hD2, lk3⟩
              have hT : xs[k].t = ⟨2, xs[k].t.name, xs[k].t.bytes, xs[k].t.n⟩ := by rw [← c5]
              rw [← hT] at hD2
              have hr8b := oldR_row (hr8w.ext (kpc : Keep NoB _ w7)) lk3 hR2F
              refine xl_nil ?_
              refine x_regionL ?_
              refine xl_v v_move ?_
              refine xl_v (by first | exact v_fieldAddr | exact v_fieldAddrF (by decide) (by omega) | exact v_fieldAddrR (by first | assumption | rfl)) ?_
              refine xl_v (by first | exact v_load | exact v_loadO (by omega) | exact v_loadFf (by omega) | exact v_loadF0 (by omega)) ?_
              refine xl_e (e_buildSlice1 rfl fun b15 w15 n15 l15 k15 => ?_)
              have hD2w := hD2.ext (kpc : Keep NoB _ w15)
              have hlt19 := hD2w.lt
              have hr8c := hr8b.ext (kpc : Keep NoB _ w15)
              refine xl_e (e_app (by simp) (by decide) (by omega) (by omega) Ge.le fun A10 c10 w16 ox lx ax fx => ?_)
              refine xl_v v_assign ?_
              refine xl_nil ?_
              obtain ⟨R4, hR4d⟩ : ∃ R4 : Nat → Prop, R4 = fun j => R2 j ∨ blkP A10 j := ⟨_, rfl⟩
              obtain ⟨dl1, dl2, _⟩ := does_len M xs[k].t
              have hA10 : ∀ a, A10 = some a → a.block < (w16).heap.size := fun a ha => (own_blk ox.own a ha).2
              have hE1 : DiskW (blkP A10) R4 d (M.does xs[k].t) w16 := hD2w.keep lx.keep (fun j _ e => ownB_ex e) (fun j e => by
                obtain ⟨a, ha, e⟩ := e
                refine ⟨by have := hA10 a ha; omega, ?_⟩
                rcases fx.or a ha with ⟨b, hb, e2⟩ | e2
                · exact .inl ⟨b, hb, by omega⟩
                · exact .inr (by omega)) (fun j e => by
                rw [hR4d] at e
                rcases e with e | ⟨a, ha, e⟩
                · exact ⟨Nat.lt_of_lt_of_le (hlt19.2 j e) lx.keep.size, .inl e⟩
                · refine ⟨by have := hA10 a ha; omega, ?_⟩
                  rcases fx.or a ha with ⟨b, hb, e2⟩ | e2
                  · exact .inl (by have := hR2A b hb; rwa [← e, e2])
                  · exact .inr (by omega))
              have hE2 : ∀ j, j < w.heap.size → R4 j := fun j e => by rw [hR4d]; exact .inl (hR2o j e)
              have hE3 : ∀ j, F8 j → R4 j ∧ ∀ a, A10 = some a → a.block ≠ j := fun j e => ⟨by rw [hR4d]; exact .inl (hR2F j e), fun a ha e2 => by
                rcases fx.or a ha with ⟨b, hb, e3⟩ | e3
                · exact (hRF j e).2 b hb (by omega)
                · have := hr8c.lt j e; omega⟩
              have hE4 : ∀ a, A10 = some a → R4 a.block ∧ a.block ≠ b1 := fun a ha => ⟨by rw [hR4d]; exact .inr ⟨a, ha, rfl⟩, by
                rcases fx.or a ha with ⟨b, hb, e3⟩ | e3
                · have := (hRA b hb).2; omega
                · have := hlt19.2 b1 hR2b; omega⟩
              have hE5 : (M.does xs[k].t).lasts.length + (M.does xs[k].t).waits.length ≤ k + 1 := by rw [dl1]; omega
              have hE6 : ∀ t ∈ (M.does xs[k].t).waits, t.name ∈ ns ++ [xs[k].t.name] := by
                intro t ht
                unfold Disk.does at ht
                split at ht
                · rcases List.mem_append.1 ht with h1 | h1
                  · exact List.mem_append.2 (.inl (hnm t h1))
                  · have e : t = xs[k].t := by simpa using h1
                    rw [e]; simp
                · exact List.mem_append.2 (.inl (hnm t ht))
              have hE7 : (ns ++ [xs[k].t.name]).length ≤ k + 1 := by simp; omega
              have hE8 : World.ownsRow w16 w.heap.size 9 1 (.slice A10 (ns ++ [xs[k].t.name]).length c10) (ns ++ [xs[k].t.name]).length (strs (ns ++ [xs[k].t.name])) := by
                have := ox.own
                simpa using this
              have hE9 : fsP l8 = (M.does xs[k].t).lasts := by rw [dl1]; exact hf8
              have hE10 : FsRow w16 F8 A8 l8 := hr8c.keep lx.keep (fun j e e2 => by obtain ⟨a, ha, e3⟩ := ownB_ex e2; exact (hRF j e).2 a ha e3)
              have hE11 : R4 b1 := by rw [hR4d]; exact .inl hR2b
              refine x_regionL ?_
              refine xl_v v_move ?_
              refine xl_v (v_add (by omega)) ?_
              refine xl_v v_assign ?_
              refine xl_nil ?_
              first
              | (refine ⟨_, ?_, rfl, k + 1, M.does xs[k].t, ns ++ [xs[k].t.name], A10, c10, A8, cb, l8, F8, R4, rfl, by omega, hE1, hE2, hE3, hE4, hE5, hE6, hE7, hE8, hE9, hE10, inferInstance, inferInstance, inferInstance, inferInstance, evc (by simp), inferInstance, evc, hE11, Blk.eq, lkc⟩; omega)
              | (refine ⟨_, ?_, rfl, k + 1, M.flush, [], none, 0, A9, c9, l9, F9, R4, rfl, by omega, hE1, hE2, hE3, hE4, hE5, hE6, hE7, hE8, hE9, hE10, inferInstance, inferInstance, inferInstance, inferInstance, evc, inferInstance, evc, hE11, Blk.eq, lkc⟩; omega)
            ·
              refine x_seq ?_
              refine x_regionL ?_
              refine xl_v v_move ?_
              refine xl_call (flush_ok (blkP A7) R2 d M w7 (hD10.ext (kpc : Keep NoB _ w7))) ?_
              rintro _ w17 ⟨rfl, hD2, lk3⟩
              refine xl_nil ?_
              refine x_seq ?_
              refine x_regionL ?_
              refine xl_v v_move ?_
              refine xl_call (files_ok (blkP A7) R2 d M.flush w17 (hD2.ext (kpc : Keep NoB _ w17))) ?_
              rintro _ w18 ⟨⟨A9, c9, l9, F9, rfl, hf9, hr9, hF9⟩, lk9⟩
              have hlt12 := hD2.lt
              refine xl_v v_assign ?_
              refine xl_v v_assign ?_
              refine xl_nil ?_
              obtain ⟨R4, hR4d⟩ : ∃ R4 : Nat → Prop, R4 = fun j => R2 j ∨ F9 j := ⟨_, rfl⟩
              have hfl := fold_len M.waits M.lasts
              have hE1 : DiskW (blkP none) R4 d M.flush w18 := hD2.keep (kpc : Keep NoB _ w18) (fun _ _ h => h.elim) (fun j e => by obtain ⟨a, ha, _⟩ := e; cases ha) (fun j e => by
                rw [hR4d] at e
                rcases e with e | e
                · exact ⟨Nat.lt_of_lt_of_le (hlt12.2 j e) Ge.le, .inl e⟩
                · exact ⟨hr9.lt j e, .inr (hF9 j e)⟩)
              have hE2 : ∀ j, j < w.heap.size → R4 j := fun j e => by rw [hR4d]; exact .inl (hR2o j e)
              have hE3 : ∀ j, F9 j → R4 j ∧ ∀ a, (none : Option Addr) = some a → a.block ≠ j := fun j e => ⟨by rw [hR4d]; exact .inr e, fun a ha => by cases ha⟩
              have hE4 : ∀ a, (none : Option Addr) = some a → R4 a.block ∧ a.block ≠ b1 := fun a ha => by cases ha
              have hE5 : M.flush.lasts.length + M.flush.waits.length ≤ k + 1 := by
                show (M.waits.foldl Dm.done M.lasts).length + 0 ≤ k + 1
                omega
              have hE6 : ∀ t ∈ M.flush.waits, t.name ∈ ([] : List ByteArray) := nofun
              have hE7 : ([] : List ByteArray).length ≤ k + 1 := by simp
              have hE8 : World.ownsRow w18 w.heap.size 9 1 (.slice none 0 0) 0 (strs []) := World.ownsRow_nil _ _ _ _
              have hE9 : fsP l9 = M.flush.lasts := hf9
              have hE10 : FsRow w18 F9 A9 l9 := hr9
              have hE11 : R4 b1 := by rw [hR4d]; exact .inl hR2b
              refine x_exit ?_
              refine x_regionL ?_
              refine xl_v v_move ?_
              refine xl_v (v_add (by omega)) ?_
              refine xl_v v_assign ?_
              refine xl_nil ?_
              first
              | (refine ⟨_, ?_, rfl, k + 1, M.does xs[k].t, ns ++ [xs[k].t.name], A10, c10, A8, cb, l8, F8, R4, rfl, by omega, hE1, hE2, hE3, hE4, hE5, hE6, hE7, hE8, hE9, hE10, inferInstance, inferInstance, inferInstance, inferInstance, evc (by simp), inferInstance, evc, hE11, Blk.eq, lkc⟩; omega)
              | (refine ⟨_, ?_, rfl, k + 1, M.flush, [], none, 0, A9, c9, l9, F9, R4, rfl, by omega, hE1, hE2, hE3, hE4, hE5, hE6, hE7, hE8, hE9, hE10, inferInstance, inferInstance, inferInstance, inferInstance, evc, inferInstance, evc, hE11, Blk.eq, lkc⟩; omega)
      ·
        refine x_exit ?_
        refine x_seq ?_
        refine x_regionL ?_
        refine xl_v v_move ?_
        refine xl_call (files_ok (blkP A7) R d M w5 (hD.ext (kpc : Keep NoB _ w5))) ?_
        rintro _ w19 ⟨⟨A11, c11, l11, F11, rfl, hf11, hr11, hF11⟩, lk11⟩
        have hDe := hD.ok
        refine xl_v v_assign ?_
        refine xl_nil ?_
        refine x_seq ?_
        refine x_regionL ?_
        refine xl_v v_move ?_
        refine xl_v v_build ?_
        refine xl_call (crash_ok (blkP A7) R d M 0 0 w19 (hD.ext (kpc : Keep NoB _ w19)) ⟨by decide, by decide⟩ ⟨by decide, by decide⟩) ?_
        rintro _ w20 ⟨⟨x, rfl, hX, hgx⟩, lk12⟩
        refine xl_v v_move ?_
        refine xl_v v_extract ?_
        refine xl_v v_extract ?_
        refine xl_v v_assign ?_
        refine xl_v v_assign ?_
        refine xl_nil ?_
        refine x_seq ?_
        refine x_regionL ?_
        refine xl_v v_move ?_
        refine xl_v v_move ?_
        refine xl_call (waits_ok (blkP A7) R d M w20 (hD.ext (kpc : Keep NoB _ w20))) ?_
        rintro _ w21 ⟨rfl, lk13⟩
        refine xl_v v_build ?_
        refine xl_call (crash_ok (blkP A7) R d M (M.waits.length : Int) 0 w21 (hD.ext (kpc : Keep NoB _ w21)) ⟨by omega, by omega⟩ ⟨by decide, by decide⟩) ?_
        rintro _ w22 ⟨⟨y, rfl, hY, hgy⟩, lk14⟩
        refine xl_v v_move ?_
        refine xl_v v_extract ?_
        refine xl_v v_extract ?_
        refine xl_v v_assign ?_
        refine xl_v v_assign ?_
        refine xl_nil ?_
        refine x_seq ?_
        refine x_regionL ?_
        refine xl_v v_move ?_
        refine xl_v (by first | exact v_loadA | exact v_loadF (by decide) (by omega)) ?_
        refine xl_call (crash_ok (blkP A7) R d M kp tn w22 (hD.ext (kpc : Keep NoB _ w22)) hkp htn) ?_
        rintro _ w23 ⟨⟨z, rfl, hZ, hgz⟩, lk15⟩
        refine xl_v v_move ?_
        refine xl_v v_extract ?_
        refine xl_v v_extract ?_
        refine xl_v v_assign ?_
        refine xl_v v_assign ?_
        refine xl_nil ?_
        refine x_seq ?_
        refine x_seq ?_
        refine x_regionL ?_
        refine xl_v v_move ?_
        refine xl_call (num_ok _ _) ?_
        rintro _ _ ⟨rfl, rfl⟩
        refine xl_v v_move ?_
        refine xl_call (num_ok _ _) ?_
        rintro _ _ ⟨rfl, rfl⟩
        refine xl_v (v_add (by omega)) ?_
        refine xl_v v_move ?_
        refine xl_call (num_ok _ _) ?_
        rintro _ _ ⟨rfl, rfl⟩
        refine xl_v (v_add (by omega)) ?_
        refine xl_v v_move ?_
        refine xl_call (num_ok _ _) ?_
        rintro _ _ ⟨rfl, rfl⟩
        refine xl_v (v_add (by omega)) ?_
        refine xl_v (v_congr (u := .bool false) v_neq (by simp)) ?_
        refine xl_v v_move ?_
        refine xl_gv rfl EvO.eq v_move ?_
        refine xl_gcall rfl EvO.eq (files_ok (blkP A7) _ x (M.crash 0 0) w23 (hX.ext (kpc : Keep NoB _ w23))) ?_
        rintro _ w28 ⟨⟨A21, c21, l21, F21, rfl, hf21, hr21, hF21⟩, lk21⟩
        have hl21 : l21.length ≤ 10000 := by rw [← fsP_len, hf21]; exact files_len hX.ok.2
        have hl8 : l8.length ≤ 10000 := by rw [← fsP_len, hf8]; omega
        refine xl_gv rfl EvO.eq v_move ?_
        refine xl_gcall rfl EvO.eq (sameFiles_ok A21 A8 c21 cb l21 l8 F21 F8 w28 (hr21.ext (kpc : Keep NoB _ w28)) (hr8.ext (kpc : Keep NoB _ w28)) (by omega) (by omega)) ?_
        rintro _ w29 ⟨rfl, lk22⟩
        rw [decide_eq_true (show fsP l21 = fsP l8 by rw [hf21, crash_files, crash_none, hf8])]
        refine xl_gv rfl EvO.eq v_not ?_
        refine xl_v (by first | exact v_pickT | exact v_pickF | exact v_pick) ?_
        refine xl_v v_move ?_
        refine xl_gv rfl EvO.eq v_move ?_
        refine xl_gcall rfl EvO.eq (files_ok (blkP A7) _ y (M.crash (M.waits.length : Int) 0) w29 (hY.ext (kpc : Keep NoB _ w29))) ?_
        rintro _ w30 ⟨⟨A23, c23, l23, F23, rfl, hf23, hr23, hF23⟩, lk23⟩
        have hl23 : l23.length ≤ 10000 := by rw [← fsP_len, hf23]; exact files_len hY.ok.2
        have hl11 : l11.length ≤ 10000 := by rw [← fsP_len, hf11]; exact files_len hDe.2
        refine xl_gv rfl EvO.eq v_move ?_
        refine xl_gcall rfl EvO.eq (sameFiles_ok A23 A11 c23 c11 l23 l11 F23 F11 w30 (hr23.ext (kpc : Keep NoB _ w30)) (hr11.ext (kpc : Keep NoB _ w30)) (by omega) (by omega)) ?_
        rintro _ w31 ⟨rfl, lk24⟩
        rw [decide_eq_true (show fsP l23 = fsP l11 by rw [hf23, crash_files, crash_all, hf11])]
        refine xl_gv rfl EvO.eq v_not ?_
        refine xl_v (by first | exact v_pickT | exact v_pickF | exact v_pick) ?_
        refine xl_nil ?_
        refine x_condF ?_
        refine x_skip ?_
        refine x_seq ?_
        refine x_seq ?_
        refine x_regionL ?_
        refine xl_v v_assign ?_
        refine xl_nil ?_
        refine x_block ?_
        have hZw := hZ.ext (kpc : Keep NoB _ w31)
        have hr8w := hr8.ext (kpc : Keep NoB _ w31)
        have ho7w := own_ext ho7 (lkc : Lk w31 _ NoB)
        have hr7w : Row w31 A7 (strs ns) := ⟨(FRow.of_own ho7w).row⟩
        have hDok := hDe.1
        have hl8' : l8.length ≤ 10000 := hl8
        refine x_loop (fun m τ ds w' => ds = [] ∧ ∃ (i : Nat), m = l8.length - i ∧ i ≤ l8.length ∧ Ev τ 7 (.slice A7 ns.length ca) ∧ Ev τ 8 (.slice A8 l8.length cb) ∧ Ev τ 16 (.pointer (some ⟨z, 0, none⟩)) ∧ Ev τ 18 (.int .i64 (i : Int)) ∧ Lk w' w31 NoB) (l8.length) ?start ?round
        case start =>
          exact ⟨rfl, 0, rfl, by omega, inferInstance, inferInstance, inferInstance, evc, lkc⟩
        case round =>
          intro m τ32 ds32 w32 hI
          obtain ⟨rfl, i, rfl, hi, e7, e8, e16, e18, lkr⟩ := hI
          have hr8r := hr8w.ext lkr.keep
          have hZr := hZw.ext lkr.keep
          haveI hr7r : Row w32 A7 (strs ns) := ⟨hr7w.row.keep lkr.keep (fun _ _ h => h)⟩
          haveI hr8i : Row w32 A8 (l8.flatMap fileC) := ⟨hr8r.row.row⟩
          refine x_seq ?_
          refine x_seq ?_
          refine x_regionL ?_
          refine xl_v v_move ?_
          refine xl_v v_move ?_
          refine xl_v v_len ?_
          refine xl_v v_lss ?_
          refine xl_nil ?_
          first | refine x_condP (fun c7 => ?_) (fun c7 => ?_) | refine x_condN (fun c7 => ?_) (fun c7 => ?_) | refine x_condE (fun c7 => ?_) (fun c7 => ?_)
          ·
            have hi1 : i < l8.length := by omega
            haveI : Row w32 l8[i].2.A (bytesC l8[i].2.bytes) := ⟨(hr8r.items _ (List.getElem_mem hi1)).row⟩
            have hmem : (l8[i].1, l8[i].2.bytes) ∈ M.lasts := by rw [← hf8]; exact List.mem_map.2 ⟨l8[i], List.getElem_mem hi1, rfl⟩
            have hnok := hDok.names _ hmem
            have hakey : akey M.lasts l8[i].1 = some l8[i].2.bytes := (akey_mem hDok.rise.nodup).2 hmem
            refine x_skip ?_
            refine x_seq ?_
            refine x_block ?_
            refine x_seq ?_
            refine x_regionL ?_
            refine xl_v v_assign ?_
            refine xl_nil ?_
            refine x_seq ?_
            refine x_seq ?_
            refine x_regionL ?_
            refine xl_v v_assign ?_
            refine xl_nil ?_
            refine x_block ?_
            refine x_loop (fun m τ ds w' => ds = [] ∧ ∃ (j : Nat), m = ns.length - j ∧ j ≤ ns.length ∧ Ev τ 7 (.slice A7 ns.length ca) ∧ Ev τ 8 (.slice A8 l8.length cb) ∧ Ev τ 16 (.pointer (some ⟨z, 0, none⟩)) ∧ Ev τ 18 (.int .i64 (i : Int)) ∧ Ev τ 19 (.bool ((ns.take j).all (fun s => !decide (s = l8[i].1)))) ∧ Ev τ 20 (.int .i64 (j : Int)) ∧ Lk w' w32 NoB) (ns.length) ?start ?round
            case start =>
              exact ⟨rfl, 0, rfl, by omega, inferInstance, inferInstance, inferInstance, inferInstance, evc, evc, lkc⟩
            case round =>
              intro m τ33 ds33 w33 hI
              obtain ⟨rfl, j, rfl, hj, e7, e8, e16, e18, e19, e20, lkj⟩ := hI
              haveI hr7j : Row w33 A7 (strs ns) := ⟨hr7r.row.keep lkj.keep (fun _ _ h => h)⟩
              haveI hr8j : Row w33 A8 (l8.flatMap fileC) := ⟨hr8i.row.keep lkj.keep (fun _ _ h => h)⟩
              refine x_seq ?_
              refine x_seq ?_
              refine x_regionL ?_
              refine xl_v v_move ?_
              refine xl_v v_move ?_
              refine xl_v v_len ?_
              refine xl_v v_lss ?_
              refine xl_nil ?_
              first | refine x_condP (fun c8 => ?_) (fun c8 => ?_) | refine x_condN (fun c8 => ?_) (fun c8 => ?_) | refine x_condE (fun c8 => ?_) (fun c8 => ?_)
              ·
                have hj1 : j < ns.length := by omega
                refine x_skip ?_
                refine x_seq ?_
                refine x_block ?_
                refine x_drawL (NoB) (.take 0 (.take 1 (.take 2 (.take 3 (.take 4 (.take 5 (.take 6 (.take 7 (.take 8 (.take 9 (.take 10 (.take 11 (.take 12 (.take 13 .done)))))))))))))) mixed (by kernel_rfl) (fun _ _ _ _ _ h => h) (fun w34 l34 => ?_)
                refine xt_v rfl v_move ?_
                refine xt_v rfl v_move ?_
                refine xt_split 135 (fun g135 => ?_) (fun g135 => ?_)
                ·
                  refine xt_gv rfl rfl EvO.eq v_move ?_
                  refine xt_gv rfl rfl EvO.eq v_move ?_
                  refine xt_gv rfl rfl EvO.eq (v_indexAddr j rfl (by omega) (row_some hr7j (by simp; omega))) ?_
                  refine xt_gv rfl rfl EvO.eq (v_loadR (v := .string ns[j]) (by rw [Nat.mul_one]; simp [hj1])) ?_
                  refine xt_gv rfl rfl EvO.eq v_move ?_
                  refine xt_gv rfl rfl EvO.eq v_move ?_
                  refine xt_gv rfl rfl EvO.eq (v_indexF i (by decide) rfl (by omega) hi1) ?_
                  refine xt_gv rfl rfl EvO.eq (by first | exact v_fieldAddr | exact v_fieldAddrF (by decide) (by omega) | exact v_fieldAddrR (by first | assumption | rfl)) ?_
                  refine xt_gv rfl rfl EvO.eq (v_loadF0 hi1) ?_
                  refine xt_gv rfl rfl EvO.eq (v_sneq) ?_
                  refine xt_v rfl (by first | exact v_pickT | exact v_pickF | exact v_pick) ?_
                  refine xt_v rfl v_assign ?_
                  refine xt_nil ?_
                  refine x_regionL ?_
                  refine xl_v v_move ?_
                  refine xl_v (v_add (by omega)) ?_
                  refine xl_v v_assign ?_
                  refine xl_nil ?_
                  refine ⟨_, ?_, rfl, j + 1, rfl, by omega, inferInstance, inferInstance, inferInstance, inferInstance, evc (congrArg Value.bool (by rw [take_snoc _ j hj1, List.all_append, g135]; simp)), evc, lkc⟩
                  omega
                ·
                  refine xt_gs rfl rfl EvO.eq ?_
                  refine xt_gs rfl rfl EvO.eq ?_
                  refine xt_gs rfl rfl EvO.eq ?_
                  refine xt_gs rfl rfl EvO.eq ?_
                  refine xt_gs rfl rfl EvO.eq ?_
                  refine xt_gs rfl rfl EvO.eq ?_
                  refine xt_gs rfl rfl EvO.eq ?_
                  refine xt_gs rfl rfl EvO.eq ?_
                  refine xt_gs rfl rfl EvO.eq ?_
                  refine xt_gs rfl rfl EvO.eq ?_
                  refine xt_v rfl (by first | exact v_pickT | exact v_pickF | exact v_pick) ?_
                  refine xt_v rfl v_assign ?_
                  refine xt_nil ?_
                  refine x_regionL ?_
                  refine xl_v v_move ?_
                  refine xl_v (v_add (by omega)) ?_
                  refine xl_v v_assign ?_
                  refine xl_nil ?_
                  refine ⟨_, ?_, rfl, j + 1, rfl, by omega, inferInstance, inferInstance, inferInstance, inferInstance, evc (congrArg Value.bool (by rw [take_snoc _ j hj1, List.all_append, g135]; simp)), evc, lkc⟩
                  omega
              ·
                have hjn : j = ns.length := by omega
                have hjt : ns.take j = ns := List.take_of_length_le (by omega)
                rw [hjt] at e19
                haveI : Row w33 l8[i].2.A (bytesC l8[i].2.bytes) := inferInstance
                refine x_exit ?_
                refine x_seq ?_
                refine x_regionL ?_
                refine xl_v v_move ?_
                refine xl_v v_move ?_
                refine xl_v v_move ?_
                refine xl_v (v_indexF i (by decide) rfl (by omega) hi1) ?_
                refine xl_v (by first | exact v_fieldAddr | exact v_fieldAddrF (by decide) (by omega) | exact v_fieldAddrR (by first | assumption | rfl)) ?_
                refine xl_v (v_loadF0 hi1) ?_
                refine xl_call (read_ok (blkP A7) _ z (M.crash kp tn) l8[i].1 w33 (hZr.ext (kpc : Keep NoB _ w33))) ?_
                rintro _ w35 ⟨⟨A31, c31, rfl, ho31⟩, lk31⟩
                haveI : OwnI w35 A31 _ _ _ _ _ _ _ := ⟨ho31⟩
                refine xl_v v_move ?_
                refine xl_v v_extract ?_
                refine xl_v v_extract ?_
                refine xl_v v_assign ?_
                refine xl_v v_assign ?_
                refine xl_nil ?_
                refine x_seq ?_
                refine x_drawL (NoB) (.take 0 (.take 1 (.take 2 (.eff 3 (.take 4 (.take 5 (.take 6 (.take 7 (.take 8 (.take 9 (.take 10 (.take 11 (.take 12 (.take 13 (.take 14 (.take 15 (.take 16 .done))))))))))))))))) mixed (by kernel_rfl) (fun _ _ _ _ _ h => h) (fun w36 l36 => ?_)
                refine xt_v rfl v_move ?_
                refine xt_v rfl v_move ?_
                refine xt_split 158 (fun g158 => ?_) (fun g158 => ?_)
                ·
                  have hawy : akey (M.crash kp tn).files l8[i].1 = some l8[i].2.bytes := by
                    rw [crash_away M kp tn l8[i].1 (fun t ht e => by
                      have h1 := List.all_eq_true.1 g158 t.name (hnm t ht)
                      simp [e] at h1), hakey]
                  have hrn : readNo (M.crash kp tn).files l8[i].1 = 0 := by simp [readNo, hnok, hawy]
                  have hrb2 : readB (M.crash kp tn).files l8[i].1 = l8[i].2.bytes := by simp [readB, hnok, hawy]
                  refine xt_gv rfl rfl EvO.eq v_move ?_
                  refine xt_gcall rfl rfl EvO.eq (num_ok _ _) ?_
                  rintro _ _ ⟨rfl, rfl⟩
                  refine ⟨kpc, ?_⟩
                  refine xt_gv rfl rfl EvO.eq (v_congr (u := .bool false) v_neq (by rw [hrn]; simp)) ?_
                  refine xt_gv rfl rfl EvO.eq v_move ?_
                  refine xt_gv rfl rfl EvO.eq v_move ?_
                  refine xt_gv rfl rfl EvO.eq (v_bytesStr (xs := readB (M.crash kp tn).files l8[i].1) rfl) ?_
                  refine xt_gv rfl rfl EvO.eq v_move ?_
                  refine xt_gv rfl rfl EvO.eq v_move ?_
                  refine xt_gv rfl rfl EvO.eq (v_indexF i (by decide) rfl (by omega) hi1) ?_
                  refine xt_gv rfl rfl EvO.eq (by first | exact v_fieldAddr | exact v_fieldAddrF (by decide) (by omega) | exact v_fieldAddrR (by first | assumption | rfl)) ?_
                  refine xt_gv rfl rfl EvO.eq (v_loadFf hi1) ?_
                  refine xt_gv rfl rfl EvO.eq (v_bytesStr (xs := l8[i].2.bytes) rfl) ?_
                  refine xt_gv rfl rfl EvO.eq (v_congr (u := .bool false) v_sneq (by rw [hrb2]; simp)) ?_
                  refine xt_gv rfl rfl EvO.eq (by first | exact v_pickT | exact v_pickF | exact v_pick) ?_
                  refine xt_v rfl (by first | exact v_pickT | exact v_pickF | exact v_pick) ?_
                  refine xt_nil ?_
                  refine x_condF ?_
                  refine x_skip ?_
                  refine x_regionL ?_
                  refine xl_v v_move ?_
                  refine xl_v (v_add (by omega)) ?_
                  refine xl_v v_assign ?_
                  refine xl_nil ?_
                  refine ⟨_, ?_, rfl, i + 1, rfl, by omega, inferInstance, inferInstance, inferInstance, evc, lkc⟩
                  omega
                ·
                  refine xt_gs rfl rfl EvO.eq ?_
                  refine xt_gse rfl rfl EvO.eq ?_
                  refine xt_gs rfl rfl EvO.eq ?_
                  refine xt_gs rfl rfl EvO.eq ?_
                  refine xt_gu rfl rfl EvO.eq ?_
                  refine xt_gu rfl rfl EvO.eq ?_
                  refine xt_gu rfl rfl EvO.eq ?_
                  refine xt_gu rfl rfl EvO.eq ?_
                  refine xt_gu rfl rfl EvO.eq ?_
                  refine xt_gu rfl rfl EvO.eq ?_
                  refine xt_gu rfl rfl EvO.eq ?_
                  refine xt_gu rfl rfl EvO.eq ?_
                  refine xt_gu rfl rfl EvO.eq ?_
                  refine xt_gs rfl rfl EvO.eq ?_
                  refine xt_v rfl (by first | exact v_pickT | exact v_pickF | exact v_pick) ?_
                  refine xt_nil ?_
                  refine x_condF ?_
                  refine x_skip ?_
                  refine x_regionL ?_
                  refine xl_v v_move ?_
                  refine xl_v (v_add (by omega)) ?_
                  refine xl_v v_assign ?_
                  refine xl_nil ?_
                  refine ⟨_, ?_, rfl, i + 1, rfl, by omega, inferInstance, inferInstance, inferInstance, evc, lkc⟩
                  omega
          ·
            refine x_exit ?_
            refine x_seq ?_
            refine x_regionL ?_
            refine xl_call (works_ok w32) ?_
            rintro _ w38 ⟨rfl, lkw⟩
            refine xl_v v_assign ?_
            refine xl_nil ?_
            refine x_ret ?_
            refine fin1 rfl ?_
            exact ⟨rfl, lkc⟩
end Go.Proofs.Ytabknhgbijcklaa
