/-
  Walks, printed by a program of this workplace (wip/tools/sx.py) off the functions' code and a text of contracts.
-/
import Derived.Test.YtabknhgbijcklaaV
set_option linter.all false
set_option maxRecDepth 100000
set_option synthInstance.maxSize 100000
set_option synthInstance.maxHeartbeats 400000
namespace Go.Proofs.Ytabknhgbijcklaa
open Go.Wst
open Go.Wst.Dm
theorem step_len (M : Disk) (t : Thing) : (M.step t).lasts.length + (M.step t).waits.length ≤ M.lasts.length + M.waits.length + 1 := by
  unfold Disk.step
  split
  · obtain ⟨h1, h2, _⟩ := does_len M t
    rw [h1]; omega
  · have := fold_len M.waits M.lasts
    show (M.waits.foldl Dm.done M.lasts).length + 0 ≤ _
    omega
theorem new3_ok (room : Int) (w : World) (hm : 1 ≤ room ∧ room ≤ 16777216) :
    Ret Try.prog 13 #[.int .i64 room] w (fun v w' => (∃ d, v = .tuple #[.pointer (some ⟨d, 0, none⟩), .int .i64 0] ∧ DiskW (fun k => k < w.heap.size) (fun k => k < w.heap.size) d ⟨room, [], []⟩ w' ∧ w.heap.size ≤ d) ∧ Lk w' w NoB) := by
  refine (new_ok room w).mono ?_
  rintro v w' ⟨h, lk⟩
  rw [if_pos hm] at h
  obtain ⟨d, mb, ml, rfl, h1, h2, h3, h4⟩ := h
  exact ⟨⟨d, rfl, DiskW.new h1 hm (fun k e => ⟨Nat.lt_of_lt_of_le e lk.keep.size, by omega, by omega, by omega⟩) (fun k e => ⟨Nat.lt_of_lt_of_le e lk.keep.size, by omega, by omega, by omega⟩), h2⟩, lk⟩
theorem refS_new {room : Int} (hm : 1 ≤ room ∧ room ≤ 16777216) : RefS ⟨room, [], none, 0, [], none, 0⟩ ⟨room, [], []⟩ := ⟨rfl, rfl, rfl, ⟨hm.1, hm.2, by simp [Rise], nofun, by show ((0 : Nat) : Int) ≤ room; omega⟩, by simp, nofun⟩
theorem PairD.new {P R P' R' : Nat → Prop} {d : Nat} {room : Int} {w W : World} (h : DiskW P R d ⟨room, [], []⟩ w) (hk : Keep NoB w W) (hm : 1 ≤ room ∧ room ≤ 16777216) (hP : ∀ k, P' k → k < W.heap.size ∧ (P k ∨ w.heap.size ≤ k)) (hR : ∀ k, R' k → k < W.heap.size ∧ (R k ∨ w.heap.size ≤ k)) : PairD P' R' d ⟨room, [], []⟩ ⟨room, [], none, 0, [], none, 0⟩ W :=
  ⟨refS_new hm, NoB, h.keep hk (fun _ _ h => h.elim) hP (fun k e => hR k (e.elim id (fun e => e.elim))), refAt_nil _ _ (fun k e => e.elim) _, fun k e => e.elim⟩
theorem is2_ok (P R : Nat → Prop) (d : Nat) (M : Disk) (Rf : LRef) (w : World) (h : PairD P R d M Rf w) :
    Ret Try.prog 33 #[.pointer (some ⟨d, 0, none⟩), .agg (refC Rf).toArray] w (fun v w' => v = .bool true ∧ Lk w' w NoB) := by
  obtain ⟨F, h1, h2, h3⟩ := h.ex
  exact is_ok P _ d M Rf F w h1 h2 h.pure

/-- waystation/waystationlaw03.played -/
theorem played_ok (room : Int) (A : Option Addr) (n c : Nat) (xs : List LT) (w w00 : World) (hm : 1 ≤ room ∧ room ≤ 16777216) [hra : RowB w A w00 (xs.flatMap thC)] (hrs : ∀ j (h : j < xs.length), RowB w xs[j].A w00 (bytesC xs[j].t.bytes)) (hcs : ∀ j (h : j < xs.length), xs[j].t.bytes.length ≤ xs[j].c) (hns : ∀ j (h : j < xs.length), In64 xs[j].t.n) (hl : xs.length = n) (hn : n ≤ 66 ∧ ∀ j (h : j < xs.length), xs[j].t.bytes.length ≤ 4000 ∧ xs[j].t.name.size ≤ 4000) (hge : w00.heap.size ≤ w.heap.size) : Ret Try.prog 28 #[.int .i64 room, .slice A n c] w (fun v w' => (∃ d M Rf, v = .tuple #[.pointer (some ⟨d, 0, none⟩), .agg (refC Rf).toArray, .bool true] ∧ PairD (fun k => w00.heap.size ≤ k ∧ k < w.heap.size) (fun k => k < w.heap.size) d M Rf w' ∧ M.lasts.length + M.waits.length ≤ n ∧ w.heap.size ≤ d) ∧ Lk w' w NoB) := by
  haveI : Ge w w00 := ⟨hge⟩
  refine ret_of_x (N := 57) (l := [.int .i64 room, .slice A n c]) Try.func28 rfl rfl (Nat.le_of_ble_eq_true rfl) ?_
  refine x_seq ?_
  refine x_regionL ?_
  refine xl_v v_assign ?_
  refine xl_e (e_alloc fun b1 w1 n1 l1 k1 => ?_)
  refine xl_v v_assign ?_
  refine xl_nil ?_
  refine x_seq ?_
  refine x_regionL ?_
  refine xl_v v_move ?_
  refine xl_call (new3_ok room w1 hm) ?_
  rintro _ w2 ⟨⟨d, rfl, hD0, hgd⟩, lk1⟩
  obtain ⟨hD0W, hD0e⟩ : ∃ W, W = w2 := ⟨_, rfl⟩
  have hgp1 := (Ge.le : w.heap.size ≤ (w1).heap.size)
  have hb1p : b1 < (w1).heap.size := Has.lt
  refine xl_v v_move ?_
  refine xl_v v_extract ?_
  refine xl_v v_extract ?_
  refine xl_v v_assign ?_
  refine xl_v v_assign ?_
  refine xl_nil ?_
  refine x_seq ?_
  refine x_regionL ?_
  refine xl_v v_move ?_
  refine xl_call (refnew_ok room w2) ?_
  rintro _ w3 ⟨hnw, lk2⟩
  rw [if_pos hm] at hnw
  obtain rfl := hnw
  refine xl_v v_move ?_
  refine xl_v v_extract ?_
  refine xl_v v_extract ?_
  refine xl_e (e_alloc fun b9 w4 n9 l9 k9 => ?_)
  refine xl_s (e_storeA fun w5 l5 k5 => ?_)
  refine xl_v v_assign ?_
  refine xl_nil ?_
  refine x_seq ?_
  refine x_regionL ?_
  refine xl_v v_move ?_
  refine xl_call (num_ok _ _) ?_
  rintro _ _ ⟨rfl, rfl⟩
  refine xl_v (v_congr (u := .bool true) v_eql (by simp)) ?_
  refine xl_v v_move ?_
  refine xl_gv rfl EvO.eq v_move ?_
  refine xl_gv rfl EvO.eq (v_congr (u := .bool true) v_eql (by simp)) ?_
  refine xl_v (by first | exact v_pickT | exact v_pickF | exact v_pick) ?_
  refine xl_v v_assign ?_
  refine xl_nil ?_
  refine x_seq ?_
  refine x_seq ?_
  refine x_regionL ?_
  refine xl_v v_assign ?_
  refine xl_nil ?_
  refine x_block ?_
  have hb9w : w.heap.size ≤ b9 := by rw [n9.eq]; exact Ge.le
  have hb1w9 : w.heap.size ≤ b1 := by rw [n1.eq]; exact Nat.le_refl _
  obtain ⟨P, hPd⟩ : ∃ P : Nat → Prop, P = fun k => (w00.heap.size ≤ k ∧ k < w.heap.size) ∨ k = b1 ∨ k = b9 := ⟨_, rfl⟩
  obtain ⟨R, hRd⟩ : ∃ R : Nat → Prop, R = fun k => k < w.heap.size ∨ k = b1 ∨ k = b9 := ⟨_, rfl⟩
  have hb9n : b9 < (w5).heap.size := Has.lt
  have hszw := (Ge.le : w.heap.size ≤ (w5).heap.size)
  have hb9g : hD0W.heap.size ≤ b9 := by rw [n9.eq, hD0e]; exact Ge.le
  have hb1g : b1 < hD0W.heap.size := by rw [hD0e]; exact Nat.lt_of_lt_of_le hb1p Ge.le
  rw [hD0e] at hb9g hb1g
  have hwD : hD0W.heap.size ≤ (w5).heap.size := by rw [hD0e]; exact Ge.le
  rw [hD0e] at hwD
  have hP0 : PairD P R d ⟨room, [], []⟩ ⟨room, [], none, 0, [], none, 0⟩ w5 := PairD.new hD0 (kpc : Keep NoB _ w5) hm (by
    intro k e
    rw [hPd] at e
    rcases e with e | e | e
    · exact ⟨by omega, .inl (show k < _ by omega)⟩
    · exact ⟨by omega, .inl (show k < _ by omega)⟩
    · exact ⟨by omega, .inr (by omega)⟩) (by
    intro k e
    rw [hRd] at e
    rcases e with e | e | e
    · exact ⟨by omega, .inl (show k < _ by omega)⟩
    · exact ⟨by omega, .inl (show k < _ by omega)⟩
    · exact ⟨by omega, .inr (by omega)⟩)
  have hb1w : (w5).heap[b1]? = _ := Blk.eq
  haveI : SubF (NotP R) NoB w := ⟨fun k hk e => e (by rw [hRd]; exact .inl hk)⟩
  haveI : Above (NotP R) w00 := ⟨fun k e => Nat.le_of_not_lt (fun h => e (by rw [hRd]; exact .inl (by omega)))⟩
  haveI : NotS (NotP R) b1 := ⟨fun e => e (by rw [hRd]; exact .inr (.inl rfl))⟩
  haveI : NotS (NotP R) b9 := ⟨fun e => e (by rw [hRd]; exact .inr (.inr rfl))⟩
  refine x_loop (fun m τ ds w' => ds = [] ∧ ∃ (k : Nat) (M : Disk) (Rf : LRef), m = n - k ∧ k ≤ n ∧ PairD P R d M Rf w' ∧ M.lasts.length + M.waits.length ≤ k ∧ w'.heap[b9]? = some (.cells (refC Rf).toArray 54 (0, 0)) ∧ w'.heap[b1]? = some (.cells (refC RefZ).toArray 54 (0, 0)) ∧ Ev τ 1 (.slice A n c) ∧ Ev τ 5 (.pointer (some ⟨b1, 0, none⟩)) ∧ Ev τ 7 (.pointer (some ⟨d, 0, none⟩)) ∧ Ev τ 9 (.pointer (some ⟨b9, 0, none⟩)) ∧ Ev τ 11 (.bool true) ∧ Ev τ 12 (.int .i64 (k : Int)) ∧ Lk w' w NoB) (n) ?start ?round
  case start =>
    exact ⟨rfl, 0, _, _, rfl, by omega, hP0, by simp, Blk.eq, hb1w, inferInstance, inferInstance, inferInstance, inferInstance, inferInstance, evc, lkc⟩
  case round =>
    intro m τ7 ds7 w7 hI
    obtain ⟨rfl, k, M, Rf, rfl, hk, hP, hcm, hb9r, hb1r, e1, e5, e7, e9, e11, e12, lk⟩ := hI
    haveI : Blk w7 b9 _ := ⟨hb9r⟩
    haveI : Blk w7 b1 _ := ⟨hb1r⟩
    refine x_seq ?_
    refine x_seq ?_
    refine x_regionL ?_
    refine xl_v v_move ?_
    refine xl_v v_move ?_
    refine xl_v v_len ?_
    refine xl_v v_lss ?_
    refine xl_v v_move ?_
    refine xl_split 34 (fun g34 => ?_) (fun g34 => ?_)
    ·
      have hk1 : k < xs.length := by simp at g34; omega
      haveI hrx : RowB w xs[k].A w00 (bytesC xs[k].t.bytes) := hrs k hk1
      have hAlt : ∀ a, A = some a → a.block < w00.heap.size := hra.far.resolve_left (by
        intro e
        have h1 : (xs.flatMap thC).length = xs.length * 4 := flat_len (enc := thC) (sz := 4) (fun _ => rfl) xs
        rw [e] at h1
        simp at h1
        omega)
      haveI : RowOut (fun j => NotP R j ∨ OneB b9 j) A := ⟨fun a ha e => by
        have h1 := hAlt a ha
        rcases e with e | e
        · exact e (by rw [hRd]; exact .inl (by omega))
        · have e' : a.block = b9 := e
          omega⟩
      refine xl_gv rfl EvO.eq v_move ?_
      refine xl_v (by first | exact v_pickT | exact v_pickF | exact v_pick) ?_
      refine xl_nil ?_
      refine x_condT ?_
      refine x_skip ?_
      refine x_seq ?_
      refine x_block ?_
      refine x_drawL (fun j => NotP R j ∨ OneB b9 j) (.take 0 (.take 2 (.take 3 (.take 4 (.take 5 (.eff 1 (.eff 6 (.take 7 (.take 8 (.take 9 (.eff 10 (.take 11 .done)))))))))))) mixed (by kernel_rfl) (fun _ _ _ _ _ h => h) (fun w8 l8 => ?_)
      refine xt_v rfl v_move ?_
      refine xt_v rfl v_move ?_
      refine xt_v rfl v_move ?_
      refine xt_v rfl (v_indexF k (by decide) rfl (by omega) hk1) ?_
      refine xt_v rfl (by first | exact v_loadA | exact v_loadF (by decide) (by omega)) ?_
      refine xt_e rfl (e_v (v_loadA (r := none)) ?_)
      refine xt_call rfl (act_ok P R d M Rf xs[k] w8 (hP.ext (kpc : Keep NoB _ w8)) (by omega) (inferInstance : RowB w8 xs[k].A w00 (bytesC xs[k].t.bytes)).row (hcs k hk1) (by have := hn.2 k hk1; omega) (by have := hn.2 k hk1; omega) (hns k hk1) (fun hn0 a ha => by
            have h1 := hrx.far.resolve_left (by simpa [bytesC] using hn0) a ha
            exact ⟨by rw [hRd]; exact .inl (by omega), by rw [hPd]; rintro (e | e | e) <;> omega⟩)) ?_
      rintro _ w9 ⟨⟨R2, rfl, hP2⟩, lk3⟩
      refine ⟨kpc, ?_⟩
      have hsz := lk3.keep.size
      refine xt_v rfl v_move ?_
      refine xt_v rfl v_extract ?_
      refine xt_v rfl v_extract ?_
      refine xt_s rfl (e_storeA fun w10 l10 k10 => ?_)
      refine xt_v rfl v_assign ?_
      refine xt_nil ?_
      have hPn := hP2.cell (kpc : Keep (OneB b9) _ w10) (fun k _ e => by rw [hPd]; exact .inr (.inr e))
      have hb1n : (w10).heap[b1]? = _ := Blk.eq
      refine x_regionL ?_
      refine xl_v v_move ?_
      refine xl_v (v_add (by omega)) ?_
      refine xl_v v_assign ?_
      refine xl_nil ?_
      refine ⟨_, ?_, rfl, k + 1, M.step xs[k].t, R2, rfl, by omega, hPn, by have := step_len M xs[k].t; omega, Blk.eq, hb1n, inferInstance, inferInstance, inferInstance, inferInstance, inferInstance, evc, lkc⟩
      omega
    ·
      refine xl_gs rfl EvO.eq ?_
      refine xl_v (by first | exact v_pickT | exact v_pickF | exact v_pick) ?_
      refine xl_nil ?_
      refine x_condF ?_
      refine x_exit ?_
      refine x_seq ?_
      have hPe := hP.ext (kpc : Keep NoB _ w7)
      refine x_drawL (OneB b1) (.take 0 (.take 1 (.take 2 (.take 3 (.take 4 (.take 5 (.eff 6 (.take 7 (.take 8 (.eff 9 (.take 10 .done))))))))))) mixed (by kernel_rfl) (fun _ _ _ _ _ h => h) (fun w11 l11 => ?_)
      refine xt_v rfl v_move ?_
      refine xt_v rfl (by first | exact v_loadA | exact v_loadF (by decide) (by omega)) ?_
      refine xt_v rfl v_move ?_
      refine xt_v rfl v_move ?_
      refine xt_gv rfl rfl EvO.eq v_move ?_
      refine xt_gv rfl rfl EvO.eq (by first | exact v_loadA | exact v_loadF (by decide) (by omega)) ?_
      refine xt_gcall rfl rfl EvO.eq (is2_ok P R d M Rf w11 (hP.ext (kpc : Keep NoB _ w11))) ?_
      rintro _ w12 ⟨rfl, lk4⟩
      refine ⟨kpc, ?_⟩
      refine xt_v rfl (by first | exact v_pickT | exact v_pickF | exact v_pick) ?_
      refine xt_v rfl v_assign ?_
      refine xt_s rfl (e_storeA fun w13 l13 k13 => ?_)
      refine xt_v rfl v_assign ?_
      refine xt_nil ?_
      refine x_ret ?_
      refine finR (rs := [.tmp 4, .cell 5 54, .tmp 6]) rfl ?_
      exact ⟨⟨d, M, Rf, by simp [outV], hP.keep (kpc : Keep (OneB b1) _ w13) (fun k _ e => by rw [hPd]; exact .inr (.inl e)) (fun k e => ⟨Nat.lt_of_lt_of_le e.2 Ge.le, .inl (by rw [hPd]; exact .inl e)⟩) (fun k e => ⟨Nat.lt_of_lt_of_le e Ge.le, .inl (by rw [hRd]; exact .inl e)⟩), by omega, by omega⟩, lkc⟩
end Go.Proofs.Ytabknhgbijcklaa
