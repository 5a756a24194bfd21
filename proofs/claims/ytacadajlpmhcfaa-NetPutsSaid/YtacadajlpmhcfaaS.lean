/-
  Walks, printed by a program of this workplace (wip/tools/sx.py) off the functions' code and a text of contracts.
-/
import Derived.Test.YtacadajlpmhcfaaR
set_option linter.all false
set_option maxRecDepth 100000
set_option synthInstance.maxSize 100000
set_option synthInstance.maxHeartbeats 400000
namespace Go.Proofs.Ytacadajlpmhcfaa
open Go.Wst
open Go.Wst.Nm
/-- A net and the document's where they lie, alike; what P names is apart from both. -/
structure PairW (P : Nat → Prop) (b mb : Nat) (M : Net) (R : RefL) (W : World) : Prop where
  ok : M.ok
  rp : R.pure = M
  ex : ∃ (G F : Nat → Prop) (N : NetL), N.pure = M ∧ NetAt W b mb G N ∧ RefAt W F R ∧ (∀ k, F k → ¬ NetF b mb G k) ∧ (∀ k, P k → k < W.heap.size ∧ ¬ F k ∧ ¬ NetF b mb G k)
section
variable {P : Nat → Prop} {b mb : Nat} {M : Net} {R : RefL} {W : World}
theorem PairW.keep (h : PairW P b mb M R W) {S : Nat → Prop} {W' : World} (hk : Keep S W W') (hs : ∀ k, k < W.heap.size → S k → P k) {P' : Nat → Prop} (hP : ∀ k, P' k → k < W'.heap.size ∧ (P k ∨ W.heap.size ≤ k)) : PairW P' b mb M R W' := by
  obtain ⟨G, F, N, h1, h2, h3, h4, h5⟩ := h.ex
  refine ⟨h.ok, h.rp, G, F, N, h1, h2.keep hk (fun k e hS => (h5 k (hs k (h2.lt k e) hS)).2.2 e), h3.keep hk (fun k e hS => (h5 k (hs k (h3.lt k e) hS)).2.1 e), h4, fun k hk' => ?_⟩
  obtain ⟨e1, e2⟩ := hP k hk'
  refine ⟨e1, ?_⟩
  rcases e2 with e2 | e2
  · exact (h5 k e2).2
  · exact ⟨fun e => by have := h3.lt k e; omega, fun e => by have := h2.lt k e; omega⟩
theorem PairW.ext (h : PairW P b mb M R W) {W' : World} (hk : Keep NoB W W') : PairW P b mb M R W' :=
  h.keep hk (fun _ _ h => h.elim) (fun k hk' => by obtain ⟨G, F, N, h1, h2, h3, h4, h5⟩ := h.ex; exact ⟨Nat.lt_of_lt_of_le (h5 k hk').1 hk.size, .inl hk'⟩)
theorem PairW.cell (h : PairW P b mb M R W) {W' : World} {S : Nat → Prop} (hk : Keep S W W') (hs : ∀ k, k < W.heap.size → S k → P k) : PairW P b mb M R W' :=
  h.keep hk hs (fun k hk' => by obtain ⟨G, F, N, h1, h2, h3, h4, h5⟩ := h.ex; exact ⟨Nat.lt_of_lt_of_le (h5 k hk').1 hk.size, .inl hk'⟩)
theorem PairW.few (h : PairW P b mb M R W) : R.l.length ≤ 4096 := by
  obtain ⟨G, F, N, h1, _⟩ := h.ex
  rw [← ref_len, h.rp, ← h1, pure_len]
  exact len_few (h1 ▸ h.ok)
end
theorem act2_ok (P : Nat → Prop) (b mb : Nat) (M : Net) (R : RefL) (a : LAct) (w w00 : World) (h : PairW P b mb M R w) (hc : M.came ≤ 10000000) (hpk : In64 a.pick) (hby : a.x.m.bytes.length ≤ 100000) [hr : RowB w a.x.A w00 (bytesC a.x.m.bytes)] (hb : w00.heap.size ≤ b) (hmb : w00.heap.size ≤ mb) :
    Ret Try.prog 24 #[.pointer (some ⟨b, 0, none⟩), .agg (refC R).toArray, .agg (actC a).toArray] w (fun v w' => (∃ R', v = .tuple #[.agg (refC R').toArray, .bool true] ∧ PairW P b mb (M.step a.what a.pick a.x.m) R' w') ∧ Lk w' w (TwoB b mb)) := by
  obtain ⟨G, F, N, h1, h2, h3, h4, h5⟩ := h.ex
  haveI : Row w a.x.A (bytesC a.x.m.bytes) := ⟨hr.row⟩
  refine (act_ok b mb G N R F a w h2 (h1 ▸ h.ok) h3 (h1.trans h.rp.symm) (by show N.pure.came ≤ _; rw [h1]; exact hc) h4 hpk hby ?_).mono ?_
  · rcases hr.far with e | e
    · exact .inl (by simpa [bytesC] using e)
    · exact .inr fun c hc e' => by have h6 := e c hc; rcases e' with e' | e' <;> omega
  · rintro v w' ⟨G', F', N', R', rfl, q1, q2, q3, q4, q5, q6, q7, lk⟩
    refine ⟨⟨R', rfl, (step_ok h.ok _ _ _).1, by rw [q4, h1], G', F', N', by rw [q3, h1], q1, q2, q5, fun k hk => ?_⟩, lk⟩
    obtain ⟨e1, e2, e3⟩ := h5 k hk
    refine ⟨Nat.lt_of_lt_of_le e1 lk.keep.size, fun e => (q7 k e).elim e2 (fun e => by omega), ?_⟩
    rintro (e | e | e)
    · exact e3 (.inl e)
    · exact e3 (.inr (.inl e))
    · exact (q6 k e).elim (fun e => e3 (.inr (.inr e))) (fun e => by omega)
theorem is2_ok (P : Nat → Prop) (b mb : Nat) (M : Net) (R : RefL) (w : World) (h : PairW P b mb M R w) :
    Ret Try.prog 25 #[.pointer (some ⟨b, 0, none⟩), .agg (refC R).toArray] w (fun v w' => v = .bool true ∧ Lk w' w NoB) := by
  obtain ⟨G, F, N, h1, h2, h3, h4, h5⟩ := h.ex
  exact is_ok b mb G N R F w h2 (h1 ▸ h.ok) h3 (h1.trans h.rp.symm)
theorem start_ok (most : Int) (h : 1 ≤ most ∧ most ≤ 4096) : Net.ok ⟨most, 0, []⟩ := (OnceOk.start most h).ok
theorem PairW.start {P : Nat → Prop} {b mb : Nat} {most : Int} {W : World} (h : NetAt W b mb NoB ⟨most, 0, []⟩) (hm : 1 ≤ most ∧ most ≤ 4096) (hP : ∀ k, P k → k < W.heap.size ∧ k ≠ b ∧ k ≠ mb) : PairW P b mb ⟨most, 0, []⟩ ⟨most, 0, [], none, 0⟩ W :=
  ⟨start_ok most hm, rfl, NoB, NoB, ⟨most, 0, []⟩, rfl, h, refAt_nil _ _ (fun k hk => hk.elim) most, fun k hk => hk.elim, fun k hk => ⟨(hP k hk).1, fun e => e, fun e => e.elim (hP k hk).2.1 (fun e => e.elim (hP k hk).2.2 (fun e => e))⟩⟩

/-- waystation/waystationlaw05.played -/
theorem played_ok (most : Int) (A : Option Addr) (n c : Nat) (xs : List LAct) (w w00 : World) (hm : 1 ≤ most ∧ most ≤ 4096) [hra : RowB w A w00 (xs.flatMap actC)] (hrs : ∀ j (h : j < xs.length), RowB w xs[j].x.A w00 (bytesC xs[j].x.m.bytes)) (hl : xs.length = n) (hn : n ≤ 100) (hby : ∀ j (h : j < xs.length), xs[j].x.m.bytes.length ≤ 10000) (hpk : ∀ j (h : j < xs.length), In64 xs[j].pick) (hge : w00.heap.size ≤ w.heap.size) : Ret Try.prog 21 #[.int .i64 most, .slice A n c] w (fun v w' => (∃ b mb M R, v = .tuple #[.pointer (some ⟨b, 0, none⟩), .agg (refC R).toArray, .bool true] ∧ PairW NoB b mb M R w' ∧ M.came ≤ n ∧ w.heap.size ≤ b ∧ w.heap.size ≤ mb) ∧ Lk w' w NoB) := by
  haveI : Ge w w00 := ⟨hge⟩
  refine ret_of_x (N := 57) (l := [.int .i64 most, .slice A n c]) Try.func21 rfl rfl (Nat.le_of_ble_eq_true rfl) ?_
  refine x_seq ?_
  refine x_regionL ?_
  refine xl_v v_assign ?_
  refine xl_e (e_alloc fun b1 w1 n1 l1 k1 => ?_)
  refine xl_v v_assign ?_
  refine xl_nil ?_
  refine x_seq ?_
  refine x_regionL ?_
  refine xl_v v_move ?_
  refine xl_call (new_ok most w1) ?_
  rintro _ w2 ⟨hnew, lk1⟩
  rw [if_pos hm] at hnew
  obtain ⟨b, mb, rfl, hN0, hgb, hgm⟩ := hnew
  haveI sT : SubF (TwoB b mb) NoB w := ⟨fun k hk e => by have := (Ge.le : w.heap.size ≤ (w1).heap.size); rcases e with e | e <;> omega⟩
  haveI : Above (TwoB b mb) w00 := ⟨fun k e => by have := (Ge.le : w.heap.size ≤ (w1).heap.size); rcases e with e | e <;> omega⟩
  have hbl := hN0.lt b (.inl rfl)
  have hml := hN0.lt mb (.inr (.inl rfl))
  have hgw := (Ge.le : w.heap.size ≤ (w1).heap.size)
  have hgb1 : b1 < (w1).heap.size := Has.lt
  refine xl_v v_move ?_
  refine xl_v v_extract ?_
  refine xl_v v_extract ?_
  refine xl_v v_assign ?_
  refine xl_v v_assign ?_
  refine xl_nil ?_
  refine x_seq ?_
  refine x_regionL ?_
  refine xl_v v_move ?_
  refine xl_call (refnew_ok most w2) ?_
  rintro _ w3 ⟨hnw, lk2⟩
  rw [if_pos hm] at hnw
  obtain rfl := hnw
  have hg23 := (Ge.le : (w2).heap.size ≤ (w3).heap.size)
  refine xl_v v_move ?_
  refine xl_v v_extract ?_
  refine xl_v v_extract ?_
  refine xl_e (e_alloc fun b9 w4 n9 l9 k9 => ?_)
  refine xl_s (e_storeA fun w5 l5 k5 => ?_)
  refine xl_v v_assign ?_
  refine xl_nil ?_
  have hb9 := n9.eq
  have hgw9 := (Ge.le : (w5).heap.size ≤ (w5).heap.size)
  refine x_seq ?_
  refine x_regionL ?_
  refine xl_v v_move ?_
  refine xl_call (num_ok _ _) ?_
  rintro _ _ ⟨rfl, rfl⟩
  refine xl_v (v_congr (u := .bool true) v_eql (by simp)) ?_
  refine xl_v v_move ?_
  refine xl_gv rfl EvO.eq v_move ?_
  refine xl_gv rfl EvO.eq (v_congr (u := .bool true) v_eql (by simp)) ?_
  refine xl_v (by first | exact v_pickT | exact v_pickF | exact v_pick) ?_
  refine xl_v v_assign ?_
  refine xl_nil ?_
  refine x_seq ?_
  refine x_seq ?_
  refine x_regionL ?_
  refine xl_v v_assign ?_
  refine xl_nil ?_
  refine x_block ?_
  have hb9w : w.heap.size ≤ b9 := by rw [n9.eq]; exact Ge.le
  have hP0 : PairW (fun k => k = b1 ∨ k = b9) b mb ⟨most, 0, []⟩ ⟨most, 0, [], none, 0⟩ w5 := PairW.start (hN0.ext (kpc : Keep NoB _ w5)) hm (by
    rintro k (rfl | rfl)
    · exact ⟨Has.lt, by omega, by omega⟩
    · exact ⟨Has.lt, by omega, by omega⟩)
  have hb1w : (w5).heap[b1]? = _ := Blk.eq
  haveI : NeB b9 b := ⟨by omega⟩
  haveI : NeB b9 mb := ⟨by omega⟩
  haveI : NeB b1 b := ⟨by omega⟩
  haveI : NeB b1 mb := ⟨by omega⟩
  refine x_loop (fun m τ ds w' => ds = [] ∧ ∃ (k : Nat) (M : Net) (R : RefL), m = n - k ∧ k ≤ n ∧ PairW (fun k => k = b1 ∨ k = b9) b mb M R w' ∧ M.came ≤ k ∧ w'.heap[b9]? = some (.cells (refC R).toArray 47 (0, 0)) ∧ w'.heap[b1]? = some (.cells (refC RefZ).toArray 47 (0, 0)) ∧ Ev τ 1 (.slice A n c) ∧ Ev τ 5 (.pointer (some ⟨b1, 0, none⟩)) ∧ Ev τ 7 (.pointer (some ⟨b, 0, none⟩)) ∧ Ev τ 9 (.pointer (some ⟨b9, 0, none⟩)) ∧ Ev τ 11 (.bool true) ∧ Ev τ 12 (.int .i64 (k : Int)) ∧ Lk w' w NoB) (n) ?start ?round
  case start =>
    exact ⟨rfl, 0, _, _, rfl, by omega, hP0, by simp, Blk.eq, hb1w, inferInstance, inferInstance, inferInstance, inferInstance, inferInstance, evc, lkc⟩
  case round =>
    intro m τ7 ds7 w7 hI
    obtain ⟨rfl, k, M, R, rfl, hk, hP, hcm, hb9r, hb1r, e1, e5, e7, e9, e11, e12, lk⟩ := hI
    haveI : Blk w7 b9 _ := ⟨hb9r⟩
    haveI : Blk w7 b1 _ := ⟨hb1r⟩
    refine x_seq ?_
    refine x_seq ?_
    refine x_regionL ?_
    refine xl_v v_move ?_
    refine xl_v v_move ?_
    refine xl_v v_len ?_
    refine xl_v v_lss ?_
    refine xl_v v_move ?_
    refine xl_split 34 (fun g34 => ?_) (fun g34 => ?_)
    ·
      have hk1 : k < xs.length := by simp at g34; omega
      have hAlt : ∀ a, A = some a → a.block < w00.heap.size := hra.far.resolve_left (by
        intro e
        have h1 : (xs.flatMap actC).length = xs.length * 5 := flat_len (enc := actC) (sz := 5) (fun _ => rfl) xs
        rw [e] at h1
        simp at h1
        omega)
      haveI : RowOut (fun j => TwoB b mb j ∨ OneB b9 j) A := ⟨fun a ha e => by
        have h1 := hAlt a ha
        rcases e with (e | e) | e
        · omega
        · omega
        · have e' : a.block = b9 := e
          omega⟩
      refine xl_gv rfl EvO.eq v_move ?_
      refine xl_v (by first | exact v_pickT | exact v_pickF | exact v_pick) ?_
      refine xl_nil ?_
      refine x_condT ?_
      refine x_skip ?_
      refine x_seq ?_
      refine x_block ?_
      refine x_drawL (fun j => TwoB b mb j ∨ OneB b9 j) (.take 0 (.take 2 (.take 3 (.take 4 (.take 5 (.eff 1 (.eff 6 (.take 7 (.take 8 (.take 9 (.eff 10 (.take 11 .done)))))))))))) mixed (by kernel_rfl) (fun _ _ _ _ _ h => h) (fun w8 l8 => ?_)
      refine xt_v rfl v_move ?_
      refine xt_v rfl v_move ?_
      refine xt_v rfl v_move ?_
      refine xt_v rfl (v_indexF k (by decide) rfl (by omega) hk1) ?_
      haveI hrx : RowB w xs[k].x.A w00 (bytesC xs[k].x.m.bytes) := hrs k hk1
      refine xt_v rfl (by first | exact v_loadA | exact v_loadF (by decide) (by omega)) ?_
      refine xt_e rfl (e_v (v_loadA (r := none)) ?_)
      refine xt_call rfl (act2_ok (fun k => k = b1 ∨ k = b9) b mb M R xs[k] w8 w00 (hP.ext (kpc : Keep NoB _ w8)) (by omega) (hpk k hk1) (by have := hby k hk1; omega) (by omega) (by omega)) ?_
      rintro _ w9 ⟨⟨R2, rfl, hP2⟩, lk3⟩
      refine ⟨kpc, ?_⟩
      have hsz := lk3.keep.size
      refine xt_v rfl v_move ?_
      refine xt_v rfl v_extract ?_
      refine xt_v rfl v_extract ?_
      refine xt_s rfl (e_storeA fun w10 l10 k10 => ?_)
      refine xt_v rfl v_assign ?_
      refine xt_nil ?_
      have hPn := hP2.cell (kpc : Keep (OneB b9) _ w10) (fun k _ e => .inr e)
      have hb1n : (w10).heap[b1]? = _ := Blk.eq
      refine x_regionL ?_
      refine xl_v v_move ?_
      refine xl_v (v_add (by omega)) ?_
      refine xl_v v_assign ?_
      refine xl_nil ?_
      refine ⟨_, ?_, rfl, k + 1, M.step xs[k].what xs[k].pick xs[k].x.m, R2, rfl, by omega, hPn, by have := (step_ok hP.ok xs[k].what xs[k].pick xs[k].x.m).2; omega, Blk.eq, hb1n, inferInstance, inferInstance, inferInstance, inferInstance, inferInstance, evc, lkc⟩
      omega
    ·
      refine xl_gs rfl EvO.eq ?_
      refine xl_v (by first | exact v_pickT | exact v_pickF | exact v_pick) ?_
      refine xl_nil ?_
      refine x_condF ?_
      refine x_exit ?_
      refine x_seq ?_
      have hPe := hP.ext (kpc : Keep NoB _ w7)
      refine x_drawL (OneB b1) (.take 0 (.take 1 (.take 2 (.take 3 (.take 4 (.take 5 (.eff 6 (.take 7 (.take 8 (.eff 9 (.take 10 .done))))))))))) mixed (by kernel_rfl) (fun _ _ _ _ _ h => h) (fun w11 l11 => ?_)
      refine xt_v rfl v_move ?_
      refine xt_v rfl (by first | exact v_loadA | exact v_loadF (by decide) (by omega)) ?_
      refine xt_v rfl v_move ?_
      refine xt_v rfl v_move ?_
      refine xt_gv rfl rfl EvO.eq v_move ?_
      refine xt_gv rfl rfl EvO.eq (by first | exact v_loadA | exact v_loadF (by decide) (by omega)) ?_
      refine xt_gcall rfl rfl EvO.eq (is2_ok (fun k => k = b1 ∨ k = b9) b mb M R w11 (hP.ext (kpc : Keep NoB _ w11))) ?_
      rintro _ w12 ⟨rfl, lk4⟩
      refine ⟨kpc, ?_⟩
      refine xt_v rfl (by first | exact v_pickT | exact v_pickF | exact v_pick) ?_
      refine xt_v rfl v_assign ?_
      refine xt_s rfl (e_storeA fun w13 l13 k13 => ?_)
      refine xt_v rfl v_assign ?_
      refine xt_nil ?_
      refine x_ret ?_
      refine finR (rs := [.tmp 4, .cell 5 47, .tmp 6]) rfl ?_
      exact ⟨⟨b, mb, M, R, by simp [outV], hP.keep (kpc : Keep (OneB b1) _ w13) (fun k _ e => .inl e) (fun k e => e.elim), by omega, by omega, by omega⟩, lkc⟩

/-- waystation/waystationlaw05.NetPlays -/
theorem netPlays_ok (most : Int) (A : Option Addr) (n c : Nat) (xs : List LAct) (w : World) [hra : Row w A (xs.flatMap actC)] (hrs : ∀ j (h : j < xs.length), RowP w xs[j].x.A (bytesC xs[j].x.m.bytes)) (hpk : ∀ j (h : j < xs.length), In64 xs[j].pick) (hl : xs.length = n) (hn : n ≤ 9223372036854775807) : Ret Try.prog 5 #[.int .i64 most, .slice A n c] w (fun v w' => v = .bool true ∧ Lk w' w NoB) := by
  haveI hrb : RowB w A w (xs.flatMap actC) := rowB_of hra.row
  refine ret_of_x (N := 31) (l := [.int .i64 most, .slice A n c]) Try.func5 rfl rfl (Nat.le_of_ble_eq_true rfl) ?_
  refine x_seq ?_
  refine x_regionL ?_
  refine xl_v v_assign ?_
  refine xl_nil ?_
  refine x_seq ?_
  refine x_seq ?_
  refine x_regionL ?_
  refine xl_v v_move ?_
  refine xl_v v_lss ?_
  refine xl_v v_move ?_
  refine xl_split 10 (fun g10 => ?_) (fun g10 => ?_)
  ·
    refine xl_gs rfl EvO.eq ?_
    refine xl_gs rfl EvO.eq ?_
    refine xl_v (by first | exact v_pickT | exact v_pickF | exact v_pick) ?_
    refine xl_v v_move ?_
    refine xl_gs rfl EvO.eq ?_
    refine xl_gs rfl EvO.eq ?_
    refine xl_gs rfl EvO.eq ?_
    refine xl_v (by first | exact v_pickT | exact v_pickF | exact v_pick) ?_
    refine xl_nil ?_
    refine x_condT ?_
    refine x_seq ?_
    refine x_regionL ?_
    refine xl_call (works_ok w) ?_
    rintro _ w1 ⟨rfl, lkw⟩
    refine xl_v v_assign ?_
    refine xl_nil ?_
    refine x_ret ?_
    refine fin1 rfl ?_
    exact ⟨rfl, lkc⟩
  ·
    refine xl_gv rfl EvO.eq v_move ?_
    refine xl_gv rfl EvO.eq v_gtr ?_
    refine xl_v (by first | exact v_pickT | exact v_pickF | exact v_pick) ?_
    refine xl_v v_move ?_
    refine xl_split 14 (fun g14 => ?_) (fun g14 => ?_)
    ·
      refine xl_gs rfl EvO.eq ?_
      refine xl_gs rfl EvO.eq ?_
      refine xl_gs rfl EvO.eq ?_
      refine xl_v (by first | exact v_pickT | exact v_pickF | exact v_pick) ?_
      refine xl_nil ?_
      refine x_condT ?_
      refine x_seq ?_
      refine x_regionL ?_
      refine xl_call (works_ok w) ?_
      rintro _ w2 ⟨rfl, lkw⟩
      refine xl_v v_assign ?_
      refine xl_nil ?_
      refine x_ret ?_
      refine fin1 rfl ?_
      exact ⟨rfl, lkc⟩
    ·
      refine xl_gv rfl EvO.eq v_move ?_
      refine xl_gcall rfl EvO.eq (few_ok A n c xs _ hl hn) ?_
      rintro _ _ ⟨⟨fb, rfl, hfb⟩, rfl⟩
      refine xl_gv rfl EvO.eq v_not ?_
      refine xl_v (by first | exact v_pickT | exact v_pickF | exact v_pick) ?_
      refine xl_nil ?_
      first | refine x_condP (fun c1 => ?_) (fun c1 => ?_) | refine x_condN (fun c1 => ?_) (fun c1 => ?_) | refine x_condE (fun c1 => ?_) (fun c1 => ?_)
      ·
        refine x_seq ?_
        refine x_regionL ?_
        refine xl_call (works_ok w) ?_
        rintro _ w4 ⟨rfl, lkw⟩
        refine xl_v v_assign ?_
        refine xl_nil ?_
        refine x_ret ?_
        refine fin1 rfl ?_
        exact ⟨rfl, lkc⟩
      ·
        have hfew : n ≤ 100 ∧ ∀ j (h : j < xs.length), xs[j].x.m.bytes.length ≤ 10000 := hfb (by simpa using c1)
        refine x_skip ?_
        refine x_seq ?_
        refine x_regionL ?_
        refine xl_v v_move ?_
        refine xl_v v_move ?_
        refine xl_call (played_ok most A n c xs w w (by simp at g10 g14; omega) (fun j h => rowB_of (hrs j h)) hl hfew.1 hfew.2 hpk (Nat.le_refl _)) ?_
        rintro _ w5 ⟨⟨b, mb, M, R, rfl, hP, hcm, hgb, hgm⟩, lk1⟩
        refine xl_v v_move ?_
        refine xl_v v_extract ?_
        refine xl_v v_extract ?_
        refine xl_v v_extract ?_
        refine xl_e (e_alloc fun b6 w6 n6 l6 k6 => ?_)
        refine xl_v v_assign ?_
        refine xl_s (e_storeA fun w7 l7 k7 => ?_)
        refine xl_v v_assign ?_
        refine xl_nil ?_
        refine x_seq ?_
        refine x_regionL ?_
        refine xl_v v_move ?_
        refine xl_v v_move ?_
        refine xl_gcall rfl EvO.eq (works_ok w7) ?_
        rintro _ w8 ⟨rfl, lkw⟩
        refine xl_v (by first | exact v_pickT | exact v_pickF | exact v_pick) ?_
        refine xl_v v_assign ?_
        refine xl_nil ?_
        refine x_ret ?_
        refine fin1 rfl ?_
        exact ⟨rfl, lkc⟩
end Go.Proofs.Ytacadajlpmhcfaa
