/-
 Walks, printed by a program of this workplace (wip/tools/sx.py) off the functions' code and a text of contracts.
-/
import Derived.Test.YtnjpladlfiaojaaC
set_option linter.all false
set_option maxRecDepth 100000
set_option synthInstance.maxSize 100000
set_option synthInstance.maxHeartbeats 400000
namespace Go.Proofs.Ytnjpladlfiaojaa
open Go.Wst
open Go.Wst.Ct
theorem range_any {α : Type} (xs : List α) (p : Nat → Bool) (q : α → Bool) (h : ∀ k (hk : k < xs.length), p k = q xs[k]) : (List.range xs.length).any p = xs.any q := by
 rw [Bool.eq_iff_iff, List.any_eq_true, List.any_eq_true]
 constructor
 ·rintro ⟨k, hk, e⟩
  have hk' : k < xs.length := List.mem_range.1 hk
  exact ⟨xs[k], List.getElem_mem hk', by rw [← h k hk']; exact e⟩
 ·rintro ⟨x, hx, e⟩
  obtain ⟨k, hk, rfl⟩ := List.getElem_of_mem hx
  exact ⟨k, List.mem_range.2 hk, by rw [h k hk]; exact e⟩
abbrev PtI := Option Addr × Nat × Int
abbrev ptC (p : PtI) : Value := padd p.1 p.2.1
def PtAt (w : World) (p : PtI) : Prop := ∃ cs, RowP w p.1 cs ∧ cs[p.2.1]? = some (.int .i64 p.2.2)
theorem PtAt.ext {w w' : World} {p : PtI} (h : PtAt w p) (hk : Keep NoB w w') : PtAt w' p := by
 obtain ⟨cs, h1, h2⟩ := h
 exact ⟨cs, h1.keep hk (fun _ _ h => h), h2⟩
theorem PtAt.some {w : World} {p : PtI} (h : PtAt w p) : p.1.isSome = true := by
 obtain ⟨cs, h1, h2⟩ := h
 obtain ⟨a, ha, _⟩ := h1 _ _ h2
 rw [ha]; rfl

/-- waystation/meta.end$1$1 -/
theorem end11_ok (p : PtI) (w : World) (h : PtAt w p) : Ret Try.prog 87 #[ptC p] w (fun v w' => v = .bool (decide (most ≤ p.2.2)) ∧ Lk w' w NoB) := by
 obtain ⟨cs, h1, h2⟩ := h
 haveI : Row w p.1 cs := ⟨h1⟩
 have hA := PtAt.some ⟨cs, h1, h2⟩
 refine ret_of_x (N := 7) (l := [ptC p]) Try.func87 rfl rfl (Nat.le_of_ble_eq_true rfl) ?_
 refine x_seq ?_
 refine x_regionL ?_
 refine xl_v v_assign ?_
 refine xl_nil ?_
 refine x_seq ?_
 refine x_regionL ?_
 refine xl_v v_move ?_
 refine xl_Nc ?_
 refine xl_v (v_loadR h2) ?_
 refine xl_v v_geq ?_
 refine xl_v v_assign ?_
 refine xl_nil ?_
 refine x_ret ?_
 refine fin1 rfl ?_
 exact ⟨rfl, lkc⟩

/-- waystation/meta.end$1 -/
theorem end1_ok (bb : Nat) (A : Option Addr) (n c : Nat) (ps : List PtI) (w : World) [Blk w bb (.cells #[.slice A n c] 120 (0, 0))] [Row w A (ps.map ptC)] (hl : ps.length = n) (hn : n ≤ 1000) (hp : ∀ p ∈ ps, PtAt w p) : Ret Try.prog 85 #[.pointer (some ⟨bb, 0, none⟩)] w (fun v w' => v = .bool (ps.any (fun p => decide (most ≤ p.2.2))) ∧ Lk w' w NoB) := by
 refine ret_of_x (N := 4) (l := [.pointer (some ⟨bb, 0, none⟩)]) Try.func85 rfl rfl (Nat.le_of_ble_eq_true rfl) ?_
 refine x_seq ?_
 refine x_regionL ?_
 refine xl_v v_assign ?_
 refine xl_nil ?_
 refine x_seq ?_
 refine x_regionL ?_
 refine xl_Ld ?_
 refine xl_call (cfP_ok A n c (ps.map ptC) 87 [] [] (fun k => if h : k < ps.length then decide (most ≤ ps[k].2.2) else false) w (by simpa using hl) (by omega) (fun k hk _ W l => by
   have hk2 : k < ps.length := by simpa using hk
   rw [List.getElem_map, dif_pos hk2]
   exact CallV.of_ret (end11_ok ps[k] W ((hp _ (List.getElem_mem hk2)).ext (kpc : Keep NoB w W))))) ?_
 rintro _ w1 ⟨rfl, lk⟩
 refine xl_v v_assign ?_
 refine xl_nil ?_
 refine x_ret ?_
 refine fin1 rfl ?_
 refine ⟨congrArg Value.bool ?_, lkc⟩
 rw [← hl]
 exact range_any ps _ _ (fun k hk => by rw [dif_pos hk])

/-- waystation/meta.end -/
theorem end_ok (A : Option Addr) (n c : Nat) (ps : List PtI) (w : World) [Row w A (ps.map ptC)] (hl : ps.length = n) (hn : n ≤ 1000) (hp : ∀ p ∈ ps, PtAt w p) : Ret Try.prog 54 #[.slice A n c] w (fun v w' => (∃ x : Chk, v = .agg (chkC x).toArray ∧ x.why = 204 ∧ x.bad = ps.any (fun p => decide (most ≤ p.2.2)) ∧ ChkAt w' x) ∧ Lk w' w NoB) := by
 refine ret_of_x (N := 5) (l := [.slice A n c]) Try.func54 rfl rfl (Nat.le_of_ble_eq_true rfl) ?_
 refine x_seq ?_
 refine x_regionL ?_
 refine xl_e (e_box fun b1 w1 n1 l1 k1 => ?_)
 refine xl_e (e_alloc fun b2 w2 n2 l2 k2 => ?_)
 refine xl_nil ?_
 refine x_seq ?_
 refine x_regionL ?_
 refine xl_v v_makeFunc ?_
 refine xl_v v_build ?_
 refine xl_s (e_storeA fun w3 l3 k3 => ?_)
 refine xl_nil ?_
 refine x_ret ?_
 refine finR (rs := [.cell 2 94]) rfl ?_
 refine ⟨⟨⟨_, [], [_], 204, _⟩, rfl, rfl, rfl, fun W l => ?_⟩, lkc⟩
 haveI lkW : Lk W w NoB := lkc
 haveI : Row W A (ps.map ptC) := inferInstance
 haveI : Blk W b1 _ := ⟨(l.keep.block b1 Has.lt (fun h => h)).trans (Blk.eq : (w3).heap[b1]? = _)⟩
 exact CallV.of_ret (end1_ok b1 A n c ps W hl hn (fun p hp' => (hp p hp').ext lkW.keep))

/-- waystation/meta.busy$1 -/
theorem busy1_ok (bb : Nat) (A : Option Addr) (k : Nat) (xs : List LW) (w : World) [Blk w bb (.cells #[padd A (k * 6)] 99 (0, 0))] [Row w A (xs.flatMap wrC)] (hk : k < xs.length) : Ret Try.prog 84 #[.pointer (some ⟨bb, 0, none⟩)] w (fun v w' => v = .bool (decide (3 ≤ xs[k].w.st ∧ xs[k].w.st ≤ 4)) ∧ Lk w' w NoB) := by
 have hA := row_some (w := w) (A := A) (cs := xs.flatMap wrC) inferInstance (by rw [flat_len (sz := 6) (fun _ => rfl)]; omega)
 refine ret_of_x (N := 14) (l := [.pointer (some ⟨bb, 0, none⟩)]) Try.func84 rfl rfl (Nat.le_of_ble_eq_true rfl) ?_
 refine x_seq ?_
 refine x_regionL ?_
 refine xl_v v_assign ?_
 refine xl_nil ?_
 refine x_seq ?_
 refine x_regionL ?_
 refine xl_Ld ?_
 refine xl_Nc ?_
 refine xl_Fa ?_
 refine xl_Ld ?_
 refine xl_v v_eql ?_
 refine xl_v v_move ?_
 refine xl_split 7 (fun g7 => ?_) (fun g7 => ?_)
 ·
  refine xl_gs rfl EvO.eq ?_
  refine xl_gs rfl EvO.eq ?_
  refine xl_gs rfl EvO.eq ?_
  refine xl_gs rfl EvO.eq ?_
  refine xl_gs rfl EvO.eq ?_
  refine xl_Pk ?_
  refine xl_v v_assign ?_
  refine xl_nil ?_
  refine x_ret ?_
  refine fin1 rfl ?_
  refine ⟨congrArg Value.bool ?_, lkc⟩
  simp at g7
  first
   | (rw [decide_eq_true (by omega)]; done)
   | (rw [decide_eq_decide]; omega)
 ·
  refine xl_gLd rfl EvO.eq ?_
  refine xl_gNc rfl EvO.eq ?_
  refine xl_gFa rfl EvO.eq ?_
  refine xl_gLd rfl EvO.eq ?_
  refine xl_gv rfl EvO.eq v_eql ?_
  refine xl_Pk ?_
  refine xl_v v_assign ?_
  refine xl_nil ?_
  refine x_ret ?_
  refine fin1 rfl ?_
  refine ⟨congrArg Value.bool ?_, lkc⟩
  simp at g7
  first
   | (rw [decide_eq_true (by omega)]; done)
   | (rw [decide_eq_decide]; omega)

/-- waystation/meta.busy -/
theorem busy_ok (A : Option Addr) (k : Nat) (xs : List LW) (w : World) [Row w A (xs.flatMap wrC)] (hk : k < xs.length) : Ret Try.prog 53 #[padd A (k * 6)] w (fun v w' => (∃ x : Chk, v = .agg (chkC x).toArray ∧ x.why = 203 ∧ x.bad = decide (3 ≤ xs[k].w.st ∧ xs[k].w.st ≤ 4) ∧ ChkAt w' x) ∧ Lk w' w NoB) := by
 refine ret_of_x (N := 5) (l := [padd A (k * 6)]) Try.func53 rfl rfl (Nat.le_of_ble_eq_true rfl) ?_
 refine x_seq ?_
 refine x_regionL ?_
 refine xl_e (e_box fun b1 w1 n1 l1 k1 => ?_)
 refine xl_e (e_alloc fun b2 w2 n2 l2 k2 => ?_)
 refine xl_nil ?_
 refine x_seq ?_
 refine x_regionL ?_
 refine xl_v v_makeFunc ?_
 refine xl_v v_build ?_
 refine xl_s (e_storeA fun w3 l3 k3 => ?_)
 refine xl_nil ?_
 refine x_ret ?_
 refine finR (rs := [.cell 2 94]) rfl ?_
 refine ⟨⟨⟨_, [], [_], 203, _⟩, rfl, rfl, rfl, fun W l => ?_⟩, lkc⟩
 haveI lkW : Lk W w NoB := lkc
 haveI : Row W A (xs.flatMap wrC) := inferInstance
 haveI : Blk W b1 _ := ⟨(l.keep.block b1 Has.lt (fun h => h)).trans (Blk.eq : (w3).heap[b1]? = _)⟩
 exact CallV.of_ret (busy1_ok b1 A k xs W hk)

/-- waystation/meta.stale$1 -/
theorem stale1_ok (bb sb : Nat) (A : Option Addr) (k : Nat) (xs : List LW) (s : Int) (w : World) [Blk w bb (.cells #[padd A (k * 6)] 99 (0, 0))] [Blk w sb (.cells #[.int .i64 s] 2 (0, 0))] [Row w A (xs.flatMap wrC)] (hk : k < xs.length) : Ret Try.prog 88 #[.pointer (some ⟨bb, 0, none⟩), .pointer (some ⟨sb, 0, none⟩)] w (fun v w' => v = .bool (!decide (xs[k].w.ses = s)) ∧ Lk w' w NoB) := by
 have hA := row_some (w := w) (A := A) (cs := xs.flatMap wrC) inferInstance (by rw [flat_len (sz := 6) (fun _ => rfl)]; omega)
 refine ret_of_x (N := 9) (l := [.pointer (some ⟨bb, 0, none⟩), .pointer (some ⟨sb, 0, none⟩)]) Try.func88 rfl rfl (Nat.le_of_ble_eq_true rfl) ?_
 refine x_seq ?_
 refine x_regionL ?_
 refine xl_v v_assign ?_
 refine xl_nil ?_
 refine x_seq ?_
 refine x_drawL (NoB) (allS) (.take 0 (.take 1 (.take 2 (.take 3 (.take 4 (.take 5 (.take 6 .done))))))) mixed (by kernel_rfl) (fun _ _ _ _ _ h => h) (fun w1 l1 => ?_)
 refine xt_Ld rfl ?_
 refine xt_Nc rfl ?_
 refine xt_Fa rfl ?_
 refine xt_Ld rfl ?_
 refine xt_Ld rfl ?_
 refine xt_v rfl v_neq ?_
 refine xt_v rfl v_assign ?_
 refine xt_nil ?_
 refine x_ret ?_
 refine fin1 rfl ?_
 exact ⟨rfl, lkc⟩

/-- waystation/meta.stale -/
theorem stale_ok (A : Option Addr) (k : Nat) (xs : List LW) (s : Int) (w : World) [Row w A (xs.flatMap wrC)] (hk : k < xs.length) : Ret Try.prog 55 #[padd A (k * 6), .int .i64 s] w (fun v w' => (∃ x : Chk, v = .agg (chkC x).toArray ∧ x.why = 200 ∧ x.bad = (!decide (xs[k].w.ses = s)) ∧ ChkAt w' x) ∧ Lk w' w NoB) := by
 refine ret_of_x (N := 7) (l := [padd A (k * 6), .int .i64 s]) Try.func55 rfl rfl (Nat.le_of_ble_eq_true rfl) ?_
 refine x_seq ?_
 refine x_regionL ?_
 refine xl_e (e_box fun b1 w1 n1 l1 k1 => ?_)
 refine xl_e (e_box fun b2 w2 n2 l2 k2 => ?_)
 refine xl_e (e_alloc fun b3 w3 n3 l3 k3 => ?_)
 refine xl_nil ?_
 refine x_seq ?_
 refine x_regionL ?_
 refine xl_v v_makeFunc ?_
 refine xl_v v_build ?_
 refine xl_s (e_storeA fun w4 l4 k4 => ?_)
 refine xl_nil ?_
 refine x_ret ?_
 refine finR (rs := [.cell 4 94]) rfl ?_
 refine ⟨⟨⟨_, [], [_, _], 200, _⟩, rfl, rfl, rfl, fun W l => ?_⟩, lkc⟩
 haveI lkW : Lk W w NoB := lkc
 haveI : Row W A (xs.flatMap wrC) := inferInstance
 haveI : Blk W b1 _ := ⟨(l.keep.block b1 Has.lt (fun h => h)).trans (Blk.eq : (w4).heap[b1]? = _)⟩
 haveI : Blk W b2 _ := ⟨(l.keep.block b2 Has.lt (fun h => h)).trans (Blk.eq : (w4).heap[b2]? = _)⟩
 exact CallV.of_ret (stale1_ok b1 b2 A k xs s W hk)
theorem first1_ok (A : Option Addr) (c : Nat) (x1 : Chk) (w : World) [Row w A ([x1].flatMap chkC)] (h1 : ChkAt w x1) (e : Int) (he : (if x1.bad then x1.why else 0) = e) :
  Ret Try.prog 46 #[.slice A 1 c] w (fun v w' => v = .int .i64 e ∧ Lk w' w NoB) := by
 refine (first_ok A 1 c [x1] w rfl (by omega) ?_).mono ?_
 ·intro i hi hb
  match i, hi with
  | 0, _ => exact h1
 ·rintro v w' ⟨rfl, lk⟩
  refine ⟨?_, lk⟩
  rw [← he]
  simp only [firstE, List.find?]
  cases x1.bad <;> rfl
theorem first2_ok (A : Option Addr) (c : Nat) (x1 x2 : Chk) (w : World) [Row w A ([x1, x2].flatMap chkC)] (h1 : ChkAt w x1) (h2 : x1.bad = false → ChkAt w x2) (e : Int) (he : (if x1.bad then x1.why else if x2.bad then x2.why else 0) = e) :
  Ret Try.prog 46 #[.slice A 2 c] w (fun v w' => v = .int .i64 e ∧ Lk w' w NoB) := by
 refine (first_ok A 2 c [x1, x2] w rfl (by omega) ?_).mono ?_
 ·intro i hi hb
  match i, hi with
  | 0, _ => exact h1
  | 1, _ => exact h2 (hb 0 (by omega))
 ·rintro v w' ⟨rfl, lk⟩
  refine ⟨?_, lk⟩
  rw [← he]
  simp only [firstE, List.find?]
  cases x1.bad <;> cases x2.bad <;> rfl
theorem first3_ok (A : Option Addr) (c : Nat) (x1 x2 x3 : Chk) (w : World) [Row w A ([x1, x2, x3].flatMap chkC)] (h1 : ChkAt w x1) (h2 : x1.bad = false → ChkAt w x2) (h3 : x1.bad = false → x2.bad = false → ChkAt w x3) (e : Int) (he : (if x1.bad then x1.why else if x2.bad then x2.why else if x3.bad then x3.why else 0) = e) :
  Ret Try.prog 46 #[.slice A 3 c] w (fun v w' => v = .int .i64 e ∧ Lk w' w NoB) := by
 refine (first_ok A 3 c [x1, x2, x3] w rfl (by omega) ?_).mono ?_
 ·intro i hi hb
  match i, hi with
  | 0, _ => exact h1
  | 1, _ => exact h2 (hb 0 (by omega))
  | 2, _ => exact h3 (hb 0 (by omega)) (hb 1 (by omega))
 ·rintro v w' ⟨rfl, lk⟩
  refine ⟨?_, lk⟩
  rw [← he]
  simp only [firstE, List.find?]
  cases x1.bad <;> cases x2.bad <;> cases x3.bad <;> rfl
theorem first4_ok (A : Option Addr) (c : Nat) (x1 x2 x3 x4 : Chk) (w : World) [Row w A ([x1, x2, x3, x4].flatMap chkC)] (h1 : ChkAt w x1) (h2 : x1.bad = false → ChkAt w x2) (h3 : x1.bad = false → x2.bad = false → ChkAt w x3) (h4 : x1.bad = false → x2.bad = false → x3.bad = false → ChkAt w x4) (e : Int) (he : (if x1.bad then x1.why else if x2.bad then x2.why else if x3.bad then x3.why else if x4.bad then x4.why else 0) = e) :
  Ret Try.prog 46 #[.slice A 4 c] w (fun v w' => v = .int .i64 e ∧ Lk w' w NoB) := by
 refine (first_ok A 4 c [x1, x2, x3, x4] w rfl (by omega) ?_).mono ?_
 ·intro i hi hb
  match i, hi with
  | 0, _ => exact h1
  | 1, _ => exact h2 (hb 0 (by omega))
  | 2, _ => exact h3 (hb 0 (by omega)) (hb 1 (by omega))
  | 3, _ => exact h4 (hb 0 (by omega)) (hb 1 (by omega)) (hb 2 (by omega))
 ·rintro v w' ⟨rfl, lk⟩
  refine ⟨?_, lk⟩
  rw [← he]
  simp only [firstE, List.find?]
  cases x1.bad <;> cases x2.bad <;> cases x3.bad <;> cases x4.bad <;> rfl
/-- first, where nobody is there. -/
theorem firstN_ok (A : Option Addr) (n c : Nat) (x : Chk) (cs : List Chk) (w : World) [Row w A ((x :: cs).flatMap chkC)] (hl : (x :: cs).length = n) (hn : n ≤ 100) (h1 : ChkAt w x) (hb : x.bad = true) :
  Ret Try.prog 46 #[.slice A n c] w (fun v w' => v = .int .i64 x.why ∧ Lk w' w NoB) := by
 refine (first_ok A n c (x :: cs) w hl hn ?_).mono ?_
 ·intro i hi h0
  match i, hi with
  | 0, _ => exact h1
  | i + 1, _ =>
   have h2 := h0 0 (by omega)
   simp only [List.getElem_cons_zero] at h2
   rw [hb] at h2
   cases h2
 ·rintro v w' ⟨rfl, lk⟩
  refine ⟨?_, lk⟩
  simp only [firstE, List.find?, hb]

end Go.Proofs.Ytnjpladlfiaojaa
