/-
  Walks, printed by a program of this workplace (wip/tools/sx.py) off the functions' code and a text of contracts.
-/
import Derived.Test.YtbihphclmdokeaaV
set_option linter.all false
set_option maxRecDepth 100000
set_option synthInstance.maxSize 100000
set_option synthInstance.maxHeartbeats 400000
namespace Go.Proofs.Ytbihphclmdokeaa
open Go.Wst
open Go.Wst.Sm
theorem refAt_new {w : World} {b k : Nat} (hb : w.heap[b]? = some (.cells (List.replicate k (.slice none 0 0)).toArray 64 (0, 0))) : RefAt w (OneB b) ⟨some ⟨b, 0, none⟩, k, none, 0, none, 0, List.replicate k (.slice none 0 0)⟩ ⟨List.replicate k [], []⟩ := by
  refine ⟨FRow.of_blk hb rfl, by simp, ?_, FRow.nil _ _, FRow.nil _ _, fun j hj => by have e : j = b := hj; subst e; exact (Array.getElem?_eq_some_iff.1 hb).1⟩
  intro i hi hi'
  simp only [List.getElem_replicate]
  exact ⟨none, 0, rfl, FRow.nil _ _⟩
theorem sub_ne {F' F : Nat → Prop} {w0 w7 : World} {b : Nat} (s : Wst.Sub F' F w7) (hl : ∀ k, F k → k < w0.heap.size) (h1 : w0.heap.size ≤ b) (h2 : b < w7.heap.size) : ¬ F' b := fun e => (s b e).elim (fun e => by have := hl b e; omega) (fun e => by omega)
theorem refOf_new (n : Nat) : refOf (Mach.new n) = ⟨List.replicate n [], []⟩ := by simp [refOf, Mach.new, srt]
theorem refAt_nil (w : World) : RefAt w NoB ⟨none, 0, none, 0, none, 0, []⟩ ⟨[], []⟩ := ⟨FRow.nil _ _, rfl, fun i h => by simp at h, FRow.nil _ _, FRow.nil _ _, fun _ h => h.elim⟩

/-- waystation/waystationref14.New -/
theorem refNew_ok (n : Int) (w : World) : Ret Try.prog 28 #[.int .i64 n] w (fun v w' => (∃ F D, (if 1 ≤ n ∧ n ≤ 4 then v = .tuple #[refV D (refOf (Mach.new n.toNat)), .int .i64 0] ∧ RefAt w' F D (refOf (Mach.new n.toNat)) else v = .tuple #[refV D ⟨[], []⟩, .int .i64 2] ∧ RefAt w' F D ⟨[], []⟩) ∧ ∀ k, F k → w.heap.size ≤ k) ∧ Lk w' w NoB) := by
  refine ret_of_x (N := 14) (l := [.int .i64 n]) Try.func28 rfl rfl (Nat.le_of_ble_eq_true rfl) ?_
  refine x_seq ?_
  refine x_regionL ?_
  refine xl_e (e_alloc fun b1 w1 n1 l1 k1 => ?_)
  refine xl_v v_assign ?_
  refine xl_nil ?_
  refine x_seq ?_
  refine x_seq ?_
  refine x_regionL ?_
  refine xl_v v_move ?_
  refine xl_v v_lss ?_
  refine xl_v v_move ?_
  refine xl_split 6 (fun g6 => ?_) (fun g6 => ?_)
  ·
    have hn : ¬ (1 ≤ n ∧ n ≤ 4) := by simp at g6; omega
    refine xl_gs rfl EvO.eq ?_
    refine xl_gs rfl EvO.eq ?_
    refine xl_v (by first | exact v_pickT | exact v_pickF | exact v_pick) ?_
    refine xl_nil ?_
    refine x_condT ?_
    refine x_seq ?_
    refine x_regionL ?_
    refine xl_v v_build ?_
    refine xl_s (e_storeA fun w2 l2 k2 => ?_)
    refine xl_v v_assign ?_
    refine xl_nil ?_
    refine x_ret ?_
    refine finR (rs := [.cell 2 51, .tmp 3]) rfl ?_
    refine ⟨⟨NoB, ⟨none, 0, none, 0, none, 0, []⟩, ?_, fun _ h => h.elim⟩, lkc⟩
    rw [if_neg hn]
    exact ⟨rfl, refAt_nil _⟩
  ·
    refine xl_gv rfl EvO.eq v_move ?_
    refine xl_gv rfl EvO.eq v_gtr ?_
    refine xl_v (by first | exact v_pickT | exact v_pickF | exact v_pick) ?_
    refine xl_nil ?_
    refine x_condE (fun c1 => ?_) (fun c1 => ?_)
    ·
      have hn : ¬ (1 ≤ n ∧ n ≤ 4) := by first | (simp at g6; omega) | (simp at c1; omega)
      refine x_seq ?_
      refine x_regionL ?_
      refine xl_v v_build ?_
      refine xl_s (e_storeA fun w3 l3 k3 => ?_)
      refine xl_v v_assign ?_
      refine xl_nil ?_
      refine x_ret ?_
      refine finR (rs := [.cell 2 51, .tmp 3]) rfl ?_
      refine ⟨⟨NoB, ⟨none, 0, none, 0, none, 0, []⟩, ?_, fun _ h => h.elim⟩, lkc⟩
      rw [if_neg hn]
      exact ⟨rfl, refAt_nil _⟩
    ·
      have hn : 1 ≤ n ∧ n ≤ 4 := by simp at g6 c1; omega
      refine x_skip ?_
      refine x_seq ?_
      refine x_regionL ?_
      refine xl_v v_move ?_
      refine xl_e (e_makeSlice n.toNat n.toNat (by omega) (by omega) (Nat.le_refl _) (by omega) (by omega) fun b1 w4 n1 l1 k1 => ?_)
      refine xl_v v_build ?_
      refine xl_s (e_storeA fun w5 l5 k5 => ?_)
      refine xl_v v_assign ?_
      refine xl_nil ?_
      refine x_ret ?_
      refine finR (rs := [.cell 2 51, .tmp 3]) rfl ?_
      refine ⟨⟨OneB b1, ⟨some ⟨b1, 0, none⟩, n.toNat, none, 0, none, 0, List.replicate n.toNat (.slice none 0 0)⟩, ?_, ?_⟩, lkc⟩
      · rw [if_pos hn, refOf_new]
        exact ⟨by simp [refV, refC, outV], refAt_new Blk.eq⟩
      · intro k hk
        have e : k = b1 := hk
        subst e
        rw [n1.eq]
        exact Ge.le

/-- (waystation/waystationref14.Machine).Put -/
theorem refPut_ok (F : Nat → Prop) (D : RD) (R : RefM) (part v : Int) (w : World) (h : RefAt w F D R) (hok : R.ok) : Ret Try.prog 57 #[refV D R, .int .i64 part, .int .i64 v] w (fun x w' => (∃ F' D', x = .tuple #[refV D' (R.putR part v), .int .i64 (R.putNo part v)] ∧ RefAt w' F' D' (R.putR part v) ∧ Sub F' F w) ∧ Lk w' w NoB) := by
  haveI : Row w D.PA _ := ⟨h.p.row⟩
  have hpn := h.pn
  have hfour := hok.four
  have stay : ∀ w', Lk w' w NoB → R.putNo part v ≠ 0 → ∃ F' D', Value.tuple #[refV D R, .int .i64 (R.putNo part v)] = .tuple #[refV D' (R.putR part v), .int .i64 (R.putNo part v)] ∧ RefAt w' F' D' (R.putR part v) ∧ Sub F' F w := by
    intro w' hk hne
    rw [RefM.putR, if_neg hne]
    exact ⟨F, D, rfl, h.ext hk, Sub.refl _ _⟩
  refine ret_of_x (N := 35) (l := [refV D R, .int .i64 part, .int .i64 v]) Try.func57 rfl rfl (Nat.le_of_ble_eq_true rfl) ?_
  refine x_seq ?_
  refine x_regionL ?_
  refine xl_e (e_box fun b1 w1 n1 l1 k1 => ?_)
  refine xl_e (e_alloc fun b2 w2 n2 l2 k2 => ?_)
  refine xl_v v_assign ?_
  refine xl_nil ?_
  refine x_seq ?_
  refine x_seq ?_
  refine x_regionL ?_
  refine xl_v v_move ?_
  refine xl_v v_lss ?_
  refine xl_v v_move ?_
  refine xl_split 10 (fun g10 => ?_) (fun g10 => ?_)
  ·
    refine xl_gs rfl EvO.eq ?_
    refine xl_gs rfl EvO.eq ?_
    refine xl_gs rfl EvO.eq ?_
    refine xl_gs rfl EvO.eq ?_
    refine xl_gs rfl EvO.eq ?_
    refine xl_v (by first | exact v_pickT | exact v_pickF | exact v_pick) ?_
    refine xl_nil ?_
    refine x_condT ?_
    refine x_seq ?_
    refine x_regionL ?_
    refine xl_v (by first | exact v_loadA | exact v_loadF (by decide) (by omega)) ?_
    refine xl_s (e_storeA fun w3 l3 k3 => ?_)
    refine xl_v v_assign ?_
    refine xl_nil ?_
    refine x_ret ?_
    refine finR (rs := [.cell 6 51, .tmp 7]) rfl ?_
    have hn : R.putNo part v = 4 := by
      have : R.hasB part = false := by simp [RefM.hasB]; first | (simp at g10; omega) | (simp at g10 c1; omega)
      simp [RefM.putNo, this]
    refine ⟨?_, lkc⟩
    have := stay w3 lkc (by omega)
    rw [hn] at this ⊢
    exact this
  ·
    refine xl_gv rfl EvO.eq v_move ?_
    refine xl_gv rfl EvO.eq (by first | exact v_fieldAddr | exact v_fieldAddrF (by decide) (by omega) | exact v_fieldAddrR (by first | assumption | rfl)) ?_
    refine xl_gv rfl EvO.eq (by first | exact v_load | exact v_loadO (by omega) | exact v_loadFf (by omega) | exact v_loadF0 (by omega)) ?_
    refine xl_gv rfl EvO.eq v_len ?_
    refine xl_gv rfl EvO.eq v_geq ?_
    refine xl_v (by first | exact v_pickT | exact v_pickF | exact v_pick) ?_
    refine xl_nil ?_
    refine x_condE (fun c1 => ?_) (fun c1 => ?_)
    ·
      refine x_seq ?_
      refine x_regionL ?_
      refine xl_v (by first | exact v_loadA | exact v_loadF (by decide) (by omega)) ?_
      refine xl_s (e_storeA fun w4 l4 k4 => ?_)
      refine xl_v v_assign ?_
      refine xl_nil ?_
      refine x_ret ?_
      refine finR (rs := [.cell 6 51, .tmp 7]) rfl ?_
      have hn : R.putNo part v = 4 := by
        have : R.hasB part = false := by simp [RefM.hasB]; first | (simp at g10; omega) | (simp at g10 c1; omega)
        simp [RefM.putNo, this]
      refine ⟨?_, lkc⟩
      have := stay w4 lkc (by omega)
      rw [hn] at this ⊢
      exact this
    ·
      have hh : R.hasB part = true := by simp at g10 c1; simp [RefM.hasB]; omega
      have hp0 : part = (part.toNat : Int) := by simp [RefM.hasB] at hh; omega
      have hp1 : part.toNat < R.parts.length := by simp [RefM.hasB] at hh; omega
      obtain ⟨B, cB, hV, hB⟩ := ref_part h hh
      have hPs : D.PA.isSome = true := row_some (cs := D.pv) (w := w) inferInstance (by omega)
      refine x_skip ?_
      refine x_seq ?_
      refine x_seq ?_
      refine x_regionL ?_
      refine xl_v v_move ?_
      refine xl_call (refValue_ok _ _) ?_
      rintro _ _ ⟨rfl, rfl⟩
      refine xl_v v_not ?_
      refine xl_nil ?_
      refine x_condE (fun c2 => ?_) (fun c2 => ?_)
      ·
        refine x_seq ?_
        refine x_regionL ?_
        refine xl_v (by first | exact v_loadA | exact v_loadF (by decide) (by omega)) ?_
        refine xl_s (e_storeA fun w6 l6 k6 => ?_)
        refine xl_v v_assign ?_
        refine xl_nil ?_
        refine x_ret ?_
        refine finR (rs := [.cell 6 51, .tmp 7]) rfl ?_
        have hn : R.putNo part v = 2 := by
          have : valB v = false := by simpa using c2
          simp [RefM.putNo, hh, this]
        refine ⟨?_, lkc⟩
        have := stay w6 lkc (by omega)
        rw [hn] at this ⊢
        exact this
      ·
        have hv : valB v = true := by simpa using c2
        refine x_skip ?_
        refine x_seq ?_
        refine x_seq ?_
        refine x_regionL ?_
        refine xl_v (by first | exact v_fieldAddr | exact v_fieldAddrF (by decide) (by omega) | exact v_fieldAddrR (by first | assumption | rfl)) ?_
        refine xl_v (by first | exact v_load | exact v_loadO (by omega) | exact v_loadFf (by omega) | exact v_loadF0 (by omega)) ?_
        refine xl_v v_move ?_
        refine xl_v (v_indexAddr part.toNat hp0 hp1 hPs) ?_
        refine xl_v (v_loadR (by simpa using hV)) ?_
        refine xl_v v_len ?_
        refine xl_v v_geq ?_
        refine xl_nil ?_
        first | refine x_condP (fun c3 => ?_) (fun c3 => ?_) | refine x_condN (fun c3 => ?_) (fun c3 => ?_) | refine x_condE (fun c3 => ?_) (fun c3 => ?_)
        ·
          refine x_seq ?_
          refine x_regionL ?_
          refine xl_v (by first | exact v_loadA | exact v_loadF (by decide) (by omega)) ?_
          refine xl_s (e_storeA fun w7 l7 k7 => ?_)
          refine xl_v v_assign ?_
          refine xl_nil ?_
          refine x_ret ?_
          refine finR (rs := [.cell 6 51, .tmp 7]) rfl ?_
          have hn : R.putNo part v = 3 := by
            have : 4096 ≤ (R.part part).length := by omega
            simp [RefM.putNo, hh, hv, this]
          refine ⟨?_, lkc⟩
          have := stay w7 lkc (by omega)
          rw [hn] at this ⊢
          exact this
        ·
          refine x_skip ?_
          refine x_seq ?_
          refine x_regionL ?_
          refine xl_v (by first | exact v_loadA | exact v_loadF (by decide) (by omega)) ?_
          refine xl_v v_move ?_
          refine xl_v v_move ?_
          refine xl_v v_build ?_
          refine xl_call (with_ok F D R part ⟨v, -1, -1⟩ w2 (h.ext lkc) hh (by omega) (by omega)) ?_
          rintro _ w8 ⟨F2, D2, rfl, h2, s2, l2⟩
          have hbw : b2 < w2.heap.size := Has.lt
          refine xl_s (e_storeA fun w9 l75 k75 => ?_)
          refine xl_v v_assign ?_
          refine xl_nil ?_
          refine x_ret ?_
          refine finR (rs := [.cell 6 51, .tmp 7]) rfl ?_
          have hn : R.putNo part v = 0 := by
            have : ¬ 4096 ≤ (R.part part).length := by omega
            simp [RefM.putNo, hh, hv, this]
          refine ⟨?_, lkc⟩
          rw [RefM.putR, if_pos hn, hn]
          have hb3 : w.heap.size ≤ b2 := by rw [n2.eq]; exact Ge.le
          exact ⟨F2, D2, rfl, h2.keep l75.keep (fun k hk e => sub_ne s2 h.lt hb3 hbw (by have e' : k = b2 := e; exact e' ▸ hk)), fun k hk => (s2 k hk).imp id (fun e => Nat.le_trans Ge.le e)⟩

/-- waystation/waystationref14.SameItems -/
theorem sameItems_ok (A : Option Addr) (n c : Nat) (xs : List Itm) (B : Option Addr) (n' c' : Nat) (ys : List Itm) (w : World) [Row w A (itemsC xs)] [Row w B (itemsC ys)] (hl : xs.length = n) (hl' : ys.length = n') (hn : n ≤ 1000000000) : Ret Try.prog 60 #[.slice A n c, .slice B n' c'] w (fun v w' => v = .bool (decide (xs = ys)) ∧ Lk w' w NoB) := by
  refine ret_of_x (N := 26) (l := [.slice A n c, .slice B n' c']) Try.func60 rfl rfl (Nat.le_of_ble_eq_true rfl) ?_
  refine x_seq ?_
  refine x_regionL ?_
  refine xl_v v_assign ?_
  refine xl_nil ?_
  refine x_seq ?_
  refine x_seq ?_
  refine x_regionL ?_
  refine xl_v v_move ?_
  refine xl_v v_len ?_
  refine xl_v v_move ?_
  refine xl_v v_len ?_
  refine xl_v v_neq ?_
  refine xl_nil ?_
  first | refine x_condP (fun c1 => ?_) (fun c1 => ?_) | refine x_condN (fun c1 => ?_) (fun c1 => ?_) | refine x_condE (fun c1 => ?_) (fun c1 => ?_)
  ·
    refine x_seq ?_
    refine x_regionL ?_
    refine xl_v v_assign ?_
    refine xl_nil ?_
    refine x_ret ?_
    refine fin1 rfl ?_
    exact ⟨by rw [decide_eq_false]; intro e; subst e; omega, lkc⟩
  ·
    have hnn : n = n' := by omega
    refine x_skip ?_
    refine x_seq ?_
    refine x_seq ?_
    refine x_regionL ?_
    refine xl_v v_assign ?_
    refine xl_nil ?_
    refine x_block ?_
    refine x_loop (fun m τ ds w' => ds = [] ∧ ∃ k : Nat, m = n - k ∧ k ≤ n ∧ xs.take k = ys.take k ∧ Ev τ 0 (.slice A n c) ∧ Ev τ 1 (.slice B n' c') ∧ Ev τ 5 (.int .i64 (k : Int)) ∧ Lk w' w NoB) (n) ?start ?round
    case start =>
      exact ⟨rfl, 0, rfl, Nat.zero_le _, by simp, inferInstance, inferInstance, evc, lkc⟩
    case round =>
      intro m τ1 ds1 w1 hI
      obtain ⟨rfl, k, rfl, hk, heq, e0, e1, e5, lk⟩ := hI
      refine x_seq ?_
      refine x_seq ?_
      refine x_regionL ?_
      refine xl_v v_move ?_
      refine xl_v v_move ?_
      refine xl_v v_len ?_
      refine xl_v v_lss ?_
      refine xl_nil ?_
      first | refine x_condP (fun c2 => ?_) (fun c2 => ?_) | refine x_condN (fun c2 => ?_) (fun c2 => ?_) | refine x_condE (fun c2 => ?_) (fun c2 => ?_)
      ·
        have hk1 : k < xs.length := by omega
        have hk2 : k < ys.length := by omega
        refine x_skip ?_
        refine x_seq ?_
        refine x_block ?_
        refine x_seq ?_
        refine x_drawL (NoB) (allS) (.take 0 (.take 1 (.take 2 (.take 3 (.take 4 (.take 5 (.take 6 (.take 7 (.take 8 .done))))))))) mixed (by kernel_rfl) (fun _ _ _ _ _ h => h) (fun w2 l2 => ?_)
        refine xt_v rfl v_move ?_
        refine xt_v rfl v_move ?_
        refine xt_v rfl (by first | exact v_indexAddr _ rfl (by omega) (by assumption) | exact v_indexO _ rfl (by omega) (by omega) | exact v_indexF _ (by decide) rfl (by omega) (by omega)) ?_
        refine xt_v rfl (by first | exact v_loadA | exact v_loadF (by decide) (by omega)) ?_
        refine xt_v rfl v_move ?_
        refine xt_v rfl v_move ?_
        refine xt_v rfl (by first | exact v_indexAddr _ rfl (by omega) (by assumption) | exact v_indexO _ rfl (by omega) (by omega) | exact v_indexF _ (by decide) rfl (by omega) (by omega)) ?_
        refine xt_v rfl (by first | exact v_loadA | exact v_loadF (by decide) (by omega)) ?_
        refine xt_v rfl v_neq_struct ?_
        refine xt_nil ?_
        refine x_condE (fun c3 => ?_) (fun c3 => ?_)
        ·
          have hne : xs[k] ≠ ys[k] := fun e => by rw [e] at c3; simp at c3
          refine x_seq ?_
          refine x_regionL ?_
          refine xl_v v_assign ?_
          refine xl_nil ?_
          refine x_ret ?_
          refine fin1 rfl ?_
          refine ⟨?_, lkc⟩
          rw [decide_eq_false]
          intro e
          subst e
          exact hne rfl
        ·
          have heqk : xs[k] = ys[k] := by
            simp at c3
            exact itm_eq ⟨c3.1, c3.2.1, c3.2.2⟩
          refine x_skip ?_
          refine x_regionL ?_
          refine xl_v v_move ?_
          refine xl_v (v_add (by omega)) ?_
          refine xl_v v_assign ?_
          refine xl_nil ?_
          refine ⟨_, ?_, rfl, k + 1, rfl, by omega, ?_, inferInstance, inferInstance, evc, lkc⟩
          · omega
          · rw [take_snoc _ _ hk1, take_snoc _ _ hk2, heq, heqk]
      ·
        refine x_exit ?_
        refine x_seq ?_
        refine x_regionL ?_
        refine xl_v v_assign ?_
        refine xl_nil ?_
        refine x_ret ?_
        refine fin1 rfl ?_
        refine ⟨?_, lkc⟩
        rw [decide_eq_true]
        rw [List.take_of_length_le (by omega), List.take_of_length_le (by omega)] at heq
        exact heq

/-- (waystation/waystationref14.Machine).Made -/
theorem refMade_ok (F : Nat → Prop) (D : RD) (R : RefM) (id : Int) (w : World) (h : RefAt w F D R) (hok : R.ok) : Ret Try.prog 61 #[refV D R, .int .i64 id] w (fun v w' => (∃ A n c, v = .slice A n c ∧ w'.ownsRow w.heap.size 2 1 v n (ints (R.made id)) ∧ n ≤ 16384) ∧ Lk w' w NoB) := by
  haveI : Row w D.PA _ := ⟨h.p.row⟩
  have hpn := h.pn
  have hfour := hok.four
  obtain ⟨mad, hmad⟩ : ∃ mad : List Itm → List Int, mad = fun l => (l.filter (fun x => decide (x.rule = id))).map (fun x => x.val) := ⟨_, rfl⟩
  have mapp : ∀ a b, mad (a ++ b) = mad a ++ mad b := by intro a b; rw [hmad]; simp
  have mone : ∀ x, mad [x] = if x.rule = id then [x.val] else [] := by intro x; rw [hmad]; by_cases h : x.rule = id <;> simp [h]
  have mnil : mad [] = [] := by rw [hmad]; rfl
  refine ret_of_x (N := 49) (l := [refV D R, .int .i64 id]) Try.func61 rfl rfl (Nat.le_of_ble_eq_true rfl) ?_
  refine x_seq ?_
  refine x_regionL ?_
  refine xl_e (e_box fun b0 w1 n0 l0 k0 => ?_)
  refine xl_v v_assign ?_
  refine xl_nil ?_
  refine x_seq ?_
  refine x_regionL ?_
  refine xl_v v_assign ?_
  refine xl_nil ?_
  refine x_seq ?_
  refine x_seq ?_
  refine x_regionL ?_
  refine xl_v v_assign ?_
  refine xl_nil ?_
  refine x_block ?_
  refine x_loop (fun m τ ds w' => ds = [] ∧ ∃ (k nv : Nat) (A : Option Addr) (c : Nat), m = R.parts.length - k ∧ k ≤ R.parts.length ∧ nv ≤ k * 4096 ∧ OwnI w' A nv c w.heap.size 2 1 nv (ints (mad (R.parts.take k).flatten)) ∧ NewA A w1 ∧ Ev τ 1 (.int .i64 id) ∧ Ev τ 2 (.pointer (some ⟨b0, 0, none⟩)) ∧ Ev τ 5 (.slice A nv c) ∧ Ev τ 6 (.int .i64 (k : Int)) ∧ Blk w' b0 (.cells (refC D R).toArray 51 (0, 0)) ∧ Lk w' w1 NoB) (R.parts.length) ?start ?round
  case start =>
    exact ⟨rfl, 0, 0, none, 0, rfl, Nat.zero_le _, Nat.le_refl _, ⟨by rw [hmad]; exact World.ownsRow_nil _ _ _ _⟩, ⟨fun a h => by cases h⟩, inferInstance, inferInstance, evc, evc, inferInstance, lkc⟩
  case round =>
    intro m τ2 ds2 w2 hI
    obtain ⟨rfl, k, nv, A, c, rfl, hk, hnv, oA, aA, e1, e2, e5, e6, kb, lk⟩ := hI
    refine x_seq ?_
    refine x_seq ?_
    refine x_regionL ?_
    refine xl_v v_move ?_
    refine xl_v (by first | exact v_fieldAddr | exact v_fieldAddrF (by decide) (by omega) | exact v_fieldAddrR (by first | assumption | rfl)) ?_
    refine xl_v (by first | exact v_load | exact v_loadO (by omega) | exact v_loadFf (by omega) | exact v_loadF0 (by omega)) ?_
    refine xl_v v_len ?_
    refine xl_v v_lss ?_
    refine xl_nil ?_
    first | refine x_condP (fun c1 => ?_) (fun c1 => ?_) | refine x_condN (fun c1 => ?_) (fun c1 => ?_) | refine x_condE (fun c1 => ?_) (fun c1 => ?_)
    ·
      have hk1 : k < R.parts.length := by omega
      have hk2 : k < D.pv.length := by omega
      obtain ⟨B, cB, hV, hB⟩ := h.pi k hk2 hk1
      have hV' : D.pv[k]? = some (.slice B R.parts[k].length cB) := by rw [← hV]; exact List.getElem?_eq_getElem hk2
      have hlong := hok.long _ (List.getElem_mem hk1)
      haveI : Row w B _ := ⟨hB.row⟩
      haveI := hB.old h.lt
      haveI := h.p.old h.lt
      have hPs : D.PA.isSome = true := row_some (cs := D.pv) (w := w) inferInstance (by omega)
      refine x_skip ?_
      refine x_seq ?_
      refine x_block ?_
      refine x_seq ?_
      refine x_regionL ?_
      refine xl_v v_assign ?_
      refine xl_nil ?_
      refine x_block ?_
      refine x_loop (fun m τ ds w' => ds = [] ∧ ∃ (i nv : Nat) (A : Option Addr) (c : Nat), m = R.parts[k].length - i ∧ i ≤ R.parts[k].length ∧ nv ≤ k * 4096 + i ∧ OwnI w' A nv c w.heap.size 2 1 nv (ints (mad (R.parts.take k).flatten ++ mad (R.parts[k].take i))) ∧ NewA A w1 ∧ Ev τ 1 (.int .i64 id) ∧ Ev τ 2 (.pointer (some ⟨b0, 0, none⟩)) ∧ Ev τ 5 (.slice A nv c) ∧ Ev τ 6 (.int .i64 (k : Int)) ∧ Ev τ 7 (.int .i64 (i : Int)) ∧ Blk w' b0 (.cells (refC D R).toArray 51 (0, 0)) ∧ Lk w' w1 NoB) (R.parts[k].length) ?start ?round
      case start =>
        exact ⟨rfl, 0, nv, A, c, rfl, Nat.zero_le _, hnv, ⟨by have := own_ext oA.own (lkc : Lk w2 _ NoB); rw [List.take_zero, mnil, List.append_nil]; exact this⟩, aA, inferInstance, inferInstance, inferInstance, inferInstance, evc, inferInstance, lkc⟩
      case round =>
        intro m τ3 ds3 w3 hI
        obtain ⟨rfl, i, nv, A, c, rfl, hi, hnv, oA, aA, f1, f2, f5, f6, f7, kb2, lk2⟩ := hI
        refine x_seq ?_
        refine x_seq ?_
        refine x_regionL ?_
        refine xl_v v_move ?_
        refine xl_v (by first | exact v_fieldAddr | exact v_fieldAddrF (by decide) (by omega) | exact v_fieldAddrR (by first | assumption | rfl)) ?_
        refine xl_v (by first | exact v_load | exact v_loadO (by omega) | exact v_loadFf (by omega) | exact v_loadF0 (by omega)) ?_
        refine xl_v v_move ?_
        refine xl_v (v_indexAddr k rfl hk1 hPs) ?_
        refine xl_v (v_loadR (by rw [Nat.mul_one]; exact hV')) ?_
        refine xl_v v_len ?_
        refine xl_v v_lss ?_
        refine xl_nil ?_
        first | refine x_condP (fun c2 => ?_) (fun c2 => ?_) | refine x_condN (fun c2 => ?_) (fun c2 => ?_) | refine x_condE (fun c2 => ?_) (fun c2 => ?_)
        ·
          have hi1 : i < R.parts[k].length := by omega
          refine x_skip ?_
          refine x_seq ?_
          refine x_block ?_
          refine x_seq ?_
          refine x_regionL ?_
          refine xl_v (by first | exact v_fieldAddr | exact v_fieldAddrF (by decide) (by omega) | exact v_fieldAddrR (by first | assumption | rfl)) ?_
          refine xl_v (by first | exact v_load | exact v_loadO (by omega) | exact v_loadFf (by omega) | exact v_loadF0 (by omega)) ?_
          refine xl_v v_move ?_
          refine xl_v (v_indexAddr k rfl hk1 hPs) ?_
          refine xl_v (v_loadR (by rw [Nat.mul_one]; exact hV')) ?_
          refine xl_v v_move ?_
          refine xl_v (by first | exact v_indexAddr _ rfl (by omega) (by assumption) | exact v_indexO _ rfl (by omega) (by omega) | exact v_indexF _ (by decide) rfl (by omega) (by omega)) ?_
          refine xl_v (by first | exact v_fieldAddr | exact v_fieldAddrF (by decide) (by omega) | exact v_fieldAddrR (by first | assumption | rfl)) ?_
          refine xl_v (by first | exact v_load | exact v_loadO (by omega) | exact v_loadFf (by omega) | exact v_loadF0 (by omega)) ?_
          refine xl_v v_move ?_
          refine xl_v v_eql ?_
          refine xl_nil ?_
          first | refine x_condP (fun c3 => ?_) (fun c3 => ?_) | refine x_condN (fun c3 => ?_) (fun c3 => ?_) | refine x_condE (fun c3 => ?_) (fun c3 => ?_)
          ·
            refine x_regionL ?_
            refine xl_v v_move ?_
            refine xl_v (by first | exact v_fieldAddr | exact v_fieldAddrF (by decide) (by omega) | exact v_fieldAddrR (by first | assumption | rfl)) ?_
            refine xl_v (by first | exact v_load | exact v_loadO (by omega) | exact v_loadFf (by omega) | exact v_loadF0 (by omega)) ?_
            refine xl_v v_move ?_
            refine xl_v (v_indexAddr k rfl hk1 hPs) ?_
            refine xl_v (v_loadR (by rw [Nat.mul_one]; exact hV')) ?_
            refine xl_v v_move ?_
            refine xl_v (by first | exact v_indexAddr _ rfl (by omega) (by assumption) | exact v_indexO _ rfl (by omega) (by omega) | exact v_indexF _ (by decide) rfl (by omega) (by omega)) ?_
            refine xl_v (by first | exact v_fieldAddr | exact v_fieldAddrF (by decide) (by omega) | exact v_fieldAddrR (by first | assumption | rfl)) ?_
            refine xl_v (by first | exact v_load | exact v_loadO (by omega) | exact v_loadFf (by omega) | exact v_loadF0 (by omega)) ?_
            refine xl_e (e_buildSlice1 rfl fun b4 w4 n4 l4 k4 => ?_)
            refine xl_e (e_app (by omega) (by decide) (by omega) (by omega) (Nat.le_trans (Nat.le_refl _) Ge.le) fun A9 c9 w5 o9 l9 a9 f9 => ?_)
            refine xl_v v_assign ?_
            refine xl_nil ?_
            refine x_regionL ?_
            refine xl_v v_move ?_
            refine xl_v (v_add (by omega)) ?_
            refine xl_v v_assign ?_
            refine xl_nil ?_
            first
            | exact ⟨_, by omega, rfl, i + 1, nv + 1, A9, c9, rfl, by omega, by omega, ⟨by have := o9.own; rw [take_snoc _ _ hi1, mapp, mone, if_pos c3, ← List.append_assoc, ints_append]; exact this⟩, a9, inferInstance, inferInstance, inferInstance, inferInstance, evc, inferInstance, lkc⟩
            | exact ⟨_, by omega, rfl, i + 1, nv, A, c, rfl, by omega, by omega, ⟨by have := (OwnI.own : World.ownsRow w5 _ _ _ (.slice A nv c) _ _); rw [take_snoc _ _ hi1, mapp, mone, if_neg c3, List.append_nil]; exact this⟩, aA, inferInstance, inferInstance, inferInstance, inferInstance, evc, inferInstance, lkc⟩
          ·
            refine x_skip ?_
            refine x_regionL ?_
            refine xl_v v_move ?_
            refine xl_v (v_add (by omega)) ?_
            refine xl_v v_assign ?_
            refine xl_nil ?_
            first
            | exact ⟨_, by omega, rfl, i + 1, nv + 1, A9, c9, rfl, by omega, by omega, ⟨by have := o9.own; rw [take_snoc _ _ hi1, mapp, mone, if_pos c3, ← List.append_assoc, ints_append]; exact this⟩, a9, inferInstance, inferInstance, inferInstance, inferInstance, evc, inferInstance, lkc⟩
            | exact ⟨_, by omega, rfl, i + 1, nv, A, c, rfl, by omega, by omega, ⟨by have := (OwnI.own : World.ownsRow w3 _ _ _ (.slice A nv c) _ _); rw [take_snoc _ _ hi1, mapp, mone, if_neg c3, List.append_nil]; exact this⟩, aA, inferInstance, inferInstance, inferInstance, inferInstance, evc, inferInstance, lkc⟩
        ·
          obtain ⟨nv2, A2, c2', hfin2, aA2, hnv2, e5', hE⟩ : ∃ (nv2 : Nat) (A2 : Option Addr) (c2' : Nat), World.ownsRow w3 w.heap.size 2 1 (.slice A2 nv2 c2') nv2 (ints (mad (R.parts.take (k + 1)).flatten)) ∧ NewA A2 w1 ∧ nv2 ≤ (k + 1) * 4096 ∧ nv2 = nv ∧ A2 = A ∧ c2' = c := by
            refine ⟨nv, A, c, ?_, aA, by omega, rfl, rfl, rfl⟩
            have hie : i = R.parts[k].length := by omega
            have := oA.own
            rw [take_snoc _ _ hk1, List.flatten_append, mapp]
            rw [hie, List.take_of_length_le (Nat.le_refl _)] at this
            simpa using this
          obtain ⟨rfl, rfl⟩ := hE
          subst e5'
          refine x_exit ?_
          refine x_regionL ?_
          refine xl_v v_move ?_
          refine xl_v (v_add (by omega)) ?_
          refine xl_v v_assign ?_
          refine xl_nil ?_
          exact ⟨_, by omega, rfl, k + 1, nv2, A2, c2', rfl, by omega, by omega, ⟨hfin2⟩, aA2, inferInstance, inferInstance, inferInstance, evc, inferInstance, lkc⟩
    ·
      have hkn : k = R.parts.length := by omega
      refine x_exit ?_
      refine x_seq ?_
      refine x_regionL ?_
      refine xl_v v_move ?_
      refine xl_v v_assign ?_
      refine xl_nil ?_
      refine x_ret ?_
      refine fin1 rfl ?_
      refine ⟨⟨A, nv, c, rfl, ?_, by omega⟩, lkc⟩
      have := (OwnI.own : World.ownsRow w2 _ _ _ (.slice A nv c) _ _)
      rw [hkn, List.take_of_length_le (Nat.le_refl _), hmad] at this
      exact this
end Go.Proofs.Ytbihphclmdokeaa
