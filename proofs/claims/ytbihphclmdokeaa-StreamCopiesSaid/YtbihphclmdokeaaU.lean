/-
  Walks, printed by a program of this workplace (wip/tools/sx.py) off the functions' code and a text of contracts.
-/
import Derived.Test.YtbihphclmdokeaaT
import Derived.Test.YtbihphclmdokeaaSr
set_option linter.all false
set_option maxRecDepth 100000
set_option synthInstance.maxSize 100000
set_option synthInstance.maxHeartbeats 400000
namespace Go.Proofs.Ytbihphclmdokeaa
open Go.Wst
open Go.Wst.Sm
instance encN_item : EncN itemC 3 := ⟨fun _ => rfl⟩
instance encN_rule : EncN ruleC 5 := ⟨fun _ => rfl⟩
abbrev rowC (q : Rule × Nat) : List Value := ruleC q.1
instance encN_row : EncN rowC 5 := ⟨fun _ => rfl⟩
abbrev posC (q : Rule × Nat) : Value := .int .i64 (q.2 : Int)
theorem flat_intC (xs : List Int) : xs.flatMap intC = ints xs := by
  unfold ints
  induction xs with
  | nil => rfl
  | cons x xs ih => simp [ih]
structure RD where
  PA : Option Addr
  pc : Nat
  RA : Option Addr
  rc : Nat
  QA : Option Addr
  qc : Nat
  pv : List Value
abbrev refC (D : RD) (R : RefM) : List Value := [.slice D.PA R.parts.length D.pc, .slice D.RA R.rows.length D.rc, .slice D.QA R.rows.length D.qc]
abbrev refV (D : RD) (R : RefM) : Value := .agg (refC D R).toArray
structure RefAt (w : World) (F : Nat → Prop) (D : RD) (R : RefM) : Prop where
  p : FRow w F D.PA D.pv
  pn : D.pv.length = R.parts.length
  pi : ∀ (i : Nat) (h : i < D.pv.length) (h' : i < R.parts.length), ∃ B c, D.pv[i] = .slice B R.parts[i].length c ∧ FRow w F B (itemsC R.parts[i])
  r : FRow w F D.RA (R.rows.flatMap rowC)
  q : FRow w F D.QA (R.rows.map posC)
  lt : ∀ k, F k → k < w.heap.size
theorem RefAt.keep {w w' : World} {F S : Nat → Prop} {D : RD} {R : RefM} (h : RefAt w F D R) (hk : Keep S w w') (hs : ∀ k, F k → ¬ S k) : RefAt w' F D R :=
  ⟨h.p.keep hk hs, h.pn, fun i a b => by
    obtain ⟨B, c, e, hr⟩ := h.pi i a b
    exact ⟨B, c, e, hr.keep hk hs⟩, h.r.keep hk hs, h.q.keep hk hs, fun k hk' => Nat.lt_of_lt_of_le (h.lt k hk') hk.size⟩
theorem RefAt.ext {w w' : World} {F : Nat → Prop} {D : RD} {R : RefM} (h : RefAt w F D R) (hk : Lk w' w NoB) : RefAt w' F D R := h.keep hk.keep (fun _ _ h => h)
theorem RefAt.mono {w : World} {F G : Nat → Prop} {D : RD} {R : RefM} (h : RefAt w F D R) (hs : ∀ k, F k → G k) (hl : ∀ k, G k → k < w.heap.size) : RefAt w G D R :=
  ⟨h.p.mono hs, h.pn, fun i a b => by
    obtain ⟨B, c, e, hr⟩ := h.pi i a b
    exact ⟨B, c, e, hr.mono hs⟩, h.r.mono hs, h.q.mono hs, hl⟩

/-- (waystation/waystationref14.Machine).At -/
theorem refAt_ok (F : Nat → Prop) (D : RD) (R : RefM) (id : Int) (w : World) (h : RefAt w F D R) (hn : R.rows.length ≤ 1000) : Ret Try.prog 35 #[refV D R, .int .i64 id] w (fun v w' => v = .int .i64 (R.at_ id) ∧ Lk w' w NoB) := by
  haveI : Row w D.RA _ := ⟨h.r.row⟩
  refine ret_of_x (N := 22) (l := [refV D R, .int .i64 id]) Try.func35 rfl rfl (Nat.le_of_ble_eq_true rfl) ?_
  refine x_seq ?_
  refine x_regionL ?_
  refine xl_e (e_box fun b0 w1 n0 l0 k0 => ?_)
  refine xl_v v_assign ?_
  refine xl_nil ?_
  refine x_seq ?_
  refine x_seq ?_
  refine x_regionL ?_
  refine xl_v v_assign ?_
  refine xl_nil ?_
  refine x_block ?_
  refine x_loop (fun m τ ds w' => ds = [] ∧ ∃ k : Nat, m = R.rows.length - k ∧ k ≤ R.rows.length ∧ (∀ j (h : j < R.rows.length), j < k → decide (R.rows[j].1.id = id) = false) ∧ Ev τ 1 (.int .i64 id) ∧ Ev τ 2 (.pointer (some ⟨b0, 0, none⟩)) ∧ Ev τ 5 (.int .i64 (k : Int)) ∧ Blk w' b0 (.cells (refC D R).toArray 51 (0, 0)) ∧ Lk w' w NoB) (R.rows.length) ?start ?round
  case start =>
    exact ⟨rfl, 0, rfl, Nat.zero_le _, fun _ _ h => absurd h (Nat.not_lt_zero _), inferInstance, inferInstance, evc, inferInstance, lkc⟩
  case round =>
    intro m τ2 ds2 w2 hI
    obtain ⟨rfl, k, rfl, hk, hno, e1, e2, e5, kb, lk⟩ := hI
    refine x_seq ?_
    refine x_seq ?_
    refine x_regionL ?_
    refine xl_v v_move ?_
    refine xl_v (by first | exact v_fieldAddr | exact v_fieldAddrF (by decide) (by omega) | exact v_fieldAddrR (by first | assumption | rfl)) ?_
    refine xl_v (by first | exact v_load | exact v_loadO (by omega) | exact v_loadFf (by omega) | exact v_loadF0 (by omega)) ?_
    refine xl_v v_len ?_
    refine xl_v v_lss ?_
    refine xl_nil ?_
    first | refine x_condP (fun c1 => ?_) (fun c1 => ?_) | refine x_condN (fun c1 => ?_) (fun c1 => ?_) | refine x_condE (fun c1 => ?_) (fun c1 => ?_)
    ·
      have hk1 : k < R.rows.length := by omega
      refine x_skip ?_
      refine x_seq ?_
      refine x_block ?_
      refine x_seq ?_
      refine x_regionL ?_
      refine xl_v (by first | exact v_fieldAddr | exact v_fieldAddrF (by decide) (by omega) | exact v_fieldAddrR (by first | assumption | rfl)) ?_
      refine xl_v (by first | exact v_load | exact v_loadO (by omega) | exact v_loadFf (by omega) | exact v_loadF0 (by omega)) ?_
      refine xl_v v_move ?_
      refine xl_v (by first | exact v_indexAddr _ rfl (by omega) (by assumption) | exact v_indexO _ rfl (by omega) (by omega) | exact v_indexF _ (by decide) rfl (by omega) (by omega)) ?_
      refine xl_v (by first | exact v_fieldAddr | exact v_fieldAddrF (by decide) (by omega) | exact v_fieldAddrR (by first | assumption | rfl)) ?_
      refine xl_v (by first | exact v_load | exact v_loadO (by omega) | exact v_loadFf (by omega) | exact v_loadF0 (by omega)) ?_
      refine xl_v v_move ?_
      refine xl_v v_eql ?_
      refine xl_nil ?_
      first | refine x_condP (fun c2 => ?_) (fun c2 => ?_) | refine x_condN (fun c2 => ?_) (fun c2 => ?_) | refine x_condE (fun c2 => ?_) (fun c2 => ?_)
      ·
        refine x_seq ?_
        refine x_regionL ?_
        refine xl_v v_move ?_
        refine xl_v v_assign ?_
        refine xl_nil ?_
        refine x_ret ?_
        refine fin1 rfl ?_
        exact ⟨by rw [RefM.at_, idx_found (p := fun q : Rule × Nat => decide (q.1.id = id)) hk1 hno (by simpa using c2)], lkc⟩
      ·
        refine x_skip ?_
        refine x_regionL ?_
        refine xl_v v_move ?_
        refine xl_v (v_add (by omega)) ?_
        refine xl_v v_assign ?_
        refine xl_nil ?_
        refine ⟨_, ?_, rfl, k + 1, rfl, by omega, ?_, inferInstance, inferInstance, evc, inferInstance, lkc⟩
        · omega
        · intro j hj hjk
          by_cases h : j = k
          · subst h; simpa using c2
          · exact hno j hj (by omega)
    ·
      refine x_exit ?_
      refine x_seq ?_
      refine x_regionL ?_
      refine xl_v v_assign ?_
      refine xl_nil ?_
      refine x_ret ?_
      refine fin1 rfl ?_
      exact ⟨by rw [RefM.at_, idx_none fun j hj => hno j hj (by omega)], lkc⟩
end Go.Proofs.Ytbihphclmdokeaa
