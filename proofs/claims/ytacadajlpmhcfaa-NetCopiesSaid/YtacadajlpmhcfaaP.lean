/-
  Walks, printed by a program of this workplace (wip/tools/sx.py) off the functions' code and a text of contracts.
-/
import Derived.Test.YtacadajlpmhcfaaO
set_option linter.all false
set_option maxRecDepth 100000
set_option synthInstance.maxSize 100000
set_option synthInstance.maxHeartbeats 400000
namespace Go.Proofs.Ytacadajlpmhcfaa
open Go.Wst
open Go.Wst.Nm
theorem take_erase_ne {α : Type} {l : List α} {k i : Nat} (hk : k < l.length) (h : k ≠ i) : (l.take (k + 1)).eraseIdx i = (l.take k).eraseIdx i ++ [l[k]] := by
  have hl : (l.take k).length = k := by simp; omega
  rw [take_snoc l k hk]
  rcases Nat.lt_or_ge i k with h1 | h1
  · rw [List.eraseIdx_append_of_lt_length (by omega)]
  · rw [List.eraseIdx_of_length_le (by simp; omega), List.eraseIdx_of_length_le (by omega)]
theorem take_erase_eq {α : Type} {l : List α} {k : Nat} (hk : k < l.length) : (l.take (k + 1)).eraseIdx k = (l.take k).eraseIdx k := by
  have hl : (l.take k).length = k := by simp; omega
  rw [take_snoc l k hk, List.eraseIdx_append_of_length_le (by omega), List.eraseIdx_of_length_le (l := l.take k) (by omega), hl, Nat.sub_self]
  simp
/-- (waystation/waystationref05.Net).Without -/
theorem refwithout_ok (R : RefL) (F : Nat → Prop) (i : Nat) (w : World) (h : RefAt w F R) (hl : R.l.length ≤ 1000000) : Ret Try.prog 38 #[.agg (refC R).toArray, .int .i64 (i : Int)] w (fun v w' => (∃ (R' : RefL) (F' : Nat → Prop), v = .agg (refC R').toArray ∧ R'.pure = R.pure.without i ∧ RefAt w' F' R' ∧ Sub F' F w) ∧ Lk w' w NoB) := by
  haveI hrR : RowB w R.A w (R.l.flatMap itemC) := rowB_of h.row.row
  refine ret_of_x (N := 28) (l := [.agg (refC R).toArray, .int .i64 (i : Int)]) Try.func38 rfl rfl (Nat.le_of_ble_eq_true rfl) ?_
  refine x_seq ?_
  refine x_regionL ?_
  refine xl_e (e_box fun b1 w1 n1 l1 k1 => ?_)
  refine xl_e (e_alloc fun b2 w2 n2 l2 k2 => ?_)
  refine xl_nil ?_
  refine x_seq ?_
  refine x_regionL ?_
  refine xl_v v_assign ?_
  refine xl_nil ?_
  refine x_seq ?_
  refine x_seq ?_
  refine x_regionL ?_
  refine xl_v v_assign ?_
  refine xl_nil ?_
  refine x_block ?_
  refine x_loop (fun m τ ds w' => ds = [] ∧ ∃ (k mm : Nat) (A5 : Option Addr) (c5 : Nat), m = R.l.length - k ∧ k ≤ R.l.length ∧ mm = ((R.l.take k).eraseIdx i).length ∧ w'.ownsRow w.heap.size 65 4 (.slice A5 mm c5) mm (((R.l.take k).eraseIdx i).flatMap itemC) ∧ Ev τ 1 (.int .i64 (i : Int)) ∧ Ev τ 2 (.pointer (some ⟨b1, 0, none⟩)) ∧ Ev τ 4 (.pointer (some ⟨b2, 0, none⟩)) ∧ Ev τ 5 (.slice A5 mm c5) ∧ Ev τ 6 (.int .i64 (k : Int)) ∧ w'.heap[b1]? = some (.cells (refC R).toArray 47 (0, 0)) ∧ w'.heap[b2]? = some (.cells #[.int .i64 0, .slice none 0 0, .int .i64 0] 47 (0, 0)) ∧ (∀ a, A5 = some a → a.block ≠ b1 ∧ a.block ≠ b2) ∧ Lk w' w NoB) (R.l.length) ?start ?round
  case start =>
    exact ⟨rfl, 0, 0, none, 0, rfl, by omega, by simp, by simpa using World.ownsRow_nil _ _ _ _, inferInstance, inferInstance, inferInstance, inferInstance, evc, Blk.eq, Blk.eq, (by intro a h; cases h), lkc⟩
  case round =>
    intro m τ3 ds3 w3 hI
    obtain ⟨rfl, k, mm, A5, c5, rfl, hk, hmm, ho, e1, e2, e4, e5, e6, hb1, hb2, hne, lk⟩ := hI
    haveI : Blk w3 b1 _ := ⟨hb1⟩
    haveI : Blk w3 b2 _ := ⟨hb2⟩
    haveI : OwnI w3 A5 _ _ _ _ _ _ _ := ⟨ho⟩
    haveI : NewA A5 w := newA_of ho (Nat.le_refl _)
    haveI : NotS (OwnB (.slice A5 mm c5)) b1 := ⟨fun e => by
      cases A5 with
      | none => cases e
      | some a => exact (hne a rfl).1 (by have e' : some b1 = some a.block := e; injection e' with e'; exact e'.symm)⟩
    haveI : NotS (OwnB (.slice A5 mm c5)) b2 := ⟨fun e => by
      cases A5 with
      | none => cases e
      | some a => exact (hne a rfl).2 (by have e' : some b2 = some a.block := e; injection e' with e'; exact e'.symm)⟩
    haveI : RowOut (OneB b1) A5 := ⟨fun a ha e => (hne a ha).1 e⟩
    haveI : RowOut (OneB b2) A5 := ⟨fun a ha e => (hne a ha).2 e⟩
    have hb1l : b1 < (w3).heap.size := Has.lt
    have hb2l : b2 < (w3).heap.size := Has.lt
    have hmk : mm ≤ k := by rw [hmm]; have := (List.eraseIdx_sublist (R.l.take k) i).length_le; simp at this; omega
    refine x_seq ?_
    refine x_seq ?_
    refine x_regionL ?_
    refine xl_v v_move ?_
    refine xl_v (by first | exact v_fieldAddr | exact v_fieldAddrF (by decide) (by omega) | exact v_fieldAddrR (by first | assumption | rfl)) ?_
    refine xl_v (by first | exact v_load | exact v_loadO (by omega) | exact v_loadFf (by omega) | exact v_loadF0 (by omega)) ?_
    refine xl_v v_len ?_
    refine xl_v v_lss ?_
    refine xl_nil ?_
    first | refine x_condP (fun c1 => ?_) (fun c1 => ?_) | refine x_condN (fun c1 => ?_) (fun c1 => ?_) | refine x_condE (fun c1 => ?_) (fun c1 => ?_)
    ·
      have hk1 : k < R.l.length := by omega
      refine x_skip ?_
      refine x_seq ?_
      refine x_block ?_
      refine x_seq ?_
      refine x_regionL ?_
      refine xl_v v_move ?_
      refine xl_v v_move ?_
      refine xl_v v_neq ?_
      refine xl_nil ?_
      first | refine x_condP (fun c2 => ?_) (fun c2 => ?_) | refine x_condN (fun c2 => ?_) (fun c2 => ?_) | refine x_condE (fun c2 => ?_) (fun c2 => ?_)
      ·
        refine x_regionL ?_
        refine xl_v v_move ?_
        refine xl_v (by first | exact v_fieldAddr | exact v_fieldAddrF (by decide) (by omega) | exact v_fieldAddrR (by first | assumption | rfl)) ?_
        refine xl_v (by first | exact v_load | exact v_loadO (by omega) | exact v_loadFf (by omega) | exact v_loadF0 (by omega)) ?_
        refine xl_v v_move ?_
        refine xl_v (v_indexF k (by decide) rfl (by omega) hk1) ?_
        refine xl_v (v_loadF (k := k) (by decide) hk1) ?_
        refine xl_e (e_buildSlice1 rfl fun b4 w4 n4 l4 k4 => ?_)
        have hBw : b1 < (w4).heap.size ∧ b2 < (w4).heap.size := ⟨Has.lt, Has.lt⟩
        refine xl_e (e_app (by omega) (by decide) (by omega) (by omega) Ge.le fun A6 c6 w5 o6 l6 a6 f6 => ?_)
        refine xl_v v_assign ?_
        refine xl_nil ?_
        refine x_regionL ?_
        refine xl_v v_move ?_
        refine xl_v (v_add (by omega)) ?_
        refine xl_v v_assign ?_
        refine xl_nil ?_
        first
        | refine ⟨_, ?_, rfl, k + 1, mm + 1, A6, c6, rfl, by omega, ?_, ?_, inferInstance, inferInstance, inferInstance, inferInstance, evc, Blk.eq, Blk.eq, ?_, lkc⟩
          · omega
          · rw [take_erase_ne hk1 (by omega)]; simp [hmm]
          · rw [take_erase_ne hk1 (by omega)]; simpa using (OwnI.own : World.ownsRow w5 _ _ _ (.slice A6 _ c6) _ _)
          · intro a ha
            rcases f6.or a ha with ⟨a5, h1, h2⟩ | h1
            · rw [h2]; exact hne a5 h1
            · omega
        | have hke : k = i := by omega
          subst hke
          refine ⟨_, ?_, rfl, k + 1, mm, A5, c5, rfl, by omega, ?_, ?_, inferInstance, inferInstance, inferInstance, inferInstance, evc, Blk.eq, Blk.eq, hne, lkc⟩
          · omega
          · rw [take_erase_eq hk1]; exact hmm
          · rw [take_erase_eq hk1]; exact ho
      ·
        refine x_skip ?_
        refine x_regionL ?_
        refine xl_v v_move ?_
        refine xl_v (v_add (by omega)) ?_
        refine xl_v v_assign ?_
        refine xl_nil ?_
        first
        | refine ⟨_, ?_, rfl, k + 1, mm + 1, A6, c6, rfl, by omega, ?_, ?_, inferInstance, inferInstance, inferInstance, inferInstance, evc, Blk.eq, Blk.eq, ?_, lkc⟩
          · omega
          · rw [take_erase_ne hk1 (by omega)]; simp [hmm]
          · rw [take_erase_ne hk1 (by omega)]; simpa using (OwnI.own : World.ownsRow w3 _ _ _ (.slice A6 _ c6) _ _)
          · intro a ha
            rcases f6.or a ha with ⟨a5, h1, h2⟩ | h1
            · rw [h2]; exact hne a5 h1
            · omega
        | have hke : k = i := by omega
          subst hke
          refine ⟨_, ?_, rfl, k + 1, mm, A5, c5, rfl, by omega, ?_, ?_, inferInstance, inferInstance, inferInstance, inferInstance, evc, Blk.eq, Blk.eq, hne, lkc⟩
          · omega
          · rw [take_erase_eq hk1]; exact hmm
          · rw [take_erase_eq hk1]; exact ho
    ·
      refine x_exit ?_
      refine x_seq ?_
      refine x_regionL ?_
      refine xl_v v_move ?_
      refine xl_v (by first | exact v_fieldAddr | exact v_fieldAddrF (by decide) (by omega) | exact v_fieldAddrR (by first | assumption | rfl)) ?_
      refine xl_s (e_store fun w6 l6 k6 => ?_)
      refine xl_nil ?_
      refine x_seq ?_
      refine x_regionL ?_
      refine xl_v (by first | exact v_loadA | exact v_loadF (by decide) (by omega)) ?_
      refine xl_s (e_storeA fun w7 l7 k7 => ?_)
      refine xl_nil ?_
      refine x_ret ?_
      refine finR (rs := [.cell 4 47]) rfl ?_
      have hke : k = R.l.length := by omega
      rw [hke, List.take_of_length_le (Nat.le_refl _)] at hmm
      have ho' : World.ownsRow w7 _ _ _ (.slice A5 _ c5) _ _ := OwnI.own
      rw [hke, List.take_of_length_le (Nat.le_refl _)] at ho'
      have hkp : Keep NoB w w7 := kpc
      have hol := ownB_lt ho'
      refine ⟨⟨⟨R.most, R.came, R.l.eraseIdx i, A5, c5⟩, fun k => F k ∨ OwnB (.slice A5 mm c5) k, ?_, ?_, ⟨?_, ?_, ?_⟩, ?_⟩, lkc⟩
      · simp [outV, hmm]
      · simp [RefL.pure, Net.without, erase_map]
      · exact (FRow.of_own ho').mono (fun k e => .inr e)
      · intro p hp
        exact ((h.items p (List.mem_of_mem_eraseIdx hp)).keep hkp (fun _ _ h => h)).mono (fun k e => .inl e)
      · rintro k (e | e)
        · exact Nat.lt_of_lt_of_le (h.lt k e) hkp.size
        · exact (hol k e).2
      · rintro k (e | e)
        · exact .inl e
        · exact .inr (hol k e).1
end Go.Proofs.Ytacadajlpmhcfaa
