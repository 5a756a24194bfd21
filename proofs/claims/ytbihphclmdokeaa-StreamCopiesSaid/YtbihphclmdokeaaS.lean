/-
  Walks, printed by a program of this workplace (wip/tools/sx.py) off the functions' code and a text of contracts.
-/
import Derived.Test.YtbihphclmdokeaaR
set_option linter.all false
set_option maxRecDepth 100000
set_option synthInstance.maxSize 100000
set_option synthInstance.maxHeartbeats 400000
namespace Go.Proofs.Ytbihphclmdokeaa
open Go.Wst
open Go.Wst.Sm
theorem _root_.Go.Wst.Sm.Mach.ok.part_long {M : Mach} (h : M.ok) (n : Int) : (M.part n).length ≤ 4096 := by
  unfold Mach.part
  cases hp : M.parts[n.toNat]? with
  | none => simp
  | some l => exact h.long l (List.mem_of_getElem? hp)
theorem _root_.Go.Wst.Sm.Mach.ok.roundN_le {M : Mach} (h : M.ok) (id most : Int) : M.roundN id most ≤ 4096 := by
  unfold Mach.roundN
  cases akey M.rules id with
  | none => exact Nat.zero_le _
  | some q =>
    simp only []
    split
    · have := h.part_long q.1.inp
      simp [Mach.left]; omega
    · exact Nat.zero_le _
theorem _root_.Go.Wst.Sm.Mach.ok.pass {M : Mach} (h : M.ok) : ∀ l : List Int, (M.pass l).1.ok ∧ (M.pass l).2 ≤ 4096 * l.length := by
  intro l
  induction l generalizing M with
  | nil => exact ⟨h, Nat.le_refl _⟩
  | cons id l ih =>
    obtain ⟨h1, h2⟩ := ih (h.round id 4096)
    refine ⟨h1, ?_⟩
    have := h.roundN_le id 4096
    simp only [Mach.pass, List.length_cons]
    omega
theorem _root_.Go.Wst.Sm.Mach.ok.ids_len {M : Mach} (h : M.ok) : M.ids.length ≤ 1000 := by have := len_rules h; simpa [Mach.ids] using this

/-- (*waystation/stream.Machine).Pos -/
theorem pos_ok (b pb mb : Nat) (vs : List Value) (M : Mach) (id : Int) (w : World) (h : MachAt w b pb mb vs M) : Ret Try.prog 26 #[.pointer (some ⟨b, 0, none⟩), .int .i64 id] w (fun v w' => v = .tuple #[.int .i64 (((akey M.rules id).getD (⟨0, 0, 0, 0, 0⟩, 0)).2 : Int), .int .i64 (if (akey M.rules id).isSome = true then 0 else 5)] ∧ Lk w' w NoB) := by
  refine ret_of_x (N := 17) (l := [.pointer (some ⟨b, 0, none⟩), .int .i64 id]) Try.func26 rfl rfl (Nat.le_of_ble_eq_true rfl) ?_
  refine x_seq ?_
  refine x_regionL ?_
  refine xl_v v_assign ?_
  refine xl_v v_assign ?_
  refine xl_nil ?_
  refine x_seq ?_
  refine x_regionL ?_
  refine xl_v v_move ?_
  refine xl_v v_move ?_
  refine xl_call (of_ok b pb mb vs M id w h) ?_
  rintro _ w1 ⟨rfl, lk⟩
  refine xl_v v_move ?_
  refine xl_v v_extract ?_
  refine xl_v v_extract ?_
  refine xl_e (e_alloc fun b6 w2 n6 l6 k6 => ?_)
  refine xl_s (e_storeA fun w3 l7 k7 => ?_)
  refine xl_v v_assign ?_
  refine xl_nil ?_
  refine x_seq ?_
  refine x_regionL ?_
  refine xl_v (by first | exact v_fieldAddr | exact v_fieldAddrF (by decide) (by omega) | exact v_fieldAddrR (by first | assumption | rfl)) ?_
  refine xl_v (by first | exact v_load | exact v_loadO (by omega) | exact v_loadFf (by omega) | exact v_loadF0 (by omega)) ?_
  refine xl_v v_move ?_
  refine xl_v v_assign ?_
  refine xl_v v_assign ?_
  refine xl_nil ?_
  refine x_ret ?_
  refine fin2 rfl ?_
  exact ⟨rfl, lkc⟩

/-- (*waystation/stream.Machine).Items -/
theorem items_ok (b pb mb : Nat) (vs : List Value) (M : Mach) (part : Int) (w : World) (h : MachAt w b pb mb vs M) (hok : M.ok) : Ret Try.prog 33 #[.pointer (some ⟨b, 0, none⟩), .int .i64 part] w (fun v w' => (if M.hasB part = true then ∃ A c, v = .tuple #[.slice A (M.part part).length c, .int .i64 0] ∧ w'.ownsRow w.heap.size 74 3 (.slice A (M.part part).length c) (M.part part).length (itemsC (M.part part)) else v = .tuple #[.slice none 0 0, .int .i64 4]) ∧ Lk w' w NoB) := by
  obtain ⟨sp, hbs, hps⟩ := h.ex
  haveI hb : Blk w b _ := ⟨hbs⟩
  refine ret_of_x (N := 26) (l := [.pointer (some ⟨b, 0, none⟩), .int .i64 part]) Try.func33 rfl rfl (Nat.le_of_ble_eq_true rfl) ?_
  refine x_seq ?_
  refine x_regionL ?_
  refine xl_v v_assign ?_
  refine xl_v v_assign ?_
  refine xl_nil ?_
  refine x_seq ?_
  refine x_block ?_
  refine x_seq ?_
  refine x_regionL ?_
  refine xl_v v_move ?_
  refine xl_call (none_ok _ _ _ _) ?_
  rintro _ _ ⟨rfl, rfl⟩
  refine xl_v v_assign ?_
  refine xl_nil ?_
  refine x_condF ?_
  refine x_seq ?_
  refine x_regionL ?_
  refine xl_v v_move ?_
  refine xl_v (by first | exact v_nilCheckP | exact v_nilCheckF | exact v_nilCheckR (by first | assumption | rfl)) ?_
  refine xl_v (by first | exact v_fieldAddr | exact v_fieldAddrF (by decide) (by omega) | exact v_fieldAddrR (by first | assumption | rfl)) ?_
  refine xl_v (by first | exact v_loadA | exact v_loadF (by decide) (by omega)) ?_
  refine xl_v v_move ?_
  refine xl_call (has_ok _ _ _ _ _) ?_
  rintro _ w2 ⟨rfl, lk⟩
  refine xl_v v_not ?_
  refine xl_v v_assign ?_
  refine xl_nil ?_
  refine x_condE (fun c2 => ?_) (fun c2 => ?_)
  ·
    have hn : ¬ M.hasB part = true := by simp [Mach.hasB]; simp at c2; omega
    refine x_seq ?_
    refine x_regionL ?_
    refine xl_v v_assign ?_
    refine xl_v v_assign ?_
    refine xl_nil ?_
    refine x_ret ?_
    refine fin2 rfl ?_
    exact ⟨by rw [if_neg hn], lkc⟩
  ·
    have hh : M.hasB part = true := by simpa [Mach.hasB] using c2
    have hp0 : part = (part.toNat : Int) := by simp [Mach.hasB] at hh; omega
    have hp1 : part.toNat < M.parts.length := by simp [Mach.hasB] at hh; omega
    obtain ⟨A, cap, hV, hown, hrow, hcap⟩ := h.part hh
    haveI hbp : Blk w pb _ := ⟨hps⟩
    have hlong := hok.part_long part
    refine x_skip ?_
    refine x_seq ?_
    refine x_regionL ?_
    refine xl_v v_move ?_
    refine xl_v (by first | exact v_nilCheckP | exact v_nilCheckF | exact v_nilCheckR (by first | assumption | rfl)) ?_
    refine xl_v (by first | exact v_fieldAddr | exact v_fieldAddrF (by decide) (by omega) | exact v_fieldAddrR (by first | assumption | rfl)) ?_
    refine xl_v (by first | exact v_fieldAddr | exact v_fieldAddrF (by decide) (by omega) | exact v_fieldAddrR (by first | assumption | rfl)) ?_
    refine xl_v (by first | exact v_load | exact v_loadO (by omega) | exact v_loadFf (by omega) | exact v_loadF0 (by omega)) ?_
    refine xl_v v_move ?_
    refine xl_v (v_indexAddr part.toNat hp0 hp1 rfl) ?_
    refine xl_v (v_loadR (by have := get_app (m := sp) hV; simpa using this)) ?_
    haveI hR : Row w2 A _ := ⟨hrow.keep (kpc : Keep NoB w w2) (fun _ _ h => h)⟩
    refine xl_call (clonex_ok A _ cap (itemsC (M.part part)) _ (itemsC_len _) (by omega) (itemsC_one _) (by rcases Nat.eq_zero_or_pos (M.part part).length with h0 | h0; exact .inr h0; exact .inl (row_some hR (by rw [itemsC_len]; omega)))) ?_
    rintro _ w3 ⟨⟨A5, c5, rfl, ho5⟩, lk5⟩
    refine xl_v v_assign ?_
    refine xl_v v_assign ?_
    refine xl_nil ?_
    refine x_ret ?_
    refine fin2 rfl ?_
    refine ⟨?_, lkc⟩
    rw [if_pos hh]
    exact ⟨A5, c5, rfl, own_mono ho5 Ge.le⟩
end Go.Proofs.Ytbihphclmdokeaa
