/-
  Walks, printed by a program of this workplace (wip/tools/sx.py) off the functions' code and a text of contracts.
-/
import Derived.Test.YtbihphclmdokeaaL
import Derived.Test.YtbihphclmdokeaaSh
import Derived.Sort.OwnSortedInts
set_option linter.all false
set_option maxRecDepth 100000
set_option synthInstance.maxSize 100000
set_option synthInstance.maxHeartbeats 400000
namespace Go.Proofs.Ytbihphclmdokeaa
open Go.Wst
open Go.Wst.Sm
/-- slices.Sort, of a slice of the call's own. -/
theorem sort_ok (base : Nat) (A : Option Addr) (c : Nat) (ks : List Int) (w : World) (ho : w.ownsRow base 3 1 (.slice A ks.length c) ks.length (ints ks)) (hl : ks.length ≤ 1000000) :
    Ret Try.prog 82 #[.slice A ks.length c] w (fun v w' => v = .tuple #[] ∧ w'.ownsRow base 3 1 (.slice A ks.length c) ks.length (ints (ks.mergeSort fun x y => decide (x ≤ y))) ∧ Lk w' w (OwnB (.slice A ks.length c))) := by
  rcases ho.2 with ⟨he, hn⟩ | ⟨g, cap, cur, he, hb, hg, hnc, hcm, hcs, htk⟩
  · have hk : ks = [] := List.eq_nil_of_length_eq_zero hn
    subst hk
    refine Calls.mono (Try.slices_Sort_int_none A c w) ?_
    rintro e w' ⟨rfl, rfl⟩
    exact ⟨_, rfl, rfl, by simpa using ho, ⟨Keep.refl _ _⟩⟩
  · cases he
    have hH := holds_of_blockI (ss := ks) hg (by simpa [ints] using htk)
    refine Calls.mono (Try.slices_Sort_int g 0 c ks w hH (Array.getElem?_eq_some_iff.1 hg).1 (by omega)) ?_
    rintro e w' ⟨rfl, n, os, rfl⟩
    refine ⟨_, rfl, rfl, ?_, ⟨Keep.of_grown (grownBy_sortedI _)⟩⟩
    have := ownsRow_sortedI (os := os) (n := n) (ss := ks) (ts := ks.mergeSort fun x y => decide (x ≤ y)) (by simp) hb hg hnc hcm hcs
    simpa [ints] using this

/-- slices.Collect[int] -/
theorem collect_ok (gf : FuncId) (gc : List Value) (Own : Nat → Prop) (Al Fin : Seen → Prop) (w : World) (hit : ∀ W, Lk W w NoB → IterI Try.prog (.func (.func gf) ([] : List Value).toArray gc.toArray) Own Al Fin W) (hOwn : ∀ k, Own k → k < w.heap.size) (hAl : ∀ pre, Al pre → ∃ ks : List Int, pre = ks.map (fun k => [Value.int .i64 k]) ∧ ks.length ≤ 1000000) : Ret Try.prog 81 #[.func (.func gf) ([] : List Value).toArray gc.toArray] w (fun v w' => ∃ (ks : List Int) (A : Option Addr) (c : Nat), Fin (ks.map (fun k => [Value.int .i64 k])) ∧ v = .slice A ks.length c ∧ w'.ownsRow w.heap.size 3 1 v ks.length (ints ks) ∧ Lk w' w NoB) := by
  refine ret_of_x (N := 5) (l := [.func (.func gf) ([] : List Value).toArray gc.toArray]) Try.func81 rfl rfl (Nat.le_of_ble_eq_true rfl) ?_
  refine x_seq ?_
  refine x_regionL ?_
  refine xl_v v_assign ?_
  refine xl_nil ?_
  refine x_seq ?_
  refine x_regionL ?_
  refine xl_v v_move ?_
  refine xl_call (appendSeq_ok gf gc Own Al Fin _ hit hOwn hAl) ?_
  rintro _ w1 ⟨ks, A, c, hfin, rfl, ho, lk⟩
  refine xl_v v_assign ?_
  refine xl_nil ?_
  refine x_ret ?_
  refine fin1 rfl ?_
  exact ⟨ks, A, c, hfin, rfl, own_ext ho lkc, lkc⟩

/-- slices.Sorted[int] -/
theorem sorted_ok (gf : FuncId) (gc : List Value) (Own : Nat → Prop) (Al Fin : Seen → Prop) (w : World) (hit : ∀ W, Lk W w NoB → IterI Try.prog (.func (.func gf) ([] : List Value).toArray gc.toArray) Own Al Fin W) (hOwn : ∀ k, Own k → k < w.heap.size) (hAl : ∀ pre, Al pre → ∃ ks : List Int, pre = ks.map (fun k => [Value.int .i64 k]) ∧ ks.length ≤ 1000000) (hFin : ∀ pre, Fin pre → Al pre) : Ret Try.prog 74 #[.func (.func gf) ([] : List Value).toArray gc.toArray] w (fun v w' => ∃ (ks : List Int) (A : Option Addr) (c : Nat), Fin (ks.map (fun k => [Value.int .i64 k])) ∧ v = .slice A ks.length c ∧ w'.ownsRow w.heap.size 3 1 v ks.length (ints (ks.mergeSort fun x y => decide (x ≤ y))) ∧ Lk w' w NoB) := by
  refine ret_of_x (N := 9) (l := [.func (.func gf) ([] : List Value).toArray gc.toArray]) Try.func74 rfl rfl (Nat.le_of_ble_eq_true rfl) ?_
  refine x_seq ?_
  refine x_regionL ?_
  refine xl_v v_assign ?_
  refine xl_nil ?_
  refine x_seq ?_
  refine x_regionL ?_
  refine xl_v v_move ?_
  refine xl_call (collect_ok gf gc Own Al Fin _ hit hOwn hAl) ?_
  rintro _ w1 ⟨ks, A, c, hfin, rfl, ho, lk⟩
  have hkl : ks.length ≤ 1000000 := by
    obtain ⟨ks2, h1, h2⟩ := hAl _ (hFin _ hfin)
    have := congrArg List.length h1
    simp at this
    omega
  haveI := ownA_of ho (Nat.le_refl _)
  refine xl_v v_assign ?_
  refine xl_nil ?_
  refine x_seq ?_
  refine x_regionL ?_
  refine xl_v v_move ?_
  refine xl_call (sort_ok _ A c ks _ (own_ext ho lkc) hkl) ?_
  rintro _ w2 ⟨rfl, ho2, lk2⟩
  refine xl_nil ?_
  refine x_seq ?_
  refine x_regionL ?_
  refine xl_v v_move ?_
  refine xl_v v_assign ?_
  refine xl_nil ?_
  refine x_ret ?_
  refine fin1 rfl ?_
  exact ⟨ks, A, c, hfin, rfl, own_ext ho2 lkc, lkc⟩
theorem mkeysIter (b mb : Nat) (kvs : List (Int × Value)) (w : World) [Blk w b (.cells #[.map (some mb)] 85 (0, 0))] (hm : MapB w mb (Value.int .i64) kvs) :
    IterI Try.prog (.func (.func 83) ([] : List Value).toArray [Value.pointer (some ⟨b, 0, none⟩)].toArray) (fun k => k = b ∨ k = mb) (KeysAl (kvs.map (·.1))) (KeysFin (kvs.map (·.1))) w :=
  fun y I J F w0 hy hw0 h0 hF => CallV.of_ret (mkeys1_ok y b mb kvs I J F w hm w0 hy hw0 h0 hF)
def IdsAl (M : Mach) : Seen → Prop := fun pre => ∃ n, pre = (M.ids.take n).map (fun k => [Value.int .i64 k])
def IdsFin (M : Mach) : Seen → Prop := fun pre => pre = M.ids.map (fun k => [Value.int .i64 k])

/-- (*waystation/stream.Machine).ids -/
theorem ids_ok (b : Nat) (w : World) : Ret Try.prog 55 #[.pointer (some ⟨b, 0, none⟩)] w (fun v w' => ∃ b1, v = .func (.func 73) ([] : List Value).toArray [Value.pointer (some ⟨b1, 0, none⟩)].toArray ∧ Blk w' b1 (.cells #[.pointer (some ⟨b, 0, none⟩)] 36 (0, 0)) ∧ w.heap.size ≤ b1 ∧ Lk w' w NoB) := by
  refine ret_of_x (N := 4) (l := [.pointer (some ⟨b, 0, none⟩)]) Try.func55 rfl rfl (Nat.le_of_ble_eq_true rfl) ?_
  refine x_seq ?_
  refine x_regionL ?_
  refine xl_e (e_box fun b1 w1 nb lb kb => ?_)
  refine xl_v v_assign ?_
  refine xl_nil ?_
  refine x_seq ?_
  refine x_regionL ?_
  refine xl_v v_makeFunc ?_
  refine xl_v v_assign ?_
  refine xl_nil ?_
  refine x_ret ?_
  refine fin1 rfl ?_
  exact ⟨b1, rfl, inferInstance, Nat.le_of_eq nb.eq.symm, lkc⟩

/-- (*waystation/stream.Machine).ids$1 -/
theorem ids1_ok (y : Value) (b1 b pb mb : Nat) (vs : List Value) (M : Mach) (I J : Seen → (Nat → Prop) → World → Prop) (F : Nat → Prop) (w : World) [Blk w b1 (.cells #[.pointer (some ⟨b, 0, none⟩)] 36 (0, 0))] (h : MachAt w b pb mb vs M) (hl4 : M.rules.length ≤ 1000) (w0 : World) (hy : YieldsI Try.prog y (IdsAl M) I J w0) (h0 : I [] F w) : Ret Try.prog 73 #[y, .pointer (some ⟨b1, 0, none⟩)] w (fun _ w' => ∃ pre F', ((IdsFin M pre ∧ I pre F' w') ∨ J pre F' w') ∧ Keep F w w' ∧ Sub F' F w) := by
  obtain ⟨sp, hbs, hps⟩ := h.ex
  haveI hb : Blk w b _ := ⟨hbs⟩
  have hil : M.ids.length = M.rules.length := by simp [Mach.ids]
  refine ret_of_x (N := 23) (l := [y, .pointer (some ⟨b1, 0, none⟩)]) Try.func73 rfl rfl (Nat.le_of_ble_eq_true rfl) ?_
  refine x_seq ?_
  refine x_seq ?_
  refine x_regionL ?_
  refine xl_v (by first | exact v_load | exact v_loadO (by omega) | exact v_loadFf (by omega) | exact v_loadF0 (by omega)) ?_
  refine xl_call (none_ok _ _ _ _) ?_
  rintro _ _ ⟨rfl, rfl⟩
  refine xl_nil ?_
  refine x_condF ?_
  refine x_skip ?_
  refine x_seq ?_
  refine x_regionL ?_
  refine xl_v (by first | exact v_load | exact v_loadO (by omega) | exact v_loadFf (by omega) | exact v_loadF0 (by omega)) ?_
  refine xl_v (by first | exact v_nilCheckP | exact v_nilCheckF | exact v_nilCheckR (by first | assumption | rfl)) ?_
  refine xl_v (by first | exact v_fieldAddr | exact v_fieldAddrF (by decide) (by omega) | exact v_fieldAddrR (by first | assumption | rfl)) ?_
  refine xl_v (by first | exact v_load | exact v_loadO (by omega) | exact v_loadFf (by omega) | exact v_loadF0 (by omega)) ?_
  refine xl_call (mkeys_ok (some mb) _) ?_
  rintro _ w2 ⟨bk, rfl, kbk, hbk, lkk⟩
  have hmb : MapB w2 mb (Value.int .i64) (rulesV M.rules) := h.hm.keep (kpc : Keep NoB w w2) (fun h => h)
  have hmlt : mb < w2.heap.size := hmb.lt
  have hblt : bk < w2.heap.size := Has.lt
  have hkeys : (rulesV M.rules).map (·.1) = M.rules.map (·.1) := by simp [rulesV]
  refine xl_call (sorted_ok _ [_] (fun k => k = bk ∨ k = mb) (KeysAl ((rulesV M.rules).map (·.1))) (KeysFin ((rulesV M.rules).map (·.1))) _ (fun W l => mkeysIter bk mb (rulesV M.rules) W (hmb.keep l.keep (fun h => h))) (by rintro k (rfl | rfl); exact hblt; exact hmlt) (by rintro pre ⟨l, rest, h1, h2⟩; exact ⟨l, h1, by have := h2.length_eq; simp [rulesV] at this; omega⟩) (by rintro pre ⟨l, h1, h2⟩; exact ⟨l, [], h1, by simpa using h2⟩)) ?_
  rintro _ w3 ⟨ks, A, c, hfin, rfl, ho, lk⟩
  have hperm : ks.mergeSort (fun x y => decide (x ≤ y)) = M.ids := by
    obtain ⟨l, hl1, hl2⟩ := hfin
    have hkl : ks = l := (List.map_inj_right (fun x y h => by simpa using h)).1 hl1
    subst hkl
    rw [hkeys] at hl2
    exact sorted_perm hl2
  rw [hperm] at ho
  have hidl : ks.length = M.ids.length := by rw [← hperm]; simp
  haveI := ownA_of ho (Nat.le_refl _)
  refine xl_v v_len ?_
  refine xl_v v_move ?_
  refine xl_nil ?_
  refine x_block ?_
  have hFlt := hy.i.lt _ _ _ h0
  have hVF : ∀ j, (Value.slice A ks.length c).ownBlock = some j → w.heap.size ≤ j ∧ j < w3.heap.size := fun j hj => ⟨Nat.le_trans (Ge.le) (ho.lt j hj).1, (ho.lt j hj).2⟩
  refine x_loop (fun m τ ds w' => ds = [] ∧ ∃ (k : Nat) (Fc : Nat → Prop), m = M.ids.length - k ∧ k ≤ M.ids.length ∧ w'.ownsRow w.heap.size 3 1 (.slice A ks.length c) ks.length (ints M.ids) ∧ I ((M.ids.take k).map (fun k => [Value.int .i64 k])) Fc w' ∧ (∀ j, (Value.slice A ks.length c).ownBlock = some j → ¬ Fc j) ∧ Keep F w w' ∧ Sub Fc F w ∧ Ev τ 0 y ∧ Ev τ 12 (.slice A ks.length c) ∧ Ev τ 13 (.int .i64 (ks.length : Int)) ∧ Ev τ 14 (.int .i64 (k : Int))) (M.ids.length) ?start ?round
  case start =>
    refine ⟨rfl, 0, F, rfl, Nat.zero_le _, own_mono ho Ge.le, hy.i.keep _ _ _ _ _ h0 (kpc : Keep NoB w w3) (fun _ _ h => h) (fun _ h => h.elim), ?_, (kpc : Keep NoB w w3).mono (fun _ _ h => h.elim), Sub.refl _ _, inferInstance, inferInstance, inferInstance, evc⟩
    intro j hj hF
    have h1 := (hVF j hj).1
    have h2 := hFlt j hF
    omega
  case round =>
    intro m τ4 ds4 w4 hI
    obtain ⟨rfl, k, Fc, rfl, hk, hown, hI, hnV, hkF, hsF, e0, e12, e13, e14⟩ := hI
    obtain ⟨_, _, hA1, _, _, hrow1⟩ := ownsRow_form hown
    cases hA1
    haveI : Row w4 A _ := ⟨hrow1⟩
    refine x_seq ?_
    refine x_regionL ?_
    refine xl_v v_lss ?_
    refine xl_nil ?_
    refine x_seq ?_
    first | refine x_condP (fun c2 => ?_) (fun c2 => ?_) | refine x_condN (fun c2 => ?_) (fun c2 => ?_) | refine x_condE (fun c2 => ?_) (fun c2 => ?_)
    ·
      have hk1 : k < M.ids.length := by omega
      have hAs := row_some (w := w4) (A := A) (cs := ints M.ids) inferInstance (by simp [ints]; omega)
      have hal : IdsAl M ((M.ids.take k).map (fun k => [Value.int .i64 k]) ++ [[Value.int .i64 M.ids[k]]]) := ⟨k + 1, by rw [take_snoc _ _ hk1, List.map_append]; rfl⟩
      refine x_skip ?_
      refine x_seq ?_
      refine x_block ?_
      refine x_seq ?_
      refine x_regionL ?_
      refine xl_v (v_indexAddr k rfl (by omega) hAs) ?_
      refine xl_v (v_loadR (by simpa using ints_get hk1)) ?_
      refine xl_v v_assign ?_
      refine xl_nil ?_
      refine x_seq ?_
      refine x_regionL ?_
      refine xl_v v_move ?_
      refine xl_v v_move ?_
      refine xl_callv (hy.step _ _ Fc w4 hal hI) ?_
      rintro _ w5 ⟨bb2, F2, rfl, hI3, hk3, hs3⟩
      refine xl_v v_not ?_
      refine xl_nil ?_
      refine x_condE (fun c3 => ?_) (fun c3 => ?_)
      ·
        refine x_ret ?_
        refine fin0r rfl ?_
        rw [if_neg (by simpa using c3)] at hI3
        refine ⟨_, F2, .inr hI3, hkF.then hk3 (fun j hj e => (hsF j e).elim id (fun h => by omega)), ?_⟩
        intro j hj
        rcases hs3 j hj with e | e
        · exact hsF j e
        · exact .inr (Nat.le_trans hkF.size e)
      ·
        refine x_skip ?_
        refine x_regionL ?_
        refine xl_v (v_add (by omega)) ?_
        refine xl_v v_move ?_
        refine xl_nil ?_
        refine ⟨_, ?_, rfl, k + 1, F2, rfl, by omega, own_keep hown hk3 hnV, ?_, ?_, ?_, ?_, inferInstance, inferInstance, inferInstance, evc⟩
        · omega
        · rw [if_pos (by simpa using c3)] at hI3
          rw [take_snoc _ _ hk1, List.map_append]
          exact hI3
        · intro j hj hF2
          rcases hs3 j hF2 with e | e
          · exact hnV j hj e
          · have := (hown.lt j hj).2; omega
        · exact hkF.then hk3 (fun j hj e => (hsF j e).elim id (fun h => by omega))
        · intro j hj
          rcases hs3 j hj with e | e
          · exact hsF j e
          · exact .inr (Nat.le_trans hkF.size e)
    ·
      refine x_exit ?_
      refine fin0 rfl ?_
      have hkl : k = M.ids.length := by omega
      refine ⟨_, Fc, .inl ⟨?_, hI⟩, hkF, hsF⟩
      rw [List.take_of_length_le (by omega)]
      rfl
theorem idsIter (b1 b pb mb : Nat) (vs : List Value) (M : Mach) (w : World) [Blk w b1 (.cells #[.pointer (some ⟨b, 0, none⟩)] 36 (0, 0))] (h : MachAt w b pb mb vs M) (hl4 : M.rules.length ≤ 1000) :
    IterI Try.prog (.func (.func 73) ([] : List Value).toArray [Value.pointer (some ⟨b1, 0, none⟩)].toArray) (fun _ => False) (IdsAl M) (IdsFin M) w :=
  fun y I J F w0 hy hw0 h0 hF => CallV.of_ret (ids1_ok y b1 b pb mb vs M I J F w h hl4 w0 hy h0)

end Go.Proofs.Ytbihphclmdokeaa
