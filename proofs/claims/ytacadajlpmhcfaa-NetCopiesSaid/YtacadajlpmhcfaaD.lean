/-
  Walks, printed by a program of this workplace (wip/tools/sx.py) off the functions' code and a text of contracts.
-/
import Derived.Test.YtacadajlpmhcfaaC
import Derived.Test.YtacadajlpmhcfaaSh
import Derived.Sort.OwnSortedInts
set_option linter.all false
set_option maxRecDepth 100000
set_option synthInstance.maxSize 100000
set_option synthInstance.maxHeartbeats 400000
namespace Go.Proofs.Ytacadajlpmhcfaa
open Go.Wst
open Go.Wst.Nm
/-- slices.Sort, of a slice of the call's own. -/
theorem sort_ok (base : Nat) (A : Option Addr) (c : Nat) (ks : List Int) (w : World) (ho : w.ownsRow base 3 1 (.slice A ks.length c) ks.length (ints ks)) (hl : ks.length ≤ 1000000) :
    Ret Try.prog 49 #[.slice A ks.length c] w (fun v w' => v = .tuple #[] ∧ w'.ownsRow base 3 1 (.slice A ks.length c) ks.length (ints (ks.mergeSort fun x y => decide (x ≤ y))) ∧ Lk w' w (OwnB (.slice A ks.length c))) := by
  rcases ho.2 with ⟨he, hn⟩ | ⟨g, cap, cur, he, hb, hg, hnc, hcm, hcs, htk⟩
  · have hk : ks = [] := List.eq_nil_of_length_eq_zero hn
    subst hk
    refine Calls.mono (Try.slices_Sort_int_none A c w) ?_
    rintro e w' ⟨rfl, rfl⟩
    exact ⟨_, rfl, rfl, by simpa using ho, ⟨Keep.refl _ _⟩⟩
  · cases he
    have hH := holds_of_blockI (ss := ks) hg (by simpa [ints] using htk)
    refine Calls.mono (Try.slices_Sort_int g 0 c ks w hH (Array.getElem?_eq_some_iff.1 hg).1 (by omega)) ?_
    rintro e w' ⟨rfl, n, os, rfl⟩
    refine ⟨_, rfl, rfl, ?_, ⟨Keep.of_grown (grownBy_sortedI _)⟩⟩
    have := ownsRow_sortedI (os := os) (n := n) (ss := ks) (ts := ks.mergeSort fun x y => decide (x ≤ y)) (by simp) hb hg hnc hcm hcs
    simpa [ints] using this
/-- slices.Collect[int] -/
theorem collect_ok (gf : FuncId) (gc : List Value) (Own : Nat → Prop) (Al Fin : Seen → Prop) (w : World) (hit : ∀ W, Lk W w NoB → IterI Try.prog (.func (.func gf) ([] : List Value).toArray gc.toArray) Own Al Fin W) (hOwn : ∀ k, Own k → k < w.heap.size) (hAl : ∀ pre, Al pre → ∃ ks : List Int, pre = ks.map (fun k => [Value.int .i64 k]) ∧ ks.length ≤ 1000000) : Ret Try.prog 48 #[.func (.func gf) ([] : List Value).toArray gc.toArray] w (fun v w' => ∃ (ks : List Int) (A : Option Addr) (c : Nat), Fin (ks.map (fun k => [Value.int .i64 k])) ∧ v = .slice A ks.length c ∧ w'.ownsRow w.heap.size 3 1 v ks.length (ints ks) ∧ Lk w' w NoB) := by
  refine ret_of_x (N := 5) (l := [.func (.func gf) ([] : List Value).toArray gc.toArray]) Try.func48 rfl rfl (Nat.le_of_ble_eq_true rfl) ?_
  refine x_seq ?_
  refine x_regionL ?_
  refine xl_v v_assign ?_
  refine xl_nil ?_
  refine x_seq ?_
  refine x_regionL ?_
  refine xl_v v_move ?_
  refine xl_call (appendSeq_ok gf gc Own Al Fin _ hit hOwn hAl) ?_
  rintro _ w1 ⟨ks, A, c, hfin, rfl, ho, lk⟩
  refine xl_v v_assign ?_
  refine xl_nil ?_
  refine x_ret ?_
  refine fin1 rfl ?_
  exact ⟨ks, A, c, hfin, rfl, own_ext ho lkc, lkc⟩
/-- slices.Sorted[int] -/
theorem sorted_ok (gf : FuncId) (gc : List Value) (Own : Nat → Prop) (Al Fin : Seen → Prop) (w : World) (hit : ∀ W, Lk W w NoB → IterI Try.prog (.func (.func gf) ([] : List Value).toArray gc.toArray) Own Al Fin W) (hOwn : ∀ k, Own k → k < w.heap.size) (hAl : ∀ pre, Al pre → ∃ ks : List Int, pre = ks.map (fun k => [Value.int .i64 k]) ∧ ks.length ≤ 1000000) (hFin : ∀ pre, Fin pre → Al pre) : Ret Try.prog 41 #[.func (.func gf) ([] : List Value).toArray gc.toArray] w (fun v w' => ∃ (ks : List Int) (A : Option Addr) (c : Nat), Fin (ks.map (fun k => [Value.int .i64 k])) ∧ v = .slice A ks.length c ∧ w'.ownsRow w.heap.size 3 1 v ks.length (ints (ks.mergeSort fun x y => decide (x ≤ y))) ∧ Lk w' w NoB) := by
  refine ret_of_x (N := 9) (l := [.func (.func gf) ([] : List Value).toArray gc.toArray]) Try.func41 rfl rfl (Nat.le_of_ble_eq_true rfl) ?_
  refine x_seq ?_
  refine x_regionL ?_
  refine xl_v v_assign ?_
  refine xl_nil ?_
  refine x_seq ?_
  refine x_regionL ?_
  refine xl_v v_move ?_
  refine xl_call (collect_ok gf gc Own Al Fin _ hit hOwn hAl) ?_
  rintro _ w1 ⟨ks, A, c, hfin, rfl, ho, lk⟩
  have hkl : ks.length ≤ 1000000 := by
    obtain ⟨ks2, h1, h2⟩ := hAl _ (hFin _ hfin)
    have := congrArg List.length h1
    simp at this
    omega
  haveI := ownA_of ho (Nat.le_refl _)
  refine xl_v v_assign ?_
  refine xl_nil ?_
  refine x_seq ?_
  refine x_regionL ?_
  refine xl_v v_move ?_
  refine xl_call (sort_ok _ A c ks _ (own_ext ho lkc) hkl) ?_
  rintro _ w2 ⟨rfl, ho2, lk2⟩
  refine xl_nil ?_
  refine x_seq ?_
  refine x_regionL ?_
  refine xl_v v_move ?_
  refine xl_v v_assign ?_
  refine xl_nil ?_
  refine x_ret ?_
  refine fin1 rfl ?_
  exact ⟨ks, A, c, hfin, rfl, own_ext ho2 lkc, lkc⟩
theorem mkeysIter (b mb : Nat) (kvs : List (Int × Value)) (w : World) [Blk w b (.cells #[.map (some mb)] 70 (0, 0))] (hm : MapB w mb (Value.int .i64) kvs) :
    IterI Try.prog (.func (.func 50) ([] : List Value).toArray [Value.pointer (some ⟨b, 0, none⟩)].toArray) (fun k => k = b ∨ k = mb) (KeysAl (kvs.map (·.1))) (KeysFin (kvs.map (·.1))) w :=
  fun y I J F w0 hy hw0 h0 hF => CallV.of_ret (mkeys1_ok y b mb kvs I J F w hm w0 hy hw0 h0 hF)

end Go.Proofs.Ytacadajlpmhcfaa
