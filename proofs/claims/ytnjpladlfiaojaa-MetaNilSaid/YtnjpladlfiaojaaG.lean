/-
 Walks, printed by a program of this workplace (wip/tools/sx.py) off the functions' code and a text of contracts.
-/
import Derived.Test.YtnjpladlfiaojaaF
set_option linter.all false
set_option maxRecDepth 100000
set_option synthInstance.maxSize 100000
set_option synthInstance.maxHeartbeats 400000
namespace Go.Proofs.Ytnjpladlfiaojaa
open Go.Wst
open Go.Wst.Ct
instance apB_new (A : Option Addr) (b : Nat) (w1 : World) [n : New b w1] [o : OldA w1 A] : ApB A b := ⟨fun a ha e => by have := o.lt a ha; have := n.eq; omega⟩
theorem rises_ext {l l' : List Int} (h : l.Pairwise (· < ·)) (h' : l'.Pairwise (· < ·)) (hm : ∀ x, x ∈ l ↔ x ∈ l') : l = l' := by
 refine List.Perm.eq_of_pairwise (le := (· < ·)) (fun a b _ _ h1 h2 => absurd h1 (by omega)) h h' ?_
 rw [List.perm_ext_iff_of_nodup (h.imp (fun h => by omega)) (h'.imp (fun h => by omega))]
 exact hm
theorem withP_has {n : Nat} {l : List Int} {p : Int} (hr : Rises n l) (hp : p ∈ l) : withP n l p = l := by
 refine rises_ext (withP_rises n l p).1 hr.1 fun x => ?_
 rw [withP, List.mem_filter, mem_upTo]
 simp
 constructor
 ·rintro ⟨_, rfl | h⟩
  ·exact hp
  ·exact h
 ·exact fun h => ⟨hr.2 x h, .inr h⟩
theorem withP_add {n : Nat} {l : List Int} {p : Int} (hr : Rises n l) (hp : p ∉ l) (hn : inN p n) : (l ++ [p]).mergeSort (fun x y => decide (x ≤ y)) = withP n l p := by
 have tr : ∀ a b c : Int, decide (a ≤ b) = true → decide (b ≤ c) = true → decide (a ≤ c) = true := fun a b c h1 h2 => by simp at *; omega
 have to : ∀ a b : Int, (decide (a ≤ b) || decide (b ≤ a)) = true := fun a b => by simp; omega
 have hs := List.pairwise_mergeSort tr to (l ++ [p])
 have hpm := List.mergeSort_perm (l ++ [p]) (fun x y => decide (x ≤ y))
 have hnd : (l ++ [p]).Nodup := by
  rw [List.nodup_append]
  refine ⟨hr.1.imp (fun h => by omega), by simp, fun a ha b hb => ?_⟩
  simp at hb
  subst hb
  exact fun e => hp (e ▸ ha)
 have hnd2 := hpm.nodup_iff.2 hnd
 refine rises_ext ?_ (withP_rises n l p).1 fun x => ?_
 ·refine List.Pairwise.imp₂ ?_ hs hnd2
  intro a b h1 h2
  simp at h1
  omega
 ·rw [hpm.mem_iff, withP, List.mem_filter, mem_upTo]
  simp
  constructor
  ·rintro (h | rfl)
   ·exact ⟨hr.2 x h, .inr h⟩
   ·exact ⟨hn, .inl rfl⟩
  ·rintro ⟨_, rfl | h⟩
   ·exact .inr rfl
   ·exact .inl h
theorem erase_isX {l : List Int} {p : Int} (h : l.Pairwise (· < ·)) {k : Nat} (hk : k < l.length) (he : idx (isX p) l = k) : l.eraseIdx k = l.filter (fun x => !decide (x = p)) ∧ l[k] = p := by
 rcases idx_cases (isX p) l with ⟨h1, _⟩ | ⟨j, hj, h1, h2, h3⟩
 ·omega
 have e : j = k := by omega
 subst e
 have hp : l[j] = p := (of_decide_eq_true h2).symm
 refine ⟨?_, hp⟩
 clear h1 h2 h3 he
 subst hp
 induction l generalizing j with
 | nil => simp at hj
 | cons a l ih =>
  cases j with
  | zero =>
   simp only [List.eraseIdx_cons_zero, List.getElem_cons_zero, List.filter_cons, decide_true, Bool.not_true, Bool.false_eq_true, if_false]
   refine (List.filter_eq_self.2 fun x hx => ?_).symm
   have := (List.pairwise_cons.1 h).1 x hx
   simp; omega
  | succ j =>
   have hj' : j < l.length := by simpa using hj
   have h1 := (List.pairwise_cons.1 h).1 l[j] (List.getElem_mem hj')
   rw [List.eraseIdx_cons_succ, List.getElem_cons_succ, List.filter_cons, ih (List.pairwise_cons.1 h).2 j hj' hj', if_pos (by simp; omega)]
theorem isX_idx (p : Int) (l : List Int) : (0 ≤ idx (isX p) l ↔ p ∈ l) ∧ (0 ≤ idx (isX p) l → ∃ k : Nat, idx (isX p) l = k ∧ k < l.length) := by
 have h := idx_any (isX p) l
 rw [isX_mem, decide_eq_decide] at h
 refine ⟨h, fun h0 => ?_⟩
 rcases idx_cases (isX p) l with ⟨h1, _⟩ | ⟨k, hk, h1, _, _⟩
 ·omega
 ·exact ⟨k, h1, hk⟩
/-- slices.Sort, slices.Delete, of a slice of the call's own. -/
theorem sort_ok (base : Nat) (A : Option Addr) (c : Nat) (ks : List Int) (w : World) (ho : w.ownsRow base 3 1 (.slice A ks.length c) ks.length (ints ks)) (hl : ks.length ≤ 1000000) :
  Ret Try.prog 57 #[.slice A ks.length c] w (fun v w' => v = .tuple #[] ∧ w'.ownsRow base 3 1 (.slice A ks.length c) ks.length (ints (ks.mergeSort fun x y => decide (x ≤ y))) ∧ Lk w' w (OwnB (.slice A ks.length c))) := by
 rcases ho.2 with ⟨he, hn⟩ | ⟨g, cap, cur, he, hb, hg, hnc, hcm, hcs, htk⟩
 ·have hk : ks = [] := List.eq_nil_of_length_eq_zero hn
  subst hk
  refine Calls.mono (Try.slices_Sort_int_none A c w) ?_
  rintro e w' ⟨rfl, rfl⟩
  exact ⟨_, rfl, rfl, by simpa using ho, ⟨Keep.refl _ _⟩⟩
 ·cases he
  have hH := holds_of_blockI (ss := ks) hg (by simpa [ints] using htk)
  refine Calls.mono (Try.slices_Sort_int g 0 c ks w hH (Array.getElem?_eq_some_iff.1 hg).1 (by omega)) ?_
  rintro e w' ⟨rfl, n, os, rfl⟩
  refine ⟨_, rfl, rfl, ?_, ⟨Keep.of_grown (grownBy_sortedI _)⟩⟩
  have := ownsRow_sortedI (os := os) (n := n) (ss := ks) (ts := ks.mergeSort fun x y => decide (x ≤ y)) (by simp) hb hg hnc hcm hcs
  simpa [ints] using this
theorem delete_ok (base : Nat) (A : Option Addr) (c n k : Nat) (ks : List Int) (w : World) (ho : w.ownsRow base 3 1 (.slice A n c) n (ints ks)) (hl : ks.length = n) (hk : k < n) :
  Ret Try.prog 66 #[.slice A n c, .int .i64 (k : Int), .int .i64 ((k : Int) + 1)] w (fun v w' => v = .slice A (n - 1) c ∧ w'.ownsRow base 3 1 (.slice A (n - 1) c) (n - 1) (ints (ks.eraseIdx k)) ∧ Lk w' w (OwnB (.slice A n c))) := by
 subst hl
 rcases ho.2 with ⟨he, hn⟩ | ⟨g, cap, cur, he, hb, hg, hnc, hcm, hcs, htk⟩
 ·omega
 ·cases he
  have hH := holds_of_blockI (ss := ks) hg (by simpa [ints] using htk)
  have hd := Try.slices_Delete_int g 0 c k (k + 1) ks w hH hnc hcm (by omega) (by omega)
  have e1 : k + 1 - k = 1 := by omega
  have hT : ks.take k ++ ks.drop (k + 1) ++ List.replicate (k + 1 - k) 0 = ks.eraseIdx k ++ [0] := by rw [e1, List.eraseIdx_eq_take_drop_succ]; rfl
  rw [hT, e1] at hd
  refine Calls.mono hd ?_
  rintro e w' ⟨rfl, q, rfl⟩
  have hgb := grownBy_sortedI (w := w) (g := g) (n := q) (os := #[]) (ks.eraseIdx k ++ [0]).toArray
  have how := ownsRow_sortedI (w := w) (os := #[]) (n := q) (ss := ks) (ts := ks.eraseIdx k ++ [0]) (by simp [List.length_eraseIdx, hk]; omega) hb hg hnc hcm hcs
  have hgrow : ∀ W : World, Go.Sort.grow W #[] = W := fun W => by simp [Go.Sort.grow]
  rw [hgrow] at hgb how
  rw [List.map_append] at how
  have hfr := own_front (m := ks.length - 1) how (by rw [List.length_map, List.length_eraseIdx, if_pos hk]) rfl
  exact ⟨_, rfl, rfl, hfr, ⟨Keep.of_grown hgb⟩⟩

end Go.Proofs.Ytnjpladlfiaojaa
