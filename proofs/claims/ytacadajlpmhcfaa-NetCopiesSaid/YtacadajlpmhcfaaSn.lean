/-
  What the net's layer computes, in plain Lean: messages by their numbers. No program is named here.
-/
import Derived.Test.YtacadajlpmhcfaaXh
set_option linter.all false
namespace Go.Wst.Nm
structure Msg where
  src : Int
  dst : Int
  bytes : List UInt8
  deriving DecidableEq
/-- A message, where its bytes lie. -/
structure LMsg where
  m : Msg
  A : Option Addr
  c : Nat
structure Net where
  most : Int
  came : Nat
  l : List (Int × Msg)
  deriving DecidableEq
structure NetL where
  most : Int
  came : Nat
  l : List (Int × LMsg)
def NetL.pure (N : NetL) : Net := ⟨N.most, N.came, N.l.map (fun p => (p.1, p.2.m))⟩
def placeB (n : Int) : Bool := decide (0 ≤ n) && decide (n < 64)
def Net.putNo (N : Net) (m : Msg) : Int := if placeB m.src = true ∧ placeB m.dst = true then (if 4096 < m.bytes.length then 3 else if N.most ≤ (N.l.length : Int) then 150 else 0) else 2
def Net.putM (N : Net) (m : Msg) : Net := if N.putNo m = 0 then ⟨N.most, N.came + 1, N.l ++ [((N.came : Int), m)]⟩ else N
def Net.putN (N : Net) (m : Msg) : Int := if N.putNo m = 0 then (N.came : Int) else 0
/-- The place that a pick picks, of n. -/
def pickI (pick : Int) (n : Nat) : Int := (pick.tmod n + n).tmod n
theorem pickI_lt (pick : Int) {n : Nat} (h : 0 < n) : 0 ≤ pickI pick n ∧ pickI pick n < n := by
  have hn : (0 : Int) < n := by omega
  have h1 : -(n : Int) < pick.tmod n := Int.lt_tmod_of_pos pick hn
  have h2 : pick.tmod n < n := Int.tmod_lt_of_pos pick hn
  unfold pickI
  exact ⟨Int.tmod_nonneg _ (by omega), Int.tmod_lt_of_pos _ hn⟩
def Net.without (N : Net) (i : Nat) : Net := ⟨N.most, N.came, N.l.eraseIdx i⟩
def Net.at_ (N : Net) (pick : Int) : Nat := (pickI pick N.l.length).toNat
def zeroMsg : Msg := ⟨0, 0, []⟩
/-- The picked message, its number, the error. -/
def Net.peek (N : Net) (pick : Int) : Msg × Int × Int := match N.l[N.at_ pick]? with
  | some p => (p.2, p.1, 0)
  | none => (zeroMsg, 0, 5)
def Net.takeM (N : Net) (pick : Int) : Net := if N.l = [] then N else N.without (N.at_ pick)
def Net.dupNo (N : Net) (pick : Int) : Int := if N.l = [] then 5 else N.putNo (N.peek pick).1
def Net.dupN (N : Net) (pick : Int) : Int := if N.l = [] then 0 else N.putN (N.peek pick).1
def Net.dupM (N : Net) (pick : Int) : Net := if N.l = [] then N else N.putM (N.peek pick).1
structure Net.ok (N : Net) : Prop where
  one : 1 ≤ N.most
  most : N.most ≤ 4096
  few : (N.l.length : Int) ≤ N.most
  keys : ∀ p ∈ N.l, 0 ≤ p.1 ∧ p.1 < N.came
  rise : (N.l.map (·.1)).Pairwise (· < ·)
  good : ∀ p ∈ N.l, placeB p.2.src = true ∧ placeB p.2.dst = true ∧ p.2.bytes.length ≤ 4096
theorem Net.ok.put {N : Net} (h : N.ok) (m : Msg) : (N.putM m).ok := by
  unfold Net.putM
  split
  · rename_i h0
    unfold Net.putNo at h0
    split at h0
    · rename_i hp
      split at h0
      · cases h0
      · split at h0
        · cases h0
        · refine ⟨h.one, h.most, by simp; omega, ?_, ?_, ?_⟩
          · intro p hp
            rcases List.mem_append.1 hp with hp | hp
            · have := h.keys p hp; simp only; omega
            · simp only [List.mem_singleton] at hp; subst hp; simp only; omega
          · simp only [List.map_append, List.map_cons, List.map_nil]
            rw [List.pairwise_append]
            refine ⟨h.rise, by simp, ?_⟩
            intro a ha b hb
            simp only [List.mem_singleton] at hb
            subst hb
            obtain ⟨p, hp, rfl⟩ := List.mem_map.1 ha
            exact (h.keys p hp).2
          · intro p hp'
            rcases List.mem_append.1 hp' with hp' | hp'
            · exact h.good p hp'
            · simp only [List.mem_singleton] at hp'; subst hp'; exact ⟨hp.1, hp.2, by simp only; omega⟩
    · cases h0
  · exact h
theorem Net.ok.without {N : Net} (h : N.ok) (i : Nat) : (N.without i).ok := by
  refine ⟨h.one, h.most, ?_, fun p hp => h.keys p (List.mem_of_mem_eraseIdx hp), ?_, fun p hp => h.good p (List.mem_of_mem_eraseIdx hp)⟩
  · have := (List.eraseIdx_sublist N.l i).length_le
    have := h.few
    simp only [Net.without]; omega
  · have : ((N.l.eraseIdx i).map (·.1)).Sublist (N.l.map (·.1)) := (List.eraseIdx_sublist N.l i).map _
    exact h.rise.sublist this
theorem sorted_perm {a b : List Int} (h : a.Perm b) : a.mergeSort (fun x y => decide (x ≤ y)) = b.mergeSort (fun x y => decide (x ≤ y)) := by
  have tr : ∀ (x y z : Int), decide (x ≤ y) = true → decide (y ≤ z) = true → decide (x ≤ z) = true := by intro x y z; simp; omega
  have to : ∀ (x y : Int), (decide (x ≤ y) || decide (y ≤ x)) = true := by intro x y; simp; omega
  refine List.Perm.eq_of_pairwise (le := fun x y => decide (x ≤ y) = true) ?_ (List.pairwise_mergeSort tr to a) (List.pairwise_mergeSort tr to b) ?_
  · intro x y _ _ h1 h2; simp at h1 h2; omega
  · exact (List.mergeSort_perm a _).trans (h.trans (List.mergeSort_perm b _).symm)
theorem akey_mem {κ α : Type} [DecidableEq κ] {l : List (κ × α)} {k : κ} {v : α} (h : akey l k = some v) : (k, v) ∈ l := by
  unfold akey at h
  cases hf : l.find? (fun p => decide (p.1 = k)) with
  | none => simp [hf] at h
  | some p =>
    simp only [hf, Option.map_some, Option.some.injEq] at h
    have h1 := List.find?_some hf
    have h2 := List.mem_of_find?_eq_some hf
    simp only [decide_eq_true_eq] at h1
    obtain ⟨a, b⟩ := p
    simp only at h h1
    subst h; subst h1
    exact h2
theorem mem_aput {κ α : Type} [DecidableEq κ] {l : List (κ × α)} {k : κ} {v : α} {p : κ × α} (h : p ∈ aput l k v) : p = (k, v) ∨ p ∈ l := by
  unfold aput at h
  split at h
  · obtain ⟨q, hq, rfl⟩ := List.mem_map.1 h
    by_cases e : q.1 = k
    · rw [if_pos e]; exact .inl rfl
    · rw [if_neg e]; exact .inr hq
  · rcases List.mem_append.1 h with h | h
    · exact .inr h
    · exact .inl (by simpa using h)
theorem akey_map {κ α β : Type} [DecidableEq κ] (f : α → β) (l : List (κ × α)) (k : κ) : akey (l.map (fun p => (p.1, f p.2))) k = (akey l k).map f := by
  induction l with
  | nil => rfl
  | cons p l ih =>
    unfold akey at *
    by_cases e : p.1 = k
    · simp [e]
    · simp only [List.map_cons, List.find?_cons, e, decide_false]; exact ih
theorem aput_map {κ α β : Type} [DecidableEq κ] (f : α → β) (l : List (κ × α)) (k : κ) (v : α) : aput (l.map (fun p => (p.1, f p.2))) k (f v) = (aput l k v).map (fun p => (p.1, f p.2)) := by
  unfold aput
  have e : (l.map (fun p => (p.1, f p.2))).any (fun p => decide (p.1 = k)) = l.any (fun p => decide (p.1 = k)) := by rw [List.any_map]; rfl
  rw [e]
  split
  · simp only [List.map_map]
    apply List.map_congr_left
    intro p _
    simp only [Function.comp]
    split <;> rfl
  · simp
theorem akey_nodup' {κ α : Type} [DecidableEq κ] {l : List (κ × α)} (h : (l.map (·.1)).Nodup) {p : κ × α} (hp : p ∈ l) : akey l p.1 = some p.2 := by
  induction l with
  | nil => cases hp
  | cons q l ih =>
    simp only [List.map_cons, List.nodup_cons] at h
    rcases List.mem_cons.1 hp with rfl | hp
    · simp [akey]
    · have hne : q.1 ≠ p.1 := fun e => h.1 (e ▸ List.mem_map.2 ⟨p, hp, rfl⟩)
      have := ih h.2 hp
      unfold akey at *
      simp only [List.find?_cons, hne, decide_false]
      exact this
theorem rise_sorted {l : List Int} (h : l.Pairwise (· < ·)) : l.mergeSort (fun x y => decide (x ≤ y)) = l := by
  apply List.mergeSort_of_pairwise
  exact h.imp (fun h => by simp; omega)
theorem rise_nodup {l : List Int} (h : l.Pairwise (· < ·)) : l.Nodup := h.imp (fun h => by omega)
end Go.Wst.Nm
