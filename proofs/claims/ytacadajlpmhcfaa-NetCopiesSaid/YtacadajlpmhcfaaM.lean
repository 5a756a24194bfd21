/-
  Walks, printed by a program of this workplace (wip/tools/sx.py) off the functions' code and a text of contracts.
-/
import Derived.Test.YtacadajlpmhcfaaL
set_option linter.all false
set_option maxRecDepth 100000
set_option synthInstance.maxSize 100000
set_option synthInstance.maxHeartbeats 400000
namespace Go.Proofs.Ytacadajlpmhcfaa
open Go.Wst
open Go.Wst.Nm
/-- What stands behind calls: all that was put, what is gone of it. -/
structure OnceOk (N : Net) (all : List Msg) (gone : List Bool) : Prop where
  ok : N.ok
  came : N.came = all.length
  len : gone.length = all.length
  mem : ∀ (k : Int) (m : Msg), (k, m) ∈ N.l ↔ ∃ j : Nat, k = j ∧ all[j]? = some m ∧ gone[j]? = some false
  cnt : N.l.length = gone.count false
theorem OnceOk.start (most : Int) (h : 1 ≤ most ∧ most ≤ 4096) : OnceOk ⟨most, 0, []⟩ [] [] :=
  ⟨new_okN most h, rfl, rfl, fun k m => ⟨(fun h => by cases h), (fun ⟨j, _, h, _⟩ => by simp at h)⟩, rfl⟩
theorem OnceOk.put {N : Net} {all : List Msg} {gone : List Bool} (h : OnceOk N all gone) (m : Msg) (h0 : N.putNo m = 0) : OnceOk (N.putM m) (all ++ [m]) (gone ++ [false]) := by
  have hp : N.putM m = ⟨N.most, N.came + 1, N.l ++ [((N.came : Int), m)]⟩ := by rw [Net.putM, if_pos h0]
  have hl := h.len
  have hc := h.came
  refine ⟨h.ok.put m, by rw [hp]; simp [hc], by simp [hl], ?_, by rw [hp]; simp [h.cnt, List.count_append]⟩
  intro k m'
  rw [hp]
  simp only [List.mem_append, List.mem_singleton, Prod.mk.injEq]
  constructor
  · rintro (h1 | ⟨rfl, rfl⟩)
    · obtain ⟨j, rfl, h2, h3⟩ := (h.mem k m').1 h1
      have hj : j < all.length := (List.getElem?_eq_some_iff.1 h2).1
      exact ⟨j, rfl, by rw [List.getElem?_append_left hj]; exact h2, by rw [List.getElem?_append_left (by omega)]; exact h3⟩
    · exact ⟨N.came, rfl, by rw [hc]; simp, by rw [hc, ← hl]; simp⟩
  · rintro ⟨j, rfl, h2, h3⟩
    by_cases hj : j < all.length
    · rw [List.getElem?_append_left hj] at h2
      rw [List.getElem?_append_left (by omega)] at h3
      exact .inl ((h.mem _ _).2 ⟨j, rfl, h2, h3⟩)
    · have hj2 := (List.getElem?_eq_some_iff.1 h2).1
      have hje : j = all.length := by simp at hj2; omega
      subst hje
      simp at h2
      exact .inr ⟨by rw [hc], h2.symm⟩
theorem OnceOk.at_i {N : Net} {all : List Msg} {gone : List Bool} (h : OnceOk N all gone) {i : Nat} (hi : i < N.l.length) : ∃ j : Nat, N.l[i].1 = j ∧ all[j]? = some N.l[i].2 ∧ gone[j]? = some false :=
  (h.mem N.l[i].1 N.l[i].2).1 (List.getElem_mem hi)
theorem OnceOk.drop {N : Net} {all : List Msg} {gone : List Bool} (h : OnceOk N all gone) {i j : Nat} (hi : i < N.l.length) (hj : N.l[i].1 = j) : OnceOk (N.without i) all (gone.set j true) := by
  have hnd : (N.l.map (·.1)).Nodup := rise_nodup h.ok.rise
  obtain ⟨j', hj', h2, h3⟩ := h.at_i hi
  have hjj : j' = j := by omega
  subst hjj
  have hjl : j' < gone.length := (List.getElem?_eq_some_iff.1 h3).1
  refine ⟨h.ok.without i, h.came, by simp [h.len], ?_, ?_⟩
  · intro k m
    show (k, m) ∈ N.l.eraseIdx i ↔ _
    rw [List.mem_eraseIdx_iff_getElem]
    constructor
    · rintro ⟨i', hi', hne, he⟩
      obtain ⟨jj, e1, e2, e3⟩ := (h.mem k m).1 (he ▸ List.getElem_mem hi')
      refine ⟨jj, e1, e2, ?_⟩
      have : jj ≠ j' := by
        rintro rfl
        have h4 : (N.l.map (·.1))[i']'(by simpa using hi') = (N.l.map (·.1))[i]'(by simpa using hi) := by
          simp [he, hj, e1]
        exact hne ((List.getElem_inj hnd).1 h4)
      rw [List.getElem?_set_ne (Ne.symm this)]
      exact e3
    · rintro ⟨jj, rfl, e2, e3⟩
      have hne : jj ≠ j' := by
        rintro rfl
        rw [List.getElem?_set_self hjl] at e3
        cases e3
      rw [List.getElem?_set_ne (Ne.symm hne)] at e3
      obtain ⟨i', hi', he⟩ := List.mem_iff_getElem.1 ((h.mem _ _).2 ⟨jj, rfl, e2, e3⟩)
      refine ⟨i', hi', ?_, he⟩
      rintro rfl
      rw [he] at hj
      simp at hj
      omega
  · show (N.l.eraseIdx i).length = _
    rw [List.length_eraseIdx, if_pos hi, h.cnt, List.count_set hjl]
    have : gone[j'] = false := by have := List.getElem?_eq_getElem hjl; rw [this] at h3; exact Option.some.inj h3
    simp [this]
theorem at_lt {N : Net} (pick : Int) (h : N.l ≠ []) : N.at_ pick < N.l.length := by
  obtain ⟨h0, h1⟩ := pickI_lt pick (List.length_pos_iff.2 h)
  rw [Net.at_]
  omega
theorem peek_some {N : Net} {pick : Int} (h : N.l ≠ []) : ∃ i, ∃ hi : i < N.l.length, N.peek pick = (N.l[i].2, N.l[i].1, 0) ∧ N.takeM pick = N.without i := by
  have hi := at_lt pick h
  refine ⟨N.at_ pick, hi, ?_, by rw [Net.takeM, if_neg h]⟩
  rw [Net.peek, List.getElem?_eq_getElem hi]
theorem peek_none {N : Net} (pick : Int) (h : N.l = []) : N.peek pick = (zeroMsg, 0, 5) ∧ N.takeM pick = N ∧ N.dupM pick = N ∧ N.dupN pick = 0 ∧ N.dupNo pick = 5 := by
  rw [Net.peek, Net.takeM, Net.dupM, Net.dupN, Net.dupNo, if_pos h, if_pos h, if_pos h, if_pos h, h]
  exact ⟨rfl, rfl, rfl, rfl, rfl⟩
theorem dup_some {N : Net} {pick : Int} (h : N.l ≠ []) : N.dupM pick = N.putM (N.peek pick).1 ∧ N.dupN pick = N.putN (N.peek pick).1 ∧ N.dupNo pick = N.putNo (N.peek pick).1 := by
  rw [Net.dupM, Net.dupN, Net.dupNo, if_neg h, if_neg h, if_neg h]
  exact ⟨rfl, rfl, rfl⟩
theorem OnceOk.take {N : Net} {all : List Msg} {gone : List Bool} (h : OnceOk N all gone) (pick : Int) :
    ((N.peek pick).2.2 = 0 ∧ ∃ j : Nat, (N.peek pick).2.1 = j ∧ all[j]? = some (N.peek pick).1 ∧ gone[j]? = some false ∧ OnceOk (N.takeM pick) all (gone.set j true)) ∨ ((N.peek pick).2.2 ≠ 0 ∧ N.takeM pick = N) := by
  by_cases e : N.l = []
  · right
    obtain ⟨h1, h2, _⟩ := peek_none pick e
    rw [h1, h2]
    exact ⟨by decide, rfl⟩
  · left
    obtain ⟨i, hi, h1, h2⟩ := peek_some (pick := pick) e
    obtain ⟨j, hj, h3, h4⟩ := h.at_i hi
    rw [h1, h2]
    exact ⟨rfl, j, hj, h3, h4, h.drop hi hj⟩
theorem OnceOk.dup {N : Net} {all : List Msg} {gone : List Bool} (h : OnceOk N all gone) (pick : Int) :
    (N.dupNo pick = 0 ∧ (N.peek pick).2.2 = 0 ∧ N.dupN pick = all.length ∧ OnceOk (N.dupM pick) (all ++ [(N.peek pick).1]) (gone ++ [false])) ∨ (N.dupNo pick ≠ 0 ∧ N.dupM pick = N) := by
  by_cases e : N.l = []
  · right
    obtain ⟨_, _, h1, h2, h3⟩ := peek_none pick e
    rw [h1, h3]
    exact ⟨by decide, rfl⟩
  · obtain ⟨h1, h2, h3⟩ := dup_some (pick := pick) e
    obtain ⟨i, hi, h4, _⟩ := peek_some (pick := pick) e
    by_cases e0 : N.dupNo pick = 0
    · left
      refine ⟨e0, by rw [h4], ?_, ?_⟩
      · rw [h2, Net.putN, if_pos (by rw [← h3]; exact e0), h.came]
      · rw [h1]; exact h.put _ (by rw [← h3]; exact e0)
    · right
      refine ⟨e0, ?_⟩
      rw [h1, Net.putM, if_neg (by rw [← h3]; exact e0)]
theorem OnceOk.put' {N : Net} {all : List Msg} {gone : List Bool} (h : OnceOk N all gone) (m : Msg) :
    (N.putNo m = 0 ∧ N.putN m = all.length ∧ OnceOk (N.putM m) (all ++ [m]) (gone ++ [false])) ∨ (N.putNo m ≠ 0 ∧ N.putM m = N) := by
  by_cases e : N.putNo m = 0
  · exact .inl ⟨e, by rw [Net.putN, if_pos e, h.came], h.put m e⟩
  · exact .inr ⟨e, (no_put e).1⟩

end Go.Proofs.Ytacadajlpmhcfaa
