/-
  Walks, printed by a program of this workplace (wip/tools/sx.py) off the functions' code and a text of contracts.
-/
import Derived.Test.YtbihphclmdokeaaP
set_option linter.all false
set_option maxRecDepth 100000
set_option synthInstance.maxSize 100000
set_option synthInstance.maxHeartbeats 400000
namespace Go.Proofs.Ytbihphclmdokeaa
open Go.Wst
open Go.Wst.Sm
/-! plain: rounds cut anyhow -/
def putsM (M : Mach) (inp : Int) (xs : List Int) : Mach := xs.foldl (fun M v => M.putM inp v) M
theorem putsM_snoc (M : Mach) (inp : Int) (xs : List Int) (v : Int) : putsM M inp (xs ++ [v]) = (putsM M inp xs).putM inp v := by simp [putsM]
structure One1 (r : Rule) (k : Nat) (M : Mach) : Prop where
  ok : M.ok
  rules : M.rules = [(r.id, (r, 0))]
  four : M.parts.length = 4
  out : M.part r.out = []
  len : (M.part r.inp).length ≤ k
theorem One1.put {r : Rule} {k : Nat} {M : Mach} (h : One1 r k M) (hm : mayB r = true) (v : Int) : One1 r (k + 1) (M.putM r.inp v) := by
  have hne : r.inp ≠ r.out := by simp [mayB] at hm; exact hm.1.1.2
  have h0 : 0 ≤ r.inp ∧ 0 ≤ r.out := by simp [mayB] at hm; omega
  refine ⟨h.ok.put _ _, ?_, ?_, ?_, ?_⟩
  · unfold Mach.putM; split <;> exact h.rules
  · unfold Mach.putM; split <;> simp [h.four]
  · unfold Mach.putM
    split
    · rw [Mach.part_set, if_neg (by omega)]; exact h.out
    · exact h.out
  · unfold Mach.putM
    split
    · rw [Mach.part_set]
      split
      · simp; exact h.len
      · have := h.len; omega
    · have := h.len; omega
theorem one1_new {r : Rule} (hm : mayB r = true) : One1 r 0 ((Mach.new 4).ruleM r) ∧ (Mach.new 4).ruleB r = true := by
  have hb : (Mach.new 4).ruleB r = true := by
    simp [mayB] at hm
    simp [Mach.ruleB, Mach.new, akey, Mach.hasB, mayB]
    omega
  have e : (Mach.new 4).ruleM r = ⟨List.replicate 4 [], [(r.id, (r, 0))]⟩ := by
    rw [Mach.ruleM, if_pos hb]; simp [Mach.new, aput]
  have hp : ∀ n : Int, (Mach.mk (List.replicate 4 []) [(r.id, (r, 0))]).part n = [] := fun n => by
    simp only [Mach.part, List.getElem?_replicate]
    split <;> rfl
  refine ⟨⟨(Mach.ok.new (by decide) (by decide)).rule r, by rw [e], by rw [e]; rfl, by rw [e]; exact hp _, by rw [e, hp]; exact Nat.le_refl _⟩, hb⟩
/-- What is there when T items are through. -/
def through (r : Rule) (M : Mach) (T : Nat) : Mach := ⟨M.parts.set r.out.toNat (madeBy (r, 0) r.id ((M.part r.inp).take T)), [(r.id, (r, T))]⟩
theorem madeBy_app (r : Rule) (id : Int) (L : List Itm) (T n : Nat) (h : T ≤ L.length) : madeBy (r, 0) id (L.take T) ++ madeBy (r, T) id ((L.drop T).take n) = madeBy (r, 0) id (L.take (T + n)) := by
  have e : L.take (T + n) = L.take T ++ (L.drop T).take n := by rw [List.take_add]
  rw [e]
  unfold madeBy
  rw [List.mapIdx_append]
  congr 1
  have hl : (L.take T).length = T := by simp; omega
  rw [hl]
  congr 1
  funext i x
  congr 1
  simp
  omega
theorem through0 {r : Rule} {k : Nat} {M : Mach} (h : One1 r k M) : through r M 0 = M := by
  have hp : M.parts.set r.out.toNat [] = M.parts := by
    apply List.ext_getElem?
    intro i
    rw [List.getElem?_set]
    split
    · rename_i hi
      subst hi
      split
      · rename_i hlt
        have := h.out
        simp [Mach.part, hlt] at this
        simp [hlt, this]
      · rename_i hlt
        rw [List.getElem?_eq_none (by omega)]
    · rfl
  cases M with
  | mk parts rules =>
    have := h.rules
    simp only at this hp
    simp [through, madeBy, hp, this]
theorem through_in {r : Rule} {k : Nat} {M : Mach} (h : One1 r k M) (hm : mayB r = true) (T : Nat) : (through r M T).part r.inp = M.part r.inp ∧ (through r M T).part r.out = madeBy (r, 0) r.id ((M.part r.inp).take T) := by
  have hne : r.inp ≠ r.out := by simp [mayB] at hm; exact hm.1.1.2
  have h0 : 0 ≤ r.inp ∧ 0 ≤ r.out ∧ r.out < 4 := by simp [mayB] at hm; omega
  constructor
  · rw [through, Mach.part_set, if_neg (by omega)]
  · rw [through, Mach.part_set, if_pos ⟨rfl, by rw [h.four]; omega⟩]
def cutN (L T : Nat) (size : Int) : Nat := min size.toNat (L - T)
theorem through_round {r : Rule} {k : Nat} {M : Mach} (h : One1 r k M) (hk : k ≤ 60) (hm : mayB r = true) (T : Nat) (hT : T ≤ (M.part r.inp).length) (size : Int) :
    (through r M T).roundM r.id size = through r M (T + cutN (M.part r.inp).length T size) ∧ (through r M T).roundN r.id size = cutN (M.part r.inp).length T size ∧ T + cutN (M.part r.inp).length T size ≤ (M.part r.inp).length := by
  obtain ⟨hi, ho⟩ := through_in h hm T
  have hak : akey (through r M T).rules r.id = some (r, T) := by simp [through, akey]
  have hlen := h.len
  have hlo : ((through r M T).part r.out).length = T := by rw [ho, madeBy_len, List.length_take]; omega
  have hll : ((through r M T).left (r, T) size).length = cutN (M.part r.inp).length T size := by simp [Mach.left, hi, cutN]
  have hcut : T + cutN (M.part r.inp).length T size ≤ (M.part r.inp).length := by unfold cutN; omega
  by_cases hz : cutN (M.part r.inp).length T size = 0
  · have hno : (through r M T).roundNo r.id size ≠ 0 := by
      simp only [Mach.roundNo, hak]
      split
      · decide
      · rw [if_pos (by rw [hll]; exact hz)]; decide
    refine ⟨?_, ?_, hcut⟩
    · rw [Mach.roundM, hak]; simp only []; rw [if_neg hno, hz]; rfl
    · rw [Mach.roundN, hak]; simp only []; rw [if_neg hno, hz]
  · have hs : ¬ size < 0 := fun hs => hz (by unfold cutN; omega)
    have hno : (through r M T).roundNo r.id size = 0 := by
      simp only [Mach.roundNo, hak]
      rw [if_neg hs, if_neg (by rw [hll]; exact hz), if_neg]
      rw [hlo, hll]
      omega
    refine ⟨?_, ?_, hcut⟩
    · rw [Mach.roundM, hak]
      simp only []
      rw [if_pos hno, ho]
      have e1 : (through r M T).left (r, T) size = ((M.part r.inp).drop T).take (cutN (M.part r.inp).length T size) := by
        simp only [Mach.left, hi, cutN]
        rw [List.take_eq_take_min]
        simp
      rw [e1, madeBy_app r r.id _ T _ hT]
      have e2 : (((M.part r.inp).drop T).take (cutN (M.part r.inp).length T size)).length = cutN (M.part r.inp).length T size := by simp; unfold cutN; omega
      rw [e2]
      simp [through, aput]
    · rw [Mach.roundN, hak]; simp only []; rw [if_pos hno, hll]
theorem akey_nodup {κ α : Type} [DecidableEq κ] {l : List (κ × α)} (h : (l.map (·.1)).Nodup) {p : κ × α} (hp : p ∈ l) : akey l p.1 = some p.2 := by
  induction l with
  | nil => cases hp
  | cons q l ih =>
    simp only [List.map_cons, List.nodup_cons] at h
    rcases List.mem_cons.1 hp with rfl | hp
    · simp [akey]
    · have hne : q.1 ≠ p.1 := fun e => h.1 (e ▸ List.mem_map.2 ⟨p, hp, rfl⟩)
      have := ih h.2 hp
      unfold akey at *
      simp only [List.find?_cons, hne, decide_false]
      exact this
theorem sameM_refl {M : Mach} (h : (M.rules.map (·.1)).Nodup) : sameM M M = true := by
  have h1 : M.rules.all (fun p => decide (akey M.rules p.1 = some p.2)) = true := by
    rw [List.all_eq_true]
    intro p hp
    have : akey M.rules p.1 = some p.2 := akey_nodup h hp
    simpa using this
  simp [sameM, h1]
theorem through_ok {r : Rule} {k : Nat} {M : Mach} (h : One1 r k M) (hk : k ≤ 60) (hm : mayB r = true) (T : Nat) (hT : T ≤ (M.part r.inp).length) : (through r M T).ok := by
  have h0 := (through_round h hk hm 0 (Nat.zero_le _) (T : Int)).1
  have e : 0 + cutN (M.part r.inp).length 0 (T : Int) = T := by unfold cutN; omega
  rw [e, through0 h] at h0
  rw [← h0]
  exact h.ok.round _ _
theorem through_all {r : Rule} {k : Nat} {M : Mach} (h : One1 r k M) (hk : k ≤ 60) (hm : mayB r = true) (T : Nat) (hT : T ≤ (M.part r.inp).length) : M.roundM r.id (T : Int) = through r M T := by
  have h0 := (through_round h hk hm 0 (Nat.zero_le _) (T : Int)).1
  have e : 0 + cutN (M.part r.inp).length 0 (T : Int) = T := by unfold cutN; omega
  rw [e, through0 h] at h0
  exact h0

end Go.Proofs.Ytbihphclmdokeaa
