/-
  What the stream's layer computes, in plain Lean: rules, items, folds. No program is named here.
-/
import Derived.Test.YtbihphclmdokeaaXh
set_option linter.all false
namespace Go.Wst.Sm
structure Rule where
  id : Int
  inp : Int
  out : Int
  mul : Int
  add : Int
  deriving DecidableEq
structure Itm where
  val : Int
  rule : Int
  of_ : Int
  deriving DecidableEq
def mayB (r : Rule) : Bool := decide (0 ≤ r.id) && decide (r.id < 4) && (decide (0 ≤ r.inp) && decide (r.inp < 4)) && (decide (0 ≤ r.out) && decide (r.out < 4)) && !decide (r.inp = r.out) && (decide (-65536 ≤ r.mul) && decide (r.mul ≤ 65536)) && (decide (-65536 ≤ r.add) && decide (r.add ≤ 65536))
def valB (v : Int) : Bool := decide (-2147483648 ≤ v) && decide (v ≤ 2147483647)
def mk (r : Rule) (v : Int) : Int := max (-2147483648) (min 2147483647 (v * r.mul + r.add))
/-- client.Make. -/
def make (r : Rule) (v : Int) : Int := if mayB r = true ∧ valB v = true then mk r v else 0
theorem mul_bd {r : Rule} {v : Int} (h1 : mayB r = true) (h2 : valB v = true) : -140737488420864 ≤ v * r.mul ∧ v * r.mul ≤ 140737488420864 := by
  simp only [mayB, valB, Bool.and_eq_true, decide_eq_true_eq, Bool.not_eq_true', decide_eq_false_iff_not] at h1 h2
  obtain ⟨⟨_, h5, h6⟩, h7, h8⟩ := h1
  obtain ⟨h3, h4⟩ := h2
  have ha : -2147483648 * 65536 ≤ v * r.mul := by
    rcases Int.le_total 0 v with hv | hv <;> rcases Int.le_total 0 r.mul with hm | hm
    · have := Int.mul_nonneg hv hm; omega
    · have h9 : v * (-r.mul) ≤ 2147483648 * 65536 := Int.mul_le_mul (by omega) (by omega) (by omega) (by omega)
      rw [Int.mul_neg] at h9; omega
    · have h9 : (-v) * r.mul ≤ 2147483648 * 65536 := Int.mul_le_mul (by omega) (by omega) (by omega) (by omega)
      rw [Int.neg_mul] at h9; omega
    · have := Int.mul_nonneg (a := -v) (b := -r.mul) (by omega) (by omega); rw [Int.neg_mul_neg] at this; omega
  have hb : v * r.mul ≤ 2147483648 * 65536 := by
    rcases Int.le_total 0 v with hv | hv <;> rcases Int.le_total 0 r.mul with hm | hm
    · exact Int.mul_le_mul (by omega) (by omega) (by omega) (by omega)
    · have := Int.mul_nonneg hv (b := -r.mul) (by omega); rw [Int.mul_neg] at this; omega
    · have := Int.mul_nonneg (a := -v) (b := r.mul) (by omega) hm; rw [Int.neg_mul] at this; omega
    · have h9 : (-v) * (-r.mul) ≤ 2147483648 * 65536 := Int.mul_le_mul (by omega) (by omega) (by omega) (by omega)
      rw [Int.neg_mul_neg] at h9; exact h9
  omega
theorem may_add {r : Rule} (h1 : mayB r = true) : -65536 ≤ r.add ∧ r.add ≤ 65536 := by
  simp only [mayB, Bool.and_eq_true, decide_eq_true_eq] at h1
  exact h1.2
/-! ### machines -/
structure Mach where
  parts : List (List Itm)
  rules : List (Int × Rule × Nat)
def Mach.hasB (M : Mach) (n : Int) : Bool := decide (0 ≤ n) && decide (n < (M.parts.length : Int))
def Mach.part (M : Mach) (n : Int) : List Itm := (M.parts[n.toNat]?).getD []
def Mach.ruleB (M : Mach) (r : Rule) : Bool := !(akey M.rules r.id).isSome && mayB r && M.hasB r.inp && M.hasB r.out
def Mach.ruleM (M : Mach) (r : Rule) : Mach := if M.ruleB r = true then { M with rules := aput M.rules r.id (r, 0) } else M
def Mach.putNo (M : Mach) (part v : Int) : Int := if M.hasB part = true then (if valB v = true then (if 4096 ≤ (M.part part).length then 3 else 0) else 2) else 4
def Mach.putM (M : Mach) (part v : Int) : Mach := if M.putNo part v = 0 then { M with parts := M.parts.set part.toNat (M.part part ++ [⟨v, -1, -1⟩]) } else M
def Mach.left (M : Mach) (q : Rule × Nat) (most : Int) : List Itm := ((M.part q.1.inp).drop q.2).take most.toNat
def Mach.roundNo (M : Mach) (id most : Int) : Int := match akey M.rules id with
  | none => 5
  | some q => if most < 0 then 2 else if (M.left q most).length = 0 then 5 else if 4096 < (M.part q.1.out).length + (M.left q most).length then 3 else 0
def madeBy (q : Rule × Nat) (id : Int) (l : List Itm) : List Itm := l.mapIdx (fun i x => ⟨make q.1 x.val, id, (q.2 : Int) + (i : Int)⟩)
def Mach.roundN (M : Mach) (id most : Int) : Nat := match akey M.rules id with
  | none => 0
  | some q => if M.roundNo id most = 0 then (M.left q most).length else 0
def Mach.roundM (M : Mach) (id most : Int) : Mach := match akey M.rules id with
  | none => M
  | some q => if M.roundNo id most = 0 then ⟨M.parts.set q.1.out.toNat (M.part q.1.out ++ madeBy q id (M.left q most)), aput M.rules id (q.1, q.2 + (M.left q most).length)⟩ else M
structure Mach.ok (M : Mach) : Prop where
  one : 1 ≤ M.parts.length
  four : M.parts.length ≤ 4
  long : ∀ l ∈ M.parts, l.length ≤ 4096
  vals : ∀ l ∈ M.parts, ∀ x ∈ l, valB x.val = true
  rules : ∀ p ∈ M.rules, p.2.1.id = p.1 ∧ mayB p.2.1 = true ∧ M.hasB p.2.1.inp = true ∧ M.hasB p.2.1.out = true ∧ p.2.2 ≤ (M.part p.2.1.inp).length
  keys : (M.rules.map (·.1)).Nodup
def Mach.ids (M : Mach) : List Int := (M.rules.map (·.1)).mergeSort (fun x y => decide (x ≤ y))
def Mach.ruleOf (M : Mach) (id : Int) : Rule := ((akey M.rules id).getD (⟨0, 0, 0, 0, 0⟩, 0)).1
def Mach.pass (M : Mach) : List Int → Mach × Nat
  | [] => (M, 0)
  | id :: l => ((M.roundM id 4096).pass l |>.1, M.roundN id 4096 + ((M.roundM id 4096).pass l).2)
def Mach.drain : Nat → Mach → Mach × Nat
  | 0, M => (M, 0)
  | n + 1, M => if (M.pass M.ids).2 = 0 then ((M.pass M.ids).1, 0) else (((M.pass M.ids).1.drain n).1, (M.pass M.ids).2 + ((M.pass M.ids).1.drain n).2)
theorem Mach.pass_snoc (M : Mach) (l : List Int) (id : Int) : M.pass (l ++ [id]) = (((M.pass l).1.roundM id 4096), (M.pass l).2 + (M.pass l).1.roundN id 4096) := by
  induction l generalizing M with
  | nil => simp [Mach.pass]
  | cons x l ih => simp only [List.cons_append, Mach.pass, ih]; simp [Nat.add_assoc]
theorem sorted_perm {a b : List Int} (h : a.Perm b) : a.mergeSort (fun x y => decide (x ≤ y)) = b.mergeSort (fun x y => decide (x ≤ y)) := by
  have tr : ∀ (x y z : Int), decide (x ≤ y) = true → decide (y ≤ z) = true → decide (x ≤ z) = true := by intro x y z; simp; omega
  have to : ∀ (x y : Int), (decide (x ≤ y) || decide (y ≤ x)) = true := by intro x y; simp; omega
  refine List.Perm.eq_of_pairwise (le := fun x y => decide (x ≤ y) = true) ?_ (List.pairwise_mergeSort tr to a) (List.pairwise_mergeSort tr to b) ?_
  · intro x y _ _ h1 h2; simp at h1 h2; omega
  · exact (List.mergeSort_perm a _).trans (h.trans (List.mergeSort_perm b _).symm)
theorem akey_mem {κ α : Type} [DecidableEq κ] {l : List (κ × α)} {k : κ} {v : α} (h : akey l k = some v) : (k, v) ∈ l := by
  unfold akey at h
  cases hf : l.find? (fun p => decide (p.1 = k)) with
  | none => simp [hf] at h
  | some p =>
    simp only [hf, Option.map_some, Option.some.injEq] at h
    have h1 := List.find?_some hf
    have h2 := List.mem_of_find?_eq_some hf
    simp only [decide_eq_true_eq] at h1
    obtain ⟨a, b⟩ := p
    simp only at h h1
    subst h; subst h1
    exact h2
theorem mem_aput {κ α : Type} [DecidableEq κ] {l : List (κ × α)} {k : κ} {v : α} {p : κ × α} (h : p ∈ aput l k v) : p = (k, v) ∨ p ∈ l := by
  unfold aput at h
  split at h
  · obtain ⟨q, hq, rfl⟩ := List.mem_map.1 h
    by_cases e : q.1 = k
    · rw [if_pos e]; exact .inl rfl
    · rw [if_neg e]; exact .inr hq
  · rcases List.mem_append.1 h with h | h
    · exact .inr h
    · exact .inl (by simpa using h)
theorem akey_map {κ α β : Type} [DecidableEq κ] (f : α → β) (l : List (κ × α)) (k : κ) : akey (l.map (fun p => (p.1, f p.2))) k = (akey l k).map f := by
  induction l with
  | nil => rfl
  | cons p l ih =>
    unfold akey at *
    by_cases e : p.1 = k
    · simp [e]
    · simp only [List.map_cons, List.find?_cons, e, decide_false]; exact ih
theorem aput_map {κ α β : Type} [DecidableEq κ] (f : α → β) (l : List (κ × α)) (k : κ) (v : α) : aput (l.map (fun p => (p.1, f p.2))) k (f v) = (aput l k v).map (fun p => (p.1, f p.2)) := by
  unfold aput
  have e : (l.map (fun p => (p.1, f p.2))).any (fun p => decide (p.1 = k)) = l.any (fun p => decide (p.1 = k)) := by rw [List.any_map]; rfl
  rw [e]
  split
  · simp only [List.map_map]
    apply List.map_congr_left
    intro p _
    simp only [Function.comp]
    split <;> rfl
  · simp
theorem Mach.part_mem {M : Mach} {n : Int} (h : M.hasB n = true) : M.part n ∈ M.parts := by
  simp only [Mach.hasB, Bool.and_eq_true, decide_eq_true_eq] at h
  have : n.toNat < M.parts.length := by omega
  simp [Mach.part, this]
theorem Mach.part_eq {M : Mach} {n : Int} (h : M.hasB n = true) : M.parts[n.toNat]? = some (M.part n) := by
  simp only [Mach.hasB, Bool.and_eq_true, decide_eq_true_eq] at h
  have : n.toNat < M.parts.length := by omega
  simp [Mach.part, this]
theorem Mach.part_set {M : Mach} {k : Nat} {l : List Itm} {rs : List (Int × Rule × Nat)} {n : Int} : (Mach.mk (M.parts.set k l) rs).part n = if k = n.toNat ∧ k < M.parts.length then l else M.part n := by
  simp only [Mach.part, List.getElem?_set]
  by_cases h : k = n.toNat
  · subst h
    by_cases h2 : n.toNat < M.parts.length
    · simp [h2]
    · simp [h2]
  · simp [h]
theorem Mach.has_set {M : Mach} {k : Nat} {l : List Itm} {rs : List (Int × Rule × Nat)} {n : Int} : (Mach.mk (M.parts.set k l) rs).hasB n = M.hasB n := by simp [Mach.hasB]
/-- A partition's items become more. -/
theorem Mach.ok.grow {M : Mach} (h : M.ok) {n : Int} (hn : M.hasB n = true) {l : List Itm} (hl : (M.part n ++ l).length ≤ 4096) (hv : ∀ x ∈ l, valB x.val = true) : (Mach.mk (M.parts.set n.toNat (M.part n ++ l)) M.rules).ok := by
  refine ⟨by simpa using h.one, by simpa using h.four, ?_, ?_, ?_, h.keys⟩
  · intro x hx
    rcases List.mem_or_eq_of_mem_set hx with hx | rfl
    · exact h.long x hx
    · exact hl
  · intro x hx
    rcases List.mem_or_eq_of_mem_set hx with hx | rfl
    · exact h.vals x hx
    · intro y hy
      rcases List.mem_append.1 hy with hy | hy
      · exact h.vals _ (Mach.part_mem hn) y hy
      · exact hv y hy
  · intro p hp
    obtain ⟨h1, h2, h3, h4, h5⟩ := h.rules p hp
    refine ⟨h1, h2, by rw [Mach.has_set]; exact h3, by rw [Mach.has_set]; exact h4, ?_⟩
    rw [Mach.part_set]
    split
    · rename_i he
      have : M.part n = M.part p.2.1.inp := by simp [Mach.part, he.1]
      rw [List.length_append, this]; omega
    · exact h5
theorem Mach.ok.put {M : Mach} (h : M.ok) (n v : Int) : (M.putM n v).ok := by
  unfold Mach.putM
  split
  · rename_i h0
    unfold Mach.putNo at h0
    split at h0
    · rename_i h1
      split at h0
      · rename_i h2
        split at h0
        · cases h0
        · rename_i h3
          exact h.grow h1 (by simp; omega) (by simpa using h2)
      · cases h0
    · cases h0
  · exact h
theorem Mach.ok.rule {M : Mach} (h : M.ok) (r : Rule) : (M.ruleM r).ok := by
  unfold Mach.ruleM
  split
  · rename_i h0
    simp only [Mach.ruleB, Bool.and_eq_true] at h0
    refine ⟨h.one, h.four, h.long, h.vals, ?_, nodup_aput h.keys⟩
    intro p hp
    rcases mem_aput hp with rfl | hp
    · exact ⟨rfl, h0.1.1.2, h0.1.2, h0.2, Nat.zero_le _⟩
    · exact h.rules p hp
  · exact h
theorem make_val (r : Rule) (v : Int) : valB (make r v) = true := by
  unfold make
  split
  · have h1 : -2147483648 ≤ mk r v := by unfold mk; omega
    have h2 : mk r v ≤ 2147483647 := by unfold mk; omega
    simp [valB, h1, h2]
  · rfl
theorem madeBy_len (q : Rule × Nat) (id : Int) (l : List Itm) : (madeBy q id l).length = l.length := by simp [madeBy]
theorem Mach.ok.round {M : Mach} (h : M.ok) (id most : Int) : (M.roundM id most).ok := by
  unfold Mach.roundM
  cases hq : akey M.rules id with
  | none => exact h
  | some q =>
    simp only []
    split
    · rename_i h0
      have hm := h.rules _ (akey_mem hq)
      obtain ⟨h1, h2, h3, h4, h5⟩ := hm
      simp only [Mach.roundNo, hq] at h0
      have hlen : (M.part q.1.out).length + (M.left q most).length ≤ 4096 := by
        split at h0
        · cases h0
        · split at h0
          · cases h0
          · split at h0
            · cases h0
            · omega
      have hg := h.grow (n := q.1.out) h4 (l := madeBy q id (M.left q most)) (by simpa [madeBy_len] using hlen) (by
        intro x hx
        simp only [madeBy, List.mem_mapIdx] at hx
        obtain ⟨i, hi, rfl⟩ := hx
        exact make_val _ _)
      refine ⟨hg.one, hg.four, hg.long, hg.vals, ?_, nodup_aput h.keys⟩
      intro p hp
      rcases mem_aput hp with rfl | hp
      · refine ⟨h1, h2, by rw [Mach.has_set]; exact h3, by rw [Mach.has_set]; exact h4, ?_⟩
        have hll : (M.left q most).length ≤ (M.part q.1.inp).length - q.2 := by simp [Mach.left]; omega
        have h5' : q.2 ≤ (M.part q.1.inp).length := h5
        have hle : (M.part q.1.inp).length ≤ ((Mach.mk (M.parts.set q.1.out.toNat (M.part q.1.out ++ madeBy q id (M.left q most))) (aput M.rules id (q.1, q.2 + (M.left q most).length))).part q.1.inp).length := by
          rw [Mach.part_set]
          split
          · rename_i he
            have : M.part q.1.out = M.part q.1.inp := by simp [Mach.part, he.1]
            rw [List.length_append, this]; omega
          · exact Nat.le_refl _
        simp only
        omega
      · exact hg.rules p hp
    · exact h
/-- A machine at its beginning. -/
def Mach.new (n : Nat) : Mach := ⟨List.replicate n [], []⟩
theorem Mach.ok.new {n : Nat} (h1 : 1 ≤ n) (h4 : n ≤ 4) : (Mach.new n).ok := by
  refine ⟨by simpa [Mach.new] using h1, by simpa [Mach.new] using h4, ?_, ?_, by simp [Mach.new], by simp [Mach.new]⟩
  · intro l hl
    simp only [Mach.new, List.mem_replicate] at hl
    simp [hl.2]
  · intro l hl
    simp only [Mach.new, List.mem_replicate] at hl
    simp [hl.2]
end Go.Wst.Sm
