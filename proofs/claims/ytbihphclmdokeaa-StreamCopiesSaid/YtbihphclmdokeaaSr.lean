/-
  The document's machine in plain Lean, and that it goes along with the stream's machine. No program is named here.
-/
import Derived.Test.YtbihphclmdokeaaSm
set_option linter.all false
namespace Go.Wst.Sm
/-- The document's machine. -/
structure RefM where
  parts : List (List Itm)
  rows : List (Rule × Nat)
def RefM.at_ (R : RefM) (id : Int) : Int := idx (fun q => decide (q.1.id = id)) R.rows
def RefM.hasB (R : RefM) (n : Int) : Bool := decide (0 ≤ n) && decide (n < (R.parts.length : Int))
def RefM.part (R : RefM) (n : Int) : List Itm := (R.parts[n.toNat]?).getD []
structure RefM.ok (R : RefM) : Prop where
  four : R.parts.length ≤ 4
  long : ∀ l ∈ R.parts, l.length ≤ 4096
  vals : ∀ l ∈ R.parts, ∀ x ∈ l, valB x.val = true
  rows : ∀ q ∈ R.rows, mayB q.1 = true ∧ R.hasB q.1.inp = true ∧ R.hasB q.1.out = true ∧ q.2 ≤ (R.part q.1.inp).length
  few : R.rows.length ≤ 1000
def RefM.ruleB (R : RefM) (r : Rule) : Bool := mayB r && !decide (0 ≤ R.at_ r.id) && !decide ((R.parts.length : Int) ≤ r.inp) && !decide ((R.parts.length : Int) ≤ r.out)
def insStep (r : Rule) (s : List (Rule × Nat) × Bool) (q : Rule × Nat) : List (Rule × Nat) × Bool := if s.2 = false ∧ r.id < q.1.id then (s.1 ++ [(r, 0)] ++ [q], true) else (s.1 ++ [q], s.2)
def insRun (r : Rule) (l : List (Rule × Nat)) : List (Rule × Nat) × Bool := l.foldl (insStep r) ([], false)
def insFin (r : Rule) (l : List (Rule × Nat)) : List (Rule × Nat) := if (insRun r l).2 = true then (insRun r l).1 else (insRun r l).1 ++ [(r, 0)]
theorem insRun_snoc (r : Rule) (l : List (Rule × Nat)) (q : Rule × Nat) : insRun r (l ++ [q]) = insStep r (insRun r l) q := by simp [insRun]
theorem insRun_len (r : Rule) (l : List (Rule × Nat)) : (insRun r l).1.length ≤ l.length + 1 ∧ ((insRun r l).2 = false → (insRun r l).1.length = l.length) := by
  have key : ∀ (l : List (Rule × Nat)) (s : List (Rule × Nat) × Bool), (s.2 = true → True) → ((l.foldl (insStep r) s).2 = false → (l.foldl (insStep r) s).1.length = s.1.length + l.length ∧ s.2 = false) ∧ (s.2 = true → (l.foldl (insStep r) s).1.length = s.1.length + l.length) ∧ (l.foldl (insStep r) s).1.length ≤ s.1.length + l.length + 1 := by
    intro l
    induction l with
    | nil => intro s _; simp
    | cons q l ih =>
      intro s _
      rw [List.foldl_cons]
      obtain ⟨h1, h2, h3⟩ := ih (insStep r s q) (fun _ => trivial)
      unfold insStep at *
      by_cases hc : s.2 = false ∧ r.id < q.1.id
      · rw [if_pos hc] at *
        simp only [List.length_append, List.length_cons, List.length_nil] at *
        have := h2 trivial
        refine ⟨fun h => ?_, fun h => ?_, by omega⟩
        · have := (h1 h).2; cases this
        · rw [hc.1] at h; cases h
      · rw [if_neg hc] at *
        simp only [List.length_append, List.length_cons, List.length_nil] at *
        refine ⟨fun h => ⟨by have := (h1 h).1; omega, (h1 h).2⟩, fun h => by have := h2 h; omega, by omega⟩
  obtain ⟨h1, h2, h3⟩ := key l ([], false) (fun h => trivial)
  exact ⟨by simpa [insRun] using h3, fun h => by simpa [insRun] using (h1 h).1⟩
def RefM.ruleR (R : RefM) (r : Rule) : RefM := if R.ruleB r = true then { R with rows := insFin r R.rows } else R
def RefM.with_ (R : RefM) (n : Int) (x : Itm) : RefM := { R with parts := R.parts.set n.toNat (R.part n ++ [x]) }
def RefM.putNo (R : RefM) (part v : Int) : Int := if R.hasB part = true then (if valB v = true then (if 4096 ≤ (R.part part).length then 3 else 0) else 2) else 4
def RefM.putR (R : RefM) (part v : Int) : RefM := if R.putNo part v = 0 then R.with_ part ⟨v, -1, -1⟩ else R
def RefM.left (R : RefM) (q : Rule × Nat) (most : Int) : List Itm := ((R.part q.1.inp).drop q.2).take most.toNat
def RefM.find (R : RefM) (id : Int) : Option (Rule × Nat) := R.rows.find? (fun q => decide (q.1.id = id))
def RefM.roundNo (R : RefM) (id most : Int) : Int := match R.find id with
  | none => 5
  | some q => if most < 0 then 2 else if (R.left q most).length = 0 then 5 else if 4096 < (R.part q.1.out).length + (R.left q most).length then 3 else 0
def RefM.roundN (R : RefM) (id most : Int) : Nat := match R.find id with
  | none => 0
  | some q => if R.roundNo id most = 0 then (R.left q most).length else 0
def RefM.roundR (R : RefM) (id most : Int) : RefM := match R.find id with
  | none => R
  | some q => if R.roundNo id most = 0 then ⟨R.parts.set q.1.out.toNat (R.part q.1.out ++ madeBy q id (R.left q most)), R.rows.set (R.at_ id).toNat (q.1, q.2 + (R.left q most).length)⟩ else R
def RefM.made (R : RefM) (id : Int) : List Int := (R.parts.flatten.filter (fun x => decide (x.rule = id))).map (fun x => x.val)

/-! ### along with the stream's -/
def srt {α : Type} (l : List (Int × α)) : List (Int × α) := l.mergeSort (fun x y => decide (x.1 ≤ y.1))
theorem srt_perm {α : Type} (l : List (Int × α)) : (srt l).Perm l := List.mergeSort_perm l _
theorem srt_pair {α : Type} (l : List (Int × α)) : (srt l).Pairwise (fun x y => x.1 ≤ y.1) := by
  have := List.pairwise_mergeSort (le := fun (x y : Int × α) => decide (x.1 ≤ y.1)) (by intro x y z; simp; omega) (by intro x y; simp; omega) l
  simpa [srt] using this
theorem srt_uniq {α : Type} {l m : List (Int × α)} (hp : m.Perm l) (hs : m.Pairwise (fun x y => x.1 ≤ y.1)) (hn : (l.map (·.1)).Nodup) : m = srt l := by
  refine List.Perm.eq_of_pairwise (le := fun x y => x.1 ≤ y.1) ?_ hs (srt_pair l) (hp.trans (srt_perm l).symm)
  intro x y hx hy h1 h2
  have he : x.1 = y.1 := Int.le_antisymm h1 h2
  have hx' : x ∈ l := hp.mem_iff.1 hx
  have hy' : y ∈ l := (srt_perm l).mem_iff.1 hy
  obtain ⟨i, hi, rfl⟩ := List.mem_iff_getElem.1 hx'
  obtain ⟨j, hj, rfl⟩ := List.mem_iff_getElem.1 hy'
  have : i = j := nodup_at hn (by simpa using hi) (by simpa using hj) (by simpa using he)
  subst this
  rfl
theorem srt_keys {α : Type} (l : List (Int × α)) : (srt l).map (·.1) = (l.map (·.1)).mergeSort (fun x y => decide (x ≤ y)) :=
  List.map_mergeSort (fun _ _ _ _ => rfl)
theorem srt_map {α β : Type} (f : Int × α → Int × β) (hf : ∀ p, (f p).1 = p.1) (l : List (Int × α)) : srt (l.map f) = (srt l).map f :=
  (List.map_mergeSort (fun a _ b _ => by simp [hf])).symm
/-- The machine that the document has in its place. -/
def refOf (M : Mach) : RefM := ⟨M.parts, (srt M.rules).map (·.2)⟩
theorem refOf_hasB (M : Mach) (n : Int) : (refOf M).hasB n = M.hasB n := rfl
theorem refOf_part (M : Mach) (n : Int) : (refOf M).part n = M.part n := rfl
theorem len_rules_ {M : Mach} (hok : M.ok) : M.rules.length ≤ 4 := by
  have h : ∀ k ∈ M.rules.map (·.1), k ∈ ([0, 1, 2, 3] : List Int) := by
    intro k hk
    obtain ⟨p, hp, rfl⟩ := List.mem_map.1 hk
    obtain ⟨h1, h2, _⟩ := hok.rules p hp
    rw [← h1]
    simp only [mayB, Bool.and_eq_true, decide_eq_true_eq] at h2
    have := h2.1.1.1.1.1
    simp; omega
  have := List.Nodup.length_le_of_subset hok.keys h
  simpa using this
theorem rows_of {M : Mach} (hok : M.ok) : ∀ p ∈ srt M.rules, p.2.1.id = p.1 := fun p hp => (hok.rules p ((srt_perm _).mem_iff.1 hp)).1
theorem refOf_ok {M : Mach} (hok : M.ok) : (refOf M).ok := by
  refine ⟨hok.four, hok.long, hok.vals, ?_, ?_⟩
  · intro q hq
    obtain ⟨p, hp, rfl⟩ := List.mem_map.1 hq
    obtain ⟨h1, h2, h3, h4, h5⟩ := hok.rules p ((srt_perm _).mem_iff.1 hp)
    exact ⟨h2, h3, h4, h5⟩
  · have h := (srt_perm M.rules).length_eq
    have := len_rules_ hok
    simp only [refOf, List.length_map]
    omega
theorem find_srt {M : Mach} (hok : M.ok) (id : Int) : (refOf M).find id = akey M.rules id := by
  cases ha : akey M.rules id with
  | none =>
    simp only [RefM.find, refOf]
    rw [List.find?_eq_none]
    intro q hq
    obtain ⟨p, hp, rfl⟩ := List.mem_map.1 hq
    have h1 := rows_of hok p hp
    have h2 : p ∈ M.rules := (srt_perm _).mem_iff.1 hp
    intro he
    have he' : p.2.1.id = id := by simpa using he
    unfold akey at ha
    simp only [Option.map_eq_none_iff, List.find?_eq_none] at ha
    exact ha p h2 (by simp; omega)
  | some q =>
    have hm := akey_mem ha
    have hm2 : (id, q) ∈ srt M.rules := (srt_perm _).mem_iff.2 hm
    have hq : q ∈ (refOf M).rows := List.mem_map.2 ⟨_, hm2, rfl⟩
    have hid : q.1.id = id := rows_of hok _ hm2
    simp only [RefM.find]
    cases hf : (refOf M).rows.find? (fun q => decide (q.1.id = id)) with
    | none =>
      rw [List.find?_eq_none] at hf
      exact absurd (by simpa using hid) (hf q hq)
    | some q' =>
      have h1 := List.find?_some hf
      have h2 := List.mem_of_find?_eq_some hf
      obtain ⟨p, hp, rfl⟩ := List.mem_map.1 h2
      have h3 := rows_of hok p hp
      have h4 : p ∈ M.rules := (srt_perm _).mem_iff.1 hp
      obtain ⟨i, hi, hie⟩ := List.mem_iff_getElem.1 h4
      obtain ⟨j, hj, hje⟩ := List.mem_iff_getElem.1 hm
      have : i = j := nodup_at hok.keys (by simpa using hi) (by simpa using hj) (by
        simp only [List.getElem_map, hie, hje]
        have : p.2.1.id = id := by simpa using h1
        omega)
      subst this
      rw [hie] at hje
      rw [hje]
theorem at_find (R : RefM) (id : Int) : (R.find id = none ∧ R.at_ id = -1) ∨ ∃ (k : Nat) (h : k < R.rows.length), R.find id = some R.rows[k] ∧ R.at_ id = (k : Int) ∧ R.rows[k].1.id = id := by
  rcases idx_cases (fun q : Rule × Nat => decide (q.1.id = id)) R.rows with ⟨h1, h2⟩ | ⟨k, hk, h1, h2, h3⟩
  · refine .inl ⟨?_, h1⟩
    rw [RefM.find, List.find?_eq_none]
    intro q hq
    simpa using h2 q hq
  · refine .inr ⟨k, hk, ?_, h1, by simpa using h2⟩
    rw [RefM.find, List.find?_eq_some_iff_getElem]
    refine ⟨h2, k, hk, rfl, fun j hj => ?_⟩
    have := h3 R.rows[j] (by rw [List.mem_iff_getElem]; exact ⟨j, by simp; omega, by simp⟩)
    simpa using this
theorem at_neg {M : Mach} (hok : M.ok) (id : Int) : decide (0 ≤ (refOf M).at_ id) = (akey M.rules id).isSome := by
  rw [← find_srt hok]
  rcases at_find (refOf M) id with ⟨h1, h2⟩ | ⟨k, hk, h1, h2, _⟩
  · rw [h1, h2]; rfl
  · rw [h1, h2]; simp
theorem ruleB_ref {M : Mach} (hok : M.ok) (r : Rule) : (refOf M).ruleB r = M.ruleB r := by
  have e := at_neg hok r.id
  have e2 : (refOf M).parts = M.parts := rfl
  rw [Bool.eq_iff_iff, RefM.ruleB, Mach.ruleB, e, e2]
  simp only [Mach.hasB, Bool.and_eq_true, Bool.not_eq_true', decide_eq_true_eq, decide_eq_false_iff_not]
  constructor
  · rintro ⟨⟨⟨h1, h2⟩, h3⟩, h4⟩
    have h1' := h1
    simp only [mayB, Bool.and_eq_true, decide_eq_true_eq] at h1'
    refine ⟨⟨⟨h2, h1⟩, ?_⟩, ?_⟩ <;> omega
  · rintro ⟨⟨⟨h1, h2⟩, h3⟩, h4⟩
    refine ⟨⟨⟨h2, h1⟩, ?_⟩, ?_⟩ <;> omega
/-- Into a rising list, by key. -/
def insK {α : Type} (k : Int) (v : α) : List (Int × α) → List (Int × α)
  | [] => [(k, v)]
  | p :: l => if k < p.1 then (k, v) :: p :: l else p :: insK k v l
theorem insK_perm {α : Type} (k : Int) (v : α) : ∀ l : List (Int × α), (insK k v l).Perm (l ++ [(k, v)])
  | [] => List.Perm.refl _
  | p :: l => by
    unfold insK
    split
    · exact (List.perm_append_singleton (k, v) (p :: l)).symm
    · exact (insK_perm k v l).cons p
theorem insK_pair {α : Type} (k : Int) (v : α) : ∀ l : List (Int × α), l.Pairwise (fun x y => x.1 ≤ y.1) → (insK k v l).Pairwise (fun x y => x.1 ≤ y.1)
  | [], _ => by simp [insK]
  | p :: l, h => by
    unfold insK
    rw [List.pairwise_cons] at h
    split
    · rename_i hk
      rw [List.pairwise_cons]
      refine ⟨fun q hq => ?_, List.pairwise_cons.2 h⟩
      rcases List.mem_cons.1 hq with rfl | hq
      · simp only; omega
      · have := h.1 q hq; simp only; omega
    · rename_i hk
      rw [List.pairwise_cons]
      refine ⟨fun q hq => ?_, insK_pair k v l h.2⟩
      rcases List.mem_append.1 ((insK_perm k v l).mem_iff.1 hq) with hq | hq
      · exact h.1 q hq
      · simp only [List.mem_singleton] at hq
        subst hq
        simp only; omega
theorem insFin_K (r : Rule) (l : List (Int × Rule × Nat)) (hl : ∀ p ∈ l, p.2.1.id = p.1) : insFin r (l.map (·.2)) = (insK r.id (r, 0) l).map (·.2) := by
  have done : ∀ (l : List (Rule × Nat)) (acc : List (Rule × Nat)), l.foldl (insStep r) (acc, true) = (acc ++ l, true) := by
    intro l
    induction l with
    | nil => intro acc; simp
    | cons q l ih => intro acc; rw [List.foldl_cons]; simp [insStep, ih]
  have key : ∀ (l : List (Int × Rule × Nat)) (acc : List (Rule × Nat)), (∀ p ∈ l, p.2.1.id = p.1) →
      (if ((l.map (·.2)).foldl (insStep r) (acc, false)).2 = true then ((l.map (·.2)).foldl (insStep r) (acc, false)).1 else ((l.map (·.2)).foldl (insStep r) (acc, false)).1 ++ [(r, 0)]) = acc ++ (insK r.id (r, 0) l).map (·.2) := by
    intro l
    induction l with
    | nil => intro acc _; simp [insK]
    | cons p l ih =>
      intro acc h
      have hp := h p (List.mem_cons_self ..)
      rw [List.map_cons, List.foldl_cons]
      by_cases hk : r.id < p.1
      · have e : insStep r (acc, false) p.2 = (acc ++ [(r, 0)] ++ [p.2], true) := by rw [insStep, if_pos ⟨rfl, by rw [hp]; exact hk⟩]
        rw [e, done]
        simp [insK, hk]
      · have e : insStep r (acc, false) p.2 = (acc ++ [p.2], false) := by rw [insStep, if_neg (by rw [hp]; exact fun h => hk h.2)]
        rw [e, ih _ (fun q hq => h q (List.mem_cons_of_mem _ hq))]
        simp [insK, hk]
  have := key l [] hl
  rw [List.nil_append] at this
  exact this
theorem rule_ref {M : Mach} (hok : M.ok) (r : Rule) : (refOf M).ruleR r = refOf (M.ruleM r) := by
  rw [RefM.ruleR, Mach.ruleM, ruleB_ref hok]
  split
  · rename_i h
    simp only [Mach.ruleB, Bool.and_eq_true, Bool.not_eq_true'] at h
    have hnone := h.1.1.1
    have hany : M.rules.any (fun p => decide (p.1 = r.id)) = false := by
      rw [List.any_eq_false]
      intro p hp
      have : akey M.rules p.1 ≠ none := by
        unfold akey
        intro hn
        simp only [Option.map_eq_none_iff, List.find?_eq_none] at hn
        exact hn p hp (by simp)
      intro he
      have he' : p.1 = r.id := by simpa using he
      rw [he'] at this
      rw [Option.isSome_eq_false_iff, Option.isNone_iff_eq_none] at hnone
      exact this hnone
    have hnd : ((aput M.rules r.id (r, 0)).map (·.1)).Nodup := nodup_aput hok.keys
    rw [aput_none _ hany] at hnd ⊢
    have h2 : insK r.id (r, 0) (srt M.rules) = srt (M.rules ++ [(r.id, (r, 0))]) :=
      srt_uniq ((insK_perm _ _ _).trans ((srt_perm M.rules).append_right _)) (insK_pair _ _ _ (srt_pair _)) hnd
    simp only [refOf, RefM.mk.injEq, true_and]
    rw [insFin_K r _ (rows_of hok), h2]
  · rfl
theorem put_ref (M : Mach) (part v : Int) : (refOf M).putNo part v = M.putNo part v ∧ (refOf M).putR part v = refOf (M.putM part v) := by
  have e : (refOf M).putNo part v = M.putNo part v := rfl
  refine ⟨e, ?_⟩
  rw [RefM.putR, Mach.putM, e]
  split <;> rfl
theorem set_map {l : List (Rule × Nat)} {k : Nat} {v : Rule × Nat} (h : k < l.length) (hn : (l.map (fun q => q.1.id)).Nodup) (hv : v.1.id = l[k].1.id) : l.set k v = l.map (fun q => if q.1.id = v.1.id then v else q) := by
  apply List.ext_getElem?
  intro m
  rw [List.getElem?_set, List.getElem?_map]
  by_cases hm : k = m
  · subst hm; simp [h, hv]
  · rw [if_neg hm]
    cases hp : l[m]? with
    | none => rfl
    | some q =>
      obtain ⟨hml, he⟩ := List.getElem?_eq_some_iff.1 hp
      have hne : q.1.id ≠ v.1.id := fun e => hm (nodup_at hn (by simpa using h) (by simpa using hml) (by simp only [List.getElem_map]; rw [he, e, hv]))
      simp [hne]
theorem round_ref {M : Mach} (hok : M.ok) (id most : Int) : (refOf M).roundNo id most = M.roundNo id most ∧ (refOf M).roundN id most = M.roundN id most ∧ (refOf M).roundR id most = refOf (M.roundM id most) := by
  have e1 : (refOf M).roundNo id most = M.roundNo id most := by rw [RefM.roundNo, Mach.roundNo, find_srt hok]; rfl
  have e2 : (refOf M).roundN id most = M.roundN id most := by rw [RefM.roundN, Mach.roundN, find_srt hok, e1]; rfl
  refine ⟨e1, e2, ?_⟩
  rw [RefM.roundR, Mach.roundM, e1]
  rcases at_find (refOf M) id with ⟨h1, h2⟩ | ⟨k, hk, h1, h2, h3⟩
  · have h4 := h1
    rw [find_srt hok] at h4
    rw [h1, h4]
  · have h4 := h1
    rw [find_srt hok] at h4
    rw [h1, h4]
    simp only []
    split
    · generalize hv : ((refOf M).rows[k].1, (refOf M).rows[k].2 + (M.left (refOf M).rows[k] most).length) = v
      have hv1 : v.1.id = (refOf M).rows[k].1.id := by rw [← hv]
      have hl : (refOf M).left (refOf M).rows[k] most = M.left (refOf M).rows[k] most := rfl
      rw [hl, hv, h2]
      simp only [Int.toNat_natCast]
      have hnd : ((refOf M).rows.map (fun q => q.1.id)).Nodup := by
        have e : (refOf M).rows.map (fun q => q.1.id) = (srt M.rules).map (·.1) := by
          simp only [refOf, List.map_map]
          exact List.map_congr_left (fun p hp => rows_of hok p hp)
        rw [e]
        exact ((srt_perm M.rules).map (·.1)).nodup_iff.2 hok.keys
      rw [set_map hk hnd hv1]
      have hany : M.rules.any (fun p => decide (p.1 = id)) = true := by
        have := akey_mem h4
        exact List.any_eq_true.2 ⟨_, this, by simp⟩
      have hs : srt (aput M.rules id v) = (srt M.rules).map (fun p => if p.1 = id then (id, v) else p) := by
        rw [aput, if_pos hany]
        exact srt_map _ (fun p => by split <;> simp_all) _
      simp only [refOf, RefM.mk.injEq]
      refine ⟨rfl, ?_⟩
      rw [hs, List.map_map, List.map_map]
      apply List.map_congr_left
      intro p hp
      have := rows_of hok p hp
      have h5 : v.1.id = id := hv1.trans h3
      simp only [Function.comp, this, h5]
      split <;> rfl
    · rfl

/-! ### what a rule made lies in one partition, as the fold of what went in -/
structure Mach.ok2 (M : Mach) : Prop where
  home : ∀ (i : Nat) (l : List Itm) (x : Itm), M.parts[i]? = some l → x ∈ l → x.rule = -1 ∨ ∃ q, akey M.rules x.rule = some q ∧ q.1.out = (i : Int)
  once : ∀ p ∈ M.rules, (M.part p.2.1.out).filter (fun x => decide (x.rule = p.1)) = madeBy (p.2.1, 0) p.1 ((M.part p.2.1.inp).take p.2.2)
theorem flatten_one {α : Type} : ∀ (L : List (List α)) (i : Nat), (∀ j l, L[j]? = some l → j ≠ i → l = []) → L.flatten = (L[i]?).getD []
  | [], i, _ => by simp
  | l :: L, 0, h => by
    have : L.flatten = [] := by
      rw [List.flatten_eq_nil_iff]
      intro m hm
      obtain ⟨j, hj, rfl⟩ := List.mem_iff_getElem.1 hm
      exact h (j + 1) _ (by simp [hj]) (by omega)
    simp [this]
  | l :: L, i + 1, h => by
    have h0 : l = [] := h 0 l rfl (by omega)
    have ih := flatten_one L i (fun j m hj hne => h (j + 1) m (by simpa using hj) (by omega))
    simp [h0, ih]
theorem made_ref {M : Mach} (hok : M.ok) (h2 : M.ok2) {id : Int} {q : Rule × Nat} (hq : akey M.rules id = some q) : (refOf M).made id = ((M.part q.1.out).filter (fun x => decide (x.rule = id))).map (fun x => x.val) := by
  obtain ⟨_, _, _, h4, _⟩ := hok.rules _ (akey_mem hq)
  have h0 : 0 ≤ id := by
    obtain ⟨h1, h2, _⟩ := hok.rules _ (akey_mem hq)
    simp only [mayB, Bool.and_eq_true, decide_eq_true_eq] at h2
    have := h2.1.1.1.1.1
    simp only at h1
    omega
  have e : M.parts.flatten.filter (fun x => decide (x.rule = id)) = (M.part q.1.out).filter (fun x => decide (x.rule = id)) := by
    rw [List.filter_flatten]
    rw [flatten_one _ q.1.out.toNat]
    · rw [List.getElem?_map, Mach.part]
      cases M.parts[q.1.out.toNat]? <;> simp
    · intro j l hj hne
      rw [List.getElem?_map] at hj
      cases hp : M.parts[j]? with
      | none => simp [hp] at hj
      | some m =>
        simp only [hp, Option.map_some, Option.some.injEq] at hj
        subst hj
        rw [List.filter_eq_nil_iff]
        intro x hx hr
        have hr' : x.rule = id := by simpa using hr
        rcases h2.home j m x hp hx with h | ⟨q', h5, h6⟩
        · omega
        · rw [hr', hq] at h5
          cases h5
          omega
  rw [RefM.made, refOf, e]
theorem ok2_new (n : Nat) : (Mach.new n).ok2 := by
  refine ⟨?_, by simp [Mach.new]⟩
  intro i l x hl hx
  simp only [Mach.new, List.getElem?_replicate] at hl
  split at hl
  · cases hl; cases hx
  · cases hl
theorem akey_aput {α : Type} {l : List (Int × α)} {k j : Int} {v : α} : akey (aput l k v) j = if j = k then some v else akey l j := by
  by_cases hj : j = k
  · subst hj
    rw [if_pos rfl]
    unfold aput
    split
    · rename_i h
      unfold akey
      induction l with
      | nil => simp at h
      | cons p l ih =>
        by_cases hp : p.1 = j
        · simp [hp]
        · have h' : l.any (fun p => decide (p.1 = j)) = true := by simpa [hp] using h
          have := ih h'
          simp only [List.map_cons, hp, if_false, List.find?_cons, decide_false]
          exact this
    · rename_i h
      have hn : akey l j = none := by
        unfold akey
        simp only [Option.map_eq_none_iff, List.find?_eq_none]
        intro p hp he
        exact h (List.any_eq_true.2 ⟨p, hp, he⟩)
      unfold akey at hn ⊢
      simp only [Option.map_eq_none_iff] at hn
      rw [List.find?_append, hn]
      simp
  · rw [if_neg hj]
    have hkj : ¬ k = j := fun e => hj e.symm
    unfold aput
    split
    · unfold akey
      induction l with
      | nil => rfl
      | cons p l ih =>
        by_cases hp : p.1 = j
        · have : ¬ p.1 = k := fun e => hj (hp.symm.trans e)
          simp [hp, hj]
        · simp only [List.map_cons, List.find?_cons]
          have h1 : ¬ (if p.1 = k then (k, v) else p).1 = j := by split <;> simp_all
          rw [decide_eq_false h1, decide_eq_false hp]
          by_cases hany : l.any (fun p => decide (p.1 = k)) = true
          · exact ih hany
          · have : l.map (fun p => if p.1 = k then (k, v) else p) = l := by
              conv => rhs; rw [← List.map_id l]
              apply List.map_congr_left
              intro q hq
              have : ¬ q.1 = k := fun e => hany (List.any_eq_true.2 ⟨q, hq, by simpa using e⟩)
              simp [this]
            rw [this]
    · unfold akey
      rw [List.find?_append]
      simp [hkj]
theorem ok2_rule {M : Mach} (hok : M.ok) (h : M.ok2) (r : Rule) : (M.ruleM r).ok2 := by
  unfold Mach.ruleM
  split
  · rename_i h0
    simp only [Mach.ruleB, Bool.and_eq_true, Bool.not_eq_true'] at h0
    have hnone := h0.1.1.1
    rw [Option.isSome_eq_false_iff, Option.isNone_iff_eq_none] at hnone
    refine ⟨?_, ?_⟩
    · intro i l x hl hx
      rcases h.home i l x hl hx with h1 | ⟨q, h1, h2⟩
      · exact .inl h1
      · refine .inr ⟨q, ?_, h2⟩
        rw [akey_aput, if_neg]
        · exact h1
        · intro e; rw [e, hnone] at h1; cases h1
    · intro p hp
      rcases mem_aput hp with rfl | hp
      · simp only [List.take_zero, madeBy, List.mapIdx_nil]
        rw [List.filter_eq_nil_iff]
        intro x hx hr
        have hr' : x.rule = r.id := by simpa using hr
        have hpart : M.parts[r.out.toNat]? = some (M.part r.out) := Mach.part_eq h0.2
        rcases h.home _ _ x hpart hx with h1 | ⟨q, h1, h2⟩
        · have := h0.1.1.2
          simp only [mayB, Bool.and_eq_true, decide_eq_true_eq] at this
          have := this.1.1.1.1.1
          omega
        · rw [hr', hnone] at h1; cases h1
      · exact h.once p hp
  · exact h
theorem ok2_put {M : Mach} (hok : M.ok) (h : M.ok2) (n v : Int) : (M.putM n v).ok2 := by
  unfold Mach.putM
  split
  · rename_i h0
    have hh : M.hasB n = true := by
      unfold Mach.putNo at h0
      split at h0
      · assumption
      · cases h0
    have hlt : n.toNat < M.parts.length := by simp [Mach.hasB] at hh; omega
    refine ⟨?_, ?_⟩
    · intro i l x hl hx
      simp only [List.getElem?_set] at hl
      by_cases hi : n.toNat = i
      · subst hi
        rw [if_pos rfl, if_pos hlt] at hl
        cases hl
        rcases List.mem_append.1 hx with hx | hx
        · exact h.home _ _ x (Mach.part_eq hh) hx
        · simp only [List.mem_singleton] at hx
          subst hx
          exact .inl rfl
      · rw [if_neg hi] at hl
        exact h.home i l x hl hx
    · intro p hp
      obtain ⟨h1, h2, h3, h4, h5⟩ := hok.rules p hp
      have hid : 0 ≤ p.1 := by
        simp only [mayB, Bool.and_eq_true, decide_eq_true_eq] at h2
        have := h2.1.1.1.1.1
        omega
      have ho := h.once p hp
      have hf : ¬ (-1 : Int) = p.1 := by omega
      have ein : ((Mach.mk (M.parts.set n.toNat (M.part n ++ [⟨v, -1, -1⟩])) M.rules).part p.2.1.inp).take p.2.2 = (M.part p.2.1.inp).take p.2.2 := by
        rw [Mach.part_set]
        split
        · rename_i he
          have : M.part n = M.part p.2.1.inp := by simp [Mach.part, he.1]
          rw [this, List.take_append_of_le_length h5]
        · rfl
      have eout : ((Mach.mk (M.parts.set n.toNat (M.part n ++ [⟨v, -1, -1⟩])) M.rules).part p.2.1.out).filter (fun x => decide (x.rule = p.1)) = (M.part p.2.1.out).filter (fun x => decide (x.rule = p.1)) := by
        rw [Mach.part_set]
        split
        · rename_i he
          have : M.part n = M.part p.2.1.out := by simp [Mach.part, he.1]
          rw [this, List.filter_append]
          simp [hf]
        · rfl
      simp only [ein, eout]
      exact ho
  · exact h
theorem madeBy_snoc (r : Rule) (id : Int) (L : List Itm) (T n : Nat) (h : T ≤ L.length) : madeBy (r, 0) id (L.take T) ++ madeBy (r, T) id ((L.drop T).take n) = madeBy (r, 0) id (L.take (T + n)) := by
  have e : L.take (T + n) = L.take T ++ (L.drop T).take n := by rw [List.take_add]
  rw [e]
  unfold madeBy
  rw [List.mapIdx_append]
  congr 1
  have hl : (L.take T).length = T := by simp; omega
  rw [hl]
  congr 1
  funext i x
  congr 1
  simp
  omega
theorem madeBy_rule (q : Rule × Nat) (id : Int) (l : List Itm) : ∀ x ∈ madeBy q id l, x.rule = id := by
  intro x hx
  simp only [madeBy, List.mem_mapIdx] at hx
  obtain ⟨i, hi, rfl⟩ := hx
  rfl
theorem ok2_round {M : Mach} (hok : M.ok) (h : M.ok2) (id most : Int) : (M.roundM id most).ok2 := by
  unfold Mach.roundM
  cases hq : akey M.rules id with
  | none => exact h
  | some q =>
    simp only []
    split
    · rename_i hno
      obtain ⟨r1, r2, r3, r4, r5⟩ := hok.rules _ (akey_mem hq)
      simp only at r1 r2 r3 r4 r5
      have hlt : q.1.out.toNat < M.parts.length := by simp [Mach.hasB] at r4; omega
      have hll : (M.left q most).length ≤ (M.part q.1.inp).length - q.2 := by simp [Mach.left]; omega
      have hmay := r2
      simp only [mayB, Bool.and_eq_true, decide_eq_true_eq, Bool.not_eq_true', decide_eq_false_iff_not] at hmay
      refine ⟨?_, ?_⟩
      · intro i l x hl hx
        simp only [List.getElem?_set] at hl
        have lift : ∀ q' : Rule × Nat, akey M.rules x.rule = some q' → q'.1.out = (i : Int) → ∃ q'', akey (aput M.rules id (q.1, q.2 + (M.left q most).length)) x.rule = some q'' ∧ q''.1.out = (i : Int) := by
          intro q' h1 h2
          rw [akey_aput]
          by_cases he : x.rule = id
          · rw [if_pos he]
            rw [he, hq] at h1
            cases h1
            exact ⟨_, rfl, h2⟩
          · rw [if_neg he]; exact ⟨q', h1, h2⟩
        by_cases hi : q.1.out.toNat = i
        · subst hi
          rw [if_pos rfl, if_pos hlt] at hl
          cases hl
          rcases List.mem_append.1 hx with hx | hx
          · rcases h.home _ _ x (Mach.part_eq r4) hx with h1 | ⟨q', h1, h2⟩
            · exact .inl h1
            · exact .inr (lift q' h1 h2)
          · have hr := madeBy_rule _ _ _ x hx
            exact .inr (lift q (by rw [hr]; exact hq) (by simp [Mach.hasB] at r4; omega))
        · rw [if_neg hi] at hl
          rcases h.home i l x hl hx with h1 | ⟨q', h1, h2⟩
          · exact .inl h1
          · exact .inr (lift q' h1 h2)
      · intro p hp
        rcases mem_aput hp with rfl | hp
        · have ho := h.once _ (akey_mem hq)
          simp only at ho
          have ein : (Mach.mk (M.parts.set q.1.out.toNat (M.part q.1.out ++ madeBy q id (M.left q most))) (aput M.rules id (q.1, q.2 + (M.left q most).length))).part q.1.inp = M.part q.1.inp := by
            rw [Mach.part_set, if_neg (by omega)]
          have eout : (Mach.mk (M.parts.set q.1.out.toNat (M.part q.1.out ++ madeBy q id (M.left q most))) (aput M.rules id (q.1, q.2 + (M.left q most).length))).part q.1.out = M.part q.1.out ++ madeBy q id (M.left q most) := by
            rw [Mach.part_set, if_pos ⟨rfl, hlt⟩]
          have hfil : (madeBy q id (M.left q most)).filter (fun x => decide (x.rule = id)) = madeBy q id (M.left q most) := by
            rw [List.filter_eq_self]
            intro x hx
            simpa using madeBy_rule _ _ _ x hx
          simp only [ein, eout, List.filter_append, ho, hfil]
          have h9 := madeBy_snoc q.1 id (M.part q.1.inp) q.2 (M.left q most).length r5
          have e9 : ((M.part q.1.inp).drop q.2).take (M.left q most).length = M.left q most := by
            simp only [Mach.left, List.length_take]
            rw [List.take_eq_take_min]
            conv => rhs; rw [List.take_eq_take_min]
            congr 1
            simp only [List.length_drop]
            omega
          rw [e9] at h9
          exact h9
        · by_cases hpid : p.1 = id
          · -- the key is there once
            rename_i hp2
            have : p ∈ aput M.rules id (q.1, q.2 + (M.left q most).length) := hp2
            have h1 := akey_mem hq
            obtain ⟨i, hi, hie⟩ := List.mem_iff_getElem.1 hp
            obtain ⟨j, hj, hje⟩ := List.mem_iff_getElem.1 h1
            have hij : i = j := nodup_at hok.keys (by simpa using hi) (by simpa using hj) (by simp only [List.getElem_map, hie, hje, hpid])
            subst hij
            rw [hie] at hje
            subst hje
            exfalso
            have hnd : ((aput M.rules id (q.1, q.2 + (M.left q most).length)).map (·.1)).Nodup := nodup_aput hok.keys
            obtain ⟨a, ha, hae⟩ := List.mem_iff_getElem.1 this
            have h2 : akey (aput M.rules id (q.1, q.2 + (M.left q most).length)) id = some (q.1, q.2 + (M.left q most).length) := by rw [akey_aput, if_pos rfl]
            obtain ⟨c, hc, hce⟩ := List.mem_iff_getElem.1 (akey_mem h2)
            have hac : a = c := nodup_at hnd (by simpa using ha) (by simpa using hc) (by simp only [List.getElem_map, hae, hce])
            subst hac
            rw [hae] at hce
            simp only [Prod.mk.injEq, true_and] at hce
            have hnz : (M.left q most).length = 0 := by
              have := congrArg (·.2) hce
              simp only at this
              omega
            simp only [Mach.roundNo, hq] at hno
            split at hno
            · cases hno
            · first | cases hno | (rw [if_pos hnz] at hno; cases hno)
          · obtain ⟨p1, p2, p3, p4, p5⟩ := hok.rules p hp
            have ho := h.once p hp
            have ein : ((Mach.mk (M.parts.set q.1.out.toNat (M.part q.1.out ++ madeBy q id (M.left q most))) (aput M.rules id (q.1, q.2 + (M.left q most).length))).part p.2.1.inp).take p.2.2 = (M.part p.2.1.inp).take p.2.2 := by
              rw [Mach.part_set]
              split
              · rename_i he
                have : M.part q.1.out = M.part p.2.1.inp := by simp [Mach.part, he.1]
                rw [this, List.take_append_of_le_length p5]
              · rfl
            have eout : ((Mach.mk (M.parts.set q.1.out.toNat (M.part q.1.out ++ madeBy q id (M.left q most))) (aput M.rules id (q.1, q.2 + (M.left q most).length))).part p.2.1.out).filter (fun x => decide (x.rule = p.1)) = (M.part p.2.1.out).filter (fun x => decide (x.rule = p.1)) := by
              rw [Mach.part_set]
              split
              · rename_i he
                have : M.part q.1.out = M.part p.2.1.out := by simp [Mach.part, he.1]
                rw [this, List.filter_append]
                have hfil : (madeBy q id (M.left q most)).filter (fun x => decide (x.rule = p.1)) = [] := by
                  rw [List.filter_eq_nil_iff]
                  intro x hx hr
                  have h1 := madeBy_rule _ _ _ x hx
                  have h2 : x.rule = p.1 := by simpa using hr
                  exact hpid (h2.symm.trans h1)
                rw [hfil, List.append_nil]
              · rfl
            simp only [ein, eout]
            exact ho
    · exact h
theorem ok2_pass {M : Mach} : ∀ (l : List Int), M.ok → M.ok2 → (M.pass l).1.ok ∧ (M.pass l).1.ok2 := by
  intro l
  induction l generalizing M with
  | nil => exact fun a b => ⟨a, b⟩
  | cons id l ih => exact fun a b => ih (a.round id 4096) (ok2_round a b id 4096)
theorem ok2_drain : ∀ (n : Nat) {M : Mach}, M.ok → M.ok2 → (M.drain n).1.ok ∧ (M.drain n).1.ok2
  | 0, M, a, b => ⟨a, b⟩
  | n + 1, M, a, b => by
    unfold Mach.drain
    obtain ⟨h1, h2⟩ := ok2_pass M.ids a b
    split
    · exact ⟨h1, h2⟩
    · exact ok2_drain n h1 h2
end Go.Wst.Sm
