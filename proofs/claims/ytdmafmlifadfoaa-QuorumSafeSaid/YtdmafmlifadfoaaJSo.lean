/-
  Entries' terms stay at or below the greatest term in which somebody led. No program is named here.
-/
import Derived.Test.YtdmafmlifadfoaaJSp
set_option linter.all false
namespace Go.Wst.Qm
open Go Go.Wst
theorem lay_mem {c : Cmd} : ∀ (l : List Cmd) (at_ : Nat) (log : List Cmd), c ∈ lay log at_ l → c ∈ log ∨ c ∈ l
  | [], _, _, h => .inl h
  | d :: l, at_, log, h => by
    unfold lay at h
    split at h
    · rcases lay_mem l (at_ + 1) log h with e | e
      · exact .inl e
      · exact .inr (List.mem_cons_of_mem _ e)
    · rcases List.mem_append.1 h with e | e
      · exact .inl (List.mem_of_mem_take e)
      · exact .inr e
section
variable {q : Qu} {t : Int}
theorem Seen.setN (h : Seen q t) (n : Nat) {y : Nd} (hy : ∀ c ∈ y.log, c.term ≤ t) : Seen (q.setN n y) t := ⟨fun x hx => by
  rcases List.mem_or_eq_of_mem_set hx with e | e
  · exact h.log x e
  · rw [e]; exact hy, h.bag⟩
theorem Seen.send (h : Seen q t) {m : Bl} (hm : ∀ c ∈ m.cmds, c.term ≤ t) : Seen (q.send m) t := by
  unfold Qu.send
  split
  · refine ⟨h.log, fun x hx => ?_⟩
    rcases List.mem_append.1 hx with e | e
    · exact h.bag x e
    · rw [List.mem_singleton.1 e]; exact hm
  · exact h
theorem Seen.node (h : Seen q t) (n : Int) : ∀ c ∈ (q.node n).log, c.term ≤ t := by
  unfold Qu.node
  rw [List.getD_eq_getElem?_getD]
  rcases Nat.lt_or_ge n.toNat q.nodes.length with e | e
  · rw [List.getElem?_eq_getElem e]; exact h.log _ (List.getElem_mem e)
  · rw [List.getElem?_eq_none e]; intro c hc; cases hc
theorem leads_log (x : Nd) (cnt n : Nat) : (x.leads cnt n).log = x.log := by unfold Nd.leads; split <;> rfl
theorem commits_log (x : Nd) (cnt : Nat) : (x.commits cnt).log = x.log := by unfold Nd.commits; simp only; split <;> rfl
theorem matched_log (x : Nd) (m : Bl) : (x.matched m).log = x.log := by unfold Nd.matched; split <;> rfl
theorem nil_cmds {P : Cmd → Prop} : ∀ c ∈ ([] : List Cmd), P c := fun c hc => by cases hc
theorem Seen.asked (h : Seen q t) (m : Bl) {x : Nd} (hx : ∀ c ∈ x.log, c.term ≤ t) : Seen (q.asked m x) t := by
  unfold Qu.asked
  refine (h.setN _ ?_).send nil_cmds
  split <;> exact hx
theorem Seen.voted (h : Seen q t) (m : Bl) {x : Nd} (hx : ∀ c ∈ x.log, c.term ≤ t) : Seen (q.voted m x) t := by
  unfold Qu.voted
  split
  · exact h.setN _ (by rw [leads_log]; exact hx)
  · exact h
theorem Seen.more (h : Seen q t) {m : Bl} {x : Nd} (hx : ∀ c ∈ x.log, c.term ≤ t) (hm : ∀ c ∈ m.cmds, c.term ≤ t) : Seen (q.more m x) t := by
  unfold Qu.more
  simp only
  split
  · exact h.send nil_cmds
  · split
    · refine Seen.send (h.setN _ (y := x.voter m.term) hx) ?_
      exact nil_cmds
    · refine Seen.send (h.setN _ fun c hc => ?_) nil_cmds
      rcases lay_mem _ _ _ hc with e | e
      · exact hx c e
      · exact hm c (List.mem_of_mem_take e)
theorem Seen.matched (h : Seen q t) (m : Bl) {x : Nd} (hx : ∀ c ∈ x.log, c.term ≤ t) : Seen (q.matched m x) t := by
  unfold Qu.matched
  split
  · exact h
  · exact h.setN _ (by rw [commits_log, matched_log]; exact hx)
theorem Seen.come (h : Seen q t) {m : Bl} (hm : ∀ c ∈ m.cmds, c.term ≤ t) : Seen (q.come m) t := by
  have hx : ∀ c ∈ (if (q.node m.to).term < m.term then (q.node m.to).voter m.term else q.node m.to).log, c.term ≤ t := by
    split
    · exact h.node m.to
    · exact h.node m.to
  unfold Qu.come
  simp only
  split
  · exact (h.setN _ hx).asked m hx
  split
  · exact (h.setN _ hx).voted m hx
  split
  · exact (h.setN _ hx).more hx hm
  · exact (h.setN _ hx).matched m hx
theorem Seen.sendAll (h : Seen q t) (l : List Int) (g : Int → Bl) (hg : ∀ i, (g i).cmds = []) : Seen (l.foldl (fun q i => q.send (g i)) q) t := by
  induction l generalizing q with
  | nil => exact h
  | cons a l ih =>
    rw [List.foldl_cons]
    exact ih (h.send (by rw [hg]; exact nil_cmds))
theorem Seen.seek (h : Seen q t) (n : Int) : Seen (q.seek n).1 t := by
  unfold Qu.seek
  simp only
  split
  · exact h
  split
  · exact h
  · refine (h.setN _ ?_).sendAll _ _ (fun _ => rfl)
    rw [leads_log]
    exact h.node n
theorem Seen.take (h : Seen q t) {p : Pk} (hl : (q.node p.a).role = 3 → (q.node p.a).term ≤ t) : Seen (q.take p).1 t := by
  unfold Qu.take
  simp only
  split
  · exact h
  split
  · exact h
  split
  · exact h
  · next h1 h2 h3 =>
    refine h.setN _ ?_
    rw [commits_log]
    intro c hc
    rcases List.mem_append.1 hc with e | e
    · exact h.node p.a c e
    · rw [List.mem_singleton.1 e]; exact hl (Classical.not_not.1 h2)
theorem Seen.give (h : Seen q t) (p : Pk) : Seen (q.give p).1 t := by
  unfold Qu.give
  simp only
  split
  · exact h
  split
  · exact h
  · exact h.send fun c hc => h.node p.a c (List.mem_of_mem_drop (List.mem_of_mem_take hc))
theorem Seen.picked (h : Seen q t) (p : Pk) : Seen (q.picked p).1 t := by
  unfold Qu.picked
  simp only
  split
  · exact h
  · have hm : ∀ c ∈ (q.bag.getD (p.a % q.bag.length).toNat Bl.zero).cmds, c.term ≤ t := by
      rw [List.getD_eq_getElem?_getD]
      rcases Nat.lt_or_ge (p.a % q.bag.length).toNat q.bag.length with e | e
      · rw [List.getElem?_eq_getElem e]; exact h.bag _ (List.getElem_mem e)
      · rw [List.getElem?_eq_none e]; exact nil_cmds
    have h1 : Seen (if p.kind ≠ 6 then ⟨q.nodes, q.bag.eraseIdx (p.a % q.bag.length).toNat⟩ else q) t := by
      split
      · exact ⟨h.log, fun m hm => h.bag m (List.mem_of_mem_eraseIdx hm)⟩
      · exact h
    split
    · exact h1
    · exact h1.come hm
/-- A choice makes no entry of a term in which nobody led. -/
theorem Seen.step (h : Seen q t) (p : Pk) (hl : ∀ x ∈ q.nodes, x.role = 3 → x.term ≤ t) : Seen (q.step p).1 t := by
  unfold Qu.step
  split
  · next h0 =>
    split
    · exact h.seek p.a
    split
    · exact h.take (hl _ (node_mem h0.2.2))
    split
    · exact h.give p
    · exact h.setN _ (h.node p.a)
  · split
    · exact h.picked p
    · exact h
end
theorem Seen.new (n : Nat) : Seen (Qu.new n) 0 := ⟨fun x hx => by
  have : x = Nd.new := List.eq_of_mem_replicate hx
  rw [this]; exact nil_cmds, fun m hm => by cases hm⟩
end Go.Wst.Qm
