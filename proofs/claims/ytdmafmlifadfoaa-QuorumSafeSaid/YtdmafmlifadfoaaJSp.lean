/-
  What is known to be committed: prefixes that were chosen; who leads in the greatest term has them. No program is named here.
-/
import Derived.Test.YtdmafmlifadfoaaJSx
set_option linter.all false
namespace Go.Wst.Qm
open Go Go.Wst
/-- A beginning of what was chosen. -/
def Pre (G : Gh) (cnt : Nat) (l : List Cmd) : Prop := l = [] ∨ ∃ T k, G.Chosen cnt T k ∧ l.length ≤ k ∧ l = (G.L T).take l.length
theorem Pre.up {G G' : Gh} {cnt : Nat} {l : List Cmd} (h : Pre G cnt l) (g : Up G G') : Pre G' cnt l := by
  rcases h with h | ⟨T, k, h1, h2, h3⟩
  · exact .inl h
  · obtain ⟨h4, h5⟩ := h1.mono g.a g.l
    refine .inr ⟨T, k, h4, h2, ?_⟩
    have h6 := congrArg (List.take l.length) h5
    rw [List.take_take, List.take_take, Nat.min_eq_left h2] at h6
    rw [h6]
    exact h3
/-- Two of them are alike as far as both go. -/
theorem Pre.comp {cnt : Nat} {tm : Nat → Int} {lg : Nat → List Cmd} {G : Gh} (s : Safe cnt tm lg G) {l l' : List Cmd} (h : Pre G cnt l) (h' : Pre G cnt l') (n : Nat) (hn : n ≤ l.length) (hn' : n ≤ l'.length) : l.take n = l'.take n := by
  rcases h with h | ⟨T, k, h1, h2, h3⟩
  · have : n = 0 := by rw [h] at hn; simpa using hn
    rw [this]; simp
  rcases h' with h' | ⟨T', k', h1', h2', h3'⟩
  · have : n = 0 := by rw [h'] at hn'; simpa using hn'
    rw [this]; simp
  have key : ∀ {T T' : Int} {k k' : Nat} {l l' : List Cmd}, T ≤ T' → G.Chosen cnt T k → l.length ≤ k → l = (G.L T).take l.length → G.Chosen cnt T' k' → l' = (G.L T').take l'.length → n ≤ l.length → n ≤ l'.length → l.take n = l'.take n := by
    intro T T' k k' l l' hT c1 c2 c3 d1 d3 e1 e2
    have h5 := congrArg (List.take n) (s.chosen_le c1 d1 hT)
    rw [List.take_take, List.take_take, Nat.min_eq_left (by omega)] at h5
    rw [c3, d3, List.take_take, List.take_take, Nat.min_eq_left e1, Nat.min_eq_left e2]
    exact h5.symm
  rcases Int.le_total T T' with hT | hT
  · exact key hT h1 h2 h3 h1' h3' hn hn'
  · exact (key hT h1' h2' h3' h1 h3 hn' hn).symm
theorem Inv.pre {q : Qu} {G : Gh} (h : Inv q G) {n : Nat} (hn : n < q.nodes.length) : Pre G q.nodes.length ((q.nd n).log.take (q.nd n).commit.toNat) := by
  have hx := h.nd n hn
  have hc0 := hx.ok.c0
  have hc1 := hx.ok.c1
  have hll : ((q.nd n).log.take (q.nd n).commit.toNat).length = (q.nd n).commit.toNat := by rw [List.length_take]; omega
  rcases hx.cm with e | ⟨T, k, _, h2, h3, h4⟩
  · exact .inl (by rw [e]; rfl)
  · refine .inr ⟨T, k, h2, by rw [hll]; omega, ?_⟩
    rw [hll]; exact h4
theorem Inv.pre_all {q : Qu} {G : Gh} (h : Inv q G) : Pre G q.nodes.length q.committed := by
  have key : ∀ (l : List Nd) (out : List Cmd), (∀ x ∈ l, x ∈ q.nodes) → Pre G q.nodes.length out → Pre G q.nodes.length (l.foldl (fun out x => if (out.length : Int) < x.commit then x.log.take x.commit.toNat else out) out) := by
    intro l
    induction l with
    | nil => exact fun _ _ h => h
    | cons x l ih =>
      intro out hl ho
      rw [List.foldl_cons]
      refine ih _ (fun y hy => hl y (List.mem_cons_of_mem _ hy)) ?_
      split
      · obtain ⟨n, hn, e⟩ := List.getElem_of_mem (hl x List.mem_cons_self)
        have e2 : q.nd n = x := by unfold Qu.nd; rw [List.getD_eq_getElem?_getD, List.getElem?_eq_getElem hn, e]; rfl
        rw [← e2]; exact h.pre hn
      · exact ho
  exact key q.nodes [] (fun _ h => h) (.inl rfl)
/-- No entry is of a later term. -/
structure Seen (q : Qu) (t : Int) : Prop where
  log : ∀ x ∈ q.nodes, ∀ c ∈ x.log, c.term ≤ t
  bag : ∀ m ∈ q.bag, ∀ c ∈ m.cmds, c.term ≤ t
theorem Seen.mono {q : Qu} {t t' : Int} (h : Seen q t) (ht : t ≤ t') : Seen q t' := ⟨fun x hx c hc => Int.le_trans (h.log x hx c hc) ht, fun m hm c hc => Int.le_trans (h.bag m hm c hc) ht⟩
/-- Who leads in a term that is not below any entry's has all that was chosen. -/
theorem Inv.has_all {q : Qu} {G : Gh} (h : Inv q G) {n : Nat} (hn : n < q.nodes.length) (hr : (q.nd n).role = 3) (hs : Seen q (q.nd n).term) {l : List Cmd} (hl : Pre G q.nodes.length l) : l.length ≤ (q.nd n).log.length ∧ (q.nd n).log.take l.length = l := by
  rcases hl with e | ⟨T, k, h1, h2, h3⟩
  · rw [e]; simp
  obtain ⟨hld, hlog, _⟩ := (h.nd n hn).l1 hr
  have hat := h1.1
  obtain ⟨S, hS, hA⟩ := h1.2
  have hTle : T ≤ (q.nd n).term := by
    obtain ⟨i, hi, hi'⟩ := hS.meet hS
    obtain ⟨hic, _, hik⟩ := h.safe.aT i T k (hA i hi)
    have hrt := h.safe.rt i T k (hA i hi) hat (fun T'' ht _ hne => h.safe.lc h1 T'' ht hne)
    obtain ⟨g1, g2⟩ := At_get hat
    have h5 : (q.lg i)[k - 1]? = (G.L T)[k - 1]? := by
      have h6 := congrArg (fun l : List Cmd => l[k - 1]?) hrt
      simpa [List.getElem?_take, show k - 1 < k from by have := hat.1; omega] using h6
    have h7 := hat.2
    rw [← h5] at h7
    obtain ⟨c, hc, hct⟩ := Option.map_eq_some_iff.1 h7
    have hmem : c ∈ (q.nd i).log := List.mem_of_getElem? hc
    have hnm : q.nd i ∈ q.nodes := by
      unfold Qu.nd; rw [List.getD_eq_getElem?_getD, List.getElem?_eq_getElem hic]; exact List.getElem_mem _
    have := hs.log _ hnm c hmem
    omega
  have hL : (G.L (q.nd n).term).take k = (G.L T).take k := by
    rcases Int.lt_or_eq_of_le hTle with e | e
    · exact h.safe.lc h1 _ e (by rw [hld]; exact fun e => nomatch e)
    · rw [e]
  have h6 := congrArg (List.take l.length) hL
  rw [List.take_take, List.take_take, Nat.min_eq_left h2, ← hlog, ← h3] at h6
  refine ⟨?_, h6⟩
  have h7 := congrArg List.length h6
  rw [List.length_take] at h7
  omega
end Go.Wst.Qm
