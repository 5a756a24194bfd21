/-
  How the ghosts grow by a choice; what is known to be committed, in plain Lean. No program is named here.
-/
import Derived.Test.YtdmafmlifadfoaaJ3
set_option linter.all false
namespace Go.Wst.Qm
open Go Go.Wst
/-- What stays of the ghosts. -/
structure Up (G G' : Gh) : Prop where
  a : ∀ i t k, G.A i t k → G'.A i t k
  l : ∀ T k, k ≤ (G.L T).length → (G'.L T).take k = (G.L T).take k
  ld : ∀ t c, G.ld t = some c → G'.ld t = some c
theorem Up.refl (G : Gh) : Up G G := ⟨fun _ _ _ h => h, fun _ _ _ => rfl, fun _ _ h => h⟩
theorem Up.of {G G' : Gh} {n : Nat} {t : Int} (h : Grow G G' n t) : Up G G' := ⟨h.a, h.l, h.ld⟩
theorem Up.trans {G G' G'' : Gh} (h : Up G G') (h' : Up G' G'') : Up G G'' := ⟨fun i t k e => h'.a i t k (h.a i t k e), fun T k hk => by
  have h1 := h.l T k hk
  have h2 : k ≤ (G'.L T).length := by
    have h3 := congrArg List.length h1
    rw [List.length_take, List.length_take] at h3
    omega
  exact (h'.l T k h2).trans h1, fun t c e => h'.ld t c (h.ld t c e)⟩
/-- A message comes. -/
theorem Inv.comeU {q : Qu} {G : Gh} (h : Inv q G) {m : Bl} (hm : BlI q.nodes.length q.tm G m) : ∃ G', Inv (q.come m) G' ∧ Up G G' := by
  have hto : m.to.toNat < q.nodes.length := by have := hm.ok.t.1; have := hm.ok.t.2; omega
  have e0 : q.node m.to = q.nd m.to.toNat := rfl
  unfold Qu.come
  simp only
  rw [e0]
  obtain ⟨x, hx⟩ : ∃ x, x = (if (q.nd m.to.toNat).term < m.term then (q.nd m.to.toNat).voter m.term else q.nd m.to.toNat) := ⟨_, rfl⟩
  rw [← hx]
  have hI : Inv (q.setN m.to.toNat x) G := by
    rw [hx]; split
    · exact h.voter hto hm.ok.t1
    · exact h.same hto
  have hxt : (q.nd m.to.toNat).term ≤ x.term ∧ m.term ≤ x.term := by
    rw [hx]; split
    · exact ⟨(voter_term _ _).1, (voter_term _ _).2.1⟩
    · omega
  have hl := len_setN q m.to.toNat x
  have hnd : (q.setN m.to.toNat x).nd m.to.toNat = x := by rw [nd_setN q hto, if_pos rfl]
  have hm' : BlI (q.setN m.to.toNat x).nodes.length (q.setN m.to.toNat x).tm G m := by
    rw [hl]
    refine hm.grow (.refl G 0 _) fun i => ?_
    unfold Qu.tm
    rw [nd_setN q hto]
    by_cases e : i = m.to.toNat
    · rw [if_pos e, e]; exact hxt.1
    · rw [if_neg e]; exact Int.le_refl _
  have hnd' : x = (q.setN m.to.toNat x).nd m.to.toNat := hnd.symm
  by_cases h1 : m.kind = 1
  · rw [if_pos h1]
    obtain ⟨G', h2, hgq⟩ := hI.asked hm' h1
    rw [hnd] at h2
    exact ⟨G', h2, .of hgq⟩
  rw [if_neg h1]
  by_cases h2 : m.kind = 2
  · rw [if_pos h2]
    obtain ⟨G', h3, hgq⟩ := hI.voted hm' h2
    rw [hnd] at h3
    exact ⟨G', h3, .of hgq⟩
  rw [if_neg h2]
  by_cases h3 : m.kind = 3
  · rw [if_pos h3]
    obtain ⟨G', h4, hgq⟩ := hI.more hm' h3 (by rw [hnd]; exact hxt.2)
    rw [hnd] at h4
    exact ⟨G', h4, .of hgq⟩
  rw [if_neg h3]
  have h4 := hI.matched hm' (by have := hm.ok.k; omega)
  rw [hnd] at h4
  exact ⟨G, h4, .refl G⟩
/-- A message is taken out of the bag, or stays. -/
theorem Inv.pickedU {q : Qu} {G : Gh} (h : Inv q G) (p : Pk) : ∃ G', Inv (q.picked p).1 G' ∧ Up G G' := by
  unfold Qu.picked
  simp only
  by_cases h0 : q.bag = []
  · rw [if_pos h0]; exact ⟨G, h, .refl G⟩
  rw [if_neg h0]
  have hlen : 0 < q.bag.length := List.length_pos_iff.2 h0
  have hat : (p.a % q.bag.length).toNat < q.bag.length := by
    have h1 := Int.emod_nonneg p.a (b := (q.bag.length : Int)) (by omega)
    have h2 := Int.emod_lt_of_pos p.a (b := (q.bag.length : Int)) (by omega)
    omega
  have hm : q.bag.getD (p.a % q.bag.length).toNat Bl.zero ∈ q.bag := by
    rw [List.getD_eq_getElem?_getD, List.getElem?_eq_getElem hat]
    exact List.getElem_mem _
  obtain ⟨q1, hq1⟩ : ∃ q1 : Qu, q1 = if p.kind ≠ 6 then ⟨q.nodes, q.bag.eraseIdx (p.a % q.bag.length).toNat⟩ else q := ⟨_, rfl⟩
  have hI : Inv q1 G ∧ q1.nodes = q.nodes := by
    rw [hq1]
    split
    · exact ⟨⟨h.odd, h.nd, fun x hx => h.bg x (List.mem_of_mem_eraseIdx hx), by show (q.bag.eraseIdx _).length ≤ 256; have := h.bl; rw [List.length_eraseIdx]; split <;> omega, h.safe, h.ldT, h.ld1⟩, rfl⟩
    · exact ⟨h, rfl⟩
  rw [← hq1]
  by_cases h7 : p.kind = 7
  · rw [if_pos h7]; exact ⟨G, hI.1, .refl G⟩
  rw [if_neg h7]
  have e2 : q1.tm = q.tm := by unfold Qu.tm Qu.nd; rw [hI.2]
  exact hI.1.comeU (by rw [hI.2, e2]; exact h.bg _ hm)
/-- A node seeks. -/
theorem Inv.seekU {q : Qu} {G : Gh} (h : Inv q G) {n : Int} (hn : q.has n) : ∃ G', Inv (q.seek n).1 G' ∧ Up G G' := by
  have hn' : n.toNat < q.nodes.length := by have := hn.1; have := hn.2; omega
  have hx := h.nd _ hn'
  have h5 := h.odd.2
  have e0 : q.node n = q.nd n.toNat := rfl
  unfold Qu.seek
  simp only
  rw [e0]
  by_cases h1 : (q.nd n.toNat).role = 3
  · rw [if_pos h1]; exact ⟨G, h, .refl G⟩
  rw [if_neg h1]
  by_cases h2 : top ≤ (q.nd n.toNat).term
  · rw [if_pos h2]; exact ⟨G, h, .refl G⟩
  rw [if_neg h2]
  have ht0 := hx.ok.t0
  have hvt : ((q.nd n.toNat).voter ((q.nd n.toNat).term + 1)).term = (q.nd n.toNat).term + 1 := if_pos (by omega)
  obtain ⟨y, hy⟩ : ∃ y : Nd, y = { (q.nd n.toNat).voter ((q.nd n.toNat).term + 1) with role := 2, vote := n, votes := falses.set n.toNat true } := ⟨_, rfl⟩
  rw [← hy]
  have hyt : y.term = (q.nd n.toNat).term + 1 := by rw [hy]; exact hvt
  have hyl : y.log = (q.nd n.toNat).log := by rw [hy]; rfl
  have hgr : Grow G (G.addS n.toNat ((q.nd n.toNat).term + 1) (q.nd n.toNat).log) n.toNat (q.tm n.toNat) := by
    refine ⟨fun _ _ _ h => .inl h, fun i t c hi e => e.elim id (fun e => absurd e.1 hi), fun _ _ _ h => h, fun _ _ _ => rfl, fun _ _ h => h, fun _ _ _ h => h, fun t i hi => if_neg (fun e => hi e.2), fun t ht => if_neg (fun e => ?_), fun _ _ _ _ => rfl⟩
    have e1 := e.1
    have ht' : t ≤ (q.nd n.toNat).term := ht
    omega
  have hs := h.safe.seek (n := n.toNat) (T := (q.nd n.toNat).term + 1) hn' (show (q.nd n.toNat).term < _ by omega)
  have hv := NdI.voter h hn' (t := (q.nd n.toNat).term + 1) (by have := hx.ok.t1; unfold top at *; omega)
  have hget : ∀ k, (falses.set n.toNat true).getD k false = if k = n.toNat then true else false := fun k => by
    rw [List.getD_eq_getElem?_getD, List.getElem?_set]
    by_cases e : n.toNat = k
    · have h6 : n.toNat < falses.length := by show n.toNat < 5; omega
      rw [if_pos e, if_pos h6, if_pos e.symm]; rfl
    · rw [if_neg e, if_neg (fun e2 => e e2.symm), ← List.getD_eq_getElem?_getD]; exact falses_get k
  have hI : Inv (q.setN n.toNat y) (G.addS n.toNat ((q.nd n.toNat).term + 1) (q.nd n.toNat).log) := by
    refine h.put hn' hgr (by show (q.nd n.toNat).term ≤ y.term; omega) ?_ ?_ fun t' e => ?_
    · rw [hy]
      refine ⟨⟨hv.ok.t0, hv.ok.t1, (by show -1 ≤ n; have := hn.1; omega), hn.2, (by show (1 : Int) ≤ 2 ∧ (2 : Int) ≤ 3; decide), hv.ok.ll, hv.ok.lt, hv.ok.lm, hv.ok.c0, hv.ok.c1, (by simp [falses]), rfl, rfl, (fun e => absurd rfl e), fun k hk => ?_, fun _ => ⟨rfl, rfl⟩, hv.ok.nb, hv.ok.mb, fun _ c hc => ?_⟩, fun c e => ?_, fun c e => ?_, fun _ => ⟨fun e => ?_, ?_, fun i hi => ?_, ?_⟩, (fun e => by cases (show (2 : Int) = 3 from e)), ?_⟩
      · show (falses.set n.toNat true).getD k false = false
        rw [hget, if_neg (by omega)]
      · show c.term < ((q.nd n.toNat).voter ((q.nd n.toNat).term + 1)).term
        rw [hvt]; have := (hx.ok.lt c hc).2; omega
      · show n = c
        rcases e with e | ⟨_, _, e⟩
        · have h3 := (h.safe.vT _ _ _ e).2
          have h3' : ((q.nd n.toNat).voter ((q.nd n.toNat).term + 1)).term ≤ (q.nd n.toNat).term := h3
          omega
        · have := hn.1; omega
      · have e' : n = c := e
        exact .inr ⟨rfl, hvt, by omega⟩
      · have e' : G.ld ((q.nd n.toNat).voter ((q.nd n.toNat).term + 1)).term = some n.toNat := e
        rw [hvt] at e'
        have h3 : (q.nd n.toNat).term + 1 ≤ (q.nd n.toNat).term := (h.ldT _ _ e').2
        omega
      · show (if ((q.nd n.toNat).voter ((q.nd n.toNat).term + 1)).term = (q.nd n.toNat).term + 1 ∧ n.toNat = n.toNat then _ else _) = _
        rw [if_pos ⟨hvt, rfl⟩]
        rfl
      · have hi' : (falses.set n.toNat true).getD i false = true := hi
        rw [hget] at hi'
        by_cases e : i = n.toNat
        · exact .inr ⟨e, hvt, rfl⟩
        · rw [if_neg e] at hi'; cases hi'
      · show 1 ≤ ((q.nd n.toNat).voter ((q.nd n.toNat).term + 1)).term
        omega
      · exact hx.cm.mono (by show (q.nd n.toNat).term ≤ ((q.nd n.toNat).voter ((q.nd n.toNat).term + 1)).term; omega) rfl hgr.a hgr.l
    · rw [hyt, hyl]
      have e1 : (fun i => if i = n.toNat then (q.nd n.toNat).log else q.lg i) = q.lg := same_lg rfl
      rw [e1]
      exact hs
    · have h3 : t' ≤ (q.nd n.toNat).term := (h.ldT t' _ e).2
      omega
  have hl := len_setN q n.toNat y
  have hnd : (q.setN n.toNat y).nd n.toNat = y := by rw [nd_setN q hn', if_pos rfl]
  have htm : (q.setN n.toNat y).tm n.toNat = y.term := by unfold Qu.tm; rw [hnd]
  obtain ⟨G', h9, hg⟩ := hI.leads (n := n.toNat) (by rw [hl]; exact hn')
  rw [hnd, setN_setN, hl] at h9
  rw [htm] at hg
  have hsame : (y.leads q.nodes.length n.toNat).term = y.term ∧ (y.leads q.nodes.length n.toNat).log = y.log := by unfold Nd.leads; split <;> exact ⟨rfl, rfl⟩
  have hl2 := len_setN q n.toNat (y.leads q.nodes.length n.toNat)
  refine ⟨G', h9.sendAll _ _ fun i hi => ?_, (Up.of hgr).trans (.of hg)⟩
  rw [hl2]
  unfold others at hi
  obtain ⟨hi1, hi2⟩ := List.mem_filter.1 hi
  obtain ⟨j, hj, hje⟩ := List.mem_map.1 hi1
  have hj' : j < q.nodes.length := by simpa using hj
  have hine : i ≠ n := by simpa using hi2
  have hok := (h9.nd n.toNat (by rw [hl2]; exact hn')).ok
  rw [nd_setN q hn', if_pos rfl, hl2] at hok
  have htm2 : (q.setN n.toNat (y.leads q.nodes.length n.toNat)).tm n.toNat = y.term := by unfold Qu.tm; rw [nd_setN q hn', if_pos rfl]; exact hsame.1
  have hCC : G'.C y.term n.toNat = y.log := by
    rw [hg.cn _ (Int.le_refl _), hyt, hyl]
    exact if_pos ⟨rfl, rfl⟩
  refine ⟨⟨by show (1 : Int) ≤ 1 ∧ (1 : Int) ≤ 4; decide, hn, by show 0 ≤ i ∧ i < (q.nodes.length : Int); omega, fun e => hine e.symm, hok.t0, hok.t1, Int.le_refl _, by show (0 : Int) + 0 ≤ 256; decide, Nat.zero_le _, (fun c hc => by cases hc), List.Pairwise.nil, Int.le_refl _, fun _ => rfl⟩, fun _ => ⟨?_, ?_, ?_⟩, (fun e => by cases (show (1 : Int) = 2 from e)), (fun e => by cases (show (1 : Int) = 3 from e)), (fun e => by cases (show (1 : Int) = 4 from e))⟩
  · show (y.leads q.nodes.length n.toNat).term ≤ _
    rw [htm2, hsame.1]
    exact Int.le_refl _
  · show ofT (y.leads q.nodes.length n.toNat).log = ofT (G'.C (y.leads q.nodes.length n.toNat).term n.toNat)
    rw [hsame.1, hsame.2, hCC]
  · show ((y.leads q.nodes.length n.toNat).log.length : Int) = ((G'.C (y.leads q.nodes.length n.toNat).term n.toNat).length : Int)
    rw [hsame.1, hsame.2, hCC]
/-- A choice. -/
theorem Inv.stepU {q : Qu} {G : Gh} (h : Inv q G) (p : Pk) : ∃ G', Inv (q.step p).1 G' ∧ Up G G' := by
  unfold Qu.step
  split
  · next h0 =>
    split
    · exact h.seekU h0.2.2
    split
    · obtain ⟨G', h1, hg⟩ := h.take h0.2.2; exact ⟨G', h1, .of hg⟩
    split
    · exact ⟨G, h.give h0.2.2, .refl G⟩
    · exact ⟨G, h.crash h0.2.2, .refl G⟩
  · split
    · exact h.pickedU p
    · exact ⟨G, h, .refl G⟩
end Go.Wst.Qm
