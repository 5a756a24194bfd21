/-
  The controller's plain model: views and writings, and what calls make of them. No program is named here.
-/
import Derived.Test.YtnjpladlfiaojaaXj
set_option linter.all false
namespace Go.Wst.Ct
open Go Go.Wst
abbrev most : Int := 2147483647
structure View where
  lead : Int
  epoch : Int
  ver : Int
  isr : List Int
deriving DecidableEq
structure Wr where
  ses : Int
  num : Int
  st : Int
  parts : List Int
  off : Int
  nxt : Int
deriving DecidableEq
structure Meta where
  nb : Nat
  np : Nat
  ni : Nat
  lives : List Bool
  views : List View
  wrs : List Wr
/-- Does a list rise within so many? -/
def Rises (n : Nat) (l : List Int) : Prop := l.Pairwise (· < ·) ∧ ∀ b ∈ l, 0 ≤ b ∧ b < n
instance (n : Nat) (l : List Int) : Decidable (Rises n l) := inferInstanceAs (Decidable (_ ∧ _))
structure View.ok (nb : Nat) (lives : List Bool) (v : View) : Prop where
  e0 : 0 ≤ v.epoch
  e1 : v.epoch ≤ most
  v0 : 0 ≤ v.ver
  v1 : v.ver ≤ most
  l0 : -1 ≤ v.lead
  l1 : v.lead < nb
  rise : Rises nb v.isr
  ne : v.isr ≠ []
  mem : 0 ≤ v.lead → v.lead ∈ v.isr
  live : ∀ k : Nat, v.lead = (k : Int) → lives[k]? = some true
structure Wr.ok (np : Nat) (w : Wr) : Prop where
  s0 : 0 ≤ w.ses
  s1 : w.ses ≤ most
  n0 : 0 ≤ w.num
  n1 : w.num ≤ most
  st : 1 ≤ w.st ∧ w.st ≤ 4
  rise : Rises np w.parts
  nop : w.st = 1 ↔ w.parts = []
  o0 : 0 ≤ w.off
  o1 : w.off ≤ most
  x0 : w.off ≤ w.nxt ∨ w.st ≠ 3
  x1 : w.nxt ≤ most
  x2 : 0 ≤ w.nxt
  x3 : w.st ≠ 3 → w.nxt = 0
structure Meta.ok (m : Meta) : Prop where
  b : 1 ≤ m.nb ∧ m.nb ≤ 4
  p : 1 ≤ m.np ∧ m.np ≤ 4
  i : 1 ≤ m.ni ∧ m.ni ≤ 4
  ll : m.lives.length = m.nb
  vl : m.views.length = m.np
  wl : m.wrs.length = m.ni
  vs : ∀ v ∈ m.views, v.ok m.nb m.lives
  ws : ∀ w ∈ m.wrs, w.ok m.np
/-- Is a number within? -/
def inN (k : Int) (n : Nat) : Prop := 0 ≤ k ∧ k < n
instance (k : Int) (n : Nat) : Decidable (inN k n) := inferInstanceAs (Decidable (_ ∧ _))
def upTo (n : Nat) : List Int := (List.range n).map (fun i : Nat => (i : Int))
def new (nb np ni : Nat) : Meta := ⟨nb, np, ni, List.replicate nb true, List.replicate np ⟨-1, 0, 0, upTo nb⟩, List.replicate ni ⟨0, 0, 1, [], 0, 0⟩⟩
def Meta.live (m : Meta) (b : Int) : Bool := m.lives.getD b.toNat false
def Meta.view (m : Meta) (p : Int) : View := m.views.getD p.toNat ⟨-1, 0, 0, []⟩
def Meta.wr (m : Meta) (i : Int) : Wr := m.wrs.getD i.toNat ⟨0, 0, 0, [], 0, 0⟩
def Meta.setL (m : Meta) (b : Int) (x : Bool) : Meta := { m with lives := m.lives.set b.toNat x }
def Meta.setV (m : Meta) (p : Int) (v : View) : Meta := { m with views := m.views.set p.toNat v }
def Meta.setW (m : Meta) (i : Int) (w : Wr) : Meta := { m with wrs := m.wrs.set i.toNat w }
def View.leaves (v : View) (b : Int) : Bool := decide (b ∈ v.isr) && decide (1 < v.isr.length)
def View.stuck (b : Int) (v : View) : Bool := (decide (v.lead = b) || v.leaves b) && (decide (v.ver = most) || decide (v.lead = b) && decide (v.epoch = most))
/-- A view behind a fence. -/
def View.fenced (b : Int) (v : View) : View :=
  if v.lead = b ∨ v.leaves b = true then ⟨if v.lead = b then -1 else v.lead, if v.lead = b then v.epoch + 1 else v.epoch, v.ver + 1, if v.leaves b then v.isr.filter (fun x => !decide (x = b)) else v.isr⟩ else v
def Meta.fence (m : Meta) (b : Int) : Meta × Int :=
  if ¬ inN b m.nb then (m, 2) else if m.views.any (View.stuck b) then (m, 204) else ({ m with lives := m.lives.set b.toNat false, views := m.views.map (View.fenced b) }, 0)
def Meta.register (m : Meta) (b : Int) : Meta × Int := if ¬ inN b m.nb then (m, 2) else (m.setL b true, 0)
def Meta.elect (m : Meta) (p b : Int) (unclean : Bool) : Meta × Int :=
  if ¬ inN p m.np ∨ ¬ inN b m.nb then (m, 2)
  else if m.live b = false then (m, 201)
  else if unclean = false ∧ b ∉ (m.view p).isr then (m, 202)
  else if (m.view p).epoch = most ∨ (m.view p).ver = most then (m, 204)
  else (m.setV p ⟨b, (m.view p).epoch + 1, (m.view p).ver + 1, if b ∈ (m.view p).isr then (m.view p).isr else [b]⟩, 0)
def Meta.alter (m : Meta) (p b n o : Int) (l : List Int) : Meta × Int :=
  if ¬ inN p m.np ∨ ¬ inN b m.nb ∨ ¬ Rises m.nb l ∨ b ∉ l then (m, 2)
  else if (m.view p).lead ≠ b ∨ (m.view p).epoch ≠ n ∨ (m.view p).ver ≠ o then (m, 200)
  else if l.any (fun x => !m.live x) then (m, 201)
  else if (m.view p).ver = most then (m, 204)
  else (m.setV p ⟨(m.view p).lead, (m.view p).epoch, (m.view p).ver + 1, l⟩, 0)
def Meta.init (m : Meta) (i : Int) : Meta × Int × Int :=
  if ¬ inN i m.ni then (m, 0, 2)
  else if 3 ≤ (m.wr i).st then (m, 0, 203)
  else if (m.wr i).ses = most then (m, 0, 204)
  else if (m.wr i).st = 2 then (m.setW i { m.wr i with ses := (m.wr i).ses + 1, st := 4 }, 0, 203)
  else (m.setW i { m.wr i with ses := (m.wr i).ses + 1 }, (m.wr i).ses + 1, 0)
/-- A rising list with a number. -/
def withP (n : Nat) (l : List Int) (p : Int) : List Int := (upTo n).filter (fun x => decide (x = p) || decide (x ∈ l))
def Meta.add (m : Meta) (i ses p : Int) : Meta × Int × Int :=
  if ¬ inN i m.ni ∨ ¬ inN p m.np then (m, 0, 2)
  else if (m.wr i).ses ≠ ses then (m, 0, 200)
  else if 3 ≤ (m.wr i).st then (m, 0, 203)
  else if (m.wr i).st = 1 then
    if (m.wr i).num = most then (m, 0, 204)
    else (m.setW i { m.wr i with num := (m.wr i).num + 1, st := 2, parts := withP m.np [] p }, (m.wr i).num + 1, 0)
  else (m.setW i { m.wr i with parts := withP m.np (m.wr i).parts p }, (m.wr i).num, 0)
def Meta.ends (m : Meta) (i ses : Int) (commit : Bool) (off : Int) : Meta × Int :=
  if ¬ inN i m.ni then (m, 2)
  else if off < 0 ∨ most < off ∨ off < (m.wr i).off then (m, 2)
  else if (m.wr i).ses ≠ ses then (m, 200)
  else if 3 ≤ (m.wr i).st then (m, 203)
  else if (m.wr i).st = 2 then (m.setW i (if commit then { m.wr i with st := 3, nxt := off } else { m.wr i with st := 4 }), 0)
  else (m.setW i (if commit then { m.wr i with off := off } else m.wr i), 0)
def Meta.marked (m : Meta) (i num p : Int) : Meta × Int :=
  if ¬ inN i m.ni ∨ ¬ inN p m.np then (m, 2)
  else if (m.wr i).num ≠ num ∨ (m.wr i).st < 3 ∨ p ∉ (m.wr i).parts then (m, 200)
  else
    let l := (m.wr i).parts.filter (fun x => !decide (x = p))
    (m.setW i (if l = [] then { m.wr i with parts := [], off := if (m.wr i).st = 3 then (m.wr i).nxt else (m.wr i).off, st := 1, nxt := 0 } else { m.wr i with parts := l }), 0)
structure Act where
  kind : Int
  a : Int
  b : Int
  n : Int
  o : Int
  flag : Bool
  near : Bool
  list : List Int
/-- What a call makes, the number it tells, its error. -/
def Meta.act (m : Meta) (a : Act) : Meta × Int × Int :=
  if a.kind = 1 then ((m.fence a.a).1, 0, (m.fence a.a).2)
  else if a.kind = 2 then ((m.register a.a).1, 0, (m.register a.a).2)
  else if a.kind = 3 then ((m.elect a.a a.b a.flag).1, 0, (m.elect a.a a.b a.flag).2)
  else if a.kind = 4 then ((m.alter a.a a.b a.n a.o a.list).1, 0, (m.alter a.a a.b a.n a.o a.list).2)
  else if a.kind = 5 then m.init a.a
  else if a.kind = 6 then m.add a.a a.n a.b
  else if a.kind = 7 then ((m.ends a.a a.n a.flag a.o).1, 0, (m.ends a.a a.n a.flag a.o).2)
  else if a.kind = 8 then ((m.marked a.a a.n a.b).1, 0, (m.marked a.a a.n a.b).2)
  else (m, 0, 0)
def smallN (k : Int) : Prop := -5 ≤ k ∧ k ≤ 5
instance (k : Int) : Decidable (smallN k) := inferInstanceAs (Decidable (_ ∧ _))
/-- An act whose numbers are told from those that count. -/
def Act.near' (a : Act) (m : Meta) : Act :=
  if a.near = false ∨ ¬ smallN a.n ∨ ¬ smallN a.o then a
  else if a.kind = 4 then if inN a.a m.np then { a with n := a.n + (m.view a.a).epoch, o := a.o + (m.view a.a).ver } else a
  else if 6 ≤ a.kind then if inN a.a m.ni then { a with o := a.o + (m.wr a.a).off, n := if a.kind = 8 then a.n + (m.wr a.a).num else a.n + (m.wr a.a).ses } else a
  else a
def Meta.does (m : Meta) (a : Act) : Meta := (m.act (a.near' m)).1
/-! ### what holds -/
theorem rises_tail {n : Nat} {l : List Int} {p : Int → Bool} (h : Rises n l) : Rises n (l.filter p) := ⟨h.1.sublist List.filter_sublist, fun b hb => h.2 b (List.mem_filter.1 hb).1⟩
theorem upTo_rises (n : Nat) : Rises n (upTo n) := by
  constructor
  · unfold upTo
    rw [List.pairwise_map]
    exact List.pairwise_lt_range.imp (fun h => by omega)
  · intro b hb
    obtain ⟨i, hi, rfl⟩ := List.mem_map.1 hb
    have := List.mem_range.1 hi
    omega
theorem mem_upTo {n : Nat} {x : Int} : x ∈ upTo n ↔ inN x n := by
  unfold upTo inN
  simp only [List.mem_map, List.mem_range]
  constructor
  · rintro ⟨i, hi, rfl⟩; omega
  · rintro ⟨h1, h2⟩; exact ⟨x.toNat, by omega, by omega⟩
theorem getD_mem {α : Type} {l : List α} {k : Nat} {d : α} (h : k < l.length) : l.getD k d ∈ l := by
  rw [List.getD_eq_getElem?_getD, List.getElem?_eq_getElem h]
  exact List.getElem_mem h
theorem Meta.ok.view {m : Meta} (h : m.ok) {p : Int} (hp : inN p m.np) : (m.view p).ok m.nb m.lives := h.vs _ (getD_mem (by have := h.vl; have := hp.1; have := hp.2; omega))
theorem Meta.ok.wr {m : Meta} (h : m.ok) {i : Int} (hi : inN i m.ni) : (m.wr i).ok m.np := h.ws _ (getD_mem (by have := h.wl; have := hi.1; have := hi.2; omega))
theorem mem_set {α : Type} {l : List α} {k : Nat} {x y : α} (h : y ∈ l.set k x) : y = x ∨ y ∈ l := by
  rcases List.mem_or_eq_of_mem_set h with h | h
  · exact .inr h
  · exact .inl h
theorem Meta.ok.setV {m : Meta} (h : m.ok) (p : Int) {v : View} (hv : v.ok m.nb m.lives) : (m.setV p v).ok :=
  ⟨h.b, h.p, h.i, h.ll, by show (m.views.set _ _).length = _; rw [List.length_set]; exact h.vl, h.wl, fun u hu => (mem_set hu).elim (fun e => e ▸ hv) (h.vs u), h.ws⟩
theorem Meta.ok.setW {m : Meta} (h : m.ok) (i : Int) {w : Wr} (hw : w.ok m.np) : (m.setW i w).ok :=
  ⟨h.b, h.p, h.i, h.ll, h.vl, by show (m.wrs.set _ _).length = _; rw [List.length_set]; exact h.wl, h.vs, fun u hu => (mem_set hu).elim (fun e => e ▸ hw) (h.ws u)⟩
theorem new_ok {nb np ni : Nat} (hb : 1 ≤ nb ∧ nb ≤ 4) (hp : 1 ≤ np ∧ np ≤ 4) (hi : 1 ≤ ni ∧ ni ≤ 4) : (new nb np ni).ok := by
  refine ⟨hb, hp, hi, by simp [new], by simp [new], by simp [new], ?_, ?_⟩
  · intro v hv
    have e : v = ⟨-1, 0, 0, upTo nb⟩ := (List.mem_replicate.1 hv).2
    subst e
    refine ⟨Int.le_refl 0, (by show (0 : Int) ≤ most; decide), Int.le_refl 0, (by show (0 : Int) ≤ most; decide), Int.le_refl (-1), by show (-1 : Int) < _; have : (new nb np ni).nb = nb := rfl; omega, upTo_rises nb, ?_, fun h => by simp at h, fun k h => by have : (-1 : Int) = (k : Int) := h; omega⟩
    intro e
    have h2 : (0 : Int) ∈ upTo nb := mem_upTo.2 ⟨by decide, by omega⟩
    have e' : upTo nb = [] := e
    rw [e'] at h2
    cases h2
  · intro w hw
    have e : w = ⟨0, 0, 1, [], 0, 0⟩ := (List.mem_replicate.1 hw).2
    subst e
    exact ⟨by decide, by decide, by decide, by decide, by decide, ⟨List.Pairwise.nil, nofun⟩, by simp, by decide, by decide, .inr (by decide), by decide, by decide, fun _ => rfl⟩
theorem live_at {m : Meta} (h : m.ok) {b : Int} (hb : inN b m.nb) : m.lives[b.toNat]? = some (m.live b) := by
  have : b.toNat < m.lives.length := by have := h.ll; have := hb.1; have := hb.2; omega
  rw [Meta.live, List.getD_eq_getElem?_getD, List.getElem?_eq_getElem this]
  rfl
theorem Meta.ok.fence {m : Meta} (h : m.ok) (b : Int) : (m.fence b).1.ok := by
  unfold Meta.fence
  split
  · exact h
  next hb =>
  split
  · exact h
  next hs =>
  have hb : inN b m.nb := Classical.not_not.1 hb
  refine ⟨h.b, h.p, h.i, by simp [h.ll], by simp [h.vl], h.wl, ?_, h.ws⟩
  intro u hu
  obtain ⟨v, hv, rfl⟩ := List.mem_map.1 hu
  have ho := h.vs v hv
  have hns : v.stuck b = false := by
    rw [Bool.not_eq_true, List.any_eq_false] at hs
    exact Bool.not_eq_true _ ▸ hs v hv
  have hlive : ∀ k : Nat, v.lead ≠ b → v.lead = (k : Int) → (m.lives.set b.toNat false)[k]? = some true := fun k hne e => by
    rw [List.getElem?_set_ne (by have := hb.1; omega)]
    exact ho.live k e
  show (v.fenced b).ok m.nb (m.lives.set b.toNat false)
  unfold View.fenced
  by_cases hc : v.lead = b ∨ v.leaves b = true
  · rw [if_pos hc]
    have hcc : (decide (v.lead = b) || v.leaves b) = true := by
      rcases hc with e | e
      · simp [e]
      · simp [e]
    rw [View.stuck, hcc, Bool.true_and, Bool.or_eq_false_iff] at hns
    have hv2 : v.ver ≠ most := of_decide_eq_false hns.1
    have he2 : v.lead = b → v.epoch ≠ most := fun e => by
      have h9 := hns.2
      rw [decide_eq_true e, Bool.true_and] at h9
      exact of_decide_eq_false h9
    have e0 := ho.e0; have e1 := ho.e1; have v0 := ho.v0; have v1 := ho.v1
    refine ⟨?_, ?_, ?_, ?_, ?_, ?_, ?_, ?_, ?_, ?_⟩
    · show 0 ≤ (if v.lead = b then v.epoch + 1 else v.epoch)
      split <;> omega
    · show (if v.lead = b then v.epoch + 1 else v.epoch) ≤ most
      split
      · next e => have := he2 e; omega
      · omega
    · show 0 ≤ v.ver + 1; omega
    · show v.ver + 1 ≤ most; omega
    · show -1 ≤ (if v.lead = b then -1 else v.lead)
      split
      · omega
      · exact ho.l0
    · show (if v.lead = b then -1 else v.lead) < _
      split
      · omega
      · exact ho.l1
    · show Rises m.nb (if v.leaves b then v.isr.filter (fun x => !decide (x = b)) else v.isr)
      split
      · exact rises_tail ho.rise
      · exact ho.rise
    · show (if v.leaves b then v.isr.filter (fun x => !decide (x = b)) else v.isr) ≠ []
      split
      · next hl =>
        have hl2 : 1 < v.isr.length := by
          simp [View.leaves] at hl; exact hl.2
        intro e
        have hall : ∀ x ∈ v.isr, x = b := by
          intro x hx
          rw [List.filter_eq_nil_iff] at e
          have := e x hx
          simpa using this
        match hq : v.isr, hl2 with
        | x :: y :: l, _ =>
          have hr := ho.rise.1
          rw [hq] at hr hall
          have h1 := hall x (by simp)
          have h2 := hall y (by simp)
          have h3 : x < y := (List.pairwise_cons.1 hr).1 y (by simp)
          omega
      · exact ho.ne
    · show 0 ≤ (if v.lead = b then -1 else v.lead) → (if v.lead = b then -1 else v.lead) ∈ (if v.leaves b then v.isr.filter (fun x => !decide (x = b)) else v.isr)
      split
      · intro h9; omega
      · next hne =>
        intro h9
        split
        · exact List.mem_filter.2 ⟨ho.mem h9, by simp [hne]⟩
        · exact ho.mem h9
    · intro k
      show (if v.lead = b then -1 else v.lead) = (k : Int) → _
      split
      · intro h9; omega
      · next hne => exact hlive k hne
  · rw [if_neg hc]
    exact ⟨ho.e0, ho.e1, ho.v0, ho.v1, ho.l0, ho.l1, ho.rise, ho.ne, ho.mem, fun k e => hlive k (fun e2 => hc (.inl e2)) e⟩
theorem Meta.ok.register {m : Meta} (h : m.ok) (b : Int) : (m.register b).1.ok := by
  unfold Meta.register
  split
  · exact h
  next hb =>
  refine ⟨h.b, h.p, h.i, by show (m.lives.set _ _).length = _; simp [h.ll]; rfl, h.vl, h.wl, fun v hv => ?_, h.ws⟩
  have ho := h.vs v hv
  refine ⟨ho.e0, ho.e1, ho.v0, ho.v1, ho.l0, ho.l1, ho.rise, ho.ne, ho.mem, fun k e => ?_⟩
  have h1 := ho.live k e
  show (m.lives.set b.toNat true)[k]? = _
  by_cases hk : b.toNat = k
  · subst hk
    have := (List.getElem?_eq_some_iff.1 h1).1
    rw [List.getElem?_set_self this]
  · rw [List.getElem?_set_ne hk]; exact h1
theorem Meta.ok.elect {m : Meta} (h : m.ok) (p b : Int) (u : Bool) : (m.elect p b u).1.ok := by
  unfold Meta.elect
  split
  · exact h
  next h1 =>
  split
  · exact h
  next h2 =>
  split
  · exact h
  next h3 =>
  split
  · exact h
  next h4 =>
  have hp : inN p m.np := Classical.byContradiction fun e => h1 (.inl e)
  have hb : inN b m.nb := Classical.byContradiction fun e => h1 (.inr e)
  have ho := h.view hp
  have hl : m.live b = true := by simpa using h2
  have h5 : (m.view p).epoch ≠ most := fun e => h4 (.inl e)
  have h6 : (m.view p).ver ≠ most := fun e => h4 (.inr e)
  have e0 := ho.e0; have e1 := ho.e1; have v0 := ho.v0; have v1 := ho.v1
  have hb1 := hb.1; have hb2 := hb.2
  refine h.setV p ⟨by show 0 ≤ (m.view p).epoch + 1; omega, by show (m.view p).epoch + 1 ≤ most; omega, by show 0 ≤ (m.view p).ver + 1; omega, by show (m.view p).ver + 1 ≤ most; omega, by show -1 ≤ b; omega, hb2, ?_, ?_, ?_, ?_⟩
  · show Rises m.nb (if b ∈ (m.view p).isr then (m.view p).isr else [b])
    split
    · exact ho.rise
    · exact ⟨List.pairwise_singleton _ _, fun x hx => by have e : x = b := by simpa using hx
                                                         subst e; exact hb⟩
  · show (if b ∈ (m.view p).isr then (m.view p).isr else [b]) ≠ []
    split
    · exact ho.ne
    · simp
  · intro _
    show b ∈ (if b ∈ (m.view p).isr then (m.view p).isr else [b])
    split
    · next hm => exact hm
    · simp
  · intro k e
    have e' : b = (k : Int) := e
    have := live_at h hb
    rw [hl, e'] at this
    simpa using this
theorem Meta.ok.alter {m : Meta} (h : m.ok) (p b n o : Int) (l : List Int) : (m.alter p b n o l).1.ok := by
  unfold Meta.alter
  split
  · exact h
  next h1 =>
  split
  · exact h
  next h2 =>
  split
  · exact h
  next h3 =>
  split
  · exact h
  next h4 =>
  have hp : inN p m.np := Classical.byContradiction fun e => h1 (.inl e)
  have hr : Rises m.nb l := Classical.byContradiction fun e => h1 (.inr (.inr (.inl e)))
  have hm : b ∈ l := Classical.byContradiction fun e => h1 (.inr (.inr (.inr e)))
  have hlb : (m.view p).lead = b := Classical.byContradiction fun e => h2 (.inl e)
  have ho := h.view hp
  have v0 := ho.v0; have v1 := ho.v1
  exact h.setV p ⟨ho.e0, ho.e1, by show 0 ≤ (m.view p).ver + 1; omega, by show (m.view p).ver + 1 ≤ most; omega, ho.l0, ho.l1, hr, (fun e => by have e' : l = [] := e; rw [e'] at hm; cases hm), fun _ => by show (m.view p).lead ∈ l; rw [hlb]; exact hm, ho.live⟩
theorem Meta.ok.init {m : Meta} (h : m.ok) (i : Int) : (m.init i).1.ok := by
  unfold Meta.init
  split
  · exact h
  next h1 =>
  split
  · exact h
  next h2 =>
  split
  · exact h
  next h3 =>
  have hi : inN i m.ni := Classical.not_not.1 h1
  have ho := h.wr hi
  have s0 := ho.s0; have s1 := ho.s1; have hst := ho.st
  split
  · next h4 =>
    refine h.setW i ⟨by show 0 ≤ (m.wr i).ses + 1; omega, by show (m.wr i).ses + 1 ≤ most; omega, ho.n0, ho.n1, ⟨by dsimp only; decide, by dsimp only; decide⟩, ho.rise, ⟨fun e => by have e' : (4 : Int) = 1 := e; omega, fun e => ?_⟩, ho.o0, ho.o1, .inr (by dsimp only; decide), ho.x1, ho.x2, fun _ => ho.x3 (by omega)⟩
    have := ho.nop.2 e
    omega
  · next h4 =>
    exact h.setW i ⟨by show 0 ≤ (m.wr i).ses + 1; omega, by show (m.wr i).ses + 1 ≤ most; omega, ho.n0, ho.n1, ho.st, ho.rise, ho.nop, ho.o0, ho.o1, ho.x0, ho.x1, ho.x2, ho.x3⟩
theorem withP_rises (n : Nat) (l : List Int) (p : Int) : Rises n (withP n l p) := rises_tail (upTo_rises n)
theorem withP_mem {n : Nat} {l : List Int} {p : Int} (hp : inN p n) : p ∈ withP n l p := List.mem_filter.2 ⟨mem_upTo.2 hp, by simp⟩
theorem Meta.ok.add {m : Meta} (h : m.ok) (i s p : Int) : (m.add i s p).1.ok := by
  unfold Meta.add
  split
  · exact h
  next h1 =>
  split
  · exact h
  next h2 =>
  split
  · exact h
  next h3 =>
  have hi : inN i m.ni := Classical.byContradiction fun e => h1 (.inl e)
  have hp : inN p m.np := Classical.byContradiction fun e => h1 (.inr e)
  have ho := h.wr hi
  have n0 := ho.n0; have n1 := ho.n1; have hst := ho.st
  have hne : ∀ l : List Int, withP m.np l p ≠ [] := fun l e => by have := withP_mem (l := l) hp; rw [e] at this; cases this
  split
  · next h4 =>
    split
    · exact h
    next h5 =>
    exact h.setW i ⟨ho.s0, ho.s1, by show 0 ≤ (m.wr i).num + 1; omega, by show (m.wr i).num + 1 ≤ most; omega, ⟨by dsimp only; decide, by dsimp only; decide⟩, withP_rises .., ⟨fun e => by have e' : (2 : Int) = 1 := e; omega, fun e => absurd e (hne _)⟩, ho.o0, ho.o1, .inr (by dsimp only; decide), ho.x1, ho.x2, fun _ => ho.x3 (by omega)⟩
  · next h4 =>
    exact h.setW i ⟨ho.s0, ho.s1, n0, n1, hst, withP_rises .., ⟨fun e => absurd e h4, fun e => absurd e (hne _)⟩, ho.o0, ho.o1, ho.x0, ho.x1, ho.x2, ho.x3⟩
theorem Meta.ok.ends {m : Meta} (h : m.ok) (i s : Int) (c : Bool) (o : Int) : (m.ends i s c o).1.ok := by
  unfold Meta.ends
  split
  · exact h
  next h1 =>
  split
  · exact h
  next h2 =>
  split
  · exact h
  next h3 =>
  split
  · exact h
  next h4 =>
  have hi : inN i m.ni := Classical.not_not.1 h1
  have ho := h.wr hi
  have hst := ho.st
  have o0 := ho.o0
  split
  · next h5 =>
    refine h.setW i ?_
    have hne : (m.wr i).parts ≠ [] := fun e => by have := ho.nop.2 e; omega
    split
    · exact ⟨ho.s0, ho.s1, ho.n0, ho.n1, ⟨by dsimp only; decide, by dsimp only; decide⟩, ho.rise, ⟨fun e => by have e' : (3 : Int) = 1 := e; omega, fun e => absurd e hne⟩, ho.o0, ho.o1, .inl (by show (m.wr i).off ≤ o; omega), by show o ≤ most; omega, by show 0 ≤ o; omega, fun e => absurd rfl e⟩
    · exact ⟨ho.s0, ho.s1, ho.n0, ho.n1, ⟨by dsimp only; decide, by dsimp only; decide⟩, ho.rise, ⟨fun e => by have e' : (4 : Int) = 1 := e; omega, fun e => absurd e hne⟩, ho.o0, ho.o1, .inr (by dsimp only; decide), ho.x1, ho.x2, fun _ => ho.x3 (by omega)⟩
  · next h5 =>
    refine h.setW i ?_
    split
    · exact ⟨ho.s0, ho.s1, ho.n0, ho.n1, ho.st, ho.rise, ho.nop, by show 0 ≤ o; omega, by show o ≤ most; omega, .inr (by show (m.wr i).st ≠ 3; omega), ho.x1, ho.x2, ho.x3⟩
    · exact ho
theorem Meta.ok.marked {m : Meta} (h : m.ok) (i n p : Int) : (m.marked i n p).1.ok := by
  unfold Meta.marked
  split
  · exact h
  next h1 =>
  split
  · exact h
  next h2 =>
  have hi : inN i m.ni := Classical.byContradiction fun e => h1 (.inl e)
  have ho := h.wr hi
  have hst := ho.st
  have h3 : 3 ≤ (m.wr i).st := by
    have : ¬ (m.wr i).st < 3 := fun e => h2 (.inr (.inl e))
    omega
  dsimp only
  refine h.setW i ?_
  split
  · refine ⟨ho.s0, ho.s1, ho.n0, ho.n1, ⟨by dsimp only; decide, by dsimp only; decide⟩, ⟨List.Pairwise.nil, nofun⟩, ⟨fun _ => rfl, fun _ => rfl⟩, ?_, ?_, .inr (by dsimp only; decide), by dsimp only; decide, by dsimp only; decide, fun _ => rfl⟩
    · show 0 ≤ (if (m.wr i).st = 3 then (m.wr i).nxt else (m.wr i).off)
      split
      · exact ho.x2
      · exact ho.o0
    · show (if (m.wr i).st = 3 then (m.wr i).nxt else (m.wr i).off) ≤ most
      split
      · exact ho.x1
      · exact ho.o1
  · next hne =>
    exact ⟨ho.s0, ho.s1, ho.n0, ho.n1, ho.st, rises_tail ho.rise, ⟨fun e => by have e' : (m.wr i).st = 1 := e; omega, fun e => absurd e hne⟩, ho.o0, ho.o1, ho.x0, ho.x1, ho.x2, ho.x3⟩
theorem Meta.ok.act {m : Meta} (h : m.ok) (a : Act) : (m.act a).1.ok := by
  unfold Meta.act
  split
  · exact h.fence _
  split
  · exact h.register _
  split
  · exact h.elect _ _ _
  split
  · exact h.alter _ _ _ _ _
  split
  · exact h.init _
  split
  · exact h.add _ _ _
  split
  · exact h.ends _ _ _ _
  split
  · exact h.marked _ _ _
  · exact h
end Go.Wst.Ct
