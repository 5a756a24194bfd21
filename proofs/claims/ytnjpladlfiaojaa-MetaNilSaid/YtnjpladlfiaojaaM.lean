/-
 Walks, printed by a program of this workplace (wip/tools/sx.py) off the functions' code and a text of contracts.
-/
import Derived.Test.YtnjpladlfiaojaaL
set_option linter.all false
set_option maxRecDepth 100000
set_option synthInstance.maxSize 100000
set_option synthInstance.maxHeartbeats 400000
namespace Go.Proofs.Ytnjpladlfiaojaa
open Go.Wst
open Go.Wst.Ct
section
variable {W W' : World} {m : Nat} {S : Nat → Prop} {D : LMeta}
/-- A controller under way: one more of something. -/
theorem MetaAt.pushL (h : MetaAt W m D) (b : Bool) {A : Option Addr} {c : Nat} (hk : Keep S W W') (hS : ∀ k, k < W.heap.size → S k → k = m ∨ blkA D.LA = some k)
  (hb : W'.heap[m]? = some (.cells (metaC { D with lives := D.lives ++ [b], LA := A, lc := c }).toArray 72 (0, 0)))
  (hrow : W'.ownsRow 0 4 1 (.slice A (D.lives.length + 1) c) (D.lives.length + 1) (bools (D.lives ++ [b]))) (hA : blkA A = blkA D.LA ∨ ∀ k, blkA A = some k → W.heap.size ≤ k) : MetaAt W' m { D with lives := D.lives ++ [b], LA := A, lc := c } := by
 have out : ∀ s k, s ≠ .l → s ≠ .m → D.addr m s = some k → ¬ S k := fun s k h1 h2 hs e => by
  rcases hS k (h.lt k ⟨s, hs⟩) e with e | e
  ·exact h.ne (t := .m) hs rfl h2 e
  ·exact h.ne (t := .l) hs e h1 rfl
 refine ⟨hb, by simpa using hrow, own_keepB h.views hk (fun k e => out .v k nofun nofun e), own_keepB h.wrs hk (fun k e => out .w k nofun nofun e), fun j z hz => own_keepB (h.isr j z hz) hk (fun k e => out (.vi j) k nofun nofun ((addr_vi (D := D) hz).trans e)), fun j z hz => own_keepB (h.parts j z hz) hk (fun k e => out (.wi j) k nofun nofun ((addr_wi (D := D) hz).trans e)), ?_⟩
 refine sep_set (f := D.addr m) (n := W.heap.size) h.sep (fun s k e => h.lt k ⟨s, e⟩) .l ?_ hA
 intro s hs
 cases s with
 | l => exact absurd rfl hs
 | _ => rfl
theorem MetaAt.pushV (h : MetaAt W m D) (x : LV) {A : Option Addr} {c n : Nat} (hk : Keep S W W') (hS : ∀ k, k < W.heap.size → S k → k = m ∨ blkA D.VA = some k)
  (hb : W'.heap[m]? = some (.cells (metaC { D with vs := D.vs ++ [x], VA := A, vc := c }).toArray 72 (0, 0)))
  (hrow : W'.ownsRow 0 44 4 (.slice A (D.vs.length + 1) c) (D.vs.length + 1) ((D.vs ++ [x]).flatMap viewC)) (hown : W'.ownsRow 0 3 1 (.slice x.A x.v.isr.length x.c) x.v.isr.length (ints x.v.isr))
  (hn : W.heap.size ≤ n) (hx : ∀ k, blkA x.A = some k → W.heap.size ≤ k ∧ k < n) (hA : blkA A = blkA D.VA ∨ ∀ k, blkA A = some k → n ≤ k) : MetaAt W' m { D with vs := D.vs ++ [x], VA := A, vc := c } := by
 have out : ∀ s k, s ≠ .v → s ≠ .m → D.addr m s = some k → ¬ S k := fun s k h1 h2 hs e => by
  rcases hS k (h.lt k ⟨s, hs⟩) e with e | e
  ·exact h.ne (t := .m) hs rfl h2 e
  ·exact h.ne (t := .v) hs e h1 rfl
 refine ⟨hb, own_keepB h.lives hk (fun k e => out .l k nofun nofun e), by simpa using hrow, own_keepB h.wrs hk (fun k e => out .w k nofun nofun e), ?_, fun j z hz => own_keepB (h.parts j z hz) hk (fun k e => out (.wi j) k nofun nofun ((addr_wi (D := D) hz).trans e)), ?_⟩
 ·intro j z hz
  have hz' : (D.vs ++ [x])[j]? = some z := hz
  rw [List.getElem?_append] at hz'
  split at hz'
  ·next hj => exact own_keepB (h.isr j z hz') hk (fun k e => out (.vi j) k nofun nofun ((addr_vi hz').trans e))
  ·next hj =>
   have : j - D.vs.length = 0 := Classical.byContradiction fun e => by
    rw [List.getElem?_eq_none (by simp; omega)] at hz'; cases hz'
   rw [this] at hz'
   cases hz'
   exact hown
 ·have h1 : ∀ s t k, LMeta.addr m { D with vs := D.vs ++ [x] } s = some k → LMeta.addr m { D with vs := D.vs ++ [x] } t = some k → s = t := by
   refine sep_set (f := D.addr m) (n := W.heap.size) h.sep (fun s k e => h.lt k ⟨s, e⟩) (.vi D.vs.length) ?_ (.inr fun k e => (hx k ?_).1)
   ·intro s hs
    cases s with
    | vi j =>
      have hj : j ≠ D.vs.length := fun e => hs (by rw [e])
      show ((D.vs ++ [x])[j]?).bind _ = (D.vs[j]?).bind _
      rw [List.getElem?_append]
      split
      ·rfl
      ·rw [List.getElem?_eq_none (by simp; omega), List.getElem?_eq_none (by omega)]
    | _ => rfl
   ·have e' : ((D.vs ++ [x])[D.vs.length]?).bind (fun x => blkA x.A) = some k := e
    simpa using e'
  have h2 : ∀ s k, LMeta.addr m { D with vs := D.vs ++ [x] } s = some k → k < n := by
   intro s k hs
   by_cases e : s = .vi D.vs.length
   ·subst e
    have e' : ((D.vs ++ [x])[D.vs.length]?).bind (fun x => blkA x.A) = some k := hs
    exact (hx k (by simpa using e')).2
   ·refine Nat.lt_of_lt_of_le (h.lt k ⟨s, ?_⟩) hn
    cases s with
    | vi j =>
      have hj : j ≠ D.vs.length := fun e2 => e (by rw [e2])
      have hs' : ((D.vs ++ [x])[j]?).bind (fun x => blkA x.A) = some k := hs
      show (D.vs[j]?).bind _ = _
      rw [List.getElem?_append] at hs'
      split at hs'
      ·exact hs'
      ·rw [List.getElem?_eq_none (by simp; omega)] at hs'; cases hs'
    | _ => exact hs
  refine sep_set (n := n) h1 h2 .v ?_ hA
  intro s hs
  cases s with
  | v => exact absurd rfl hs
  | _ => rfl
theorem MetaAt.pushW (h : MetaAt W m D) (x : LW) {A : Option Addr} {c n : Nat} (hk : Keep S W W') (hS : ∀ k, k < W.heap.size → S k → k = m ∨ blkA D.WA = some k)
  (hb : W'.heap[m]? = some (.cells (metaC { D with ws := D.ws ++ [x], WA := A, wc := c }).toArray 72 (0, 0)))
  (hrow : W'.ownsRow 0 52 6 (.slice A (D.ws.length + 1) c) (D.ws.length + 1) ((D.ws ++ [x]).flatMap wrC)) (hown : W'.ownsRow 0 3 1 (.slice x.A x.w.parts.length x.c) x.w.parts.length (ints x.w.parts))
  (hn : W.heap.size ≤ n) (hx : ∀ k, blkA x.A = some k → W.heap.size ≤ k ∧ k < n) (hA : blkA A = blkA D.WA ∨ ∀ k, blkA A = some k → n ≤ k) : MetaAt W' m { D with ws := D.ws ++ [x], WA := A, wc := c } := by
 have out : ∀ s k, s ≠ .w → s ≠ .m → D.addr m s = some k → ¬ S k := fun s k h1 h2 hs e => by
  rcases hS k (h.lt k ⟨s, hs⟩) e with e | e
  ·exact h.ne (t := .m) hs rfl h2 e
  ·exact h.ne (t := .w) hs e h1 rfl
 refine ⟨hb, own_keepB h.lives hk (fun k e => out .l k nofun nofun e), own_keepB h.views hk (fun k e => out .v k nofun nofun e), by simpa using hrow, fun j z hz => own_keepB (h.isr j z hz) hk (fun k e => out (.vi j) k nofun nofun ((addr_vi (D := D) hz).trans e)), ?_, ?_⟩
 ·intro j z hz
  have hz' : (D.ws ++ [x])[j]? = some z := hz
  rw [List.getElem?_append] at hz'
  split at hz'
  ·next hj => exact own_keepB (h.parts j z hz') hk (fun k e => out (.wi j) k nofun nofun ((addr_wi hz').trans e))
  ·next hj =>
   have : j - D.ws.length = 0 := Classical.byContradiction fun e => by
    rw [List.getElem?_eq_none (by simp; omega)] at hz'; cases hz'
   rw [this] at hz'
   cases hz'
   exact hown
 ·have h1 : ∀ s t k, LMeta.addr m { D with ws := D.ws ++ [x] } s = some k → LMeta.addr m { D with ws := D.ws ++ [x] } t = some k → s = t := by
   refine sep_set (f := D.addr m) (n := W.heap.size) h.sep (fun s k e => h.lt k ⟨s, e⟩) (.wi D.ws.length) ?_ (.inr fun k e => (hx k ?_).1)
   ·intro s hs
    cases s with
    | wi j =>
      have hj : j ≠ D.ws.length := fun e => hs (by rw [e])
      show ((D.ws ++ [x])[j]?).bind _ = (D.ws[j]?).bind _
      rw [List.getElem?_append]
      split
      ·rfl
      ·rw [List.getElem?_eq_none (by simp; omega), List.getElem?_eq_none (by omega)]
    | _ => rfl
   ·have e' : ((D.ws ++ [x])[D.ws.length]?).bind (fun x => blkA x.A) = some k := e
    simpa using e'
  have h2 : ∀ s k, LMeta.addr m { D with ws := D.ws ++ [x] } s = some k → k < n := by
   intro s k hs
   by_cases e : s = .wi D.ws.length
   ·subst e
    have e' : ((D.ws ++ [x])[D.ws.length]?).bind (fun x => blkA x.A) = some k := hs
    exact (hx k (by simpa using e')).2
   ·refine Nat.lt_of_lt_of_le (h.lt k ⟨s, ?_⟩) hn
    cases s with
    | wi j =>
      have hj : j ≠ D.ws.length := fun e2 => e (by rw [e2])
      have hs' : ((D.ws ++ [x])[j]?).bind (fun x => blkA x.A) = some k := hs
      show (D.ws[j]?).bind _ = _
      rw [List.getElem?_append] at hs'
      split at hs'
      ·exact hs'
      ·rw [List.getElem?_eq_none (by simp; omega)] at hs'; cases hs'
    | _ => exact hs
  refine sep_set (n := n) h1 h2 .w ?_ hA
  intro s hs
  cases s with
  | w => exact absurd rfl hs
  | _ => rfl
/-- One with nothing yet. -/
def emptyM (nb np ni : Nat) : LMeta := ⟨nb, np, ni, [], none, 0, [], none, 0, [], none, 0⟩
theorem MetaAt.empty {nb np ni : Nat} (hb : W.heap[m]? = some (.cells (metaC (emptyM nb np ni)).toArray 72 (0, 0))) : MetaAt W m (emptyM nb np ni) :=
 ⟨hb, World.ownsRow_nil _ _ _ _, World.ownsRow_nil _ _ _ _, World.ownsRow_nil _ _ _ _, fun i x h => (by cases h), fun i x h => (by cases h), fun s t k hs ht => by
  cases s <;> cases t <;> first | rfl | (cases hs; done) | (cases ht; done)⟩
/-- All of it is new. -/
def NewM (m : Nat) (D : LMeta) (w : World) : Prop := ∀ k, MetaB m D k → w.heap.size ≤ k
theorem MetaB.pushV {x : LV} {A : Option Addr} {c k : Nat} (h : MetaB m { D with vs := D.vs ++ [x], VA := A, vc := c } k) : MetaB m D k ∨ blkA x.A = some k ∨ blkA A = some k := by
 obtain ⟨s, hs⟩ := h
 cases s with
 | v => exact .inr (.inr hs)
 | vi j =>
   have hs' : ((D.vs ++ [x])[j]?).bind (fun x => blkA x.A) = some k := hs
   rw [List.getElem?_append] at hs'
   split at hs'
   ·exact .inl ⟨.vi j, hs'⟩
   ·obtain ⟨y, hy, hb⟩ := Option.bind_eq_some_iff.1 hs'
    have hm := List.mem_of_getElem? hy
    rw [List.mem_singleton.1 hm] at hb
    exact .inr (.inl hb)
 | m => exact .inl ⟨.m, hs⟩
 | l => exact .inl ⟨.l, hs⟩
 | w => exact .inl ⟨.w, hs⟩
 | wi j => exact .inl ⟨.wi j, hs⟩
theorem MetaB.pushW {x : LW} {A : Option Addr} {c k : Nat} (h : MetaB m { D with ws := D.ws ++ [x], WA := A, wc := c } k) : MetaB m D k ∨ blkA x.A = some k ∨ blkA A = some k := by
 obtain ⟨s, hs⟩ := h
 cases s with
 | w => exact .inr (.inr hs)
 | wi j =>
   have hs' : ((D.ws ++ [x])[j]?).bind (fun x => blkA x.A) = some k := hs
   rw [List.getElem?_append] at hs'
   split at hs'
   ·exact .inl ⟨.wi j, hs'⟩
   ·obtain ⟨y, hy, hb⟩ := Option.bind_eq_some_iff.1 hs'
    have hm := List.mem_of_getElem? hy
    rw [List.mem_singleton.1 hm] at hb
    exact .inr (.inl hb)
 | m => exact .inl ⟨.m, hs⟩
 | l => exact .inl ⟨.l, hs⟩
 | v => exact .inl ⟨.v, hs⟩
 | vi j => exact .inl ⟨.vi j, hs⟩
theorem MetaB.pushL {b : Bool} {A : Option Addr} {c k : Nat} (h : MetaB m { D with lives := D.lives ++ [b], LA := A, lc := c } k) : MetaB m D k ∨ blkA A = some k := by
 obtain ⟨s, hs⟩ := h
 cases s with
 | l => exact .inr hs
 | m => exact .inl ⟨.m, hs⟩
 | v => exact .inl ⟨.v, hs⟩
 | vi j => exact .inl ⟨.vi j, hs⟩
 | w => exact .inl ⟨.w, hs⟩
 | wi j => exact .inl ⟨.wi j, hs⟩
end
theorem newA_none (w : World) : NewA none w := ⟨fun a h => by cases h⟩

end Go.Proofs.Ytnjpladlfiaojaa
