/-
 Walks, printed by a program of this workplace (wip/tools/sx.py) off the functions' code and a text of contracts.
-/
import Derived.Test.YtnjpladlfiaojaaTy
import Derived.Test.YtnjpladlfiaojaaSc
import Derived.Test.YtnjpladlfiaojaaXl
set_option linter.all false
set_option maxRecDepth 100000
set_option synthInstance.maxSize 100000
set_option synthInstance.maxHeartbeats 400000
namespace Go.Proofs.Ytnjpladlfiaojaa
open Go.Wst
open Go.Wst.Ct
theorem mixed : Try.prog.follows .mixedOrders = true := by kernel_rfl
/-- A view, a writing where they lie. -/
structure LV where
 v : View
 A : Option Addr
 c : Nat
structure LW where
 w : Wr
 A : Option Addr
 c : Nat
abbrev viewC (x : LV) : List Value := [.int .i64 x.v.lead, .int .i64 x.v.epoch, .int .i64 x.v.ver, .slice x.A x.v.isr.length x.c]
abbrev wrC (x : LW) : List Value := [.int .i64 x.w.ses, .int .i64 x.w.num, .int .i64 x.w.st, .slice x.A x.w.parts.length x.c, .int .i64 x.w.off, .int .i64 x.w.nxt]
instance encN_view : EncN viewC 4 := ⟨fun _ => rfl⟩
instance encN_wr : EncN wrC 6 := ⟨fun _ => rfl⟩
abbrev bools (l : List Bool) : List Value := l.map Value.bool
structure LMeta where
 nb : Nat
 np : Nat
 ni : Nat
 lives : List Bool
 LA : Option Addr
 lc : Nat
 vs : List LV
 VA : Option Addr
 vc : Nat
 ws : List LW
 WA : Option Addr
 wc : Nat
def LMeta.pure (D : LMeta) : Meta := ⟨D.nb, D.np, D.ni, D.lives, D.vs.map (·.v), D.ws.map (·.w)⟩
abbrev metaC (D : LMeta) : List Value := [.int .i64 D.nb, .int .i64 D.np, .int .i64 D.ni, .slice D.LA D.lives.length D.lc, .slice D.VA D.vs.length D.vc, .slice D.WA D.ws.length D.wc]
/-- What a controller owns, by its places. -/
inductive Sl where | m | l | v | w | vi (i : Nat) | wi (i : Nat)
def blkA (A : Option Addr) : Option Nat := A.map (·.block)
def LMeta.addr (m : Nat) (D : LMeta) : Sl → Option Nat
 | .m => some m
 | .l => blkA D.LA
 | .v => blkA D.VA
 | .w => blkA D.WA
 | .vi i => (D.vs[i]?).bind (fun x => blkA x.A)
 | .wi i => (D.ws[i]?).bind (fun x => blkA x.A)
def MetaB (m : Nat) (D : LMeta) : Nat → Prop := fun k => ∃ s, D.addr m s = some k
/-- A controller where it lies. -/
structure MetaAt (W : World) (m : Nat) (D : LMeta) : Prop where
 hb : W.heap[m]? = some (.cells (metaC D).toArray 72 (0, 0))
 lives : W.ownsRow 0 4 1 (.slice D.LA D.lives.length D.lc) D.lives.length (bools D.lives)
 views : W.ownsRow 0 44 4 (.slice D.VA D.vs.length D.vc) D.vs.length (D.vs.flatMap viewC)
 wrs : W.ownsRow 0 52 6 (.slice D.WA D.ws.length D.wc) D.ws.length (D.ws.flatMap wrC)
 isr : ∀ (i : Nat) (x : LV), D.vs[i]? = some x → W.ownsRow 0 3 1 (.slice x.A x.v.isr.length x.c) x.v.isr.length (ints x.v.isr)
 parts : ∀ (i : Nat) (x : LW), D.ws[i]? = some x → W.ownsRow 0 3 1 (.slice x.A x.w.parts.length x.c) x.w.parts.length (ints x.w.parts)
 sep : ∀ s t k, D.addr m s = some k → D.addr m t = some k → s = t
theorem own_blk {w : World} {base : Nat} {e : TypeId} {sz n m c : Nat} {A : Option Addr} {xs : List Value} (h : w.ownsRow base e sz (.slice A m c) n xs) {k : Nat} (hk : blkA A = some k) : base ≤ k ∧ k < w.heap.size := by
 cases A with
 | none => cases hk
 | some a =>
  have e : a.block = k := by simpa [blkA] using hk
  subst e
  exact h.lt _ rfl
theorem ownB_blk {A : Option Addr} {n c k : Nat} : OwnB (.slice A n c) k ↔ blkA A = some k := by
 cases A with
 | none => exact ⟨nofun, nofun⟩
 | some a => exact ⟨fun h => by have h' : some k = some a.block := h; exact h'.symm, fun h => by have h' : some a.block = some k := h; exact h'.symm⟩
theorem own_keepB {w w' : World} {S : Nat → Prop} {base : Nat} {e : TypeId} {sz n m c : Nat} {A : Option Addr} {xs : List Value} (h : w.ownsRow base e sz (.slice A m c) n xs) (hk : Keep S w w') (hs : ∀ k, blkA A = some k → ¬ S k) : w'.ownsRow base e sz (.slice A m c) n xs :=
 own_keep h hk (fun k e => hs k (ownB_blk.1 (Eq.symm e : OwnB (.slice A m c) k)))
section
variable {W W' : World} {m : Nat} {S : Nat → Prop} {D : LMeta}
theorem MetaAt.lt (h : MetaAt W m D) : ∀ k, MetaB m D k → k < W.heap.size := by
 rintro k ⟨s, hs⟩
 cases s with
 | m => cases hs; exact (Array.getElem?_eq_some_iff.1 h.hb).1
 | l => exact (own_blk h.lives hs).2
 | v => exact (own_blk h.views hs).2
 | w => exact (own_blk h.wrs hs).2
 | vi i =>
  obtain ⟨x, hx, hb⟩ := Option.bind_eq_some_iff.1 hs
  exact (own_blk (h.isr i x hx) hb).2
 | wi i =>
  obtain ⟨x, hx, hb⟩ := Option.bind_eq_some_iff.1 hs
  exact (own_blk (h.parts i x hx) hb).2
theorem addr_vi {i : Nat} {x : LV} (hx : D.vs[i]? = some x) : D.addr m (.vi i) = blkA x.A := by simp [LMeta.addr, hx]
theorem addr_wi {i : Nat} {x : LW} (hx : D.ws[i]? = some x) : D.addr m (.wi i) = blkA x.A := by simp [LMeta.addr, hx]
theorem MetaAt.keep (h : MetaAt W m D) (hk : Keep S W W') (hs : ∀ k, MetaB m D k → ¬ S k) : MetaAt W' m D :=
 ⟨(hk.block m (h.lt m ⟨.m, rfl⟩) (hs m ⟨.m, rfl⟩)).trans h.hb, own_keepB h.lives hk (fun k e => hs k ⟨.l, e⟩), own_keepB h.views hk (fun k e => hs k ⟨.v, e⟩), own_keepB h.wrs hk (fun k e => hs k ⟨.w, e⟩), fun i x hx => own_keepB (h.isr i x hx) hk (fun k e => hs k ⟨.vi i, (addr_vi hx).trans e⟩), fun i x hx => own_keepB (h.parts i x hx) hk (fun k e => hs k ⟨.wi i, (addr_wi hx).trans e⟩), h.sep⟩
theorem MetaAt.ext (h : MetaAt W m D) (hk : Keep NoB W W') : MetaAt W' m D := h.keep hk (fun _ _ h => h)
/-- Places that change to the same blocks, or to new ones, one by one. -/
theorem sep_set {f g : Sl → Option Nat} {n : Nat} (h : ∀ s t k, f s = some k → f t = some k → s = t) (hlt : ∀ s k, f s = some k → k < n) (s0 : Sl) (hne : ∀ s, s ≠ s0 → g s = f s) (h0 : g s0 = f s0 ∨ ∀ k, g s0 = some k → n ≤ k) : ∀ s t k, g s = some k → g t = some k → s = t := by
 intro s t k hs ht
 rcases h0 with h0 | h0
 ·have hall : ∀ s, g s = f s := fun s => by
   by_cases e : s = s0
   ·rw [e, h0]
   ·exact hne s e
  exact h s t k (by rw [← hall]; exact hs) (by rw [← hall]; exact ht)
 ·by_cases e1 : s = s0 <;> by_cases e2 : t = s0
  ·rw [e1, e2]
  ·subst e1
   have := h0 k hs
   rw [hne t e2] at ht
   have := hlt t k ht
   omega
  ·subst e2
   have := h0 k ht
   rw [hne s e1] at hs
   have := hlt s k hs
   omega
  ·rw [hne s e1] at hs
   rw [hne t e2] at ht
   exact h s t k hs ht
theorem MetaAt.ne (h : MetaAt W m D) {s t : Sl} {k j : Nat} (hk : D.addr m s = some k) (hj : D.addr m t = some j) (hst : s ≠ t) : k ≠ j := fun e => hst (h.sep s t k hk (e ▸ hj))
theorem MetaAt.setV (h : MetaAt W m D) {i : Nat} {y : LV} (hi : D.vs[i]? = some y) (x : LV) (hk : Keep S W W') (hS : ∀ k, k < W.heap.size → S k → blkA D.VA = some k ∨ blkA y.A = some k)
  (hrow : W'.ownsRow 0 44 4 (.slice D.VA D.vs.length D.vc) D.vs.length ((D.vs.set i x).flatMap viewC)) (hown : W'.ownsRow 0 3 1 (.slice x.A x.v.isr.length x.c) x.v.isr.length (ints x.v.isr)) (hx : blkA x.A = blkA y.A ∨ ∀ k, blkA x.A = some k → W.heap.size ≤ k) : MetaAt W' m { D with vs := D.vs.set i x } := by
 have hil : i < D.vs.length := (List.getElem?_eq_some_iff.1 hi).1
 have hvi : D.addr m (.vi i) = blkA y.A := addr_vi hi
 have out : ∀ s k, s ≠ .v → s ≠ .vi i → D.addr m s = some k → ¬ S k := fun s k h1 h2 hs e => by
  rcases hS k (h.lt k ⟨s, hs⟩) e with e | e
  ·exact h.ne (t := .v) hs e h1 rfl
  ·exact h.ne (t := .vi i) hs (hvi.trans e) h2 rfl
 refine ⟨?_, own_keepB h.lives hk (fun k e => out .l k nofun nofun e), by simpa using hrow, own_keepB h.wrs hk (fun k e => out .w k nofun nofun e), ?_, fun j z hz => own_keepB (h.parts j z hz) hk (fun k e => out (.wi j) k nofun nofun ((addr_wi (D := D) hz).trans e)), ?_⟩
 ·rw [hk.block m (h.lt m ⟨.m, rfl⟩) (out .m m nofun nofun rfl), h.hb]
  simp [metaC]
 ·intro j z hz
  by_cases e : i = j
  ·subst e
   rw [List.getElem?_set_self hil] at hz
   cases hz
   exact hown
  ·rw [List.getElem?_set_ne e] at hz
   exact own_keepB (h.isr j z hz) hk (fun k e' => out (.vi j) k nofun (fun e2 => by injection e2 with e2; exact e e2.symm) ((addr_vi hz).trans e'))
 ·refine sep_set (f := D.addr m) (n := W.heap.size) h.sep (fun s k e => h.lt k ⟨s, e⟩) (.vi i) ?_ ?_
  ·intro s hs
   cases s with
   | vi j =>
    have : i ≠ j := fun e => hs (by rw [e])
    simp [LMeta.addr, List.getElem?_set_ne this]
   | _ => rfl
  ·have : LMeta.addr m { D with vs := D.vs.set i x } (.vi i) = blkA x.A := by simp [LMeta.addr, List.getElem?_set_self hil]
   rw [this, hvi]
   exact hx
theorem MetaAt.setW (h : MetaAt W m D) {i : Nat} {y : LW} (hi : D.ws[i]? = some y) (x : LW) (hk : Keep S W W') (hS : ∀ k, k < W.heap.size → S k → blkA D.WA = some k ∨ blkA y.A = some k)
  (hrow : W'.ownsRow 0 52 6 (.slice D.WA D.ws.length D.wc) D.ws.length ((D.ws.set i x).flatMap wrC)) (hown : W'.ownsRow 0 3 1 (.slice x.A x.w.parts.length x.c) x.w.parts.length (ints x.w.parts)) (hx : blkA x.A = blkA y.A ∨ ∀ k, blkA x.A = some k → W.heap.size ≤ k) : MetaAt W' m { D with ws := D.ws.set i x } := by
 have hil : i < D.ws.length := (List.getElem?_eq_some_iff.1 hi).1
 have hvi : D.addr m (.wi i) = blkA y.A := addr_wi hi
 have out : ∀ s k, s ≠ .w → s ≠ .wi i → D.addr m s = some k → ¬ S k := fun s k h1 h2 hs e => by
  rcases hS k (h.lt k ⟨s, hs⟩) e with e | e
  ·exact h.ne (t := .w) hs e h1 rfl
  ·exact h.ne (t := .wi i) hs (hvi.trans e) h2 rfl
 refine ⟨?_, own_keepB h.lives hk (fun k e => out .l k nofun nofun e), own_keepB h.views hk (fun k e => out .v k nofun nofun e), by simpa using hrow, fun j z hz => own_keepB (h.isr j z hz) hk (fun k e => out (.vi j) k nofun nofun ((addr_vi (D := D) hz).trans e)), ?_, ?_⟩
 ·rw [hk.block m (h.lt m ⟨.m, rfl⟩) (out .m m nofun nofun rfl), h.hb]
  simp [metaC]
 ·intro j z hz
  by_cases e : i = j
  ·subst e
   rw [List.getElem?_set_self hil] at hz
   cases hz
   exact hown
  ·rw [List.getElem?_set_ne e] at hz
   exact own_keepB (h.parts j z hz) hk (fun k e' => out (.wi j) k nofun (fun e2 => by injection e2 with e2; exact e e2.symm) ((addr_wi hz).trans e'))
 ·refine sep_set (f := D.addr m) (n := W.heap.size) h.sep (fun s k e => h.lt k ⟨s, e⟩) (.wi i) ?_ ?_
  ·intro s hs
   cases s with
   | wi j =>
    have : i ≠ j := fun e => hs (by rw [e])
    simp [LMeta.addr, List.getElem?_set_ne this]
   | _ => rfl
  ·have : LMeta.addr m { D with ws := D.ws.set i x } (.wi i) = blkA x.A := by simp [LMeta.addr, List.getElem?_set_self hil]
   rw [this, hvi]
   exact hx
theorem MetaAt.setL (h : MetaAt W m D) (l : List Bool) (hl : l.length = D.lives.length) (hk : Keep S W W') (hS : ∀ k, k < W.heap.size → S k → blkA D.LA = some k)
  (hrow : W'.ownsRow 0 4 1 (.slice D.LA D.lives.length D.lc) D.lives.length (bools l)) : MetaAt W' m { D with lives := l } := by
 have out : ∀ s k, s ≠ .l → D.addr m s = some k → ¬ S k := fun s k h1 hs e => h.ne (t := .l) hs (hS k (h.lt k ⟨s, hs⟩) e) h1 rfl
 refine ⟨?_, by show W'.ownsRow 0 _ 1 (.slice D.LA l.length D.lc) l.length (bools l); rw [hl]; exact hrow, own_keepB h.views hk (fun k e => out .v k nofun e), own_keepB h.wrs hk (fun k e => out .w k nofun e), fun j z hz => own_keepB (h.isr j z hz) hk (fun k e => out (.vi j) k nofun ((addr_vi (D := D) hz).trans e)), fun j z hz => own_keepB (h.parts j z hz) hk (fun k e => out (.wi j) k nofun ((addr_wi (D := D) hz).trans e)), fun s t k hs ht => h.sep s t k (by cases s <;> exact hs) (by cases t <;> exact ht)⟩
 rw [hk.block m (h.lt m ⟨.m, rfl⟩) (out .m m nofun rfl), h.hb]
 simp [metaC, hl]
/-- What is known of a controller where it lies, as the walk uses it. -/
theorem blkA_some {A : Option Addr} {a : Addr} (h : A = some a) : blkA A = some a.block := by rw [h]; rfl
theorem MetaAt.ap (h : MetaAt W m D) {s t : Sl} {A B : Option Addr} (hA : D.addr m s = blkA A) (hB : D.addr m t = blkA B) (hst : s ≠ t) : ApA A B := ⟨fun a b ha hb => h.ne (hA.trans (blkA_some ha)) (hB.trans (blkA_some hb)) hst⟩
theorem MetaAt.apm (h : MetaAt W m D) {s : Sl} {A : Option Addr} (hA : D.addr m s = blkA A) (hst : s ≠ .m) : ApB A m := ⟨fun a ha => h.ne (t := .m) (hA.trans (blkA_some ha)) rfl hst⟩
end

end Go.Proofs.Ytnjpladlfiaojaa
