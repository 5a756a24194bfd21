/-
 Walks, printed by a program of this workplace (wip/tools/sx.py) off the functions' code and a text of contracts.
-/
import Derived.Test.YtnjpladlfiaojaaAC
set_option linter.all false
set_option maxRecDepth 100000
set_option synthInstance.maxSize 100000
set_option synthInstance.maxHeartbeats 400000
namespace Go.Proofs.Ytnjpladlfiaojaa
open Go.Wst
open Go.Wst.Ct
/-- A controller and the document's, alike, where they lie. -/
structure At3 (w : World) (m : Nat) (D R : LMeta) (F : Nat → Prop) : Prop where
 at_ : MetaAt w m D
 ref : RefAt w F R
 pure : D.pure = R.pure
 ok : D.pure.ok
 ap : ∀ k, F k → ¬ MetaB m D k
theorem At3.ext {w w' : World} {m : Nat} {D R : LMeta} {F : Nat → Prop} (h : At3 w m D R F) (hk : Keep NoB w w') : At3 w' m D R F := ⟨h.at_.ext hk, h.ref.ext hk, h.pure, h.ok, h.ap⟩
theorem At3.keep {w w' : World} {m : Nat} {D R : LMeta} {F S : Nat → Prop} (h : At3 w m D R F) (hk : Keep S w w') (hm : ∀ k, MetaB m D k → ¬ S k) (hf : ∀ k, F k → ¬ S k) : At3 w' m D R F := ⟨h.at_.keep hk hm, h.ref.keep hk hf, h.pure, h.ok, h.ap⟩
theorem At3.pair {w : World} {m : Nat} {D R : LMeta} {F : Nat → Prop} (h : At3 w m D R F) : PairM NoB NoB m D R w :=
 ⟨h.at_, h.pure, h.ok, fun _ e => e.elim, fun _ e => e.elim, fun _ e => e.elim, fun _ e => e.elim, F, h.ref, fun k e => ⟨fun e2 => e2, h.ap k e⟩⟩
/-- What a call leaves of a block that is not the controller's. -/
structure Step3 (w : World) (m : Nat) (D D' : LMeta) (F F' : Nat → Prop) (x : LAct) : Prop where
 off : ∀ k, k < w.heap.size → ¬ MetaB m D k → ¬ MetaB m D' k
 from_ : ∀ k, F' k → k < w.heap.size → ¬ MetaB m D k → F k ∨ (x.a.list ≠ [] ∧ x.A.map (·.block) = some k)
theorem Step3.new {w : World} {m : Nat} {D D' : LMeta} {F F' : Nat → Prop} {x : LAct} (h : Step3 w m D D' F F' x) {n : Nat} (hD : ∀ k, MetaB m D k → n ≤ k) (hn : n ≤ w.heap.size) : ∀ k, MetaB m D' k → n ≤ k := fun k e => by
 rcases Nat.lt_or_ge k w.heap.size with h1 | h1
 ·exact Classical.byContradiction fun h2 => h.off k h1 (fun e2 => h2 (hD k e2)) e
 ·omega
theorem does3_ok {w : World} {m : Nat} {D R : LMeta} {F : Nat → Prop} (x : LAct) (h : At3 w m D R F) [hx : Row w x.A (ints x.a.list)] (hxl : x.a.list.length ≤ 100) (hxs : x.A.isSome = true ∨ x.a.list.length = 0) (hxM : x.a.list ≠ [] → ∀ a, x.A = some a → ¬ MetaB m D a.block) :
    Ret Try.prog 17 #[.pointer (some ⟨m, 0, none⟩), .agg (metaC R).toArray, .agg (actC x).toArray] w (fun v w' => (∃ R' D' F', v = .tuple #[.agg (metaC R').toArray, .bool true] ∧ At3 w' m D' R' F' ∧ D'.pure = D.pure.does x.a ∧ Step3 w m D D' F F' x) ∧ Lk w' w (MetaB m D)) := by
 have hlt : x.a.list ≠ [] → ∀ a, x.A = some a → a.block < w.heap.size := fun hne a ha => (rowB_of hx.row).far.resolve_left (by simpa [ints] using hne) a ha
 have hP : PairM (fun k => (k < w.heap.size ∧ ¬ MetaB m D k) ∧ ¬ F k ∧ ¬ (x.a.list ≠ [] ∧ x.A.map (·.block) = some k)) (fun k => k < w.heap.size ∧ ¬ MetaB m D k) m D R w :=
  ⟨h.at_, h.pure, h.ok, fun k e => e.1.1, fun k e => e.1, fun k e => e.1.2, fun k e => e.2, F, h.ref, fun k e => ⟨fun e2 => e2.2.1 e, h.ap k e⟩⟩
 refine (does_ok _ _ m D R x w hP hxl hxs (fun hne a ha => ⟨⟨hlt hne a ha, hxM hne a ha⟩, fun e => e.2.2 ⟨hne, by rw [ha]; rfl⟩⟩)).mono ?_
 rintro v w' ⟨⟨R', D', rfl, hP', hp'⟩, lk⟩
 obtain ⟨F', hR', hF'⟩ := hP'.ex
 refine ⟨⟨R', D', F', rfl, ⟨hP'.at_, hR', hP'.pure, hP'.ok, fun k e => (hF' k e).2⟩, hp', fun k h1 h2 => hP'.qm k ⟨h1, h2⟩, fun k e h1 h2 => ?_⟩, ⟨lk.keep.mono fun k h1 h2 => Classical.byContradiction fun h3 => h2 ⟨h1, h3⟩⟩⟩
 exact Classical.byContradiction fun h3 => (hF' k e).1 ⟨⟨h1, h2⟩, fun h4 => h3 (.inl h4), fun h4 => h3 (.inr h4)⟩
/-- Two controllers and the document's of the first, apart. -/
structure Two (w : World) (n m o : Nat) (D E R : LMeta) (F : Nat → Prop) : Prop where
 one : At3 w m D R F
 two : MetaAt w o E
 same : E.pure = D.pure
 ap : ∀ k, MetaB o E k → ¬ MetaB m D k ∧ ¬ F k
 n1 : ∀ k, MetaB m D k → n ≤ k
 n2 : ∀ k, MetaB o E k → n ≤ k
theorem Two.ext {w w' : World} {n m o : Nat} {D E R : LMeta} {F : Nat → Prop} (h : Two w n m o D E R F) (hk : Keep NoB w w') : Two w' n m o D E R F := ⟨h.one.ext hk, h.two.ext hk, h.same, h.ap, h.n1, h.n2⟩
theorem Two.swap {w : World} {n m o : Nat} {D E R : LMeta} {F : Nat → Prop} (h : Two w n m o D E R F) : At3 w o E R F := ⟨h.two, h.one.ref, h.same.trans h.one.pure, h.same ▸ h.one.ok, fun k e e2 => (h.ap k e2).2 e⟩
/-- Blocks that come in with a call: none of those made since. -/
theorem old_act {w W : World} {xs : List Int} {A : Option Addr} (h : RowB W A w (ints xs)) : xs ≠ [] → ∀ a, A = some a → a.block < w.heap.size := fun hne a ha => h.far.resolve_left (by simpa [ints] using hne) a ha
theorem old_acts {w W : World} {A : Option Addr} {xs : List LAct} {k : Nat} (h : RowB W A w (xs.flatMap actC)) (hk : k < xs.length) : ∀ a, A = some a → a.block < w.heap.size := h.far.resolve_left (by
 intro e
 have h1 : (xs.flatMap actC).length = xs.length * 8 := flat_len (enc := actC) (sz := 8) (fun _ => rfl) xs
 rw [e] at h1
 simp at h1
 omega)
/-- Both do the same call: the second first. -/
theorem Two.step {w w1 w2 : World} {n m o : Nat} {D E R D' E' R1 R' : LMeta} {F F1 F' : Nat → Prop} {x : LAct} (h : Two w n m o D E R F) (hn : n ≤ w.heap.size) (hxn : x.a.list ≠ [] → ∀ a, x.A = some a → a.block < n)
    (h1 : At3 w1 o E' R1 F1) (hp1 : E'.pure = E.pure.does x.a) (s1 : Step3 w o E E' F F1 x) (k1 : Keep (MetaB o E) w w1)
    (h2 : At3 w2 m D' R' F') (hp2 : D'.pure = D.pure.does x.a) (s2 : Step3 w1 m D D' F F' x) (k2 : Keep (MetaB m D) w1 w2) : Two w2 n m o D' E' R' F' := by
 have hE' : ∀ k, MetaB o E' k → ¬ MetaB m D k ∧ ¬ F k := fun k e => by
  rcases Nat.lt_or_ge k w.heap.size with h3 | h3
  ·have h4 : MetaB o E k := Classical.byContradiction fun h4 => s1.off k h3 h4 e
   exact h.ap k h4
  ·exact ⟨fun e2 => by have := h.one.at_.lt k e2; omega, fun e2 => by have := h.one.ref.lt k e2; omega⟩
 have hEn := s1.new h.n2 hn
 refine ⟨h2, h1.at_.keep k2 (fun k e => (hE' k e).1), by rw [hp1, hp2, h.same], fun k e => ?_, s2.new h.n1 (Nat.le_trans hn k1.size), hEn⟩
 have hl := h1.at_.lt k e
 refine ⟨s2.off k hl (hE' k e).1, fun e2 => ?_⟩
 rcases s2.from_ k e2 hl (hE' k e).1 with h3 | ⟨h3, h4⟩
 ·exact (hE' k e).2 h3
 ·obtain ⟨a, ha, rfl⟩ := Option.map_eq_some_iff.1 h4
  have h5 := hxn h3 a ha
  have h6 := hEn _ e
  omega
theorem Two.mid {w w1 : World} {n m o : Nat} {D E R : LMeta} {F : Nat → Prop} (h : Two w n m o D E R F) (k1 : Keep (MetaB o E) w w1) : At3 w1 m D R F := h.one.keep k1 (fun k e e2 => (h.ap k e2).1 e) (fun k e e2 => (h.ap k e2).2 e)

end Go.Proofs.Ytnjpladlfiaojaa
