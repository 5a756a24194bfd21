/-
  The walk's own calculus, sixth part: many slices of the call's own, none in another's block; footprints. No program is named here.
-/
import Derived.Test.YtljdkelgapndgaaGreatJ1
import Derived.RangeFuncRecord
import Derived.Laws.RangeString
import Derived.Lib.AppendZeros
import Derived.Laws.CopyRow
set_option linter.all false
namespace Go.Wst

section laws
variable {P : Program} {r : Option Nat} {N : Nat} {S T : Nat → Prop} {Q : Post} {τ : Tau} {ds : List Deferred} {w : World} {ty : TypeId} {ops : Array Oper} {rest : List Oper} {pos : String} {aft : Array Edge} {d : Nat} {v : Value} {op : Op}
theorem v_eql_pointerS {x : Operand} {t e t' : TypeId} {a : Addr} [hx : EvO N τ x (.pointer (some a))] [hu : Und P t (.pointer e)] : Val P r N S (.binOp .eql t x (.const (.pointer none)) t') ty τ w (.bool false) := v_eql_pointer (p := some a)
theorem v_eql_pointerN {x : Operand} {t e t' : TypeId} [hx : EvO N τ x (.pointer none)] [hu : Und P t (.pointer e)] : Val P r N S (.binOp .eql t x (.const (.pointer none)) t') ty τ w (.bool true) := v_eql_pointer (p := none)
theorem v_neq_pointerS {x : Operand} {t e t' : TypeId} {a : Addr} [hx : EvO N τ x (.pointer (some a))] [hu : Und P t (.pointer e)] : Val P r N S (.binOp .neq t x (.const (.pointer none)) t') ty τ w (.bool true) := v_neq_pointer (p := some a)
theorem v_neq_pointerN {x : Operand} {t e t' : TypeId} [hx : EvO N τ x (.pointer none)] [hu : Und P t (.pointer e)] : Val P r N S (.binOp .neq t x (.const (.pointer none)) t') ty τ w (.bool false) := v_neq_pointer (p := none)
theorem v_eql_mapS {x : Operand} {t k e t' : TypeId} {m : Nat} [hx : EvO N τ x (.map (some m))] [hu : Und P t (.map k e)] : Val P r N S (.binOp .eql t x (.const (.map none)) t') ty τ w (.bool false) := v_eql_map (m := some m)
theorem v_eql_sliceS {x : Operand} {t e t' : TypeId} {a : Addr} {n c : Nat} [hx : EvO N τ x (.slice (some a) n c)] [hu : Und P t (.slice e)] : Val P r N S (.binOp .eql t x (.const (.slice none 0 0)) t') ty τ w (.bool false) := v_eql_slice (A := some a)
theorem v_eql_sliceN {x : Operand} {t e t' : TypeId} {n c : Nat} [hx : EvO N τ x (.slice none n c)] [hu : Und P t (.slice e)] : Val P r N S (.binOp .eql t x (.const (.slice none 0 0)) t') ty τ w (.bool true) := v_eql_slice (A := none)
section
variable {k : IntKind} {a b : Int} {x y : Operand} {t t' : TypeId} [hx : EvO N τ x (.int k a)] [hy : EvO N τ y (.int k b)]
include hx hy
theorem v_eqlT (h : a = b) : Val P r N S (.binOp .eql t x y t') ty τ w (.bool true) := by
  have := v_eql (P := P) (r := r) (N := N) (S := S) (τ := τ) (w := w) (ty := ty) (t := t) (t' := t') (hx := hx) (hy := hy)
  rwa [decide_eq_true h] at this
theorem v_neqF (h : a = b) : Val P r N S (.binOp .neq t x y t') ty τ w (.bool false) := by
  have := v_neq (P := P) (r := r) (N := N) (S := S) (τ := τ) (w := w) (ty := ty) (t := t) (t' := t') (hx := hx) (hy := hy)
  rwa [decide_eq_true h] at this
theorem v_neqT (h : a ≠ b) : Val P r N S (.binOp .neq t x y t') ty τ w (.bool true) := by
  have := v_neq (P := P) (r := r) (N := N) (S := S) (τ := τ) (w := w) (ty := ty) (t := t) (t' := t') (hx := hx) (hy := hy)
  rwa [decide_eq_false h] at this
theorem v_eqlF (h : a ≠ b) : Val P r N S (.binOp .eql t x y t') ty τ w (.bool false) := by
  have := v_eql (P := P) (r := r) (N := N) (S := S) (τ := τ) (w := w) (ty := ty) (t := t) (t' := t') (hx := hx) (hy := hy)
  rwa [decide_eq_false h] at this
end
section
variable {κ : Type} [DecidableEq κ] {enc : κ → Value} {kvs : List (κ × Value)} {b : Nat} {kt et t : TypeId}
theorem v_lookup2v {x y : Operand} {sz bytes : Nat} {z u : Value} (k : κ) (q : Value) (c : Bool) [hx : EvO N τ x (.map (some b))] [hy : EvO N τ y u] [hu : Und P t (.map kt et)] [hm : MapI w b κ enc kvs] [hk : KeyE P kt enc] [hi : Inf P et sz bytes z] [hs : NotS S b] (he : u = enc k) (h1 : (akey kvs k).getD z = q) (h2 : (akey kvs k).isSome = c) :
    Val P r N S (.lookup t x y true) ty τ w (.tuple #[q, .bool c]) := by
  subst h1; subst h2
  exact v_lookup2 k he
theorem v_lookup1v {x y : Operand} {sz bytes : Nat} {z u : Value} (k : κ) (q : Value) [hx : EvO N τ x (.map (some b))] [hy : EvO N τ y u] [hu : Und P t (.map kt et)] [hm : MapI w b κ enc kvs] [hk : KeyE P kt enc] [hi : Inf P et sz bytes z] [hs : NotS S b] (he : u = enc k) (h1 : (akey kvs k).getD z = q) :
    Val P r N S (.lookup t x y false) ty τ w q := by
  subst h1
  exact v_lookup1 k he
end
end laws

def SlsF (vs : List Value) : Nat → Prop := fun k => ∃ v, v ∈ vs ∧ v.ownBlock = some k
structure Sls (w : World) (e : TypeId) (sz : Nat) (vs : List Value) (xss : List (List Value)) : Prop where
  len : vs.length = xss.length
  own : ∀ (i : Nat) (v : Value) (xs : List Value), vs[i]? = some v → xss[i]? = some xs → ∃ n, w.ownsRow 0 e sz v n xs
  apart : ∀ (i j : Nat) (v u : Value) (k : Nat), vs[i]? = some v → vs[j]? = some u → v.ownBlock = some k → u.ownBlock = some k → i = j
theorem Sls.lt {w : World} {e : TypeId} {sz : Nat} {vs : List Value} {xss : List (List Value)} (h : Sls w e sz vs xss) : ∀ k, SlsF vs k → k < w.heap.size := by
  rintro k ⟨v, hv, hk⟩
  obtain ⟨i, hi, rfl⟩ := List.mem_iff_getElem.1 hv
  have hi' : i < xss.length := by rw [← h.len]; exact hi
  obtain ⟨n, ho⟩ := h.own i _ xss[i] (List.getElem?_eq_getElem hi) (List.getElem?_eq_getElem hi')
  exact (ho.lt k hk).2
theorem Sls.keep {w w' : World} {S : Nat → Prop} {e : TypeId} {sz : Nat} {vs : List Value} {xss : List (List Value)} (h : Sls w e sz vs xss) (hk : Keep S w w') (hs : ∀ k, SlsF vs k → ¬ S k) : Sls w' e sz vs xss :=
  ⟨h.len, fun i v xs hv hx => by
    obtain ⟨n, ho⟩ := h.own i v xs hv hx
    exact ⟨n, own_keep ho hk (fun k hk => hs k ⟨v, List.mem_of_getElem? hv, hk⟩)⟩, h.apart⟩
theorem Sls.set {w w' : World} {e : TypeId} {sz : Nat} {vs : List Value} {xss : List (List Value)} (h : Sls w e sz vs xss) {i : Nat} {v v' : Value} {xs' : List Value} {n' : Nat} (hv : vs[i]? = some v) (ho : w'.ownsRow 0 e sz v' n' xs')
    (hk : ∀ k, SlsF vs k → v.ownBlock ≠ some k → w'.heap[k]? = w.heap[k]?) (hn : v'.ownBlock = v.ownBlock ∨ ∃ k, v'.ownBlock = some k ∧ w.heap.size ≤ k) : Sls w' e sz (vs.set i v') (xss.set i xs') := by
  have hil : i < vs.length := (List.getElem?_eq_some_iff.1 hv).1
  refine ⟨by simp [h.len], ?_, ?_⟩
  · intro j u ys hu hy
    rw [List.getElem?_set] at hu hy
    by_cases hij : i = j
    · subst hij
      rw [if_pos rfl, if_pos hil] at hu
      rw [if_pos rfl, if_pos (h.len ▸ hil)] at hy
      cases hu; cases hy
      exact ⟨n', ho⟩
    · rw [if_neg hij] at hu hy
      obtain ⟨n, ho2⟩ := h.own j u ys hu hy
      refine ⟨n, ho2.1, ?_⟩
      rcases ho2.2 with hnil | ⟨g, cap, cur, rfl, hb, hg, rest⟩
      · exact .inl hnil
      · refine .inr ⟨g, cap, cur, rfl, hb, ?_, rest⟩
        rw [hk g ⟨_, List.mem_of_getElem? hu, rfl⟩ (fun e => hij (h.apart i j v _ g hv hu e rfl))]
        exact hg
  · have fresh : ∀ (j : Nat) (u : Value) (k : Nat), vs[j]? = some u → u.ownBlock = some k → v'.ownBlock = some k → i = j := fun j u k hu hk1 hk2 => by
      rcases hn with hn | ⟨k', hn, hge⟩
      · exact h.apart i j v u k hv hu (hn ▸ hk2) hk1
      · have := h.lt k ⟨u, List.mem_of_getElem? hu, hk1⟩
        rw [hn] at hk2
        cases hk2
        omega
    intro j1 j2 u1 u2 k h1 h2 k1 k2
    rw [List.getElem?_set] at h1 h2
    by_cases e1 : i = j1 <;> by_cases e2 : i = j2
    · exact e1.symm.trans e2
    · subst e1
      rw [if_pos rfl, if_pos hil] at h1
      rw [if_neg e2] at h2
      cases h1
      exact fresh j2 u2 k h2 k2 k1
    · subst e2
      rw [if_pos rfl, if_pos hil] at h2
      rw [if_neg e1] at h1
      cases h2
      exact (fresh j1 u1 k h1 k1 k2).symm
    · rw [if_neg e1] at h1
      rw [if_neg e2] at h2
      exact h.apart j1 j2 u1 u2 k h1 h2 k1 k2
theorem slsF_set {vs : List Value} {i : Nat} {v' : Value} {k : Nat} (h : SlsF (vs.set i v') k) : SlsF vs k ∨ v'.ownBlock = some k := by
  obtain ⟨u, hu, hk⟩ := h
  rcases List.mem_or_eq_of_mem_set hu with h | rfl
  · exact .inl ⟨u, h, hk⟩
  · exact .inr hk
theorem Sls.nils (w : World) (e : TypeId) (sz n : Nat) : Sls w e sz (List.replicate n (.slice none 0 0)) (List.replicate n []) := by
  refine ⟨by simp, ?_, ?_⟩
  · intro i v xs hv hx
    simp only [List.getElem?_replicate] at hv hx
    split at hv
    · rename_i hlt
      rw [if_pos hlt] at hx
      cases hv; cases hx
      exact ⟨0, World.ownsRow_nil _ _ _ _⟩
    · cases hv
  · intro i j v u k hv hu hk _
    simp only [List.getElem?_replicate] at hv
    split at hv
    · cases hv; cases hk
    · cases hv
theorem slsF_nils {n k : Nat} : ¬ SlsF (List.replicate n (.slice none 0 0)) k := by
  rintro ⟨v, hv, hk⟩
  obtain ⟨_, rfl⟩ := List.mem_replicate.1 hv
  cases hk

def idx {α : Type} (p : α → Bool) (xs : List α) : Int := match xs.findIdx? p with | some i => (i : Int) | none => -1
theorem idx_found {α : Type} {p : α → Bool} {xs : List α} {k : Nat} (hk : k < xs.length) (h0 : ∀ j (h : j < xs.length), j < k → p xs[j] = false) (h1 : p xs[k] = true) : idx p xs = k := by
  have : xs.findIdx? p = some k := by rw [List.findIdx?_eq_some_iff_getElem]; exact ⟨hk, h1, fun j hj => by simp [h0 j (by omega) hj]⟩
  simp [idx, this]
theorem idx_none {α : Type} {p : α → Bool} {xs : List α} (h0 : ∀ j (h : j < xs.length), p xs[j] = false) : idx p xs = -1 := by
  have : xs.findIdx? p = none := by
    rw [List.findIdx?_eq_none_iff]
    intro x hx
    obtain ⟨j, hj, rfl⟩ := List.mem_iff_getElem.1 hx
    exact h0 j hj
  simp [idx, this]
theorem idx_any {α : Type} (p : α → Bool) (xs : List α) : decide (0 ≤ idx p xs) = xs.any p := by
  unfold idx
  cases h : xs.findIdx? p with
  | none =>
    rw [List.findIdx?_eq_none_iff] at h
    have : xs.any p = false := by rw [List.any_eq_false]; intro x hx; simp [h x hx]
    simp [this]
  | some i =>
    rw [List.findIdx?_eq_some_iff_getElem] at h
    obtain ⟨hi, hp, _⟩ := h
    have : xs.any p = true := List.any_eq_true.2 ⟨_, List.getElem_mem hi, hp⟩
    simp [this]
theorem idx_lt {α : Type} {p : α → Bool} {xs : List α} : -1 ≤ idx p xs ∧ idx p xs < xs.length ∨ idx p xs = -1 := by
  unfold idx
  cases h : xs.findIdx? p with
  | none => exact .inr rfl
  | some i =>
    rw [List.findIdx?_eq_some_iff_getElem] at h
    obtain ⟨hi, _⟩ := h
    have h0 : (0 : Int) ≤ (i : Int) := by omega
    refine .inl ⟨?_, ?_⟩ <;> simp only [] <;> omega
theorem mapIdx_const {α β : Type} (f : α → β) (xs : List α) : xs.mapIdx (fun _ v => f v) = xs.map f := by
  apply List.ext_getElem?
  intro i
  simp [List.getElem?_mapIdx]
theorem take_snoc {α : Type} (xs : List α) (k : Nat) (h : k < xs.length) : xs.take (k + 1) = xs.take k ++ [xs[k]] := by
  rw [List.take_succ_eq_append_getElem h]
theorem idx_cases {α : Type} (p : α → Bool) (xs : List α) : (idx p xs = -1 ∧ ∀ x ∈ xs, p x = false) ∨ ∃ k : Nat, ∃ h : k < xs.length, idx p xs = (k : Int) ∧ p xs[k] = true ∧ ∀ x ∈ xs.take k, p x = false := by
  unfold idx
  cases h : xs.findIdx? p with
  | none => exact .inl ⟨rfl, by simpa [List.findIdx?_eq_none_iff] using h⟩
  | some i =>
    rw [List.findIdx?_eq_some_iff_getElem] at h
    obtain ⟨hi, hp, hlt⟩ := h
    refine .inr ⟨i, hi, rfl, hp, fun x hx => ?_⟩
    obtain ⟨j, hj, rfl⟩ := List.mem_iff_getElem.1 hx
    simp only [List.length_take] at hj
    rw [List.getElem_take]
    simpa using hlt j (by omega)
theorem filter_none {α : Type} {p : α → Bool} {xs : List α} (h : ∀ x ∈ xs, p x = false) : xs.filter (fun x => !p x) = xs := by
  rw [List.filter_eq_self]
  intro x hx
  simp [h x hx]

def NewS (w : World) : Nat → Prop := fun k => w.heap.size ≤ k
instance notS_newS (w : World) (b : Nat) [h : Has w b] : NotS (NewS w) b := ⟨fun e => Nat.lt_irrefl _ (Nat.lt_of_lt_of_le h.lt e)⟩
instance subS_newS (w w' : World) (b : Nat) [h : New b w'] [g : Ge w' w] : SubS (OneB b) (NewS w) := ⟨fun k e => by
  have h1 := h.eq
  have h2 := g.le
  have h3 : k = b := e
  show w.heap.size ≤ k
  omega⟩
instance subF_ownNew (v : Value) (w0 w w' : World) [h : OwnA v w0] [g : Ge w0 w] : SubF (OwnB v) (NewS w) w' := ⟨fun k _ e => Nat.le_trans g.le (h.le k (Eq.symm e))⟩
instance subS_ownNew (v : Value) (w0 w : World) [h : OwnA v w0] [g : Ge w0 w] : SubS (OwnB v) (NewS w) := ⟨fun k e => Nat.le_trans g.le (h.le k (Eq.symm e))⟩
instance notS_ownSome (b0 b o n c : Nat) (sp : Option Nat) [h : NeB b b0] : NotS (OwnB (.slice (some ⟨b0, o, sp⟩) n c)) b := ⟨fun e => by
  have h1 : some b = some b0 := e
  exact h.ne (Option.some.inj h1)⟩
instance rowOut_some (S : Nat → Prop) (b o : Nat) (sp : Option Nat) [h : NotS S b] : RowOut S (some ⟨b, o, sp⟩) := ⟨fun a e => by cases e; exact h.not⟩
instance subF_or (S T U : Nat → Prop) (w : World) [h : SubF S U w] [k : SubF T U w] : SubF (fun i => S i ∨ T i) U w := ⟨fun i hi e => e.elim (h.sub i hi) (k.sub i hi)⟩
instance notS_or (S T : Nat → Prop) (b : Nat) [h : NotS S b] [k : NotS T b] : NotS (fun i => S i ∨ T i) b := ⟨fun e => e.elim h.not k.not⟩

theorem flat_len {α : Type} {enc : α → List Value} {sz : Nat} (hsz : ∀ x, (enc x).length = sz) (xs : List α) : (xs.flatMap enc).length = xs.length * sz := by
  induction xs with
  | nil => simp
  | cons x xs ih => rw [List.flatMap_cons, List.length_append, ih, hsz, List.length_cons, Nat.add_mul]; omega
theorem flat_get {α : Type} {enc : α → List Value} {sz : Nat} (hsz : ∀ x, (enc x).length = sz) : ∀ (xs : List α) (k : Nat) (h : k < xs.length) (i : Nat) (u : Value), (enc xs[k])[i]? = some u → (xs.flatMap enc)[k * sz + i]? = some u
  | [], _, h, _, _, _ => by simp at h
  | x :: xs, 0, _, i, u, hu => by
    have hu' : (enc x)[i]? = some u := hu
    have hi := (List.getElem?_eq_some_iff.1 hu').1
    rw [List.flatMap_cons, Nat.zero_mul, Nat.zero_add, List.getElem?_append_left hi]
    exact hu'
  | x :: xs, k + 1, h, i, u, hu => by
    have ih := flat_get hsz xs k (by simpa using h) i u (by simpa using hu)
    rw [List.flatMap_cons, List.getElem?_append_right (by rw [hsz, Nat.add_mul]; omega), hsz]
    rw [← ih]
    congr 1
    rw [Nat.add_mul]; omega
theorem flat_take {α : Type} {enc : α → List Value} {sz : Nat} (hsz : ∀ x, (enc x).length = sz) : ∀ (xs : List α) (k : Nat), (xs.take k).flatMap enc = (xs.flatMap enc).take (k * sz)
  | [], k => by simp
  | x :: xs, 0 => by simp
  | x :: xs, k + 1 => by
    rw [List.take_succ_cons, List.flatMap_cons, List.flatMap_cons, flat_take hsz xs k, List.take_append, hsz]
    rw [List.take_of_length_le (l := enc x) (by rw [hsz, Nat.add_mul]; omega)]
    have : (k + 1) * sz - sz = k * sz := by rw [Nat.add_mul]; omega
    rw [this]
theorem flat_drop {α : Type} {enc : α → List Value} {sz : Nat} (hsz : ∀ x, (enc x).length = sz) : ∀ (xs : List α) (k : Nat), (xs.drop k).flatMap enc = (xs.flatMap enc).drop (k * sz)
  | [], k => by simp
  | x :: xs, 0 => by simp
  | x :: xs, k + 1 => by
    rw [List.drop_succ_cons, List.flatMap_cons, flat_drop hsz xs k, List.drop_append, hsz]
    rw [List.drop_of_length_le (l := enc x) (by rw [hsz, Nat.add_mul]; omega), List.nil_append]
    have : (k + 1) * sz - sz = k * sz := by rw [Nat.add_mul]; omega
    rw [this]
def setL (l : List Value) (off : Nat) (vs : List Value) : List Value := l.take off ++ vs ++ l.drop (off + vs.length)
theorem flat_set {α : Type} {enc : α → List Value} {sz : Nat} (hsz : ∀ x, (enc x).length = sz) : ∀ (xs : List α) (k : Nat) (x : α), k < xs.length → setL (xs.flatMap enc) (k * sz) (enc x) = (xs.set k x).flatMap enc
  | [], _, _, h => by simp at h
  | y :: xs, 0, x, _ => by
    have : (enc x).length = (enc y).length := by rw [hsz, hsz]
    simp [setL, this]
  | y :: xs, k + 1, x, h => by
    have ih := flat_set hsz xs k x (by simpa using h)
    rw [List.set_cons_succ, List.flatMap_cons, List.flatMap_cons, ← ih]
    have e1 : (k + 1) * sz = (enc y).length + k * sz := by rw [hsz, Nat.add_mul]; omega
    unfold setL
    rw [e1]
    have e2 : (enc y).take ((enc y).length + k * sz) = enc y := List.take_of_length_le (by omega)
    have e3 : (enc y).drop ((enc y).length + (k * sz + (enc x).length)) = [] := List.drop_of_length_le (by omega)
    simp [List.take_append, List.drop_append, Nat.add_assoc, e2, e3]
theorem row_drop {w : World} {A : Option Addr} {cs : List Value} {n c k sz : Nat} (h : RowP w A cs) (hl : cs.length = n * sz) (hn : n ≤ c) : RowP w (if c = k then A else A.map (·.add (k * sz))) (cs.drop (k * sz)) := by
  intro j v hv
  rw [List.getElem?_drop] at hv
  have hlt := (List.getElem?_eq_some_iff.1 hv).1
  have hne : ¬ c = k := fun e => by
    subst e
    have := Nat.mul_le_mul_right sz hn
    omega
  obtain ⟨a, rfl, ha⟩ := h _ v hv
  rw [if_neg hne]
  exact ⟨a.add (k * sz), rfl, by rw [add_add]; exact ha⟩
theorem row_take {w : World} {A : Option Addr} {cs : List Value} (h : RowP w A cs) (m : Nat) : RowP w A (cs.take m) := by
  intro j v hv
  rw [List.getElem?_take] at hv
  split at hv
  · exact h j v hv
  · cases hv

section
variable {P : Program} {N : Nat} {τ : Tau} {w : World} {ty : TypeId} {v : Value}
theorem setMany_toList : ∀ (vs : List Value) (cs : Array Value) (off : Nat), off + vs.length ≤ cs.size → (setMany cs off vs).toList = setL cs.toList off vs
  | [], cs, off, _ => by simp [setMany, setL]
  | v :: vs, cs, off, h => by
    simp only [List.length_cons] at h
    rw [setMany, setMany_toList vs _ (off + 1) (by simp; omega)]
    unfold setL
    rw [Array.toList_setIfInBounds]
    have hlt : off < cs.toList.length := by simp; omega
    have e1 : (cs.toList.set off v).take (off + 1) = cs.toList.take off ++ [v] := by
      rw [List.take_set, List.take_succ_eq_append_getElem hlt, List.set_append_right _ _ (by simp; omega)]
      have : off - (cs.toList.take off).length = 0 := by simp; omega
      rw [this]; rfl
    have e2 : (cs.toList.set off v).drop (off + 1 + vs.length) = cs.toList.drop (off + (v :: vs).length) := by
      rw [List.drop_set_of_lt (by omega)]
      congr 1
      simp; omega
    rw [e1, e2]
    simp
theorem setL_len {l vs : List Value} {off : Nat} (h : off + vs.length ≤ l.length) : (setL l off vs).length = l.length := by simp [setL]; omega
theorem setL_take {l vs : List Value} {off m : Nat} (h : off + vs.length ≤ m) (hm : m ≤ l.length) : (setL l off vs).take m = setL (l.take m) off vs := by
  unfold setL
  have hl : (l.take off ++ vs).length = off + vs.length := by simp; omega
  rw [List.take_append, hl, List.take_of_length_le (by rw [hl]; exact h), List.take_take, List.drop_take, Nat.min_eq_left (by omega)]
theorem e_storeOwn {t e : TypeId} {x y : Operand} {base sz n cap j m bytes : Nat} {z : Value} {A : Option Addr} {xs vs : List Value} {G : World → Prop} [hx : EvO N τ x (padd A j)] [hy : EvO N τ y v] [hc : Cells v vs.toArray] [h1 : Cell1L vs] [hi : Inf P t m bytes z] [hn : LenL vs m]
    (hown : w.ownsRow base e sz (.slice A n cap) n xs) (hj : j + m ≤ n * sz) (hm : 0 < m) (h : ∀ w', Lk w' w (OwnB (.slice A n cap)) → w'.ownsRow base e sz (.slice A n cap) n (setL xs j vs) → G w') : EffS P N (OwnB (.slice A n cap)) (.store t x y) ty τ w G := by
  obtain ⟨i, h5, h6, h7, h8⟩ := hi.ex
  rcases hown.2 with ⟨he, hn0⟩ | ⟨g, cap', cur, he, hb, hg, hnc, hcm, hcs, htk⟩
  · rw [hn0] at hj; omega
  · cases he
    have hle : n * sz ≤ cap * sz := Nat.mul_le_mul_right _ hnc
    have hsz : vs.toArray.size = i.size := by rw [h6, ← hn.eq]; simp
    obtain ⟨W', r1, r2, r3⟩ := run_storeMany (P := P) vs j 0 cur w hg h1.eq (by rw [hn.eq]; omega)
    have hk : Keep (OwnB (.slice (some ⟨g, 0, none⟩) n cap)) w W' := r2.mono (fun k _ e => by have : k = g := e; subst this; rfl)
    refine ⟨fun _ => nofun, W', ?_, hk, h W' ⟨hk⟩ ⟨?_, .inr ⟨g, cap, _, rfl, hb, r3, hnc, hcm, ?_, ?_⟩⟩⟩
    · have ha : (⟨g, 0, none⟩ : Addr).add j = ⟨g, j, none⟩ := by rw [add_none]; simp
      have e9 : v.cells.size = i.size := by rw [hc.eq, hsz]
      have e10 : v.cells.toList = vs := by rw [hc.eq]
      simp [execOp, hx.eq, hy.eq, padd, ha, Instr.storeAt, Instr.sureAddr, storeVar, sizeOf, typeInfo, program, Sem.run, h5, e9, e10, r1]
    · rw [setL_len (by rw [hown.1, hn.eq]; exact hj)]; exact hown.1
    · rw [size_setMany]; exact hcs
    · rw [setMany_toList vs cur (j + 0) (by rw [hn.eq]; omega), Nat.add_zero, setL_take (by rw [hn.eq]; exact hj) (by simp [hcs]; exact hle), htk]
theorem e_clearEnd {t e : TypeId} {x : Operand} {base sz bytes n cap k : Nat} {z : Value} {zc : Array Value} {A B : Option Addr} {m c : Nat} {xs : List Value} {G : Value → World → Prop} [hx : EvO N τ x (.slice B m c)] [hu : Und P t (.slice e)] [hi : Inf P e sz bytes z] [hz : Cells z zc] [hzs : Siz zc sz]
    (hown : w.ownsRow base e sz (.slice A n cap) n xs) (hB : B = if cap = k then A else A.map (·.add (k * sz))) (hm : m = n - k) (hk : k ≤ n) (h1 : ∀ u ∈ zc.toList, u.oneCell' = true) (hpos : 0 < sz)
    (h : ∀ w', Lk w' w (OwnB (.slice A n cap)) → w'.ownsRow base e sz (.slice A k cap) k (xs.take (k * sz)) → G (.tuple #[]) w') : EffV P N (OwnB (.slice A n cap)) (.call { callee := .builtin .clear, args := #[x], argTypes := #[t] }) ty τ w G := by
  obtain ⟨i, h5, h6, h7, h8⟩ := hi.ex
  have hln : (xs.take (k * sz)).length = k * sz := by rw [List.length_take, hown.1]; have := Nat.mul_le_mul_right sz hk; omega
  rcases hown.2 with ⟨he, hn0⟩ | ⟨g, cap', cur, he, hb, hg, hnc, hcm, hcs, htk⟩
  · cases he
    have hk0 : k = 0 := by omega
    have hm0 : m = 0 := by omega
    subst hk0; subst hm0
    have hBn : B = none := by rw [hB]; simp
    subst hBn
    refine ⟨fun _ => nofun, _, w, ?_, Keep.refl _ _, h w ⟨Keep.refl _ _⟩ ⟨by simp, .inl ⟨rfl, rfl⟩⟩⟩
    simp [execOp, resolve, invoke, builtin, hx.eq, Builtin.clear_, run_underlying hu.eq]
  · cases he
    by_cases hm0 : m = 0
    · subst hm0
      have hkn : k = n := by omega
      subst hkn
      refine ⟨fun _ => nofun, _, w, ?_, Keep.refl _ _, h w ⟨Keep.refl _ _⟩ ⟨hln, .inr ⟨g, cap, cur, rfl, hb, hg, hnc, hcm, hcs, by rw [← htk, List.take_take]; simp⟩⟩⟩
      cases B <;> simp [execOp, resolve, invoke, builtin, hx.eq, Builtin.clear_, run_underlying hu.eq]
    · have hne : ¬ cap = k := by omega
      rw [if_neg hne] at hB
      simp only [Option.map_some, add_none, Nat.zero_add] at hB
      subst hB
      have hle : n * sz ≤ cap * sz := Nat.mul_le_mul_right _ hnc
      have hzl : (Builtin.zeroCells zc m).toList.length = m * sz := by rw [Array.length_toList, size_zeroCells, hzs.eq]
      have hzz : ∀ u ∈ (Builtin.zeroCells zc m).toList, u.oneCell' = true := by
        intro u hu
        simp only [Builtin.zeroCells, Array.toList_map, List.mem_map] at hu
        obtain ⟨j, hj, rfl⟩ := hu
        have hj' : j % zc.size < zc.size := Nat.mod_lt _ (by rw [hzs.eq]; exact hpos)
        rw [getElem!_pos zc (j % zc.size) hj']
        exact h1 _ (by simp)
      have hsum : k * sz + m * sz = n * sz := by rw [← Nat.add_mul]; congr 1; omega
      obtain ⟨W', r1, r2, r3⟩ := run_storeMany (P := P) (Builtin.zeroCells zc m).toList (k * sz) 0 cur w hg hzz (by rw [hzl, hcs]; omega)
      have hkp : Keep (OwnB (.slice (some ⟨g, 0, none⟩) n cap)) w W' := r2.mono (fun k _ e => by have : k = g := e; subst this; rfl)
      refine ⟨fun _ => nofun, _, W', ?_, hkp, h W' ⟨hkp⟩ ⟨hln, .inr ⟨g, cap, _, rfl, hb, r3, by omega, hcm, by rw [size_setMany]; exact hcs, ?_⟩⟩⟩
      · have hm1 : ∃ m', m = m' + 1 := ⟨m - 1, by omega⟩
        obtain ⟨m', rfl⟩ := hm1
        simp [execOp, resolve, invoke, builtin, hx.eq, Builtin.clear_, run_underlying hu.eq, zeroValue, typeInfo, program, Sem.run, h5, h8, hz.eq, r1]
      · rw [setMany_toList _ _ _ (by rw [hzl, hcs]; omega), Nat.add_zero, ← htk, List.take_take]
        unfold setL
        have hc2 : k * sz ≤ cur.toList.length := by rw [Array.length_toList, hcs]; omega
        rw [List.append_assoc, List.take_append_of_le_length (by simp; omega), List.take_of_length_le (by simp; omega)]
        congr 1
        omega
end

def Sub (F E : Nat → Prop) (w : World) : Prop := ∀ k, F k → E k ∨ w.heap.size ≤ k
theorem Sub.refl (F : Nat → Prop) (w : World) : Sub F F w := fun _ h => .inl h
theorem Sub.trans {F E D : Nat → Prop} {w w' : World} (h : Sub F E w') (k : Sub E D w) (hs : w.heap.size ≤ w'.heap.size) : Sub F D w := fun i hi => (h i hi).elim (fun h => k i h) (fun h => .inr (Nat.le_trans hs h))
end Go.Wst
set_option linter.all false
namespace Go.Wst

def CallV (P : Program) (g : Value) (vs : List Value) (w : World) (R : Value → World → Prop) : Prop :=
  (∃ f a c, g = .func (.func f) a c ∧ Fun P f ∧ Ret P f (a ++ vs.toArray ++ c) w R) ∨
  (∃ l f tmps assign body, g = .func (.yield l) #[] #[] ∧ (Instr.yield l vs.toArray).run P w = .ok (.round l f tmps assign body) w ∧ RoundIn (FX none) 0 P l f tmps assign body w (fun e w' => ∃ v, e = .returned v ∧ R v w'))
theorem CallV.mono {P : Program} {g : Value} {vs : List Value} {w : World} {R R' : Value → World → Prop} (h : CallV P g vs w R) (hr : ∀ v w', R v w' → R' v w') : CallV P g vs w R' := by
  rcases h with ⟨f, a, c, h1, h2, h3⟩ | ⟨l, f, t, as, bd, h1, h2, h3⟩
  · exact .inl ⟨f, a, c, h1, h2, h3.mono hr⟩
  · exact .inr ⟨l, f, t, as, bd, h1, h2, h3.mono fun _ _ ⟨v, he, hv⟩ => ⟨v, he, hr _ _ hv⟩⟩
theorem CallV.of_ret {P : Program} {f : FuncId} {a c vs as as2 : List Value} {w : World} {R : Value → World → Prop} [hf : Fun P f] [h1 : App a vs as] [h2 : App as c as2] (h : Ret P f as2.toArray w R) : CallV P (.func (.func f) a.toArray c.toArray) vs w R :=
  .inl ⟨f, _, _, rfl, hf, by have e : a.toArray ++ vs.toArray ++ c.toArray = as2.toArray := by rw [← h2.eq, ← h1.eq]; simp
                             rw [e]; exact h⟩
section laws
variable {P : Program} {r : Option Nat} {N : Nat} {S T U : Nat → Prop} {Q : Post} {τ : Tau} {ds : List Deferred} {w : World} {ty : TypeId} {ops : Array Oper} {rest : List Oper} {pos : String} {aft : Array Edge} {d : Nat} {v : Value} {op : Op}
theorem OpE_callv {g : Operand} {args : List Operand} {at_ : Array TypeId} {gv : Value} {vs : List Value} {R : Value → World → Prop} {K : Tau → List Deferred → World → Prop} {dst : Option Nat}
    [hg : EvO N τ g gv] [hv : EvL N τ args vs] (hc : CallV P gv vs w R) (h : ∀ v w', R v w' → K (updO τ dst v) ds w') : OpE P r N ops ⟨dst, .call { callee := .value g, args := args.toArray, argTypes := at_ }, ty, pos, aft, none⟩ Q τ ds w K := by
  have e1 : (args.toArray.map (evO N τ)) = vs.toArray := by simp [hv.eq]
  unfold OpE
  rw [if_pos (by rfl), semAt_op _ (fun c h => by cases h)]
  rcases hc with ⟨f, a, c, rfl, hf, h3⟩ | ⟨l, f, t, as, bd, rfl, h2, h3⟩
  · obtain ⟨fn, cc, hfn, hnm, hb⟩ := hf.ex
    have hr : (execOp (evO N τ) ⟨none, .call { callee := .value g, args := args.toArray, argTypes := at_ }, ty, "", #[], none⟩).run P w = .ok (.enter f (a ++ vs.toArray ++ c)) w := by
      simp only [execOp, resolve, Sem.run_bind, hg.eq, Deferred.ofValue, e1, invoke, callFunc, program, Sem.run, hfn, hnm, hb, Sem.run_pure, Result.andThen_ok, beq_iff_eq, if_false, Option.isNone_some, Bool.false_eq_true]
    rw [hr]
    exact Calls.mono h3 fun e w'' ⟨v, he, hR⟩ => .inl ⟨v, he, h v w'' hR⟩
  · have hr : (execOp (evO N τ) ⟨none, .call { callee := .value g, args := args.toArray, argTypes := at_ }, ty, "", #[], none⟩).run P w = .ok (.round l f t as bd) w := by
      simp only [execOp, resolve, Sem.run_bind, hg.eq, Deferred.ofValue, e1, invoke, Sem.run_pure, Result.andThen_ok, Array.empty_append, h2]
    rw [hr]
    exact RoundIn.mono (F := FX r) h3 fun e w'' ⟨v, he, hR⟩ => .inl ⟨v, he, h v w'' hR⟩
theorem xl_callv {g : Operand} {args : List Operand} {at_ : Array TypeId} {gv : Value} {vs : List Value} {R : Value → World → Prop} [hg : EvO N τ g gv] [hv : EvL N τ args vs]
    (hc : CallV P gv vs w R) (h : ∀ v w', R v w' → XL P r N ops Q rest (upd τ d v) ds w') : XL P r N ops Q (⟨some d, .call { callee := .value g, args := args.toArray, argTypes := at_ }, ty, pos, aft, none⟩ :: rest) τ ds w := OpE_callv hc h
theorem xl_callv0 {g : Operand} {args : List Operand} {at_ : Array TypeId} {gv : Value} {vs : List Value} {R : Value → World → Prop} [hg : EvO N τ g gv] [hv : EvL N τ args vs]
    (hc : CallV P gv vs w R) (h : ∀ v w', R v w' → XL P r N ops Q rest τ ds w') : XL P r N ops Q (⟨none, .call { callee := .value g, args := args.toArray, argTypes := at_ }, ty, pos, aft, none⟩ :: rest) τ ds w := OpE_callv hc h
theorem xt_callv {p : Plan} {i : Nat} {pos' : String} {aft' : Array Edge} {g : Operand} {args : List Operand} {at_ : Array TypeId} {gv : Value} {vs : List Value} {R : Value → World → Prop} (hi : ops[i]? = some ⟨some d, .call { callee := .value g, args := args.toArray, argTypes := at_ }, ty, pos', aft', none⟩) [hg : EvO N τ g gv] [hv : EvL N τ args vs]
    (hc : CallV P gv vs w R) (h : ∀ v w', R v w' → Keep S w w' ∧ XT P r N ops Q S U p (upd τ d v) ds w') : XT P r N ops Q S U (.eff i p) τ ds w := by
  show match ops[i]? with | some o => OpE P r N ops o Q τ ds w (fun τ' ds' w' => Keep S w w' ∧ XT P r N ops Q S U p τ' ds' w') | none => False
  rw [hi]
  exact OpE_callv hc h
end laws

abbrev Seen := List (List Value)
structure Stable (I : Seen → (Nat → Prop) → World → Prop) (w0 : World) : Prop where
  lt : ∀ pre F W, I pre F W → ∀ k, F k → k < W.heap.size
  keep : ∀ pre F W W' S, I pre F W → Keep S W W' → (∀ k, F k → ¬ S k) → (∀ k, S k → w0.heap.size ≤ k) → I pre F W'
structure YieldsI (P : Program) (y : Value) (Al : Seen → Prop) (I J : Seen → (Nat → Prop) → World → Prop) (w0 : World) : Prop where
  i : Stable I w0
  j : Stable J w0
  step : ∀ pre v F W, Al (pre ++ [v]) → I pre F W → CallV P y v W (fun r W' => ∃ b F', r = .bool b ∧ (if b = true then I (pre ++ [v]) F' W' else J (pre ++ [v]) F' W') ∧ Keep F W W' ∧ Sub F' F W)
def IterI (P : Program) (g : Value) (Own : Nat → Prop) (Al Fin : Seen → Prop) (w : World) : Prop :=
  ∀ y I J F w0, YieldsI P y Al I J w0 → w0.heap.size ≤ w.heap.size → I [] F w → (∀ k, F k → ¬ Own k) → CallV P g [y] w (fun _ w' => ∃ pre F', ((Fin pre ∧ I pre F' w') ∨ J pre F' w') ∧ Keep F w w' ∧ Sub F' F w)

def updL (τ : Tau) : List Nat → List Value → Tau
  | p :: ps, v :: vs => updL (upd τ p v) ps vs
  | _, _ => τ
theorem rel_zip {N : Nat} : ∀ (ps : List Nat) (vs : List Value) (τ : Tau) (tmps : Array Value), Rel N τ [] ⟨tmps, []⟩ → Rel N (updL τ ps vs) [] ⟨(ps.zip vs).foldl (fun t (p : Nat × Value) => t.setIfInBounds p.1 p.2) tmps, []⟩
  | [], vs, τ, tmps, h => by cases vs <;> exact h
  | _ :: _, [], τ, tmps, h => h
  | p :: ps, v :: vs, τ, tmps, h => rel_zip ps vs (upd τ p v) (tmps.setIfInBounds p v) (h.put (some p) v)
def roundQ (I : Seen → (Nat → Prop) → World → Prop) (J : Exit → Seen → (Nat → Prop) → World → Prop) (pre : Seen) (F : Nat → Prop) (W : World) : Post
  | .normal, _, _, W' => ∃ F', I pre F' W' ∧ Keep F W W' ∧ Sub F' F W
  | .ret, _, _, W' => ∃ F', J .ret pre F' W' ∧ Keep F W W' ∧ Sub F' F W
  | .exit id, _, _, W' => ∃ F', J (.exit id) pre F' W' ∧ Keep F W W' ∧ Sub F' F W
  | _, _, _, _ => False
def codeOf : Exit → Option Code
  | .ret => some .ret
  | .exit id => some (.exit id)
  | _ => none
def markOf (D : Nat) : Deferred := { target := .collected D, args := #[] }

theorem keep_putObj (w : World) (b : Nat) (o : Obj) : Keep (OneB b) w (w.putObj b o) := ⟨rfl, rfl, rfl, by simp [World.putObj], fun k _ hk => World.putObj_heap_other (fun e => hk e)⟩

theorem x_range {P : Program} {N : Nat} {Q : Post} {τ : Tau} {ds : List Deferred} {w : World} {g : Operand} {gf : FuncId} {ga gc : Array Value} {ps : List Nat} {assign body : Code} [hg : EvO N τ g (.func (.func gf) ga gc)]
    (Own : Nat → Prop) (Al Fin : Seen → Prop) (hit : ∀ W, Lk W w NoB → IterI P (.func (.func gf) ga gc) Own Al Fin W) (hOwn : ∀ k, Own k → k < w.heap.size) (hAl : ∀ pre v, Al (pre ++ [v]) → v.length = ps.length)
    (I : Seen → (Nat → Prop) → World → Prop) (J : Exit → Seen → (Nat → Prop) → World → Prop) (F0 : Nat → Prop) (hI : Stable I w) (hJ : ∀ e, Stable (J e) w) (h0 : I [] F0 w) (hF : ∀ k, F0 k → ¬ Own k)
    (B : List Value → Tau → Prop)
    (ha : ∀ l v W, v.length = ps.length → X P (some l) N assign (thn (fun τ1 _ W1 => W1 = W ∧ B v τ1) (fun _ _ _ _ => False)) (updL τ ps v) [] W)
    (hb : ∀ l pre v F W τ1 ds1, Al (pre ++ [v]) → I pre F W → B v τ1 → X P (some l) N body (roundQ I J (pre ++ [v]) F W) τ1 ds1 W)
    (hn : ∀ D pre F W, Fin pre → I pre F W → Keep F0 w W → Sub F F0 w → Blk W D (.deferred (some [])) → w.heap.size ≤ D → ¬ F D → Q .normal τ (markOf D :: ds) W)
    (hj : ∀ D e pre F W, J e pre F W → (codeOf e).isSome = true → Keep F0 w W → Sub F F0 w → Blk W D (.deferred (some [])) → w.heap.size ≤ D → ¬ F D → Q e τ (markOf D :: ds) W) :
    X P none N (.rangeFunc g ps.toArray assign body) Q τ ds w := by
  intro a hrel
  refine wpIn_rangeFunc ?_
  intro fn hfn
  obtain ⟨rec, hrec⟩ : ∃ rec : LoopState → Option Code → Loop, rec = fun st pe => { state := st, pending := pe, fn, tmps := a.tmps, params := ps.toArray, assign, body, defers := w.heap.size } := ⟨_, rfl⟩
  obtain ⟨W1, hW1⟩ : ∃ W1, (w.alloc (.deferred (some []))).alloc (.loop (rec .ready none)) = W1 := ⟨_, rfl⟩
  obtain ⟨l, hl⟩ : ∃ l, l = w.heap.size + 1 := ⟨_, rfl⟩
  have hk1 : Keep NoB w W1 := by rw [← hW1]; exact (Keep.alloc w _).trans (Keep.alloc _ _)
  have hL1 : W1.heap[l]? = some (.loop (rec .ready none)) := by
    rw [← hW1, hl]; have := heap_alloc_new (w.alloc (.deferred (some []))) (.loop (rec .ready none)); rwa [World.size_alloc] at this
  have hD1 : W1.heap[w.heap.size]? = some (.deferred (some [])) := by
    rw [← hW1]; exact ((Keep.alloc (w.alloc (.deferred (some []))) (.loop (rec .ready none))).block _ (by simp) (fun h => h)).trans (heap_alloc_new w _)
  have hF0 := hI.lt _ _ _ h0
  -- the relation, with the loop's record
  obtain ⟨I', hI'⟩ : ∃ I' : Seen → (Nat → Prop) → World → Prop, I' = fun pre F' W => ∃ F, (∀ k, F' k ↔ (F k ∨ k = l)) ∧ ¬ F l ∧ I pre F W ∧ W.heap[l]? = some (.loop (rec .ready none)) ∧ Sub F F0 w ∧ ¬ F w.heap.size := ⟨_, rfl⟩
  obtain ⟨J', hJ'⟩ : ∃ J' : Seen → (Nat → Prop) → World → Prop, J' = fun pre F' W => ∃ F e, (codeOf e).isSome = true ∧ (∀ k, F' k ↔ (F k ∨ k = l)) ∧ ¬ F l ∧ J e pre F W ∧ W.heap[l]? = some (.loop (rec .done (codeOf e))) ∧ Sub F F0 w ∧ ¬ F w.heap.size := ⟨_, rfl⟩
  have hlw : ∀ k, OneB l k → w.heap.size ≤ k := fun k e => by have e' : k = l := e; omega
  have hyields : YieldsI P (.func (.yield l) #[] #[]) Al I' J' w := by
    rw [hI', hJ']
    refine ⟨⟨?_, ?_⟩, ⟨?_, ?_⟩, ?_⟩
    · rintro pre F' W ⟨F, h1, h2, h3, h4, _⟩ k hk
      rcases (h1 k).1 hk with h | h
      · exact hI.lt _ _ _ h3 k h
      · rw [h]; exact (Array.getElem?_eq_some_iff.1 h4).1
    · rintro pre F' W W' S ⟨F, h1, h2, h3, h4, h5⟩ hk hs hnew
      exact ⟨F, h1, h2, hI.keep _ _ _ _ _ h3 hk (fun k h => hs k ((h1 k).2 (.inl h))) hnew, (hk.block l (Array.getElem?_eq_some_iff.1 h4).1 (hs l ((h1 l).2 (.inr rfl)))).trans h4, h5⟩
    · rintro pre F' W ⟨F, e, _, h1, h2, h3, h4, _⟩ k hk
      rcases (h1 k).1 hk with h | h
      · exact (hJ e).lt _ _ _ h3 k h
      · rw [h]; exact (Array.getElem?_eq_some_iff.1 h4).1
    · rintro pre F' W W' S ⟨F, e, h0, h1, h2, h3, h4, h5⟩ hk hs hnew
      exact ⟨F, e, h0, h1, h2, (hJ e).keep _ _ _ _ _ h3 hk (fun k h => hs k ((h1 k).2 (.inl h))) hnew, (hk.block l (Array.getElem?_eq_some_iff.1 h4).1 (hs l ((h1 l).2 (.inr rfl)))).trans h4, h5⟩
    · rintro pre v F' W hal ⟨F, h1, h2, h3, h4, h5, h6⟩
      have hlt : l < W.heap.size := (Array.getElem?_eq_some_iff.1 h4).1
      have hvl := hAl pre v hal
      have hy := run_yield (P := P) (args := v.toArray) h4 (by rw [hrec]; simp [hvl])
      refine .inr ⟨l, fn, _, assign, body, rfl, by rw [hrec] at hy; exact hy, roundIn_of_wpIn (F := FX none) hfn ?_⟩
      have hz : Rel N (updL τ ps v) [] ⟨(ps.zip v).foldl (fun t (p : Nat × Value) => t.setIfInBounds p.1 p.2) a.tmps, []⟩ := rel_zip ps v τ a.tmps ⟨hrel.size, hrel.get, rfl⟩
      have hzz : (Array.foldl (fun (tmps : Array Value) (x : Nat × Value) => tmps.setIfInBounds x.1 x.2) a.tmps (ps.toArray.zip v.toArray)) = (ps.zip v).foldl (fun t (p : Nat × Value) => t.setIfInBounds p.1 p.2) a.tmps := by
        rw [List.zip_toArray, List.foldl_toArray]
      have h7 := ha l v W hvl _ hz
      have h8 : Code.wpIn (FX (some l)) 0 P assign (Exit.then (fun a₁ w₁ => ∃ w₂, (Instr.beginRound l).run P w₁ = .ok () w₂ ∧ body.wpIn (FX (some l)) 0 P (roundPost P l (fun e w' => ∃ v_1, e = .returned v_1 ∧ ∃ b F'_1, v_1 = .bool b ∧ (if b = true then (fun pre F' W => ∃ F, (∀ k, F' k ↔ (F k ∨ k = l)) ∧ ¬ F l ∧ I pre F W ∧ W.heap[l]? = some (.loop (rec .ready none)) ∧ Sub F F0 w ∧ ¬ F w.heap.size) (pre ++ [v]) F'_1 w' else (fun pre F' W => ∃ F e, (codeOf e).isSome = true ∧ (∀ k, F' k ↔ (F k ∨ k = l)) ∧ ¬ F l ∧ J e pre F W ∧ W.heap[l]? = some (.loop (rec .done (codeOf e))) ∧ Sub F F0 w ∧ ¬ F w.heap.size) (pre ++ [v]) F'_1 w') ∧ Keep F' W w' ∧ Sub F'_1 F' W)) a₁ w₂) (fun _ _ _ => False))
          ⟨(ps.zip v).foldl (fun t (p : Nat × Value) => t.setIfInBounds p.1 p.2) a.tmps, []⟩ W := by
        refine wpIn_mono h7 ?_
        rintro e a1 W2 ⟨τ1, d1, hr1, hq⟩
        cases e with
        | normal =>
          obtain ⟨rfl, hB⟩ := hq
          refine ⟨_, run_beginRound h4 (by rw [hrec]), ?_⟩
          have hk2 := keep_putObj W2 l (.loop { rec .ready none with state := .busy })
          have hl2 : (W2.putObj l (.loop { rec .ready none with state := .busy })).heap[l]? = some (.loop { rec .ready none with state := .busy }) := World.putObj_heap_same hlt
          have hi2 := hI.keep _ _ _ _ _ h3 hk2 (fun k hk e => h2 (by have e' : k = l := e; rw [← e']; exact hk)) hlw
          refine wpIn_mono (hb l pre v F _ τ1 d1 hal hi2 hB a1 hr1) ?_
          -- what the round's end leaves
          have fin : ∀ (jump : Option Code) (W3 : World) (F3 : Nat → Prop), Keep F (W2.putObj l (.loop { rec .ready none with state := .busy })) W3 → Sub F3 F (W2.putObj l (.loop { rec .ready none with state := .busy })) →
              (Instr.endRound l jump).run P W3 = .ok (.bool jump.isNone) (W3.putObj l (.loop (rec (if jump.isNone then .ready else .done) jump))) ∧
              (W3.putObj l (.loop (rec (if jump.isNone then .ready else .done) jump))).heap[l]? = some (.loop (rec (if jump.isNone then .ready else .done) jump)) ∧
              ¬ F3 l ∧ Keep F' W2 (W3.putObj l (.loop (rec (if jump.isNone then .ready else .done) jump))) ∧ Sub (fun k => F3 k ∨ k = l) F' W2 ∧ Sub F3 F0 w ∧ ¬ F3 w.heap.size := by
            intro jump W3 F3 hk3 hs3
            have hsz : (W2.putObj l (.loop { rec .ready none with state := .busy })).heap.size = W2.heap.size := by simp [World.putObj]
            have hl3 := (hk3.block l (by rw [hsz]; exact hlt) h2).trans hl2
            have hr := run_endRound (P := P) jump hl3
            have hw2 : w.heap.size ≤ W2.heap.size := by omega
            refine ⟨by rw [hrec] at hr ⊢; exact hr, World.putObj_heap_same (Array.getElem?_eq_some_iff.1 hl3).1, fun h => (hs3 l h).elim h2 (fun e => by rw [hsz] at e; omega), ?_, ?_, ?_, ?_⟩
            · have k1 : Keep F' W2 (W2.putObj l (.loop { rec .ready none with state := .busy })) := hk2.mono (fun k _ e => (h1 k).2 (.inr e))
              have k2 : Keep F' W2 W3 := k1.then hk3 (fun k _ e => (h1 k).2 (.inl e))
              exact k2.then (keep_putObj W3 l _) (fun k _ e => (h1 k).2 (.inr e))
            · rintro k (hk | hk)
              · exact (hs3 k hk).imp (fun e => (h1 k).2 (.inl e)) (fun e => by rw [hsz] at e; exact e)
              · exact .inl ((h1 k).2 (.inr hk))
            · intro k hk
              rcases hs3 k hk with e | e
              · exact h5 k e
              · rw [hsz] at e; exact .inr (Nat.le_trans hw2 e)
            · intro hk
              rcases hs3 _ hk with e | e
              · exact h6 e
              · rw [hsz] at e; omega
          rintro e3 a3 W3 ⟨τ3, d3, hr3, hp⟩
          cases e3 with
          | normal =>
            obtain ⟨F3, hi3, hk3, hs3⟩ := hp
            obtain ⟨e1, e2, e3, e4, e5, e6, e7⟩ := fin none W3 F3 hk3 hs3
            have hi4 := hI.keep _ _ _ _ _ hi3 (keep_putObj W3 l (.loop (rec .ready none))) (fun k hk e => e3 (by have e' : k = l := e; rw [← e']; exact hk)) hlw
            exact ⟨_, _, e1, _, rfl, true, _, rfl, by rw [if_pos rfl]; exact ⟨F3, fun k => Iff.rfl, e3, hi4, e2, e6, e7⟩, e4, e5⟩
          | ret =>
            obtain ⟨F3, hi3, hk3, hs3⟩ := hp
            obtain ⟨e1, e2, e3, e4, e5, e6, e7⟩ := fin (some .ret) W3 F3 hk3 hs3
            have hi4 := (hJ .ret).keep _ _ _ _ _ hi3 (keep_putObj W3 l (.loop (rec .done (some .ret)))) (fun k hk e => e3 (by have e' : k = l := e; rw [← e']; exact hk)) hlw
            exact ⟨_, _, e1, _, rfl, false, _, rfl, by rw [if_neg (by simp)]; exact ⟨F3, .ret, rfl, fun k => Iff.rfl, e3, hi4, e2, e6, e7⟩, e4, e5⟩
          | exit id =>
            obtain ⟨F3, hi3, hk3, hs3⟩ := hp
            obtain ⟨e1, e2, e3, e4, e5, e6, e7⟩ := fin (some (.exit id)) W3 F3 hk3 hs3
            have hi4 := (hJ (.exit id)).keep _ _ _ _ _ hi3 (keep_putObj W3 l (.loop (rec .done (some (.exit id))))) (fun k hk e => e3 (by have e' : k = l := e; rw [← e']; exact hk)) hlw
            exact ⟨_, _, e1, _, rfl, false, _, rfl, by rw [if_neg (by simp)]; exact ⟨F3, .exit id, rfl, fun k => Iff.rfl, e3, hi4, e2, e6, e7⟩, e4, e5⟩
          | goto t => exact hp.elim
          | panic ch => exact hp.elim
          | outgrown => exact hp.elim
        | exit id => exact hq.elim
        | goto t => exact hq.elim
        | ret => exact hq.elim
        | panic ch => exact hq.elim
        | outgrown => exact hq.elim
      rw [hrec]
      simp only []
      rw [hzz]
      rw [hrec] at h8
      exact h8
  have hstart : I' [] (fun k => F0 k ∨ k = l) W1 := by
    rw [hI']
    exact ⟨F0, fun k => Iff.rfl, fun e => by have := hF0 l e; omega, hI.keep _ _ _ _ _ h0 hk1 (fun _ _ h => h) (fun _ h => h.elim), hL1, Sub.refl _ _, fun e => by have := hF0 _ e; omega⟩
  have hiter := hit W1 ⟨hk1⟩ (.func (.yield l) #[] #[]) I' J' (fun k => F0 k ∨ k = l) w hyields hk1.size hstart (fun k hk => by
    rcases hk with hk | hk
    · exact hF k hk
    · intro e; have := hOwn k e; omega)
  have hgv := hg.eq
  have post : ∀ (v : Value) (w3 : World), (∃ pre F', ((Fin pre ∧ I' pre F' w3) ∨ J' pre F' w3) ∧ Keep (fun k => F0 k ∨ k = l) W1 w3 ∧ Sub F' (fun k => F0 k ∨ k = l) W1) →
      rangePost (FX none) 0 P l (lift N Q) { a with defers := markOf w.heap.size :: a.defers } (.returned v) w3 := by
    rintro v w3 ⟨pre, F', hor, hk3, hs3⟩
    have hD3 : w3.heap[w.heap.size]? = some (.deferred (some [])) := (hk3.block _ (Array.getElem?_eq_some_iff.1 hD1).1 (fun e => e.elim (fun e => by have := hF0 _ e; omega) (fun e => by omega))).trans hD1
    have hrel2 : Rel N τ (markOf w.heap.size :: ds) { a with defers := markOf w.heap.size :: a.defers } := ⟨hrel.size, hrel.get, by simp [hrel.dfs]⟩
    have hkw : ∀ o, Keep F0 w (w3.putObj l o) := fun o => by
      have k1 : Keep F0 w W1 := hk1.mono (fun _ _ h => h.elim)
      have k2 : Keep F0 w w3 := k1.then hk3 (fun k hk e => e.elim (fun e => e) (fun e => by omega))
      exact k2.then (keep_putObj w3 l o) (fun k hk e => by have e' : k = l := e; omega)
    rcases hor with ⟨hfin, hi⟩ | hjj
    · rw [hI'] at hi
      obtain ⟨F, h1, h2, h3, h4, h5, h6⟩ := hi
      refine ⟨none, _, by have := run_endLoop (P := P) h4 (by rw [hrec]; simp); rw [hrec] at this; exact this, τ, _, hrel2, ?_⟩
      refine hn w.heap.size pre F _ hfin (hI.keep _ _ _ _ _ h3 (keep_putObj w3 l _) (fun k hk e => h2 (by have e' : k = l := e; rw [← e']; exact hk)) hlw) (hkw _) h5 ⟨(World.putObj_heap_other (by omega)).trans hD3⟩ (Nat.le_refl _) h6
    · rw [hJ'] at hjj
      obtain ⟨F, e, hc, h1, h2, h3, h4, h5, h6⟩ := hjj
      have hq := hj w.heap.size e pre F _ ((hJ e).keep _ _ _ _ _ h3 (keep_putObj w3 l (.loop { rec .done (codeOf e) with state := .exhausted })) (fun k hk e => h2 (by have e' : k = l := e; rw [← e']; exact hk)) hlw) hc (hkw _) h5 ⟨(World.putObj_heap_other (by omega)).trans hD3⟩ (Nat.le_refl _) h6
      have hrun : (Instr.endLoop l).run P w3 = .ok (codeOf e) (w3.putObj l (.loop { rec .done (codeOf e) with state := .exhausted })) := by
        subst hrec
        exact run_endLoop (P := P) h4 (by simp)
      refine ⟨codeOf e, _, hrun, ?_⟩
      cases e with
      | ret => exact wpIn_ret ⟨τ, _, hrel2, hq⟩
      | exit id => exact wpIn_exit ⟨τ, _, hrel2, hq⟩
      | normal => simp [codeOf] at hc
      | goto t => simp [codeOf] at hc
      | panic ch => simp [codeOf] at hc
      | outgrown => simp [codeOf] at hc
  have henter := run_enterLoop_outer (P := P) (w := w) fn a.tmps ps.toArray assign body
  rcases hiter with ⟨f, aa, cc, hgf, hf, h3⟩ | ⟨l2, f, t, as, bd, hgf, h2, h3⟩
  · cases hgf
    obtain ⟨fn2, cb, hfn2, hnm, hbd⟩ := hf.ex
    refine ⟨l, [markOf w.heap.size], W1, { target := .fn (.func gf) gc, args := ga ++ #[.func (.yield l) #[] #[]] }, W1, gf, ga ++ #[.func (.yield l) #[] #[]] ++ gc, W1, ?_, ?_, fun _ _ => trivial, ?_, (fun h => by simp [FX] at h), ?_⟩
    · rw [hl, ← hW1, hrec]; exact henter
    · have e1 : a.eval g = .func (.func gf) ga gc := by rw [hrel.eval]; exact hgv
      have e0 : resolve a.eval (rangeCall g l) 0 = Deferred.ofValue (a.eval g) #[.func (.yield l) #[] #[]] := by
        simp [resolve, rangeCall]
        rfl
      rw [e0, e1]
      simp [Deferred.ofValue]
    · simp [invoke, callFunc, program, Sem.run, hfn2, hnm, hbd]
    · refine (callsIn_FX (r := none) (n := 0 - 1)).2 (Calls.mono h3 ?_)
      rintro e w'' ⟨v, rfl, hR⟩
      exact post v w'' hR
  · cases hgf

def AppE {α : Type} (told enc : α → List Value) (sz b2 : Nat) (tc te : TypeId) (wb : World) : Seen → (Nat → Prop) → World → Prop := fun pre F W =>
  ∃ (l : List α) (V : Value), pre = l.map told ∧ W.heap[b2]? = some (.cells [V].toArray tc (0, 0)) ∧ W.ownsRow wb.heap.size te sz V l.length (l.flatMap enc) ∧ (∀ k, F k ↔ (k = b2 ∨ V.ownBlock = some k)) ∧ Keep (OneB b2) wb W
theorem appE_stable {α : Type} {told enc : α → List Value} {sz b2 : Nat} {tc te : TypeId} {wb : World} : Stable (AppE told enc sz b2 tc te wb) wb := by
  refine ⟨?_, ?_⟩
  · rintro pre F W ⟨l, V, _, h1, h2, h3, _⟩ k hk
    rcases (h3 k).1 hk with e | e
    · subst e; exact (Array.getElem?_eq_some_iff.1 h1).1
    · exact (h2.lt k e).2
  · rintro pre F W W' S ⟨l, V, h0, h1, h2, h3, h4⟩ hk hs hn
    exact ⟨l, V, h0, (hk.block b2 (Array.getElem?_eq_some_iff.1 h1).1 (hs b2 ((h3 b2).2 (.inl rfl)))).trans h1, own_keep h2 hk (fun k hk => hs k ((h3 k).2 (.inr hk))), h3, h4.then hk (fun k hlt hS => by have := hn k hS; omega)⟩
theorem appE_start {α : Type} {told enc : α → List Value} {sz b2 : Nat} {tc te : TypeId} {wb : World} (h : wb.heap[b2]? = some (.cells #[.slice none 0 0] tc (0, 0))) : AppE told enc sz b2 tc te wb [] (OneB b2) wb :=
  ⟨[], .slice none 0 0, rfl, h, World.ownsRow_nil _ _ _ _, fun k => ⟨fun e => .inl e, fun e => e.elim id (fun e => by cases e)⟩, Keep.refl _ _⟩
theorem appE_step {α : Type} {told enc : α → List Value} {sz b2 : Nat} {tc te : TypeId} {wb W W' : World} {l : List α} {x : α} {V V' : Value} {F : Nat → Prop} (hb : b2 < wb.heap.size) (ho : W.ownsRow wb.heap.size te sz V l.length (l.flatMap enc)) (hF : ∀ k, F k ↔ (k = b2 ∨ V.ownBlock = some k)) (hk0 : Keep (OneB b2) wb W)
    (hk : Keep F W W') (hc : W'.heap[b2]? = some (.cells [V'].toArray tc (0, 0))) (ho' : W'.ownsRow wb.heap.size te sz V' (l.length + 1) (l.flatMap enc ++ enc x)) (hn : V'.ownBlock = V.ownBlock ∨ ∃ k, V'.ownBlock = some k ∧ W.heap.size ≤ k) :
    ∃ F', AppE told enc sz b2 tc te wb (l.map told ++ [told x]) F' W' ∧ Keep F W W' ∧ Sub F' F W := by
  refine ⟨fun k => k = b2 ∨ V'.ownBlock = some k, ⟨l ++ [x], V', by simp, hc, by simpa using ho', fun k => Iff.rfl, ?_⟩, hk, ?_⟩
  · exact hk0.then hk (fun k hlt hk => ((hF k).1 hk).elim id (fun e => by have := (ho.lt k e).1; omega))
  · rintro k (e | e)
    · exact .inl ((hF k).2 (.inl e))
    · rcases hn with h | ⟨j, h, hj⟩
      · exact .inl ((hF k).2 (.inr (h ▸ e)))
      · rw [h] at e; cases e; exact .inr hj

section
variable {P : Program} {b : Frame} {a : Act} {k : List Item} {cs : List Frame} {w : World}
theorem stepR_scope {c : Code} : step P (lone (b.atR a (.code (.scope c) :: k)) cs w) = .next (lone (b.atR a (.code c :: .inScope c :: k)) cs w) :=
  step_lone_go (by simp [stepG, stepG.exec, Frame.atR])
theorem stepR_inScope {c : Code} : step P (lone (b.atR a (.inScope c :: k)) cs w) = .next (lone (b.atR a k) cs w) :=
  step_lone_go (by simp [stepG, stepG.exec, Frame.atR])
end
def ng (Q : Post) : Post
  | .goto _, _, _, _ => False
  | e, τ, ds, w => Q e τ ds w
theorem x_scope {P : Program} {r : Option Nat} {N : Nat} {Q : Post} {τ : Tau} {ds : List Deferred} {w : World} {c : Code} (h : X P r N c (ng Q) τ ds w) : X P r N (.scope c) Q τ ds w := by
  intro a ha b k cs hro hb hr
  obtain ⟨e, a1, w1, ⟨t, d, hr1, hq⟩, harr⟩ := h a ha b (.inScope c :: k) cs hro hb hr
  have hs : StepsIn (Machine.fenced P (FX r)) P (lone (b.atR a (.code (.scope c) :: k)) cs w) (lone (b.atR a (.code c :: .inScope c :: k)) cs w) := .one (fenced_calm hb hr rfl) stepR_scope
  cases e with
  | normal => exact ⟨.normal, a1, w1, ⟨t, d, hr1, hq⟩, .of_steps hs (StepsIn.trans harr (.one (fenced_calm hb hr rfl) stepR_inScope))⟩
  | goto l => exact hq.elim
  | exit id =>
    have h2 : ArrivesIn (Machine.fenced P (FX r)) P (lone (b.atR a (.code c :: .inScope c :: k)) cs w) b k cs (.exit id) a1 w1 := ⟨fun k' hk => harr.1 k' (by simp [exitTo, hk]), fun hr hk => harr.2 hr (by simp [exitTo, hk])⟩
    exact ⟨_, a1, w1, ⟨t, d, hr1, hq⟩, .of_steps hs h2⟩
  | ret => exact ⟨_, a1, w1, ⟨t, d, hr1, hq⟩, .of_steps hs harr⟩
  | panic ch => exact ⟨_, a1, w1, ⟨t, d, hr1, hq⟩, .of_steps hs harr⟩
  | outgrown => exact ⟨_, a1, w1, ⟨t, d, hr1, hq⟩, .of_steps hs harr⟩

theorem leaves_marks {P : Program} {fn : Func} {tmps : Array Value} {R : Value → World → Prop} : ∀ (Ds : List Nat) (w : World), (∀ D ∈ Ds, w.heap[D]? = some (.deferred (some []))) → Ds.Nodup →
    (∀ w', Keep (fun k => k ∈ Ds) w w' → ∃ v, (results fn tmps).run P w' = .ok v w' ∧ R v w') → LeavesInM (FX none) 0 P fn tmps (fun e w' => ∃ v, e = .returned v ∧ R v w') (Ds.map markOf) .returning w
  | [], w, _, _, h => by
    obtain ⟨v, h1, h2⟩ := h w (Keep.refl _ _)
    exact ⟨v, h1, v, rfl, h2⟩
  | D :: Ds, w, hD, hnd, h => by
    refine ⟨by simp, .inl ⟨D, _, rfl, run_takeDeferred (hD D (List.mem_cons_self ..)), ?_⟩⟩
    obtain ⟨h1, h2⟩ := List.nodup_cons.1 hnd
    refine leaves_marks Ds _ (fun E hE => (World.putObj_heap_other (fun e => h1 (by rw [← e]; exact hE))).trans (hD E (List.mem_cons_of_mem _ hE))) h2 (fun w' hk => ?_)
    exact h w' (((keep_putObj w D _).mono (fun k _ e => by have e' : k = D := e; rw [e']; exact List.mem_cons_self ..)).then hk (fun k _ e => List.mem_cons_of_mem _ e))
section
variable {P : Program} {N : Nat} {τ : Tau} {w : World}
theorem finM {fn : Func} {R : Value → World → Prop} {rs : List ResultVar} {ds : List Deferred} (hr : fn.results = rs.toArray) (Ds : List Nat) (hds : ds = Ds.map markOf) (hD : ∀ D ∈ Ds, w.heap[D]? = some (.deferred (some []))) (hnd : Ds.Nodup)
    (h : ∀ w', Lk w' w (fun k => k ∈ Ds) → ∃ vs, RsV P N τ w' rs vs ∧ R (outV vs) w') : bodyQ P fn N R .ret τ ds w := fun a ha => by
  subst hds
  exact leaves_marks Ds w hD hnd (fun w' hk => by
    obtain ⟨vs, h1, h2⟩ := h w' ⟨hk⟩
    exact ⟨_, run_results hr h1 a.tmps (fun t ht => ha.get t ht), h2⟩)
theorem finMn {fn : Func} {R : Value → World → Prop} {rs : List ResultVar} {ds : List Deferred} (hr : fn.results = rs.toArray) (Ds : List Nat) (hds : ds = Ds.map markOf) (hD : ∀ D ∈ Ds, w.heap[D]? = some (.deferred (some []))) (hnd : Ds.Nodup)
    (h : ∀ w', Lk w' w (fun k => k ∈ Ds) → ∃ vs, RsV P N τ w' rs vs ∧ R (outV vs) w') : bodyQ P fn N R .normal τ ds w := fun a ha => by
  subst hds
  exact leaves_marks Ds w hD hnd (fun w' hk => by
    obtain ⟨vs, h1, h2⟩ := h w' ⟨hk⟩
    exact ⟨_, run_results hr h1 a.tmps (fun t ht => ha.get t ht), h2⟩)
end

section maps
variable {κ : Type} [DecidableEq κ] {enc : κ → Value} {kvs : List (κ × Value)} {m it : Nat}
def MapIt (w : World) (it m : Nat) (enc : κ → Value) (kvs pre rest : List (κ × Value)) : Prop :=
  ∃ (es : Array MapEntry) (clock : Nat) (ps rs : List MapEntry), w.heap[m]? = some (.map es clock) ∧ es.toList.map (fun e => (e.key, e.val)) = kvs.map (fun p => (enc p.1, p.2)) ∧ (∀ e ∈ es.toList, e.born < clock) ∧ (es.toList.map (·.born)).Nodup ∧
    w.heap[it]? = some (.mapIter (some m) clock (ps.map (·.born)).toArray clock) ∧ (ps ++ rs).Perm es.toList ∧ (pre ++ rest).Perm kvs ∧ ps.map (fun e => (e.key, e.val)) = pre.map (fun p => (enc p.1, p.2)) ∧ rs.map (fun e => (e.key, e.val)) = rest.map (fun p => (enc p.1, p.2))
theorem MapIt.keep {w w' : World} {S : Nat → Prop} {pre rest : List (κ × Value)} (h : MapIt w it m enc kvs pre rest) (hk : Keep S w w') (h1 : ¬ S it) (h2 : ¬ S m) : MapIt w' it m enc kvs pre rest := by
  obtain ⟨es, clock, ps, rs, a1, a2, a3, a4, a5, a6⟩ := h
  exact ⟨es, clock, ps, rs, (hk.block m (Array.getElem?_eq_some_iff.1 a1).1 h2).trans a1, a2, a3, a4, (hk.block it (Array.getElem?_eq_some_iff.1 a5).1 h1).trans a5, a6⟩
theorem MapIt.lt {w : World} {pre rest : List (κ × Value)} (h : MapIt w it m enc kvs pre rest) : it < w.heap.size ∧ m < w.heap.size := by
  obtain ⟨es, clock, ps, rs, a1, a2, a3, a4, a5, a6⟩ := h
  exact ⟨(Array.getElem?_eq_some_iff.1 a5).1, (Array.getElem?_eq_some_iff.1 a1).1⟩
theorem MapIt.perm {w : World} {pre rest : List (κ × Value)} (h : MapIt w it m enc kvs pre rest) : (pre ++ rest).Perm kvs := by
  obtain ⟨es, clock, ps, rs, a1, a2, a3, a4, a5, a6, a7, _⟩ := h
  exact a7
section
variable {P : Program} {r : Option Nat} {N : Nat} {S T : Nat → Prop} {τ : Tau} {w : World} {ty kt et t : TypeId}
theorem e_range {x : Operand} {G : Value → World → Prop} [hx : EvO N τ x (.map (some m))] [hu : Und P t (.map kt et)] [hm : MapI w m κ enc kvs]
    (h : ∀ (b : Nat) (w' : World), New b w → Lk w' w NoB → MapIt w' b m enc kvs [] kvs → Has w' b → G (.pointer (some ⟨b, 0, none⟩)) w') : EffV P N NoB (.range t x) ty τ w G := by
  obtain ⟨es, clock, h1, h2, h3, h4, h5⟩ := hm.m
  have hg : (getObj m).run P w = .ok (.map es clock) w := by simp [getObj, Sem.run, h1]
  obtain ⟨k1, k2, k3⟩ := new_blk (w := w) (.mapIter (some m) clock #[] clock)
  refine ⟨fun _ => nofun, .pointer (some ⟨w.heap.size, 0, none⟩), w.alloc (.mapIter (some m) clock #[] clock), ?_, k2.keep, h _ _ k1 k2 ⟨es, clock, [], es.toList, ?_, h2, h3, h4, k3.eq, by simp, by simp, rfl, h2⟩ ⟨(Array.getElem?_eq_some_iff.1 k3.eq).1⟩⟩
  · have hnew : (newObj (.mapIter (some m) clock #[] clock)).run P w = .ok w.heap.size (w.alloc (.mapIter (some m) clock #[] clock)) := rfl
    simp only [execOp, hx.eq, Instr.range, Sem.run_bind, run_underlying hu.eq, hg, Result.andThen_ok, Sem.run_pure, hnew]
  · exact (k2.keep.block m (Array.getElem?_eq_some_iff.1 h1).1 (fun h => h)).trans h1
theorem perm_pick {α : Type} {l ps rs : List α} {e : α} (h : (ps ++ rs).Perm l) (he : e ∈ rs) : ∃ rs', (ps ++ [e] ++ rs').Perm l ∧ rs.Perm (e :: rs') := by
  obtain ⟨a, b, rfl⟩ := List.append_of_mem he
  refine ⟨a ++ b, ?_, List.perm_middle⟩
  refine List.Perm.trans ?_ h
  simp only [List.append_assoc, List.singleton_append]
  exact List.Perm.append_left ps List.perm_middle.symm
theorem map_perm_pick {kvs : List (κ × Value)} {es rs : List MapEntry} {rest : List (κ × Value)} {e : MapEntry} (h : rs.map (fun e => (e.key, e.val)) = rest.map (fun p => (enc p.1, p.2))) (he : e ∈ rs) :
    ∃ p, p ∈ rest ∧ e.key = enc p.1 ∧ e.val = p.2 ∧ ∃ a b c d, rs = a ++ e :: b ∧ rest = c ++ p :: d ∧ (a ++ b).map (fun e => (e.key, e.val)) = (c ++ d).map (fun p => (enc p.1, p.2)) := by
  obtain ⟨a, b, rfl⟩ := List.append_of_mem he
  simp only [List.map_append, List.map_cons] at h
  obtain ⟨c, d', rfl, h1, h2⟩ := List.map_eq_append_iff.1 h.symm
  obtain ⟨p, d, rfl, h3, h4⟩ := List.map_eq_cons_iff.1 h2
  simp only [Prod.mk.injEq] at h3
  exact ⟨p, by simp, h3.1.symm, h3.2.symm, a, b, c, d, rfl, rfl, by simp [h1, h4]⟩
theorem e_next {x : Operand} {pre rest : List (κ × Value)} {G : Value → World → Prop} [hx : EvO N τ x (.pointer (some ⟨it, 0, none⟩))] (hm : MapIt w it m enc kvs pre rest) (hne : it ≠ m)
    (h : ∀ (b : Bool) (qs : List Value) (w' : World), Lk w' w (OneB it) → (b = false → rest = [] ∧ MapIt w' it m enc kvs pre []) → (b = true → ∃ p rest', rest.Perm (p :: rest') ∧ MapIt w' it m enc kvs (pre ++ [p]) rest') → G (.tuple (.bool b :: qs).toArray) w') :
    EffV P N (OneB it) (.next x false) ty τ w G := by
  obtain ⟨es, clock, ps, rs, a1, a2, a3, a4, a5, a6, a7, a8, a9⟩ := hm
  have hgi : (getObj it).run P w = .ok (.mapIter (some m) clock (ps.map (·.born)).toArray clock) w := by simp [getObj, Sem.run, a5]
  have hgm : (getObj m).run P w = .ok (.map es clock) w := by simp [getObj, Sem.run, a1]
  have hlt := (Array.getElem?_eq_some_iff.1 a5).1
  -- what is left
  have hborn : (ps.map (·.born) ++ rs.map (·.born)).Nodup := by
    rw [← List.map_append]; exact (a6.map _).nodup_iff.2 a4
  have hleft : ∀ e, e ∈ es.toList → ((ps.map (·.born)).toArray.contains e.born = false ↔ e ∈ rs) := by
    intro e he
    have he2 : e ∈ ps ++ rs := a6.mem_iff.2 he
    rw [List.contains_toArray, ← Bool.not_eq_true, List.contains_iff_mem]
    constructor
    · intro hn
      rcases List.mem_append.1 he2 with h1 | h1
      · exact absurd (List.mem_map.2 ⟨e, h1, rfl⟩) hn
      · exact h1
    · intro hr hp
      exact (List.nodup_append.1 hborn).2.2 _ hp _ (List.mem_map.2 ⟨e, hr, rfl⟩) rfl
  have hguard : (!(ps.map (·.born)).toArray.isEmpty && !es.isEmpty && es.all (fun e => decide (e.born ≥ clock))) = false := by
    by_cases hes : es.isEmpty = true
    · simp [hes]
    · have : es.all (fun e => decide (e.born ≥ clock)) = false := by
        rw [← Bool.not_eq_true]
        intro hall
        rw [← Array.all_toList, List.all_eq_true] at hall
        have hl : es.toList ≠ [] := by simpa using hes
        obtain ⟨e, l, hel⟩ := List.exists_cons_of_ne_nil hl
        have h1 := hall e (by rw [hel]; simp)
        have h2 := a3 e (by rw [hel]; simp)
        simp at h1; omega
      simp [this]
  obtain ⟨L, hL⟩ : ∃ L, L = es.filter (fun e => !(ps.map (·.born)).toArray.contains e.born) := ⟨_, rfl⟩
  have hLm : ∀ e, e ∈ L.toList ↔ e ∈ rs := by
    intro e
    rw [hL, Array.toList_filter, List.mem_filter]
    constructor
    · rintro ⟨h1, h2⟩; exact (hleft e h1).1 (by simpa using h2)
    · intro hr
      have h1 : e ∈ es.toList := a6.mem_iff.1 (List.mem_append_right _ hr)
      exact ⟨h1, by simpa using (hleft e h1).2 hr⟩
  have hold : L.filter (fun e => decide (e.born < clock)) = L := by
    apply Array.ext'
    rw [Array.toList_filter, List.filter_eq_self]
    intro e he
    have h1 : e ∈ es.toList := a6.mem_iff.1 (List.mem_append_right _ ((hLm e).1 he))
    simpa using a3 e h1
  have hnew : L.filter (fun e => decide (e.born ≥ clock)) = #[] := by
    apply Array.ext'
    rw [Array.toList_filter, List.filter_eq_nil_iff.2]
    intro e he
    have h1 : e ∈ es.toList := a6.mem_iff.1 (List.mem_append_right _ ((hLm e).1 he))
    have := a3 e h1
    simp; omega
  -- the choice
  have hchoose : ∀ n, 0 < n → ∃ k w1, k < n ∧ (choose (.mapNext n)).run P w = .ok k w1 ∧ Keep NoB w w1 := by
    intro n hn
    by_cases hf : (Question.mapNext n).forced = true
    · exact ⟨0, w, hn, by simp [choose, Sem.run, hf], Keep.refl _ _⟩
    · exact ⟨w.tape w.drawn (.mapNext n) % n, { w with drawn := w.drawn + 1 }, Nat.mod_lt _ hn, by simp [choose, Sem.run, hf, Question.cut], Keep.drawn w _⟩
  by_cases hemp : rs = []
  · have hLe : L = #[] := by
      apply Array.ext'
      exact List.eq_nil_iff_forall_not_mem.2 (fun e he => by have := (hLm e).1 he; rw [hemp] at this; cases this)
    obtain ⟨k, w1, hk, hc, hkw⟩ := hchoose 1 (by omega)
    have hk0 : k = 0 := by omega
    subst hk0
    have hrest : rest = [] := by rw [hemp] at a9; simpa using a9.symm
    refine ⟨fun _ => nofun, .tuple #[.bool false], w1, ?_, hkw.mono (fun _ _ h => h.elim), h false [] w1 ⟨hkw.mono (fun _ _ h => h.elim)⟩ (fun _ => ⟨hrest, ?_⟩) (fun e => by cases e)⟩
    · have hcs : ((if L.isEmpty then #[none] else #[]) ++ (L ++ #[]).map some : Array (Option MapEntry)) = #[none] := by rw [hLe]; simp
      have hsz : (#[none] : Array (Option MapEntry)).size = 1 := rfl
      simp only [execOp, hx.eq, Instr.next, Sem.run_bind, hgi, hgm, Result.andThen_ok, hguard, Bool.false_eq_true, if_false, ← hL, hold, hnew, hcs, hsz, hc, Sem.run_pure]
      rfl
    · rw [← hrest]
      exact MapIt.keep ⟨es, clock, ps, rs, a1, a2, a3, a4, a5, a6, a7, a8, a9⟩ hkw (fun h => h) (fun h => h)
  · have hLne : L ≠ #[] := by
      intro e
      obtain ⟨x, l, hxl⟩ := List.exists_cons_of_ne_nil hemp
      have := (hLm x).2 (by rw [hxl]; simp)
      rw [e] at this; simp at this
    have hLs : 0 < L.size := Nat.pos_of_ne_zero (fun e => hLne (by simpa using e))
    obtain ⟨k, w1, hk, hc, hkw⟩ := hchoose L.size hLs
    have hmem : L[k] ∈ rs := (hLm _).1 (by rw [Array.mem_toList_iff]; exact Array.getElem_mem hk)
    obtain ⟨p, hp, hkey, hval, a, b, c, d, hrs, hrest, hab⟩ := map_perm_pick (kvs := kvs) (es := rs) a9 hmem
    have hlt1 : it < w1.heap.size := Nat.lt_of_lt_of_le hlt hkw.size
    have hset : ∀ o, (setObj it o).run P w1 = .ok () { w1 with heap := w1.heap.setIfInBounds it o } := fun o => by
      have e := (hkw.block it hlt (fun h => h)).trans a5
      simp [setObj, Sem.run, e]
    have hk2 : Keep (OneB it) w { w1 with heap := w1.heap.setIfInBounds it (.mapIter (some m) clock ((ps.map (·.born)).toArray.push L[k].born) clock) } := (hkw.mono (fun _ _ h => h.elim)).trans (keep_setObj it _)
    refine ⟨fun _ => nofun, .tuple #[.bool true, L[k].key, L[k].val], _, ?_, hk2, h true [L[k].key, L[k].val] _ ⟨hk2⟩ (fun e => by cases e) (fun _ => ⟨p, c ++ d, ?_, es, clock, ps ++ [L[k]], a ++ b, ?_, a2, a3, a4, ?_, ?_, ?_, ?_, ?_⟩)⟩
    · have hcs : ((if L.isEmpty then #[none] else #[]) ++ (L ++ #[]).map some : Array (Option MapEntry)) = L.map some := by
        have : L.isEmpty = false := by simpa using hLne
        simp [this]
      simp only [execOp, hx.eq, Instr.next, Sem.run_bind, hgi, hgm, Result.andThen_ok, hguard, Bool.false_eq_true, if_false, ← hL, hold, hnew, hcs, Array.size_map, hc, Sem.run_pure]
      simp [hk, hset, Result.andThen]
    · rw [hrest]; exact List.perm_middle
    · have e1 : ¬ it = m := hne
      show (w1.heap.setIfInBounds it _)[m]? = _
      rw [Array.getElem?_setIfInBounds_ne e1]
      exact (hkw.block m (Array.getElem?_eq_some_iff.1 a1).1 (fun h => h)).trans a1
    · show (w1.heap.setIfInBounds it _)[it]? = _
      rw [Array.getElem?_setIfInBounds_self_of_lt hlt1]
      simp
    · rw [hrs] at a6
      refine List.Perm.trans ?_ a6
      simp only [List.append_assoc, List.singleton_append]
      exact List.Perm.append_left ps List.perm_middle.symm
    · rw [hrest] at a7
      refine List.Perm.trans ?_ a7
      simp only [List.append_assoc, List.singleton_append]
      exact List.Perm.append_left pre List.perm_middle.symm
    · simp [a8, hkey, hval]
    · exact hab
theorem v_entry {x : Operand} {pre rest : List (κ × Value)} {k : κ} {u : Value} [hx : EvO N τ x (.pointer (some ⟨it, 0, none⟩))] (hm : MapIt w it m enc kvs (pre ++ [(k, u)]) rest) (h1 : ¬ S it) (h2 : ¬ S m) :
    Val P r N S (.entry x) ty τ w (.tuple #[enc k, u]) := ⟨fun _ => nofun, fun W hW => by
  obtain ⟨es, clock, ps, rs, a1, a2, a3, a4, a5, a6, a7, a8, a9⟩ := hm.keep hW h1 h2
  have hgi : (getObj it).run P W = .ok (.mapIter (some m) clock (ps.map (·.born)).toArray clock) W := by simp [getObj, Sem.run, a5]
  have hgm : (getObj m).run P W = .ok (.map es clock) W := by simp [getObj, Sem.run, a1]
  rw [List.map_append] at a8
  obtain ⟨ps', e', rfl, b1, b2⟩ := List.map_eq_append_iff.1 a8
  obtain ⟨e, l, rfl, b3, b4⟩ := List.map_eq_cons_iff.1 b2
  obtain rfl : l = [] := by simpa using b4
  simp only [Prod.mk.injEq] at b3
  have he : e ∈ es.toList := a6.mem_iff.1 (by simp)
  have hfind : es.find? (fun x => x.born == e.born) = some e := by
    rw [← Array.find?_toList]
    obtain ⟨i, hi, hie⟩ := List.mem_iff_getElem.1 he
    rw [List.find?_eq_some_iff_getElem]
    refine ⟨by simp, i, hi, hie, fun j hj => ?_⟩
    simp only [Bool.not_eq_true', beq_eq_false_iff_ne]
    intro hb
    have h3 : (es.toList.map (·.born))[j]'(by simp; simp at hi; omega) = (es.toList.map (·.born))[i]'(by simpa using hi) := by simp only [List.getElem_map]; rw [hb, hie]
    have := nodup_at a4 _ _ h3
    omega
  have hback : ((ps' ++ [e]).map (·.born)).toArray.back? = some e.born := by simp
  simp only [execOp, hx.eq, Instr.entry, Sem.run_bind, hgi, hgm, hback, Result.andThen_ok, Sem.run_pure]
  simp [hfind, b3.1, b3.2]⟩
end
end maps
end Go.Wst
set_option linter.all false
namespace Go.Wst

class OneC (cs : List Value) (α : outParam Type) (xs : outParam (List α)) (enc : outParam (α → Value)) : Prop where eq : cs = xs.map enc
instance onec_ints (xs : List Int) : OneC (ints xs) Int xs (Value.int .i64) := ⟨rfl⟩
instance onec_map {α : Type} (xs : List α) (enc : α → Value) : OneC (xs.map enc) α xs enc := ⟨rfl⟩
class FlatC (cs : List Value) (sz : Nat) (α : outParam Type) (xs : outParam (List α)) (enc : outParam (α → List Value)) : Prop where eq : cs = xs.flatMap enc ∧ ∀ x, (enc x).length = sz
section
variable {P : Program} {r : Option Nat} {N : Nat} {S T : Nat → Prop} {τ : Tau} {w : World} {ty : TypeId} {v : Value} {α : Type} {A : Option Addr} {cs : List Value} {sz : Nat} {xs : List α}
theorem onec_get {enc : α → Value} [h : OneC cs α xs enc] {k : Nat} (hk : k < xs.length) : cs[k]? = some (enc xs[k]) := by rw [h.eq]; simp [hk]
theorem v_indexO {enc : α → Value} {x y : Operand} {t e : TypeId} {bytes : Nat} {z : Value} {n c : Nat} {i : Int} (k : Nat) [hx : EvO N τ x (.slice A n c)] [hy : EvO N τ y (.int .i64 i)] [hu : Und P t (.slice e)] [hi : Inf P e 1 bytes z]
    [hr : Row w A cs] [ho : OneC cs α xs enc] (hk : i = (k : Int)) (hn : k < n) (hx2 : k < xs.length) : Val P r N S (.indexAddr t x y) ty τ w (padd A (k * 1)) :=
  v_indexAddr k hk hn (row_some hr (by rw [ho.eq]; simp; omega))
theorem v_indexF {enc : α → List Value} {x y : Operand} {t e : TypeId} {bytes : Nat} {z : Value} {n c : Nat} {i : Int} (k : Nat) [hx : EvO N τ x (.slice A n c)] [hy : EvO N τ y (.int .i64 i)] [hu : Und P t (.slice e)] [hi : Inf P e sz bytes z]
    [hr : Row w A cs] [ho : FlatC cs sz α xs enc] (hpos : 0 < sz) (hk : i = (k : Int)) (hn : k < n) (hx2 : k < xs.length) : Val P r N S (.indexAddr t x y) ty τ w (padd A (k * sz)) :=
  v_indexAddr k hk hn (row_some hr (by rw [ho.eq.1, flat_len ho.eq.2]; exact Nat.mul_pos (by omega) hpos))
theorem v_fieldAddrF {enc : α → List Value} {x : Operand} {s : TypeId} {f off : Nat} {t : TypeId} {k j' : Nat} [hx : EvO N τ x (padd A (k * sz))] [hf : Fld P s f off t] [ha : AddN (k * sz) off j'] [hr : Row w A cs] [ho : FlatC cs sz α xs enc] (hpos : 0 < sz) (hk : k < xs.length) : Val P r N S (.fieldAddr s x f) ty τ w (padd A j') :=
  v_fieldAddrR (row_some hr (by rw [ho.eq.1, flat_len ho.eq.2]; exact Nat.mul_pos (by omega) hpos))
theorem v_loadO {enc : α → Value} {x : Operand} {t : TypeId} {k : Nat} [hx : EvO N τ x (padd A (k * 1))] [ht : One P t] [hr : Row w A cs] [ho : OneC cs α xs enc] [hs : RowOut S A] (hk : k < xs.length) : Val P r N S (.load t x) ty τ w (enc xs[k]) :=
  v_loadR (by rw [Nat.mul_one]; exact onec_get hk)
theorem v_loadF {enc : α → List Value} {x : Operand} {t : TypeId} {k : Nat} [hx : EvO N τ x (padd A (k * sz))] [ht : Many P t sz] [hr : Row w A cs] [ho : FlatC cs sz α xs enc] [hs : RowOut S A] (hpos : 0 < sz) (hk : k < xs.length) : Val P r N S (.load t x) ty τ w (.agg (enc xs[k]).toArray) :=
  v_loadRA (vs := enc xs[k]) (ho.eq.2 _) (row_some hr (by rw [ho.eq.1, flat_len ho.eq.2]; exact Nat.mul_pos (by omega) hpos)) (by rw [ho.eq.1]; exact flat_get ho.eq.2 xs k hk)
theorem v_loadFf {enc : α → List Value} {x : Operand} {t : TypeId} {k off : Nat} [hx : EvO N τ x (padd A (k * sz + off))] [ht : One P t] [hr : Row w A cs] [ho : FlatC cs sz α xs enc] [hs : RowOut S A] (hk : k < xs.length) [hg : CsGet (enc xs[k]).toArray off v] : Val P r N S (.load t x) ty τ w v :=
  v_loadR (by rw [ho.eq.1]; exact flat_get ho.eq.2 xs k hk off v (by have := hg.eq; simpa using this))
theorem v_loadF0 {enc : α → List Value} {x : Operand} {t : TypeId} {k : Nat} [hx : EvO N τ x (padd A (k * sz))] [ht : One P t] [hr : Row w A cs] [ho : FlatC cs sz α xs enc] [hs : RowOut S A] (hk : k < xs.length) [hg : CsGet (enc xs[k]).toArray 0 v] : Val P r N S (.load t x) ty τ w v :=
  v_loadR (by rw [ho.eq.1]; have := flat_get ho.eq.2 xs k hk 0 v (by have := hg.eq; simpa using this); simpa using this)
end

structure FRow (w : World) (F : Nat → Prop) (A : Option Addr) (cs : List Value) : Prop where
  row : RowP w A cs
  blk : ∀ a, A = some a → F a.block
theorem FRow.keep {w w' : World} {F S : Nat → Prop} {A : Option Addr} {cs : List Value} (h : FRow w F A cs) (hk : Keep S w w') (hs : ∀ k, F k → ¬ S k) : FRow w' F A cs :=
  ⟨h.row.keep hk (fun a ha => hs _ (h.blk a ha)), h.blk⟩
theorem FRow.mono {w : World} {F G : Nat → Prop} {A : Option Addr} {cs : List Value} (h : FRow w F A cs) (hs : ∀ k, F k → G k) : FRow w G A cs := ⟨h.row, fun a ha => hs _ (h.blk a ha)⟩
theorem FRow.out {w : World} {F S : Nat → Prop} {A : Option Addr} {cs : List Value} (h : FRow w F A cs) (hs : ∀ k, F k → ¬ S k) : RowOut S A := ⟨fun a ha => hs _ (h.blk a ha)⟩
theorem FRow.nil (w : World) (F : Nat → Prop) : FRow w F none [] := ⟨fun j v h => by simp at h, fun a h => by cases h⟩
theorem FRow.of_own {w : World} {base : Nat} {e : TypeId} {sz n m c : Nat} {A : Option Addr} {xs : List Value} (h : w.ownsRow base e sz (.slice A n c) m xs) : FRow w (OwnB (.slice A n c)) A xs := by
  obtain ⟨A', cap, he, hb, _, hr⟩ := ownsRow_form h
  cases he
  exact ⟨hr, fun a ha => by subst ha; rfl⟩
theorem FRow.of_blk {w : World} {F : Nat → Prop} {b : Nat} {cs : List Value} {e : TypeId} {fr : Nat × Nat} (h : w.heap[b]? = some (.cells cs.toArray e fr)) (hF : F b) : FRow w F (some ⟨b, 0, none⟩) cs := ⟨row_blk h, fun a ha => by cases ha; exact hF⟩
theorem FRow.nil_any {w : World} {F : Nat → Prop} {A : Option Addr} (h : ∀ a, A = some a → F a.block) : FRow w F A [] := ⟨fun j v h => by simp at h, h⟩
class OldA (w0 : World) (A : Option Addr) : Prop where lt : ∀ a, A = some a → a.block < w0.heap.size
theorem FRow.old {w : World} {F : Nat → Prop} {A : Option Addr} {cs : List Value} (h : FRow w F A cs) (hl : ∀ k, F k → k < w.heap.size) : OldA w A := ⟨fun a ha => hl _ (h.blk a ha)⟩
instance rowOut_oldOwn (V : Value) (w0 : World) (A : Option Addr) [h : OwnA V w0] [k : OldA w0 A] : RowOut (OwnB V) A := ⟨fun a ha e => by
  have h1 := h.le _ (Eq.symm e)
  have h2 := k.lt a ha
  omega⟩
instance rowOut_oldNew (w : World) (A : Option Addr) [k : OldA w A] : RowOut (NewS w) A := ⟨fun a ha e => by
  have h2 := k.lt a ha
  have h1 : w.heap.size ≤ a.block := e
  omega⟩
instance rowOut_oldOne (w : World) (b : Nat) (A : Option Addr) [h : New b w] [k : OldA w A] : RowOut (OneB b) A := ⟨fun a ha e => by
  have h2 := k.lt a ha
  have h1 : a.block = b := e
  have h3 := h.eq
  omega⟩
instance (priority := low) oldA_lk (w' w : World) (S : Nat → Prop) (A : Option Addr) [l : Lk w' w S] [k : OldA w A] : OldA w' A := ⟨fun a ha => Nat.lt_of_lt_of_le (k.lt a ha) l.keep.size⟩
def SlR (w : World) (F : Nat → Prop) (sz : Nat) (v : Value) (xs : List Value) : Prop := ∃ A n c, v = .slice A n c ∧ xs.length = n * sz ∧ FRow w F A xs
theorem SlR.keep {w w' : World} {F S : Nat → Prop} {sz : Nat} {v : Value} {xs : List Value} (h : SlR w F sz v xs) (hk : Keep S w w') (hs : ∀ k, F k → ¬ S k) : SlR w' F sz v xs := by
  obtain ⟨A, n, c, h1, h2, h3⟩ := h
  exact ⟨A, n, c, h1, h2, h3.keep hk hs⟩
theorem SlR.mono {w : World} {F G : Nat → Prop} {sz : Nat} {v : Value} {xs : List Value} (h : SlR w F sz v xs) (hs : ∀ k, F k → G k) : SlR w G sz v xs := by
  obtain ⟨A, n, c, h1, h2, h3⟩ := h
  exact ⟨A, n, c, h1, h2, h3.mono hs⟩
structure SlRs (w : World) (F : Nat → Prop) (sz : Nat) (vs : List Value) (xss : List (List Value)) : Prop where
  len : vs.length = xss.length
  at_ : ∀ (i : Nat) (h : i < vs.length) (h' : i < xss.length), SlR w F sz vs[i] xss[i]
theorem SlRs.keep {w w' : World} {F S : Nat → Prop} {sz : Nat} {vs : List Value} {xss : List (List Value)} (h : SlRs w F sz vs xss) (hk : Keep S w w') (hs : ∀ k, F k → ¬ S k) : SlRs w' F sz vs xss := ⟨h.len, fun i a b => (h.at_ i a b).keep hk hs⟩
theorem SlRs.mono {w : World} {F G : Nat → Prop} {sz : Nat} {vs : List Value} {xss : List (List Value)} (h : SlRs w F sz vs xss) (hs : ∀ k, F k → G k) : SlRs w G sz vs xss := ⟨h.len, fun i a b => (h.at_ i a b).mono hs⟩
theorem SlRs.set {w : World} {F : Nat → Prop} {sz : Nat} {vs : List Value} {xss : List (List Value)} (h : SlRs w F sz vs xss) (k : Nat) {v : Value} {xs : List Value} (hv : SlR w F sz v xs) : SlRs w F sz (vs.set k v) (xss.set k xs) :=
  ⟨by simp [h.len], fun i a b => by
    rw [List.getElem_set, List.getElem_set]
    split
    · exact hv
    · exact h.at_ i (by simpa using a) (by simpa using b)⟩
theorem SlRs.nils (w : World) (F : Nat → Prop) (sz n : Nat) : SlRs w F sz (List.replicate n (.slice none 0 0)) (List.replicate n []) :=
  ⟨by simp, fun i a b => by simp; exact ⟨none, 0, 0, rfl, by simp, FRow.nil _ _⟩⟩
theorem ownB_lt {w : World} {base : Nat} {e : TypeId} {sz n : Nat} {v : Value} {xs : List Value} (h : w.ownsRow base e sz v n xs) : ∀ k, OwnB v k → base ≤ k ∧ k < w.heap.size := fun k hk => h.lt k hk.symm

class NewA (A : Option Addr) (w0 : outParam World) : Prop where le : ∀ a, A = some a → w0.heap.size ≤ a.block
instance ownA_newA (A : Option Addr) (n c : Nat) (w0 : World) [h : NewA A w0] : OwnA (.slice A n c) w0 := ⟨fun k hk => by
  cases A with
  | none => cases hk
  | some a => cases hk; exact h.le a rfl⟩
theorem newA_of {w w0 : World} {base : Nat} {e : TypeId} {sz m n c : Nat} {A : Option Addr} {xs : List Value} (h : w.ownsRow base e sz (.slice A m c) n xs) (hb : w0.heap.size ≤ base) : NewA A w0 := ⟨fun a ha => by subst ha; exact Nat.le_trans hb (h.lt _ rfl).1⟩
instance newA_new (b o : Nat) (s : Option Nat) (w0 : World) [h : New b w0] : NewA (some ⟨b, o, s⟩) w0 := ⟨fun a ha => by cases ha; exact Nat.le_of_eq h.eq.symm⟩
instance rowOut_newOne (A : Option Addr) (w0 : World) (b : Nat) [h : NewA A w0] [k : Has w0 b] : RowOut (OneB b) A := ⟨fun a ha e => by
  have h1 := h.le a ha
  have h2 := k.lt
  have h3 : a.block = b := e
  omega⟩
instance rowOut_newOwn (A B : Option Addr) (w0 : World) (n c : Nat) [h : NewA A w0] [k : OldA w0 B] : RowOut (OwnB (.slice B n c)) A := ⟨fun a ha e => by
  cases B with
  | none => cases e
  | some b =>
    have h1 := h.le a ha
    have h2 := k.lt b rfl
    have h3 : some a.block = some b.block := e
    injection h3 with h3
    omega⟩
class OwnI (w : World) (A : Option Addr) (m c base : outParam Nat) (e : outParam TypeId) (sz n : outParam Nat) (xs : outParam (List Value)) : Prop where own : w.ownsRow base e sz (.slice A m c) n xs
instance ownI_lk (w' w : World) (S : Nat → Prop) (A : Option Addr) (m c base : Nat) (e : TypeId) (sz n : Nat) (xs : List Value) [l : Lk w' w S] [h : OwnI w A m c base e sz n xs] [d : RowOut S A] : OwnI w' A m c base e sz n xs := ⟨own_keep h.own l.keep (fun k hk => by
  cases A with
  | none => cases hk
  | some a => cases hk; exact d.out a rfl)⟩
instance (priority := low) row_ownI (w : World) (A : Option Addr) (m c base : Nat) (e : TypeId) (sz n : Nat) (xs : List Value) [h : OwnI w A m c base e sz n xs] : Row w A xs := ⟨by
  obtain ⟨A', cap, he, _, _, hr⟩ := ownsRow_form h.own
  cases he
  exact hr⟩
instance (priority := low) oldA_ownI (w : World) (A : Option Addr) (m c base : Nat) (e : TypeId) (sz n : Nat) (xs : List Value) [h : OwnI w A m c base e sz n xs] : OldA w A := ⟨fun a ha => by subst ha; exact (h.own.lt _ rfl).2⟩

class LenC (vs : List Value) (n : outParam Nat) : Prop where eq : vs.length = n
instance lenC_lit (vs : List Value) (n : Nat) [h : LenL vs n] : LenC vs n := ⟨h.eq⟩
instance (priority := low) lenC_one (cs : List Value) (α : Type) (xs : List α) (enc : α → Value) [h : OneC cs α xs enc] : LenC cs xs.length := ⟨by rw [h.eq]; simp⟩
instance lenC_ints (xs : List Int) : LenC (ints xs) xs.length := ⟨ints_len xs⟩
instance lenC_map {α : Type} (xs : List α) (enc : α → Value) : LenC (xs.map enc) xs.length := ⟨by simp⟩
class EncN {α : Type} (enc : α → List Value) (sz : outParam Nat) : Prop where eq : ∀ x, (enc x).length = sz
instance lenC_flat {α : Type} (xs : List α) (enc : α → List Value) (sz : Nat) [h : EncN enc sz] : LenC (xs.flatMap enc) (xs.length * sz) := ⟨flat_len h.eq xs⟩
instance flatC_enc {α : Type} (xs : List α) (enc : α → List Value) (sz : Nat) [h : EncN enc sz] : FlatC (xs.flatMap enc) sz α xs enc := ⟨rfl, h.eq⟩
instance cell1l_ints (xs : List Int) : Cell1L (ints xs) := ⟨ints_one xs⟩
instance cell1l_flat {α : Type} (xs : List α) (enc : α → List Value) [h : ∀ x, Cell1L (enc x)] : Cell1L (xs.flatMap enc) := ⟨fun u hu => by
  obtain ⟨x, _, hx⟩ := List.mem_flatMap.1 hu
  exact (h x).eq u hx⟩
instance cell1l_map {α : Type} (xs : List α) (enc : α → Value) [h : ∀ x, Cell1 (enc x)] : Cell1L (xs.map enc) := ⟨fun u hu => by
  obtain ⟨x, _, rfl⟩ := List.mem_map.1 hu
  exact (h x).eq⟩
class FromA (A' : Option Addr) (A : outParam (Option Addr)) (w : outParam World) : Prop where or : ∀ a', A' = some a' → (∃ a, A = some a ∧ a'.block = a.block) ∨ a'.block = w.heap.size
class ApA (A B : Option Addr) : Prop where ne : ∀ a b, A = some a → B = some b → a.block ≠ b.block
theorem ApA.symm {A B : Option Addr} (h : ApA A B) : ApA B A := ⟨fun a b ha hb e => h.ne b a hb ha e.symm⟩
instance apA_none (B : Option Addr) : ApA none B := ⟨fun a b h => by cases h⟩
instance apA_none' (A : Option Addr) : ApA A none := ⟨fun a b _ h => by cases h⟩
instance apA_from (A' A B : Option Addr) (w : World) [f : FromA A' A w] [h : ApA A B] [o : OldA w B] : ApA A' B := ⟨fun a b ha hb e => by
  rcases f.or a ha with ⟨c, hc, e2⟩ | e2
  · exact h.ne c b hc hb (e2.symm.trans e)
  · have := o.lt b hb; omega⟩
instance apA_from' (A' A B : Option Addr) (w : World) [f : FromA A' A w] [h : ApA B A] [o : OldA w B] : ApA B A' := ⟨fun b a hb ha e => by
  rcases f.or a ha with ⟨c, hc, e2⟩ | e2
  · exact h.ne b c hb hc (e.trans e2)
  · have := o.lt b hb; omega⟩
instance (priority := low) apA_newold (A B : Option Addr) (w0 : World) [h : NewA A w0] [o : OldA w0 B] : ApA A B := ⟨fun a b ha hb e => by
  have h1 := h.le a ha; have h2 := o.lt b hb; omega⟩
instance (priority := low) apA_oldnew (A B : Option Addr) (w0 : World) [h : NewA B w0] [o : OldA w0 A] : ApA A B := ⟨fun a b ha hb e => by
  have h1 := h.le b hb; have h2 := o.lt a ha; omega⟩
instance rowOut_ap (A B : Option Addr) (n c : Nat) [h : ApA A B] : RowOut (OwnB (.slice A n c)) B := ⟨fun b hb e => by
  cases A with
  | none => cases e
  | some a =>
    have h3 : some b.block = some a.block := e
    injection h3 with h3
    exact h.ne a b rfl hb h3.symm⟩
section
variable {P : Program} {N : Nat} {τ : Tau} {w : World} {ty t e : TypeId} {x y : Operand} {sz bytes n m c c0 k L base : Nat} {z : Value} {zc : Array Value} {A A0 : Option Addr} {xs news ys : List Value} {G : Value → World → Prop}
theorem isSome_of_len (hr : RowP w A news) (hl : news.length = m * sz) (hpos : 0 < sz) : A.isSome = true ∨ m = 0 := by
  rcases Nat.eq_zero_or_pos m with h | h
  · exact .inr h
  · exact .inl (row_some ⟨hr⟩ (by rw [hl]; exact Nat.mul_pos h hpos))
theorem from_own {A' : Option Addr} {n' c' : Nat} (h : (Value.slice A' n' c').ownBlock = (Value.slice A0 n c0).ownBlock ∨ (Value.slice A' n' c').ownBlock = some w.heap.size) : FromA A' A0 w := ⟨fun a' ha => by
  subst ha
  rcases h with h | h
  · cases A0 with
    | none => cases h
    | some a => exact .inl ⟨a, rfl, by have h' : some a'.block = some a.block := h; injection h'⟩
  · exact .inr (by have h' : some a'.block = some w.heap.size := h; injection h')⟩
theorem e_app [hx : EvO N τ x (.slice A0 n c0)] [hy : EvO N τ y (.slice A m c)] [hu : Und P t (.slice e)] [hi : Inf P e sz bytes z] [hz : Cells z zc] [hzs : Siz zc sz] [hrow : Row w A news] [hown : OwnI w A0 n c0 base e sz n xs] {w0 : World} [hnew : NewA A0 w0] [hge : Ge w w0] [hk : AddN n m k] [ha : App xs news ys] [hc1 : Cell1L news] [hL : LenC news L]
    (hl : L = m * sz) (hpos : 0 < sz) (h63 : n + m ≤ 4294967296) (hbytes : (n + m) * bytes ≤ 140737488355328) (hbase : base ≤ w.heap.size)
    (h : ∀ (A' : Option Addr) (c' : Nat) (w' : World), OwnI w' A' k c' base e sz k ys → Lk w' w (OwnB (.slice A0 n c0)) → NewA A' w0 → FromA A' A0 w → G (.slice A' k c') w') :
    EffV P N (OwnB (.slice A0 n c0)) (.call { callee := .builtin .append, args := #[x, y], argTypes := #[t, t] }) ty τ w G := by
  have hl2 : news.length = m * sz := hL.eq.trans hl
  refine e_append' hown.own hbase hl2 hc1.eq hpos (isSome_of_len hrow.row hl2 hpos) h63 hbytes ?_
  intro A' cap' w' ho lk hf
  have hfr := from_own (w := w) hf
  rw [hk.eq, ha.eq] at ho
  rw [hk.eq]
  refine h A' cap' w' ⟨ho⟩ lk ⟨fun a' ha' => ?_⟩ hfr
  rcases hfr.or a' ha' with ⟨b, hb, e2⟩ | e2
  · rw [e2]; exact hnew.le b hb
  · rw [e2]; exact hge.le
theorem e_appN [hx : EvO N τ x (.slice none 0 0)] [hy : EvO N τ y (.slice A m c)] [hu : Und P t (.slice e)] [hi : Inf P e sz bytes z] [hz : Cells z zc] [hzs : Siz zc sz] [hrow : Row w A news] [hc1 : Cell1L news] [hL : LenC news L]
    (hl : L = m * sz) (hpos : 0 < sz) (h63 : m ≤ 4294967296) (hbytes : m * bytes ≤ 140737488355328)
    (h : ∀ (A' : Option Addr) (c' : Nat) (w' : World), OwnI w' A' m c' w.heap.size e sz m news → Lk w' w (OwnB (.slice none 0 0)) → NewA A' w → FromA A' none w → G (.slice A' m c') w') :
    EffV P N (OwnB (.slice none 0 0)) (.call { callee := .builtin .append, args := #[x, y], argTypes := #[t, t] }) ty τ w G := by
  have hl2 : news.length = m * sz := hL.eq.trans hl
  refine e_append' (World.ownsRow_nil _ _ _ _) (Nat.le_refl _) hl2 hc1.eq hpos (isSome_of_len hrow.row hl2 hpos) (by omega) (by rw [Nat.zero_add]; exact hbytes) ?_
  intro A' cap' w' ho lk hf
  have hfr := from_own (w := w) hf
  rw [Nat.zero_add, List.nil_append] at ho
  rw [Nat.zero_add]
  exact h A' cap' w' ⟨ho⟩ lk (newA_of ho (Nat.le_refl _)) hfr
theorem e_appE {b : Nat} [hx : EvO N τ x (.slice (some ⟨b, 0, none⟩) 0 0)] [hy : EvO N τ y (.slice A m c)] [hu : Und P t (.slice e)] [hi : Inf P e sz bytes z] [hz : Cells z zc] [hzs : Siz zc sz] [hb : Blk w b (.cells #[] e (0, 0))] {w0 : World} [hnew : New b w0] [hge : Ge w w0] [hrow : Row w A news] [hc1 : Cell1L news] [hL : LenC news L]
    (hl : L = m * sz) (hpos : 0 < sz) (h63 : m ≤ 4294967296) (hbytes : m * bytes ≤ 140737488355328)
    (h : ∀ (A' : Option Addr) (c' : Nat) (w' : World), OwnI w' A' m c' w0.heap.size e sz m news → Lk w' w (OwnB (.slice (some ⟨b, 0, none⟩) 0 0)) → NewA A' w0 → FromA A' (some ⟨b, 0, none⟩) w → G (.slice A' m c') w') :
    EffV P N (OwnB (.slice (some ⟨b, 0, none⟩) 0 0)) (.call { callee := .builtin .append, args := #[x, y], argTypes := #[t, t] }) ty τ w G := by
  have hl2 : news.length = m * sz := hL.eq.trans hl
  have ho0 : w.ownsRow w0.heap.size e sz (.slice (some ⟨b, 0, none⟩) 0 0) 0 [] := ownsRow_blk (Nat.le_of_eq hnew.eq.symm) hb.eq (by simp) (by omega)
  refine e_append' ho0 hge.le hl2 hc1.eq hpos (isSome_of_len hrow.row hl2 hpos) (by omega) (by rw [Nat.zero_add]; exact hbytes) ?_
  intro A' cap' w' ho lk hf
  have hfr := from_own (w := w) hf
  rw [Nat.zero_add, List.nil_append] at ho
  rw [Nat.zero_add]
  exact h A' cap' w' ⟨ho⟩ lk (newA_of ho (Nat.le_refl _)) hfr
end
instance (priority := low) app_any (a b : List Value) : App a b (a ++ b) := ⟨rfl⟩

class FLt (F : Nat → Prop) (w : outParam World) : Prop where lt : ∀ k, F k → k < w.heap.size
instance (priority := low) notS_flt (F : Nat → Prop) (b : Nat) (w0 w1 : World) [h : FLt F w0] [n : New b w1] [g : Ge w1 w0] : NotS F b := ⟨fun e => by
  have h1 := h.lt b e
  have h2 := n.eq
  have h3 := g.le
  omega⟩
instance (priority := low) rowOut_flt (F : Nat → Prop) (A : Option Addr) (w0 w1 : World) [h : FLt F w0] [n : NewA A w1] [g : Ge w1 w0] : RowOut F A := ⟨fun a ha e => by
  have h1 := h.lt _ e
  have h2 := n.le a ha
  have h3 := g.le
  omega⟩
instance (priority := low) subS_orl (T S U : Nat → Prop) [h : SubS T S] : SubS T (fun k => S k ∨ U k) := ⟨fun k e => .inl (h.sub k e)⟩
instance (priority := low) subS_orr (T S U : Nat → Prop) [h : SubS T U] : SubS T (fun k => S k ∨ U k) := ⟨fun k e => .inr (h.sub k e)⟩
instance (priority := low) subF_orl (T S U : Nat → Prop) (w : World) [h : SubF T S w] : SubF T (fun k => S k ∨ U k) w := ⟨fun k hk e => .inl (h.sub k hk e)⟩
instance (priority := low) subF_orr (T S U : Nat → Prop) (w : World) [h : SubF T U w] : SubF T (fun k => S k ∨ U k) w := ⟨fun k hk e => .inr (h.sub k hk e)⟩
instance rowOut_or (S T : Nat → Prop) (A : Option Addr) [h : RowOut S A] [k : RowOut T A] : RowOut (fun i => S i ∨ T i) A := ⟨fun a ha e => e.elim (h.out a ha) (k.out a ha)⟩
instance (priority := low) subF_newS (w0 w : World) (b : Nat) [h : New b w0] [g : Ge w0 w] : SubF (OneB b) (NewS w) w0 := ⟨fun k _ e => by
  have h1 := h.eq
  have h2 := g.le
  have h3 : k = b := e
  show w.heap.size ≤ k
  omega⟩
end Go.Wst
set_option linter.all false
namespace Go.Wst
structure Elem (E : List Value → (Nat → Prop) → World → Prop) : Prop where
  lt : ∀ v Fv W, E v Fv W → ∀ k, Fv k → k < W.heap.size
  keep : ∀ v Fv W W' S, E v Fv W → Keep S W W' → (∀ k, Fv k → ¬ S k) → E v Fv W'
structure YieldsE (P : Program) (y : Value) (Al : Seen → Prop) (E : List Value → (Nat → Prop) → World → Prop) (I J : Seen → (Nat → Prop) → World → Prop) (w0 : World) (n : Nat) : Prop where
  i : Stable I w0
  j : Stable J w0
  step : ∀ pre v F Fv W, Al (pre ++ [v]) → I pre F W → E v Fv W → (∀ k, Fv k → ¬ F k) → (∀ k, Fv k → n ≤ k) → CallV P y v W (fun r W' => ∃ b F', r = .bool b ∧ (if b = true then I (pre ++ [v]) F' W' else J (pre ++ [v]) F' W') ∧ Keep (fun k => F k ∨ Fv k) W W' ∧ Sub F' (fun k => F k ∨ Fv k) W)
def IterE (P : Program) (g : Value) (Own : Nat → Prop) (Al Fin : Seen → Prop) (E : List Value → (Nat → Prop) → World → Prop) (w : World) : Prop :=
  ∀ y I J F w0, YieldsE P y Al E I J w0 w.heap.size → w0.heap.size ≤ w.heap.size → I [] F w → (∀ k, F k → ¬ Own k) → CallV P g [y] w (fun _ w' => ∃ pre F', ((Fin pre ∧ I pre F' w') ∨ J pre F' w') ∧ Keep F w w' ∧ Sub F' F w)
theorem x_rangeE {P : Program} {N : Nat} {Q : Post} {τ : Tau} {ds : List Deferred} {w : World} {g : Operand} {gf : FuncId} {ga gc : Array Value} {ps : List Nat} {assign body : Code} [hg : EvO N τ g (.func (.func gf) ga gc)]
    (Own : Nat → Prop) (Al Fin : Seen → Prop) (E : List Value → (Nat → Prop) → World → Prop) (hE : Elem E) (hit : ∀ W, Lk W w NoB → IterE P (.func (.func gf) ga gc) Own Al Fin E W) (hOwn : ∀ k, Own k → k < w.heap.size) (hAl : ∀ pre v, Al (pre ++ [v]) → v.length = ps.length)
    (I : Seen → (Nat → Prop) → World → Prop) (J : Exit → Seen → (Nat → Prop) → World → Prop) (F0 : Nat → Prop) (hI : Stable I w) (hJ : ∀ e, Stable (J e) w) (h0 : I [] F0 w) (hF : ∀ k, F0 k → ¬ Own k)
    (B : List Value → Tau → Nat → World → Prop) (hBk : ∀ v τ n W1 W2 S, B v τ n W1 → Keep S W1 W2 → (∀ k, S k → k < n) → B v τ n W2)
    (ha : ∀ l pre v W, Al (pre ++ [v]) → v.length = ps.length → X P (some l) N assign (thn (fun τ1 _ W1 => Lk W1 W NoB ∧ B v τ1 W.heap.size W1) (fun _ _ _ _ => False)) (updL τ ps v) [] W)
    (hb : ∀ l pre v F Fv n W τ1 ds1, Al (pre ++ [v]) → I pre F W → E v Fv W → (∀ k, Fv k → ¬ F k) → (∀ k, Fv k → w.heap.size ≤ k) → (∀ k, F k ∨ Fv k → k < n) → w.heap.size ≤ n → n ≤ W.heap.size → B v τ1 n W → X P (some l) N body (roundQ I J (pre ++ [v]) (fun k => F k ∨ Fv k ∨ n ≤ k) W) τ1 ds1 W)
    (hn : ∀ D pre F W, Fin pre → I pre F W → Keep F0 w W → Sub F F0 w → Blk W D (.deferred (some [])) → w.heap.size ≤ D → ¬ F D → Q .normal τ (markOf D :: ds) W)
    (hj : ∀ D e pre F W, J e pre F W → (codeOf e).isSome = true → Keep F0 w W → Sub F F0 w → Blk W D (.deferred (some [])) → w.heap.size ≤ D → ¬ F D → Q e τ (markOf D :: ds) W) :
    X P none N (.rangeFunc g ps.toArray assign body) Q τ ds w := by
  intro a hrel
  refine wpIn_rangeFunc ?_
  intro fn hfn
  obtain ⟨rec, hrec⟩ : ∃ rec : LoopState → Option Code → Loop, rec = fun st pe => { state := st, pending := pe, fn, tmps := a.tmps, params := ps.toArray, assign, body, defers := w.heap.size } := ⟨_, rfl⟩
  obtain ⟨W1, hW1⟩ : ∃ W1, (w.alloc (.deferred (some []))).alloc (.loop (rec .ready none)) = W1 := ⟨_, rfl⟩
  obtain ⟨l, hl⟩ : ∃ l, l = w.heap.size + 1 := ⟨_, rfl⟩
  have hk1 : Keep NoB w W1 := by rw [← hW1]; exact (Keep.alloc w _).trans (Keep.alloc _ _)
  have hL1 : W1.heap[l]? = some (.loop (rec .ready none)) := by
    rw [← hW1, hl]; have := heap_alloc_new (w.alloc (.deferred (some []))) (.loop (rec .ready none)); rwa [World.size_alloc] at this
  have hD1 : W1.heap[w.heap.size]? = some (.deferred (some [])) := by
    rw [← hW1]; exact ((Keep.alloc (w.alloc (.deferred (some []))) (.loop (rec .ready none))).block _ (by simp) (fun h => h)).trans (heap_alloc_new w _)
  have hF0 := hI.lt _ _ _ h0
  -- the relation, with the loop's record
  obtain ⟨I', hI'⟩ : ∃ I' : Seen → (Nat → Prop) → World → Prop, I' = fun pre F' W => ∃ F, (∀ k, F' k ↔ (F k ∨ k = l)) ∧ ¬ F l ∧ I pre F W ∧ W.heap[l]? = some (.loop (rec .ready none)) ∧ Sub F F0 w ∧ ¬ F w.heap.size := ⟨_, rfl⟩
  obtain ⟨J', hJ'⟩ : ∃ J' : Seen → (Nat → Prop) → World → Prop, J' = fun pre F' W => ∃ F e, (codeOf e).isSome = true ∧ (∀ k, F' k ↔ (F k ∨ k = l)) ∧ ¬ F l ∧ J e pre F W ∧ W.heap[l]? = some (.loop (rec .done (codeOf e))) ∧ Sub F F0 w ∧ ¬ F w.heap.size := ⟨_, rfl⟩
  have hlw : ∀ k, OneB l k → w.heap.size ≤ k := fun k e => by have e' : k = l := e; omega
  have hyields : YieldsE P (.func (.yield l) #[] #[]) Al E I' J' w W1.heap.size := by
    rw [hI', hJ']
    refine ⟨⟨?_, ?_⟩, ⟨?_, ?_⟩, ?_⟩
    · rintro pre F' W ⟨F, h1, h2, h3, h4, _⟩ k hk
      rcases (h1 k).1 hk with h | h
      · exact hI.lt _ _ _ h3 k h
      · rw [h]; exact (Array.getElem?_eq_some_iff.1 h4).1
    · rintro pre F' W W' S ⟨F, h1, h2, h3, h4, h5⟩ hk hs hnew
      exact ⟨F, h1, h2, hI.keep _ _ _ _ _ h3 hk (fun k h => hs k ((h1 k).2 (.inl h))) hnew, (hk.block l (Array.getElem?_eq_some_iff.1 h4).1 (hs l ((h1 l).2 (.inr rfl)))).trans h4, h5⟩
    · rintro pre F' W ⟨F, e, _, h1, h2, h3, h4, _⟩ k hk
      rcases (h1 k).1 hk with h | h
      · exact (hJ e).lt _ _ _ h3 k h
      · rw [h]; exact (Array.getElem?_eq_some_iff.1 h4).1
    · rintro pre F' W W' S ⟨F, e, h0, h1, h2, h3, h4, h5⟩ hk hs hnew
      exact ⟨F, e, h0, h1, h2, (hJ e).keep _ _ _ _ _ h3 hk (fun k h => hs k ((h1 k).2 (.inl h))) hnew, (hk.block l (Array.getElem?_eq_some_iff.1 h4).1 (hs l ((h1 l).2 (.inr rfl)))).trans h4, h5⟩
    · rintro pre v F' Fv W hal ⟨F, h1, h2, h3, h4, h5, h6⟩ hEv hdis hnw
      have hW1s : W1.heap.size = w.heap.size + 2 := by rw [← hW1]; simp
      have hFvl : ¬ Fv l := fun e => hdis l e ((h1 l).2 (.inr rfl))
      have hlt : l < W.heap.size := (Array.getElem?_eq_some_iff.1 h4).1
      have hvl := hAl pre v hal
      have hy := run_yield (P := P) (args := v.toArray) h4 (by rw [hrec]; simp [hvl])
      refine .inr ⟨l, fn, _, assign, body, rfl, by rw [hrec] at hy; exact hy, roundIn_of_wpIn (F := FX none) hfn ?_⟩
      have hz : Rel N (updL τ ps v) [] ⟨(ps.zip v).foldl (fun t (p : Nat × Value) => t.setIfInBounds p.1 p.2) a.tmps, []⟩ := rel_zip ps v τ a.tmps ⟨hrel.size, hrel.get, rfl⟩
      have hzz : (Array.foldl (fun (tmps : Array Value) (x : Nat × Value) => tmps.setIfInBounds x.1 x.2) a.tmps (ps.toArray.zip v.toArray)) = (ps.zip v).foldl (fun t (p : Nat × Value) => t.setIfInBounds p.1 p.2) a.tmps := by
        rw [List.zip_toArray, List.foldl_toArray]
      have h7 := ha l pre v W hal hvl _ hz
      have h8 : Code.wpIn (FX (some l)) 0 P assign (Exit.then (fun a₁ w₁ => ∃ w₂, (Instr.beginRound l).run P w₁ = .ok () w₂ ∧ body.wpIn (FX (some l)) 0 P (roundPost P l (fun e w' => ∃ v_1, e = .returned v_1 ∧ ∃ b F'_1, v_1 = .bool b ∧ (if b = true then (fun pre F' W => ∃ F, (∀ k, F' k ↔ (F k ∨ k = l)) ∧ ¬ F l ∧ I pre F W ∧ W.heap[l]? = some (.loop (rec .ready none)) ∧ Sub F F0 w ∧ ¬ F w.heap.size) (pre ++ [v]) F'_1 w' else (fun pre F' W => ∃ F e, (codeOf e).isSome = true ∧ (∀ k, F' k ↔ (F k ∨ k = l)) ∧ ¬ F l ∧ J e pre F W ∧ W.heap[l]? = some (.loop (rec .done (codeOf e))) ∧ Sub F F0 w ∧ ¬ F w.heap.size) (pre ++ [v]) F'_1 w') ∧ Keep (fun k => F' k ∨ Fv k) W w' ∧ Sub F'_1 (fun k => F' k ∨ Fv k) W)) a₁ w₂) (fun _ _ _ => False))
          ⟨(ps.zip v).foldl (fun t (p : Nat × Value) => t.setIfInBounds p.1 p.2) a.tmps, []⟩ W := by
        refine wpIn_mono h7 ?_
        rintro e a1 W2 ⟨τ1, d1, hr1, hq⟩
        cases e with
        | normal =>
          obtain ⟨⟨hkW⟩, hB⟩ := hq
          have hlt2 : l < W2.heap.size := Nat.lt_of_lt_of_le hlt hkW.size
          have h4' : W2.heap[l]? = some (.loop (rec .ready none)) := (hkW.block l hlt (fun h => h)).trans h4
          have hFlt := hI.lt _ _ _ h3
          refine ⟨_, run_beginRound h4' (by rw [hrec]), ?_⟩
          have hk2 := keep_putObj W2 l (.loop { rec .ready none with state := .busy })
          have hl2 : (W2.putObj l (.loop { rec .ready none with state := .busy })).heap[l]? = some (.loop { rec .ready none with state := .busy }) := World.putObj_heap_same hlt2
          have hi2 := hI.keep _ _ _ _ _ (hI.keep _ _ _ _ _ h3 hkW (fun _ _ h => h) (fun _ h => h.elim)) hk2 (fun k hk e => h2 (by have e' : k = l := e; rw [← e']; exact hk)) hlw
          have hE2 := hE.keep _ _ _ _ _ (hE.keep _ _ _ _ _ hEv hkW (fun _ _ h => h)) hk2 (fun k hk e => hFvl (by have e' : k = l := e; rw [← e']; exact hk))
          have hsz : (W2.putObj l (.loop { rec .ready none with state := .busy })).heap.size = W2.heap.size := by simp [World.putObj]
          have hsW := hkW.size
          have hwW : w.heap.size ≤ W.heap.size := by omega
          have hB2 := hBk _ _ _ _ _ _ hB hk2 (fun k e => by have e' : k = l := e; omega)
          refine wpIn_mono (hb l pre v F Fv W.heap.size _ τ1 d1 hal hi2 hE2 (fun k hk e => hdis k hk ((h1 k).2 (.inl e))) (fun k hk => by have := hnw k hk; omega) (fun k hk => hk.elim (hFlt k) (fun hk => hE.lt _ _ _ hEv k hk)) hwW (by rw [hsz]; exact hsW) hB2 a1 hr1) ?_
          -- what the round's end leaves
          have fin : ∀ (jump : Option Code) (W3 : World) (F3 : Nat → Prop), Keep (fun k => F k ∨ Fv k ∨ W.heap.size ≤ k) (W2.putObj l (.loop { rec .ready none with state := .busy })) W3 → Sub F3 (fun k => F k ∨ Fv k ∨ W.heap.size ≤ k) (W2.putObj l (.loop { rec .ready none with state := .busy })) →
              (Instr.endRound l jump).run P W3 = .ok (.bool jump.isNone) (W3.putObj l (.loop (rec (if jump.isNone then .ready else .done) jump))) ∧
              (W3.putObj l (.loop (rec (if jump.isNone then .ready else .done) jump))).heap[l]? = some (.loop (rec (if jump.isNone then .ready else .done) jump)) ∧
              ¬ F3 l ∧ Keep (fun k => F' k ∨ Fv k) W (W3.putObj l (.loop (rec (if jump.isNone then .ready else .done) jump))) ∧ Sub (fun k => F3 k ∨ k = l) (fun k => F' k ∨ Fv k) W ∧ Sub F3 F0 w ∧ ¬ F3 w.heap.size := by
            intro jump W3 F3 hk3 hs3
            have hnl : ¬ (F l ∨ Fv l ∨ W.heap.size ≤ l) := fun e => e.elim h2 (fun e => e.elim hFvl (fun e => by omega))
            have hl3 := (hk3.block l (by rw [hsz]; exact hlt2) hnl).trans hl2
            have hr := run_endRound (P := P) jump hl3
            have hw2 : w.heap.size ≤ W2.heap.size := by omega
            refine ⟨by rw [hrec] at hr ⊢; exact hr, World.putObj_heap_same (Array.getElem?_eq_some_iff.1 hl3).1, fun h => (hs3 l h).elim hnl (fun e => by rw [hsz] at e; omega), ?_, ?_, ?_, ?_⟩
            · have k0 : Keep (fun k => F' k ∨ Fv k) W W2 := hkW.mono (fun _ _ h => h.elim)
              have k1 : Keep (fun k => F' k ∨ Fv k) W (W2.putObj l (.loop { rec .ready none with state := .busy })) := k0.then hk2 (fun k _ e => .inl ((h1 k).2 (.inr e)))
              have k2 : Keep (fun k => F' k ∨ Fv k) W W3 := k1.then hk3 (fun k hk e => e.elim (fun e => .inl ((h1 k).2 (.inl e))) (fun e => e.elim .inr (fun e => by omega)))
              exact k2.then (keep_putObj W3 l _) (fun k _ e => .inl ((h1 k).2 (.inr e)))
            · rintro k (hk | hk)
              · rcases hs3 k hk with (e | e | e) | e
                · exact .inl (.inl ((h1 k).2 (.inl e)))
                · exact .inl (.inr e)
                · exact .inr e
                · rw [hsz] at e; exact .inr (Nat.le_trans hsW e)
              · exact .inl (.inl ((h1 k).2 (.inr hk)))
            · intro k hk
              rcases hs3 k hk with (e | e | e) | e
              · exact h5 k e
              · have := hnw k e; exact .inr (by omega)
              · exact .inr (by omega)
              · rw [hsz] at e; exact .inr (by omega)
            · intro hk
              rcases hs3 _ hk with (e | e | e) | e
              · exact h6 e
              · have := hnw _ e; omega
              · omega
              · rw [hsz] at e; omega
          rintro e3 a3 W3 ⟨τ3, d3, hr3, hp⟩
          cases e3 with
          | normal =>
            obtain ⟨F3, hi3, hk3, hs3⟩ := hp
            obtain ⟨e1, e2, e3, e4, e5, e6, e7⟩ := fin none W3 F3 hk3 hs3
            have hi4 := hI.keep _ _ _ _ _ hi3 (keep_putObj W3 l (.loop (rec .ready none))) (fun k hk e => e3 (by have e' : k = l := e; rw [← e']; exact hk)) hlw
            exact ⟨_, _, e1, _, rfl, true, _, rfl, by rw [if_pos rfl]; exact ⟨F3, fun k => Iff.rfl, e3, hi4, e2, e6, e7⟩, e4, e5⟩
          | ret =>
            obtain ⟨F3, hi3, hk3, hs3⟩ := hp
            obtain ⟨e1, e2, e3, e4, e5, e6, e7⟩ := fin (some .ret) W3 F3 hk3 hs3
            have hi4 := (hJ .ret).keep _ _ _ _ _ hi3 (keep_putObj W3 l (.loop (rec .done (some .ret)))) (fun k hk e => e3 (by have e' : k = l := e; rw [← e']; exact hk)) hlw
            exact ⟨_, _, e1, _, rfl, false, _, rfl, by rw [if_neg (by simp)]; exact ⟨F3, .ret, rfl, fun k => Iff.rfl, e3, hi4, e2, e6, e7⟩, e4, e5⟩
          | exit id =>
            obtain ⟨F3, hi3, hk3, hs3⟩ := hp
            obtain ⟨e1, e2, e3, e4, e5, e6, e7⟩ := fin (some (.exit id)) W3 F3 hk3 hs3
            have hi4 := (hJ (.exit id)).keep _ _ _ _ _ hi3 (keep_putObj W3 l (.loop (rec .done (some (.exit id))))) (fun k hk e => e3 (by have e' : k = l := e; rw [← e']; exact hk)) hlw
            exact ⟨_, _, e1, _, rfl, false, _, rfl, by rw [if_neg (by simp)]; exact ⟨F3, .exit id, rfl, fun k => Iff.rfl, e3, hi4, e2, e6, e7⟩, e4, e5⟩
          | goto t => exact hp.elim
          | panic ch => exact hp.elim
          | outgrown => exact hp.elim
        | exit id => exact hq.elim
        | goto t => exact hq.elim
        | ret => exact hq.elim
        | panic ch => exact hq.elim
        | outgrown => exact hq.elim
      rw [hrec]
      simp only []
      rw [hzz]
      rw [hrec] at h8
      exact h8
  have hstart : I' [] (fun k => F0 k ∨ k = l) W1 := by
    rw [hI']
    exact ⟨F0, fun k => Iff.rfl, fun e => by have := hF0 l e; omega, hI.keep _ _ _ _ _ h0 hk1 (fun _ _ h => h) (fun _ h => h.elim), hL1, Sub.refl _ _, fun e => by have := hF0 _ e; omega⟩
  have hiter := hit W1 ⟨hk1⟩ (.func (.yield l) #[] #[]) I' J' (fun k => F0 k ∨ k = l) w hyields hk1.size hstart (fun k hk => by
    rcases hk with hk | hk
    · exact hF k hk
    · intro e; have := hOwn k e; omega)
  have hgv := hg.eq
  have post : ∀ (v : Value) (w3 : World), (∃ pre F', ((Fin pre ∧ I' pre F' w3) ∨ J' pre F' w3) ∧ Keep (fun k => F0 k ∨ k = l) W1 w3 ∧ Sub F' (fun k => F0 k ∨ k = l) W1) →
      rangePost (FX none) 0 P l (lift N Q) { a with defers := markOf w.heap.size :: a.defers } (.returned v) w3 := by
    rintro v w3 ⟨pre, F', hor, hk3, hs3⟩
    have hD3 : w3.heap[w.heap.size]? = some (.deferred (some [])) := (hk3.block _ (Array.getElem?_eq_some_iff.1 hD1).1 (fun e => e.elim (fun e => by have := hF0 _ e; omega) (fun e => by omega))).trans hD1
    have hrel2 : Rel N τ (markOf w.heap.size :: ds) { a with defers := markOf w.heap.size :: a.defers } := ⟨hrel.size, hrel.get, by simp [hrel.dfs]⟩
    have hkw : ∀ o, Keep F0 w (w3.putObj l o) := fun o => by
      have k1 : Keep F0 w W1 := hk1.mono (fun _ _ h => h.elim)
      have k2 : Keep F0 w w3 := k1.then hk3 (fun k hk e => e.elim (fun e => e) (fun e => by omega))
      exact k2.then (keep_putObj w3 l o) (fun k hk e => by have e' : k = l := e; omega)
    rcases hor with ⟨hfin, hi⟩ | hjj
    · rw [hI'] at hi
      obtain ⟨F, h1, h2, h3, h4, h5, h6⟩ := hi
      refine ⟨none, _, by have := run_endLoop (P := P) h4 (by rw [hrec]; simp); rw [hrec] at this; exact this, τ, _, hrel2, ?_⟩
      refine hn w.heap.size pre F _ hfin (hI.keep _ _ _ _ _ h3 (keep_putObj w3 l _) (fun k hk e => h2 (by have e' : k = l := e; rw [← e']; exact hk)) hlw) (hkw _) h5 ⟨(World.putObj_heap_other (by omega)).trans hD3⟩ (Nat.le_refl _) h6
    · rw [hJ'] at hjj
      obtain ⟨F, e, hc, h1, h2, h3, h4, h5, h6⟩ := hjj
      have hq := hj w.heap.size e pre F _ ((hJ e).keep _ _ _ _ _ h3 (keep_putObj w3 l (.loop { rec .done (codeOf e) with state := .exhausted })) (fun k hk e => h2 (by have e' : k = l := e; rw [← e']; exact hk)) hlw) hc (hkw _) h5 ⟨(World.putObj_heap_other (by omega)).trans hD3⟩ (Nat.le_refl _) h6
      have hrun : (Instr.endLoop l).run P w3 = .ok (codeOf e) (w3.putObj l (.loop { rec .done (codeOf e) with state := .exhausted })) := by
        subst hrec
        exact run_endLoop (P := P) h4 (by simp)
      refine ⟨codeOf e, _, hrun, ?_⟩
      cases e with
      | ret => exact wpIn_ret ⟨τ, _, hrel2, hq⟩
      | exit id => exact wpIn_exit ⟨τ, _, hrel2, hq⟩
      | normal => simp [codeOf] at hc
      | goto t => simp [codeOf] at hc
      | panic ch => simp [codeOf] at hc
      | outgrown => simp [codeOf] at hc
  have henter := run_enterLoop_outer (P := P) (w := w) fn a.tmps ps.toArray assign body
  rcases hiter with ⟨f, aa, cc, hgf, hf, h3⟩ | ⟨l2, f, t, as, bd, hgf, h2, h3⟩
  · cases hgf
    obtain ⟨fn2, cb, hfn2, hnm, hbd⟩ := hf.ex
    refine ⟨l, [markOf w.heap.size], W1, { target := .fn (.func gf) gc, args := ga ++ #[.func (.yield l) #[] #[]] }, W1, gf, ga ++ #[.func (.yield l) #[] #[]] ++ gc, W1, ?_, ?_, fun _ _ => trivial, ?_, (fun h => by simp [FX] at h), ?_⟩
    · rw [hl, ← hW1, hrec]; exact henter
    · have e1 : a.eval g = .func (.func gf) ga gc := by rw [hrel.eval]; exact hgv
      have e0 : resolve a.eval (rangeCall g l) 0 = Deferred.ofValue (a.eval g) #[.func (.yield l) #[] #[]] := by
        simp [resolve, rangeCall]
        rfl
      rw [e0, e1]
      simp [Deferred.ofValue]
    · simp [invoke, callFunc, program, Sem.run, hfn2, hnm, hbd]
    · refine (callsIn_FX (r := none) (n := 0 - 1)).2 (Calls.mono h3 ?_)
      rintro e w'' ⟨v, rfl, hR⟩
      exact post v w'' hR
  · cases hgf

end Go.Wst
set_option linter.all false
namespace Go.Wst
section
variable {P : Program} {r : Option Nat} {N : Nat} {S T : Nat → Prop} {τ : Tau} {w : World} {ty kt et t : TypeId}
def StrIt (w : World) (it : Nat) (s : ByteArray) (pos : Nat) : Prop := w.heap[it]? = some (.stringIter s pos)
theorem StrIt.keep {w w' : World} {it pos : Nat} {s : ByteArray} {S : Nat → Prop} (h : StrIt w it s pos) (hk : Keep S w w') (hs : ¬ S it) : StrIt w' it s pos := (hk.block it (Array.getElem?_eq_some_iff.1 h).1 hs).trans h
theorem StrIt.lt {w : World} {it pos : Nat} {s : ByteArray} (h : StrIt w it s pos) : it < w.heap.size := (Array.getElem?_eq_some_iff.1 h).1
theorem e_rangeS {x : Operand} {s : ByteArray} {G : Value → World → Prop} [hx : EvO N τ x (.string s)] [hu : Und P t .string]
    (h : ∀ (b : Nat) (w' : World), New b w → Lk w' w NoB → StrIt w' b s 0 → Has w' b → G (.pointer (some ⟨b, 0, none⟩)) w') : EffV P N NoB (.range t x) ty τ w G := by
  obtain ⟨k1, k2, k3⟩ := new_blk (w := w) (.stringIter s 0)
  refine ⟨fun _ => nofun, .pointer (some ⟨w.heap.size, 0, none⟩), w.alloc (.stringIter s 0), ?_, k2.keep, h _ _ k1 k2 k3.eq ⟨(Array.getElem?_eq_some_iff.1 k3.eq).1⟩⟩
  have := run_range_string (P := P) w t s hu.eq
  simp only [execOp, hx.eq, Sem.run_bind, this, Result.andThen_ok, Sem.run_pure]
  rfl
theorem e_nextS {it pos : Nat} {s : ByteArray} {x : Operand} {G : Value → World → Prop} [hx : EvO N τ x (.pointer (some ⟨it, 0, none⟩))] (hm : StrIt w it s pos)
    (h : ∀ (b : Bool) (qs : List Value) (w' : World), Lk w' w (OneB it) → (b = false → ¬ pos < s.size) → (b = true → pos < s.size ∧ qs = [.int .i64 pos, .int .i32 (Utf8.decode s pos).1] ∧ StrIt w' it s (pos + (Utf8.decode s pos).2)) → G (.tuple (.bool b :: qs).toArray) w') :
    EffV P N (OneB it) (.next x true) ty τ w G := by
  have hgi : (getObj it).run P w = .ok (.stringIter s pos) w := by simp [getObj, Sem.run, show w.heap[it]? = _ from hm]
  by_cases hp : pos < s.size
  · have hset : (setObj it (.stringIter s (pos + (Utf8.decode s pos).2))).run P w = .ok () { w with heap := w.heap.setIfInBounds it (.stringIter s (pos + (Utf8.decode s pos).2)) } := by
      simp [setObj, Sem.run, show w.heap[it]? = _ from hm]
    have hk : Keep (OneB it) w { w with heap := w.heap.setIfInBounds it (.stringIter s (pos + (Utf8.decode s pos).2)) } := ⟨rfl, rfl, rfl, by simp, fun k _ hk => by
      show (w.heap.setIfInBounds it _)[k]? = _
      rw [Array.getElem?_setIfInBounds_ne (fun e => hk e.symm)]⟩
    refine ⟨fun _ => nofun, .tuple (.bool true :: [.int .i64 pos, .int .i32 (Utf8.decode s pos).1]).toArray, _, ?_, hk, h true _ _ ⟨hk⟩ (fun e => by cases e) (fun _ => ⟨hp, rfl, ?_⟩)⟩
    · simp only [execOp, hx.eq, Instr.next, Sem.run_bind, hgi, Result.andThen_ok, hp, if_true, hset, Sem.run_pure, goInt]
    · show (w.heap.setIfInBounds it _)[it]? = _
      rw [Array.getElem?_setIfInBounds_self_of_lt hm.lt]
  · refine ⟨fun _ => nofun, .tuple (.bool false :: []).toArray, w, ?_, Keep.refl _ _, h false [] w ⟨Keep.refl _ _⟩ (fun _ => hp) (fun e => by cases e)⟩
    simp only [execOp, hx.eq, Instr.next, Sem.run_bind, hgi, Result.andThen_ok, hp, if_false, Sem.run_pure]
theorem v_slice3 {x y z : Operand} {t e : TypeId} {A : Option Addr} {n c sz bytes : Nat} {zv : Value} {i j : Int} (k m : Nat) [hx : EvO N τ x (.slice A n c)] [hy : EvO N τ y (.int .i64 i)] [hz : EvO N τ z (.int .i64 j)] [hu : Und P t (.slice e)] [hi : Inf P e sz bytes zv] (hk : i = (k : Int)) (hj : j = (m : Int)) (hkm : k ≤ m) (hn : m ≤ c) :
    Val P r N S (.slice t x none (some y) (some z)) ty τ w (.slice A k m) := ⟨fun _ => nofun, fun W _ => by
  obtain ⟨ii, h1, h2, h3, h4⟩ := hi.ex
  subst hk; subst h2; subst hj
  have h5 : (0 : Int) ≤ (k : Int) ∧ (k : Int) ≤ (m : Int) := by omega
  have h6 : (0 : Int) ≤ (m : Int) ∧ (m : Int) ≤ (c : Int) := by omega
  cases A with
  | none => simp [execOp, hx.eq, hy.eq, hz.eq, Instr.sliceAt, Instr.slice, run_underlying hu.eq, Instr.sliceBounds, Instr.sliceBound, asIntOf, hkm, hn, sizeOf, typeInfo, h1]
  | some a => simp [execOp, hx.eq, hy.eq, hz.eq, Instr.sliceAt, Instr.slice, run_underlying hu.eq, Instr.sliceBounds, Instr.sliceBound, asIntOf, hkm, hn, sizeOf, typeInfo, h1, Addr.add]⟩
theorem zeroCells_list (z : Value) (n : Nat) (h : z.cells = #[z]) : (Builtin.zeroCells z.cells n).toList = List.replicate n z := by
  rw [h]
  apply List.ext_getElem
  · simp [Builtin.zeroCells]
  · intro j h1 h2
    simp [Builtin.zeroCells, Nat.mod_one]
theorem e_appendZ {x y : Operand} {tn e : TypeId} {bytes n : Nat} {z : Value} {i : Int} {kn : IntKind} {G : Value → World → Prop} [hx : EvO N τ x (.slice none 0 0)] [hy : EvO N τ y (.int .i64 i)] [hu : Und P t (.slice e)] [htn : Und P tn (.int kn)] [hi : Inf P e 1 bytes z] (hn : i = (n : Int)) (h0 : 0 < n) (h1 : z.cells = #[z]) (h63 : n ≤ 4294967296) (hb : n * bytes ≤ 140737488355328)
    (h : ∀ (A' : Option Addr) (c' : Nat) (w' : World), w'.ownsRow w.heap.size e 1 (.slice A' n c') n (List.replicate n z) → Lk w' w NoB → n ≤ c' → G (.slice A' n c') w') :
    EffV P N NoB (.call { callee := .builtin .append, args := #[x, y], argTypes := #[t, tn] }) ty τ w G := by
  obtain ⟨ii, h5, h6, h7, h8⟩ := hi.ex
  subst hn; subst h7
  have hr := Lib.run_append_nil_zeros (P := P) w t tn ty e ii z .i64 kn hu.eq htn.eq h5 h8 n h0 (by omega) (by omega) (by omega)
  have hk : Keep NoB w (w.drew.alloc (.cells (Builtin.zeroCells z.cells n ++ Builtin.zeroCells z.cells (grownCap w n 0 e - n)) e)) := (Keep.drew w).then (Keep.alloc _ _) (fun _ _ h => h)
  have hcap : n ≤ grownCap w n 0 e := grownCap_ge w n 0 e
  have hmx : grownCap w n 0 e ≤ maxLen := grownCap_le_maxLen w n 0 e (by unfold maxLen; omega)
  refine ⟨fun _ => nofun, _, _, by simp only [execOp, resolve, invoke, builtin, hx.eq, hy.eq, hr, Sem.run_bind, Sem.run_pure, Result.andThen_ok, List.map_toArray, List.map_cons, List.map_nil], hk, h _ _ _ ⟨by simp, .inr ⟨w.heap.size, _, _, rfl, Nat.le_refl _, heap_alloc_new _ _, hcap, hmx, ?_, ?_⟩⟩ ⟨hk⟩ hcap⟩
  · simp [Builtin.zeroCells, h1]; omega
  · have e1 := zeroCells_list z n h1
    have e2 : (Builtin.zeroCells z.cells n).toList.length = n := by rw [e1]; simp
    simp only [Array.toList_append]
    rw [List.take_append_of_le_length (by simp [e2]), List.take_of_length_le (by simp [e2]), e1]
theorem v_cap {x : Operand} {t e : TypeId} {A : Option Addr} {n c : Nat} [hx : EvO N τ x (.slice A n c)] [hu : Und P t (.slice e)] : Val P r N S (.call { callee := .builtin .cap, args := #[x], argTypes := #[t] }) ty τ w (.int .i64 (c : Int)) := ⟨fun _ => nofun, fun W _ => by
  simp [execOp, resolve, invoke, builtin, hx.eq, Builtin.cap_, run_underlying hu.eq, goInt]⟩
theorem v_beql {x y : Operand} {t t' : TypeId} {a b : Bool} [hx : EvO N τ x (.bool a)] [hy : EvO N τ y (.bool b)] [h : Und P t .bool] : Val P r N S (.binOp .eql t x y t') ty τ w (.bool (a == b)) := ⟨fun _ => nofun, fun W _ => by
  have e := run_equalIn_bool W 9999 t a b h.eq
  simp [execOp, hx.eq, hy.eq, eqGuard, binOp, Op.equal, show Op.maxDepth = 9999 + 1 from rfl, e]⟩
theorem v_bneq {x y : Operand} {t t' : TypeId} {a b : Bool} [hx : EvO N τ x (.bool a)] [hy : EvO N τ y (.bool b)] [h : Und P t .bool] : Val P r N S (.binOp .neq t x y t') ty τ w (.bool (!(a == b))) := ⟨fun _ => nofun, fun W _ => by
  have e := run_equalIn_bool W 9999 t a b h.eq
  simp [execOp, hx.eq, hy.eq, eqGuard, binOp, Op.equal, show Op.maxDepth = 9999 + 1 from rfl, e]⟩
end
section
variable {P : Program} {r : Option Nat} {N : Nat} {S U : Nat → Prop} {Q : Post} {τ : Tau} {ds : List Deferred} {w : World} {ty : TypeId} {ops : Array Oper} {rest : List Oper} {pos : String} {aft : Array Edge} {d : Nat} {op : Op}
theorem xl_gu {j e : Nat} {b : Bool} (hj : (ops[j]?).bind (·.dst) = some e) (hb : evO N τ (.tmp e) = undef) (h : XL P r N ops Q rest (upd τ d undef) ds w) :
    XL P r N ops Q (⟨some d, op, ty, pos, aft, some (j, b)⟩ :: rest) τ ds w := by
  show OpE P r N ops _ Q τ ds w _
  unfold OpE
  rw [if_neg (by simp [wantedT, Region.wanted, yieldedT, hj, hb, undef])]
  exact h
theorem xt_gu {p : Plan} {i j e : Nat} {b : Bool} {pos' : String} {aft' : Array Edge} (hi : ops[i]? = some ⟨some d, op, ty, pos', aft', some (j, b)⟩) (hj : (ops[j]?).bind (·.dst) = some e) (hb : evO N τ (.tmp e) = undef) (h : XT P r N ops Q S U p (upd τ d undef) ds w) : XT P r N ops Q S U (.take i p) τ ds w := by
  show match ops[i]? with | some o => OpP P r N ops S o τ w (fun τ => XT P r N ops Q S U p τ ds w) | none => False
  rw [hi]
  exact ⟨undef, .inr ⟨by simp [wantedT, Region.wanted, yieldedT, hj, hb, undef], rfl⟩, h⟩
theorem xt_gue {p : Plan} {i j e : Nat} {b : Bool} {pos' : String} {aft' : Array Edge} (hi : ops[i]? = some ⟨some d, op, ty, pos', aft', some (j, b)⟩) (hj : (ops[j]?).bind (·.dst) = some e) (hb : evO N τ (.tmp e) = undef) (h : XT P r N ops Q S U p (upd τ d undef) ds w) : XT P r N ops Q S U (.eff i p) τ ds w := by
  show match ops[i]? with | some o => OpE P r N ops o Q τ ds w (fun τ' ds' w' => Keep S w w' ∧ XT P r N ops Q S U p τ' ds' w') | none => False
  rw [hi]
  show OpE P r N ops _ Q τ ds w _
  unfold OpE
  rw [if_neg (by simp [wantedT, Region.wanted, yieldedT, hj, hb, undef])]
  exact ⟨Keep.refl _ _, h⟩
end
class RowB (w : World) (A : Option Addr) (w00 : outParam World) (cs : outParam (List Value)) : Prop where
  row : RowP w A cs
  far : cs = [] ∨ ∀ a, A = some a → a.block < w00.heap.size
class Above (S : Nat → Prop) (w00 : World) : Prop where ge : ∀ k, S k → w00.heap.size ≤ k
instance above_no (w00 : World) : Above NoB w00 := ⟨fun _ h => h.elim⟩
instance above_one (b : Nat) (w1 w00 : World) [n : New b w1] [g : Ge w1 w00] : Above (OneB b) w00 := ⟨fun k e => by have e' : k = b := e; have := n.eq; have := g.le; omega⟩
instance above_own (A : Option Addr) (n c : Nat) (w1 w00 : World) [h : NewA A w1] [g : Ge w1 w00] : Above (OwnB (.slice A n c)) w00 := ⟨fun k e => by
  cases A with
  | none => cases e
  | some a =>
    have h1 := h.le a rfl
    have h2 := g.le
    have h3 : some k = some a.block := e
    injection h3 with h3
    omega⟩
theorem rowB_of {w : World} {A : Option Addr} {cs : List Value} (h : RowP w A cs) : RowB w A w cs := ⟨h, by
  cases cs with
  | nil => exact .inl rfl
  | cons v cs =>
    refine .inr ?_
    obtain ⟨a, h1, h2⟩ := h 0 v rfl
    intro a' ha'
    rw [h1] at ha'
    cases ha'
    rcases Nat.lt_or_ge a.block w.heap.size with h3 | h3
    · exact h3
    · have hb : (a.add 0).block = a.block := block_add a 0
      simp [World.cell?, hb, Array.getElem?_eq_none h3] at h2⟩
theorem RowB.keep {w w' w00 : World} {A : Option Addr} {cs : List Value} {S : Nat → Prop} (h : RowB w A w00 cs) (hk : Keep S w w') (hs : ∀ k, S k → w00.heap.size ≤ k) : RowB w' A w00 cs := by
  rcases h.far with e | e
  · subst e; exact ⟨fun j v h => by simp at h, .inl rfl⟩
  · exact ⟨h.row.keep hk (fun a ha hS => by have h1 := e a ha; have h2 := hs _ hS; omega), .inr e⟩
instance (priority := low) row_of_B (w : World) (A : Option Addr) (w00 : World) (cs : List Value) [h : RowB w A w00 cs] : Row w A cs := ⟨h.row⟩
instance rowB_lk (w' w : World) (S : Nat → Prop) (A : Option Addr) (w00 : World) (cs : List Value) [l : Lk w' w S] [h : RowB w A w00 cs] [u : Above S w00] : RowB w' A w00 cs := h.keep l.keep u.ge
section
variable {P : Program} {r : Option Nat} {N : Nat} {Q : Post} {τ : Tau} {ds : List Deferred} {w : World} {ty : TypeId} {ops : Array Oper} {rest : List Oper} {pos : String} {aft : Array Edge} {d : Nat}
theorem xl_gcallv {j e' : Nat} {b : Bool} {g : Operand} {args : List Operand} {at_ : Array TypeId} {gv : Value} {vs : List Value} {R : Value → World → Prop} (hj : (ops[j]?).bind (·.dst) = some e') (hb : evO N τ (.tmp e') = .bool b) [hg : EvO N τ g gv] [hv : EvL N τ args vs]
    (hc : CallV P gv vs w R) (h : ∀ v w', R v w' → XL P r N ops Q rest (upd τ d v) ds w') : XL P r N ops Q (⟨some d, .call { callee := .value g, args := args.toArray, argTypes := at_ }, ty, pos, aft, some (j, b)⟩ :: rest) τ ds w := by
  have := OpE_callv (P := P) (r := r) (N := N) (Q := Q) (τ := τ) (ds := ds) (w := w) (ty := ty) (ops := ops) (pos := pos) (aft := aft) (at_ := at_) (g := g) (args := args) (dst := some d) (hg := hg) (hv := hv) hc h
  show OpE P r N ops _ Q τ ds w _
  unfold OpE at *
  rw [if_pos (by simp [wantedT, Region.wanted, yieldedT, hj, hb])]
  rw [if_pos (by rfl)] at this
  exact this
end
class FillA (cs : Array Value) (parts : List (Nat × Value)) (ds : outParam (Array Value)) : Prop where eq : Instr.fill (fun i => some (i * 1, 1)) cs parts = some ds
instance fillA_nil (cs : Array Value) : FillA cs [] cs := ⟨rfl⟩
instance fillA_cons (cs cs1 ds : Array Value) (i : Nat) (v : Value) (rest : List (Nat × Value)) [hv : Cells v [v].toArray] [h1 : CsPut cs i [v] cs1] [k : FillA cs1 rest ds] : FillA cs ((i, v) :: rest) ds := ⟨by
  obtain ⟨e1, e2⟩ := h1.eq
  rw [fill_cons (off := i) (sz := 1) (vs := [v]) (by rw [Nat.mul_one]) hv.eq rfl e2, e1]
  exact k.eq⟩
section
variable {P : Program} {r : Option Nat} {N : Nat} {S : Nat → Prop} {τ : Tau} {w : World} {ty : TypeId}
theorem v_buildA {t e : TypeId} {n : Nat} {parts : List (Nat × Operand)} {vs : List (Nat × Value)} {sz bytes eb : Nat} {z ze : Value} {zc cs : Array Value} [hv : EvP N τ parts vs] [hu : Und P t (.array n e)] [hi : Inf P t sz bytes z] [he : Inf P e 1 eb ze] [hz : Cells z zc] [hf : FillA zc vs cs] :
    Val P r N S (.build t parts.toArray) ty τ w (.agg cs) := ⟨fun _ => nofun, fun W _ => by
  obtain ⟨i, h3, h4, h5, h6⟩ := hi.ex
  obtain ⟨j, g3, g4, g5, g6⟩ := he.ex
  have hfill := hf.eq
  have hs : (sizeOf e : Sem Nat).run P W = .ok 1 W := by simp [sizeOf, typeInfo, program, Sem.run, g3, g4]
  simp only [execOp, Instr.build, Sem.run_bind, zeroValue, typeInfo, program, Sem.run, h3, h6, Sem.run_pure, Result.andThen_ok, run_underlying hu.eq, hz.eq]
  have e1 : (parts.toArray.map fun (x : Nat × Operand) => (x.1, evO N τ x.2)).toList = vs := by simp [hv.eq]
  simp only [hs, e1, hfill, Sem.run_pure, Result.andThen_ok]⟩
end
theorem v_indexS {P : Program} {r : Option Nat} {N : Nat} {S : Nat → Prop} {τ : Tau} {w : World} {ty : TypeId} {x y : Operand} {t : TypeId} {s : ByteArray} {i : Int} (k : Nat) [hx : EvO N τ x (.string s)] [hy : EvO N τ y (.int .i64 i)] [hu : Und P t .string] (hi : i = (k : Int)) (hk : k < s.size) :
    Val P r N S (.index t x y) ty τ w (.int .u8 ((s[k]'hk).toNat : Int)) := ⟨fun _ => nofun, fun W _ => by
  subst hi
  have h1 : (0 : Int) ≤ (k : Int) ∧ (k : Int) < (s.size : Int) := by omega
  have := run_index_string (P := P) (w := W) t s .i64 (k : Int) hu.eq
  rw [dif_pos h1] at this
  simp only [Int.toNat_natCast] at this
  simp only [execOp, hx.eq, hy.eq, Sem.run_bind, this, Result.andThen_ok, Sem.run_pure]⟩
theorem v_sneq {P : Program} {r : Option Nat} {N : Nat} {S : Nat → Prop} {τ : Tau} {w : World} {ty : TypeId} {a b : ByteArray} {x y : Operand} {t t' : TypeId} [hx : EvO N τ x (.string a)] [hy : EvO N τ y (.string b)] : Val P r N S (.binOp .neq t x y t') ty τ w (.bool (!decide (a = b))) := ⟨fun _ => nofun, fun W _ => by
  have e : (a.toList == b.toList) = decide (a = b) := by
    rw [beq_dec]; congr 1; rw [eq_iff_iff]
    exact ⟨fun h => ByteArray.ext (by have := congrArg List.toArray h; simpa [ByteArray.toList_eq] using this), fun h => by rw [h]⟩
  simp [execOp, hx.eq, hy.eq, eqGuard, binOp, Op.stringOp, e]⟩
theorem v_congr {P : Program} {r : Option Nat} {N : Nat} {S : Nat → Prop} {op : Op} {ty : TypeId} {τ : Tau} {w : World} {v u : Value} (h : Val P r N S op ty τ w v) (e : v = u) : Val P r N S op ty τ w u := e ▸ h
theorem decode_odd (s : ByteArray) (pos : Nat) (h : pos < s.size) (ha : 128 ≤ (s[pos]'h).toNat) : 128 ≤ (Utf8.decode s pos).1 := by
  have e : s.get! (pos + 0) = s[pos]'h := by
    show s.get! pos = _
    simp [ByteArray.get!, getElem!_pos, h]
    rfl
  have h1 : ¬ (s[pos]'h).toNat < 128 := by omega
  simp only [Utf8.decode, e, h1, if_false]
  split
  · split
    · next h2 => exact h2
    · decide
  split
  · split
    · next h2 =>
      simp only [Bool.and_eq_true, decide_eq_true_eq] at h2
      have := h2.1
      show 128 ≤ _
      omega
    · decide
  split
  · split
    · next h2 =>
      simp only [Bool.and_eq_true, decide_eq_true_eq] at h2
      have := h2.1
      show 128 ≤ _
      omega
    · decide
  · decide
abbrev In64 (a : Int) : Prop := -9223372036854775808 ≤ a ∧ a ≤ 9223372036854775807
abbrev byteC (b : UInt8) : Value := .int .u8 (b.toNat : Int)
abbrev bytesC (xs : List UInt8) : List Value := xs.map byteC
theorem bytesC_one (xs : List UInt8) : ∀ u ∈ bytesC xs, u.oneCell' = true := by
  intro u hu
  obtain ⟨a, _, rfl⟩ := List.mem_map.1 hu
  rfl
section
variable {P : Program} {r : Option Nat} {N : Nat} {S : Nat → Prop} {τ : Tau} {w : World} {ty : TypeId}
theorem e_convConst {x : Operand} {t e : TypeId} {b n c : Nat} {C : Array Value} {G : Value → World → Prop} [hx : EvO N τ x (.slice (some ⟨b, 0, none⟩) n c)] [ht : Und P t (.slice e)] [he : Und P e (.int .u8)] [hb : Blk w b (.cells C e (0, 0))]
    (h : ∀ w', Lk w' w (OneB b) → w'.heap[b]? = some (.cells C e (C.size, C.size + 1)) → G (.slice (some ⟨b, 0, none⟩) n c) w') : EffV P N (OneB b) (.convert t t x) ty τ w G := by
  have hlt : b < w.heap.size := (Array.getElem?_eq_some_iff.1 hb.eq).1
  have hsh : w.shape? b = some (e, C.size) := by unfold World.shape?; rw [hb.eq]
  have hk : Keep (OneB b) w (w.freeze ⟨b, C.size, none⟩ 1) := by
    unfold World.freeze
    rw [if_neg (by decide)]
    refine ⟨rfl, rfl, rfl, by simp, fun k _ hk => ?_⟩
    have hne : b ≠ k := fun e => hk e.symm
    simp [Array.getElem?_modify, hne]
  have hn : (w.freeze ⟨b, C.size, none⟩ 1).heap[b]? = some (.cells C e (C.size, C.size + 1)) := by
    unfold World.freeze
    rw [if_neg (by decide)]
    simp only [Array.getElem?_modify, hb.eq]
    rfl
  refine ⟨fun _ => nofun, _, _, ?_, hk, h _ ⟨hk⟩ hn⟩
  simp [execOp, hx.eq, convert, run_underlying ht.eq, run_underlying he.eq, markStringish, hsh, Result.andThen, Sem.run]
theorem run_strRow {src dst e : TypeId} (hs : P.underlying src = some (.slice e)) (he : P.underlying e = some (.int .u8)) (hd : P.underlying dst = some .string) {A : Option Addr} {n c : Nat} {xs : List UInt8} (hr : RowP w A (bytesC xs)) (hl : xs.length = n) :
    (convert src dst (.slice A n c)).run P w = .ok (.string ⟨xs.toArray⟩) w := by
  cases A with
  | none =>
    have : xs = [] := by
      cases xs with
      | nil => rfl
      | cons a xs => obtain ⟨a', h, _⟩ := hr 0 _ rfl; cases h
    subst this
    exact run_convert_bytes_nil w src e hs he n c dst hd
  | some a =>
    have hl2 : (loadCells a n).run P w = .ok ((xs.map fun b => ((b.toNat : Nat) : Int)).map (Value.int .u8)).toArray w := by
      have := run_loadCells_list (P := P) w a (bytesC xs) (fun j v hj => by
        obtain ⟨a', h1, h2⟩ := hr j v hj
        cases h1
        exact h2)
      simpa [hl, bytesC, Function.comp_def] using this
    rw [run_convert_bytes_string w src dst e _ n c hs he hd, run_bytesToString w _ n c _ hl2, foldl_push_bytes]
    have h3 : (xs.map fun b => ((b.toNat : Nat) : Int)).map (fun n => UInt8.ofNat n.toNat) = xs := by
      rw [List.map_map]
      conv => rhs; rw [← List.map_id xs]
      apply List.map_congr_left
      intro b _
      simp
    rw [h3]
    simp [ByteArray.empty, ByteArray.emptyWithCapacity]
    rfl
theorem v_bytesStr {x : Operand} {s t e : TypeId} {A : Option Addr} {n c : Nat} {xs : List UInt8} [hx : EvO N τ x (.slice A n c)] [hs : Und P s (.slice e)] [he : Und P e (.int .u8)] [hd : Und P t .string] [hr : Row w A (bytesC xs)] [ho : RowOut S A] (hl : xs.length = n) : Val P r N S (.convert s t x) ty τ w (.string ⟨xs.toArray⟩) := ⟨fun _ => nofun, fun W hW => by
  have := run_strRow (P := P) (w := W) hs.eq he.eq hd.eq (c := c) (hr.row.keep hW ho.out) hl
  simp [execOp, hx.eq, this]⟩
end
end Go.Wst
set_option linter.all false
namespace Go.Wst
theorem setL_map {α : Type} (enc : α → Value) (xs : List α) (k : Nat) (x : α) (h : k < xs.length) : setL (xs.map enc) (k * 1) [enc x] = (xs.set k x).map enc := by
  have := flat_set (enc := fun a => [enc a]) (fun _ => rfl) xs k x h
  have e : ∀ l : List α, l.flatMap (fun a => [enc a]) = l.map enc := fun l => by induction l with
    | nil => rfl
    | cons a l ih => rw [List.flatMap_cons, ih]; rfl
  rw [e, e] at this
  exact this
theorem own_front {w : World} {base n m c : Nat} {e : TypeId} {A : Option Addr} {xs ys : List Value} (h : w.ownsRow base e 1 (.slice A n c) n (xs ++ ys)) (hm : xs.length = m) (hpos : A.isSome = true) : w.ownsRow base e 1 (.slice A m c) m xs := by
  have hl := h.1
  rcases h.2 with ⟨h1, h2⟩ | ⟨g, cap, cur, h1, h2, h3, h4, h5, h6, h7⟩
  · cases h1; cases hpos
  · cases h1
    refine ⟨by omega, .inr ⟨g, c, cur, rfl, h2, h3, by simp at hl; omega, h5, h6, ?_⟩⟩
    have h8 := congrArg (List.take m) h7
    rw [List.take_take, List.take_left' hm] at h8
    rw [← h8]
    congr 1
    simp at hl
    omega
class ZipM (sz s : Nat) (l : List (Nat × Value)) (vss : outParam (List (Value × List Value))) : Prop where eq : l = (vss.zipIdx s).map (fun p => (p.2, p.1.1)) ∧ ∀ p ∈ vss, p.1.cells = p.2.toArray ∧ p.2.length = sz
instance zipM_nil (sz s : Nat) : ZipM sz s [] [] := ⟨rfl, by simp⟩
instance zipM_cons (sz s i : Nat) (v : Value) (vs : List Value) (l : List (Nat × Value)) (vss : List (Value × List Value)) [h : EqN i s] [h1 : Cells v vs.toArray] [h2 : LenL vs sz] [k : ZipM sz (s + 1) l vss] : ZipM sz s ((i, v) :: l) ((v, vs) :: vss) := ⟨by rw [h.eq, k.eq.1]; rfl, by
  intro u hu
  rcases List.mem_cons.1 hu with rfl | hu
  · exact ⟨h1.eq, h2.eq⟩
  · exact k.eq.2 u hu⟩
theorem setMany_len : ∀ (l : List Value) (cs : Array Value) (o : Nat), (setMany cs o l).size = cs.size
  | [], _, _ => rfl
  | a :: l, cs, o => by rw [setMany, setMany_len l]; simp
theorem setMany_app : ∀ (a b : List Value) (cs : Array Value) (o : Nat), setMany cs o (a ++ b) = setMany (setMany cs o a) (o + a.length) b
  | [], b, cs, o => by simp [setMany]
  | x :: a, b, cs, o => by
    rw [List.cons_append, setMany, setMany, setMany_app a b, List.length_cons, Nat.add_assoc, Nat.add_comm 1]
theorem fill_flat (sz : Nat) : ∀ (vss : List (Value × List Value)) (s : Nat) (cs : Array Value), s * sz + vss.length * sz ≤ cs.size → (∀ p ∈ vss, p.1.cells = p.2.toArray ∧ p.2.length = sz) → Instr.fill (fun j => some (j * sz, sz)) cs ((vss.zipIdx s).map (fun p => (p.2, p.1.1))) = some (setMany cs (s * sz) (vss.flatMap (·.2)))
  | [], _, cs, _, _ => rfl
  | p :: vss, s, cs, h, h1 => by
    obtain ⟨e1, e2⟩ := h1 p (List.mem_cons_self ..)
    have h2 : s * sz + (vss.length + 1) * sz ≤ cs.size := by simpa using h
    rw [Nat.add_mul, Nat.one_mul] at h2
    rw [List.zipIdx_cons, List.map_cons, fill_cons (cs := cs) (vs := p.2) (off := s * sz) (sz := sz) rfl e1 e2 (by omega)]
    rw [fill_flat sz vss (s + 1) _ (by rw [setMany_len, Nat.add_mul, Nat.one_mul]; omega) (fun u hu => h1 u (List.mem_cons_of_mem _ hu)), List.flatMap_cons, setMany_app, e2, Nat.add_mul, Nat.one_mul]
theorem flatM_len {sz : Nat} : ∀ {vss : List (Value × List Value)}, (∀ p ∈ vss, p.1.cells = p.2.toArray ∧ p.2.length = sz) → (vss.flatMap (·.2)).length = vss.length * sz
  | [], _ => by simp
  | p :: l, h => by rw [List.flatMap_cons, List.length_append, (h p (List.mem_cons_self ..)).2, flatM_len (fun q hq => h q (List.mem_cons_of_mem _ hq)), List.length_cons, Nat.add_mul, Nat.one_mul, Nat.add_comm]
theorem e_buildSliceM {N : Nat} {τ : Tau} {w : World} {P : Program} {ty t e : TypeId} {parts : List (Nat × Operand)} {vsI : List (Nat × Value)} {vss : List (Value × List Value)} {vs : List Value} {sz bytes m : Nat} {z : Value} {G : Value → World → Prop} [hv : EvP N τ parts vsI] [hu : Und P t (.slice e)] [hi : Inf P e sz bytes z] [hzp : ZipM sz 0 vsI vss] (hpos : (Nat.ble 1 (m * sz) && Nat.ble (m * sz) 1000) = true) (hm : vss.length = m) (hvs : vs = vss.flatMap (·.2))
    (h : ∀ (b : Nat) (w' : World), New b w → Lk w' w NoB → Blk w' b (.cells vs.toArray e (0, 0)) → G (.slice (some ⟨b, 0, none⟩) m m) w') : EffV P N NoB (.buildSlice t m parts.toArray) ty τ w G := by
  obtain ⟨i, h5, h6, h7, h8⟩ := hi.ex
  subst h6; subst hm; subst hvs
  simp only [Bool.and_eq_true, Nat.ble_eq] at hpos
  obtain ⟨h1, h2, h3⟩ := new_blk (w := w) (.cells (vss.flatMap (·.2)).toArray e)
  have hfl := flatM_len hzp.eq.2
  refine ⟨fun _ => nofun, _, _, ?_, h2.keep, h _ _ h1 h2 h3⟩
  have hfill : Instr.fill (fun j => some (j * i.size, i.size)) ((Array.range (vss.length * i.size)).map (z.cells[· % z.cells.size]!)) vsI = some (vss.flatMap (·.2)).toArray := by
    rw [hzp.eq.1, fill_flat i.size vss 0 _ (by simp) hzp.eq.2]
    congr 1
    have := setMany_all (vss.flatMap (·.2)) [] ((Array.range (vss.length * i.size)).map (z.cells[· % z.cells.size]!)) (by simp [hfl]) (by simp)
    simpa using this
  have hb := Go.run_buildSlice (P := P) w t e vss.length vsI.toArray (vss.flatMap (·.2)).toArray i z hu.eq h5 h8 (by omega) (by omega) (by simpa using hfill)
  have e1 : (parts.toArray.map fun (x : Nat × Operand) => (x.1, evO N τ x.2)) = vsI.toArray := by simp [hv.eq]
  simp only [execOp, Sem.run_bind, e1, hb, Result.andThen_ok, Sem.run_pure]
theorem flat_setF {α : Type} {enc : α → List Value} {sz : Nat} (hsz : ∀ x, (enc x).length = sz) : ∀ (xs : List α) (k o : Nat) (y : α) (vs : List Value) (h : k < xs.length), o + vs.length ≤ sz → setL (enc xs[k]) o vs = enc y → setL (xs.flatMap enc) (k * sz + o) vs = (xs.set k y).flatMap enc := by
  intro xs k o y vs h ho he
  have h1 := flat_set hsz xs k y h
  rw [← h1]
  have hlen := flat_len (enc := enc) (sz := sz) hsz xs
  have hk : k * sz + sz ≤ (xs.flatMap enc).length := by
    rw [hlen]
    have : (k + 1) * sz ≤ xs.length * sz := Nat.mul_le_mul_right sz h
    rw [Nat.add_mul, Nat.one_mul] at this
    exact this
  rw [← he]
  unfold setL
  have hx : enc xs[k] = ((xs.flatMap enc).drop (k * sz)).take sz := by
    apply List.ext_getElem?
    intro i
    by_cases hi : i < sz
    · rw [List.getElem?_take_of_lt hi, List.getElem?_drop]
      have hlt : i < (enc xs[k]).length := by rw [hsz]; exact hi
      rw [List.getElem?_eq_getElem hlt]
      exact (flat_get (enc := enc) hsz xs k h i _ (List.getElem?_eq_getElem hlt)).symm
    · rw [List.getElem?_eq_none (by rw [hsz]; omega), List.getElem?_eq_none (by simp; omega)]
  rw [hx]
  generalize hL : xs.flatMap enc = L
  rw [hL] at hk
  have e1 : L.take (k * sz + o) = L.take (k * sz) ++ (L.drop (k * sz)).take o := List.take_add
  rw [e1]
  simp only [List.append_assoc, List.length_append, List.length_take, List.length_drop]
  rw [List.take_take, Nat.min_eq_left (by omega)]
  congr 2
  congr 1
  rw [List.drop_take, List.drop_drop]
  have e2 : k * sz + (min (min sz (L.length - k * sz)) o + (vs.length + (min sz (L.length - k * sz) - (o + vs.length)))) = k * sz + sz := by omega
  have e3 : k * sz + (o + vs.length) = k * sz + o + vs.length := by omega
  have h4 : L.drop (k * sz + o + vs.length) = (L.drop (k * sz + o + vs.length)).take (sz - (o + vs.length)) ++ L.drop (k * sz + sz) := by
    have := List.take_append_drop (sz - (o + vs.length)) (L.drop (k * sz + o + vs.length))
    rw [List.drop_drop] at this
    rw [show k * sz + o + vs.length + (sz - (o + vs.length)) = k * sz + sz by omega] at this
    exact this.symm
  rw [h4, e3]
  congr 2
  omega
theorem cells_cell1 {v : Value} (h : v.oneCell' = true) : v.cells = [v].toArray := by
  cases v <;> first | rfl | (simp [Value.oneCell'] at h)
theorem e_storeF {P : Program} {N : Nat} {τ : Tau} {w : World} {ty : TypeId} {v : Value} {α : Type} {enc : α → List Value} {t e : TypeId} {x y : Operand} {base sz n cap k o bytes : Nat} {z : Value} {A : Option Addr} {xs : List α} {G : World → Prop} [hx : EvO N τ x (padd A (k * sz + o))] [hy : EvO N τ y v] [h1 : Cell1 v] [hi : Inf P t 1 bytes z] [hown : OwnI w A n cap base e sz n (xs.flatMap enc)] [he : EncN enc sz] (u : α) (hk : k < xs.length) (hl : xs.length = n) (ho : o < sz) (hu : setL (enc xs[k]) o [v] = enc u) (h : ∀ w', Lk w' w (OwnB (.slice A n cap)) → OwnI w' A n cap base e sz n ((xs.set k u).flatMap enc) → G w') : EffS P N (OwnB (.slice A n cap)) (.store t x y) ty τ w G := by
  haveI : Cells v [v].toArray := ⟨cells_cell1 h1.eq⟩
  haveI : Cell1L [v] := inferInstance
  have hj : k * sz + o + 1 ≤ n * sz := by
    have : (k + 1) * sz ≤ n * sz := Nat.mul_le_mul_right sz (by omega)
    rw [Nat.add_mul, Nat.one_mul] at this
    omega
  refine e_storeOwn (m := 1) hown.own hj (by decide) fun w' lk ho' => h w' lk ⟨?_⟩
  rw [flat_setF he.eq xs k o u [v] hk (by simp; omega) hu] at ho'
  exact ho'
theorem e_storeF0 {P : Program} {N : Nat} {τ : Tau} {w : World} {ty : TypeId} {v : Value} {α : Type} {enc : α → List Value} {t e : TypeId} {x y : Operand} {base sz n cap k bytes : Nat} {z : Value} {A : Option Addr} {xs : List α} {G : World → Prop} [hx : EvO N τ x (padd A (k * sz))] [hy : EvO N τ y v] [h1 : Cell1 v] [hi : Inf P t 1 bytes z] [hown : OwnI w A n cap base e sz n (xs.flatMap enc)] [he : EncN enc sz] (u : α) (hk : k < xs.length) (hl : xs.length = n) (ho : 0 < sz) (hu : setL (enc xs[k]) 0 [v] = enc u) (h : ∀ w', Lk w' w (OwnB (.slice A n cap)) → OwnI w' A n cap base e sz n ((xs.set k u).flatMap enc) → G w') : EffS P N (OwnB (.slice A n cap)) (.store t x y) ty τ w G :=
  e_storeF (o := 0) (hx := hx) u hk hl ho hu h
theorem v_nilCheckR {P : Program} {r : Option Nat} {N : Nat} {S : Nat → Prop} {τ : Tau} {w : World} {ty : TypeId} {x : Operand} {A : Option Addr} {j : Nat} [hx : EvO N τ x (padd A j)] (hA : A.isSome = true) : Val P r N S (.nilCheck x) ty τ w (padd A j) := ⟨fun _ => nofun, fun W _ => by
  obtain ⟨a, rfl⟩ := Option.isSome_iff_exists.1 hA
  simp [execOp, hx.eq, padd]⟩
class ApB (A : Option Addr) (b : Nat) : Prop where ne : ∀ a, A = some a → a.block ≠ b
instance notS_apB (A : Option Addr) (n c b : Nat) [h : ApB A b] : NotS (OwnB (.slice A n c)) b := ⟨fun e => by
  cases A with
  | none => cases e
  | some a => have e' : some b = some a.block := e; injection e' with e'; exact h.ne a rfl e'.symm⟩
instance rowOut_apB (A : Option Addr) (b : Nat) [h : ApB A b] : RowOut (OneB b) A := ⟨fun a ha e => h.ne a ha e⟩
def NotP (P : Nat → Prop) : Nat → Prop := fun k => ¬ P k
def gl (l : Nat) (I : Tau → List Deferred → World → Prop) (Q : Post) : Post
  | .goto l', τ, ds, w => l' = l ∧ I τ ds w
  | e, τ, ds, w => Q e τ ds w
theorem x_goto {P : Program} {r : Option Nat} {N : Nat} {Q : Post} {τ : Tau} {ds : List Deferred} {w : World} {l : Nat} (h : Q (.goto l) τ ds w) : X P r N (.goto l) Q τ ds w := fun _ ha => wpIn_goto ⟨τ, ds, ha, h⟩
theorem x_scopeG {P : Program} {r : Option Nat} {N : Nat} {Q : Post} {τ : Tau} {ds : List Deferred} {w : World} {c rest : Code} {l : Nat} (I : Tau → List Deferred → World → Prop) (hl : findLabel c l = some rest) (h : X P r N c (gl l I Q) τ ds w) (hk : ∀ τ ds w, I τ ds w → X P r N rest (ng Q) τ ds w) : X P r N (.scope c) Q τ ds w := by
  intro a ha b k cs hro hb hr
  obtain ⟨e, a1, w1, ⟨t, d, hr1, hq⟩, harr⟩ := h a ha b (.inScope c :: k) cs hro hb hr
  have hs : StepsIn (Machine.fenced P (FX r)) P (lone (b.atR a (.code (.scope c) :: k)) cs w) (lone (b.atR a (.code c :: .inScope c :: k)) cs w) := .one (fenced_calm hb hr rfl) stepR_scope
  have fin : ∀ (m : Machine) (e : Exit) (a1 : Act) (w1 : World), StepsIn (Machine.fenced P (FX r)) P (lone (b.atR a (.code (.scope c) :: k)) cs w) m → lift N (ng Q) e a1 w1 → ArrivesIn (Machine.fenced P (FX r)) P m b (.inScope c :: k) cs e a1 w1 →
      ∃ e a' w', lift N Q e a' w' ∧ ArrivesIn (Machine.fenced P (FX r)) P (lone (b.atR a (.code (.scope c) :: k)) cs w) b k cs e a' w' := by
    rintro m e a1 w1 hs ⟨t, d, hr1, hq⟩ harr
    cases e with
    | normal => exact ⟨.normal, a1, w1, ⟨t, d, hr1, hq⟩, .of_steps hs (StepsIn.trans harr (.one (fenced_calm hb hr rfl) stepR_inScope))⟩
    | goto l => exact hq.elim
    | exit id =>
      have h2 : ArrivesIn (Machine.fenced P (FX r)) P m b k cs (.exit id) a1 w1 := ⟨fun k' hk => harr.1 k' (by simp [exitTo, hk]), fun hr hk => harr.2 hr (by simp [exitTo, hk])⟩
      exact ⟨_, a1, w1, ⟨t, d, hr1, hq⟩, .of_steps hs h2⟩
    | ret => exact ⟨_, a1, w1, ⟨t, d, hr1, hq⟩, .of_steps hs harr⟩
    | panic ch => exact ⟨_, a1, w1, ⟨t, d, hr1, hq⟩, .of_steps hs harr⟩
    | outgrown => exact ⟨_, a1, w1, ⟨t, d, hr1, hq⟩, .of_steps hs harr⟩
  cases e with
  | goto l' =>
    obtain ⟨rfl, hI⟩ := hq
    have hg : gotoIn l' (.inScope c :: k) = some (.code rest :: .inScope c :: k) := by simp [gotoIn, hl]
    have h1 := harr.1 _ hg
    obtain ⟨e, a2, w2, hq2, harr2⟩ := hk t d w1 hI a1 hr1 b (.inScope c :: k) cs hro hb hr
    exact fin _ e a2 w2 (StepsIn.trans hs h1) hq2 harr2
  | normal => exact fin _ .normal a1 w1 hs ⟨t, d, hr1, hq⟩ harr
  | exit id => exact fin _ (.exit id) a1 w1 hs ⟨t, d, hr1, hq⟩ harr
  | ret => exact fin _ .ret a1 w1 hs ⟨t, d, hr1, hq⟩ harr
  | panic ch => exact fin _ (.panic ch) a1 w1 hs ⟨t, d, hr1, hq⟩ harr
  | outgrown => exact fin _ .outgrown a1 w1 hs ⟨t, d, hr1, hq⟩ harr
end Go.Wst
set_option linter.all false
namespace Go.Wst
section
variable {P : Program} {r : Option Nat} {N : Nat} {S U : Nat → Prop} {Q : Post} {τ : Tau} {ds : List Deferred} {w : World} {ty : TypeId} {ops : Array Oper} {rest : List Oper} {pos : String} {aft : Array Edge} {d : Nat} {v : Value} {op : Op}
theorem xl_Fa (h : XL P r N ops Q rest (upd τ d v) ds w) (hv : Val P r N NoB op ty τ w v := by first | exact v_fieldAddr | exact v_fieldAddrF (by decide) (by omega) | exact v_fieldAddrR (by first | assumption | rfl)) : XL P r N ops Q (⟨some d, op, ty, pos, aft, none⟩ :: rest) τ ds w := xl_v hv h
theorem xl_gFa {j e : Nat} {b : Bool} (hj : (ops[j]?).bind (·.dst) = some e) (hb : evO N τ (.tmp e) = .bool b) (h : XL P r N ops Q rest (upd τ d v) ds w) (hv : Val P r N NoB op ty τ w v := by first | exact v_fieldAddr | exact v_fieldAddrF (by decide) (by omega) | exact v_fieldAddrR (by first | assumption | rfl)) : XL P r N ops Q (⟨some d, op, ty, pos, aft, some (j, b)⟩ :: rest) τ ds w := xl_gv hj hb hv h
theorem xt_Fa {p : Plan} {i : Nat} {pos' : String} {aft' : Array Edge} (hi : ops[i]? = some ⟨some d, op, ty, pos', aft', none⟩) (h : XT P r N ops Q S U p (upd τ d v) ds w) (hv : Val P r N S op ty τ w v := by first | exact v_fieldAddr | exact v_fieldAddrF (by decide) (by omega) | exact v_fieldAddrR (by first | assumption | rfl)) : XT P r N ops Q S U (.take i p) τ ds w := xt_v hi hv h
theorem xt_gFa {p : Plan} {i j e : Nat} {b : Bool} {pos' : String} {aft' : Array Edge} (hi : ops[i]? = some ⟨some d, op, ty, pos', aft', some (j, b)⟩) (hj : (ops[j]?).bind (·.dst) = some e) (hb : evO N τ (.tmp e) = .bool b) (h : XT P r N ops Q S U p (upd τ d v) ds w) (hv : Val P r N S op ty τ w v := by first | exact v_fieldAddr | exact v_fieldAddrF (by decide) (by omega) | exact v_fieldAddrR (by first | assumption | rfl)) : XT P r N ops Q S U (.take i p) τ ds w := xt_gv hi hj hb hv h
theorem xl_Ld (h : XL P r N ops Q rest (upd τ d v) ds w) (hv : Val P r N NoB op ty τ w v := by first | exact v_load | exact v_loadO (by omega) | exact v_loadFf (by omega) | exact v_loadF0 (by omega)) : XL P r N ops Q (⟨some d, op, ty, pos, aft, none⟩ :: rest) τ ds w := xl_v hv h
theorem xl_gLd {j e : Nat} {b : Bool} (hj : (ops[j]?).bind (·.dst) = some e) (hb : evO N τ (.tmp e) = .bool b) (h : XL P r N ops Q rest (upd τ d v) ds w) (hv : Val P r N NoB op ty τ w v := by first | exact v_load | exact v_loadO (by omega) | exact v_loadFf (by omega) | exact v_loadF0 (by omega)) : XL P r N ops Q (⟨some d, op, ty, pos, aft, some (j, b)⟩ :: rest) τ ds w := xl_gv hj hb hv h
theorem xt_Ld {p : Plan} {i : Nat} {pos' : String} {aft' : Array Edge} (hi : ops[i]? = some ⟨some d, op, ty, pos', aft', none⟩) (h : XT P r N ops Q S U p (upd τ d v) ds w) (hv : Val P r N S op ty τ w v := by first | exact v_load | exact v_loadO (by omega) | exact v_loadFf (by omega) | exact v_loadF0 (by omega)) : XT P r N ops Q S U (.take i p) τ ds w := xt_v hi hv h
theorem xt_gLd {p : Plan} {i j e : Nat} {b : Bool} {pos' : String} {aft' : Array Edge} (hi : ops[i]? = some ⟨some d, op, ty, pos', aft', some (j, b)⟩) (hj : (ops[j]?).bind (·.dst) = some e) (hb : evO N τ (.tmp e) = .bool b) (h : XT P r N ops Q S U p (upd τ d v) ds w) (hv : Val P r N S op ty τ w v := by first | exact v_load | exact v_loadO (by omega) | exact v_loadFf (by omega) | exact v_loadF0 (by omega)) : XT P r N ops Q S U (.take i p) τ ds w := xt_gv hi hj hb hv h
theorem xl_La (h : XL P r N ops Q rest (upd τ d v) ds w) (hv : Val P r N NoB op ty τ w v := by first | exact v_loadA | exact v_loadF (by decide) (by omega)) : XL P r N ops Q (⟨some d, op, ty, pos, aft, none⟩ :: rest) τ ds w := xl_v hv h
theorem xl_gLa {j e : Nat} {b : Bool} (hj : (ops[j]?).bind (·.dst) = some e) (hb : evO N τ (.tmp e) = .bool b) (h : XL P r N ops Q rest (upd τ d v) ds w) (hv : Val P r N NoB op ty τ w v := by first | exact v_loadA | exact v_loadF (by decide) (by omega)) : XL P r N ops Q (⟨some d, op, ty, pos, aft, some (j, b)⟩ :: rest) τ ds w := xl_gv hj hb hv h
theorem xt_La {p : Plan} {i : Nat} {pos' : String} {aft' : Array Edge} (hi : ops[i]? = some ⟨some d, op, ty, pos', aft', none⟩) (h : XT P r N ops Q S U p (upd τ d v) ds w) (hv : Val P r N S op ty τ w v := by first | exact v_loadA | exact v_loadF (by decide) (by omega)) : XT P r N ops Q S U (.take i p) τ ds w := xt_v hi hv h
theorem xt_gLa {p : Plan} {i j e : Nat} {b : Bool} {pos' : String} {aft' : Array Edge} (hi : ops[i]? = some ⟨some d, op, ty, pos', aft', some (j, b)⟩) (hj : (ops[j]?).bind (·.dst) = some e) (hb : evO N τ (.tmp e) = .bool b) (h : XT P r N ops Q S U p (upd τ d v) ds w) (hv : Val P r N S op ty τ w v := by first | exact v_loadA | exact v_loadF (by decide) (by omega)) : XT P r N ops Q S U (.take i p) τ ds w := xt_gv hi hj hb hv h
theorem xl_Nc (h : XL P r N ops Q rest (upd τ d v) ds w) (hv : Val P r N NoB op ty τ w v := by first | exact v_nilCheckP | exact v_nilCheckF | exact v_nilCheckR (by first | assumption | rfl)) : XL P r N ops Q (⟨some d, op, ty, pos, aft, none⟩ :: rest) τ ds w := xl_v hv h
theorem xl_gNc {j e : Nat} {b : Bool} (hj : (ops[j]?).bind (·.dst) = some e) (hb : evO N τ (.tmp e) = .bool b) (h : XL P r N ops Q rest (upd τ d v) ds w) (hv : Val P r N NoB op ty τ w v := by first | exact v_nilCheckP | exact v_nilCheckF | exact v_nilCheckR (by first | assumption | rfl)) : XL P r N ops Q (⟨some d, op, ty, pos, aft, some (j, b)⟩ :: rest) τ ds w := xl_gv hj hb hv h
theorem xt_Nc {p : Plan} {i : Nat} {pos' : String} {aft' : Array Edge} (hi : ops[i]? = some ⟨some d, op, ty, pos', aft', none⟩) (h : XT P r N ops Q S U p (upd τ d v) ds w) (hv : Val P r N S op ty τ w v := by first | exact v_nilCheckP | exact v_nilCheckF | exact v_nilCheckR (by first | assumption | rfl)) : XT P r N ops Q S U (.take i p) τ ds w := xt_v hi hv h
theorem xt_gNc {p : Plan} {i j e : Nat} {b : Bool} {pos' : String} {aft' : Array Edge} (hi : ops[i]? = some ⟨some d, op, ty, pos', aft', some (j, b)⟩) (hj : (ops[j]?).bind (·.dst) = some e) (hb : evO N τ (.tmp e) = .bool b) (h : XT P r N ops Q S U p (upd τ d v) ds w) (hv : Val P r N S op ty τ w v := by first | exact v_nilCheckP | exact v_nilCheckF | exact v_nilCheckR (by first | assumption | rfl)) : XT P r N ops Q S U (.take i p) τ ds w := xt_gv hi hj hb hv h
theorem xl_Pk (h : XL P r N ops Q rest (upd τ d v) ds w) (hv : Val P r N NoB op ty τ w v := by first | exact v_pickT | exact v_pickF | exact v_pick) : XL P r N ops Q (⟨some d, op, ty, pos, aft, none⟩ :: rest) τ ds w := xl_v hv h
theorem xl_gPk {j e : Nat} {b : Bool} (hj : (ops[j]?).bind (·.dst) = some e) (hb : evO N τ (.tmp e) = .bool b) (h : XL P r N ops Q rest (upd τ d v) ds w) (hv : Val P r N NoB op ty τ w v := by first | exact v_pickT | exact v_pickF | exact v_pick) : XL P r N ops Q (⟨some d, op, ty, pos, aft, some (j, b)⟩ :: rest) τ ds w := xl_gv hj hb hv h
theorem xt_Pk {p : Plan} {i : Nat} {pos' : String} {aft' : Array Edge} (hi : ops[i]? = some ⟨some d, op, ty, pos', aft', none⟩) (h : XT P r N ops Q S U p (upd τ d v) ds w) (hv : Val P r N S op ty τ w v := by first | exact v_pickT | exact v_pickF | exact v_pick) : XT P r N ops Q S U (.take i p) τ ds w := xt_v hi hv h
theorem xt_gPk {p : Plan} {i j e : Nat} {b : Bool} {pos' : String} {aft' : Array Edge} (hi : ops[i]? = some ⟨some d, op, ty, pos', aft', some (j, b)⟩) (hj : (ops[j]?).bind (·.dst) = some e) (hb : evO N τ (.tmp e) = .bool b) (h : XT P r N ops Q S U p (upd τ d v) ds w) (hv : Val P r N S op ty τ w v := by first | exact v_pickT | exact v_pickF | exact v_pick) : XT P r N ops Q S U (.take i p) τ ds w := xt_gv hi hj hb hv h
end
end Go.Wst
set_option linter.all false
namespace Go.Wst
section
variable {P : Program} {r : Option Nat} {N : Nat} {S : Nat → Prop} {τ : Tau} {w : World} {ty : TypeId} {α : Type} {A : Option Addr} {cs : List Value} {sz : Nat} {xs : List α}
theorem v_indexAA {x y : Operand} {t e : TypeId} {n j j' m bytes : Nat} {z : Value} {i : Int} [hx : EvO N τ x (padd A j)] [hy : EvO N τ y (.int .i64 i)] [hu : Und P t (.array n e)] [hi : Inf P e 1 bytes z] [ha : AddN j m j'] (hk : i = (m : Int)) (hm : m < n) (hn : 1 < n) (hA : A.isSome = true) : Val P r N S (.indexAddr t x y) ty τ w (padd A j') := ⟨fun _ => nofun, fun W _ => by
  obtain ⟨a, rfl⟩ := Option.isSome_iff_exists.1 hA
  obtain ⟨ii, h1, h2, h3, h4⟩ := hi.ex
  subst hk
  have e := add_add a j m
  have e2 := ha.eq
  have e3 : ii.size = 1 := by first | exact h2.symm | exact h2
  have hn' : ¬ n ≤ 1 := by omega
  simp [execOp, hx.eq, hy.eq, Instr.indexAt, asIntOf, run_underlying hu.eq, hm, sizeOf, typeInfo, h1, padd, Instr.sureAddr, e, e2, e3, hn']⟩
theorem v_indexAF {enc : α → List Value} {x y : Operand} {t e : TypeId} {n k j' m bytes : Nat} {z : Value} {i : Int} [hx : EvO N τ x (padd A (k * sz))] [hy : EvO N τ y (.int .i64 i)] [hu : Und P t (.array n e)] [hi : Inf P e 1 bytes z] [ha : AddN (k * sz) m j'] [hr : Row w A cs] [ho : FlatC cs sz α xs enc] (hk : i = (m : Int)) (hm : m < n) (hn : 1 < n) (hpos : 0 < sz) (hkx : k < xs.length) : Val P r N S (.indexAddr t x y) ty τ w (padd A j') :=
  v_indexAA hk hm hn (row_some hr (by rw [ho.eq.1, flat_len ho.eq.2]; exact Nat.mul_pos (by omega) hpos))
theorem v_negw {k : IntKind} {a : Int} {t : TypeId} {x : Operand} [hx : EvO N τ x (.int k a)] : Val P r N S (.unOp .neg t x) ty τ w (.int k (k.wrap (-a))) := ⟨fun _ => nofun, fun W _ => by
  simp [execOp, hx.eq, Op.unary, Op.intArith]⟩
theorem v_shr {k k' : IntKind} {a b : Int} {t t' : TypeId} {x y : Operand} [hx : EvO N τ x (.int k a)] [hy : EvO N τ y (.int k' b)] (h : 0 ≤ b) : Val P r N S (.binOp .shr t x y t') ty τ w (.int k (a.fdiv (2 ^ min b.toNat k.bits))) := ⟨fun _ => nofun, fun W _ => by
  have hb : ¬ b < 0 := by omega
  simp [execOp, hx.eq, hy.eq, eqGuard, binOp, Op.shift, hb]⟩
theorem v_and {k : IntKind} {a b : Int} {t t' : TypeId} {x y : Operand} [hx : EvO N τ x (.int k a)] [hy : EvO N τ y (.int k b)] : Val P r N S (.binOp .and t x y t') ty τ w (.int k (k.wrap (BitVec.ofInt k.bits a &&& BitVec.ofInt k.bits b).toNat)) := ⟨fun _ => nofun, fun W _ => by
  simp [execOp, hx.eq, hy.eq, eqGuard, binOp, Op.intBits]⟩
end
end Go.Wst
set_option linter.all false
namespace Go.Wst
class LtI (k n : Nat) : Prop where lt : k < n
theorem padd_add (A : Option Addr) (j o : Nat) : padd (A.map (·.add j)) o = padd A (j + o) := by
  cases A with
  | none => rfl
  | some a => simp [padd, add_add]
theorem rowP_add {w : World} {A : Option Addr} {j : Nat} {vs : List Value} : RowP w (A.map (·.add j)) vs ↔ ∀ o v, vs[o]? = some v → ∃ a, A = some a ∧ w.cell? (a.add (j + o)) = some v := by
  constructor
  · intro h o v hv
    obtain ⟨a, ha, hc⟩ := h o v hv
    obtain ⟨b, hb, rfl⟩ := Option.map_eq_some_iff.1 ha
    exact ⟨b, hb, by rw [add_add] at hc; exact hc⟩
  · intro h o v hv
    obtain ⟨a, rfl, hc⟩ := h o v hv
    exact ⟨a.add j, rfl, by rw [add_add]; exact hc⟩
theorem rowP_sub {w : World} {A : Option Addr} {cs vs : List Value} {j : Nat} (h : RowP w A cs) (hv : ∀ o v, vs[o]? = some v → cs[j + o]? = some v) : RowP w (A.map (·.add j)) vs := rowP_add.2 fun o v e => h _ _ (hv o v e)
class AtC (w : World) (A : Option Addr) (j : Nat) (vs : outParam (List Value)) : Prop where row : RowP w (A.map (·.add j)) vs
theorem rowOut_add {S : Nat → Prop} {A : Option Addr} {j : Nat} (h : RowOut S A) : RowOut S (A.map (·.add j)) := ⟨fun a ha => by
  obtain ⟨b, hb, rfl⟩ := Option.map_eq_some_iff.1 ha
  have := h.out b hb
  simpa [block_add] using this⟩
instance (priority := low) atC_lk (w' w : World) (S : Nat → Prop) (A : Option Addr) (j : Nat) (vs : List Value) [l : Lk w' w S] [n : RowOut S A] [h : AtC w A j vs] : AtC w' A j vs := ⟨h.row.keep l.keep (rowOut_add n).out⟩
class SetC (cs : List Value) (sz k : Nat) (vs : outParam (List Value)) : Prop where eq : ∀ o v, vs[o]? = some v → cs[k * sz + o]? = some v
instance setC_set {α : Type} (xs : List α) (k : Nat) (y : α) (enc : α → List Value) (sz : Nat) [h : EncN enc sz] [hk : LtI k xs.length] : SetC ((xs.set k y).flatMap enc) sz k (enc y) := ⟨fun o v e => flat_get h.eq (xs.set k y) k (by simpa using hk.lt) o v (by simpa using e)⟩
instance atC_own (w : World) (A : Option Addr) (m c base : Nat) (e : TypeId) (sz n k : Nat) (xs vs : List Value) [h : OwnI w A m c base e sz n xs] [g : SetC xs sz k vs] : AtC w A (k * sz) vs := ⟨rowP_sub (Row.row (w := w) (A := A) (cs := xs)) g.eq⟩
section
variable {P : Program} {r : Option Nat} {N : Nat} {S : Nat → Prop} {τ : Tau} {w : World} {ty : TypeId} {v : Value} {A : Option Addr} {vs us : List Value}
theorem v_loadCD {x : Operand} {t : TypeId} {j' : Nat} (j o : Nat) [hx : EvO N τ x (padd A j')] [ht : One P t] [hr : AtC w A j vs] [hs : RowOut S A] (hj : j' = j + o) (hv : vs[o]? = some v) : Val P r N S (.load t x) ty τ w v := by
  subst hj
  haveI : EvO N τ x (padd (A.map (·.add j)) o) := ⟨hx.eq.trans (padd_add A j o).symm⟩
  haveI : Row w (A.map (·.add j)) vs := ⟨hr.row⟩
  haveI := rowOut_add (j := j) hs
  exact v_loadR hv
theorem v_loadC {x : Operand} {t : TypeId} {j o : Nat} [hx : EvO N τ x (padd A (j + o))] [ht : One P t] [hr : AtC w A j vs] [hs : RowOut S A] [hg : CsGet vs.toArray o v] : Val P r N S (.load t x) ty τ w v := v_loadCD j o rfl (by simpa using hg.eq)
theorem v_loadC0 {x : Operand} {t : TypeId} {j : Nat} [hx : EvO N τ x (padd A j)] [ht : One P t] [hr : AtC w A j vs] [hs : RowOut S A] [hg : CsGet vs.toArray 0 v] : Val P r N S (.load t x) ty τ w v := v_loadCD j 0 rfl (by simpa using hg.eq)
theorem v_loadCA {x : Operand} {t : TypeId} {j o n : Nat} [hx : EvO N τ x (padd A (j + o))] [ht : Many P t n] [hr : AtC w A j vs] [hs : RowOut S A] [hc : CsSub vs o n us] (hn : 0 < n) : Val P r N S (.load t x) ty τ w (.agg us.toArray) := by
  haveI : EvO N τ x (padd (A.map (·.add j)) o) := ⟨hx.eq.trans (padd_add A j o).symm⟩
  haveI : Row w (A.map (·.add j)) vs := ⟨hr.row⟩
  haveI := rowOut_add (j := j) hs
  obtain ⟨h1, h2⟩ := hc.eq
  have hA : (A.map (·.add j)).isSome = true := by
    obtain ⟨a, ha, _⟩ := hr.row o vs[o] (List.getElem?_eq_getElem (by omega))
    rw [ha]; rfl
  refine v_loadRA (by rw [← h1, List.length_take, List.length_drop]; omega) hA fun i u e => ?_
  rw [← h1, List.getElem?_take] at e
  split at e
  · rw [List.getElem?_drop] at e; exact e
  · cases e
theorem v_loadCA0 {x : Operand} {t : TypeId} {j n : Nat} [hx : EvO N τ x (padd A j)] [ht : Many P t n] [hr : AtC w A j vs] [hs : RowOut S A] (hl : vs.length = n) (hn : 0 < n) : Val P r N S (.load t x) ty τ w (.agg vs.toArray) := by
  haveI : CsSub vs 0 n vs := ⟨by simp [← hl], by omega⟩
  exact v_loadCA (o := 0) (hx := hx) hn
theorem e_storeC {α : Type} {enc : α → List Value} {t e : TypeId} {x y : Operand} {base sz n cap j m bytes : Nat} {z : Value} {xs : List α} {y0 : α} {G : World → Prop} (k o : Nat) [hx : EvO N τ x (padd A j)] [hy : EvO N τ y v] [hc : Cells v vs.toArray] [h1 : Cell1L vs] [hi : Inf P t m bytes z] [hn : LenL vs m] [hown : OwnI w A n cap base e sz n ((xs.set k y0).flatMap enc)] [he : EncN enc sz] [hk : LtI k xs.length] (u : α) (h : ∀ w', Lk w' w (OwnB (.slice A n cap)) → OwnI w' A n cap base e sz n ((xs.set k u).flatMap enc) → G w') (hj : j = k * sz + o := by first | rfl | omega) (ho : Nat.ble (o + m) sz = true := by rfl) (hm : Nat.ble 1 m = true := by rfl) (hu : setL (enc y0) o vs = enc u := by rfl) : EffS P N (OwnB (.slice A n cap)) (.store t x y) ty τ w G := by
  have ho' := Nat.le_of_ble_eq_true ho
  have hm' := Nat.le_of_ble_eq_true hm
  have hl : xs.length = n := by
    have h3 := hown.own.1
    rw [flat_len he.eq, List.length_set] at h3
    exact Nat.eq_of_mul_eq_mul_right (by omega) h3
  have hle : (k + 1) * sz ≤ n * sz := Nat.mul_le_mul_right sz (by have := hk.lt; omega)
  rw [Nat.add_mul, Nat.one_mul] at hle
  refine e_storeOwn (m := m) hown.own (by omega) (by omega) fun w' lk ho2 => h w' lk ⟨?_⟩
  have h4 : k < (xs.set k y0).length := by simpa using hk.lt
  rw [hj, flat_setF he.eq (xs.set k y0) k o u vs h4 (by rw [hn.eq]; exact ho') (by simpa using hu)] at ho2
  simpa using ho2
theorem v_indexG {x y : Operand} {t e : TypeId} {n bytes : Nat} {z : Value} {i : Int} (k : Nat) [hx : EvO N τ x (.agg vs.toArray)] [hy : EvO N τ y (.int .i64 i)] [hu : Und P t (.array n e)] [ho : One P e] [hi : Inf P e 1 bytes z] (hk : i = (k : Int)) (hn : k < n) (hv : vs[k]? = some v) : Val P r N S (.index t x y) ty τ w v := ⟨fun _ => nofun, fun W _ => by
  obtain ⟨ii, h1, h2, h3, h4⟩ := hi.ex
  subst hk
  haveI : CsGet vs.toArray k v := ⟨by simpa using hv⟩
  have h5 := (partv_one (P := P) e vs k v).eq W
  have h6 : (0 : Int) ≤ (k : Int) ∧ (k : Int) < (n : Int) := by omega
  have h7 : ¬ n ≤ k := by omega
  simp [execOp, hx.eq, hy.eq, Instr.index, asIntOf, run_underlying hu.eq, h6, hn, h7, sizeOf, typeInfo, program, Sem.run, h1, h2, h5]⟩
theorem v_sliceLH {x y u : Operand} {t e : TypeId} {n c sz bytes : Nat} {z : Value} {i j : Int} (k m : Nat) [hx : EvO N τ x (.slice A n c)] [hy : EvO N τ y (.int .i64 i)] [hq : EvO N τ u (.int .i64 j)] [hu : Und P t (.slice e)] [hi : Inf P e sz bytes z] (hk : i = (k : Int)) (hj : j = (m : Int)) (hkm : k ≤ m) (hn : m ≤ c) :
    Val P r N S (.slice t x (some y) (some u) none) ty τ w (.slice (if c = k then A else A.map (·.add (k * sz))) (m - k) (c - k)) := ⟨fun _ => nofun, fun W _ => by
  obtain ⟨ii, h1, h2, h3, h4⟩ := hi.ex
  subst hk; subst h2; subst hj
  have h5 : (0 : Int) ≤ (k : Int) ∧ (k : Int) ≤ (m : Int) := by omega
  have h6 : (0 : Int) ≤ (m : Int) ∧ (m : Int) ≤ (c : Int) := by omega
  simp [execOp, hx.eq, hy.eq, hq.eq, Instr.sliceAt, run_underlying hu.eq, Instr.slice, Instr.sliceBounds, Instr.sliceBound, asIntOf, hkm, hn, sizeOf, typeInfo, program, Sem.run, h1]⟩
theorem v_sliceLHM {x y u q : Operand} {t e : TypeId} {n c sz bytes : Nat} {z : Value} {i j l : Int} (k m o : Nat) [hx : EvO N τ x (.slice A n c)] [hy : EvO N τ y (.int .i64 i)] [hq : EvO N τ u (.int .i64 j)] [hp : EvO N τ q (.int .i64 l)] [hu : Und P t (.slice e)] [hi : Inf P e sz bytes z] (hk : i = (k : Int)) (hj : j = (m : Int)) (hl : l = (o : Int)) (hkm : k ≤ m) (hmo : m ≤ o) (hn : o ≤ c) :
    Val P r N S (.slice t x (some y) (some u) (some q)) ty τ w (.slice (if o = k then A else A.map (·.add (k * sz))) (m - k) (o - k)) := ⟨fun _ => nofun, fun W _ => by
  obtain ⟨ii, h1, h2, h3, h4⟩ := hi.ex
  subst hk; subst h2; subst hj; subst hl
  simp [execOp, hx.eq, hy.eq, hq.eq, hp.eq, Instr.sliceAt, run_underlying hu.eq, Instr.slice, Instr.sliceBounds, Instr.sliceBound, asIntOf, hkm, hmo, hn, sizeOf, typeInfo, program, Sem.run, h1]⟩
theorem v_sliceArr {x y : Operand} {t e : TypeId} {n j sz bytes : Nat} {z : Value} {i : Int} (k : Nat) [hx : EvO N τ x (padd A j)] [hy : EvO N τ y (.int .i64 i)] [hu : Und P t (.array n e)] [hi : Inf P e sz bytes z] (hk : i = (k : Int)) (hn : k ≤ n) (hA : A.isSome = true) : Val P r N S (.slice t x none (some y) none) ty τ w (.slice (A.map (·.add j)) k n) := ⟨fun _ => nofun, fun W _ => by
  obtain ⟨ii, h1, h2, h3, h4⟩ := hi.ex
  obtain ⟨a, rfl⟩ := Option.isSome_iff_exists.1 hA
  subst hk; subst h2
  have h6 : (0 : Int) ≤ (k : Int) ∧ (k : Int) ≤ (n : Int) := by omega
  simp [execOp, hx.eq, hy.eq, padd, Instr.sliceAt, Instr.sureAddr, Instr.sliceBounds, Instr.sliceBound, asIntOf, run_underlying hu.eq, h6, hn, sizeOf, typeInfo, program, Sem.run, h1, Addr.add]⟩
theorem v_sliceArrB {x y : Operand} {t e : TypeId} {n b off sz bytes : Nat} {z : Value} {i : Int} (k : Nat) [hx : EvO N τ x (.pointer (some ⟨b, off, none⟩))] [hy : EvO N τ y (.int .i64 i)] [hu : Und P t (.array n e)] [hi : Inf P e sz bytes z] (hk : i = (k : Int)) (hn : k ≤ n) : Val P r N S (.slice t x none (some y) none) ty τ w (.slice (some ⟨b, off, none⟩) k n) := ⟨fun _ => nofun, fun W _ => by
  obtain ⟨ii, h1, h2, h3, h4⟩ := hi.ex
  subst hk; subst h2
  have h6 : (0 : Int) ≤ (k : Int) ∧ (k : Int) ≤ (n : Int) := by omega
  simp [execOp, hx.eq, hy.eq, padd, Instr.sliceAt, Instr.sureAddr, Instr.sliceBounds, Instr.sliceBound, asIntOf, run_underlying hu.eq, h6, hn, sizeOf, typeInfo, program, Sem.run, h1, Addr.add]⟩
end
section
variable {κ : Type} [DecidableEq κ] {P : Program} {N : Nat} {τ : Tau} {w : World} {ty t kt et : TypeId} {b : Nat} {enc : κ → Value} {kvs : List (κ × Value)}
theorem e_insert {x y q : Operand} {u : Value} {v : Value} (k : κ) {G : World → Prop} [hx : EvO N τ x (.map (some b))] [hy : EvO N τ y u] [hq : EvO N τ q v] [hu : Und P t (.map kt et)] [hm : MapI w b κ enc kvs] [hk : KeyE P kt enc] (he : u = enc k)
    (h : ∀ w', Lk w' w (OneB b) → MapI w' b κ enc (aput kvs k v) → G w') : EffS P N (OneB b) (.insert t x y q) ty τ w G := by
  obtain ⟨w', h1, h2, h3⟩ := run_mapUpdate (P := P) (kt := kt) hu.eq hm.m k v
  exact ⟨fun _ => nofun, w', by simp [execOp, hx.eq, hy.eq, hq.eq, he, h1, Result.andThen], h2, h w' ⟨h2⟩ ⟨h3⟩⟩
end
section
variable {P : Program} {N : Nat} {τ : Tau} {w : World} {ty : TypeId}
theorem own_part {base sz n m c : Nat} {e : TypeId} {A : Option Addr} {xs : List Value} (h : w.ownsRow base e sz (.slice A n c) n xs) (hm : m ≤ n) (hA : A.isSome = true) : w.ownsRow base e sz (.slice A m c) m (xs.take (m * sz)) := by
  have hle : m * sz ≤ n * sz := Nat.mul_le_mul_right sz hm
  refine ⟨by rw [List.length_take, h.1]; omega, ?_⟩
  rcases h.2 with ⟨he, _⟩ | ⟨g, cap, cur, he, hb, hg, hnc, hcm, hcs, htk⟩
  · cases he; cases hA
  · cases he
    exact .inr ⟨g, c, cur, rfl, hb, hg, by omega, hcm, hcs, by rw [← htk, List.take_take]; congr 1; omega⟩
theorem ownsRow_set {base sz n c g : Nat} {e : TypeId} {cur : Array Value} {xs vs : List Value} {o : Nat} (hb : base ≤ g) (hg : w.heap[g]? = some (.cells cur e (0, 0))) (hl : xs.length = n * sz) (hnc : n ≤ c) (hcm : c ≤ maxLen) (hcs : cur.size = c * sz) (htk : cur.toList.take (n * sz) = xs) (ho : o + vs.length ≤ n * sz) :
    (w.setRow g (cur.toList.take o ++ vs ++ cur.toList.drop (o + vs.length)).toArray).ownsRow base e sz (.slice (some ⟨g, 0, none⟩) n c) n (setL xs o vs) := by
  have hle : n * sz ≤ c * sz := Nat.mul_le_mul_right sz hnc
  have hcl : cur.toList.length = c * sz := by simpa using hcs
  refine ⟨by rw [setL_len (by rw [hl]; exact ho)]; exact hl, .inr ⟨g, c, _, rfl, hb, setRow_heap w g cur _ e _ hg, hnc, hcm, ?_, ?_⟩⟩
  · have := setL_len (l := cur.toList) (vs := vs) (off := o) (by omega)
    unfold setL at this
    simpa [hcs] using this
  · have := setL_take (l := cur.toList) (vs := vs) (off := o) (m := n * sz) ho (by omega)
    unfold setL at this
    rw [← htk]
    unfold setL
    simpa using this
theorem keep_setRow {g : Nat} {cs : Array Value} {S : Nat → Prop} (h : S g) : Keep S w (w.setRow g cs) := by
  refine ⟨rfl, rfl, rfl, by simp [World.setRow], fun k hk hs => ?_⟩
  have hne : g ≠ k := fun e => hs (e ▸ h)
  simp [World.setRow, Array.getElem?_modify, hne]
theorem e_appendIn {x y : Operand} {t e : TypeId} {base sz bytes n i m c c' : Nat} {z : Value} {A B : Option Addr} {xs news : List Value} {G : Value → World → Prop} [hx : EvO N τ x (.slice A i c)] [hy : EvO N τ y (.slice B m c')] [hu : Und P t (.slice e)] [hi : Inf P e sz bytes z] [hrow : Row w B news]
    (hown : w.ownsRow base e sz (.slice A n c) n xs) (hl : news.length = m * sz) (h1 : ∀ u ∈ news, u.oneCell' = true) (hA : A.isSome = true) (hB : B.isSome = true) (hroom : i + m ≤ n)
    (h : ∀ w', Lk w' w (OwnB (.slice A n c)) → w'.ownsRow base e sz (.slice A n c) n (setL xs (i * sz) news) → G (.slice A (i + m) c) w') :
    EffV P N (OwnB (.slice A n c)) (.call { callee := .builtin .append, args := #[x, y], argTypes := #[t, t] }) ty τ w G := by
  obtain ⟨ii, h5, h6, h7, h8⟩ := hi.ex
  obtain ⟨b, rfl⟩ := Option.isSome_iff_exists.1 hB
  subst h6
  rcases hown.2 with ⟨he, _⟩ | ⟨g, cap, cur, he, hb, hg, hnc, hcm, hcs, htk⟩
  · cases he; cases hA
  · cases he
    have hle : (i + m) * ii.size ≤ n * ii.size := Nat.mul_le_mul_right _ hroom
    rw [Nat.add_mul] at hle
    have hle2 : n * ii.size ≤ c * ii.size := Nat.mul_le_mul_right _ hnc
    have hr := run_append_room (P := P) w t ty e ii hu.eq h5 g i c cur hg b m c' news hl (fun j u hj => by
      obtain ⟨a', ha', hc⟩ := hrow.row j u hj
      cases ha'; exact hc) h1 (by omega) (by omega)
    have hk : Keep (OwnB (.slice (some ⟨g, 0, none⟩) n c)) w (w.setRow g (cur.toList.take (i * ii.size) ++ news ++ cur.toList.drop (i * ii.size + news.length)).toArray) := keep_setRow rfl
    exact ⟨fun _ => nofun, _, _, by simp [execOp, resolve, invoke, builtin, hx.eq, hy.eq, hr, Result.andThen], hk, h _ ⟨hk⟩ (ownsRow_set hb hg hown.1 hnc hcm hcs htk (by omega))⟩
theorem run_copy_any {g o dLen dCap : Nat} {dT sT elem : TypeId} {a : Addr} {sLen sCap sz bytes : Nat} {z : Value} {cur : Array Value} {t : TypeId} {cs : List Value}
    (hu : P.underlying dT = some (.slice elem)) (hi : Inf P elem sz bytes z) (hg : w.heap[g]? = some (.cells cur t (0, 0))) (hn : cs.length = Nat.min sLen dLen * sz)
    (hsrc : ∀ j v, cs[j]? = some v → w.cell? (a.add j) = some v) (hfit : o + cs.length ≤ cur.size) (h1 : ∀ v ∈ cs, v.oneCell' = true) :
    (Builtin.copy_ #[dT, sT] ty #[.slice (some ⟨g, o, none⟩) dLen dCap, .slice (some a) sLen sCap]).run P w = .ok (.int .i64 ((Nat.min sLen dLen : Nat) : Int)) (w.setRow g (cur.toList.take o ++ cs ++ cur.toList.drop (o + cs.length)).toArray) := by
  obtain ⟨ii, h5, h6, h7, h8⟩ := hi.ex
  subst h6
  have hf := run_firstCells_some (P := P) w ii.size (Nat.min sLen dLen) a sLen sCap cs hn hsrc
  have hst := run_storeCells_at P g o t cs 0 cur w hg (by simpa using hfit) h1
  simp only [Nat.add_zero] at hst
  simp [Builtin.copy_, run_underlying hu, Builtin.lenOf, sizeOf, typeInfo, h5, hf, hst, goInt]
theorem e_copy {x y : Operand} {t e : TypeId} {base sz bytes n c i dl dc sl sc : Nat} {z : Value} {A A' B : Option Addr} {xs cs : List Value} {G : Value → World → Prop} [hx : EvO N τ x (.slice A' dl dc)] [hy : EvO N τ y (.slice B sl sc)] [hu : Und P t (.slice e)] [hi : Inf P e sz bytes z] [hrow : Row w B cs]
    (hown : w.ownsRow base e sz (.slice A n c) n xs) (hA' : A' = A.map (·.add (i * sz))) (hl : cs.length = Nat.min sl dl * sz) (h1 : ∀ u ∈ cs, u.oneCell' = true) (hA : A.isSome = true) (hB : B.isSome = true) (hroom : i + Nat.min sl dl ≤ n)
    (h : ∀ w', Lk w' w (OwnB (.slice A n c)) → w'.ownsRow base e sz (.slice A n c) n (setL xs (i * sz) cs) → G (.int .i64 ((Nat.min sl dl : Nat) : Int)) w') :
    EffV P N (OwnB (.slice A n c)) (.call { callee := .builtin .copy, args := #[x, y], argTypes := #[t, t] }) ty τ w G := by
  obtain ⟨b, rfl⟩ := Option.isSome_iff_exists.1 hB
  subst hA'
  rcases hown.2 with ⟨he, _⟩ | ⟨g, cap, cur, he, hb, hg, hnc, hcm, hcs, htk⟩
  · cases he; cases hA
  · cases he
    have hle : (i + Nat.min sl dl) * sz ≤ n * sz := Nat.mul_le_mul_right _ hroom
    rw [Nat.add_mul] at hle
    have hle2 : n * sz ≤ c * sz := Nat.mul_le_mul_right _ hnc
    have ha : (⟨g, 0, none⟩ : Addr).add (i * sz) = ⟨g, i * sz, none⟩ := by rw [add_none]; simp
    have hr := run_copy_any (P := P) (ty := ty) (dT := t) (sT := t) (o := i * sz) (dLen := dl) (dCap := dc) (sLen := sl) (sCap := sc) (a := b) (cs := cs) hu.eq hi hg hl (fun j u hj => by
      obtain ⟨a', ha', hc⟩ := hrow.row j u hj
      cases ha'; exact hc) (by omega) h1
    have hk : Keep (OwnB (.slice (some ⟨g, 0, none⟩) n c)) w (w.setRow g (cur.toList.take (i * sz) ++ cs ++ cur.toList.drop (i * sz + cs.length)).toArray) := keep_setRow rfl
    exact ⟨fun _ => nofun, _, _, by simp [execOp, resolve, invoke, builtin, hx.eq, hy.eq, ha, hr, Result.andThen], hk, h _ ⟨hk⟩ (ownsRow_set hb hg hown.1 hnc hcm hcs htk (by omega))⟩
theorem e_appendZM {x y : Operand} {t tn e : TypeId} {sz bytes n : Nat} {z : Value} {zc : Array Value} {i : Int} {kn : IntKind} {G : Value → World → Prop} [hx : EvO N τ x (.slice none 0 0)] [hy : EvO N τ y (.int .i64 i)] [hu : Und P t (.slice e)] [htn : Und P tn (.int kn)] [hi : Inf P e sz bytes z] [hz : Cells z zc] [hzs : Siz zc sz] (hpos : 0 < sz) (hn : i = (n : Int)) (h0 : 0 < n) (h63 : n ≤ 4294967296) (hb : n * bytes ≤ 140737488355328)
    (h : ∀ (A' : Option Addr) (c' : Nat) (w' : World), w'.ownsRow w.heap.size e sz (.slice A' 0 c') 0 [] → Lk w' w NoB → n ≤ c' → G (.slice A' n c') w') :
    EffV P N NoB (.call { callee := .builtin .append, args := #[x, y], argTypes := #[t, tn] }) ty τ w G := by
  obtain ⟨ii, h5, h6, h7, h8⟩ := hi.ex
  subst hn; subst h7; subst h6
  have hr := Lib.run_append_nil_zeros (P := P) w t tn ty e ii z .i64 kn hu.eq htn.eq h5 h8 n h0 hpos (by omega) (by omega)
  have hk : Keep NoB w (w.drew.alloc (.cells (Builtin.zeroCells z.cells n ++ Builtin.zeroCells z.cells (grownCap w n 0 e - n)) e)) := (Keep.drew w).then (Keep.alloc _ _) (fun _ _ h => h)
  have hcap : n ≤ grownCap w n 0 e := grownCap_ge w n 0 e
  have hmx : grownCap w n 0 e ≤ maxLen := grownCap_le_maxLen w n 0 e (by unfold maxLen; omega)
  have hzz : z.cells.size = ii.size := by rw [hz.eq]; exact hzs.eq
  refine ⟨fun _ => nofun, _, _, by simp only [execOp, resolve, invoke, builtin, hx.eq, hy.eq, hr, Sem.run_bind, Sem.run_pure, Result.andThen_ok, List.map_toArray, List.map_cons, List.map_nil], hk, h _ _ _ ⟨by simp, .inr ⟨w.heap.size, _, _, rfl, Nat.le_refl _, heap_alloc_new _ _, by omega, hmx, ?_, by simp⟩⟩ ⟨hk⟩ hcap⟩
  rw [Array.size_append, size_zeroCells, size_zeroCells, hzz, ← Nat.add_mul]
  congr 1
  omega
theorem made_flat {α : Type} {enc : α → List Value} {sz : Nat} (hsz : ∀ x, (enc x).length = sz) (hpos : 0 < sz) {z : Array Value} (y : α) (hz : z.toList = enc y) (c : Nat) : madeCells z (c * sz) = ((List.replicate c y).flatMap enc).toArray := by
  have hzs : z.size = sz := by rw [← Array.length_toList, hz]; exact hsz y
  have hl : ((List.replicate c y).flatMap enc).length = c * sz := by rw [flat_len hsz]; simp
  apply Array.ext
  · simp [madeCells, hl]
  · intro j h1 h2
    have hj : j < c * sz := by simpa [madeCells] using h1
    have hm : j % sz < sz := Nat.mod_lt _ hpos
    have hk : j / sz < c := (Nat.div_lt_iff_lt_mul hpos).2 hj
    have h3 := flat_get hsz (List.replicate c y) (j / sz) (by simpa using hk) (j % sz) (z[j % sz]'(by rw [hzs]; exact hm)) (by rw [List.getElem_replicate, ← hz]; simp [hzs, hm])
    rw [Nat.div_add_mod'] at h3
    have h4 : ((List.replicate c y).flatMap enc)[j]'(by rw [hl]; exact hj) = z[j % sz]'(by rw [hzs]; exact hm) := by
      rw [List.getElem?_eq_getElem (by rw [hl]; exact hj)] at h3
      exact Option.some.inj h3
    simp only [List.getElem_toArray, h4, madeCells, Array.getElem_map, Array.getElem_range, hzs]
    rw [getElem!_pos z (j % sz) (by rw [hzs]; exact hm)]
theorem e_makeSliceM {α : Type} {enc : α → List Value} {t e : TypeId} {x y : Operand} {sz bytes : Nat} {z : Value} {zc : Array Value} {a b : Int} (n c : Nat) (y0 : α) {G : Value → World → Prop} [hx : EvO N τ x (.int .i64 a)] [hy : EvO N τ y (.int .i64 b)] [hu : Und P t (.slice e)] [hi : Inf P e sz bytes z] [hz : Cells z zc] [he : EncN enc sz] (hpos : 0 < sz) (hz0 : zc.toList = enc y0) (ha : a = (n : Int)) (hb : b = (c : Int)) (hnc : n ≤ c) (hc : c ≤ 4294967296) (hbytes : c * bytes ≤ 140737488355328)
    (h : ∀ (g : Nat) (w' : World), New g w → Lk w' w NoB → Blk w' g (.cells ((List.replicate c y0).flatMap enc).toArray e (0, 0)) → G (.slice (some ⟨g, 0, none⟩) n c) w') : EffV P N NoB (.makeSlice t x y) ty τ w G := by
  obtain ⟨i, h5, h6, h7, h8⟩ := hi.ex
  subst ha; subst hb; subst h7
  have hr := run_makeSlice0 (w := w) hu.eq h5 h8 hnc hc hbytes
  rw [h6, hz.eq, made_flat he.eq hpos y0 hz0] at hr
  obtain ⟨k1, k2, k3⟩ := new_blk (w := w) (.cells ((List.replicate c y0).flatMap enc).toArray e)
  exact ⟨fun _ => nofun, _, _, by simp only [execOp, Sem.run_bind, hx.eq, hy.eq, hr, Result.andThen_ok, Sem.run_pure], k2.keep, h _ _ k1 k2 k3⟩
end
section
variable {P : Program} {r : Option Nat} {N : Nat} {ops : Array Oper} {Q : Post} {S U : Nat → Prop} {τ : Tau} {ds : List Deferred} {w : World} {d : Nat} {ty : TypeId}
theorem kpa {w' w : World} {S : Nat → Prop} [l : Lk w' w S] : Keep allS w w' := l.keep.all
theorem xt_fcall {p : Plan} {i : Nat} {pos' : String} {aft' : Array Edge} {g : Operand} {args : List Operand} {at_ : Array TypeId} {f : FuncId} {a c vs as as2 : List Value} {R : Value → World → Prop}
    (hi : ops[i]? = some ⟨some d, .call { callee := .value g, args := args.toArray, argTypes := at_ }, ty, pos', aft', none⟩)
    [hg : EvO N τ g (.func (.func f) a.toArray c.toArray)] [hv : EvL N τ args vs] [hf : Fun P f] [h1 : App a vs as] [h2 : App as c as2]
    (hc : Ret P f as2.toArray w R) (h : ∀ v w', R v w' → Keep U w w' ∧ XT P r N ops Q S U p (upd τ d v) ds w') : XT P r N ops Q S U (.free i p) τ ds w := by
  show match ops[i]? with | some o => OpE P r N ops o Q τ ds w (fun τ' ds' w' => Keep U w w' ∧ XT P r N ops Q S U p τ' ds' w') | none => False
  rw [hi]
  exact OpE_call (as2 := as2) hc h
theorem xt_fcallv {p : Plan} {i : Nat} {pos' : String} {aft' : Array Edge} {g : Operand} {args : List Operand} {at_ : Array TypeId} {gv : Value} {vs : List Value} {R : Value → World → Prop} (hi : ops[i]? = some ⟨some d, .call { callee := .value g, args := args.toArray, argTypes := at_ }, ty, pos', aft', none⟩) [hg : EvO N τ g gv] [hv : EvL N τ args vs]
    (hc : CallV P gv vs w R) (h : ∀ v w', R v w' → Keep U w w' ∧ XT P r N ops Q S U p (upd τ d v) ds w') : XT P r N ops Q S U (.free i p) τ ds w := by
  show match ops[i]? with | some o => OpE P r N ops o Q τ ds w (fun τ' ds' w' => Keep U w w' ∧ XT P r N ops Q S U p τ' ds' w') | none => False
  rw [hi]
  exact OpE_callv hc h
end
section
variable {P : Program} {r : Option Nat} {N : Nat} {S U : Nat → Prop} {Q : Post} {τ : Tau} {ds : List Deferred} {w : World} {ty : TypeId} {ops : Array Oper} {rest : List Oper} {pos : String} {aft : Array Edge} {d : Nat} {v : Value} {op : Op}
theorem xl_Lc (h : XL P r N ops Q rest (upd τ d v) ds w) (hv : Val P r N NoB op ty τ w v := by first | exact v_load | exact v_loadC | exact v_loadC0 | exact v_loadO (by omega) | exact v_loadFf (by omega) | exact v_loadF0 (by omega)) : XL P r N ops Q (⟨some d, op, ty, pos, aft, none⟩ :: rest) τ ds w := xl_v hv h
theorem xl_gLc {j e : Nat} {b : Bool} (hj : (ops[j]?).bind (·.dst) = some e) (hb : evO N τ (.tmp e) = .bool b) (h : XL P r N ops Q rest (upd τ d v) ds w) (hv : Val P r N NoB op ty τ w v := by first | exact v_load | exact v_loadC | exact v_loadC0 | exact v_loadO (by omega) | exact v_loadFf (by omega) | exact v_loadF0 (by omega)) : XL P r N ops Q (⟨some d, op, ty, pos, aft, some (j, b)⟩ :: rest) τ ds w := xl_gv hj hb hv h
theorem xt_Lc {p : Plan} {i : Nat} {pos' : String} {aft' : Array Edge} (hi : ops[i]? = some ⟨some d, op, ty, pos', aft', none⟩) (h : XT P r N ops Q S U p (upd τ d v) ds w) (hv : Val P r N S op ty τ w v := by first | exact v_load | exact v_loadC | exact v_loadC0 | exact v_loadO (by omega) | exact v_loadFf (by omega) | exact v_loadF0 (by omega)) : XT P r N ops Q S U (.take i p) τ ds w := xt_v hi hv h
theorem xt_gLc {p : Plan} {i j e : Nat} {b : Bool} {pos' : String} {aft' : Array Edge} (hi : ops[i]? = some ⟨some d, op, ty, pos', aft', some (j, b)⟩) (hj : (ops[j]?).bind (·.dst) = some e) (hb : evO N τ (.tmp e) = .bool b) (h : XT P r N ops Q S U p (upd τ d v) ds w) (hv : Val P r N S op ty τ w v := by first | exact v_load | exact v_loadC | exact v_loadC0 | exact v_loadO (by omega) | exact v_loadFf (by omega) | exact v_loadF0 (by omega)) : XT P r N ops Q S U (.take i p) τ ds w := xt_gv hi hj hb hv h
theorem xl_Lb (h : XL P r N ops Q rest (upd τ d v) ds w) (hv : Val P r N NoB op ty τ w v := by first | exact v_loadA | exact v_loadCA (by decide) | exact v_loadF (by decide) (by omega)) : XL P r N ops Q (⟨some d, op, ty, pos, aft, none⟩ :: rest) τ ds w := xl_v hv h
theorem xl_gLb {j e : Nat} {b : Bool} (hj : (ops[j]?).bind (·.dst) = some e) (hb : evO N τ (.tmp e) = .bool b) (h : XL P r N ops Q rest (upd τ d v) ds w) (hv : Val P r N NoB op ty τ w v := by first | exact v_loadA | exact v_loadCA (by decide) | exact v_loadF (by decide) (by omega)) : XL P r N ops Q (⟨some d, op, ty, pos, aft, some (j, b)⟩ :: rest) τ ds w := xl_gv hj hb hv h
theorem xt_Lb {p : Plan} {i : Nat} {pos' : String} {aft' : Array Edge} (hi : ops[i]? = some ⟨some d, op, ty, pos', aft', none⟩) (h : XT P r N ops Q S U p (upd τ d v) ds w) (hv : Val P r N S op ty τ w v := by first | exact v_loadA | exact v_loadCA (by decide) | exact v_loadF (by decide) (by omega)) : XT P r N ops Q S U (.take i p) τ ds w := xt_v hi hv h
theorem xt_gLb {p : Plan} {i j e : Nat} {b : Bool} {pos' : String} {aft' : Array Edge} (hi : ops[i]? = some ⟨some d, op, ty, pos', aft', some (j, b)⟩) (hj : (ops[j]?).bind (·.dst) = some e) (hb : evO N τ (.tmp e) = .bool b) (h : XT P r N ops Q S U p (upd τ d v) ds w) (hv : Val P r N S op ty τ w v := by first | exact v_loadA | exact v_loadCA (by decide) | exact v_loadF (by decide) (by omega)) : XT P r N ops Q S U (.take i p) τ ds w := xt_gv hi hj hb hv h
theorem xl_Fb (h : XL P r N ops Q rest (upd τ d v) ds w) (hv : Val P r N NoB op ty τ w v := by first | exact v_fieldAddr | exact v_fieldAddrR (by first | assumption | rfl) | exact v_fieldAddrF (by decide) (by omega)) : XL P r N ops Q (⟨some d, op, ty, pos, aft, none⟩ :: rest) τ ds w := xl_v hv h
theorem xl_gFb {j e : Nat} {b : Bool} (hj : (ops[j]?).bind (·.dst) = some e) (hb : evO N τ (.tmp e) = .bool b) (h : XL P r N ops Q rest (upd τ d v) ds w) (hv : Val P r N NoB op ty τ w v := by first | exact v_fieldAddr | exact v_fieldAddrR (by first | assumption | rfl) | exact v_fieldAddrF (by decide) (by omega)) : XL P r N ops Q (⟨some d, op, ty, pos, aft, some (j, b)⟩ :: rest) τ ds w := xl_gv hj hb hv h
theorem xt_Fb {p : Plan} {i : Nat} {pos' : String} {aft' : Array Edge} (hi : ops[i]? = some ⟨some d, op, ty, pos', aft', none⟩) (h : XT P r N ops Q S U p (upd τ d v) ds w) (hv : Val P r N S op ty τ w v := by first | exact v_fieldAddr | exact v_fieldAddrR (by first | assumption | rfl) | exact v_fieldAddrF (by decide) (by omega)) : XT P r N ops Q S U (.take i p) τ ds w := xt_v hi hv h
theorem xt_gFb {p : Plan} {i j e : Nat} {b : Bool} {pos' : String} {aft' : Array Edge} (hi : ops[i]? = some ⟨some d, op, ty, pos', aft', some (j, b)⟩) (hj : (ops[j]?).bind (·.dst) = some e) (hb : evO N τ (.tmp e) = .bool b) (h : XT P r N ops Q S U p (upd τ d v) ds w) (hv : Val P r N S op ty τ w v := by first | exact v_fieldAddr | exact v_fieldAddrR (by first | assumption | rfl) | exact v_fieldAddrF (by decide) (by omega)) : XT P r N ops Q S U (.take i p) τ ds w := xt_gv hi hj hb hv h
end
end Go.Wst
