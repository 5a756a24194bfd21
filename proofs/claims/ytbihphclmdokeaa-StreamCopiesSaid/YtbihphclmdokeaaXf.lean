/-
  The walk's own calculus, sixth part: many slices of the call's own, none in another's block; footprints. No program is named here.
-/
import Derived.Test.YtbihphclmdokeaaXe
set_option linter.all false
namespace Go.Wst

section laws
variable {P : Program} {r : Option Nat} {N : Nat} {S T : Nat → Prop} {Q : Post} {τ : Tau} {ds : List Deferred} {w : World} {ty : TypeId} {ops : Array Oper} {rest : List Oper} {pos : String} {aft : Array Edge} {d : Nat} {v : Value} {op : Op}
theorem v_eql_pointerS {x : Operand} {t e t' : TypeId} {a : Addr} [hx : EvO N τ x (.pointer (some a))] [hu : Und P t (.pointer e)] : Val P r N S (.binOp .eql t x (.const (.pointer none)) t') ty τ w (.bool false) := v_eql_pointer (p := some a)
theorem v_eql_pointerN {x : Operand} {t e t' : TypeId} [hx : EvO N τ x (.pointer none)] [hu : Und P t (.pointer e)] : Val P r N S (.binOp .eql t x (.const (.pointer none)) t') ty τ w (.bool true) := v_eql_pointer (p := none)
theorem v_neq_pointerS {x : Operand} {t e t' : TypeId} {a : Addr} [hx : EvO N τ x (.pointer (some a))] [hu : Und P t (.pointer e)] : Val P r N S (.binOp .neq t x (.const (.pointer none)) t') ty τ w (.bool true) := v_neq_pointer (p := some a)
theorem v_neq_pointerN {x : Operand} {t e t' : TypeId} [hx : EvO N τ x (.pointer none)] [hu : Und P t (.pointer e)] : Val P r N S (.binOp .neq t x (.const (.pointer none)) t') ty τ w (.bool false) := v_neq_pointer (p := none)
theorem v_eql_mapS {x : Operand} {t k e t' : TypeId} {m : Nat} [hx : EvO N τ x (.map (some m))] [hu : Und P t (.map k e)] : Val P r N S (.binOp .eql t x (.const (.map none)) t') ty τ w (.bool false) := v_eql_map (m := some m)
theorem v_eql_sliceS {x : Operand} {t e t' : TypeId} {a : Addr} {n c : Nat} [hx : EvO N τ x (.slice (some a) n c)] [hu : Und P t (.slice e)] : Val P r N S (.binOp .eql t x (.const (.slice none 0 0)) t') ty τ w (.bool false) := v_eql_slice (A := some a)
theorem v_eql_sliceN {x : Operand} {t e t' : TypeId} {n c : Nat} [hx : EvO N τ x (.slice none n c)] [hu : Und P t (.slice e)] : Val P r N S (.binOp .eql t x (.const (.slice none 0 0)) t') ty τ w (.bool true) := v_eql_slice (A := none)
section
variable {k : IntKind} {a b : Int} {x y : Operand} {t t' : TypeId} [hx : EvO N τ x (.int k a)] [hy : EvO N τ y (.int k b)]
include hx hy
theorem v_eqlT (h : a = b) : Val P r N S (.binOp .eql t x y t') ty τ w (.bool true) := by
  have := v_eql (P := P) (r := r) (N := N) (S := S) (τ := τ) (w := w) (ty := ty) (t := t) (t' := t') (hx := hx) (hy := hy)
  rwa [decide_eq_true h] at this
theorem v_neqF (h : a = b) : Val P r N S (.binOp .neq t x y t') ty τ w (.bool false) := by
  have := v_neq (P := P) (r := r) (N := N) (S := S) (τ := τ) (w := w) (ty := ty) (t := t) (t' := t') (hx := hx) (hy := hy)
  rwa [decide_eq_true h] at this
theorem v_neqT (h : a ≠ b) : Val P r N S (.binOp .neq t x y t') ty τ w (.bool true) := by
  have := v_neq (P := P) (r := r) (N := N) (S := S) (τ := τ) (w := w) (ty := ty) (t := t) (t' := t') (hx := hx) (hy := hy)
  rwa [decide_eq_false h] at this
theorem v_eqlF (h : a ≠ b) : Val P r N S (.binOp .eql t x y t') ty τ w (.bool false) := by
  have := v_eql (P := P) (r := r) (N := N) (S := S) (τ := τ) (w := w) (ty := ty) (t := t) (t' := t') (hx := hx) (hy := hy)
  rwa [decide_eq_false h] at this
end
section
variable {κ : Type} [DecidableEq κ] {enc : κ → Value} {kvs : List (κ × Value)} {b : Nat} {kt et t : TypeId}
theorem v_lookup2v {x y : Operand} {sz bytes : Nat} {z u : Value} (k : κ) (q : Value) (c : Bool) [hx : EvO N τ x (.map (some b))] [hy : EvO N τ y u] [hu : Und P t (.map kt et)] [hm : MapI w b κ enc kvs] [hk : KeyE P kt enc] [hi : Inf P et sz bytes z] [hs : NotS S b] (he : u = enc k) (h1 : (akey kvs k).getD z = q) (h2 : (akey kvs k).isSome = c) :
    Val P r N S (.lookup t x y true) ty τ w (.tuple #[q, .bool c]) := by
  subst h1; subst h2
  exact v_lookup2 k he
theorem v_lookup1v {x y : Operand} {sz bytes : Nat} {z u : Value} (k : κ) (q : Value) [hx : EvO N τ x (.map (some b))] [hy : EvO N τ y u] [hu : Und P t (.map kt et)] [hm : MapI w b κ enc kvs] [hk : KeyE P kt enc] [hi : Inf P et sz bytes z] [hs : NotS S b] (he : u = enc k) (h1 : (akey kvs k).getD z = q) :
    Val P r N S (.lookup t x y false) ty τ w q := by
  subst h1
  exact v_lookup1 k he
end
end laws

/-! ### slices, each in a block of its own -/
def SlsF (vs : List Value) : Nat → Prop := fun k => ∃ v, v ∈ vs ∧ v.ownBlock = some k
structure Sls (w : World) (e : TypeId) (sz : Nat) (vs : List Value) (xss : List (List Value)) : Prop where
  len : vs.length = xss.length
  own : ∀ (i : Nat) (v : Value) (xs : List Value), vs[i]? = some v → xss[i]? = some xs → ∃ n, w.ownsRow 0 e sz v n xs
  apart : ∀ (i j : Nat) (v u : Value) (k : Nat), vs[i]? = some v → vs[j]? = some u → v.ownBlock = some k → u.ownBlock = some k → i = j
theorem Sls.lt {w : World} {e : TypeId} {sz : Nat} {vs : List Value} {xss : List (List Value)} (h : Sls w e sz vs xss) : ∀ k, SlsF vs k → k < w.heap.size := by
  rintro k ⟨v, hv, hk⟩
  obtain ⟨i, hi, rfl⟩ := List.mem_iff_getElem.1 hv
  have hi' : i < xss.length := by rw [← h.len]; exact hi
  obtain ⟨n, ho⟩ := h.own i _ xss[i] (List.getElem?_eq_getElem hi) (List.getElem?_eq_getElem hi')
  exact (ho.lt k hk).2
theorem Sls.keep {w w' : World} {S : Nat → Prop} {e : TypeId} {sz : Nat} {vs : List Value} {xss : List (List Value)} (h : Sls w e sz vs xss) (hk : Keep S w w') (hs : ∀ k, SlsF vs k → ¬ S k) : Sls w' e sz vs xss :=
  ⟨h.len, fun i v xs hv hx => by
    obtain ⟨n, ho⟩ := h.own i v xs hv hx
    exact ⟨n, own_keep ho hk (fun k hk => hs k ⟨v, List.mem_of_getElem? hv, hk⟩)⟩, h.apart⟩
theorem Sls.set {w w' : World} {e : TypeId} {sz : Nat} {vs : List Value} {xss : List (List Value)} (h : Sls w e sz vs xss) {i : Nat} {v v' : Value} {xs' : List Value} {n' : Nat} (hv : vs[i]? = some v) (ho : w'.ownsRow 0 e sz v' n' xs')
    (hk : ∀ k, SlsF vs k → v.ownBlock ≠ some k → w'.heap[k]? = w.heap[k]?) (hn : v'.ownBlock = v.ownBlock ∨ ∃ k, v'.ownBlock = some k ∧ w.heap.size ≤ k) : Sls w' e sz (vs.set i v') (xss.set i xs') := by
  have hil : i < vs.length := (List.getElem?_eq_some_iff.1 hv).1
  refine ⟨by simp [h.len], ?_, ?_⟩
  · intro j u ys hu hy
    rw [List.getElem?_set] at hu hy
    by_cases hij : i = j
    · subst hij
      rw [if_pos rfl, if_pos hil] at hu
      rw [if_pos rfl, if_pos (h.len ▸ hil)] at hy
      cases hu; cases hy
      exact ⟨n', ho⟩
    · rw [if_neg hij] at hu hy
      obtain ⟨n, ho2⟩ := h.own j u ys hu hy
      refine ⟨n, ho2.1, ?_⟩
      rcases ho2.2 with hnil | ⟨g, cap, cur, rfl, hb, hg, rest⟩
      · exact .inl hnil
      · refine .inr ⟨g, cap, cur, rfl, hb, ?_, rest⟩
        rw [hk g ⟨_, List.mem_of_getElem? hu, rfl⟩ (fun e => hij (h.apart i j v _ g hv hu e rfl))]
        exact hg
  · have fresh : ∀ (j : Nat) (u : Value) (k : Nat), vs[j]? = some u → u.ownBlock = some k → v'.ownBlock = some k → i = j := fun j u k hu hk1 hk2 => by
      rcases hn with hn | ⟨k', hn, hge⟩
      · exact h.apart i j v u k hv hu (hn ▸ hk2) hk1
      · have := h.lt k ⟨u, List.mem_of_getElem? hu, hk1⟩
        rw [hn] at hk2
        cases hk2
        omega
    intro j1 j2 u1 u2 k h1 h2 k1 k2
    rw [List.getElem?_set] at h1 h2
    by_cases e1 : i = j1 <;> by_cases e2 : i = j2
    · exact e1.symm.trans e2
    · subst e1
      rw [if_pos rfl, if_pos hil] at h1
      rw [if_neg e2] at h2
      cases h1
      exact fresh j2 u2 k h2 k2 k1
    · subst e2
      rw [if_pos rfl, if_pos hil] at h2
      rw [if_neg e1] at h1
      cases h2
      exact (fresh j1 u1 k h1 k1 k2).symm
    · rw [if_neg e1] at h1
      rw [if_neg e2] at h2
      exact h.apart j1 j2 u1 u2 k h1 h2 k1 k2
theorem slsF_set {vs : List Value} {i : Nat} {v' : Value} {k : Nat} (h : SlsF (vs.set i v') k) : SlsF vs k ∨ v'.ownBlock = some k := by
  obtain ⟨u, hu, hk⟩ := h
  rcases List.mem_or_eq_of_mem_set hu with h | rfl
  · exact .inl ⟨u, h, hk⟩
  · exact .inr hk
theorem Sls.nils (w : World) (e : TypeId) (sz n : Nat) : Sls w e sz (List.replicate n (.slice none 0 0)) (List.replicate n []) := by
  refine ⟨by simp, ?_, ?_⟩
  · intro i v xs hv hx
    simp only [List.getElem?_replicate] at hv hx
    split at hv
    · rename_i hlt
      rw [if_pos hlt] at hx
      cases hv; cases hx
      exact ⟨0, World.ownsRow_nil _ _ _ _⟩
    · cases hv
  · intro i j v u k hv hu hk _
    simp only [List.getElem?_replicate] at hv
    split at hv
    · cases hv; cases hk
    · cases hv
theorem slsF_nils {n k : Nat} : ¬ SlsF (List.replicate n (.slice none 0 0)) k := by
  rintro ⟨v, hv, hk⟩
  obtain ⟨_, rfl⟩ := List.mem_replicate.1 hv
  cases hk

/-! ### plain lists -/
/-- The index of the first that is so, or -1. -/
def idx {α : Type} (p : α → Bool) (xs : List α) : Int := match xs.findIdx? p with | some i => (i : Int) | none => -1
theorem idx_found {α : Type} {p : α → Bool} {xs : List α} {k : Nat} (hk : k < xs.length) (h0 : ∀ j (h : j < xs.length), j < k → p xs[j] = false) (h1 : p xs[k] = true) : idx p xs = k := by
  have : xs.findIdx? p = some k := by rw [List.findIdx?_eq_some_iff_getElem]; exact ⟨hk, h1, fun j hj => by simp [h0 j (by omega) hj]⟩
  simp [idx, this]
theorem idx_none {α : Type} {p : α → Bool} {xs : List α} (h0 : ∀ j (h : j < xs.length), p xs[j] = false) : idx p xs = -1 := by
  have : xs.findIdx? p = none := by
    rw [List.findIdx?_eq_none_iff]
    intro x hx
    obtain ⟨j, hj, rfl⟩ := List.mem_iff_getElem.1 hx
    exact h0 j hj
  simp [idx, this]
theorem idx_any {α : Type} (p : α → Bool) (xs : List α) : decide (0 ≤ idx p xs) = xs.any p := by
  unfold idx
  cases h : xs.findIdx? p with
  | none =>
    rw [List.findIdx?_eq_none_iff] at h
    have : xs.any p = false := by rw [List.any_eq_false]; intro x hx; simp [h x hx]
    simp [this]
  | some i =>
    rw [List.findIdx?_eq_some_iff_getElem] at h
    obtain ⟨hi, hp, _⟩ := h
    have : xs.any p = true := List.any_eq_true.2 ⟨_, List.getElem_mem hi, hp⟩
    simp [this]
theorem idx_lt {α : Type} {p : α → Bool} {xs : List α} : -1 ≤ idx p xs ∧ idx p xs < xs.length ∨ idx p xs = -1 := by
  unfold idx
  cases h : xs.findIdx? p with
  | none => exact .inr rfl
  | some i =>
    rw [List.findIdx?_eq_some_iff_getElem] at h
    obtain ⟨hi, _⟩ := h
    have h0 : (0 : Int) ≤ (i : Int) := by omega
    refine .inl ⟨?_, ?_⟩ <;> simp only [] <;> omega
theorem mapIdx_const {α β : Type} (f : α → β) (xs : List α) : xs.mapIdx (fun _ v => f v) = xs.map f := by
  apply List.ext_getElem?
  intro i
  simp [List.getElem?_mapIdx]
theorem take_snoc {α : Type} (xs : List α) (k : Nat) (h : k < xs.length) : xs.take (k + 1) = xs.take k ++ [xs[k]] := by
  rw [List.take_succ_eq_append_getElem h]
theorem idx_cases {α : Type} (p : α → Bool) (xs : List α) : (idx p xs = -1 ∧ ∀ x ∈ xs, p x = false) ∨ ∃ k : Nat, ∃ h : k < xs.length, idx p xs = (k : Int) ∧ p xs[k] = true ∧ ∀ x ∈ xs.take k, p x = false := by
  unfold idx
  cases h : xs.findIdx? p with
  | none => exact .inl ⟨rfl, by simpa [List.findIdx?_eq_none_iff] using h⟩
  | some i =>
    rw [List.findIdx?_eq_some_iff_getElem] at h
    obtain ⟨hi, hp, hlt⟩ := h
    refine .inr ⟨i, hi, rfl, hp, fun x hx => ?_⟩
    obtain ⟨j, hj, rfl⟩ := List.mem_iff_getElem.1 hx
    simp only [List.length_take] at hj
    rw [List.getElem_take]
    simpa using hlt j (by omega)
theorem filter_none {α : Type} {p : α → Bool} {xs : List α} (h : ∀ x ∈ xs, p x = false) : xs.filter (fun x => !p x) = xs := by
  rw [List.filter_eq_self]
  intro x hx
  simp [h x hx]

/-! ### what is new since a world -/
def NewS (w : World) : Nat → Prop := fun k => w.heap.size ≤ k
instance notS_newS (w : World) (b : Nat) [h : Has w b] : NotS (NewS w) b := ⟨fun e => Nat.lt_irrefl _ (Nat.lt_of_lt_of_le h.lt e)⟩
instance subS_newS (w w' : World) (b : Nat) [h : New b w'] [g : Ge w' w] : SubS (OneB b) (NewS w) := ⟨fun k e => by
  have h1 := h.eq
  have h2 := g.le
  have h3 : k = b := e
  show w.heap.size ≤ k
  omega⟩
instance subF_ownNew (v : Value) (w0 w w' : World) [h : OwnA v w0] [g : Ge w0 w] : SubF (OwnB v) (NewS w) w' := ⟨fun k _ e => Nat.le_trans g.le (h.le k (Eq.symm e))⟩
instance subS_ownNew (v : Value) (w0 w : World) [h : OwnA v w0] [g : Ge w0 w] : SubS (OwnB v) (NewS w) := ⟨fun k e => Nat.le_trans g.le (h.le k (Eq.symm e))⟩
instance notS_ownSome (b0 b o n c : Nat) (sp : Option Nat) [h : NeB b b0] : NotS (OwnB (.slice (some ⟨b0, o, sp⟩) n c)) b := ⟨fun e => by
  have h1 : some b = some b0 := e
  exact h.ne (Option.some.inj h1)⟩
instance rowOut_some (S : Nat → Prop) (b o : Nat) (sp : Option Nat) [h : NotS S b] : RowOut S (some ⟨b, o, sp⟩) := ⟨fun a e => by cases e; exact h.not⟩
instance subF_or (S T U : Nat → Prop) (w : World) [h : SubF S U w] [k : SubF T U w] : SubF (fun i => S i ∨ T i) U w := ⟨fun i hi e => e.elim (h.sub i hi) (k.sub i hi)⟩
instance notS_or (S T : Nat → Prop) (b : Nat) [h : NotS S b] [k : NotS T b] : NotS (fun i => S i ∨ T i) b := ⟨fun e => e.elim h.not k.not⟩

/-! ### rows of elements of several cells -/
theorem flat_len {α : Type} {enc : α → List Value} {sz : Nat} (hsz : ∀ x, (enc x).length = sz) (xs : List α) : (xs.flatMap enc).length = xs.length * sz := by
  induction xs with
  | nil => simp
  | cons x xs ih => rw [List.flatMap_cons, List.length_append, ih, hsz, List.length_cons, Nat.add_mul]; omega
theorem flat_get {α : Type} {enc : α → List Value} {sz : Nat} (hsz : ∀ x, (enc x).length = sz) : ∀ (xs : List α) (k : Nat) (h : k < xs.length) (i : Nat) (u : Value), (enc xs[k])[i]? = some u → (xs.flatMap enc)[k * sz + i]? = some u
  | [], _, h, _, _, _ => by simp at h
  | x :: xs, 0, _, i, u, hu => by
    have hu' : (enc x)[i]? = some u := hu
    have hi := (List.getElem?_eq_some_iff.1 hu').1
    rw [List.flatMap_cons, Nat.zero_mul, Nat.zero_add, List.getElem?_append_left hi]
    exact hu'
  | x :: xs, k + 1, h, i, u, hu => by
    have ih := flat_get hsz xs k (by simpa using h) i u (by simpa using hu)
    rw [List.flatMap_cons, List.getElem?_append_right (by rw [hsz, Nat.add_mul]; omega), hsz]
    rw [← ih]
    congr 1
    rw [Nat.add_mul]; omega
theorem flat_take {α : Type} {enc : α → List Value} {sz : Nat} (hsz : ∀ x, (enc x).length = sz) : ∀ (xs : List α) (k : Nat), (xs.take k).flatMap enc = (xs.flatMap enc).take (k * sz)
  | [], k => by simp
  | x :: xs, 0 => by simp
  | x :: xs, k + 1 => by
    rw [List.take_succ_cons, List.flatMap_cons, List.flatMap_cons, flat_take hsz xs k, List.take_append, hsz]
    rw [List.take_of_length_le (l := enc x) (by rw [hsz, Nat.add_mul]; omega)]
    have : (k + 1) * sz - sz = k * sz := by rw [Nat.add_mul]; omega
    rw [this]
theorem flat_drop {α : Type} {enc : α → List Value} {sz : Nat} (hsz : ∀ x, (enc x).length = sz) : ∀ (xs : List α) (k : Nat), (xs.drop k).flatMap enc = (xs.flatMap enc).drop (k * sz)
  | [], k => by simp
  | x :: xs, 0 => by simp
  | x :: xs, k + 1 => by
    rw [List.drop_succ_cons, List.flatMap_cons, flat_drop hsz xs k, List.drop_append, hsz]
    rw [List.drop_of_length_le (l := enc x) (by rw [hsz, Nat.add_mul]; omega), List.nil_append]
    have : (k + 1) * sz - sz = k * sz := by rw [Nat.add_mul]; omega
    rw [this]
def setL (l : List Value) (off : Nat) (vs : List Value) : List Value := l.take off ++ vs ++ l.drop (off + vs.length)
theorem flat_set {α : Type} {enc : α → List Value} {sz : Nat} (hsz : ∀ x, (enc x).length = sz) : ∀ (xs : List α) (k : Nat) (x : α), k < xs.length → setL (xs.flatMap enc) (k * sz) (enc x) = (xs.set k x).flatMap enc
  | [], _, _, h => by simp at h
  | y :: xs, 0, x, _ => by
    have : (enc x).length = (enc y).length := by rw [hsz, hsz]
    simp [setL, this]
  | y :: xs, k + 1, x, h => by
    have ih := flat_set hsz xs k x (by simpa using h)
    rw [List.set_cons_succ, List.flatMap_cons, List.flatMap_cons, ← ih]
    have e1 : (k + 1) * sz = (enc y).length + k * sz := by rw [hsz, Nat.add_mul]; omega
    unfold setL
    rw [e1]
    have e2 : (enc y).take ((enc y).length + k * sz) = enc y := List.take_of_length_le (by omega)
    have e3 : (enc y).drop ((enc y).length + (k * sz + (enc x).length)) = [] := List.drop_of_length_le (by omega)
    simp [List.take_append, List.drop_append, Nat.add_assoc, e2, e3]
theorem row_drop {w : World} {A : Option Addr} {cs : List Value} {n c k sz : Nat} (h : RowP w A cs) (hl : cs.length = n * sz) (hn : n ≤ c) : RowP w (if c = k then A else A.map (·.add (k * sz))) (cs.drop (k * sz)) := by
  intro j v hv
  rw [List.getElem?_drop] at hv
  have hlt := (List.getElem?_eq_some_iff.1 hv).1
  have hne : ¬ c = k := fun e => by
    subst e
    have := Nat.mul_le_mul_right sz hn
    omega
  obtain ⟨a, rfl, ha⟩ := h _ v hv
  rw [if_neg hne]
  exact ⟨a.add (k * sz), rfl, by rw [add_add]; exact ha⟩
theorem row_take {w : World} {A : Option Addr} {cs : List Value} (h : RowP w A cs) (m : Nat) : RowP w A (cs.take m) := by
  intro j v hv
  rw [List.getElem?_take] at hv
  split at hv
  · exact h j v hv
  · cases hv

/-! ### stores into a slice of the call's own -/
section
variable {P : Program} {N : Nat} {τ : Tau} {w : World} {ty : TypeId} {v : Value}
theorem setMany_toList : ∀ (vs : List Value) (cs : Array Value) (off : Nat), off + vs.length ≤ cs.size → (setMany cs off vs).toList = setL cs.toList off vs
  | [], cs, off, _ => by simp [setMany, setL]
  | v :: vs, cs, off, h => by
    simp only [List.length_cons] at h
    rw [setMany, setMany_toList vs _ (off + 1) (by simp; omega)]
    unfold setL
    rw [Array.toList_setIfInBounds]
    have hlt : off < cs.toList.length := by simp; omega
    have e1 : (cs.toList.set off v).take (off + 1) = cs.toList.take off ++ [v] := by
      rw [List.take_set, List.take_succ_eq_append_getElem hlt, List.set_append_right _ _ (by simp; omega)]
      have : off - (cs.toList.take off).length = 0 := by simp; omega
      rw [this]; rfl
    have e2 : (cs.toList.set off v).drop (off + 1 + vs.length) = cs.toList.drop (off + (v :: vs).length) := by
      rw [List.drop_set_of_lt (by omega)]
      congr 1
      simp; omega
    rw [e1, e2]
    simp
theorem setL_len {l vs : List Value} {off : Nat} (h : off + vs.length ≤ l.length) : (setL l off vs).length = l.length := by simp [setL]; omega
theorem setL_take {l vs : List Value} {off m : Nat} (h : off + vs.length ≤ m) (hm : m ≤ l.length) : (setL l off vs).take m = setL (l.take m) off vs := by
  unfold setL
  have hl : (l.take off ++ vs).length = off + vs.length := by simp; omega
  rw [List.take_append, hl, List.take_of_length_le (by rw [hl]; exact h), List.take_take, List.drop_take, Nat.min_eq_left (by omega)]
/-- An element, or some cells of one, of a slice of the call's own. -/
theorem e_storeOwn {t e : TypeId} {x y : Operand} {base sz n cap j m bytes : Nat} {z : Value} {A : Option Addr} {xs vs : List Value} {G : World → Prop} [hx : EvO N τ x (padd A j)] [hy : EvO N τ y v] [hc : Cells v vs.toArray] [h1 : Cell1L vs] [hi : Inf P t m bytes z] [hn : LenL vs m]
    (hown : w.ownsRow base e sz (.slice A n cap) n xs) (hj : j + m ≤ n * sz) (hm : 0 < m) (h : ∀ w', Lk w' w (OwnB (.slice A n cap)) → w'.ownsRow base e sz (.slice A n cap) n (setL xs j vs) → G w') : EffS P N (OwnB (.slice A n cap)) (.store t x y) ty τ w G := by
  obtain ⟨i, h5, h6, h7, h8⟩ := hi.ex
  rcases hown.2 with ⟨he, hn0⟩ | ⟨g, cap', cur, he, hb, hg, hnc, hcm, hcs, htk⟩
  · rw [hn0] at hj; omega
  · cases he
    have hle : n * sz ≤ cap * sz := Nat.mul_le_mul_right _ hnc
    have hsz : vs.toArray.size = i.size := by rw [h6, ← hn.eq]; simp
    obtain ⟨W', r1, r2, r3⟩ := run_storeMany (P := P) vs j 0 cur w hg h1.eq (by rw [hn.eq]; omega)
    have hk : Keep (OwnB (.slice (some ⟨g, 0, none⟩) n cap)) w W' := r2.mono (fun k _ e => by have : k = g := e; subst this; rfl)
    refine ⟨fun _ => nofun, W', ?_, hk, h W' ⟨hk⟩ ⟨?_, .inr ⟨g, cap, _, rfl, hb, r3, hnc, hcm, ?_, ?_⟩⟩⟩
    · have ha : (⟨g, 0, none⟩ : Addr).add j = ⟨g, j, none⟩ := by rw [add_none]; simp
      have e9 : v.cells.size = i.size := by rw [hc.eq, hsz]
      have e10 : v.cells.toList = vs := by rw [hc.eq]
      simp [execOp, hx.eq, hy.eq, padd, ha, Instr.storeAt, Instr.sureAddr, storeVar, sizeOf, typeInfo, program, Sem.run, h5, e9, e10, r1]
    · rw [setL_len (by rw [hown.1, hn.eq]; exact hj)]; exact hown.1
    · rw [size_setMany]; exact hcs
    · rw [setMany_toList vs cur (j + 0) (by rw [hn.eq]; omega), Nat.add_zero, setL_take (by rw [hn.eq]; exact hj) (by simp [hcs]; exact hle), htk]
/-- 'clear' of a slice's end. -/
theorem e_clearEnd {t e : TypeId} {x : Operand} {base sz bytes n cap k : Nat} {z : Value} {zc : Array Value} {A B : Option Addr} {m c : Nat} {xs : List Value} {G : Value → World → Prop} [hx : EvO N τ x (.slice B m c)] [hu : Und P t (.slice e)] [hi : Inf P e sz bytes z] [hz : Cells z zc] [hzs : Siz zc sz]
    (hown : w.ownsRow base e sz (.slice A n cap) n xs) (hB : B = if cap = k then A else A.map (·.add (k * sz))) (hm : m = n - k) (hk : k ≤ n) (h1 : ∀ u ∈ zc.toList, u.oneCell' = true) (hpos : 0 < sz)
    (h : ∀ w', Lk w' w (OwnB (.slice A n cap)) → w'.ownsRow base e sz (.slice A k cap) k (xs.take (k * sz)) → G (.tuple #[]) w') : EffV P N (OwnB (.slice A n cap)) (.call { callee := .builtin .clear, args := #[x], argTypes := #[t] }) ty τ w G := by
  obtain ⟨i, h5, h6, h7, h8⟩ := hi.ex
  have hln : (xs.take (k * sz)).length = k * sz := by rw [List.length_take, hown.1]; have := Nat.mul_le_mul_right sz hk; omega
  rcases hown.2 with ⟨he, hn0⟩ | ⟨g, cap', cur, he, hb, hg, hnc, hcm, hcs, htk⟩
  · cases he
    have hk0 : k = 0 := by omega
    have hm0 : m = 0 := by omega
    subst hk0; subst hm0
    have hBn : B = none := by rw [hB]; simp
    subst hBn
    refine ⟨fun _ => nofun, _, w, ?_, Keep.refl _ _, h w ⟨Keep.refl _ _⟩ ⟨by simp, .inl ⟨rfl, rfl⟩⟩⟩
    simp [execOp, resolve, invoke, builtin, hx.eq, Builtin.clear_, run_underlying hu.eq]
  · cases he
    by_cases hm0 : m = 0
    · subst hm0
      have hkn : k = n := by omega
      subst hkn
      refine ⟨fun _ => nofun, _, w, ?_, Keep.refl _ _, h w ⟨Keep.refl _ _⟩ ⟨hln, .inr ⟨g, cap, cur, rfl, hb, hg, hnc, hcm, hcs, by rw [← htk, List.take_take]; simp⟩⟩⟩
      cases B <;> simp [execOp, resolve, invoke, builtin, hx.eq, Builtin.clear_, run_underlying hu.eq]
    · have hne : ¬ cap = k := by omega
      rw [if_neg hne] at hB
      simp only [Option.map_some, add_none, Nat.zero_add] at hB
      subst hB
      have hle : n * sz ≤ cap * sz := Nat.mul_le_mul_right _ hnc
      have hzl : (Builtin.zeroCells zc m).toList.length = m * sz := by rw [Array.length_toList, size_zeroCells, hzs.eq]
      have hzz : ∀ u ∈ (Builtin.zeroCells zc m).toList, u.oneCell' = true := by
        intro u hu
        simp only [Builtin.zeroCells, Array.toList_map, List.mem_map] at hu
        obtain ⟨j, hj, rfl⟩ := hu
        have hj' : j % zc.size < zc.size := Nat.mod_lt _ (by rw [hzs.eq]; exact hpos)
        rw [getElem!_pos zc (j % zc.size) hj']
        exact h1 _ (by simp)
      have hsum : k * sz + m * sz = n * sz := by rw [← Nat.add_mul]; congr 1; omega
      obtain ⟨W', r1, r2, r3⟩ := run_storeMany (P := P) (Builtin.zeroCells zc m).toList (k * sz) 0 cur w hg hzz (by rw [hzl, hcs]; omega)
      have hkp : Keep (OwnB (.slice (some ⟨g, 0, none⟩) n cap)) w W' := r2.mono (fun k _ e => by have : k = g := e; subst this; rfl)
      refine ⟨fun _ => nofun, _, W', ?_, hkp, h W' ⟨hkp⟩ ⟨hln, .inr ⟨g, cap, _, rfl, hb, r3, by omega, hcm, by rw [size_setMany]; exact hcs, ?_⟩⟩⟩
      · have hm1 : ∃ m', m = m' + 1 := ⟨m - 1, by omega⟩
        obtain ⟨m', rfl⟩ := hm1
        simp [execOp, resolve, invoke, builtin, hx.eq, Builtin.clear_, run_underlying hu.eq, zeroValue, typeInfo, program, Sem.run, h5, h8, hz.eq, r1]
      · rw [setMany_toList _ _ _ (by rw [hzl, hcs]; omega), Nat.add_zero, ← htk, List.take_take]
        unfold setL
        have hc2 : k * sz ≤ cur.toList.length := by rw [Array.length_toList, hcs]; omega
        rw [List.append_assoc, List.take_append_of_le_length (by simp; omega), List.take_of_length_le (by simp; omega)]
        congr 1
        omega
end

/-! ### footprints -/
/-- What F has of what lay at w, E has already. -/
def Sub (F E : Nat → Prop) (w : World) : Prop := ∀ k, F k → E k ∨ w.heap.size ≤ k
theorem Sub.refl (F : Nat → Prop) (w : World) : Sub F F w := fun _ h => .inl h
theorem Sub.trans {F E D : Nat → Prop} {w w' : World} (h : Sub F E w') (k : Sub E D w) (hs : w.heap.size ≤ w'.heap.size) : Sub F D w := fun i hi => (h i hi).elim (fun h => k i h) (fun h => .inr (Nat.le_trans hs h))
end Go.Wst
