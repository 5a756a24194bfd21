/-
  The walk's own calculus, eighth part: rows read by what they hold, rows that nobody touches. No program is named here.
-/
import Derived.Test.YtbihphclmdokeaaXg
set_option linter.all false
namespace Go.Wst

/-! ### rows, by what they hold -/
/-- One cell each. -/
class OneC (cs : List Value) (α : outParam Type) (xs : outParam (List α)) (enc : outParam (α → Value)) : Prop where eq : cs = xs.map enc
instance onec_ints (xs : List Int) : OneC (ints xs) Int xs (Value.int .i64) := ⟨rfl⟩
instance onec_map {α : Type} (xs : List α) (enc : α → Value) : OneC (xs.map enc) α xs enc := ⟨rfl⟩
/-- Several cells each. -/
class FlatC (cs : List Value) (sz : Nat) (α : outParam Type) (xs : outParam (List α)) (enc : outParam (α → List Value)) : Prop where eq : cs = xs.flatMap enc ∧ ∀ x, (enc x).length = sz
section
variable {P : Program} {r : Option Nat} {N : Nat} {S T : Nat → Prop} {τ : Tau} {w : World} {ty : TypeId} {v : Value} {α : Type} {A : Option Addr} {cs : List Value} {sz : Nat} {xs : List α}
theorem onec_get {enc : α → Value} [h : OneC cs α xs enc] {k : Nat} (hk : k < xs.length) : cs[k]? = some (enc xs[k]) := by rw [h.eq]; simp [hk]
theorem v_indexO {enc : α → Value} {x y : Operand} {t e : TypeId} {bytes : Nat} {z : Value} {n c : Nat} {i : Int} (k : Nat) [hx : EvO N τ x (.slice A n c)] [hy : EvO N τ y (.int .i64 i)] [hu : Und P t (.slice e)] [hi : Inf P e 1 bytes z]
    [hr : Row w A cs] [ho : OneC cs α xs enc] (hk : i = (k : Int)) (hn : k < n) (hx2 : k < xs.length) : Val P r N S (.indexAddr t x y) ty τ w (padd A (k * 1)) :=
  v_indexAddr k hk hn (row_some hr (by rw [ho.eq]; simp; omega))
theorem v_indexF {enc : α → List Value} {x y : Operand} {t e : TypeId} {bytes : Nat} {z : Value} {n c : Nat} {i : Int} (k : Nat) [hx : EvO N τ x (.slice A n c)] [hy : EvO N τ y (.int .i64 i)] [hu : Und P t (.slice e)] [hi : Inf P e sz bytes z]
    [hr : Row w A cs] [ho : FlatC cs sz α xs enc] (hpos : 0 < sz) (hk : i = (k : Int)) (hn : k < n) (hx2 : k < xs.length) : Val P r N S (.indexAddr t x y) ty τ w (padd A (k * sz)) :=
  v_indexAddr k hk hn (row_some hr (by rw [ho.eq.1, flat_len ho.eq.2]; exact Nat.mul_pos (by omega) hpos))
theorem v_fieldAddrF {enc : α → List Value} {x : Operand} {s : TypeId} {f off : Nat} {t : TypeId} {k j' : Nat} [hx : EvO N τ x (padd A (k * sz))] [hf : Fld P s f off t] [ha : AddN (k * sz) off j'] [hr : Row w A cs] [ho : FlatC cs sz α xs enc] (hpos : 0 < sz) (hk : k < xs.length) : Val P r N S (.fieldAddr s x f) ty τ w (padd A j') :=
  v_fieldAddrR (row_some hr (by rw [ho.eq.1, flat_len ho.eq.2]; exact Nat.mul_pos (by omega) hpos))
theorem v_loadO {enc : α → Value} {x : Operand} {t : TypeId} {k : Nat} [hx : EvO N τ x (padd A (k * 1))] [ht : One P t] [hr : Row w A cs] [ho : OneC cs α xs enc] [hs : RowOut S A] (hk : k < xs.length) : Val P r N S (.load t x) ty τ w (enc xs[k]) :=
  v_loadR (by rw [Nat.mul_one]; exact onec_get hk)
theorem v_loadF {enc : α → List Value} {x : Operand} {t : TypeId} {k : Nat} [hx : EvO N τ x (padd A (k * sz))] [ht : Many P t sz] [hr : Row w A cs] [ho : FlatC cs sz α xs enc] [hs : RowOut S A] (hpos : 0 < sz) (hk : k < xs.length) : Val P r N S (.load t x) ty τ w (.agg (enc xs[k]).toArray) :=
  v_loadRA (vs := enc xs[k]) (ho.eq.2 _) (row_some hr (by rw [ho.eq.1, flat_len ho.eq.2]; exact Nat.mul_pos (by omega) hpos)) (by rw [ho.eq.1]; exact flat_get ho.eq.2 xs k hk)
theorem v_loadFf {enc : α → List Value} {x : Operand} {t : TypeId} {k off : Nat} [hx : EvO N τ x (padd A (k * sz + off))] [ht : One P t] [hr : Row w A cs] [ho : FlatC cs sz α xs enc] [hs : RowOut S A] (hk : k < xs.length) [hg : CsGet (enc xs[k]).toArray off v] : Val P r N S (.load t x) ty τ w v :=
  v_loadR (by rw [ho.eq.1]; exact flat_get ho.eq.2 xs k hk off v (by have := hg.eq; simpa using this))
theorem v_loadF0 {enc : α → List Value} {x : Operand} {t : TypeId} {k : Nat} [hx : EvO N τ x (padd A (k * sz))] [ht : One P t] [hr : Row w A cs] [ho : FlatC cs sz α xs enc] [hs : RowOut S A] (hk : k < xs.length) [hg : CsGet (enc xs[k]).toArray 0 v] : Val P r N S (.load t x) ty τ w v :=
  v_loadR (by rw [ho.eq.1]; have := flat_get ho.eq.2 xs k hk 0 v (by have := hg.eq; simpa using this); simpa using this)
end

/-! ### rows that lie in F -/
structure FRow (w : World) (F : Nat → Prop) (A : Option Addr) (cs : List Value) : Prop where
  row : RowP w A cs
  blk : ∀ a, A = some a → F a.block
theorem FRow.keep {w w' : World} {F S : Nat → Prop} {A : Option Addr} {cs : List Value} (h : FRow w F A cs) (hk : Keep S w w') (hs : ∀ k, F k → ¬ S k) : FRow w' F A cs :=
  ⟨h.row.keep hk (fun a ha => hs _ (h.blk a ha)), h.blk⟩
theorem FRow.mono {w : World} {F G : Nat → Prop} {A : Option Addr} {cs : List Value} (h : FRow w F A cs) (hs : ∀ k, F k → G k) : FRow w G A cs := ⟨h.row, fun a ha => hs _ (h.blk a ha)⟩
theorem FRow.out {w : World} {F S : Nat → Prop} {A : Option Addr} {cs : List Value} (h : FRow w F A cs) (hs : ∀ k, F k → ¬ S k) : RowOut S A := ⟨fun a ha => hs _ (h.blk a ha)⟩
theorem FRow.nil (w : World) (F : Nat → Prop) : FRow w F none [] := ⟨fun j v h => by simp at h, fun a h => by cases h⟩
theorem FRow.of_own {w : World} {base : Nat} {e : TypeId} {sz n m c : Nat} {A : Option Addr} {xs : List Value} (h : w.ownsRow base e sz (.slice A n c) m xs) : FRow w (OwnB (.slice A n c)) A xs := by
  obtain ⟨A', cap, he, hb, _, hr⟩ := ownsRow_form h
  cases he
  exact ⟨hr, fun a ha => by subst ha; rfl⟩
theorem FRow.of_blk {w : World} {F : Nat → Prop} {b : Nat} {cs : List Value} {e : TypeId} {fr : Nat × Nat} (h : w.heap[b]? = some (.cells cs.toArray e fr)) (hF : F b) : FRow w F (some ⟨b, 0, none⟩) cs := ⟨row_blk h, fun a ha => by cases ha; exact hF⟩
theorem FRow.nil_any {w : World} {F : Nat → Prop} {A : Option Addr} (h : ∀ a, A = some a → F a.block) : FRow w F A [] := ⟨fun j v h => by simp at h, h⟩
/-- All of it was there at w0. -/
class OldA (w0 : World) (A : Option Addr) : Prop where lt : ∀ a, A = some a → a.block < w0.heap.size
theorem FRow.old {w : World} {F : Nat → Prop} {A : Option Addr} {cs : List Value} (h : FRow w F A cs) (hl : ∀ k, F k → k < w.heap.size) : OldA w A := ⟨fun a ha => hl _ (h.blk a ha)⟩
instance rowOut_oldOwn (V : Value) (w0 : World) (A : Option Addr) [h : OwnA V w0] [k : OldA w0 A] : RowOut (OwnB V) A := ⟨fun a ha e => by
  have h1 := h.le _ (Eq.symm e)
  have h2 := k.lt a ha
  omega⟩
instance rowOut_oldNew (w : World) (A : Option Addr) [k : OldA w A] : RowOut (NewS w) A := ⟨fun a ha e => by
  have h2 := k.lt a ha
  have h1 : w.heap.size ≤ a.block := e
  omega⟩
instance rowOut_oldOne (w : World) (b : Nat) (A : Option Addr) [h : New b w] [k : OldA w A] : RowOut (OneB b) A := ⟨fun a ha e => by
  have h2 := k.lt a ha
  have h1 : a.block = b := e
  have h3 := h.eq
  omega⟩
instance (priority := low) oldA_lk (w' w : World) (S : Nat → Prop) (A : Option Addr) [l : Lk w' w S] [k : OldA w A] : OldA w' A := ⟨fun a ha => Nat.lt_of_lt_of_le (k.lt a ha) l.keep.size⟩
/-- A slice whose elements lie in F. -/
def SlR (w : World) (F : Nat → Prop) (sz : Nat) (v : Value) (xs : List Value) : Prop := ∃ A n c, v = .slice A n c ∧ xs.length = n * sz ∧ FRow w F A xs
theorem SlR.keep {w w' : World} {F S : Nat → Prop} {sz : Nat} {v : Value} {xs : List Value} (h : SlR w F sz v xs) (hk : Keep S w w') (hs : ∀ k, F k → ¬ S k) : SlR w' F sz v xs := by
  obtain ⟨A, n, c, h1, h2, h3⟩ := h
  exact ⟨A, n, c, h1, h2, h3.keep hk hs⟩
theorem SlR.mono {w : World} {F G : Nat → Prop} {sz : Nat} {v : Value} {xs : List Value} (h : SlR w F sz v xs) (hs : ∀ k, F k → G k) : SlR w G sz v xs := by
  obtain ⟨A, n, c, h1, h2, h3⟩ := h
  exact ⟨A, n, c, h1, h2, h3.mono hs⟩
/-- Several of them. -/
structure SlRs (w : World) (F : Nat → Prop) (sz : Nat) (vs : List Value) (xss : List (List Value)) : Prop where
  len : vs.length = xss.length
  at_ : ∀ (i : Nat) (h : i < vs.length) (h' : i < xss.length), SlR w F sz vs[i] xss[i]
theorem SlRs.keep {w w' : World} {F S : Nat → Prop} {sz : Nat} {vs : List Value} {xss : List (List Value)} (h : SlRs w F sz vs xss) (hk : Keep S w w') (hs : ∀ k, F k → ¬ S k) : SlRs w' F sz vs xss := ⟨h.len, fun i a b => (h.at_ i a b).keep hk hs⟩
theorem SlRs.mono {w : World} {F G : Nat → Prop} {sz : Nat} {vs : List Value} {xss : List (List Value)} (h : SlRs w F sz vs xss) (hs : ∀ k, F k → G k) : SlRs w G sz vs xss := ⟨h.len, fun i a b => (h.at_ i a b).mono hs⟩
theorem SlRs.set {w : World} {F : Nat → Prop} {sz : Nat} {vs : List Value} {xss : List (List Value)} (h : SlRs w F sz vs xss) (k : Nat) {v : Value} {xs : List Value} (hv : SlR w F sz v xs) : SlRs w F sz (vs.set k v) (xss.set k xs) :=
  ⟨by simp [h.len], fun i a b => by
    rw [List.getElem_set, List.getElem_set]
    split
    · exact hv
    · exact h.at_ i (by simpa using a) (by simpa using b)⟩
theorem SlRs.nils (w : World) (F : Nat → Prop) (sz n : Nat) : SlRs w F sz (List.replicate n (.slice none 0 0)) (List.replicate n []) :=
  ⟨by simp, fun i a b => by simp; exact ⟨none, 0, 0, rfl, by simp, FRow.nil _ _⟩⟩
theorem ownB_lt {w : World} {base : Nat} {e : TypeId} {sz n : Nat} {v : Value} {xs : List Value} (h : w.ownsRow base e sz v n xs) : ∀ k, OwnB v k → base ≤ k ∧ k < w.heap.size := fun k hk => h.lt k hk.symm

/-! ### slices of the call's own, carried along -/
/-- A's block was new at w0. -/
class NewA (A : Option Addr) (w0 : outParam World) : Prop where le : ∀ a, A = some a → w0.heap.size ≤ a.block
instance ownA_newA (A : Option Addr) (n c : Nat) (w0 : World) [h : NewA A w0] : OwnA (.slice A n c) w0 := ⟨fun k hk => by
  cases A with
  | none => cases hk
  | some a => cases hk; exact h.le a rfl⟩
theorem newA_of {w w0 : World} {base : Nat} {e : TypeId} {sz m n c : Nat} {A : Option Addr} {xs : List Value} (h : w.ownsRow base e sz (.slice A m c) n xs) (hb : w0.heap.size ≤ base) : NewA A w0 := ⟨fun a ha => by subst ha; exact Nat.le_trans hb (h.lt _ rfl).1⟩
instance newA_new (b o : Nat) (s : Option Nat) (w0 : World) [h : New b w0] : NewA (some ⟨b, o, s⟩) w0 := ⟨fun a ha => by cases ha; exact Nat.le_of_eq h.eq.symm⟩
instance rowOut_newOne (A : Option Addr) (w0 : World) (b : Nat) [h : NewA A w0] [k : Has w0 b] : RowOut (OneB b) A := ⟨fun a ha e => by
  have h1 := h.le a ha
  have h2 := k.lt
  have h3 : a.block = b := e
  omega⟩
instance rowOut_newOwn (A B : Option Addr) (w0 : World) (n c : Nat) [h : NewA A w0] [k : OldA w0 B] : RowOut (OwnB (.slice B n c)) A := ⟨fun a ha e => by
  cases B with
  | none => cases e
  | some b =>
    have h1 := h.le a ha
    have h2 := k.lt b rfl
    have h3 : some a.block = some b.block := e
    injection h3 with h3
    omega⟩
class OwnI (w : World) (A : Option Addr) (m c base : outParam Nat) (e : outParam TypeId) (sz n : outParam Nat) (xs : outParam (List Value)) : Prop where own : w.ownsRow base e sz (.slice A m c) n xs
instance ownI_lk (w' w : World) (S : Nat → Prop) (A : Option Addr) (m c base : Nat) (e : TypeId) (sz n : Nat) (xs : List Value) [l : Lk w' w S] [h : OwnI w A m c base e sz n xs] [d : RowOut S A] : OwnI w' A m c base e sz n xs := ⟨own_keep h.own l.keep (fun k hk => by
  cases A with
  | none => cases hk
  | some a => cases hk; exact d.out a rfl)⟩
instance (priority := low) row_ownI (w : World) (A : Option Addr) (m c base : Nat) (e : TypeId) (sz n : Nat) (xs : List Value) [h : OwnI w A m c base e sz n xs] : Row w A xs := ⟨by
  obtain ⟨A', cap, he, _, _, hr⟩ := ownsRow_form h.own
  cases he
  exact hr⟩
instance (priority := low) oldA_ownI (w : World) (A : Option Addr) (m c base : Nat) (e : TypeId) (sz n : Nat) (xs : List Value) [h : OwnI w A m c base e sz n xs] : OldA w A := ⟨fun a ha => by subst ha; exact (h.own.lt _ rfl).2⟩

/-! ### append, told by instances -/
class LenC (vs : List Value) (n : outParam Nat) : Prop where eq : vs.length = n
instance lenC_lit (vs : List Value) (n : Nat) [h : LenL vs n] : LenC vs n := ⟨h.eq⟩
instance (priority := low) lenC_one (cs : List Value) (α : Type) (xs : List α) (enc : α → Value) [h : OneC cs α xs enc] : LenC cs xs.length := ⟨by rw [h.eq]; simp⟩
instance lenC_ints (xs : List Int) : LenC (ints xs) xs.length := ⟨ints_len xs⟩
instance lenC_map {α : Type} (xs : List α) (enc : α → Value) : LenC (xs.map enc) xs.length := ⟨by simp⟩
/-- How many cells an element has. -/
class EncN {α : Type} (enc : α → List Value) (sz : outParam Nat) : Prop where eq : ∀ x, (enc x).length = sz
instance lenC_flat {α : Type} (xs : List α) (enc : α → List Value) (sz : Nat) [h : EncN enc sz] : LenC (xs.flatMap enc) (xs.length * sz) := ⟨flat_len h.eq xs⟩
instance flatC_enc {α : Type} (xs : List α) (enc : α → List Value) (sz : Nat) [h : EncN enc sz] : FlatC (xs.flatMap enc) sz α xs enc := ⟨rfl, h.eq⟩
instance cell1l_ints (xs : List Int) : Cell1L (ints xs) := ⟨ints_one xs⟩
instance cell1l_flat {α : Type} (xs : List α) (enc : α → List Value) [h : ∀ x, Cell1L (enc x)] : Cell1L (xs.flatMap enc) := ⟨fun u hu => by
  obtain ⟨x, _, hx⟩ := List.mem_flatMap.1 hu
  exact (h x).eq u hx⟩
instance cell1l_map {α : Type} (xs : List α) (enc : α → Value) [h : ∀ x, Cell1 (enc x)] : Cell1L (xs.map enc) := ⟨fun u hu => by
  obtain ⟨x, _, rfl⟩ := List.mem_map.1 hu
  exact (h x).eq⟩
/-- A' is where A was, or new at w. -/
class FromA (A' : Option Addr) (A : outParam (Option Addr)) (w : outParam World) : Prop where or : ∀ a', A' = some a' → (∃ a, A = some a ∧ a'.block = a.block) ∨ a'.block = w.heap.size
/-- In no common block. -/
class ApA (A B : Option Addr) : Prop where ne : ∀ a b, A = some a → B = some b → a.block ≠ b.block
theorem ApA.symm {A B : Option Addr} (h : ApA A B) : ApA B A := ⟨fun a b ha hb e => h.ne b a hb ha e.symm⟩
instance apA_none (B : Option Addr) : ApA none B := ⟨fun a b h => by cases h⟩
instance apA_none' (A : Option Addr) : ApA A none := ⟨fun a b _ h => by cases h⟩
instance apA_from (A' A B : Option Addr) (w : World) [f : FromA A' A w] [h : ApA A B] [o : OldA w B] : ApA A' B := ⟨fun a b ha hb e => by
  rcases f.or a ha with ⟨c, hc, e2⟩ | e2
  · exact h.ne c b hc hb (e2.symm.trans e)
  · have := o.lt b hb; omega⟩
instance apA_from' (A' A B : Option Addr) (w : World) [f : FromA A' A w] [h : ApA B A] [o : OldA w B] : ApA B A' := ⟨fun b a hb ha e => by
  rcases f.or a ha with ⟨c, hc, e2⟩ | e2
  · exact h.ne b c hb hc (e.trans e2)
  · have := o.lt b hb; omega⟩
instance (priority := low) apA_newold (A B : Option Addr) (w0 : World) [h : NewA A w0] [o : OldA w0 B] : ApA A B := ⟨fun a b ha hb e => by
  have h1 := h.le a ha; have h2 := o.lt b hb; omega⟩
instance (priority := low) apA_oldnew (A B : Option Addr) (w0 : World) [h : NewA B w0] [o : OldA w0 A] : ApA A B := ⟨fun a b ha hb e => by
  have h1 := h.le b hb; have h2 := o.lt a ha; omega⟩
instance rowOut_ap (A B : Option Addr) (n c : Nat) [h : ApA A B] : RowOut (OwnB (.slice A n c)) B := ⟨fun b hb e => by
  cases A with
  | none => cases e
  | some a =>
    have h3 : some b.block = some a.block := e
    injection h3 with h3
    exact h.ne a b rfl hb h3.symm⟩
section
variable {P : Program} {N : Nat} {τ : Tau} {w : World} {ty t e : TypeId} {x y : Operand} {sz bytes n m c c0 k L base : Nat} {z : Value} {zc : Array Value} {A A0 : Option Addr} {xs news ys : List Value} {G : Value → World → Prop}
theorem isSome_of_len (hr : RowP w A news) (hl : news.length = m * sz) (hpos : 0 < sz) : A.isSome = true ∨ m = 0 := by
  rcases Nat.eq_zero_or_pos m with h | h
  · exact .inr h
  · exact .inl (row_some ⟨hr⟩ (by rw [hl]; exact Nat.mul_pos h hpos))
theorem from_own {A' : Option Addr} {n' c' : Nat} (h : (Value.slice A' n' c').ownBlock = (Value.slice A0 n c0).ownBlock ∨ (Value.slice A' n' c').ownBlock = some w.heap.size) : FromA A' A0 w := ⟨fun a' ha => by
  subst ha
  rcases h with h | h
  · cases A0 with
    | none => cases h
    | some a => exact .inl ⟨a, rfl, by have h' : some a'.block = some a.block := h; injection h'⟩
  · exact .inr (by have h' : some a'.block = some w.heap.size := h; injection h')⟩
theorem e_app [hx : EvO N τ x (.slice A0 n c0)] [hy : EvO N τ y (.slice A m c)] [hu : Und P t (.slice e)] [hi : Inf P e sz bytes z] [hz : Cells z zc] [hzs : Siz zc sz] [hrow : Row w A news] [hown : OwnI w A0 n c0 base e sz n xs] {w0 : World} [hnew : NewA A0 w0] [hge : Ge w w0] [hk : AddN n m k] [ha : App xs news ys] [hc1 : Cell1L news] [hL : LenC news L]
    (hl : L = m * sz) (hpos : 0 < sz) (h63 : n + m ≤ 4294967296) (hbytes : (n + m) * bytes ≤ 140737488355328) (hbase : base ≤ w.heap.size)
    (h : ∀ (A' : Option Addr) (c' : Nat) (w' : World), OwnI w' A' k c' base e sz k ys → Lk w' w (OwnB (.slice A0 n c0)) → NewA A' w0 → FromA A' A0 w → G (.slice A' k c') w') :
    EffV P N (OwnB (.slice A0 n c0)) (.call { callee := .builtin .append, args := #[x, y], argTypes := #[t, t] }) ty τ w G := by
  have hl2 : news.length = m * sz := hL.eq.trans hl
  refine e_append' hown.own hbase hl2 hc1.eq hpos (isSome_of_len hrow.row hl2 hpos) h63 hbytes ?_
  intro A' cap' w' ho lk hf
  have hfr := from_own (w := w) hf
  rw [hk.eq, ha.eq] at ho
  rw [hk.eq]
  refine h A' cap' w' ⟨ho⟩ lk ⟨fun a' ha' => ?_⟩ hfr
  rcases hfr.or a' ha' with ⟨b, hb, e2⟩ | e2
  · rw [e2]; exact hnew.le b hb
  · rw [e2]; exact hge.le
theorem e_appN [hx : EvO N τ x (.slice none 0 0)] [hy : EvO N τ y (.slice A m c)] [hu : Und P t (.slice e)] [hi : Inf P e sz bytes z] [hz : Cells z zc] [hzs : Siz zc sz] [hrow : Row w A news] [hc1 : Cell1L news] [hL : LenC news L]
    (hl : L = m * sz) (hpos : 0 < sz) (h63 : m ≤ 4294967296) (hbytes : m * bytes ≤ 140737488355328)
    (h : ∀ (A' : Option Addr) (c' : Nat) (w' : World), OwnI w' A' m c' w.heap.size e sz m news → Lk w' w (OwnB (.slice none 0 0)) → NewA A' w → FromA A' none w → G (.slice A' m c') w') :
    EffV P N (OwnB (.slice none 0 0)) (.call { callee := .builtin .append, args := #[x, y], argTypes := #[t, t] }) ty τ w G := by
  have hl2 : news.length = m * sz := hL.eq.trans hl
  refine e_append' (World.ownsRow_nil _ _ _ _) (Nat.le_refl _) hl2 hc1.eq hpos (isSome_of_len hrow.row hl2 hpos) (by omega) (by rw [Nat.zero_add]; exact hbytes) ?_
  intro A' cap' w' ho lk hf
  have hfr := from_own (w := w) hf
  rw [Nat.zero_add, List.nil_append] at ho
  rw [Nat.zero_add]
  exact h A' cap' w' ⟨ho⟩ lk (newA_of ho (Nat.le_refl _)) hfr
theorem e_appE {b : Nat} [hx : EvO N τ x (.slice (some ⟨b, 0, none⟩) 0 0)] [hy : EvO N τ y (.slice A m c)] [hu : Und P t (.slice e)] [hi : Inf P e sz bytes z] [hz : Cells z zc] [hzs : Siz zc sz] [hb : Blk w b (.cells #[] e (0, 0))] {w0 : World} [hnew : New b w0] [hge : Ge w w0] [hrow : Row w A news] [hc1 : Cell1L news] [hL : LenC news L]
    (hl : L = m * sz) (hpos : 0 < sz) (h63 : m ≤ 4294967296) (hbytes : m * bytes ≤ 140737488355328)
    (h : ∀ (A' : Option Addr) (c' : Nat) (w' : World), OwnI w' A' m c' w0.heap.size e sz m news → Lk w' w (OwnB (.slice (some ⟨b, 0, none⟩) 0 0)) → NewA A' w0 → FromA A' (some ⟨b, 0, none⟩) w → G (.slice A' m c') w') :
    EffV P N (OwnB (.slice (some ⟨b, 0, none⟩) 0 0)) (.call { callee := .builtin .append, args := #[x, y], argTypes := #[t, t] }) ty τ w G := by
  have hl2 : news.length = m * sz := hL.eq.trans hl
  have ho0 : w.ownsRow w0.heap.size e sz (.slice (some ⟨b, 0, none⟩) 0 0) 0 [] := ownsRow_blk (Nat.le_of_eq hnew.eq.symm) hb.eq (by simp) (by omega)
  refine e_append' ho0 hge.le hl2 hc1.eq hpos (isSome_of_len hrow.row hl2 hpos) (by omega) (by rw [Nat.zero_add]; exact hbytes) ?_
  intro A' cap' w' ho lk hf
  have hfr := from_own (w := w) hf
  rw [Nat.zero_add, List.nil_append] at ho
  rw [Nat.zero_add]
  exact h A' cap' w' ⟨ho⟩ lk (newA_of ho (Nat.le_refl _)) hfr
end
instance (priority := low) app_any (a b : List Value) : App a b (a ++ b) := ⟨rfl⟩

/-! ### footprints, told by instances -/
class FLt (F : Nat → Prop) (w : outParam World) : Prop where lt : ∀ k, F k → k < w.heap.size
instance (priority := low) notS_flt (F : Nat → Prop) (b : Nat) (w0 w1 : World) [h : FLt F w0] [n : New b w1] [g : Ge w1 w0] : NotS F b := ⟨fun e => by
  have h1 := h.lt b e
  have h2 := n.eq
  have h3 := g.le
  omega⟩
instance (priority := low) rowOut_flt (F : Nat → Prop) (A : Option Addr) (w0 w1 : World) [h : FLt F w0] [n : NewA A w1] [g : Ge w1 w0] : RowOut F A := ⟨fun a ha e => by
  have h1 := h.lt _ e
  have h2 := n.le a ha
  have h3 := g.le
  omega⟩
instance (priority := low) subS_orl (T S U : Nat → Prop) [h : SubS T S] : SubS T (fun k => S k ∨ U k) := ⟨fun k e => .inl (h.sub k e)⟩
instance (priority := low) subS_orr (T S U : Nat → Prop) [h : SubS T U] : SubS T (fun k => S k ∨ U k) := ⟨fun k e => .inr (h.sub k e)⟩
instance (priority := low) subF_orl (T S U : Nat → Prop) (w : World) [h : SubF T S w] : SubF T (fun k => S k ∨ U k) w := ⟨fun k hk e => .inl (h.sub k hk e)⟩
instance (priority := low) subF_orr (T S U : Nat → Prop) (w : World) [h : SubF T U w] : SubF T (fun k => S k ∨ U k) w := ⟨fun k hk e => .inr (h.sub k hk e)⟩
instance rowOut_or (S T : Nat → Prop) (A : Option Addr) [h : RowOut S A] [k : RowOut T A] : RowOut (fun i => S i ∨ T i) A := ⟨fun a ha e => e.elim (h.out a ha) (k.out a ha)⟩
instance (priority := low) subF_newS (w0 w : World) (b : Nat) [h : New b w0] [g : Ge w0 w] : SubF (OneB b) (NewS w) w0 := ⟨fun k _ e => by
  have h1 := h.eq
  have h2 := g.le
  have h3 : k = b := e
  show w.heap.size ≤ k
  omega⟩
end Go.Wst
