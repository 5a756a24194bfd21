/-
  The walk's own calculus, eleventh part: rows written out of several cells each, stores into rows. No program is named here.
-/
import Derived.Test.YtnjpladlfiaojaaXj
set_option linter.all false
namespace Go.Wst
theorem setL_map {α : Type} (enc : α → Value) (xs : List α) (k : Nat) (x : α) (h : k < xs.length) : setL (xs.map enc) (k * 1) [enc x] = (xs.set k x).map enc := by
  have := flat_set (enc := fun a => [enc a]) (fun _ => rfl) xs k x h
  have e : ∀ l : List α, l.flatMap (fun a => [enc a]) = l.map enc := fun l => by induction l with
    | nil => rfl
    | cons a l ih => rw [List.flatMap_cons, ih]; rfl
  rw [e, e] at this
  exact this
/-- Of a row of the call's own, the first part. -/
theorem own_front {w : World} {base n m c : Nat} {e : TypeId} {A : Option Addr} {xs ys : List Value} (h : w.ownsRow base e 1 (.slice A n c) n (xs ++ ys)) (hm : xs.length = m) (hpos : A.isSome = true) : w.ownsRow base e 1 (.slice A m c) m xs := by
  have hl := h.1
  rcases h.2 with ⟨h1, h2⟩ | ⟨g, cap, cur, h1, h2, h3, h4, h5, h6, h7⟩
  · cases h1; cases hpos
  · cases h1
    refine ⟨by omega, .inr ⟨g, c, cur, rfl, h2, h3, by simp at hl; omega, h5, h6, ?_⟩⟩
    have h8 := congrArg (List.take m) h7
    rw [List.take_take, List.take_left' hm] at h8
    rw [← h8]
    congr 1
    simp at hl
    omega
/-- The elements of a slice that is written out: several cells each. -/
class ZipM (sz s : Nat) (l : List (Nat × Value)) (vss : outParam (List (Value × List Value))) : Prop where eq : l = (vss.zipIdx s).map (fun p => (p.2, p.1.1)) ∧ ∀ p ∈ vss, p.1.cells = p.2.toArray ∧ p.2.length = sz
instance zipM_nil (sz s : Nat) : ZipM sz s [] [] := ⟨rfl, by simp⟩
instance zipM_cons (sz s i : Nat) (v : Value) (vs : List Value) (l : List (Nat × Value)) (vss : List (Value × List Value)) [h : EqN i s] [h1 : Cells v vs.toArray] [h2 : LenL vs sz] [k : ZipM sz (s + 1) l vss] : ZipM sz s ((i, v) :: l) ((v, vs) :: vss) := ⟨by rw [h.eq, k.eq.1]; rfl, by
  intro u hu
  rcases List.mem_cons.1 hu with rfl | hu
  · exact ⟨h1.eq, h2.eq⟩
  · exact k.eq.2 u hu⟩
theorem setMany_len : ∀ (l : List Value) (cs : Array Value) (o : Nat), (setMany cs o l).size = cs.size
  | [], _, _ => rfl
  | a :: l, cs, o => by rw [setMany, setMany_len l]; simp
theorem setMany_app : ∀ (a b : List Value) (cs : Array Value) (o : Nat), setMany cs o (a ++ b) = setMany (setMany cs o a) (o + a.length) b
  | [], b, cs, o => by simp [setMany]
  | x :: a, b, cs, o => by
    rw [List.cons_append, setMany, setMany, setMany_app a b, List.length_cons, Nat.add_assoc, Nat.add_comm 1]
theorem fill_flat (sz : Nat) : ∀ (vss : List (Value × List Value)) (s : Nat) (cs : Array Value), s * sz + vss.length * sz ≤ cs.size → (∀ p ∈ vss, p.1.cells = p.2.toArray ∧ p.2.length = sz) → Instr.fill (fun j => some (j * sz, sz)) cs ((vss.zipIdx s).map (fun p => (p.2, p.1.1))) = some (setMany cs (s * sz) (vss.flatMap (·.2)))
  | [], _, cs, _, _ => rfl
  | p :: vss, s, cs, h, h1 => by
    obtain ⟨e1, e2⟩ := h1 p (List.mem_cons_self ..)
    have h2 : s * sz + (vss.length + 1) * sz ≤ cs.size := by simpa using h
    rw [Nat.add_mul, Nat.one_mul] at h2
    rw [List.zipIdx_cons, List.map_cons, fill_cons (cs := cs) (vs := p.2) (off := s * sz) (sz := sz) rfl e1 e2 (by omega)]
    rw [fill_flat sz vss (s + 1) _ (by rw [setMany_len, Nat.add_mul, Nat.one_mul]; omega) (fun u hu => h1 u (List.mem_cons_of_mem _ hu)), List.flatMap_cons, setMany_app, e2, Nat.add_mul, Nat.one_mul]
theorem flatM_len {sz : Nat} : ∀ {vss : List (Value × List Value)}, (∀ p ∈ vss, p.1.cells = p.2.toArray ∧ p.2.length = sz) → (vss.flatMap (·.2)).length = vss.length * sz
  | [], _ => by simp
  | p :: l, h => by rw [List.flatMap_cons, List.length_append, (h p (List.mem_cons_self ..)).2, flatM_len (fun q hq => h q (List.mem_cons_of_mem _ hq)), List.length_cons, Nat.add_mul, Nat.one_mul, Nat.add_comm]
theorem e_buildSliceM {N : Nat} {τ : Tau} {w : World} {P : Program} {ty t e : TypeId} {parts : List (Nat × Operand)} {vsI : List (Nat × Value)} {vss : List (Value × List Value)} {vs : List Value} {sz bytes m : Nat} {z : Value} {G : Value → World → Prop} [hv : EvP N τ parts vsI] [hu : Und P t (.slice e)] [hi : Inf P e sz bytes z] [hzp : ZipM sz 0 vsI vss] (hpos : (Nat.ble 1 (m * sz) && Nat.ble (m * sz) 1000) = true) (hm : vss.length = m) (hvs : vs = vss.flatMap (·.2))
    (h : ∀ (b : Nat) (w' : World), New b w → Lk w' w NoB → Blk w' b (.cells vs.toArray e (0, 0)) → G (.slice (some ⟨b, 0, none⟩) m m) w') : EffV P N NoB (.buildSlice t m parts.toArray) ty τ w G := by
  obtain ⟨i, h5, h6, h7, h8⟩ := hi.ex
  subst h6; subst hm; subst hvs
  simp only [Bool.and_eq_true, Nat.ble_eq] at hpos
  obtain ⟨h1, h2, h3⟩ := new_blk (w := w) (.cells (vss.flatMap (·.2)).toArray e)
  have hfl := flatM_len hzp.eq.2
  refine ⟨fun _ => nofun, _, _, ?_, h2.keep, h _ _ h1 h2 h3⟩
  have hfill : Instr.fill (fun j => some (j * i.size, i.size)) ((Array.range (vss.length * i.size)).map (z.cells[· % z.cells.size]!)) vsI = some (vss.flatMap (·.2)).toArray := by
    rw [hzp.eq.1, fill_flat i.size vss 0 _ (by simp) hzp.eq.2]
    congr 1
    have := setMany_all (vss.flatMap (·.2)) [] ((Array.range (vss.length * i.size)).map (z.cells[· % z.cells.size]!)) (by simp [hfl]) (by simp)
    simpa using this
  have hb := Go.run_buildSlice (P := P) w t e vss.length vsI.toArray (vss.flatMap (·.2)).toArray i z hu.eq h5 h8 (by omega) (by omega) (by simpa using hfill)
  have e1 : (parts.toArray.map fun (x : Nat × Operand) => (x.1, evO N τ x.2)) = vsI.toArray := by simp [hv.eq]
  simp only [execOp, Sem.run_bind, e1, hb, Result.andThen_ok, Sem.run_pure]
/-- A store of one cell of an element. -/
theorem flat_setF {α : Type} {enc : α → List Value} {sz : Nat} (hsz : ∀ x, (enc x).length = sz) : ∀ (xs : List α) (k o : Nat) (y : α) (vs : List Value) (h : k < xs.length), o + vs.length ≤ sz → setL (enc xs[k]) o vs = enc y → setL (xs.flatMap enc) (k * sz + o) vs = (xs.set k y).flatMap enc := by
  intro xs k o y vs h ho he
  have h1 := flat_set hsz xs k y h
  rw [← h1]
  have hlen := flat_len (enc := enc) (sz := sz) hsz xs
  have hk : k * sz + sz ≤ (xs.flatMap enc).length := by
    rw [hlen]
    have : (k + 1) * sz ≤ xs.length * sz := Nat.mul_le_mul_right sz h
    rw [Nat.add_mul, Nat.one_mul] at this
    exact this
  rw [← he]
  unfold setL
  have hx : enc xs[k] = ((xs.flatMap enc).drop (k * sz)).take sz := by
    apply List.ext_getElem?
    intro i
    by_cases hi : i < sz
    · rw [List.getElem?_take_of_lt hi, List.getElem?_drop]
      have hlt : i < (enc xs[k]).length := by rw [hsz]; exact hi
      rw [List.getElem?_eq_getElem hlt]
      exact (flat_get (enc := enc) hsz xs k h i _ (List.getElem?_eq_getElem hlt)).symm
    · rw [List.getElem?_eq_none (by rw [hsz]; omega), List.getElem?_eq_none (by simp; omega)]
  rw [hx]
  generalize hL : xs.flatMap enc = L
  rw [hL] at hk
  have e1 : L.take (k * sz + o) = L.take (k * sz) ++ (L.drop (k * sz)).take o := List.take_add
  rw [e1]
  simp only [List.append_assoc, List.length_append, List.length_take, List.length_drop]
  rw [List.take_take, Nat.min_eq_left (by omega)]
  congr 2
  congr 1
  rw [List.drop_take, List.drop_drop]
  have e2 : k * sz + (min (min sz (L.length - k * sz)) o + (vs.length + (min sz (L.length - k * sz) - (o + vs.length)))) = k * sz + sz := by omega
  have e3 : k * sz + (o + vs.length) = k * sz + o + vs.length := by omega
  have h4 : L.drop (k * sz + o + vs.length) = (L.drop (k * sz + o + vs.length)).take (sz - (o + vs.length)) ++ L.drop (k * sz + sz) := by
    have := List.take_append_drop (sz - (o + vs.length)) (L.drop (k * sz + o + vs.length))
    rw [List.drop_drop] at this
    rw [show k * sz + o + vs.length + (sz - (o + vs.length)) = k * sz + sz by omega] at this
    exact this.symm
  rw [h4, e3]
  congr 2
  omega
theorem cells_cell1 {v : Value} (h : v.oneCell' = true) : v.cells = [v].toArray := by
  cases v <;> first | rfl | (simp [Value.oneCell'] at h)
/-- A store into a field of an element of a row of the call's own. -/
theorem e_storeF {P : Program} {N : Nat} {τ : Tau} {w : World} {ty : TypeId} {v : Value} {α : Type} {enc : α → List Value} {t e : TypeId} {x y : Operand} {base sz n cap k o bytes : Nat} {z : Value} {A : Option Addr} {xs : List α} {G : World → Prop} [hx : EvO N τ x (padd A (k * sz + o))] [hy : EvO N τ y v] [h1 : Cell1 v] [hi : Inf P t 1 bytes z] [hown : OwnI w A n cap base e sz n (xs.flatMap enc)] [he : EncN enc sz] (u : α) (hk : k < xs.length) (hl : xs.length = n) (ho : o < sz) (hu : setL (enc xs[k]) o [v] = enc u) (h : ∀ w', Lk w' w (OwnB (.slice A n cap)) → OwnI w' A n cap base e sz n ((xs.set k u).flatMap enc) → G w') : EffS P N (OwnB (.slice A n cap)) (.store t x y) ty τ w G := by
  haveI : Cells v [v].toArray := ⟨cells_cell1 h1.eq⟩
  haveI : Cell1L [v] := inferInstance
  have hj : k * sz + o + 1 ≤ n * sz := by
    have : (k + 1) * sz ≤ n * sz := Nat.mul_le_mul_right sz (by omega)
    rw [Nat.add_mul, Nat.one_mul] at this
    omega
  refine e_storeOwn (m := 1) hown.own hj (by decide) fun w' lk ho' => h w' lk ⟨?_⟩
  rw [flat_setF he.eq xs k o u [v] hk (by simp; omega) hu] at ho'
  exact ho'
theorem e_storeF0 {P : Program} {N : Nat} {τ : Tau} {w : World} {ty : TypeId} {v : Value} {α : Type} {enc : α → List Value} {t e : TypeId} {x y : Operand} {base sz n cap k bytes : Nat} {z : Value} {A : Option Addr} {xs : List α} {G : World → Prop} [hx : EvO N τ x (padd A (k * sz))] [hy : EvO N τ y v] [h1 : Cell1 v] [hi : Inf P t 1 bytes z] [hown : OwnI w A n cap base e sz n (xs.flatMap enc)] [he : EncN enc sz] (u : α) (hk : k < xs.length) (hl : xs.length = n) (ho : 0 < sz) (hu : setL (enc xs[k]) 0 [v] = enc u) (h : ∀ w', Lk w' w (OwnB (.slice A n cap)) → OwnI w' A n cap base e sz n ((xs.set k u).flatMap enc) → G w') : EffS P N (OwnB (.slice A n cap)) (.store t x y) ty τ w G :=
  e_storeF (o := 0) (hx := hx) u hk hl ho hu h
theorem v_nilCheckR {P : Program} {r : Option Nat} {N : Nat} {S : Nat → Prop} {τ : Tau} {w : World} {ty : TypeId} {x : Operand} {A : Option Addr} {j : Nat} [hx : EvO N τ x (padd A j)] (hA : A.isSome = true) : Val P r N S (.nilCheck x) ty τ w (padd A j) := ⟨fun _ => nofun, fun W _ => by
  obtain ⟨a, rfl⟩ := Option.isSome_iff_exists.1 hA
  simp [execOp, hx.eq, padd]⟩
class ApB (A : Option Addr) (b : Nat) : Prop where ne : ∀ a, A = some a → a.block ≠ b
instance notS_apB (A : Option Addr) (n c b : Nat) [h : ApB A b] : NotS (OwnB (.slice A n c)) b := ⟨fun e => by
  cases A with
  | none => cases e
  | some a => have e' : some b = some a.block := e; injection e' with e'; exact h.ne a rfl e'.symm⟩
instance rowOut_apB (A : Option Addr) (b : Nat) [h : ApB A b] : RowOut (OneB b) A := ⟨fun a ha e => h.ne a ha e⟩
def NotP (P : Nat → Prop) : Nat → Prop := fun k => ¬ P k
/-! ### a scope with gotos that jump ahead to one label -/
def gl (l : Nat) (I : Tau → List Deferred → World → Prop) (Q : Post) : Post
  | .goto l', τ, ds, w => l' = l ∧ I τ ds w
  | e, τ, ds, w => Q e τ ds w
theorem x_goto {P : Program} {r : Option Nat} {N : Nat} {Q : Post} {τ : Tau} {ds : List Deferred} {w : World} {l : Nat} (h : Q (.goto l) τ ds w) : X P r N (.goto l) Q τ ds w := fun _ ha => wpIn_goto ⟨τ, ds, ha, h⟩
theorem x_scopeG {P : Program} {r : Option Nat} {N : Nat} {Q : Post} {τ : Tau} {ds : List Deferred} {w : World} {c rest : Code} {l : Nat} (I : Tau → List Deferred → World → Prop) (hl : findLabel c l = some rest) (h : X P r N c (gl l I Q) τ ds w) (hk : ∀ τ ds w, I τ ds w → X P r N rest (ng Q) τ ds w) : X P r N (.scope c) Q τ ds w := by
  intro a ha b k cs hro hb hr
  obtain ⟨e, a1, w1, ⟨t, d, hr1, hq⟩, harr⟩ := h a ha b (.inScope c :: k) cs hro hb hr
  have hs : StepsIn (Machine.fenced P (FX r)) P (lone (b.atR a (.code (.scope c) :: k)) cs w) (lone (b.atR a (.code c :: .inScope c :: k)) cs w) := .one (fenced_calm hb hr rfl) stepR_scope
  have fin : ∀ (m : Machine) (e : Exit) (a1 : Act) (w1 : World), StepsIn (Machine.fenced P (FX r)) P (lone (b.atR a (.code (.scope c) :: k)) cs w) m → lift N (ng Q) e a1 w1 → ArrivesIn (Machine.fenced P (FX r)) P m b (.inScope c :: k) cs e a1 w1 →
      ∃ e a' w', lift N Q e a' w' ∧ ArrivesIn (Machine.fenced P (FX r)) P (lone (b.atR a (.code (.scope c) :: k)) cs w) b k cs e a' w' := by
    rintro m e a1 w1 hs ⟨t, d, hr1, hq⟩ harr
    cases e with
    | normal => exact ⟨.normal, a1, w1, ⟨t, d, hr1, hq⟩, .of_steps hs (StepsIn.trans harr (.one (fenced_calm hb hr rfl) stepR_inScope))⟩
    | goto l => exact hq.elim
    | exit id =>
      have h2 : ArrivesIn (Machine.fenced P (FX r)) P m b k cs (.exit id) a1 w1 := ⟨fun k' hk => harr.1 k' (by simp [exitTo, hk]), fun hr hk => harr.2 hr (by simp [exitTo, hk])⟩
      exact ⟨_, a1, w1, ⟨t, d, hr1, hq⟩, .of_steps hs h2⟩
    | ret => exact ⟨_, a1, w1, ⟨t, d, hr1, hq⟩, .of_steps hs harr⟩
    | panic ch => exact ⟨_, a1, w1, ⟨t, d, hr1, hq⟩, .of_steps hs harr⟩
    | outgrown => exact ⟨_, a1, w1, ⟨t, d, hr1, hq⟩, .of_steps hs harr⟩
  cases e with
  | goto l' =>
    obtain ⟨rfl, hI⟩ := hq
    have hg : gotoIn l' (.inScope c :: k) = some (.code rest :: .inScope c :: k) := by simp [gotoIn, hl]
    have h1 := harr.1 _ hg
    obtain ⟨e, a2, w2, hq2, harr2⟩ := hk t d w1 hI a1 hr1 b (.inScope c :: k) cs hro hb hr
    exact fin _ e a2 w2 (StepsIn.trans hs h1) hq2 harr2
  | normal => exact fin _ .normal a1 w1 hs ⟨t, d, hr1, hq⟩ harr
  | exit id => exact fin _ (.exit id) a1 w1 hs ⟨t, d, hr1, hq⟩ harr
  | ret => exact fin _ .ret a1 w1 hs ⟨t, d, hr1, hq⟩ harr
  | panic ch => exact fin _ (.panic ch) a1 w1 hs ⟨t, d, hr1, hq⟩ harr
  | outgrown => exact fin _ .outgrown a1 w1 hs ⟨t, d, hr1, hq⟩ harr
end Go.Wst
