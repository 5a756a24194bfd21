/-
  The walk's own calculus, fourth part: slices of the call's own, structs, parts of rows. No program is named here.
-/
import Derived.Test.YtbihphclmdokeaaXc
import Derived.Great.BuildSlice
set_option linter.all false
namespace Go.Wst

/-! ### Parts of written-out arrays -/
class CsSub (cs : List Value) (off n : Nat) (ds : outParam (List Value)) : Prop where eq : (cs.drop off).take n = ds ∧ off + n ≤ cs.length
instance cssub_nil (cs : List Value) : CsSub cs 0 0 [] := ⟨by simp⟩
instance cssub_cons (v : Value) (l ds : List Value) (n : Nat) [h : CsSub l 0 n ds] : CsSub (v :: l) 0 (n + 1) (v :: ds) := ⟨by have := h.eq; simp at this ⊢; exact ⟨this.1, by omega⟩⟩
instance cssub_succ (v : Value) (l ds : List Value) (i n : Nat) [h : CsSub l i n ds] : CsSub (v :: l) (i + 1) n ds := ⟨by have := h.eq; simp at this ⊢; exact ⟨this.1, by omega⟩⟩
/-- Cells set one behind the other. -/
def setMany (cs : Array Value) (off : Nat) : List Value → Array Value | [] => cs | v :: r => setMany (cs.setIfInBounds off v) (off + 1) r
theorem size_setMany : ∀ (vs : List Value) (cs : Array Value) (off : Nat), (setMany cs off vs).size = cs.size
  | [], _, _ => rfl
  | v :: r, cs, off => by rw [setMany, size_setMany r]; simp
class CsPut (cs : Array Value) (off : Nat) (vs : List Value) (ds : outParam (Array Value)) : Prop where eq : setMany cs off vs = ds ∧ off + vs.length ≤ cs.size
class LeN (a b : Nat) : Prop where le : a ≤ b
instance len (k t : Nat) : LeN t (k + t) := ⟨by omega⟩
class Siz (cs : Array Value) (n : outParam Nat) : Prop where eq : cs.size = n
instance siz_nil : Siz #[] 0 := ⟨rfl⟩
instance siz_cons (v : Value) (l : List Value) (n : Nat) [h : Siz l.toArray n] : Siz (v :: l).toArray (n + 1) := ⟨by have := h.eq; simpa using this⟩
instance csput_nil (cs : Array Value) (off n : Nat) [h : Siz cs n] [k : LeN off n] : CsPut cs off [] cs := ⟨rfl, by rw [h.eq]; exact k.le⟩
instance csput_cons (cs cs1 ds : Array Value) (off : Nat) (v : Value) (vs : List Value) [h : CsSet cs off v cs1] [k : CsPut cs1 (off + 1) vs ds] : CsPut cs off (v :: vs) ds := ⟨by
  obtain ⟨h1, h2⟩ := h.eq
  obtain ⟨k1, k2⟩ := k.eq
  subst h2
  refine ⟨k1, ?_⟩
  simp only [Array.size_setIfInBounds] at k2
  simp only [List.length_cons]; omega⟩

/-! ### A struct's value, built -/
class Places (P : Program) (t : TypeId) (pl : outParam (List (Nat × Nat))) : Prop where ex : ∃ fs, P.underlying t = some (.struct fs) ∧ fs.toList.mapM (fun f => (P.info? f.type).map fun i => (f.offset, i.size)) = some pl
class PlGet (pl : List (Nat × Nat)) (i : Nat) (off sz : outParam Nat) : Prop where eq : pl[i]? = some (off, sz)
instance plget_zero (o s : Nat) (l : List (Nat × Nat)) : PlGet ((o, s) :: l) 0 o s := ⟨rfl⟩
instance plget_succ (p : Nat × Nat) (l : List (Nat × Nat)) (i o s : Nat) [h : PlGet l i o s] : PlGet (p :: l) (i + 1) o s := ⟨by simpa using h.eq⟩
class FillC (pl : List (Nat × Nat)) (cs : Array Value) (parts : List (Nat × Value)) (ds : outParam (Array Value)) : Prop where eq : Instr.fill (pl[·]?) cs parts = some ds
instance fillc_nil (pl : List (Nat × Nat)) (cs : Array Value) : FillC pl cs [] cs := ⟨rfl⟩
theorem foldl_setMany (off : Nat) : ∀ (l : List Value) (s : Nat) (cs : Array Value), (l.zipIdx s).foldl (fun cs (x : Value × Nat) => cs.setIfInBounds (off + x.2) x.1) cs = setMany cs (off + s) l
  | [], _, _ => rfl
  | v :: l, s, cs => by rw [List.zipIdx_cons, List.foldl_cons, foldl_setMany off l (s + 1)]; rfl
theorem fill_cons {place : Nat → Option (Nat × Nat)} {cs : Array Value} {i off sz : Nat} {v : Value} {vs : List Value} {rest : List (Nat × Value)} (hp : place i = some (off, sz)) (hv : v.cells = vs.toArray) (hs : vs.length = sz) (hl : off + vs.length ≤ cs.size) :
    Instr.fill place cs ((i, v) :: rest) = Instr.fill place (setMany cs off vs) rest := by
  rw [Instr.fill]
  simp only [hp, hv]
  have h1 : ¬ (vs.toArray.size ≠ sz || decide (off + vs.toArray.size > cs.size)) = true := by simp [hs]; omega
  rw [if_neg h1]
  congr 1
  have := foldl_setMany off vs 0 cs
  simpa [Array.zipIdx_toArray] using this
class LenL (vs : List Value) (n : outParam Nat) : Prop where eq : vs.length = n
instance lenl_nil : LenL [] 0 := ⟨rfl⟩
instance lenl_cons (v : Value) (l : List Value) (n : Nat) [h : LenL l n] : LenL (v :: l) (n + 1) := ⟨by rw [List.length_cons, h.eq]⟩
class EqN (a b : Nat) : Prop where eq : a = b
instance eqn (a : Nat) : EqN a a := ⟨rfl⟩
instance fillc_cons (pl : List (Nat × Nat)) (cs cs1 ds : Array Value) (i off sz n : Nat) (v : Value) (vs : List Value) (rest : List (Nat × Value)) [hp : PlGet pl i off sz] [hv : Cells v vs.toArray] [hn : LenL vs n] [he : EqN n sz] [h1 : CsPut cs off vs cs1] [k : FillC pl cs1 rest ds] :
    FillC pl cs ((i, v) :: rest) ds := ⟨by
  obtain ⟨e1, e2⟩ := h1.eq
  rw [fill_cons hp.eq hv.eq (hn.eq.trans he.eq) e2, e1]
  exact k.eq⟩

section laws
variable {P : Program} {r : Option Nat} {N : Nat} {S T : Nat → Prop} {Q : Post} {τ : Tau} {ds : List Deferred} {w : World} {ty : TypeId} {ops : Array Oper} {rest : List Oper} {pos : String} {aft : Array Edge} {d : Nat} {v : Value} {op : Op}

theorem v_build {t : TypeId} {parts : List (Nat × Operand)} {vs : List (Nat × Value)} {pl : List (Nat × Nat)} {sz bytes : Nat} {z : Value} {zc cs : Array Value} [hv : EvP N τ parts vs] [hp : Places P t pl] [hi : Inf P t sz bytes z] [hz : Cells z zc] [hf : FillC pl zc vs cs] :
    Val P r N S (.build t parts.toArray) ty τ w (.agg cs) := ⟨fun _ => nofun, fun W _ => by
  obtain ⟨fs, h1, h2⟩ := hp.ex
  obtain ⟨i, h3, h4, h5, h6⟩ := hi.ex
  have hpl := run_places (P := P) W fs.toList pl h2
  have hm : (fs.mapM fun f => do pure (f.offset, ← sizeOf f.type) : Sem (Array (Nat × Nat))).run P W = .ok pl.toArray W := by
    have e : (fun (f : Field) => (do pure (f.offset, ← sizeOf f.type) : Sem (Nat × Nat))) = (fun f => Prod.mk f.offset <$> sizeOf f.type) := by funext f; rw [map_eq_pure_bind]
    rw [Array.mapM_eq_mapM_toList, Sem.run_map, e, hpl]
    rfl
  have hfill := hf.eq
  have hpf : (fun (i : Nat) => pl.toArray[i]?) = (fun (i : Nat) => pl[i]?) := by funext i; simp
  simp only [execOp, Instr.build, Sem.run_bind, zeroValue, typeInfo, program, Sem.run, h3, h6, Sem.run_pure, Result.andThen_ok, run_underlying h1, hm, hz.eq]
  have e1 : (parts.toArray.map fun (x : Nat × Operand) => (x.1, evO N τ x.2)).toList = vs := by simp [hv.eq]
  simp only [e1, hpf, hfill, Sem.run_pure, Result.andThen_ok]⟩

/-! a slice that is written out: one element -/
theorem e_buildSlice1 {t e : TypeId} {x : Operand} {sz bytes : Nat} {z : Value} {vs : List Value} {G : Value → World → Prop} [hx : EvO N τ x v] [hu : Und P t (.slice e)] [hi : Inf P e sz bytes z] [hc : Cells v vs.toArray] [hn : LenL vs sz] (hpos : (Nat.ble 1 sz && Nat.ble sz 1000) = true)
    (h : ∀ (b : Nat) (w' : World), New b w → Lk w' w NoB → Blk w' b (.cells vs.toArray e (0, 0)) → G (.slice (some ⟨b, 0, none⟩) 1 1) w') : EffV P N NoB (.buildSlice t 1 #[(0, x)]) ty τ w G := by
  obtain ⟨i, h5, h6, h7, h8⟩ := hi.ex
  subst h6
  simp only [Bool.and_eq_true, Nat.ble_eq] at hpos
  obtain ⟨h1, h2, h3⟩ := new_blk (w := w) (.cells vs.toArray e)
  refine ⟨fun _ => nofun, _, _, ?_, h2.keep, h _ _ h1 h2 h3⟩
  have hfill : Instr.fill (fun j => some (j * i.size, i.size)) ((Array.range (1 * i.size)).map (z.cells[· % z.cells.size]!)) [(0, v)] = some vs.toArray := by
    rw [fill_cons (off := 0) (sz := i.size) (by simp) hc.eq hn.eq (by simp [hn.eq]), Instr.fill]
    congr 1
    have hsz : ((Array.range (1 * i.size)).map (z.cells[· % z.cells.size]!)).size = vs.length := by simp [hn.eq]
    generalize ((Array.range (1 * i.size)).map (z.cells[· % z.cells.size]!)) = zs at hsz
    have key : ∀ (l : List Value) (pre : List Value) (cs : Array Value), cs.size = pre.length + l.length → (∀ k, k < pre.length → cs[k]? = pre[k]?) → setMany cs pre.length l = (pre ++ l).toArray := by
      intro l
      induction l with
      | nil =>
        intro pre cs h1 h2
        apply Array.ext_getElem?
        intro k
        by_cases hk : k < pre.length
        · simpa [setMany] using h2 k hk
        · have : cs.size ≤ k := by rw [h1]; simp; omega
          simp only [setMany]
          rw [Array.getElem?_eq_none this, Array.getElem?_eq_none (by simp; omega)]
      | cons a l ih =>
        intro pre cs h1 h2
        rw [setMany]
        have := ih (pre ++ [a]) (cs.setIfInBounds pre.length a) (by simp [h1]; omega) (fun k hk => by
          by_cases hkp : k = pre.length
          · subst hkp
            have hlt : pre.length < cs.size := by rw [h1]; simp
            simp [hlt]
          · have hk' : k < pre.length := by simp at hk; omega
            rw [Array.getElem?_setIfInBounds_ne (Ne.symm hkp), h2 k hk', List.getElem?_append_left hk'])
        simpa using this
    simpa using key vs [] zs (by simpa using hsz) (by simp)
  have hb := Go.run_buildSlice (P := P) w t e 1 #[(0, v)] vs.toArray i z hu.eq h5 h8 (by omega) (by omega) hfill
  simp only [execOp, Sem.run_bind, List.map_toArray, List.map_cons, List.map_nil, hx.eq, hb, Result.andThen_ok, Sem.run_pure]

/-- A row out of a block that is written out. -/
theorem row_blk {b : Nat} {cs : List Value} {e : TypeId} {fr : Nat × Nat} (h : w.heap[b]? = some (.cells cs.toArray e fr)) : RowP w (some ⟨b, 0, none⟩) cs := fun j v hv => by
  refine ⟨_, rfl, ?_⟩
  rw [add_none, cell_of_blk h]
  simpa using hv
instance rowI_blk (b : Nat) (cs : List Value) (e : TypeId) (fr : Nat × Nat) [h : Blk w b (.cells cs.toArray e fr)] : Row w (some ⟨b, 0, none⟩) cs := ⟨row_blk h.eq⟩

/-! append onto a slice of the call's own -/
def OwnB (v : Value) : Nat → Prop := fun k => some k = v.ownBlock
theorem ownsRow_form {base : Nat} {e : TypeId} {sz n : Nat} {v : Value} {xs : List Value} (h : w.ownsRow base e sz v n xs) : ∃ A cap, v = .slice A n cap ∧ (∀ a, A = some a → base ≤ a.block ∧ a.off = 0 ∧ a.spot = none) ∧ n ≤ cap ∧ RowP w A xs := by
  rcases h.2 with ⟨rfl, rfl⟩ | ⟨g, cap, cur, rfl, hb, hg, hn, hm, hs, ht⟩
  · have : xs = [] := List.eq_nil_of_length_eq_zero (by simpa using h.1)
    subst this
    exact ⟨none, 0, rfl, fun _ h => (by cases h), Nat.le_refl _, fun j v hv => by simp at hv⟩
  · refine ⟨_, cap, rfl, fun a ha => by cases ha; exact ⟨hb, rfl, rfl⟩, hn, fun j v hv => ⟨_, rfl, ?_⟩⟩
    exact h.cells rfl j v hv
class Cell1L (vs : List Value) : Prop where eq : ∀ u ∈ vs, u.oneCell' = true
instance cell1l_nil : Cell1L [] := ⟨by simp⟩
instance cell1l_cons (v : Value) (l : List Value) [h : Cell1 v] [k : Cell1L l] : Cell1L (v :: l) := ⟨by
  intro u hu
  rcases List.mem_cons.1 hu with rfl | hu
  · exact h.eq
  · exact k.eq u hu⟩
theorem e_append {x y : Operand} {t e : TypeId} {base sz bytes n m c : Nat} {z : Value} {zc : Array Value} {v : Value} {xs news : List Value} {A : Option Addr} {G : Value → World → Prop} [hx : EvO N τ x v] [hy : EvO N τ y (.slice A m c)] [hu : Und P t (.slice e)] [hi : Inf P e sz bytes z] [hz : Cells z zc] [hzs : Siz zc sz]
    [hrow : Row w A news] (hown : w.ownsRow base e sz v n xs) (hbase : base ≤ w.heap.size) (hl : news.length = m * sz) (h1 : ∀ u ∈ news, u.oneCell' = true) (hpos : 0 < sz) (hA : A.isSome = true) (h63 : n + m ≤ 4294967296) (hbytes : (n + m) * bytes ≤ 140737488355328)
    (h : ∀ (A' : Option Addr) (cap' : Nat) (w' : World), w'.ownsRow base e sz (.slice A' (n + m) cap') (n + m) (xs ++ news) → Lk w' w (OwnB v) → G (.slice A' (n + m) cap') w') :
    EffV P N (OwnB v) (.call { callee := .builtin .append, args := #[x, y], argTypes := #[t, t] }) ty τ w G := by
  obtain ⟨i, h5, h6, h7, h8⟩ := hi.ex
  obtain ⟨a, rfl⟩ := Option.isSome_iff_exists.1 hA
  have hnews : ∀ j u, news[j]? = some u → w.cell? (a.add j) = some u := fun j u hj => by
    obtain ⟨a', ha', hc⟩ := hrow.row j u hj
    cases ha'; exact hc
  have hzc : z.cells.size = sz := by rw [hz.eq]; exact hzs.eq
  obtain ⟨v', w', hr, ho, hg, _⟩ := run_append_own (P := P) w base t ty e i z sz bytes hu.eq h5 h8 h6 h7 hzc hpos v n xs hown a m c news hl hnews h1 (by unfold maxLen; omega) hbytes hbase
  have hk : Keep (OwnB v) w w' := Keep.of_grown hg
  obtain ⟨A', cap', rfl, _⟩ := ownsRow_form ho
  exact ⟨fun _ => nofun, _, w', by simp [execOp, resolve, invoke, builtin, hx.eq, hy.eq, hr, Result.andThen], hk, h A' cap' w' ho ⟨hk⟩⟩

/-- A slice of the call's own that nothing touches. -/
theorem own_keep {base : Nat} {e : TypeId} {sz n : Nat} {v : Value} {xs : List Value} {w' : World} (h : w.ownsRow base e sz v n xs) (hk : Keep S w w') (hs : ∀ k, v.ownBlock = some k → ¬ S k) : w'.ownsRow base e sz v n xs := by
  refine ⟨h.1, ?_⟩
  rcases h.2 with hn | ⟨g, cap, cur, rfl, hb, hg, rest⟩
  · exact .inl hn
  · refine .inr ⟨g, cap, cur, rfl, hb, ?_, rest⟩
    rw [hk.block g (Array.getElem?_eq_some_iff.1 hg).1 (hs g rfl)]
    exact hg
theorem own_ext {base : Nat} {e : TypeId} {sz n : Nat} {v : Value} {xs : List Value} {w' : World} (h : w.ownsRow base e sz v n xs) (hk : Lk w' w NoB) : w'.ownsRow base e sz v n xs := own_keep h hk.keep (fun _ _ h => h)
/-- What was there when the call began is not touched by a store into a row of the call's own. -/
theorem keep_own {base : Nat} {e : TypeId} {sz n : Nat} {v : Value} {xs : List Value} {w0 w' : World} (h : w.ownsRow base e sz v n xs) (h0 : Keep S w0 w) (hk : Keep (OwnB v) w w') (hb : w0.heap.size ≤ base) : Keep S w0 w' :=
  h0.then hk (fun k hlt hT => by
    have := (h.lt k hT.symm).1
    omega)

/-! a slice's part -/
theorem v_sliceL {x y : Operand} {t e : TypeId} {A : Option Addr} {n c sz bytes : Nat} {z : Value} {i : Int} (k : Nat) [hx : EvO N τ x (.slice A n c)] [hy : EvO N τ y (.int .i64 i)] [hu : Und P t (.slice e)] [hi : Inf P e sz bytes z] (hk : i = (k : Int)) (hn : k ≤ n) :
    Val P r N S (.slice t x (some y) none none) ty τ w (.slice (if c = k then A else A.map (·.add (k * sz))) (n - k) (c - k)) := ⟨fun _ => nofun, fun W _ => by
  obtain ⟨ii, h1, h2, h3, h4⟩ := hi.ex
  subst hk; subst h2
  simp [execOp, hx.eq, hy.eq, Instr.sliceAt, run_underlying hu.eq, Instr.slice, Instr.sliceBounds, Instr.sliceBound, asIntOf, hn, sizeOf, typeInfo, program, Sem.run, h1]⟩
theorem v_sliceH {x y : Operand} {t e : TypeId} {A : Option Addr} {n c sz bytes : Nat} {z : Value} {i : Int} (k : Nat) [hx : EvO N τ x (.slice A n c)] [hy : EvO N τ y (.int .i64 i)] [hu : Und P t (.slice e)] [hi : Inf P e sz bytes z] (hk : i = (k : Int)) (hn : k ≤ c) :
    Val P r N S (.slice t x none (some y) none) ty τ w (.slice A k c) := ⟨fun _ => nofun, fun W _ => by
  obtain ⟨ii, h1, h2, h3, h4⟩ := hi.ex
  subst hk; subst h2
  have : A.map (·.add 0) = A := by cases A <;> simp [Addr.add]
  simp [execOp, hx.eq, hy.eq, Instr.sliceAt, run_underlying hu.eq, Instr.slice, Instr.sliceBounds, Instr.sliceBound, asIntOf, hn, sizeOf, typeInfo, program, Sem.run, h1, this]⟩

/-! structs loaded and stored whole -/
theorem run_isAgg_many {t : TypeId} {n : Nat} (h : Many P t n) (W : World) : (isAgg t).run P W = .ok true W := by
  obtain ⟨dd, i, h7, h8, _⟩ := h.ex
  unfold isAgg
  cases dd <;> simp_all [run_underlying h7]
theorem run_loadCellsFrom (W : World) (a : Addr) : ∀ (vs : List Value) (k : Nat) (acc : Array Value), (∀ j v, vs[j]? = some v → W.cell? (a.add (k + j)) = some v) → (loadCellsFrom a k vs.length acc).run P W = .ok (acc ++ vs.toArray) W
  | [], _, acc, _ => by simp [loadCellsFrom]
  | v :: vs, k, acc, h => by
    have h0 : W.cell? (a.add k) = some v := by simpa using h 0 v rfl
    have ih := run_loadCellsFrom W a vs (k + 1) (acc.push v) (fun j u hj => by have := h (j + 1) u (by simpa using hj); rwa [show k + (j + 1) = k + 1 + j by omega] at this)
    simp only [List.length_cons, loadCellsFrom, Sem.run_bind, run_load, h0, Result.andThen_ok, ih]
    simp
theorem run_loadVar_many {t : TypeId} {n : Nat} (ht : Many P t n) (W : World) (a : Addr) (vs : List Value) (hl : vs.length = n) (h : ∀ j v, vs[j]? = some v → W.cell? (a.add j) = some v) : (loadVar t a).run P W = .ok (.agg vs.toArray) W := by
  have hag := run_isAgg_many ht W
  obtain ⟨dd, i, h7, h8, h9, h10⟩ := ht.ex
  have hsz : (sizeOf t).run P W = .ok n W := by simp [sizeOf, typeInfo, program, Sem.run, h9, h10]
  have hlc := run_loadCellsFrom (P := P) W a vs 0 #[] (by simpa using h)
  rw [hl] at hlc
  simp [loadVar, hag, hsz, loadCells, hlc]
theorem v_loadA {x : Operand} {t e : TypeId} {b off n : Nat} {cs vs : List Value} {fr : Nat × Nat} [hx : EvO N τ x (.pointer (some ⟨b, off, none⟩))] [ho : Many P t n] [hb : Blk w b (.cells cs.toArray e fr)] [hs : NotS S b] [hc : CsSub cs off n vs] : Val P r N S (.load t x) ty τ w (.agg vs.toArray) := ⟨fun _ => nofun, fun W hW => by
  have h1 := (hW.block b (Array.getElem?_eq_some_iff.1 hb.eq).1 hs.not).trans hb.eq
  obtain ⟨e1, e2⟩ := hc.eq
  have hl : vs.length = n := by rw [← e1]; simp; omega
  have h2 : ∀ j v, vs[j]? = some v → W.cell? ((⟨b, off, none⟩ : Addr).add j) = some v := fun j v hj => by
    rw [add_none, cell_of_blk h1]
    rw [← e1, List.getElem?_take] at hj
    split at hj
    · rw [List.getElem?_drop] at hj; simpa using hj
    · cases hj
  have := run_loadVar_many ho W ⟨b, off, none⟩ vs hl h2
  simp [execOp, hx.eq, Instr.loadAt, Instr.sureAddr, this]⟩
/-- A struct out of a row. -/
theorem v_loadRA {x : Operand} {t : TypeId} {A : Option Addr} {j n : Nat} {cs vs : List Value} [hx : EvO N τ x (padd A j)] [ho : Many P t n] [hr : Row w A cs] [hs : RowOut S A] (hl : vs.length = n) (hA : A.isSome = true) (hv : ∀ i u, vs[i]? = some u → cs[j + i]? = some u) : Val P r N S (.load t x) ty τ w (.agg vs.toArray) := ⟨fun _ => nofun, fun W hW => by
  obtain ⟨a, rfl⟩ := Option.isSome_iff_exists.1 hA
  have h2 : ∀ i v, vs[i]? = some v → W.cell? ((a.add j).add i) = some v := fun i v hi => by
    obtain ⟨a', ha', hc⟩ := (hr.row.keep hW hs.out) (j + i) v (hv i v hi)
    cases ha'
    rw [add_add]; exact hc
  have := run_loadVar_many ho W (a.add j) vs hl h2
  simp [execOp, hx.eq, padd, Instr.loadAt, Instr.sureAddr, this]⟩

theorem evc {t : Nat} {u v : Value} [h : Ev τ t v] (e : v = u := by rfl) : Ev τ t u := ⟨h.eq.trans e⟩

/-! numbers turned to another kind -/
theorem v_convert {x : Operand} {s t : TypeId} {k k' : IntKind} {a : Int} {ds : TypeDesc} [hx : EvO N τ x (.int k' a)] [hs : Und P s ds] [hd : Und P t (.int k)] : Val P r N S (.convert s t x) ty τ w (.int k (k.wrap a)) := ⟨fun _ => nofun, fun W _ => by
  simp [execOp, hx.eq, convert, run_underlying hs.eq, run_underlying hd.eq, Conv.intToInt]⟩
theorem v_convertI {x : Operand} {s t : TypeId} {a : Int} {ds : TypeDesc} [hx : EvO N τ x (.int .i64 a)] [hs : Und P s ds] [hd : Und P t (.int .i64)] (h : -9223372036854775808 ≤ a ∧ a ≤ 9223372036854775807) : Val P r N S (.convert s t x) ty τ w (.int .i64 a) := by
  have := v_convert (P := P) (r := r) (N := N) (S := S) (τ := τ) (w := w) (ty := ty) (x := x) (s := s) (t := t) (k := .i64)
  rwa [wrap_in h.1 h.2] at this
theorem v_max {x y : Operand} {t : Array TypeId} {k : IntKind} {a b : Int} [hx : EvO N τ x (.int k a)] [hy : EvO N τ y (.int k b)] : Val P r N S (.call { callee := .builtin .max, args := #[x, y], argTypes := t }) ty τ w (.int k (max a b)) := ⟨fun _ => nofun, fun W _ => by
  have e : (if a < b then b else a) = max a b := by split <;> omega
  simp [execOp, resolve, invoke, builtin, hx.eq, hy.eq, Builtin.max_, Builtin.max2, e]⟩

end laws

/-! ### Rows of numbers -/
def ints (xs : List Int) : List Value := xs.map (Value.int .i64)
theorem ints_get {xs : List Int} {k : Nat} (h : k < xs.length) : (ints xs)[k]? = some (.int .i64 xs[k]) := by simp [ints, h]
theorem ints_len (xs : List Int) : (ints xs).length = xs.length := by simp [ints]
theorem ints_one (xs : List Int) : ∀ u ∈ ints xs, u.oneCell' = true := by intro u hu; simp [ints] at hu; obtain ⟨a, _, rfl⟩ := hu; rfl
theorem ints_append (xs ys : List Int) : ints (xs ++ ys) = ints xs ++ ints ys := by simp [ints]
/-- A row that has a cell has an address. -/
theorem row_some {w : World} {A : Option Addr} {cs : List Value} (h : Row w A cs) (hl : 0 < cs.length) : A.isSome = true := by
  obtain ⟨a, rfl, _⟩ := h.row 0 cs[0] (List.getElem?_eq_getElem hl)
  rfl
end Go.Wst
