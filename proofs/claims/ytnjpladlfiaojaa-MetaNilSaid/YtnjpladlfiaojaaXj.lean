/-
  The walk's own calculus, tenth part: ranges over texts, slices with three numbers, append of zeros, truth values compared. No program is named here.
-/
import Derived.Test.YtnjpladlfiaojaaXi
import Derived.Laws.RangeString
import Derived.Lib.AppendZeros
set_option linter.all false
namespace Go.Wst
section
variable {P : Program} {r : Option Nat} {N : Nat} {S T : Nat → Prop} {τ : Tau} {w : World} {ty kt et t : TypeId}
/-- An iterator in block 'it' over a text. -/
def StrIt (w : World) (it : Nat) (s : ByteArray) (pos : Nat) : Prop := w.heap[it]? = some (.stringIter s pos)
theorem StrIt.keep {w w' : World} {it pos : Nat} {s : ByteArray} {S : Nat → Prop} (h : StrIt w it s pos) (hk : Keep S w w') (hs : ¬ S it) : StrIt w' it s pos := (hk.block it (Array.getElem?_eq_some_iff.1 h).1 hs).trans h
theorem StrIt.lt {w : World} {it pos : Nat} {s : ByteArray} (h : StrIt w it s pos) : it < w.heap.size := (Array.getElem?_eq_some_iff.1 h).1
theorem e_rangeS {x : Operand} {s : ByteArray} {G : Value → World → Prop} [hx : EvO N τ x (.string s)] [hu : Und P t .string]
    (h : ∀ (b : Nat) (w' : World), New b w → Lk w' w NoB → StrIt w' b s 0 → Has w' b → G (.pointer (some ⟨b, 0, none⟩)) w') : EffV P N NoB (.range t x) ty τ w G := by
  obtain ⟨k1, k2, k3⟩ := new_blk (w := w) (.stringIter s 0)
  refine ⟨fun _ => nofun, .pointer (some ⟨w.heap.size, 0, none⟩), w.alloc (.stringIter s 0), ?_, k2.keep, h _ _ k1 k2 k3.eq ⟨(Array.getElem?_eq_some_iff.1 k3.eq).1⟩⟩
  have := run_range_string (P := P) w t s hu.eq
  simp only [execOp, hx.eq, Sem.run_bind, this, Result.andThen_ok, Sem.run_pure]
  rfl
theorem e_nextS {it pos : Nat} {s : ByteArray} {x : Operand} {G : Value → World → Prop} [hx : EvO N τ x (.pointer (some ⟨it, 0, none⟩))] (hm : StrIt w it s pos)
    (h : ∀ (b : Bool) (qs : List Value) (w' : World), Lk w' w (OneB it) → (b = false → ¬ pos < s.size) → (b = true → pos < s.size ∧ qs = [.int .i64 pos, .int .i32 (Utf8.decode s pos).1] ∧ StrIt w' it s (pos + (Utf8.decode s pos).2)) → G (.tuple (.bool b :: qs).toArray) w') :
    EffV P N (OneB it) (.next x true) ty τ w G := by
  have hgi : (getObj it).run P w = .ok (.stringIter s pos) w := by simp [getObj, Sem.run, show w.heap[it]? = _ from hm]
  by_cases hp : pos < s.size
  · have hset : (setObj it (.stringIter s (pos + (Utf8.decode s pos).2))).run P w = .ok () { w with heap := w.heap.setIfInBounds it (.stringIter s (pos + (Utf8.decode s pos).2)) } := by
      simp [setObj, Sem.run, show w.heap[it]? = _ from hm]
    have hk : Keep (OneB it) w { w with heap := w.heap.setIfInBounds it (.stringIter s (pos + (Utf8.decode s pos).2)) } := ⟨rfl, rfl, rfl, by simp, fun k _ hk => by
      show (w.heap.setIfInBounds it _)[k]? = _
      rw [Array.getElem?_setIfInBounds_ne (fun e => hk e.symm)]⟩
    refine ⟨fun _ => nofun, .tuple (.bool true :: [.int .i64 pos, .int .i32 (Utf8.decode s pos).1]).toArray, _, ?_, hk, h true _ _ ⟨hk⟩ (fun e => by cases e) (fun _ => ⟨hp, rfl, ?_⟩)⟩
    · simp only [execOp, hx.eq, Instr.next, Sem.run_bind, hgi, Result.andThen_ok, hp, if_true, hset, Sem.run_pure, goInt]
    · show (w.heap.setIfInBounds it _)[it]? = _
      rw [Array.getElem?_setIfInBounds_self_of_lt hm.lt]
  · refine ⟨fun _ => nofun, .tuple (.bool false :: []).toArray, w, ?_, Keep.refl _ _, h false [] w ⟨Keep.refl _ _⟩ (fun _ => hp) (fun e => by cases e)⟩
    simp only [execOp, hx.eq, Instr.next, Sem.run_bind, hgi, Result.andThen_ok, hp, if_false, Sem.run_pure]
theorem v_slice3 {x y z : Operand} {t e : TypeId} {A : Option Addr} {n c sz bytes : Nat} {zv : Value} {i j : Int} (k m : Nat) [hx : EvO N τ x (.slice A n c)] [hy : EvO N τ y (.int .i64 i)] [hz : EvO N τ z (.int .i64 j)] [hu : Und P t (.slice e)] [hi : Inf P e sz bytes zv] (hk : i = (k : Int)) (hj : j = (m : Int)) (hkm : k ≤ m) (hn : m ≤ c) :
    Val P r N S (.slice t x none (some y) (some z)) ty τ w (.slice A k m) := ⟨fun _ => nofun, fun W _ => by
  obtain ⟨ii, h1, h2, h3, h4⟩ := hi.ex
  subst hk; subst h2; subst hj
  have h5 : (0 : Int) ≤ (k : Int) ∧ (k : Int) ≤ (m : Int) := by omega
  have h6 : (0 : Int) ≤ (m : Int) ∧ (m : Int) ≤ (c : Int) := by omega
  cases A with
  | none => simp [execOp, hx.eq, hy.eq, hz.eq, Instr.sliceAt, Instr.slice, run_underlying hu.eq, Instr.sliceBounds, Instr.sliceBound, asIntOf, hkm, hn, sizeOf, typeInfo, h1]
  | some a => simp [execOp, hx.eq, hy.eq, hz.eq, Instr.sliceAt, Instr.slice, run_underlying hu.eq, Instr.sliceBounds, Instr.sliceBound, asIntOf, hkm, hn, sizeOf, typeInfo, h1, Addr.add]⟩
theorem zeroCells_list (z : Value) (n : Nat) (h : z.cells = #[z]) : (Builtin.zeroCells z.cells n).toList = List.replicate n z := by
  rw [h]
  apply List.ext_getElem
  · simp [Builtin.zeroCells]
  · intro j h1 h2
    simp [Builtin.zeroCells, Nat.mod_one]
/-- append of n zeros to nil. -/
theorem e_appendZ {x y : Operand} {tn e : TypeId} {bytes n : Nat} {z : Value} {i : Int} {kn : IntKind} {G : Value → World → Prop} [hx : EvO N τ x (.slice none 0 0)] [hy : EvO N τ y (.int .i64 i)] [hu : Und P t (.slice e)] [htn : Und P tn (.int kn)] [hi : Inf P e 1 bytes z] (hn : i = (n : Int)) (h0 : 0 < n) (h1 : z.cells = #[z]) (h63 : n ≤ 4294967296) (hb : n * bytes ≤ 140737488355328)
    (h : ∀ (A' : Option Addr) (c' : Nat) (w' : World), w'.ownsRow w.heap.size e 1 (.slice A' n c') n (List.replicate n z) → Lk w' w NoB → n ≤ c' → G (.slice A' n c') w') :
    EffV P N NoB (.call { callee := .builtin .append, args := #[x, y], argTypes := #[t, tn] }) ty τ w G := by
  obtain ⟨ii, h5, h6, h7, h8⟩ := hi.ex
  subst hn; subst h7
  have hr := Lib.run_append_nil_zeros (P := P) w t tn ty e ii z .i64 kn hu.eq htn.eq h5 h8 n h0 (by omega) (by omega) (by omega)
  have hk : Keep NoB w (w.drew.alloc (.cells (Builtin.zeroCells z.cells n ++ Builtin.zeroCells z.cells (grownCap w n 0 e - n)) e)) := (Keep.drew w).then (Keep.alloc _ _) (fun _ _ h => h)
  have hcap : n ≤ grownCap w n 0 e := grownCap_ge w n 0 e
  have hmx : grownCap w n 0 e ≤ maxLen := grownCap_le_maxLen w n 0 e (by unfold maxLen; omega)
  refine ⟨fun _ => nofun, _, _, by simp only [execOp, resolve, invoke, builtin, hx.eq, hy.eq, hr, Sem.run_bind, Sem.run_pure, Result.andThen_ok, List.map_toArray, List.map_cons, List.map_nil], hk, h _ _ _ ⟨by simp, .inr ⟨w.heap.size, _, _, rfl, Nat.le_refl _, heap_alloc_new _ _, hcap, hmx, ?_, ?_⟩⟩ ⟨hk⟩ hcap⟩
  · simp [Builtin.zeroCells, h1]; omega
  · have e1 := zeroCells_list z n h1
    have e2 : (Builtin.zeroCells z.cells n).toList.length = n := by rw [e1]; simp
    simp only [Array.toList_append]
    rw [List.take_append_of_le_length (by simp [e2]), List.take_of_length_le (by simp [e2]), e1]
theorem v_cap {x : Operand} {t e : TypeId} {A : Option Addr} {n c : Nat} [hx : EvO N τ x (.slice A n c)] [hu : Und P t (.slice e)] : Val P r N S (.call { callee := .builtin .cap, args := #[x], argTypes := #[t] }) ty τ w (.int .i64 (c : Int)) := ⟨fun _ => nofun, fun W _ => by
  simp [execOp, resolve, invoke, builtin, hx.eq, Builtin.cap_, run_underlying hu.eq, goInt]⟩
theorem v_beql {x y : Operand} {t t' : TypeId} {a b : Bool} [hx : EvO N τ x (.bool a)] [hy : EvO N τ y (.bool b)] [h : Und P t .bool] : Val P r N S (.binOp .eql t x y t') ty τ w (.bool (a == b)) := ⟨fun _ => nofun, fun W _ => by
  have e := run_equalIn_bool W 9999 t a b h.eq
  simp [execOp, hx.eq, hy.eq, eqGuard, binOp, Op.equal, show Op.maxDepth = 9999 + 1 from rfl, e]⟩
theorem v_bneq {x y : Operand} {t t' : TypeId} {a b : Bool} [hx : EvO N τ x (.bool a)] [hy : EvO N τ y (.bool b)] [h : Und P t .bool] : Val P r N S (.binOp .neq t x y t') ty τ w (.bool (!(a == b))) := ⟨fun _ => nofun, fun W _ => by
  have e := run_equalIn_bool W 9999 t a b h.eq
  simp [execOp, hx.eq, hy.eq, eqGuard, binOp, Op.equal, show Op.maxDepth = 9999 + 1 from rfl, e]⟩
end
section
variable {P : Program} {r : Option Nat} {N : Nat} {S U : Nat → Prop} {Q : Post} {τ : Tau} {ds : List Deferred} {w : World} {ty : TypeId} {ops : Array Oper} {rest : List Oper} {pos : String} {aft : Array Edge} {d : Nat} {op : Op}
theorem xl_gu {j e : Nat} {b : Bool} (hj : (ops[j]?).bind (·.dst) = some e) (hb : evO N τ (.tmp e) = undef) (h : XL P r N ops Q rest (upd τ d undef) ds w) :
    XL P r N ops Q (⟨some d, op, ty, pos, aft, some (j, b)⟩ :: rest) τ ds w := by
  show OpE P r N ops _ Q τ ds w _
  unfold OpE
  rw [if_neg (by simp [wantedT, Region.wanted, yieldedT, hj, hb, undef])]
  exact h
theorem xt_gu {p : Plan} {i j e : Nat} {b : Bool} {pos' : String} {aft' : Array Edge} (hi : ops[i]? = some ⟨some d, op, ty, pos', aft', some (j, b)⟩) (hj : (ops[j]?).bind (·.dst) = some e) (hb : evO N τ (.tmp e) = undef) (h : XT P r N ops Q S U p (upd τ d undef) ds w) : XT P r N ops Q S U (.take i p) τ ds w := by
  show match ops[i]? with | some o => OpP P r N ops S o τ w (fun τ => XT P r N ops Q S U p τ ds w) | none => False
  rw [hi]
  exact ⟨undef, .inr ⟨by simp [wantedT, Region.wanted, yieldedT, hj, hb, undef], rfl⟩, h⟩
theorem xt_gue {p : Plan} {i j e : Nat} {b : Bool} {pos' : String} {aft' : Array Edge} (hi : ops[i]? = some ⟨some d, op, ty, pos', aft', some (j, b)⟩) (hj : (ops[j]?).bind (·.dst) = some e) (hb : evO N τ (.tmp e) = undef) (h : XT P r N ops Q S U p (upd τ d undef) ds w) : XT P r N ops Q S U (.eff i p) τ ds w := by
  show match ops[i]? with | some o => OpE P r N ops o Q τ ds w (fun τ' ds' w' => Keep S w w' ∧ XT P r N ops Q S U p τ' ds' w') | none => False
  rw [hi]
  show OpE P r N ops _ Q τ ds w _
  unfold OpE
  rw [if_neg (by simp [wantedT, Region.wanted, yieldedT, hj, hb, undef])]
  exact ⟨Keep.refl _ _, h⟩
end
class RowB (w : World) (A : Option Addr) (w00 : outParam World) (cs : outParam (List Value)) : Prop where
  row : RowP w A cs
  far : cs = [] ∨ ∀ a, A = some a → a.block < w00.heap.size
class Above (S : Nat → Prop) (w00 : World) : Prop where ge : ∀ k, S k → w00.heap.size ≤ k
instance above_no (w00 : World) : Above NoB w00 := ⟨fun _ h => h.elim⟩
instance above_one (b : Nat) (w1 w00 : World) [n : New b w1] [g : Ge w1 w00] : Above (OneB b) w00 := ⟨fun k e => by have e' : k = b := e; have := n.eq; have := g.le; omega⟩
instance above_own (A : Option Addr) (n c : Nat) (w1 w00 : World) [h : NewA A w1] [g : Ge w1 w00] : Above (OwnB (.slice A n c)) w00 := ⟨fun k e => by
  cases A with
  | none => cases e
  | some a =>
    have h1 := h.le a rfl
    have h2 := g.le
    have h3 : some k = some a.block := e
    injection h3 with h3
    omega⟩
theorem rowB_of {w : World} {A : Option Addr} {cs : List Value} (h : RowP w A cs) : RowB w A w cs := ⟨h, by
  cases cs with
  | nil => exact .inl rfl
  | cons v cs =>
    refine .inr ?_
    obtain ⟨a, h1, h2⟩ := h 0 v rfl
    intro a' ha'
    rw [h1] at ha'
    cases ha'
    rcases Nat.lt_or_ge a.block w.heap.size with h3 | h3
    · exact h3
    · have hb : (a.add 0).block = a.block := block_add a 0
      simp [World.cell?, hb, Array.getElem?_eq_none h3] at h2⟩
theorem RowB.keep {w w' w00 : World} {A : Option Addr} {cs : List Value} {S : Nat → Prop} (h : RowB w A w00 cs) (hk : Keep S w w') (hs : ∀ k, S k → w00.heap.size ≤ k) : RowB w' A w00 cs := by
  rcases h.far with e | e
  · subst e; exact ⟨fun j v h => by simp at h, .inl rfl⟩
  · exact ⟨h.row.keep hk (fun a ha hS => by have h1 := e a ha; have h2 := hs _ hS; omega), .inr e⟩
instance (priority := low) row_of_B (w : World) (A : Option Addr) (w00 : World) (cs : List Value) [h : RowB w A w00 cs] : Row w A cs := ⟨h.row⟩
instance rowB_lk (w' w : World) (S : Nat → Prop) (A : Option Addr) (w00 : World) (cs : List Value) [l : Lk w' w S] [h : RowB w A w00 cs] [u : Above S w00] : RowB w' A w00 cs := h.keep l.keep u.ge
section
variable {P : Program} {r : Option Nat} {N : Nat} {Q : Post} {τ : Tau} {ds : List Deferred} {w : World} {ty : TypeId} {ops : Array Oper} {rest : List Oper} {pos : String} {aft : Array Edge} {d : Nat}
theorem xl_gcallv {j e' : Nat} {b : Bool} {g : Operand} {args : List Operand} {at_ : Array TypeId} {gv : Value} {vs : List Value} {R : Value → World → Prop} (hj : (ops[j]?).bind (·.dst) = some e') (hb : evO N τ (.tmp e') = .bool b) [hg : EvO N τ g gv] [hv : EvL N τ args vs]
    (hc : CallV P gv vs w R) (h : ∀ v w', R v w' → XL P r N ops Q rest (upd τ d v) ds w') : XL P r N ops Q (⟨some d, .call { callee := .value g, args := args.toArray, argTypes := at_ }, ty, pos, aft, some (j, b)⟩ :: rest) τ ds w := by
  have := OpE_callv (P := P) (r := r) (N := N) (Q := Q) (τ := τ) (ds := ds) (w := w) (ty := ty) (ops := ops) (pos := pos) (aft := aft) (at_ := at_) (g := g) (args := args) (dst := some d) (hg := hg) (hv := hv) hc h
  show OpE P r N ops _ Q τ ds w _
  unfold OpE at *
  rw [if_pos (by simp [wantedT, Region.wanted, yieldedT, hj, hb])]
  rw [if_pos (by rfl)] at this
  exact this
end
/-! arrays built -/
class FillA (cs : Array Value) (parts : List (Nat × Value)) (ds : outParam (Array Value)) : Prop where eq : Instr.fill (fun i => some (i * 1, 1)) cs parts = some ds
instance fillA_nil (cs : Array Value) : FillA cs [] cs := ⟨rfl⟩
instance fillA_cons (cs cs1 ds : Array Value) (i : Nat) (v : Value) (rest : List (Nat × Value)) [hv : Cells v [v].toArray] [h1 : CsPut cs i [v] cs1] [k : FillA cs1 rest ds] : FillA cs ((i, v) :: rest) ds := ⟨by
  obtain ⟨e1, e2⟩ := h1.eq
  rw [fill_cons (off := i) (sz := 1) (vs := [v]) (by rw [Nat.mul_one]) hv.eq rfl e2, e1]
  exact k.eq⟩
section
variable {P : Program} {r : Option Nat} {N : Nat} {S : Nat → Prop} {τ : Tau} {w : World} {ty : TypeId}
theorem v_buildA {t e : TypeId} {n : Nat} {parts : List (Nat × Operand)} {vs : List (Nat × Value)} {sz bytes eb : Nat} {z ze : Value} {zc cs : Array Value} [hv : EvP N τ parts vs] [hu : Und P t (.array n e)] [hi : Inf P t sz bytes z] [he : Inf P e 1 eb ze] [hz : Cells z zc] [hf : FillA zc vs cs] :
    Val P r N S (.build t parts.toArray) ty τ w (.agg cs) := ⟨fun _ => nofun, fun W _ => by
  obtain ⟨i, h3, h4, h5, h6⟩ := hi.ex
  obtain ⟨j, g3, g4, g5, g6⟩ := he.ex
  have hfill := hf.eq
  have hs : (sizeOf e : Sem Nat).run P W = .ok 1 W := by simp [sizeOf, typeInfo, program, Sem.run, g3, g4]
  simp only [execOp, Instr.build, Sem.run_bind, zeroValue, typeInfo, program, Sem.run, h3, h6, Sem.run_pure, Result.andThen_ok, run_underlying hu.eq, hz.eq]
  have e1 : (parts.toArray.map fun (x : Nat × Operand) => (x.1, evO N τ x.2)).toList = vs := by simp [hv.eq]
  simp only [hs, e1, hfill, Sem.run_pure, Result.andThen_ok]⟩
end
theorem v_indexS {P : Program} {r : Option Nat} {N : Nat} {S : Nat → Prop} {τ : Tau} {w : World} {ty : TypeId} {x y : Operand} {t : TypeId} {s : ByteArray} {i : Int} (k : Nat) [hx : EvO N τ x (.string s)] [hy : EvO N τ y (.int .i64 i)] [hu : Und P t .string] (hi : i = (k : Int)) (hk : k < s.size) :
    Val P r N S (.index t x y) ty τ w (.int .u8 ((s[k]'hk).toNat : Int)) := ⟨fun _ => nofun, fun W _ => by
  subst hi
  have h1 : (0 : Int) ≤ (k : Int) ∧ (k : Int) < (s.size : Int) := by omega
  have := run_index_string (P := P) (w := W) t s .i64 (k : Int) hu.eq
  rw [dif_pos h1] at this
  simp only [Int.toNat_natCast] at this
  simp only [execOp, hx.eq, hy.eq, Sem.run_bind, this, Result.andThen_ok, Sem.run_pure]⟩
theorem v_sneq {P : Program} {r : Option Nat} {N : Nat} {S : Nat → Prop} {τ : Tau} {w : World} {ty : TypeId} {a b : ByteArray} {x y : Operand} {t t' : TypeId} [hx : EvO N τ x (.string a)] [hy : EvO N τ y (.string b)] : Val P r N S (.binOp .neq t x y t') ty τ w (.bool (!decide (a = b))) := ⟨fun _ => nofun, fun W _ => by
  have e : (a.toList == b.toList) = decide (a = b) := by
    rw [beq_dec]; congr 1; rw [eq_iff_iff]
    exact ⟨fun h => ByteArray.ext (by have := congrArg List.toArray h; simpa [ByteArray.toList_eq] using this), fun h => by rw [h]⟩
  simp [execOp, hx.eq, hy.eq, eqGuard, binOp, Op.stringOp, e]⟩
theorem v_congr {P : Program} {r : Option Nat} {N : Nat} {S : Nat → Prop} {op : Op} {ty : TypeId} {τ : Tau} {w : World} {v u : Value} (h : Val P r N S op ty τ w v) (e : v = u) : Val P r N S op ty τ w u := e ▸ h
/-- A letter is one byte, and anything else is no letter. -/
theorem decode_odd (s : ByteArray) (pos : Nat) (h : pos < s.size) (ha : 128 ≤ (s[pos]'h).toNat) : 128 ≤ (Utf8.decode s pos).1 := by
  have e : s.get! (pos + 0) = s[pos]'h := by
    show s.get! pos = _
    simp [ByteArray.get!, getElem!_pos, h]
    rfl
  have h1 : ¬ (s[pos]'h).toNat < 128 := by omega
  simp only [Utf8.decode, e, h1, if_false]
  split
  · split
    · next h2 => exact h2
    · decide
  split
  · split
    · next h2 =>
      simp only [Bool.and_eq_true, decide_eq_true_eq] at h2
      have := h2.1
      show 128 ≤ _
      omega
    · decide
  split
  · split
    · next h2 =>
      simp only [Bool.and_eq_true, decide_eq_true_eq] at h2
      have := h2.1
      show 128 ≤ _
      omega
    · decide
  · decide
abbrev In64 (a : Int) : Prop := -9223372036854775808 ≤ a ∧ a ≤ 9223372036854775807
abbrev byteC (b : UInt8) : Value := .int .u8 (b.toNat : Int)
abbrev bytesC (xs : List UInt8) : List Value := xs.map byteC
theorem bytesC_one (xs : List UInt8) : ∀ u ∈ bytesC xs, u.oneCell' = true := by
  intro u hu
  obtain ⟨a, _, rfl⟩ := List.mem_map.1 hu
  rfl
section
variable {P : Program} {r : Option Nat} {N : Nat} {S : Nat → Prop} {τ : Tau} {w : World} {ty : TypeId}
theorem e_convConst {x : Operand} {t e : TypeId} {b n c : Nat} {C : Array Value} {G : Value → World → Prop} [hx : EvO N τ x (.slice (some ⟨b, 0, none⟩) n c)] [ht : Und P t (.slice e)] [he : Und P e (.int .u8)] [hb : Blk w b (.cells C e (0, 0))]
    (h : ∀ w', Lk w' w (OneB b) → w'.heap[b]? = some (.cells C e (C.size, C.size + 1)) → G (.slice (some ⟨b, 0, none⟩) n c) w') : EffV P N (OneB b) (.convert t t x) ty τ w G := by
  have hlt : b < w.heap.size := (Array.getElem?_eq_some_iff.1 hb.eq).1
  have hsh : w.shape? b = some (e, C.size) := by unfold World.shape?; rw [hb.eq]
  have hk : Keep (OneB b) w (w.freeze ⟨b, C.size, none⟩ 1) := by
    unfold World.freeze
    rw [if_neg (by decide)]
    refine ⟨rfl, rfl, rfl, by simp, fun k _ hk => ?_⟩
    have hne : b ≠ k := fun e => hk e.symm
    simp [Array.getElem?_modify, hne]
  have hn : (w.freeze ⟨b, C.size, none⟩ 1).heap[b]? = some (.cells C e (C.size, C.size + 1)) := by
    unfold World.freeze
    rw [if_neg (by decide)]
    simp only [Array.getElem?_modify, hb.eq]
    rfl
  refine ⟨fun _ => nofun, _, _, ?_, hk, h _ ⟨hk⟩ hn⟩
  simp [execOp, hx.eq, convert, run_underlying ht.eq, run_underlying he.eq, markStringish, hsh, Result.andThen, Sem.run]
theorem run_strRow {src dst e : TypeId} (hs : P.underlying src = some (.slice e)) (he : P.underlying e = some (.int .u8)) (hd : P.underlying dst = some .string) {A : Option Addr} {n c : Nat} {xs : List UInt8} (hr : RowP w A (bytesC xs)) (hl : xs.length = n) :
    (convert src dst (.slice A n c)).run P w = .ok (.string ⟨xs.toArray⟩) w := by
  cases A with
  | none =>
    have : xs = [] := by
      cases xs with
      | nil => rfl
      | cons a xs => obtain ⟨a', h, _⟩ := hr 0 _ rfl; cases h
    subst this
    exact run_convert_bytes_nil w src e hs he n c dst hd
  | some a =>
    have hl2 : (loadCells a n).run P w = .ok ((xs.map fun b => ((b.toNat : Nat) : Int)).map (Value.int .u8)).toArray w := by
      have := run_loadCells_list (P := P) w a (bytesC xs) (fun j v hj => by
        obtain ⟨a', h1, h2⟩ := hr j v hj
        cases h1
        exact h2)
      simpa [hl, bytesC, Function.comp_def] using this
    rw [run_convert_bytes_string w src dst e _ n c hs he hd, run_bytesToString w _ n c _ hl2, foldl_push_bytes]
    have h3 : (xs.map fun b => ((b.toNat : Nat) : Int)).map (fun n => UInt8.ofNat n.toNat) = xs := by
      rw [List.map_map]
      conv => rhs; rw [← List.map_id xs]
      apply List.map_congr_left
      intro b _
      simp
    rw [h3]
    simp [ByteArray.empty, ByteArray.emptyWithCapacity]
    rfl
theorem v_bytesStr {x : Operand} {s t e : TypeId} {A : Option Addr} {n c : Nat} {xs : List UInt8} [hx : EvO N τ x (.slice A n c)] [hs : Und P s (.slice e)] [he : Und P e (.int .u8)] [hd : Und P t .string] [hr : Row w A (bytesC xs)] [ho : RowOut S A] (hl : xs.length = n) : Val P r N S (.convert s t x) ty τ w (.string ⟨xs.toArray⟩) := ⟨fun _ => nofun, fun W hW => by
  have := run_strRow (P := P) (w := W) hs.eq he.eq hd.eq (c := c) (hr.row.keep hW ho.out) hl
  simp [execOp, hx.eq, this]⟩
end
end Go.Wst
