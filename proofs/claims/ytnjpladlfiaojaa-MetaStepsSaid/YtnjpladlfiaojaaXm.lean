/-
  The walk's own calculus, thirteenth part: an array inside a row, bits, numbers that wrap. No program is named here.
-/
import Derived.Test.YtnjpladlfiaojaaXl
set_option linter.all false
namespace Go.Wst
section
variable {P : Program} {r : Option Nat} {N : Nat} {S : Nat → Prop} {τ : Tau} {w : World} {ty : TypeId} {α : Type} {A : Option Addr} {cs : List Value} {sz : Nat} {xs : List α}
/-- An element's place in an array whose elements have one cell each. -/
theorem v_indexAA {x y : Operand} {t e : TypeId} {n j j' m bytes : Nat} {z : Value} {i : Int} [hx : EvO N τ x (padd A j)] [hy : EvO N τ y (.int .i64 i)] [hu : Und P t (.array n e)] [hi : Inf P e 1 bytes z] [ha : AddN j m j'] (hk : i = (m : Int)) (hm : m < n) (hn : 1 < n) (hA : A.isSome = true) : Val P r N S (.indexAddr t x y) ty τ w (padd A j') := ⟨fun _ => nofun, fun W _ => by
  obtain ⟨a, rfl⟩ := Option.isSome_iff_exists.1 hA
  obtain ⟨ii, h1, h2, h3, h4⟩ := hi.ex
  subst hk
  have e := add_add a j m
  have e2 := ha.eq
  have e3 : ii.size = 1 := by first | exact h2.symm | exact h2
  have hn' : ¬ n ≤ 1 := by omega
  simp [execOp, hx.eq, hy.eq, Instr.indexAt, asIntOf, run_underlying hu.eq, hm, sizeOf, typeInfo, h1, padd, Instr.sureAddr, e, e2, e3, hn']⟩
theorem v_indexAF {enc : α → List Value} {x y : Operand} {t e : TypeId} {n k j' m bytes : Nat} {z : Value} {i : Int} [hx : EvO N τ x (padd A (k * sz))] [hy : EvO N τ y (.int .i64 i)] [hu : Und P t (.array n e)] [hi : Inf P e 1 bytes z] [ha : AddN (k * sz) m j'] [hr : Row w A cs] [ho : FlatC cs sz α xs enc] (hk : i = (m : Int)) (hm : m < n) (hn : 1 < n) (hpos : 0 < sz) (hkx : k < xs.length) : Val P r N S (.indexAddr t x y) ty τ w (padd A j') :=
  v_indexAA hk hm hn (row_some hr (by rw [ho.eq.1, flat_len ho.eq.2]; exact Nat.mul_pos (by omega) hpos))
theorem v_negw {k : IntKind} {a : Int} {t : TypeId} {x : Operand} [hx : EvO N τ x (.int k a)] : Val P r N S (.unOp .neg t x) ty τ w (.int k (k.wrap (-a))) := ⟨fun _ => nofun, fun W _ => by
  simp [execOp, hx.eq, Op.unary, Op.intArith]⟩
theorem v_shr {k k' : IntKind} {a b : Int} {t t' : TypeId} {x y : Operand} [hx : EvO N τ x (.int k a)] [hy : EvO N τ y (.int k' b)] (h : 0 ≤ b) : Val P r N S (.binOp .shr t x y t') ty τ w (.int k (a.fdiv (2 ^ min b.toNat k.bits))) := ⟨fun _ => nofun, fun W _ => by
  have hb : ¬ b < 0 := by omega
  simp [execOp, hx.eq, hy.eq, eqGuard, binOp, Op.shift, hb]⟩
theorem v_and {k : IntKind} {a b : Int} {t t' : TypeId} {x y : Operand} [hx : EvO N τ x (.int k a)] [hy : EvO N τ y (.int k b)] : Val P r N S (.binOp .and t x y t') ty τ w (.int k (k.wrap (BitVec.ofInt k.bits a &&& BitVec.ofInt k.bits b).toNat)) := ⟨fun _ => nofun, fun W _ => by
  simp [execOp, hx.eq, hy.eq, eqGuard, binOp, Op.intBits]⟩
end
end Go.Wst
