/-
  Walks, printed by a program of this workplace (wip/tools/sx.py) off the functions' code and a text of contracts.
-/
import Derived.Test.YtacadajlpmhcfaaK
set_option linter.all false
set_option maxRecDepth 100000
set_option synthInstance.maxSize 100000
set_option synthInstance.maxHeartbeats 400000
namespace Go.Proofs.Ytacadajlpmhcfaa
open Go.Wst
open Go.Wst.Nm
/-! rows that came in: none of them, or it lies below what came since -/
class RowB (w : World) (A : Option Addr) (w00 : outParam World) (cs : outParam (List Value)) : Prop where
  row : RowP w A cs
  far : cs = [] ∨ ∀ a, A = some a → a.block < w00.heap.size
class Above (S : Nat → Prop) (w00 : World) : Prop where ge : ∀ k, S k → w00.heap.size ≤ k
instance above_no (w00 : World) : Above NoB w00 := ⟨fun _ h => h.elim⟩
instance above_one (b : Nat) (w1 w00 : World) [n : New b w1] [g : Ge w1 w00] : Above (OneB b) w00 := ⟨fun k e => by have e' : k = b := e; have := n.eq; have := g.le; omega⟩
instance above_own (A : Option Addr) (n c : Nat) (w1 w00 : World) [h : NewA A w1] [g : Ge w1 w00] : Above (OwnB (.slice A n c)) w00 := ⟨fun k e => by
  cases A with
  | none => cases e
  | some a =>
    have h1 := h.le a rfl
    have h2 := g.le
    have h3 : some k = some a.block := e
    injection h3 with h3
    omega⟩
theorem rowB_of {w : World} {A : Option Addr} {cs : List Value} (h : RowP w A cs) : RowB w A w cs := ⟨h, by
  cases cs with
  | nil => exact .inl rfl
  | cons v cs =>
    refine .inr ?_
    obtain ⟨a, h1, h2⟩ := h 0 v rfl
    intro a' ha'
    rw [h1] at ha'
    cases ha'
    rcases Nat.lt_or_ge a.block w.heap.size with h3 | h3
    · exact h3
    · have hb : (a.add 0).block = a.block := block_add a 0
      simp [World.cell?, hb, Array.getElem?_eq_none h3] at h2⟩
theorem RowB.keep {w w' w00 : World} {A : Option Addr} {cs : List Value} {S : Nat → Prop} (h : RowB w A w00 cs) (hk : Keep S w w') (hs : ∀ k, S k → w00.heap.size ≤ k) : RowB w' A w00 cs := by
  rcases h.far with e | e
  · subst e; exact ⟨fun j v h => by simp at h, .inl rfl⟩
  · exact ⟨h.row.keep hk (fun a ha hS => by have h1 := e a ha; have h2 := hs _ hS; omega), .inr e⟩
instance (priority := low) row_of_B (w : World) (A : Option Addr) (w00 : World) (cs : List Value) [h : RowB w A w00 cs] : Row w A cs := ⟨h.row⟩
instance rowB_lk (w' w : World) (S : Nat → Prop) (A : Option Addr) (w00 : World) (cs : List Value) [l : Lk w' w S] [h : RowB w A w00 cs] [u : Above S w00] : RowB w' A w00 cs := h.keep l.keep u.ge
structure LAct where
  what : Int
  pick : Int
  x : LMsg
abbrev actC (a : LAct) : List Value := [.int .i64 a.what, .int .i64 a.pick, .int .i64 a.x.m.src, .int .i64 a.x.m.dst, .slice a.x.A a.x.m.bytes.length a.x.c]
instance encN_act : EncN actC 5 := ⟨fun _ => rfl⟩
/-- waystation/waystationlaw05.few -/
theorem few_ok (A : Option Addr) (n c : Nat) (xs : List LAct) (w : World) [Row w A (xs.flatMap actC)] (hl : xs.length = n) (hn : n ≤ 9223372036854775807) : Ret Try.prog 16 #[.slice A n c] w (fun v w' => (∃ b, v = .bool b ∧ (b = true → n ≤ 100 ∧ ∀ j (h : j < xs.length), xs[j].x.m.bytes.length ≤ 10000)) ∧ w = w') := by
  refine ret_of_x (N := 28) (l := [.slice A n c]) Try.func16 rfl rfl (Nat.le_of_ble_eq_true rfl) ?_
  refine x_seq ?_
  refine x_regionL ?_
  refine xl_v v_assign ?_
  refine xl_nil ?_
  refine x_seq ?_
  refine x_regionL ?_
  refine xl_v v_assign ?_
  refine xl_nil ?_
  refine x_seq ?_
  refine x_seq ?_
  refine x_regionL ?_
  refine xl_v v_assign ?_
  refine xl_nil ?_
  refine x_block ?_
  refine x_loop (fun m τ ds w' => ds = [] ∧ w = w' ∧ ∃ k s : Nat, m = n - k ∧ k ≤ n ∧ 100 * k ≤ s ∧ s ≤ 20101 ∧ (∀ j (h : j < xs.length), j < k → min xs[j].x.m.bytes.length 10001 ≤ s) ∧ Ev τ 0 (.slice A n c) ∧ Ev τ 3 (.int .i64 (s : Int)) ∧ Ev τ 4 (.int .i64 (k : Int))) (n) ?start ?round
  case start =>
    exact ⟨rfl, rfl, 0, 0, rfl, by omega, by omega, by omega, fun j h hj => by omega, inferInstance, evc, evc⟩
  case round =>
    intro m τ1 ds1 w1 hI
    obtain ⟨rfl, rfl, k, s, rfl, hk, hs1, hs2, hmin, e0, e3, e4⟩ := hI
    refine x_seq ?_
    refine x_seq ?_
    refine x_regionL ?_
    refine xl_v v_move ?_
    refine xl_v v_move ?_
    refine xl_v v_len ?_
    refine xl_v v_lss ?_
    refine xl_v v_move ?_
    refine xl_split 9 (fun g9 => ?_) (fun g9 => ?_)
    ·
      refine xl_gv rfl EvO.eq v_move ?_
      refine xl_gv rfl EvO.eq v_leq ?_
      refine xl_v (by first | exact v_pickT | exact v_pickF | exact v_pick) ?_
      refine xl_nil ?_
      first | refine x_condP (fun c1 => ?_) (fun c1 => ?_) | refine x_condN (fun c1 => ?_) (fun c1 => ?_) | refine x_condE (fun c1 => ?_) (fun c1 => ?_)
      ·
        have hk1 : k < xs.length := by simp at g9; omega
        have hs3 : s ≤ 10000 := by omega
        have hA := row_some (w := w) (A := A) (cs := xs.flatMap actC) inferInstance (by rw [flat_len (sz := 5) (fun _ => rfl)]; omega)
        refine x_skip ?_
        refine x_seq ?_
        refine x_block ?_
        refine x_regionL ?_
        refine xl_v v_move ?_
        refine xl_v (v_add (by omega)) ?_
        refine xl_v v_move ?_
        refine xl_v v_move ?_
        refine xl_v (v_indexF k (by decide) rfl (by omega) hk1) ?_
        refine xl_v (by first | exact v_fieldAddr | exact v_fieldAddrF (by decide) (by omega) | exact v_fieldAddrR (by first | assumption | rfl)) ?_
        refine xl_v (v_congr (u := padd A (k * 5 + 4)) (v_fieldAddrR hA) rfl) ?_
        refine xl_v (v_loadFf hk1) ?_
        refine xl_v v_len ?_
        refine xl_v v_min ?_
        refine xl_v (v_add (by omega)) ?_
        refine xl_v v_assign ?_
        refine xl_nil ?_
        refine x_regionL ?_
        refine xl_v v_move ?_
        refine xl_v (v_add (by omega)) ?_
        refine xl_v v_assign ?_
        refine xl_nil ?_
        refine ⟨_, ?_, rfl, rfl, k + 1, s + 100 + min xs[k].x.m.bytes.length 10001, rfl, by omega, by omega, by omega, ?_, inferInstance, evc (congrArg (Value.int .i64) (by omega)), evc⟩
        · omega
        · intro j hj hjk
          by_cases h : j = k
          · subst h; omega
          · have := hmin j hj (by omega); omega
      ·
        refine x_exit ?_
        refine x_seq ?_
        refine x_regionL ?_
        refine xl_v v_move ?_
        refine xl_v v_leq ?_
        refine xl_v v_assign ?_
        refine xl_nil ?_
        refine x_ret ?_
        refine fin1 rfl ?_
        refine ⟨⟨_, rfl, ?_⟩, rfl⟩
        intro hb
        simp only [decide_eq_true_eq] at hb
        have hke : k = n := by
          first
            | omega
            | (simp at g9; omega)
        subst hke
        exact ⟨by omega, fun j hj => by have := hmin j hj (by omega); omega⟩
    ·
      refine xl_gs rfl EvO.eq ?_
      refine xl_gs rfl EvO.eq ?_
      refine xl_v (by first | exact v_pickT | exact v_pickF | exact v_pick) ?_
      refine xl_nil ?_
      refine x_condF ?_
      refine x_exit ?_
      refine x_seq ?_
      refine x_regionL ?_
      refine xl_v v_move ?_
      refine xl_v v_leq ?_
      refine xl_v v_assign ?_
      refine xl_nil ?_
      refine x_ret ?_
      refine fin1 rfl ?_
      refine ⟨⟨_, rfl, ?_⟩, rfl⟩
      intro hb
      simp only [decide_eq_true_eq] at hb
      have hke : k = n := by
        first
          | omega
          | (simp at g9; omega)
      subst hke
      exact ⟨by omega, fun j hj => by have := hmin j hj (by omega); omega⟩
end Go.Proofs.Ytacadajlpmhcfaa
