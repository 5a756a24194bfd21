/-
  What the rows of the disk's laws share: things opened, with their bytes.
-/
import Derived.Test.YtabknhgbijcklaaO
import Derived.Test.YtabknhgbijcklaaRb03
set_option maxRecDepth 100000
set_option linter.all false
namespace Go.Proofs.Ytabknhgbijcklaa
open Go.Wst Go.Wst.Dm
open Go.ChangeShapes Go.WideShapes Go.ChangeAt Go.RowKit Go.Deep
section
variable {H : Type} {enc : TypeId × Value → H} {w : World} {base : Nat} {spare : Nat → Bool} {held : Bool}
theorem open_bytes3 {fuel : Nat} {cs : List Value} {x : DataW H × List MemPlace} (h : DataW.trod enc Try.prog w base spare held fuel 29 cs = some x) :
    ∃ (A : Option Addr) (n c : Nat) (bs : List UInt8), cs = [.slice A n c] ∧ bs.length = n ∧ RowP w A (bytesC bs) ∧ n ≤ c ∧ True ∧ n ≤ 9223372036854775807 := by
  have hcap : ∀ A n c, cs = [.slice A n c] → n ≤ c := by
    intro A n c e
    rcases DataW.trod_slice Try.underlying29 h with ⟨h1, _⟩ | ⟨a, len, cap, _, _, _, _, h1, _, _, h2, _⟩
    · rw [e] at h1; cases h1; omega
    · rw [e] at h1; cases h1; exact h2
  obtain ⟨A, n, c, xs, rfl, hl, hr, hq, _, hn⟩ := open_rows (ea := fun i : Int => [Value.int .u8 i]) (Q := fun i => 0 ≤ i ∧ i ≤ 255) (sz := 1) (fun _ => rfl) Try.underlying29 (by kernel_rfl) (fun fuel cs x h => by
    obtain ⟨n, rfl, _, hw⟩ := DataW.trod_int Try.underlying5 h
    exact ⟨n, rfl, wf_byte hw⟩) h
  refine ⟨A, n, c, xs.map (fun i => UInt8.ofNat i.toNat), rfl, by simp [hl], ?_, hcap _ _ _ rfl, trivial, hn⟩
  have e : bytesC (xs.map (fun i => UInt8.ofNat i.toNat)) = xs.flatMap (fun i : Int => [Value.int .u8 i]) := by
    clear hr hl h
    induction xs with
    | nil => rfl
    | cons a xs ih =>
      have h1 := hq a (by simp)
      have h2 := ih (fun b hb => hq b (by simp [hb]))
      simp only [bytesC, List.map_cons, List.flatMap_cons, List.singleton_append] at h2 ⊢
      rw [h2]
      congr 1
      simp only [byteC, UInt8.toNat_ofNat']
      congr 1
      have : a.toNat < 256 := by omega
      omega
  rw [e]
  exact hr
theorem open_thing (fuel : Nat) (cs : List Value) (x : DataW H × List MemPlace) (h : DataW.trod enc Try.prog w base spare held fuel 43 cs = some x) :
    ∃ a : LT, cs = thC a ∧ RowP w a.A (bytesC a.t.bytes) ∧ In64 a.t.n ∧ a.t.bytes.length ≤ a.c := by
  have hl : cs.length = 4 := (trod_field Try.underlying43 h).1.trans (by kernel_rfl)
  have ha := trod_at (pl := [(0, 1, 3), (1, 1, 9), (2, 1, 29), (3, 1, 3)]) ⟨_, Try.underlying43, by kernel_rfl⟩ h
  match cs, hl with
  | [c0, c1, c2, c3], _ =>
    obtain ⟨_, _, h0⟩ := ha 0 _ _ _ rfl
    obtain ⟨_, _, h1⟩ := ha 1 _ _ _ rfl
    obtain ⟨_, _, h2⟩ := ha 2 _ _ _ rfl
    obtain ⟨_, _, h3⟩ := ha 3 _ _ _ rfl
    obtain ⟨n0, e0, _, _⟩ := DataW.trod_int Try.underlying3 h0
    obtain ⟨s1, e1, _⟩ := open_str h1
    obtain ⟨A, m, c, bs, e2, hbl, hr, hcap, _, _⟩ := open_bytes3 h2
    obtain ⟨n3, e3, _, hw⟩ := DataW.trod_int Try.underlying3 h3
    simp at e0 e1 e2 e3
    subst e0; subst e1; subst e2; subst e3; subst hbl
    exact ⟨⟨⟨n0, s1, bs, n3⟩, A, c⟩, rfl, hr, wf_i64 hw, hcap⟩
theorem open_things {fuel : Nat} {cs : List Value} {x : DataW H × List MemPlace} (h : DataW.trod enc Try.prog w base spare held fuel 36 cs = some x) :
    ∃ (A : Option Addr) (n c : Nat) (xs : List LT), cs = [.slice A n c] ∧ xs.length = n ∧ RowP w A (xs.flatMap thC) ∧ (∀ a ∈ xs, RowP w a.A (bytesC a.t.bytes) ∧ In64 a.t.n ∧ a.t.bytes.length ≤ a.c) ∧ (A.isSome = true ∨ n = 0) ∧ n ≤ 9223372036854775807 := by
  refine open_rows (Q := fun a : LT => RowP w a.A (bytesC a.t.bytes) ∧ In64 a.t.n ∧ a.t.bytes.length ≤ a.c) (ea := thC) (sz := 4) (fun _ => rfl) Try.underlying36 (by kernel_rfl) (fun fuel cs x h => ?_) h
  exact open_thing _ _ _ h
theorem open_crash (fuel : Nat) (cs : List Value) (x : DataW H × List MemPlace) (h : DataW.trod enc Try.prog w base spare held fuel 38 cs = some x) :
    ∃ a b : Int, cs = [.int .i64 a, .int .i64 b] ∧ In64 a ∧ In64 b := by
  have hl : cs.length = 2 := (trod_field Try.underlying38 h).1.trans (by kernel_rfl)
  have ha := trod_at (pl := [(0, 1, 3), (1, 1, 3)]) ⟨_, Try.underlying38, by kernel_rfl⟩ h
  match cs, hl with
  | [c0, c1], _ =>
    obtain ⟨_, _, h0⟩ := ha 0 _ _ _ rfl
    obtain ⟨_, _, h1⟩ := ha 1 _ _ _ rfl
    obtain ⟨n0, e0, _, hw0⟩ := DataW.trod_int Try.underlying3 h0
    obtain ⟨n1, e1, _, hw1⟩ := DataW.trod_int Try.underlying3 h1
    simp at e0 e1
    subst e0; subst e1
    exact ⟨n0, n1, rfl, wf_i64 hw0, wf_i64 hw1⟩
end
end Go.Proofs.Ytabknhgbijcklaa
