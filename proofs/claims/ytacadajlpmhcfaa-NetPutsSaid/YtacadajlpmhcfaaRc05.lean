/-
  What the rows of the net's laws share: calls opened, with their bytes.
-/
import Derived.Test.YtacadajlpmhcfaaL
import Derived.Test.YtacadajlpmhcfaaRb05
set_option maxRecDepth 100000
set_option linter.all false
namespace Go.Proofs.Ytacadajlpmhcfaa
open Go.Wst Go.Wst.Nm
open Go.ChangeShapes Go.WideShapes Go.ChangeAt Go.RowKit Go.Deep
section
variable {H : Type} {enc : TypeId × Value → H} {w : World} {base : Nat} {spare : Nat → Bool} {held : Bool}
theorem wf_byte {n : Int} (h : (Lit.int .u8 n).wf = true) : 0 ≤ n ∧ n ≤ 255 := by
  simpa [Lit.wf, IntKind.min, IntKind.max, IntKind.signed, IntKind.bits] using h
theorem open_bytes {fuel : Nat} {cs : List Value} {x : DataW H × List MemPlace} (h : DataW.trod enc Try.prog w base spare held fuel 28 cs = some x) :
    ∃ (A : Option Addr) (c : Nat) (bs : List UInt8), cs = [.slice A bs.length c] ∧ RowP w A (bytesC bs) := by
  obtain ⟨A, n, c, xs, rfl, hl, hr, hq, _, _⟩ := open_rows (ea := fun i : Int => [Value.int .u8 i]) (Q := fun i => 0 ≤ i ∧ i ≤ 255) (sz := 1) (fun _ => rfl) Try.underlying28 (by kernel_rfl) (fun fuel cs x h => by
    obtain ⟨n, rfl, _, hw⟩ := DataW.trod_int Try.underlying5 h
    exact ⟨n, rfl, wf_byte hw⟩) h
  refine ⟨A, c, xs.map (fun i => UInt8.ofNat i.toNat), by simp [hl], ?_⟩
  have e : bytesC (xs.map (fun i => UInt8.ofNat i.toNat)) = xs.flatMap (fun i : Int => [Value.int .u8 i]) := by
    clear hr hl h
    induction xs with
    | nil => rfl
    | cons a xs ih =>
      have h1 := hq a (by simp)
      have h2 := ih (fun b hb => hq b (by simp [hb]))
      simp only [bytesC, List.map_cons, List.flatMap_cons, List.singleton_append] at h2 ⊢
      rw [h2]
      congr 1
      simp only [byteC, UInt8.toNat_ofNat']
      congr 1
      have : a.toNat < 256 := by omega
      omega
  rw [e]
  exact hr
theorem open_parcel (fuel : Nat) (cs : List Value) (x : DataW H × List MemPlace) (h : DataW.trod enc Try.prog w base spare held fuel 30 cs = some x) :
    ∃ m : LMsg, cs = msgC m ∧ RowP w m.A (bytesC m.m.bytes) := by
  have hl : cs.length = 3 := (trod_field Try.underlying30 h).1.trans (by kernel_rfl)
  have ha := trod_at (pl := [(0, 1, 3), (1, 1, 3), (2, 1, 28)]) ⟨_, Try.underlying30, by kernel_rfl⟩ h
  match cs, hl with
  | [c0, c1, c2], _ =>
    obtain ⟨_, _, h0⟩ := ha 0 _ _ _ rfl
    obtain ⟨_, _, h1⟩ := ha 1 _ _ _ rfl
    obtain ⟨_, _, h2⟩ := ha 2 _ _ _ rfl
    obtain ⟨n0, e0, _, _⟩ := DataW.trod_int Try.underlying3 h0
    obtain ⟨n1, e1, _, _⟩ := DataW.trod_int Try.underlying3 h1
    obtain ⟨A, c, bs, e2, hr⟩ := open_bytes h2
    simp at e0 e1 e2
    subst e0; subst e1; subst e2
    exact ⟨⟨⟨n0, n1, bs⟩, A, c⟩, rfl, hr⟩
theorem open_act (fuel : Nat) (cs : List Value) (x : DataW H × List MemPlace) (h : DataW.trod enc Try.prog w base spare held fuel 42 cs = some x) :
    ∃ a : LAct, cs = actC a ∧ RowP w a.x.A (bytesC a.x.m.bytes) := by
  have hl : cs.length = 5 := (trod_field Try.underlying42 h).1.trans (by kernel_rfl)
  have ha := trod_at (pl := [(0, 1, 3), (1, 1, 3), (2, 3, 30)]) ⟨_, Try.underlying42, by kernel_rfl⟩ h
  match cs, hl with
  | [c0, c1, c2, c3, c4], _ =>
    obtain ⟨_, _, h0⟩ := ha 0 _ _ _ rfl
    obtain ⟨_, _, h1⟩ := ha 1 _ _ _ rfl
    obtain ⟨_, _, h2⟩ := ha 2 _ _ _ rfl
    obtain ⟨n0, e0, _, _⟩ := DataW.trod_int Try.underlying3 h0
    obtain ⟨n1, e1, _, _⟩ := DataW.trod_int Try.underlying3 h1
    obtain ⟨m, e2, hr⟩ := open_parcel _ _ _ h2
    simp at e0 e1 e2
    obtain ⟨e2, e3, e4⟩ := e2
    subst e0; subst e1; subst e2; subst e3; subst e4
    exact ⟨⟨n0, n1, m⟩, rfl, hr⟩
theorem open_acts {fuel : Nat} {cs : List Value} {x : DataW H × List MemPlace} (h : DataW.trod enc Try.prog w base spare held fuel 37 cs = some x) :
    ∃ (A : Option Addr) (n c : Nat) (xs : List LAct), cs = [.slice A n c] ∧ xs.length = n ∧ RowP w A (xs.flatMap actC) ∧ (∀ a ∈ xs, RowP w a.x.A (bytesC a.x.m.bytes)) ∧ (A.isSome = true ∨ n = 0) ∧ n ≤ 9223372036854775807 := by
  refine open_rows (Q := fun a : LAct => RowP w a.x.A (bytesC a.x.m.bytes)) (ea := actC) (sz := 5) (fun _ => rfl) Try.underlying37 (by kernel_rfl) (fun fuel cs x h => ?_) h
  exact open_act _ _ _ h
theorem open_parcels {fuel : Nat} {cs : List Value} {x : DataW H × List MemPlace} (h : DataW.trod enc Try.prog w base spare held fuel 39 cs = some x) :
    ∃ (A : Option Addr) (n c : Nat) (xs : List LMsg), cs = [.slice A n c] ∧ xs.length = n ∧ RowP w A (xs.flatMap msgC) ∧ (∀ a ∈ xs, RowP w a.A (bytesC a.m.bytes)) ∧ (A.isSome = true ∨ n = 0) ∧ n ≤ 9223372036854775807 := by
  refine open_rows (Q := fun a : LMsg => RowP w a.A (bytesC a.m.bytes)) (ea := msgC) (sz := 3) (fun _ => rfl) Try.underlying39 (by kernel_rfl) (fun fuel cs x h => ?_) h
  exact open_parcel _ _ _ h
end
end Go.Proofs.Ytacadajlpmhcfaa
