/-
  Walks, printed by a program of this workplace (wip/tools/sx.py) off the functions' code and a text of contracts.
-/
import Derived.Test.YtbihphclmdokeaaK
set_option linter.all false
set_option maxRecDepth 100000
set_option synthInstance.maxSize 100000
set_option synthInstance.maxHeartbeats 400000
namespace Go.Proofs.Ytbihphclmdokeaa
open Go.Wst
open Go.Wst.Sm
/-- What a slice in a cell holds of what was told. -/
def AppI (b2 : Nat) (tc te : TypeId) (base : Nat) : Seen → (Nat → Prop) → World → Prop := fun pre F W =>
  ∃ (ks : List Int) (V : Value), pre = ks.map (fun k => [Value.int .i64 k]) ∧ W.heap[b2]? = some (.cells [V].toArray tc (0, 0)) ∧ W.ownsRow base te 1 V ks.length (ints ks) ∧ (∀ k, F k ↔ (k = b2 ∨ V.ownBlock = some k)) ∧ base ≤ W.heap.size
theorem appI_stable {b2 : Nat} {tc te : TypeId} {base : Nat} {w0 : World} : Stable (AppI b2 tc te base) w0 := by
  refine ⟨?_, ?_⟩
  · rintro pre F W ⟨ks, V, _, h1, h2, h3, _⟩ k hk
    rcases (h3 k).1 hk with e | e
    · subst e; exact (Array.getElem?_eq_some_iff.1 h1).1
    · exact (h2.lt k e).2
  · rintro pre F W W' S ⟨ks, V, h0, h1, h2, h3, h4⟩ hk hs _
    exact ⟨ks, V, h0, (hk.block b2 (Array.getElem?_eq_some_iff.1 h1).1 (hs b2 ((h3 b2).2 (.inl rfl)))).trans h1, own_keep h2 hk (fun k hk => hs k ((h3 k).2 (.inr hk))), h3, Nat.le_trans h4 hk.size⟩

/-- slices.AppendSeq[[]int,int] -/
theorem appendSeq_ok (gf : FuncId) (gc : List Value) (Own : Nat → Prop) (Al Fin : Seen → Prop) (w : World) (hit : ∀ W, Lk W w NoB → IterI Try.prog (.func (.func gf) ([] : List Value).toArray gc.toArray) Own Al Fin W) (hOwn : ∀ k, Own k → k < w.heap.size) (hAl : ∀ pre, Al pre → ∃ ks : List Int, pre = ks.map (fun k => [Value.int .i64 k]) ∧ ks.length ≤ 1000000) : Ret Try.prog 84 #[.slice none 0 0, .func (.func gf) ([] : List Value).toArray gc.toArray] w (fun v w' => ∃ (ks : List Int) (A : Option Addr) (c : Nat), Fin (ks.map (fun k => [Value.int .i64 k])) ∧ v = .slice A ks.length c ∧ w'.ownsRow w.heap.size 3 1 v ks.length (ints ks) ∧ Lk w' w NoB) := by
  refine ret_of_x (N := 13) (l := [.slice none 0 0, .func (.func gf) ([] : List Value).toArray gc.toArray]) Try.func84 rfl rfl (Nat.le_of_ble_eq_true rfl) ?_
  refine x_seq ?_
  refine x_regionL ?_
  refine xl_e (e_box fun b2 w1 nb2 lb2 kb2 => ?_)
  refine xl_v v_assign ?_
  refine xl_nil ?_
  refine x_seq ?_
  refine x_seq ?_
  refine x_regionL ?_
  refine xl_v v_move ?_
  refine xl_nil ?_
  refine x_block ?_
  have hb2w : w.heap.size ≤ b2 := Nat.le_of_eq nb2.eq.symm
  have hb2l : b2 < w1.heap.size := Has.lt
  refine x_range (ps := [7]) (Own) (Al) (Fin) (fun W l => hit W lkc) (fun k hk => Nat.lt_of_lt_of_le (hOwn k hk) Ge.le) (fun pre v h => (by obtain ⟨ks, h1, _⟩ := hAl _ h; obtain ⟨a, b, _, _, h2⟩ := List.map_eq_append_iff.1 h1.symm; obtain ⟨k, c, _, h3, _⟩ := List.map_eq_cons_iff.1 h2; rw [← h3]; rfl)) (AppI b2 35 3 w1.heap.size) (fun _ _ _ _ => False) (OneB b2) (appI_stable) (fun _ => ⟨fun _ _ _ h => h.elim, fun _ _ _ _ _ h => h.elim⟩) (⟨[], .slice none 0 0, rfl, Blk.eq, World.ownsRow_nil _ _ _ _, fun k => ⟨fun e => .inl e, fun e => e.elim id (fun e => by cases e)⟩, Nat.le_refl _⟩) (fun k hk e => by have e' : k = b2 := hk; have := hOwn k e; omega) (fun v τ => Ev τ 2 (.pointer (some ⟨b2, 0, none⟩)) ∧ ∃ x, v = [x] ∧ Ev τ 5 x) ?assign ?body ?normal ?jump
  case assign =>
    intro l2 v2 w2 hv2
    obtain ⟨x, rfl⟩ : ∃ x, v2 = [x] := List.length_eq_one_iff.1 hv2
    simp only [updL]
    refine x_regionL ?_
    refine xl_v v_assign ?_
    refine xl_nil ?_
    exact ⟨rfl, inferInstance, x, rfl, inferInstance⟩
  case body =>
    intro l pre v F w3 τ3 ds3 hal hI hB
    obtain ⟨ks, V, rfl, hb2, hown, hFe, hsz⟩ := hI
    obtain ⟨e2, x, rfl, e5⟩ := hB
    obtain ⟨ks2, hks2, hlen2⟩ := hAl _ hal
    obtain ⟨a, b, rfl, h1, h2⟩ := List.map_eq_append_iff.1 hks2.symm
    obtain ⟨k, c, rfl, h3, h4⟩ := List.map_eq_cons_iff.1 h2
    obtain rfl : Value.int .i64 k = x := by simpa using h3
    have hla : a.length = ks.length := by simpa using congrArg List.length h1
    have hkl : ks.length + 1 ≤ 1000000 := by simp at hlen2; omega
    haveI kb : Blk w3 b2 _ := ⟨hb2⟩
    haveI nb : NotS (OwnB V) b2 := ⟨fun e => by have := (hown.lt _ (Eq.symm e)).1; omega⟩
    refine x_block ?_
    refine x_regionL ?_
    refine xl_v (by first | exact v_load | exact v_loadO (by omega) | exact v_loadFf (by omega) | exact v_loadF0 (by omega)) ?_
    refine xl_v v_move ?_
    refine xl_e (e_buildSliceN rfl fun b3 w4 n3 l3 k3 => ?_)
    refine xl_e (e_append' (own_ext hown lkc) (Nat.le_trans hsz Ge.le) rfl Cell1L.eq (by decide) (.inl rfl) (by omega) (by omega) fun A3 c3 w5 ho3 l3 hn3 => ?_)
    refine xl_s (e_store fun w6 l4 k4 => ?_)
    refine xl_nil ?_
    haveI s1 : SubF (OwnB V) F w3 := ⟨fun j _ e => (hFe j).2 (.inr (Eq.symm e))⟩
    haveI s2 : SubF (OneB b2) F w3 := ⟨fun j _ e => (hFe j).2 (.inl e)⟩
    refine ⟨fun j => j = b2 ∨ (Value.slice A3 (ks.length + 1) c3).ownBlock = some j, ⟨ks ++ [k], _, by simp, k4.eq, ?_, fun j => Iff.rfl, Nat.le_trans hsz (Ge.le : w3.heap.size ≤ w6.heap.size)⟩, kpc, ?_⟩
    · have := own_keep ho3 l4.keep (fun j hj e => by have e' : j = b2 := e; have := (ho3.lt j hj).1; omega)
      simpa [ints] using this
    · rintro j (hj | hj)
      · exact .inl ((hFe j).2 (.inl hj))
      · rcases hn3 with h5 | h5
        · exact .inl ((hFe j).2 (.inr (h5 ▸ hj)))
        · rw [h5] at hj
          cases hj
          exact .inr Ge.le
  case normal =>
    intro D7 pre F w7 hfin hI hkF hsF hD7 hge7 hnF7
    obtain ⟨ks, V, rfl, hb2, hown, hFe, hsz⟩ := hI
    haveI kb : Blk w7 b2 _ := ⟨hb2⟩
    haveI lkF : Lk w7 _ (OneB b2) := ⟨hkF⟩
    obtain ⟨A, c, rfl, _⟩ := ownsRow_form hown
    have hDw : w.heap.size ≤ D7 := Nat.le_trans (Nat.le_trans hb2w (Nat.le_of_lt hb2l)) hge7
    haveI sD : SubF (fun k => k ∈ [D7]) NoB w := ⟨fun k hk e => by simp at e; omega⟩
    refine x_seq ?_
    refine x_regionL ?_
    refine xl_v (by first | exact v_load | exact v_loadO (by omega) | exact v_loadFf (by omega) | exact v_loadF0 (by omega)) ?_
    refine xl_v v_assign ?_
    refine xl_nil ?_
    refine x_ret ?_
    refine finM (rs := [.tmp 4]) rfl [D7] rfl (by simpa using hD7.eq) (by simp) (fun w8 lm8 => ⟨_, inferInstance, ?_⟩)
    refine ⟨ks, A, c, hfin, rfl, ?_, lkc⟩
    refine own_mono (own_keep hown lm8.keep ?_) Ge.le
    intro k hk e
    simp at e
    subst e
    exact hnF7 ((hFe _).2 (.inr hk))
  case jump =>
    exact fun _ _ _ _ _ h => h.elim
end Go.Proofs.Ytbihphclmdokeaa
