/-
  Walks, printed by a program of this workplace (wip/tools/sx.py) off the functions' code and a text of contracts.
-/
import Derived.Test.YtabknhgbijcklaaL
import Derived.Test.YtabknhgbijcklaaSh
import Derived.Sort.OwnSorted
set_option linter.all false
set_option maxRecDepth 100000
set_option synthInstance.maxSize 100000
set_option synthInstance.maxHeartbeats 400000
namespace Go.Proofs.Ytabknhgbijcklaa
open Go.Wst
open Go.Wst.Dm
abbrev strs (ks : List ByteArray) : List Value := ks.map Value.string
def toB (l : List UInt8) : ByteArray := ⟨l.toArray⟩
def sortB (ks : List ByteArray) : List ByteArray := ((ks.map (fun s => s.data.toList)).mergeSort fun x y => decide (x ≤ y)).map toB
theorem toB_data (s : ByteArray) : toB s.data.toList = s := by cases s; rfl
theorem strs_enc (ks : List ByteArray) : strs ks = (ks.map (fun s => s.data.toList)).map encStr := by
  simp only [strs, List.map_map]
  apply List.map_congr_left
  intro s _
  show Value.string s = Value.string (toB s.data.toList)
  rw [toB_data]
theorem strs_toB (ls : List (List UInt8)) : strs (ls.map toB) = ls.map encStr := by
  simp only [strs, List.map_map]
  rfl
theorem sortB_perm {ks L : List ByteArray} (hp : ks.Perm L) (hr : L.Pairwise blt) : sortB ks = L := by
  have h1 : (ks.map (fun s => s.data.toList)).mergeSort (fun x y => decide (x ≤ y)) = L.map (fun s => s.data.toList) := by
    have tr : ∀ a b c : List UInt8, decide (a ≤ b) = true → decide (b ≤ c) = true → decide (a ≤ c) = true := fun a b c h1 h2 => decide_eq_true (List.le_trans (of_decide_eq_true h1) (of_decide_eq_true h2))
    have to : ∀ a b : List UInt8, (decide (a ≤ b) || decide (b ≤ a)) = true := fun a b => by
      rcases List.le_total a b with h | h <;> simp [h]
    refine List.Perm.eq_of_pairwise (le := fun x y => decide (x ≤ y) = true) ?_ (List.pairwise_mergeSort tr to _) ?_ ?_
    · intro a b _ _ h1 h2
      exact List.le_antisymm (of_decide_eq_true h1) (of_decide_eq_true h2)
    · rw [List.pairwise_map]
      exact hr.imp (fun {a b} h => decide_eq_true (by
        have h' : a.data.toList < b.data.toList := by rw [← ByteArray.toList_eq, ← ByteArray.toList_eq]; exact h
        exact List.le_of_lt h'))
    · exact (List.mergeSort_perm _ _).trans (hp.map _)
  rw [sortB, h1, List.map_map]
  have : (toB ∘ fun s : ByteArray => s.data.toList) = id := by funext s; exact toB_data s
  rw [this, List.map_id]
/-- Keys of a map, as they are told. -/
def KeysAl (ks : List ByteArray) : Seen → Prop := fun pre => ∃ l rest : List ByteArray, pre = l.map (fun k => [Value.string k]) ∧ (l ++ rest).Perm ks
def KeysFin (ks : List ByteArray) : Seen → Prop := fun pre => ∃ l : List ByteArray, pre = l.map (fun k => [Value.string k]) ∧ l.Perm ks

/-- maps.Keys[map[string][]byte,string,[]byte] -/
theorem mkeys_ok (m : Option Nat) (w : World) : Ret Try.prog 60 #[.map m] w (fun v w' => ∃ b, v = .func (.func 75) ([] : List Value).toArray [Value.pointer (some ⟨b, 0, none⟩)].toArray ∧ Blk w' b (.cells #[.map m] 76 (0, 0)) ∧ w.heap.size ≤ b ∧ Lk w' w NoB) := by
  refine ret_of_x (N := 4) (l := [.map m]) Try.func60 rfl rfl (Nat.le_of_ble_eq_true rfl) ?_
  refine x_seq ?_
  refine x_regionL ?_
  refine xl_e (e_box fun b w1 nb lb kb => ?_)
  refine xl_v v_assign ?_
  refine xl_nil ?_
  refine x_seq ?_
  refine x_regionL ?_
  refine xl_v v_makeFunc ?_
  refine xl_v v_assign ?_
  refine xl_nil ?_
  refine x_ret ?_
  refine fin1 rfl ?_
  exact ⟨b, rfl, inferInstance, Nat.le_of_eq nb.eq.symm, lkc⟩

/-- maps.Keys[map[string][]byte,string,[]byte]$1 -/
theorem mkeys1_ok (y : Value) (b mb : Nat) (kvs : List (ByteArray × Value)) (I J : Seen → (Nat → Prop) → World → Prop) (F : Nat → Prop) (w : World) [Blk w b (.cells #[.map (some mb)] 76 (0, 0))] (hm : MapB w mb Value.string kvs) (w0 : World) (hy : YieldsI Try.prog y (KeysAl (kvs.map (·.1))) I J w0) (hw0 : w0.heap.size ≤ w.heap.size) (h0 : I [] F w) (hF : ∀ k, F k → ¬ (k = b ∨ k = mb)) : Ret Try.prog 75 #[y, .pointer (some ⟨b, 0, none⟩)] w (fun _ w' => ∃ pre F', ((KeysFin (kvs.map (·.1)) pre ∧ I pre F' w') ∨ J pre F' w') ∧ Keep F w w' ∧ Sub F' F w) := by
  haveI hmi : MapI w mb _ _ _ := ⟨hm⟩
  have hmlt := hm.lt
  refine ret_of_x (N := 14) (l := [y, .pointer (some ⟨b, 0, none⟩)]) Try.func75 rfl rfl (Nat.le_of_ble_eq_true rfl) ?_
  refine x_seq ?_
  refine x_regionL ?_
  refine xl_v (by first | exact v_load | exact v_loadO (by omega) | exact v_loadFf (by omega) | exact v_loadF0 (by omega)) ?_
  refine xl_e (e_range fun it w1 ni li hit hhas => ?_)
  refine xl_nil ?_
  refine x_block ?_
  have hFlt := hy.i.lt _ _ _ h0
  refine x_loop (fun m τ ds w' => ds = [] ∧ ∃ (ks rest : List (ByteArray × Value)) (Fc : Nat → Prop), m = rest.length ∧ MapIt w' it mb Value.string kvs ks rest ∧ I (ks.map (fun p => [Value.string p.1])) Fc w' ∧ ¬ Fc it ∧ ¬ Fc mb ∧ Keep F w w' ∧ Sub Fc F w ∧ Ev τ 0 y ∧ Ev τ 5 (.pointer (some ⟨it, 0, none⟩))) (kvs.length) ?start ?round
  case start =>
    refine ⟨rfl, [], kvs, F, rfl, hit, hy.i.keep _ _ _ _ _ h0 (kpc : Keep NoB w w1) (fun _ _ h => h) (fun _ h => h.elim), ?_, ?_, (kpc : Keep NoB w w1).mono (fun _ _ h => h.elim), Sub.refl _ _, inferInstance, inferInstance⟩
    · intro e; have := hFlt _ e; rw [ni.eq] at this; omega
    · exact fun e => hF _ e (.inr rfl)
  case round =>
    intro m τ2 ds2 w2 hI
    obtain ⟨rfl, ks, rest, Fc, rfl, hmit, hI, hnit, hnmb, hkF, hsF, e0, e5⟩ := hI
    have hit1 := hmit.lt.1
    have hne : it ≠ mb := fun e => by have := ni.eq; omega
    have hwit : w.heap.size ≤ it := by rw [ni.eq]; exact Ge.le
    refine x_seq ?_
    refine x_regionL ?_
    refine xl_e (e_next hmit hne fun bb qs w3 l1 hb0 hb1 => ?_)
    refine xl_v v_extract ?_
    refine xl_nil ?_
    refine x_seq ?_
    refine x_condE (fun c1 => ?_) (fun c1 => ?_)
    ·
      obtain ⟨⟨k, u⟩, rest', hperm, hmi2⟩ := hb1 c1
      have hI2 := hy.i.keep _ _ _ _ _ hI l1.keep (fun j hj e => hnit (by have e' : j = it := e; rw [← e']; exact hj)) (fun j e => by have e' : j = it := e; omega)
      have hal : KeysAl (kvs.map (·.1)) (ks.map (fun p => [Value.string p.1]) ++ [[Value.string k]]) := ⟨ks.map (·.1) ++ [k], rest'.map (·.1), by simp, by
        have := hmi2.perm.map (·.1)
        simpa using this⟩
      refine x_skip ?_
      refine x_block ?_
      refine x_seq ?_
      refine x_regionL ?_
      refine xl_v (v_entry hmi2 (fun h => h) (fun h => h)) ?_
      refine xl_v v_extract ?_
      refine xl_v v_assign ?_
      refine xl_nil ?_
      refine x_seq ?_
      refine x_regionL ?_
      refine xl_v v_move ?_
      refine xl_v v_move ?_
      refine xl_callv (hy.step _ _ Fc w3 hal hI2) ?_
      rintro _ w4 ⟨bb2, F2, rfl, hI3, hk3, hs3⟩
      refine xl_v v_not ?_
      refine xl_nil ?_
      refine x_condE (fun c2 => ?_) (fun c2 => ?_)
      ·
        refine x_ret ?_
        refine fin0r rfl ?_
        rw [if_neg (by simpa using c2)] at hI3
        refine ⟨_, F2, .inr hI3, ?_, ?_⟩
        · refine (hkF.then l1.keep (fun j hj e => by have e' : j = it := e; omega)).then hk3 (fun j hj e => ?_)
          exact (hsF j e).elim id (fun h => by omega)
        · intro j hj
          rcases hs3 j hj with e | e
          · exact hsF j e
          · exact .inr (Nat.le_trans (Nat.le_trans hkF.size l1.keep.size) e)
      ·
        refine x_skip ?_
        refine ⟨_, ?_, rfl, ks ++ [(k, u)], rest', F2, rfl, hmi2.keep hk3 hnit hnmb, ?_, ?_, ?_, ?_, ?_, inferInstance, inferInstance⟩
        · rw [hperm.length_eq]; simp
        · rw [if_pos (by simpa using c2)] at hI3
          simpa using hI3
        · intro e
          rcases hs3 _ e with e | e
          · exact hnit e
          · have := hmi2.lt.1; omega
        · intro e
          rcases hs3 _ e with e | e
          · exact hnmb e
          · have := hmi2.lt.2; omega
        · refine (hkF.then l1.keep (fun j hj e => by have e' : j = it := e; omega)).then hk3 (fun j hj e => ?_)
          exact (hsF j e).elim id (fun h => by omega)
        · intro j hj
          rcases hs3 j hj with e | e
          · exact hsF j e
          · exact .inr (Nat.le_trans (Nat.le_trans hkF.size l1.keep.size) e)
    ·
      refine x_exit ?_
      refine fin0 rfl ?_
      obtain ⟨hrest, hmi2⟩ := hb0 c1
      subst hrest
      refine ⟨_, Fc, .inl ⟨⟨ks.map (·.1), by simp, ?_⟩, hy.i.keep _ _ _ _ _ hI l1.keep (fun j hj e => hnit (by have e' : j = it := e; rw [← e']; exact hj)) (fun j e => by have e' : j = it := e; omega)⟩, hkF.then l1.keep (fun j hj e => by have e' : j = it := e; omega), hsF⟩
      have := hmi2.perm.map (·.1)
      simpa using this
/-- What a slice in a cell holds of what was told. -/
def AppI (b2 : Nat) (tc te : TypeId) (base : Nat) : Seen → (Nat → Prop) → World → Prop := fun pre F W =>
  ∃ (ks : List ByteArray) (V : Value), pre = ks.map (fun k => [Value.string k]) ∧ W.heap[b2]? = some (.cells [V].toArray tc (0, 0)) ∧ W.ownsRow base te 1 V ks.length (strs ks) ∧ (∀ k, F k ↔ (k = b2 ∨ V.ownBlock = some k)) ∧ base ≤ W.heap.size
theorem appI_stable {b2 : Nat} {tc te : TypeId} {base : Nat} {w0 : World} : Stable (AppI b2 tc te base) w0 := by
  refine ⟨?_, ?_⟩
  · rintro pre F W ⟨ks, V, _, h1, h2, h3, _⟩ k hk
    rcases (h3 k).1 hk with e | e
    · subst e; exact (Array.getElem?_eq_some_iff.1 h1).1
    · exact (h2.lt k e).2
  · rintro pre F W W' S ⟨ks, V, h0, h1, h2, h3, h4⟩ hk hs _
    exact ⟨ks, V, h0, (hk.block b2 (Array.getElem?_eq_some_iff.1 h1).1 (hs b2 ((h3 b2).2 (.inl rfl)))).trans h1, own_keep h2 hk (fun k hk => hs k ((h3 k).2 (.inr hk))), h3, Nat.le_trans h4 hk.size⟩

/-- slices.AppendSeq[[]string,string] -/
theorem appendSeq_ok (gf : FuncId) (gc : List Value) (Own : Nat → Prop) (Al Fin : Seen → Prop) (w : World) (hit : ∀ W, Lk W w NoB → IterI Try.prog (.func (.func gf) ([] : List Value).toArray gc.toArray) Own Al Fin W) (hOwn : ∀ k, Own k → k < w.heap.size) (hAl : ∀ pre, Al pre → ∃ ks : List ByteArray, pre = ks.map (fun k => [Value.string k]) ∧ ks.length ≤ 1000000) : Ret Try.prog 79 #[.slice none 0 0, .func (.func gf) ([] : List Value).toArray gc.toArray] w (fun v w' => ∃ (ks : List ByteArray) (A : Option Addr) (c : Nat), Fin (ks.map (fun k => [Value.string k])) ∧ v = .slice A ks.length c ∧ w'.ownsRow w.heap.size 9 1 v ks.length (strs ks) ∧ Lk w' w NoB) := by
  refine ret_of_x (N := 13) (l := [.slice none 0 0, .func (.func gf) ([] : List Value).toArray gc.toArray]) Try.func79 rfl rfl (Nat.le_of_ble_eq_true rfl) ?_
  refine x_seq ?_
  refine x_regionL ?_
  refine xl_e (e_box fun b2 w1 nb2 lb2 kb2 => ?_)
  refine xl_v v_assign ?_
  refine xl_nil ?_
  refine x_seq ?_
  refine x_seq ?_
  refine x_regionL ?_
  refine xl_v v_move ?_
  refine xl_nil ?_
  refine x_block ?_
  have hb2w : w.heap.size ≤ b2 := Nat.le_of_eq nb2.eq.symm
  have hb2l : b2 < w1.heap.size := Has.lt
  refine x_range (ps := [7]) (Own) (Al) (Fin) (fun W l => hit W lkc) (fun k hk => Nat.lt_of_lt_of_le (hOwn k hk) Ge.le) (fun pre v h => (by obtain ⟨ks, h1, _⟩ := hAl _ h; obtain ⟨a, b, _, _, h2⟩ := List.map_eq_append_iff.1 h1.symm; obtain ⟨k, c, _, h3, _⟩ := List.map_eq_cons_iff.1 h2; rw [← h3]; rfl)) (AppI b2 40 9 w1.heap.size) (fun _ _ _ _ => False) (OneB b2) (appI_stable) (fun _ => ⟨fun _ _ _ h => h.elim, fun _ _ _ _ _ h => h.elim⟩) (⟨[], .slice none 0 0, rfl, Blk.eq, World.ownsRow_nil _ _ _ _, fun k => ⟨fun e => .inl e, fun e => e.elim id (fun e => by cases e)⟩, Nat.le_refl _⟩) (fun k hk e => by have e' : k = b2 := hk; have := hOwn k e; omega) (fun v τ => Ev τ 2 (.pointer (some ⟨b2, 0, none⟩)) ∧ ∃ x, v = [x] ∧ Ev τ 5 x) ?assign ?body ?normal ?jump
  case assign =>
    intro l2 v2 w2 hv2
    obtain ⟨x, rfl⟩ : ∃ x, v2 = [x] := List.length_eq_one_iff.1 hv2
    simp only [updL]
    refine x_regionL ?_
    refine xl_v v_assign ?_
    refine xl_nil ?_
    exact ⟨rfl, inferInstance, x, rfl, inferInstance⟩
  case body =>
    intro l pre v F w3 τ3 ds3 hal hI hB
    obtain ⟨ks, V, rfl, hb2, hown, hFe, hsz⟩ := hI
    obtain ⟨e2, x, rfl, e5⟩ := hB
    obtain ⟨ks2, hks2, hlen2⟩ := hAl _ hal
    obtain ⟨a, b, rfl, h1, h2⟩ := List.map_eq_append_iff.1 hks2.symm
    obtain ⟨k, c, rfl, h3, h4⟩ := List.map_eq_cons_iff.1 h2
    obtain rfl : Value.string k = x := by simpa using h3
    have hla : a.length = ks.length := by simpa using congrArg List.length h1
    have hkl : ks.length + 1 ≤ 1000000 := by simp at hlen2; omega
    haveI kb : Blk w3 b2 _ := ⟨hb2⟩
    haveI nb : NotS (OwnB V) b2 := ⟨fun e => by have := (hown.lt _ (Eq.symm e)).1; omega⟩
    refine x_block ?_
    refine x_regionL ?_
    refine xl_v (by first | exact v_load | exact v_loadO (by omega) | exact v_loadFf (by omega) | exact v_loadF0 (by omega)) ?_
    refine xl_v v_move ?_
    refine xl_e (e_buildSliceN rfl fun b3 w4 n3 l3 k3 => ?_)
    refine xl_e (e_append' (own_ext hown lkc) (Nat.le_trans hsz Ge.le) rfl Cell1L.eq (by decide) (.inl rfl) (by omega) (by omega) fun A3 c3 w5 ho3 l3 hn3 => ?_)
    refine xl_s (e_store fun w6 l4 k4 => ?_)
    refine xl_nil ?_
    haveI s1 : SubF (OwnB V) F w3 := ⟨fun j _ e => (hFe j).2 (.inr (Eq.symm e))⟩
    haveI s2 : SubF (OneB b2) F w3 := ⟨fun j _ e => (hFe j).2 (.inl e)⟩
    refine ⟨fun j => j = b2 ∨ (Value.slice A3 (ks.length + 1) c3).ownBlock = some j, ⟨ks ++ [k], _, by simp, k4.eq, ?_, fun j => Iff.rfl, Nat.le_trans hsz (Ge.le : w3.heap.size ≤ w6.heap.size)⟩, kpc, ?_⟩
    · have := own_keep ho3 l4.keep (fun j hj e => by have e' : j = b2 := e; have := (ho3.lt j hj).1; omega)
      simpa [strs] using this
    · rintro j (hj | hj)
      · exact .inl ((hFe j).2 (.inl hj))
      · rcases hn3 with h5 | h5
        · exact .inl ((hFe j).2 (.inr (h5 ▸ hj)))
        · rw [h5] at hj
          cases hj
          exact .inr Ge.le
  case normal =>
    intro D7 pre F w7 hfin hI hkF hsF hD7 hge7 hnF7
    obtain ⟨ks, V, rfl, hb2, hown, hFe, hsz⟩ := hI
    haveI kb : Blk w7 b2 _ := ⟨hb2⟩
    haveI lkF : Lk w7 _ (OneB b2) := ⟨hkF⟩
    obtain ⟨A, c, rfl, _⟩ := ownsRow_form hown
    have hDw : w.heap.size ≤ D7 := Nat.le_trans (Nat.le_trans hb2w (Nat.le_of_lt hb2l)) hge7
    haveI sD : SubF (fun k => k ∈ [D7]) NoB w := ⟨fun k hk e => by simp at e; omega⟩
    refine x_seq ?_
    refine x_regionL ?_
    refine xl_v (by first | exact v_load | exact v_loadO (by omega) | exact v_loadFf (by omega) | exact v_loadF0 (by omega)) ?_
    refine xl_v v_assign ?_
    refine xl_nil ?_
    refine x_ret ?_
    refine finM (rs := [.tmp 4]) rfl [D7] rfl (by simpa using hD7.eq) (by simp) (fun w8 lm8 => ⟨_, inferInstance, ?_⟩)
    refine ⟨ks, A, c, hfin, rfl, ?_, lkc⟩
    refine own_mono (own_keep hown lm8.keep ?_) Ge.le
    intro k hk e
    simp at e
    subst e
    exact hnF7 ((hFe _).2 (.inr hk))
  case jump =>
    exact fun _ _ _ _ _ h => h.elim
/-- slices.Sort, of a slice of the call's own. -/
theorem sort_ok (base : Nat) (A : Option Addr) (c : Nat) (ks : List ByteArray) (w : World) (ho : w.ownsRow base 9 1 (.slice A ks.length c) ks.length (strs ks)) (hl : ks.length ≤ 1000000) :
    Ret Try.prog 74 #[.slice A ks.length c] w (fun v w' => v = .tuple #[] ∧ w'.ownsRow base 9 1 (.slice A ks.length c) ks.length (strs (sortB ks)) ∧ Lk w' w (OwnB (.slice A ks.length c))) := by
  rcases ho.2 with ⟨he, hn⟩ | ⟨g, cap, cur, he, hb, hg, hnc, hcm, hcs, htk⟩
  · have hk : ks = [] := List.eq_nil_of_length_eq_zero hn
    subst hk
    refine Calls.mono (Try.slices_Sort_string_none A c w) ?_
    rintro e w' ⟨rfl, rfl⟩
    exact ⟨_, rfl, rfl, by simpa [sortB] using ho, ⟨Keep.refl _ _⟩⟩
  · cases he
    obtain ⟨ss, hss⟩ : ∃ ss : List (List UInt8), ss = ks.map (fun s => s.data.toList) := ⟨_, rfl⟩
    have hsl : ss.length = ks.length := by rw [hss]; simp
    have hH := holds_of_block (ss := ss) hg (by rw [hsl, hss, ← strs_enc]; simpa using htk)
    have hcall := Try.slices_Sort_string g 0 c ss w hH (Array.getElem?_eq_some_iff.1 hg).1 (by omega)
    rw [hsl] at hcall
    refine Calls.mono hcall ?_
    rintro e w' ⟨rfl, n, os, rfl⟩
    refine ⟨_, rfl, rfl, ?_, ⟨Keep.of_grown (grownBy_sorted _)⟩⟩
    have := ownsRow_sorted (os := os) (n := n) (ss := ss) (ts := ss.mergeSort fun x y => decide (x ≤ y)) (by simp) hb hg (by omega) hcm hcs
    rw [hsl] at this
    rw [sortB, ← hss, strs_toB]
    exact this

/-- slices.Collect[string] -/
theorem collect_ok (gf : FuncId) (gc : List Value) (Own : Nat → Prop) (Al Fin : Seen → Prop) (w : World) (hit : ∀ W, Lk W w NoB → IterI Try.prog (.func (.func gf) ([] : List Value).toArray gc.toArray) Own Al Fin W) (hOwn : ∀ k, Own k → k < w.heap.size) (hAl : ∀ pre, Al pre → ∃ ks : List ByteArray, pre = ks.map (fun k => [Value.string k]) ∧ ks.length ≤ 1000000) : Ret Try.prog 73 #[.func (.func gf) ([] : List Value).toArray gc.toArray] w (fun v w' => ∃ (ks : List ByteArray) (A : Option Addr) (c : Nat), Fin (ks.map (fun k => [Value.string k])) ∧ v = .slice A ks.length c ∧ w'.ownsRow w.heap.size 9 1 v ks.length (strs ks) ∧ Lk w' w NoB) := by
  refine ret_of_x (N := 5) (l := [.func (.func gf) ([] : List Value).toArray gc.toArray]) Try.func73 rfl rfl (Nat.le_of_ble_eq_true rfl) ?_
  refine x_seq ?_
  refine x_regionL ?_
  refine xl_v v_assign ?_
  refine xl_nil ?_
  refine x_seq ?_
  refine x_regionL ?_
  refine xl_v v_move ?_
  refine xl_call (appendSeq_ok gf gc Own Al Fin _ hit hOwn hAl) ?_
  rintro _ w1 ⟨ks, A, c, hfin, rfl, ho, lk⟩
  refine xl_v v_assign ?_
  refine xl_nil ?_
  refine x_ret ?_
  refine fin1 rfl ?_
  exact ⟨ks, A, c, hfin, rfl, own_ext ho lkc, lkc⟩

/-- slices.Sorted[string] -/
theorem sorted_ok (gf : FuncId) (gc : List Value) (Own : Nat → Prop) (Al Fin : Seen → Prop) (w : World) (hit : ∀ W, Lk W w NoB → IterI Try.prog (.func (.func gf) ([] : List Value).toArray gc.toArray) Own Al Fin W) (hOwn : ∀ k, Own k → k < w.heap.size) (hAl : ∀ pre, Al pre → ∃ ks : List ByteArray, pre = ks.map (fun k => [Value.string k]) ∧ ks.length ≤ 1000000) (hFin : ∀ pre, Fin pre → Al pre) : Ret Try.prog 59 #[.func (.func gf) ([] : List Value).toArray gc.toArray] w (fun v w' => ∃ (ks : List ByteArray) (A : Option Addr) (c : Nat), Fin (ks.map (fun k => [Value.string k])) ∧ v = .slice A ks.length c ∧ w'.ownsRow w.heap.size 9 1 v ks.length (strs (sortB ks)) ∧ Lk w' w NoB) := by
  refine ret_of_x (N := 9) (l := [.func (.func gf) ([] : List Value).toArray gc.toArray]) Try.func59 rfl rfl (Nat.le_of_ble_eq_true rfl) ?_
  refine x_seq ?_
  refine x_regionL ?_
  refine xl_v v_assign ?_
  refine xl_nil ?_
  refine x_seq ?_
  refine x_regionL ?_
  refine xl_v v_move ?_
  refine xl_call (collect_ok gf gc Own Al Fin _ hit hOwn hAl) ?_
  rintro _ w1 ⟨ks, A, c, hfin, rfl, ho, lk⟩
  have hkl : ks.length ≤ 1000000 := by
    obtain ⟨ks2, h1, h2⟩ := hAl _ (hFin _ hfin)
    have := congrArg List.length h1
    simp at this
    omega
  haveI := ownA_of ho (Nat.le_refl _)
  refine xl_v v_assign ?_
  refine xl_nil ?_
  refine x_seq ?_
  refine x_regionL ?_
  refine xl_v v_move ?_
  refine xl_call (sort_ok _ A c ks _ (own_ext ho lkc) hkl) ?_
  rintro _ w2 ⟨rfl, ho2, lk2⟩
  refine xl_nil ?_
  refine x_seq ?_
  refine x_regionL ?_
  refine xl_v v_move ?_
  refine xl_v v_assign ?_
  refine xl_nil ?_
  refine x_ret ?_
  refine fin1 rfl ?_
  exact ⟨ks, A, c, hfin, rfl, own_ext ho2 lkc, lkc⟩
theorem mkeysIter (b mb : Nat) (kvs : List (ByteArray × Value)) (w : World) [Blk w b (.cells #[.map (some mb)] 76 (0, 0))] (hm : MapB w mb Value.string kvs) :
    IterI Try.prog (.func (.func 75) ([] : List Value).toArray [Value.pointer (some ⟨b, 0, none⟩)].toArray) (fun k => k = b ∨ k = mb) (KeysAl (kvs.map (·.1))) (KeysFin (kvs.map (·.1))) w :=
  fun y I J F w0 hy hw0 h0 hF => CallV.of_ret (mkeys1_ok y b mb kvs I J F w hm w0 hy hw0 h0 hF)

end Go.Proofs.Ytabknhgbijcklaa
