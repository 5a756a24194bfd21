/-
  Walks, printed by a program of this workplace (wip/tools/sx.py) off the functions' code and a text of contracts.
-/
import Derived.Test.YtacadajlpmhcfaaTy
import Derived.Test.YtacadajlpmhcfaaSn
set_option linter.all false
set_option maxRecDepth 100000
set_option synthInstance.maxSize 100000
set_option synthInstance.maxHeartbeats 400000
namespace Go.Proofs.Ytacadajlpmhcfaa
open Go.Wst
open Go.Wst.Nm
theorem mixed : Try.prog.follows .mixedOrders = true := by kernel_rfl
abbrev In64 (a : Int) : Prop := -9223372036854775808 ≤ a ∧ a ≤ 9223372036854775807
abbrev byteC (b : UInt8) : Value := .int .u8 (b.toNat : Int)
abbrev bytesC (xs : List UInt8) : List Value := xs.map byteC
abbrev msgC (x : LMsg) : List Value := [.int .i64 x.m.src, .int .i64 x.m.dst, .slice x.A x.m.bytes.length x.c]
instance encN_msg : EncN msgC 3 := ⟨fun _ => rfl⟩
def netV (l : List (Int × LMsg)) : List (Int × Value) := l.map (fun p => (p.1, .agg (msgC p.2).toArray))
theorem bytesC_one (xs : List UInt8) : ∀ u ∈ bytesC xs, u.oneCell' = true := by
  intro u hu
  obtain ⟨a, _, rfl⟩ := List.mem_map.1 hu
  rfl
structure NetAt (w : World) (b mb : Nat) (G : Nat → Prop) (N : NetL) : Prop where
  hb : w.heap[b]? = some (.cells [.int .i64 N.most, .int .i64 (N.came : Int), .map (some mb)].toArray 72 (0, 0))
  hm : MapB w mb (Value.int .i64) (netV N.l)
  hr : ∀ p ∈ N.l, FRow w G p.2.A (bytesC p.2.m.bytes)
  d : b ≠ mb
  gb : ¬ G b
  gm : ¬ G mb
  gl : ∀ k, G k → k < w.heap.size
def TwoB (b mb : Nat) : Nat → Prop := fun k => k = b ∨ k = mb
def NetF (b mb : Nat) (G : Nat → Prop) : Nat → Prop := fun k => k = b ∨ k = mb ∨ G k
theorem NetAt.lt {w : World} {b mb : Nat} {G : Nat → Prop} {N : NetL} (h : NetAt w b mb G N) : ∀ k, NetF b mb G k → k < w.heap.size := by
  rintro k (rfl | rfl | hk)
  · exact (Array.getElem?_eq_some_iff.1 h.hb).1
  · exact h.hm.lt
  · exact h.gl k hk
theorem NetAt.keep {w w' : World} {b mb : Nat} {G S : Nat → Prop} {N : NetL} (h : NetAt w b mb G N) (hk : Keep S w w') (hs : ∀ k, NetF b mb G k → ¬ S k) : NetAt w' b mb G N :=
  ⟨(hk.block b (h.lt b (.inl rfl)) (hs b (.inl rfl))).trans h.hb, h.hm.keep hk (hs mb (.inr (.inl rfl))), fun p hp => (h.hr p hp).keep hk (fun k hk => hs k (.inr (.inr hk))), h.d, h.gb, h.gm, fun k hk' => Nat.lt_of_lt_of_le (h.gl k hk') hk.size⟩
theorem NetAt.ext {w w' : World} {b mb : Nat} {G : Nat → Prop} {N : NetL} (h : NetAt w b mb G N) (hk : Keep NoB w w') : NetAt w' b mb G N := h.keep hk (fun _ _ h => h)
theorem netV_keys (l : List (Int × LMsg)) : (netV l).map (·.1) = l.map (·.1) := by simp [netV]
theorem netV_len (l : List (Int × LMsg)) : (netV l).length = l.length := by simp [netV]
def zeroM : LMsg := ⟨⟨0, 0, []⟩, none, 0⟩
def NetL.at_ (l : List (Int × LMsg)) (k : Int) : LMsg := (akey l k).getD zeroM
theorem netV_get (l : List (Int × LMsg)) (k : Int) : (akey (netV l) k).getD (.agg #[.int .i64 0, .int .i64 0, .slice none 0 0]) = .agg (msgC (NetL.at_ l k)).toArray ∧ (akey (netV l) k).isSome = (akey l k).isSome := by
  have e : akey (netV l) k = (akey l k).map (fun q => Value.agg (msgC q).toArray) := Nm.akey_map (fun q : LMsg => Value.agg (msgC q).toArray) l k
  rw [e, NetL.at_]
  cases akey l k <;> exact ⟨rfl, rfl⟩
/-- (*waystation/net.Net).none -/
theorem none_ok (b mb : Nat) (x y : Value) (w : World) [Blk w b (.cells [x, y, .map (some mb)].toArray 72 (0, 0))] : Ret Try.prog 30 #[.pointer (some ⟨b, 0, none⟩)] w (fun v w' => v = .bool false ∧ w = w') := by
  refine ret_of_x (N := 12) (l := [.pointer (some ⟨b, 0, none⟩)]) Try.func30 rfl rfl (Nat.le_of_ble_eq_true rfl) ?_
  refine x_seq ?_
  refine x_regionL ?_
  refine xl_v v_assign ?_
  refine xl_nil ?_
  refine x_seq ?_
  refine x_regionL ?_
  refine xl_v v_move ?_
  refine xl_v (v_eql_pointerS) ?_
  refine xl_v v_move ?_
  refine xl_gv rfl EvO.eq v_move ?_
  refine xl_gv rfl EvO.eq (by first | exact v_nilCheckP | exact v_nilCheckF) ?_
  refine xl_gv rfl EvO.eq (by first | exact v_fieldAddr | exact v_fieldAddrF (by decide) (by omega) | exact v_fieldAddrR (by first | assumption | rfl)) ?_
  refine xl_gv rfl EvO.eq (by first | exact v_load | exact v_loadO (by omega) | exact v_loadFf (by omega) | exact v_loadF0 (by omega)) ?_
  refine xl_gv rfl EvO.eq (v_eql_mapS) ?_
  refine xl_v (by first | exact v_pickT | exact v_pickF | exact v_pick) ?_
  refine xl_v v_assign ?_
  refine xl_nil ?_
  refine x_ret ?_
  refine fin1 rfl ?_
  exact ⟨rfl, rfl⟩
/-- waystation/net.place -/
theorem place_ok (n : Int) (w : World) : Ret Try.prog 31 #[.int .i64 n] w (fun v w' => v = .bool (placeB n) ∧ w = w') := by
  refine ret_of_x (N := 9) (l := [.int .i64 n]) Try.func31 rfl rfl (Nat.le_of_ble_eq_true rfl) ?_
  refine x_seq ?_
  refine x_regionL ?_
  refine xl_v v_assign ?_
  refine xl_nil ?_
  refine x_seq ?_
  refine x_regionL ?_
  refine xl_v v_move ?_
  refine xl_v v_leq ?_
  refine xl_v v_move ?_
  refine xl_split 5 (fun g5 => ?_) (fun g5 => ?_)
  ·
    refine xl_gv rfl EvO.eq v_move ?_
    refine xl_gv rfl EvO.eq v_lss ?_
    refine xl_v (by first | exact v_pickT | exact v_pickF | exact v_pick) ?_
    refine xl_v v_assign ?_
    refine xl_nil ?_
    refine x_ret ?_
    refine fin1 rfl ?_
    exact ⟨by simp_all [placeB]; try omega, rfl⟩
  ·
    refine xl_gs rfl EvO.eq ?_
    refine xl_gs rfl EvO.eq ?_
    refine xl_v (by first | exact v_pickT | exact v_pickF | exact v_pick) ?_
    refine xl_v v_assign ?_
    refine xl_nil ?_
    refine x_ret ?_
    refine fin1 rfl ?_
    exact ⟨by simp_all [placeB]; try omega, rfl⟩
/-- slices.Clone[[]byte,byte] -/
theorem cloneb_ok (A : Option Addr) (n c : Nat) (cs : List Value) (w : World) [Row w A cs] (hl : cs.length = n * 1) (hn : n ≤ 100000000) (h1 : ∀ u ∈ cs, u.oneCell' = true) (hA : A.isSome = true ∨ n = 0) : Ret Try.prog 51 #[.slice A n c] w (fun v w' => (∃ A' c', v = .slice A' n c' ∧ w'.ownsRow w.heap.size 5 1 v n cs) ∧ Lk w' w NoB) := by
  refine ret_of_x (N := 8) (l := [.slice A n c]) Try.func51 rfl rfl (Nat.le_of_ble_eq_true rfl) ?_
  refine x_seq ?_
  refine x_regionL ?_
  refine xl_v v_assign ?_
  refine xl_nil ?_
  refine x_seq ?_
  refine x_seq ?_
  refine x_regionL ?_
  refine xl_v v_move ?_
  refine xl_v v_eql_slice ?_
  refine xl_nil ?_
  refine x_condE (fun c1 => ?_) (fun c1 => ?_)
  ·
    have hn0 : n = 0 := hA.resolve_left (by cases A <;> simp_all)
    refine x_seq ?_
    refine x_regionL ?_
    refine xl_v v_assign ?_
    refine xl_nil ?_
    refine x_ret ?_
    refine fin1 rfl ?_
    subst hn0
    obtain rfl : cs = [] := List.eq_nil_of_length_eq_zero (by simpa using hl)
    exact ⟨⟨none, 0, rfl, World.ownsRow_nil _ _ _ _⟩, lkc⟩
  ·
    refine x_skip ?_
    refine x_seq ?_
    refine x_regionL ?_
    refine xl_e (e_buildSlice0 fun b0 w1 n0 l0 k0 => ?_)
    refine xl_v v_move ?_
    have ho0 : World.ownsRow w1 w.heap.size 5 1 (.slice (some ⟨b0, 0, none⟩) 0 0) 0 [] := ownsRow_blk (by rw [n0.eq]; exact Nat.le_refl _) k0.eq (by simp) (by omega)
    haveI := ownN_of ho0 (Nat.le_refl _)
    refine xl_e (e_append' ho0 Ge.le hl h1 (by decide) hA (by omega) (by omega) fun A2 c2 w2 ho2 l2 _ => ?_)
    refine xl_v v_assign ?_
    refine xl_nil ?_
    refine x_ret ?_
    refine fin1 rfl ?_
    exact ⟨⟨A2, c2, by rw [Nat.zero_add], by simpa using ho2⟩, lkc⟩
/-- waystation/net.own[byte] -/
theorem own_ok (A : Option Addr) (n c : Nat) (xs : List UInt8) (w : World) [Row w A (bytesC xs)] (hl : xs.length = n) (hn : n ≤ 100000000) (hA : A.isSome = true ∨ n = 0) : Ret Try.prog 46 #[.slice A n c] w (fun v w' => (∃ A' c', v = .slice A' n c' ∧ w'.ownsRow w.heap.size 5 1 v n (bytesC xs)) ∧ Lk w' w NoB) := by
  refine ret_of_x (N := 5) (l := [.slice A n c]) Try.func46 rfl rfl (Nat.le_of_ble_eq_true rfl) ?_
  refine x_seq ?_
  refine x_regionL ?_
  refine xl_v v_assign ?_
  refine xl_nil ?_
  refine x_seq ?_
  refine x_regionL ?_
  refine xl_v v_move ?_
  refine xl_call (cloneb_ok A n c (bytesC xs) _ (by simp; omega) hn (bytesC_one xs) hA) ?_
  rintro _ w1 ⟨⟨A2, c2, rfl, ho⟩, lk⟩
  refine xl_v v_assign ?_
  refine xl_nil ?_
  refine x_ret ?_
  refine fin1 rfl ?_
  exact ⟨⟨A2, c2, rfl, own_mono ho Ge.le⟩, lkc⟩
/-- waystation/net.copied -/
theorem copied_ok (x : LMsg) (w : World) [hr : Row w x.A (bytesC x.m.bytes)] (hn : x.m.bytes.length ≤ 100000000) : Ret Try.prog 32 #[.agg (msgC x).toArray] w (fun v w' => (∃ A' c', v = .agg (msgC ⟨x.m, A', c'⟩).toArray ∧ w'.ownsRow w.heap.size 5 1 (.slice A' x.m.bytes.length c') x.m.bytes.length (bytesC x.m.bytes)) ∧ Lk w' w NoB) := by
  have hA : x.A.isSome = true ∨ x.m.bytes.length = 0 := by
    rcases Nat.eq_zero_or_pos x.m.bytes.length with h | h
    · exact .inr h
    · exact .inl (row_some hr (by simpa using h))
  refine ret_of_x (N := 11) (l := [.agg (msgC x).toArray]) Try.func32 rfl rfl (Nat.le_of_ble_eq_true rfl) ?_
  refine x_seq ?_
  refine x_regionL ?_
  refine xl_e (e_box fun b1 w1 n1 l1 k1 => ?_)
  refine xl_e (e_alloc fun b2 w2 n2 l2 k2 => ?_)
  refine xl_nil ?_
  refine x_seq ?_
  refine x_drawL (NoB) (.take 0 (.take 1 (.take 2 (.take 3 (.take 4 (.take 5 (.eff 6 (.take 7 (.last 8))))))))) mixed (by kernel_rfl) (fun _ _ _ _ _ h => h) (fun w3 l3 => ?_)
  refine xt_v rfl (by first | exact v_fieldAddr | exact v_fieldAddrF (by decide) (by omega) | exact v_fieldAddrR (by first | assumption | rfl)) ?_
  refine xt_v rfl (by first | exact v_load | exact v_loadO (by omega) | exact v_loadFf (by omega) | exact v_loadF0 (by omega)) ?_
  refine xt_v rfl (by first | exact v_fieldAddr | exact v_fieldAddrF (by decide) (by omega) | exact v_fieldAddrR (by first | assumption | rfl)) ?_
  refine xt_v rfl (by first | exact v_load | exact v_loadO (by omega) | exact v_loadFf (by omega) | exact v_loadF0 (by omega)) ?_
  refine xt_v rfl (by first | exact v_fieldAddr | exact v_fieldAddrF (by decide) (by omega) | exact v_fieldAddrR (by first | assumption | rfl)) ?_
  refine xt_v rfl (by first | exact v_load | exact v_loadO (by omega) | exact v_loadFf (by omega) | exact v_loadF0 (by omega)) ?_
  refine xt_call rfl (own_ok x.A x.m.bytes.length x.c x.m.bytes _ rfl hn hA) ?_
  rintro _ w4 ⟨⟨A2, c2, rfl, ho⟩, lk⟩
  refine ⟨kpc, ?_⟩
  haveI : OwnI w4 _ _ _ _ _ _ _ _ := ⟨ho⟩
  haveI : NewA A2 w3 := newA_of ho (Nat.le_refl _)
  refine xt_v rfl v_build ?_
  refine xt_lastS rfl (e_storeA fun w5 l5 k5 => ?_)
  refine x_ret ?_
  refine finR (rs := [.cell 2 30]) rfl ?_
  exact ⟨⟨A2, c2, rfl, own_mono (OwnI.own : World.ownsRow w5 _ _ _ (.slice A2 _ c2) _ _) Ge.le⟩, lkc⟩
end Go.Proofs.Ytacadajlpmhcfaa
