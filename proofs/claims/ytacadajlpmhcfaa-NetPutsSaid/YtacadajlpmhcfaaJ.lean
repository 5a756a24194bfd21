/-
  Walks, printed by a program of this workplace (wip/tools/sx.py) off the functions' code and a text of contracts.
-/
import Derived.Test.YtacadajlpmhcfaaI
import Derived.Laws.BytesArg
set_option linter.all false
set_option maxRecDepth 100000
set_option synthInstance.maxSize 100000
set_option synthInstance.maxHeartbeats 400000
namespace Go.Proofs.Ytacadajlpmhcfaa
open Go.Wst
open Go.Wst.Nm
section
variable {P : Program} {r : Option Nat} {N : Nat} {S : Nat → Prop} {τ : Tau} {w : World} {ty : TypeId}
theorem e_convConst {x : Operand} {t e : TypeId} {b n c : Nat} {C : Array Value} {G : Value → World → Prop} [hx : EvO N τ x (.slice (some ⟨b, 0, none⟩) n c)] [ht : Und P t (.slice e)] [he : Und P e (.int .u8)] [hb : Blk w b (.cells C e (0, 0))]
    (h : ∀ w', Lk w' w (OneB b) → w'.heap[b]? = some (.cells C e (C.size, C.size + 1)) → G (.slice (some ⟨b, 0, none⟩) n c) w') : EffV P N (OneB b) (.convert t t x) ty τ w G := by
  have hlt : b < w.heap.size := (Array.getElem?_eq_some_iff.1 hb.eq).1
  have hsh : w.shape? b = some (e, C.size) := by unfold World.shape?; rw [hb.eq]
  have hk : Keep (OneB b) w (w.freeze ⟨b, C.size, none⟩ 1) := by
    unfold World.freeze
    rw [if_neg (by decide)]
    refine ⟨rfl, rfl, rfl, by simp, fun k _ hk => ?_⟩
    have hne : b ≠ k := fun e => hk e.symm
    simp [Array.getElem?_modify, hne]
  have hn : (w.freeze ⟨b, C.size, none⟩ 1).heap[b]? = some (.cells C e (C.size, C.size + 1)) := by
    unfold World.freeze
    rw [if_neg (by decide)]
    simp only [Array.getElem?_modify, hb.eq]
    rfl
  refine ⟨fun _ => nofun, _, _, ?_, hk, h _ ⟨hk⟩ hn⟩
  simp [execOp, hx.eq, convert, run_underlying ht.eq, run_underlying he.eq, markStringish, hsh, Result.andThen, Sem.run]
theorem run_strRow {src dst e : TypeId} (hs : P.underlying src = some (.slice e)) (he : P.underlying e = some (.int .u8)) (hd : P.underlying dst = some .string) {A : Option Addr} {n c : Nat} {xs : List UInt8} (hr : RowP w A (bytesC xs)) (hl : xs.length = n) :
    (convert src dst (.slice A n c)).run P w = .ok (.string ⟨xs.toArray⟩) w := by
  cases A with
  | none =>
    have : xs = [] := by
      cases xs with
      | nil => rfl
      | cons a xs => obtain ⟨a', h, _⟩ := hr 0 _ rfl; cases h
    subst this
    exact run_convert_bytes_nil w src e hs he n c dst hd
  | some a =>
    have hl2 : (loadCells a n).run P w = .ok ((xs.map fun b => ((b.toNat : Nat) : Int)).map (Value.int .u8)).toArray w := by
      have := run_loadCells_list (P := P) w a (bytesC xs) (fun j v hj => by
        obtain ⟨a', h1, h2⟩ := hr j v hj
        cases h1
        exact h2)
      simpa [hl, bytesC, Function.comp_def] using this
    rw [run_convert_bytes_string w src dst e _ n c hs he hd, run_bytesToString w _ n c _ hl2, foldl_push_bytes]
    have h3 : (xs.map fun b => ((b.toNat : Nat) : Int)).map (fun n => UInt8.ofNat n.toNat) = xs := by
      rw [List.map_map]
      conv => rhs; rw [← List.map_id xs]
      apply List.map_congr_left
      intro b _
      simp
    rw [h3]
    simp [ByteArray.empty, ByteArray.emptyWithCapacity]
    rfl
theorem v_bytesStr {x : Operand} {s t e : TypeId} {A : Option Addr} {n c : Nat} {xs : List UInt8} [hx : EvO N τ x (.slice A n c)] [hs : Und P s (.slice e)] [he : Und P e (.int .u8)] [hd : Und P t .string] [hr : Row w A (bytesC xs)] [ho : RowOut S A] (hl : xs.length = n) : Val P r N S (.convert s t x) ty τ w (.string ⟨xs.toArray⟩) := ⟨fun _ => nofun, fun W hW => by
  have := run_strRow (P := P) (w := W) hs.eq he.eq hd.eq (c := c) (hr.row.keep hW ho.out) hl
  simp [execOp, hx.eq, this]⟩
end
/-- waystation/waystationref05.SameMsg -/
theorem samemsg_ok (x y : LMsg) (w : World) [Row w x.A (bytesC x.m.bytes)] [OldA w x.A] [Row w y.A (bytesC y.m.bytes)] [OldA w y.A] : Ret Try.prog 19 #[.agg (msgC x).toArray, .agg (msgC y).toArray] w (fun v w' => v = .bool (decide (x.m = y.m)) ∧ Lk w' w NoB) := by
  refine ret_of_x (N := 26) (l := [.agg (msgC x).toArray, .agg (msgC y).toArray]) Try.func19 rfl rfl (Nat.le_of_ble_eq_true rfl) ?_
  refine x_seq ?_
  refine x_regionL ?_
  refine xl_e (e_box fun b1 w1 n1 l1 k1 => ?_)
  refine xl_e (e_box fun b2 w2 n2 l2 k2 => ?_)
  refine xl_v v_assign ?_
  refine xl_nil ?_
  refine x_seq ?_
  refine x_regionL ?_
  refine xl_v (by first | exact v_fieldAddr | exact v_fieldAddrF (by decide) (by omega) | exact v_fieldAddrR (by first | assumption | rfl)) ?_
  refine xl_v (by first | exact v_load | exact v_loadO (by omega) | exact v_loadFf (by omega) | exact v_loadF0 (by omega)) ?_
  refine xl_v (by first | exact v_fieldAddr | exact v_fieldAddrF (by decide) (by omega) | exact v_fieldAddrR (by first | assumption | rfl)) ?_
  refine xl_v (by first | exact v_load | exact v_loadO (by omega) | exact v_loadFf (by omega) | exact v_loadF0 (by omega)) ?_
  refine xl_v v_eql ?_
  refine xl_v v_move ?_
  refine xl_split 10 (fun g10 => ?_) (fun g10 => ?_)
  ·
    refine xl_gv rfl EvO.eq (by first | exact v_fieldAddr | exact v_fieldAddrF (by decide) (by omega) | exact v_fieldAddrR (by first | assumption | rfl)) ?_
    refine xl_gv rfl EvO.eq (by first | exact v_load | exact v_loadO (by omega) | exact v_loadFf (by omega) | exact v_loadF0 (by omega)) ?_
    refine xl_gv rfl EvO.eq (by first | exact v_fieldAddr | exact v_fieldAddrF (by decide) (by omega) | exact v_fieldAddrR (by first | assumption | rfl)) ?_
    refine xl_gv rfl EvO.eq (by first | exact v_load | exact v_loadO (by omega) | exact v_loadFf (by omega) | exact v_loadF0 (by omega)) ?_
    refine xl_gv rfl EvO.eq v_eql ?_
    refine xl_v (by first | exact v_pickT | exact v_pickF | exact v_pick) ?_
    refine xl_v v_move ?_
    refine xl_split 17 (fun g17 => ?_) (fun g17 => ?_)
    ·
      refine xl_gv rfl EvO.eq (by first | exact v_fieldAddr | exact v_fieldAddrF (by decide) (by omega) | exact v_fieldAddrR (by first | assumption | rfl)) ?_
      refine xl_gv rfl EvO.eq (by first | exact v_load | exact v_loadO (by omega) | exact v_loadFf (by omega) | exact v_loadF0 (by omega)) ?_
      refine xl_gv rfl EvO.eq (v_bytesStr (xs := x.m.bytes) rfl) ?_
      refine xl_gv rfl EvO.eq (by first | exact v_fieldAddr | exact v_fieldAddrF (by decide) (by omega) | exact v_fieldAddrR (by first | assumption | rfl)) ?_
      refine xl_gv rfl EvO.eq (by first | exact v_load | exact v_loadO (by omega) | exact v_loadFf (by omega) | exact v_loadF0 (by omega)) ?_
      refine xl_gv rfl EvO.eq (v_bytesStr (xs := y.m.bytes) rfl) ?_
      refine xl_gv rfl EvO.eq v_seql ?_
      refine xl_v (by first | exact v_pickT | exact v_pickF | exact v_pick) ?_
      refine xl_v v_assign ?_
      refine xl_nil ?_
      refine x_ret ?_
      refine fin1 rfl ?_
      refine ⟨?_, lkc⟩
      rw [msg_dec]
      simp_all
    ·
      refine xl_gs rfl EvO.eq ?_
      refine xl_gs rfl EvO.eq ?_
      refine xl_gs rfl EvO.eq ?_
      refine xl_gs rfl EvO.eq ?_
      refine xl_gs rfl EvO.eq ?_
      refine xl_gs rfl EvO.eq ?_
      refine xl_gs rfl EvO.eq ?_
      refine xl_v (by first | exact v_pickT | exact v_pickF | exact v_pick) ?_
      refine xl_v v_assign ?_
      refine xl_nil ?_
      refine x_ret ?_
      refine fin1 rfl ?_
      refine ⟨?_, lkc⟩
      rw [msg_dec]
      simp_all
  ·
    refine xl_gs rfl EvO.eq ?_
    refine xl_gs rfl EvO.eq ?_
    refine xl_gs rfl EvO.eq ?_
    refine xl_gs rfl EvO.eq ?_
    refine xl_gs rfl EvO.eq ?_
    refine xl_v (by first | exact v_pickT | exact v_pickF | exact v_pick) ?_
    refine xl_v v_move ?_
    refine xl_gs rfl EvO.eq ?_
    refine xl_gs rfl EvO.eq ?_
    refine xl_gs rfl EvO.eq ?_
    refine xl_gs rfl EvO.eq ?_
    refine xl_gs rfl EvO.eq ?_
    refine xl_gs rfl EvO.eq ?_
    refine xl_gs rfl EvO.eq ?_
    refine xl_v (by first | exact v_pickT | exact v_pickF | exact v_pick) ?_
    refine xl_v v_assign ?_
    refine xl_nil ?_
    refine x_ret ?_
    refine fin1 rfl ?_
    refine ⟨?_, lkc⟩
    rw [msg_dec]
    simp_all
/-- waystation/waystationlaw05.num -/
theorem num_ok (e : Int) (w : World) : Ret Try.prog 11 #[.int .i64 e] w (fun v w' => v = .int .i64 e ∧ w = w') := by
  refine ret_of_x (N := 4) (l := [.int .i64 e]) Try.func11 rfl rfl (Nat.le_of_ble_eq_true rfl) ?_
  refine x_seq ?_
  refine x_regionL ?_
  refine xl_v v_assign ?_
  refine xl_nil ?_
  refine x_seq ?_
  refine x_regionL ?_
  refine xl_v v_move ?_
  refine xl_v v_assign ?_
  refine xl_nil ?_
  refine x_ret ?_
  refine fin1 rfl ?_
  exact ⟨rfl, rfl⟩
theorem put_p (b mb : Nat) (G : Nat → Prop) (N : NetL) (x : LMsg) (w : World) (h : NetAt w b mb G N) (hok : N.pure.ok) (hc : N.came ≤ 100000000) [hr : Row w x.A (bytesC x.m.bytes)] {M' : Net} {k e : Int} (h1 : N.pure.putM x.m = M') (h2 : N.pure.putN x.m = k) (h3 : N.pure.putNo x.m = e) :
    Ret Try.prog 10 #[.pointer (some ⟨b, 0, none⟩), .agg (msgC x).toArray] w (fun v w' => v = .tuple #[.int .i64 k, .int .i64 e] ∧ Lk w' w (TwoB b mb) ∧ ∃ (G' : Nat → Prop) (N' : NetL), NetAt w' b mb G' N' ∧ N'.pure = M' ∧ M'.ok ∧ Sub G' G w ∧ (∀ k, G k → G' k)) := by
  subst h1; subst h2; subst h3
  refine (put_ok b mb G N x w h hok hc).mono ?_
  rintro v w' ⟨h1, h2, G', N', h3, h4, h5, h6⟩
  exact ⟨h1, h2, G', N', h3, h4, hok.put _, h5, h6⟩
theorem dup_p (b mb : Nat) (G : Nat → Prop) (N : NetL) (pick : Int) (w : World) (h : NetAt w b mb G N) (hok : N.pure.ok) (hc : N.came ≤ 100000000) {M' : Net} {k e : Int} (h1 : N.pure.dupM pick = M') (h2 : N.pure.dupN pick = k) (h3 : N.pure.dupNo pick = e) :
    Ret Try.prog 12 #[.pointer (some ⟨b, 0, none⟩), .int .i64 pick] w (fun v w' => v = .tuple #[.int .i64 k, .int .i64 e] ∧ Lk w' w (TwoB b mb) ∧ ∃ (G' : Nat → Prop) (N' : NetL), NetAt w' b mb G' N' ∧ N'.pure = M' ∧ M'.ok ∧ Sub G' G w ∧ (∀ k, G k → G' k)) := by
  subst h1; subst h2; subst h3
  refine (dup_ok b mb G N pick w h hok hc).mono ?_
  rintro v w' ⟨h1, ⟨G', N', h3, h4, h5, h6⟩, h2⟩
  refine ⟨h1, h2, G', N', h3, h4, ?_, h5, h6⟩
  rw [Net.dupM]
  split
  · exact hok
  · exact hok.put _
theorem take_p (b mb : Nat) (G : Nat → Prop) (N : NetL) (pick : Int) (w : World) (h : NetAt w b mb G N) (hok : N.pure.ok) {M' : Net} {m : Msg} {k e : Int} (h1 : N.pure.takeM pick = M') (h2 : N.pure.peek pick = (m, k, e)) :
    Ret Try.prog 13 #[.pointer (some ⟨b, 0, none⟩), .int .i64 pick] w (fun v w' => (∃ A' c', v = .tuple #[.agg (msgC ⟨m, A', c'⟩).toArray, .int .i64 k, .int .i64 e] ∧ w'.ownsRow w.heap.size 5 1 (.slice A' m.bytes.length c') m.bytes.length (bytesC m.bytes)) ∧ Lk w' w (TwoB b mb) ∧ ∃ (N' : NetL), NetAt w' b mb G N' ∧ N'.pure = M' ∧ M'.ok) := by
  subst h1
  refine (take_ok b mb G N pick w h hok).mono ?_
  rw [h2]
  rintro v w' ⟨h1, ⟨N', h3, h4⟩, h5⟩
  refine ⟨h1, h5, N', h3, h4, ?_⟩
  rw [Net.takeM]
  split
  · exact hok
  · exact hok.without _
theorem NetAt.out {w w' : World} {b mb : Nat} {G : Nat → Prop} {N : NetL} (h : NetAt w b mb G N) {c : Nat} (hk : Keep (OneB c) w w') (hc : w.heap.size ≤ c) : NetAt w' b mb G N :=
  h.keep hk (fun k hk e => by have e' : k = c := e; have := h.lt k hk; omega)
abbrev wm1 : Msg := ⟨1, 2, [97]⟩
abbrev wm2 : Msg := ⟨2, 1, [98]⟩
abbrev W1 : Net := ⟨2, 1, [(0, wm1)]⟩
abbrev W2 : Net := ⟨2, 2, [(0, wm1), (1, wm2)]⟩
abbrev W3 : Net := ⟨2, 2, [(0, wm1)]⟩
abbrev W4 : Net := ⟨2, 3, [(0, wm1), (2, wm1)]⟩
theorem new_okN (most : Int) (h : 1 ≤ most ∧ most ≤ 4096) : Net.ok ⟨most, 0, []⟩ := ⟨h.1, h.2, by simp; omega, (by intro p hp; cases hp), List.Pairwise.nil, (by intro p hp; cases hp)⟩
/-- waystation/waystationlaw05.works -/
theorem works_ok (w : World) : Ret Try.prog 15 #[] w (fun v w' => v = .bool true ∧ Lk w' w NoB) := by
  refine ret_of_x (N := 103) (l := []) Try.func15 rfl rfl (Nat.le_of_ble_eq_true rfl) ?_
  refine x_seq ?_
  refine x_regionL ?_
  refine xl_v v_assign ?_
  refine xl_nil ?_
  refine x_seq ?_
  refine x_regionL ?_
  refine xl_call (new_ok 2 w) ?_
  rintro _ w1 ⟨hnew, lk1⟩
  rw [if_pos (by decide)] at hnew
  obtain ⟨b, mb, rfl, hN0, hgb, hgm⟩ := hnew
  haveI sT : SubF (TwoB b mb) NoB w := ⟨fun k hk e => by have h1 := (lk1.keep.size); rcases e with e | e <;> omega⟩
  have hN0' : ∀ W, Lk W w1 NoB → NetAt W b mb NoB ⟨2, 0, []⟩ := fun W l => hN0.ext l.keep
  refine xl_v v_move ?_
  refine xl_v v_extract ?_
  refine xl_v v_extract ?_
  refine xl_v v_assign ?_
  refine xl_v v_assign ?_
  refine xl_nil ?_
  refine x_seq ?_
  refine x_regionL ?_
  refine xl_v v_move ?_
  refine xl_e (e_buildSlice1 rfl fun b5 w2 n5 l5 k5 => ?_)
  refine xl_e (e_convConst fun w3 l6 k6 => ?_)
  refine xl_v v_build ?_
  haveI : Row w3 (some ⟨b5, 0, none⟩) (bytesC [97]) := ⟨row_blk k6⟩
  refine xl_call ((put_p b mb NoB ⟨2, 0, []⟩ ⟨wm1, some ⟨b5, 0, none⟩, 1⟩ w3 (hN0' _ lkc) (new_okN 2 (by decide)) (by decide) (M' := W1) (k := 0) (e := 0) (show Net.putM ⟨2, 0, []⟩ wm1 = W1 by decide) (show Net.putN ⟨2, 0, []⟩ wm1 = 0 by decide) (show Net.putNo ⟨2, 0, []⟩ wm1 = 0 by decide) : Ret Try.prog 10 #[.pointer (some ⟨b, 0, none⟩), .agg #[.int .i64 1, .int .i64 2, .slice (some ⟨b5, 0, none⟩) 1 1]] w3 _)) ?_
  rintro _ w4 ⟨rfl, lk2, G1, N1, hN1, hp1, ho1, _, _⟩
  have hN1' : ∀ W, Lk W w4 NoB → NetAt W b mb G1 N1 := fun W l => hN1.ext l.keep
  refine xl_v v_move ?_
  refine xl_v v_extract ?_
  refine xl_v v_extract ?_
  refine xl_v v_assign ?_
  refine xl_v v_assign ?_
  refine xl_nil ?_
  refine x_seq ?_
  refine x_regionL ?_
  refine xl_v v_move ?_
  refine xl_e (e_buildSlice1 rfl fun b7 w5 n7 l7 k7 => ?_)
  refine xl_e (e_convConst fun w6 l8 k8 => ?_)
  refine xl_v v_build ?_
  haveI : Row w6 (some ⟨b7, 0, none⟩) (bytesC [98]) := ⟨row_blk k8⟩
  refine xl_call ((put_p b mb G1 N1 ⟨wm2, some ⟨b7, 0, none⟩, 1⟩ w6 (hN1' _ lkc) (by rw [hp1]; exact ho1) (by show N1.pure.came ≤ _; rw [hp1]; decide) (M' := W2) (k := 1) (e := 0) (by rw [hp1]; exact (by decide : Net.putM W1 wm2 = W2)) (by rw [hp1]; exact (by decide : Net.putN W1 wm2 = 1)) (by rw [hp1]; exact (by decide : Net.putNo W1 wm2 = 0)) : Ret Try.prog 10 #[.pointer (some ⟨b, 0, none⟩), .agg #[.int .i64 2, .int .i64 1, .slice (some ⟨b7, 0, none⟩) 1 1]] w6 _)) ?_
  rintro _ w7 ⟨rfl, lk3, G2, N2, hN2, hp2, ho2, _, _⟩
  have hN2' : ∀ W, Lk W w7 NoB → NetAt W b mb G2 N2 := fun W l => hN2.ext l.keep
  refine xl_v v_move ?_
  refine xl_v v_extract ?_
  refine xl_v v_extract ?_
  refine xl_v v_assign ?_
  refine xl_v v_assign ?_
  refine xl_nil ?_
  refine x_seq ?_
  refine x_regionL ?_
  refine xl_v v_move ?_
  refine xl_v v_build ?_
  haveI : Row w7 zeroM.A (bytesC zeroM.m.bytes) := ⟨fun j v h => by simp [zeroM] at h⟩
  refine xl_call ((put_p b mb G2 N2 zeroM w7 (hN2' _ lkc) (by rw [hp2]; exact ho2) (by show N2.pure.came ≤ _; rw [hp2]; decide) (M' := W2) (k := 0) (e := 150) (by rw [hp2]; decide) (by rw [hp2]; decide) (by rw [hp2]; decide) : Ret Try.prog 10 #[.pointer (some ⟨b, 0, none⟩), .agg #[.int .i64 0, .int .i64 0, .slice none 0 0]] w7 _)) ?_
  rintro _ w8 ⟨rfl, lk4, G3, N3, hN3, hp3, ho3, _, _⟩
  have hN3' : ∀ W, Lk W w8 NoB → NetAt W b mb G3 N3 := fun W l => hN3.ext l.keep
  refine xl_v v_move ?_
  refine xl_v v_extract ?_
  refine xl_v v_extract ?_
  refine xl_v v_assign ?_
  refine xl_v v_assign ?_
  refine xl_nil ?_
  refine x_seq ?_
  refine x_regionL ?_
  refine xl_v v_move ?_
  refine xl_call (take_p b mb G3 N3 1 w8 (hN3' _ lkc) (by rw [hp3]; exact ho3) (M' := W3) (m := wm2) (k := 1) (e := 0) (by rw [hp3]; decide) (by rw [hp3]; decide)) ?_
  rintro _ w9 ⟨⟨A5, c5, rfl, ho5⟩, lk5, N4, hN4, hp4, ho4⟩
  have hN4' : ∀ W, Lk W w9 NoB → NetAt W b mb G3 N4 := fun W l => hN4.ext l.keep
  haveI : OwnI w9 _ _ _ _ _ _ _ _ := ⟨ho5⟩
  haveI hA5 : NewA A5 w8 := newA_of ho5 (Nat.le_refl _)
  haveI : RowOut (TwoB b mb) A5 := ⟨fun a ha e => by have h1 := hA5.le a ha; have h2 := (hN3' w8 lkc).lt b (.inl rfl); have h3 := (hN3' w8 lkc).lt mb (.inr (.inl rfl)); rcases e with e | e <;> omega⟩
  refine xl_v v_move ?_
  refine xl_v v_extract ?_
  refine xl_v v_extract ?_
  refine xl_v v_extract ?_
  refine xl_e (e_alloc fun ba w10 na la ka => ?_)
  refine xl_s (e_storeA fun w11 l11 k11 => ?_)
  have hba := na.eq
  haveI : NeB ba b := ⟨by have := hN4.lt b (.inl rfl); omega⟩
  haveI : NeB ba mb := ⟨by have := hN4.lt mb (.inr (.inl rfl)); omega⟩
  refine xl_v v_assign ?_
  refine xl_v v_assign ?_
  refine xl_nil ?_
  refine x_seq ?_
  refine x_regionL ?_
  refine xl_v v_move ?_
  refine xl_call (dup_p b mb G3 N4 0 w11 (hN4' _ lkc) (by rw [hp4]; exact ho4) (by show N4.pure.came ≤ _; rw [hp4]; decide) (M' := W4) (k := 2) (e := 0) (by rw [hp4]; decide) (by rw [hp4]; decide) (by rw [hp4]; decide)) ?_
  rintro _ w12 ⟨rfl, lk6, G5, N5, hN5, hp5, ho6, _, _⟩
  have hN5' : ∀ W, Lk W w12 NoB → NetAt W b mb G5 N5 := fun W l => hN5.ext l.keep
  refine xl_v v_move ?_
  refine xl_v v_extract ?_
  refine xl_v v_extract ?_
  refine xl_v v_assign ?_
  refine xl_v v_assign ?_
  refine xl_nil ?_
  refine x_seq ?_
  refine x_regionL ?_
  refine xl_v v_move ?_
  refine xl_call (num_ok _ _) ?_
  rintro _ _ ⟨rfl, rfl⟩
  refine xl_v v_move ?_
  refine xl_call (num_ok _ _) ?_
  rintro _ _ ⟨rfl, rfl⟩
  refine xl_v (v_add (by omega)) ?_
  refine xl_v v_move ?_
  refine xl_call (num_ok _ _) ?_
  rintro _ _ ⟨rfl, rfl⟩
  refine xl_v (v_add (by omega)) ?_
  refine xl_v v_move ?_
  refine xl_call (num_ok _ _) ?_
  rintro _ _ ⟨rfl, rfl⟩
  refine xl_v (v_add (by omega)) ?_
  refine xl_v v_move ?_
  refine xl_call (num_ok _ _) ?_
  rintro _ _ ⟨rfl, rfl⟩
  refine xl_v (v_add (by omega)) ?_
  refine xl_v (v_congr (u := .bool true) v_eql (by simp)) ?_
  refine xl_v v_move ?_
  refine xl_gv rfl EvO.eq v_move ?_
  refine xl_gcall rfl EvO.eq (num_ok _ _) ?_
  rintro _ _ ⟨rfl, rfl⟩
  refine xl_gv rfl EvO.eq (v_congr (u := .bool true) v_eql (by simp)) ?_
  refine xl_v (by first | exact v_pickT | exact v_pickF | exact v_pick) ?_
  refine xl_v v_move ?_
  refine xl_gv rfl EvO.eq v_move ?_
  refine xl_gv rfl EvO.eq (v_congr (u := .bool true) v_eql (by simp)) ?_
  refine xl_v (by first | exact v_pickT | exact v_pickF | exact v_pick) ?_
  refine xl_v v_move ?_
  refine xl_gv rfl EvO.eq v_move ?_
  refine xl_gv rfl EvO.eq (v_congr (u := .bool true) v_eql (by simp)) ?_
  refine xl_v (by first | exact v_pickT | exact v_pickF | exact v_pick) ?_
  refine xl_v v_move ?_
  refine xl_gv rfl EvO.eq v_move ?_
  refine xl_gv rfl EvO.eq (v_congr (u := .bool true) v_eql (by simp)) ?_
  refine xl_v (by first | exact v_pickT | exact v_pickF | exact v_pick) ?_
  refine xl_v v_move ?_
  refine xl_gv rfl EvO.eq (by first | exact v_fieldAddr | exact v_fieldAddrF (by decide) (by omega) | exact v_fieldAddrR (by first | assumption | rfl)) ?_
  refine xl_gv rfl EvO.eq (by first | exact v_load | exact v_loadO (by omega) | exact v_loadFf (by omega) | exact v_loadF0 (by omega)) ?_
  refine xl_gv rfl EvO.eq (v_bytesStr (xs := [98]) rfl) ?_
  refine xl_gv rfl EvO.eq (v_congr (u := .bool true) v_seql (by simp)) ?_
  refine xl_v (by first | exact v_pickT | exact v_pickF | exact v_pick) ?_
  refine xl_v v_move ?_
  refine xl_gv rfl EvO.eq v_move ?_
  refine xl_gv rfl EvO.eq (v_congr (u := .bool true) v_eql (by simp)) ?_
  refine xl_v (by first | exact v_pickT | exact v_pickF | exact v_pick) ?_
  refine xl_v v_move ?_
  refine xl_gv rfl EvO.eq v_move ?_
  refine xl_gcall rfl EvO.eq (len_ok b mb G5 N5 w12 (hN5' _ lkc)) ?_
  rintro _ w19 ⟨rfl, lk7⟩
  rw [← pure_len, hp5]
  refine xl_gv rfl EvO.eq (v_congr (u := .bool true) v_eql (by simp)) ?_
  refine xl_v (by first | exact v_pickT | exact v_pickF | exact v_pick) ?_
  refine xl_v v_move ?_
  refine xl_gv rfl EvO.eq v_move ?_
  refine xl_gcall rfl EvO.eq (came_ok b mb G5 N5 w19 (hN5' _ lkc)) ?_
  rintro _ w20 ⟨rfl, lk8⟩
  rw [show N5.came = N5.pure.came from rfl, hp5]
  refine xl_gv rfl EvO.eq (v_congr (u := .bool true) v_eql (by simp)) ?_
  refine xl_v (by first | exact v_pickT | exact v_pickF | exact v_pick) ?_
  refine xl_v v_assign ?_
  refine xl_nil ?_
  refine x_ret ?_
  refine fin1 rfl ?_
  exact ⟨rfl, lkc⟩
end Go.Proofs.Ytacadajlpmhcfaa
