/-
  Walks, printed by a program of this workplace (wip/tools/sx.py) off the functions' code and a text of contracts.
-/
import Derived.Test.YtbihphclmdokeaaAD
set_option linter.all false
set_option maxRecDepth 100000
set_option synthInstance.maxSize 100000
set_option synthInstance.maxHeartbeats 400000
namespace Go.Proofs.Ytbihphclmdokeaa
open Go.Wst
open Go.Wst.Sm
/-- (*waystation/stream.Machine).Rule -/
theorem rule_nil (r : Rule) (w : World) : Ret Try.prog 21 #[.pointer none, .agg (ruleC r).toArray] w (fun v w' => v = .int .i64 1 ∧ Lk w' w NoB) := by
  refine ret_of_x (N := 53) (l := [.pointer none, .agg (ruleC r).toArray]) Try.func21 rfl rfl (Nat.le_of_ble_eq_true rfl) ?_
  refine x_seq ?_
  refine x_regionL ?_
  refine xl_e (e_box fun b1 w1 n1 l1 k1 => ?_)
  refine xl_v v_assign ?_
  refine xl_nil ?_
  refine x_seq ?_
  refine x_seq ?_
  refine x_regionL ?_
  refine xl_v v_move ?_
  refine xl_call (none_nil _) ?_
  rintro _ _ ⟨rfl, rfl⟩
  refine xl_nil ?_
  refine x_condT ?_
  refine x_seq ?_
  refine x_regionL ?_
  refine xl_v v_assign ?_
  refine xl_nil ?_
  refine x_ret ?_
  refine fin1 rfl ?_
  exact ⟨rfl, lkc⟩
/-- (*waystation/stream.Machine).Put -/
theorem put_nil (part v : Int) (w : World) : Ret Try.prog 22 #[.pointer none, .int .i64 part, .int .i64 v] w (fun v w' => v = .int .i64 1 ∧ Lk w' w NoB) := by
  refine ret_of_x (N := 52) (l := [.pointer none, .int .i64 part, .int .i64 v]) Try.func22 rfl rfl (Nat.le_of_ble_eq_true rfl) ?_
  refine x_seq ?_
  refine x_regionL ?_
  refine xl_v v_assign ?_
  refine xl_nil ?_
  refine x_seq ?_
  refine x_block ?_
  refine x_seq ?_
  refine x_regionL ?_
  refine xl_v v_move ?_
  refine xl_call (none_nil _) ?_
  rintro _ _ ⟨rfl, rfl⟩
  refine xl_v v_assign ?_
  refine xl_nil ?_
  refine x_condT ?_
  refine x_seq ?_
  refine x_regionL ?_
  refine xl_v v_assign ?_
  refine xl_nil ?_
  refine x_ret ?_
  refine fin1 rfl ?_
  exact ⟨rfl, lkc⟩
/-- (*waystation/stream.Machine).Round -/
theorem round_nil (id most : Int) (w : World) : Ret Try.prog 23 #[.pointer none, .int .i64 id, .int .i64 most] w (fun v w' => v = .tuple #[.int .i64 0, .int .i64 1] ∧ Lk w' w NoB) := by
  refine ret_of_x (N := 107) (l := [.pointer none, .int .i64 id, .int .i64 most]) Try.func23 rfl rfl (Nat.le_of_ble_eq_true rfl) ?_
  refine x_seq ?_
  refine x_regionL ?_
  refine xl_e (e_box fun b1 w1 n1 l1 k1 => ?_)
  refine xl_v v_assign ?_
  refine xl_v v_assign ?_
  refine xl_nil ?_
  refine x_seq ?_
  refine x_seq ?_
  refine x_regionL ?_
  refine xl_v v_move ?_
  refine xl_call (none_nil _) ?_
  rintro _ _ ⟨rfl, rfl⟩
  refine xl_nil ?_
  refine x_condT ?_
  refine x_seq ?_
  refine x_regionL ?_
  refine xl_v v_assign ?_
  refine xl_v v_assign ?_
  refine xl_nil ?_
  refine x_ret ?_
  refine fin2 rfl ?_
  exact ⟨rfl, lkc⟩
/-- (*waystation/stream.Machine).Items -/
theorem items_nil (part : Int) (w : World) : Ret Try.prog 33 #[.pointer none, .int .i64 part] w (fun v w' => v = .tuple #[.slice none 0 0, .int .i64 1] ∧ Lk w' w NoB) := by
  refine ret_of_x (N := 26) (l := [.pointer none, .int .i64 part]) Try.func33 rfl rfl (Nat.le_of_ble_eq_true rfl) ?_
  refine x_seq ?_
  refine x_regionL ?_
  refine xl_v v_assign ?_
  refine xl_v v_assign ?_
  refine xl_nil ?_
  refine x_seq ?_
  refine x_block ?_
  refine x_seq ?_
  refine x_regionL ?_
  refine xl_v v_move ?_
  refine xl_call (none_nil _) ?_
  rintro _ _ ⟨rfl, rfl⟩
  refine xl_v v_assign ?_
  refine xl_nil ?_
  refine x_condT ?_
  refine x_seq ?_
  refine x_regionL ?_
  refine xl_v v_assign ?_
  refine xl_v v_assign ?_
  refine xl_nil ?_
  refine x_ret ?_
  refine fin2 rfl ?_
  exact ⟨rfl, lkc⟩
/-- (*waystation/stream.Machine).of -/
theorem of_nil (id : Int) (w : World) : Ret Try.prog 54 #[.pointer none, .int .i64 id] w (fun v w' => v = .tuple #[.agg (rpC (⟨0, 0, 0, 0, 0⟩, 0)).toArray, .int .i64 1] ∧ Lk w' w NoB) := by
  refine ret_of_x (N := 24) (l := [.pointer none, .int .i64 id]) Try.func54 rfl rfl (Nat.le_of_ble_eq_true rfl) ?_
  refine x_seq ?_
  refine x_regionL ?_
  refine xl_e (e_alloc fun b1 w1 n1 l1 k1 => ?_)
  refine xl_v v_assign ?_
  refine xl_nil ?_
  refine x_seq ?_
  refine x_seq ?_
  refine x_regionL ?_
  refine xl_v v_move ?_
  refine xl_call (none_nil _) ?_
  rintro _ _ ⟨rfl, rfl⟩
  refine xl_nil ?_
  refine x_condT ?_
  refine x_seq ?_
  refine x_regionL ?_
  refine xl_v v_build ?_
  refine xl_s (e_storeA fun w3 l3 k3 => ?_)
  refine xl_v v_assign ?_
  refine xl_nil ?_
  refine x_ret ?_
  refine finR (rs := [.cell 4 89, .tmp 5]) rfl ?_
  exact ⟨rfl, lkc⟩
/-- (*waystation/stream.Machine).Pos -/
theorem pos_nil (id : Int) (w : World) : Ret Try.prog 26 #[.pointer none, .int .i64 id] w (fun v w' => v = .tuple #[.int .i64 0, .int .i64 1] ∧ Lk w' w NoB) := by
  refine ret_of_x (N := 17) (l := [.pointer none, .int .i64 id]) Try.func26 rfl rfl (Nat.le_of_ble_eq_true rfl) ?_
  refine x_seq ?_
  refine x_regionL ?_
  refine xl_v v_assign ?_
  refine xl_v v_assign ?_
  refine xl_nil ?_
  refine x_seq ?_
  refine x_regionL ?_
  refine xl_v v_move ?_
  refine xl_v v_move ?_
  refine xl_call (of_nil id _) ?_
  rintro _ w1 ⟨rfl, lk⟩
  refine xl_v v_move ?_
  refine xl_v v_extract ?_
  refine xl_v v_extract ?_
  refine xl_e (e_alloc fun b2 w2 n2 l2 k2 => ?_)
  refine xl_s (e_storeA fun w3 l3 k3 => ?_)
  refine xl_v v_assign ?_
  refine xl_nil ?_
  refine x_seq ?_
  refine x_regionL ?_
  refine xl_v (by first | exact v_fieldAddr | exact v_fieldAddrF (by decide) (by omega) | exact v_fieldAddrR (by first | assumption | rfl)) ?_
  refine xl_v (by first | exact v_load | exact v_loadO (by omega) | exact v_loadFf (by omega) | exact v_loadF0 (by omega)) ?_
  refine xl_v v_move ?_
  refine xl_v v_assign ?_
  refine xl_v v_assign ?_
  refine xl_nil ?_
  refine x_ret ?_
  refine fin2 rfl ?_
  exact ⟨rfl, lkc⟩
/-- (*waystation/stream.Machine).Made -/
theorem made_nil (id : Int) (w : World) : Ret Try.prog 34 #[.pointer none, .int .i64 id] w (fun v w' => v = .tuple #[.slice none 0 0, .int .i64 1] ∧ Lk w' w NoB) := by
  refine ret_of_x (N := 33) (l := [.pointer none, .int .i64 id]) Try.func34 rfl rfl (Nat.le_of_ble_eq_true rfl) ?_
  refine x_seq ?_
  refine x_regionL ?_
  refine xl_e (e_box fun b1 w1 n1 l1 k1 => ?_)
  refine xl_v v_assign ?_
  refine xl_v v_assign ?_
  refine xl_nil ?_
  refine x_seq ?_
  refine x_regionL ?_
  refine xl_v v_move ?_
  refine xl_v (by first | exact v_load | exact v_loadO (by omega) | exact v_loadFf (by omega) | exact v_loadF0 (by omega)) ?_
  refine xl_call (of_nil id _) ?_
  rintro _ w2 ⟨rfl, lk⟩
  refine xl_v v_move ?_
  refine xl_v v_extract ?_
  refine xl_v v_extract ?_
  refine xl_e (e_alloc fun b3 w3 n3 l3 k3 => ?_)
  refine xl_s (e_storeA fun w4 l4 k4 => ?_)
  refine xl_v v_assign ?_
  refine xl_nil ?_
  refine x_seq ?_
  refine x_seq ?_
  refine x_regionL ?_
  refine xl_v v_move ?_
  refine xl_v (v_neqT (by decide)) ?_
  refine xl_nil ?_
  refine x_condT ?_
  refine x_seq ?_
  refine x_regionL ?_
  refine xl_v v_move ?_
  refine xl_v v_assign ?_
  refine xl_v v_assign ?_
  refine xl_nil ?_
  refine x_ret ?_
  refine fin2 rfl ?_
  exact ⟨rfl, lkc⟩
/-- (*waystation/stream.Machine).Copy -/
theorem copy_nil (w : World) : Ret Try.prog 37 #[.pointer none] w (fun v w' => v = .pointer none ∧ Lk w' w NoB) := by
  refine ret_of_x (N := 19) (l := [.pointer none]) Try.func37 rfl rfl (Nat.le_of_ble_eq_true rfl) ?_
  refine x_seq ?_
  refine x_regionL ?_
  refine xl_v v_assign ?_
  refine xl_nil ?_
  refine x_seq ?_
  refine x_seq ?_
  refine x_regionL ?_
  refine xl_v v_move ?_
  refine xl_call (none_nil _) ?_
  rintro _ _ ⟨rfl, rfl⟩
  refine xl_nil ?_
  refine x_condT ?_
  refine x_seq ?_
  refine x_regionL ?_
  refine xl_v v_assign ?_
  refine xl_nil ?_
  refine x_ret ?_
  refine fin1 rfl ?_
  exact ⟨rfl, lkc⟩
/-- waystation/stream.Same -/
theorem same_nil (w : World) : Ret Try.prog 24 #[.pointer none, .pointer none] w (fun v w' => v = .bool true ∧ Lk w' w NoB) := by
  refine ret_of_x (N := 39) (l := [.pointer none, .pointer none]) Try.func24 rfl rfl (Nat.le_of_ble_eq_true rfl) ?_
  refine x_seq ?_
  refine x_regionL ?_
  refine xl_v v_assign ?_
  refine xl_nil ?_
  refine x_seq ?_
  refine x_seq ?_
  refine x_regionL ?_
  refine xl_v v_move ?_
  refine xl_call (none_nil _) ?_
  rintro _ _ ⟨rfl, rfl⟩
  refine xl_v v_move ?_
  refine xl_gs rfl EvO.eq ?_
  refine xl_gs rfl EvO.eq ?_
  refine xl_v (by first | exact v_pickT | exact v_pickF | exact v_pick) ?_
  refine xl_nil ?_
  refine x_condT ?_
  refine x_seq ?_
  refine x_regionL ?_
  refine xl_v v_move ?_
  refine xl_call (none_nil _) ?_
  rintro _ _ ⟨rfl, rfl⟩
  refine xl_v v_move ?_
  refine xl_gv rfl EvO.eq v_move ?_
  refine xl_gcall rfl EvO.eq (none_nil _) ?_
  rintro _ _ ⟨rfl, rfl⟩
  refine xl_v (by first | exact v_pickT | exact v_pickF | exact v_pick) ?_
  refine xl_v v_assign ?_
  refine xl_nil ?_
  refine x_ret ?_
  refine fin1 rfl ?_
  exact ⟨rfl, lkc⟩
/-- waystation/stream.Same -/
theorem same_nilR (b mb : Nat) (x : Value) (w : World) [Blk w b (.cells [x, .map (some mb)].toArray 87 (0, 0))] : Ret Try.prog 24 #[.pointer (some ⟨b, 0, none⟩), .pointer none] w (fun v w' => v = .bool false ∧ Lk w' w NoB) := by
  refine ret_of_x (N := 39) (l := [.pointer (some ⟨b, 0, none⟩), .pointer none]) Try.func24 rfl rfl (Nat.le_of_ble_eq_true rfl) ?_
  refine x_seq ?_
  refine x_regionL ?_
  refine xl_v v_assign ?_
  refine xl_nil ?_
  refine x_seq ?_
  refine x_seq ?_
  refine x_regionL ?_
  refine xl_v v_move ?_
  refine xl_call (none_ok _ _ _ _) ?_
  rintro _ _ ⟨rfl, rfl⟩
  refine xl_v v_move ?_
  refine xl_gv rfl EvO.eq v_move ?_
  refine xl_gcall rfl EvO.eq (none_nil _) ?_
  rintro _ _ ⟨rfl, rfl⟩
  refine xl_v (by first | exact v_pickT | exact v_pickF | exact v_pick) ?_
  refine xl_nil ?_
  refine x_condT ?_
  refine x_seq ?_
  refine x_regionL ?_
  refine xl_v v_move ?_
  refine xl_call (none_ok _ _ _ _) ?_
  rintro _ _ ⟨rfl, rfl⟩
  refine xl_v v_move ?_
  refine xl_gs rfl EvO.eq ?_
  refine xl_gs rfl EvO.eq ?_
  refine xl_v (by first | exact v_pickT | exact v_pickF | exact v_pick) ?_
  refine xl_v v_assign ?_
  refine xl_nil ?_
  refine x_ret ?_
  refine fin1 rfl ?_
  exact ⟨rfl, lkc⟩
/-- waystation/stream.Same -/
theorem same_nilL (b mb : Nat) (x : Value) (w : World) [Blk w b (.cells [x, .map (some mb)].toArray 87 (0, 0))] : Ret Try.prog 24 #[.pointer none, .pointer (some ⟨b, 0, none⟩)] w (fun v w' => v = .bool false ∧ Lk w' w NoB) := by
  refine ret_of_x (N := 39) (l := [.pointer none, .pointer (some ⟨b, 0, none⟩)]) Try.func24 rfl rfl (Nat.le_of_ble_eq_true rfl) ?_
  refine x_seq ?_
  refine x_regionL ?_
  refine xl_v v_assign ?_
  refine xl_nil ?_
  refine x_seq ?_
  refine x_seq ?_
  refine x_regionL ?_
  refine xl_v v_move ?_
  refine xl_call (none_nil _) ?_
  rintro _ _ ⟨rfl, rfl⟩
  refine xl_v v_move ?_
  refine xl_gs rfl EvO.eq ?_
  refine xl_gs rfl EvO.eq ?_
  refine xl_v (by first | exact v_pickT | exact v_pickF | exact v_pick) ?_
  refine xl_nil ?_
  refine x_condT ?_
  refine x_seq ?_
  refine x_regionL ?_
  refine xl_v v_move ?_
  refine xl_call (none_nil _) ?_
  rintro _ _ ⟨rfl, rfl⟩
  refine xl_v v_move ?_
  refine xl_gv rfl EvO.eq v_move ?_
  refine xl_gcall rfl EvO.eq (none_ok _ _ _ _) ?_
  rintro _ _ ⟨rfl, rfl⟩
  refine xl_v (by first | exact v_pickT | exact v_pickF | exact v_pick) ?_
  refine xl_v v_assign ?_
  refine xl_nil ?_
  refine x_ret ?_
  refine fin1 rfl ?_
  exact ⟨rfl, lkc⟩
/-- (*waystation/stream.Machine).ids -/
theorem idsn_ok (w : World) : Ret Try.prog 55 #[.pointer none] w (fun v w' => ∃ b1, v = .func (.func 73) ([] : List Value).toArray [Value.pointer (some ⟨b1, 0, none⟩)].toArray ∧ Blk w' b1 (.cells #[.pointer none] 36 (0, 0)) ∧ w.heap.size ≤ b1 ∧ Lk w' w NoB) := by
  refine ret_of_x (N := 4) (l := [.pointer none]) Try.func55 rfl rfl (Nat.le_of_ble_eq_true rfl) ?_
  refine x_seq ?_
  refine x_regionL ?_
  refine xl_e (e_box fun b1 w1 nb lb kb => ?_)
  refine xl_v v_assign ?_
  refine xl_nil ?_
  refine x_seq ?_
  refine x_regionL ?_
  refine xl_v v_makeFunc ?_
  refine xl_v v_assign ?_
  refine xl_nil ?_
  refine x_ret ?_
  refine fin1 rfl ?_
  exact ⟨b1, rfl, inferInstance, Nat.le_of_eq nb.eq.symm, lkc⟩
/-- (*waystation/stream.Machine).ids$1 -/
theorem ids1_nil (y : Value) (b1 : Nat) (I J : Seen → (Nat → Prop) → World → Prop) (F : Nat → Prop) (w : World) [Blk w b1 (.cells #[.pointer none] 36 (0, 0))] (w0 : World) (hy : YieldsI Try.prog y (fun _ => False) I J w0) (h0 : I [] F w) : Ret Try.prog 73 #[y, .pointer (some ⟨b1, 0, none⟩)] w (fun _ w' => ∃ pre F', ((pre = [] ∧ I pre F' w') ∨ J pre F' w') ∧ Keep F w w' ∧ Sub F' F w) := by
  refine ret_of_x (N := 23) (l := [y, .pointer (some ⟨b1, 0, none⟩)]) Try.func73 rfl rfl (Nat.le_of_ble_eq_true rfl) ?_
  refine x_seq ?_
  refine x_seq ?_
  refine x_regionL ?_
  refine xl_v (by first | exact v_load | exact v_loadO (by omega) | exact v_loadFf (by omega) | exact v_loadF0 (by omega)) ?_
  refine xl_call (none_nil _) ?_
  rintro _ _ ⟨rfl, rfl⟩
  refine xl_nil ?_
  refine x_condT ?_
  refine x_ret ?_
  refine fin0r rfl ?_
  exact ⟨[], F, .inl ⟨rfl, hy.i.keep _ _ _ _ _ h0 (kpc : Keep NoB w w) (fun _ _ h => h) (fun _ h => h.elim)⟩, (kpc : Keep NoB w w).mono (fun _ _ h => h.elim), Sub.refl _ _⟩
theorem idsnIter (b1 : Nat) (w : World) [Blk w b1 (.cells #[.pointer none] 36 (0, 0))] :
    IterI Try.prog (.func (.func 73) ([] : List Value).toArray [Value.pointer (some ⟨b1, 0, none⟩)].toArray) (fun _ => False) (fun _ => False) (fun pre => pre = []) w :=
  fun y I J F w0 hy hw0 h0 hF => CallV.of_ret (ids1_nil y b1 I J F w w0 hy h0)
def NilE (wb : World) : Seen → (Nat → Prop) → World → Prop := fun pre F W => F = NoB ∧ Keep NoB wb W
theorem nilE_stable {wb : World} : Stable (NilE wb) wb := by
  refine ⟨?_, ?_⟩
  · rintro pre F W ⟨rfl, _⟩ k hk
    exact hk.elim
  · rintro pre F W W' S ⟨rfl, h⟩ hk hs hn
    exact ⟨rfl, h.then hk (fun k hlt hS => by have := hn k hS; omega)⟩
/-- (*waystation/stream.Machine).Rules -/
theorem rules_nil (w : World) : Ret Try.prog 36 #[.pointer none] w (fun v w' => v = .slice none 0 0 ∧ Lk w' w NoB) := by
  refine ret_of_x (N := 19) (l := [.pointer none]) Try.func36 rfl rfl (Nat.le_of_ble_eq_true rfl) ?_
  refine x_seq ?_
  refine x_regionL ?_
  refine xl_e (e_box fun bm w1 nbm lbm kbm => ?_)
  refine xl_v v_assign ?_
  refine xl_nil ?_
  refine x_seq ?_
  refine x_regionL ?_
  refine xl_e (e_alloc fun b3 w2 n3 l3 k3 => ?_)
  refine xl_nil ?_
  refine x_seq ?_
  refine x_seq ?_
  refine x_regionL ?_
  refine xl_v (by first | exact v_load | exact v_loadO (by omega) | exact v_loadFf (by omega) | exact v_loadF0 (by omega)) ?_
  refine xl_call (idsn_ok _) ?_
  rintro _ w3 ⟨b1, rfl, kb1, hb1, lk1⟩
  refine xl_nil ?_
  refine x_block ?_
  have hb3w : w.heap.size ≤ b3 := by rw [n3.eq]; exact Ge.le
  have hb3l : b3 < w3.heap.size := Has.lt
  haveI kb3 : Blk w3 b3 _ := inferInstance
  refine x_range (ps := [7]) (fun _ => False) (fun _ => False) (fun pre => pre = []) (fun W l => idsnIter b1 W) (fun _ h => h.elim) (fun _ _ h => h.elim) (NilE w3) (fun _ _ _ _ => False) (NoB) (nilE_stable) (fun _ => ⟨fun _ _ _ h => h.elim, fun _ _ _ _ _ h => h.elim⟩) (⟨rfl, Keep.refl _ _⟩) (fun _ h _ => h) (fun _ _ => True) ?assign ?body ?normal ?jump
  case assign =>
    intro l4 v4 w4 hv4
    obtain ⟨x, rfl⟩ : ∃ x, v4 = [x] := List.length_eq_one_iff.1 hv4
    simp only [updL]
    refine x_regionL ?_
    refine xl_v v_assign ?_
    refine xl_nil ?_
    exact ⟨rfl, trivial⟩
  case body =>
    intro l pre v F w5 τ5 ds5 hal hI hB
    exact hal.elim
  case normal =>
    intro D6 pre F w6 hfin hI hkF hsF hD6 hge6 hnF6
    obtain ⟨rfl, hkw⟩ := hI
    haveI lkB : Lk w6 w3 NoB := ⟨hkw⟩
    have hDw : w.heap.size ≤ D6 := Nat.le_trans (Nat.le_trans hb3w (Nat.le_of_lt hb3l)) hge6
    haveI sD : SubF (fun k => k ∈ [D6]) NoB w := ⟨fun k hk e => by simp at e; omega⟩
    refine x_seq ?_
    refine x_regionL ?_
    refine xl_v (by first | exact v_load | exact v_loadO (by omega) | exact v_loadFf (by omega) | exact v_loadF0 (by omega)) ?_
    refine xl_v v_assign ?_
    refine xl_nil ?_
    refine x_ret ?_
    refine finM (rs := [.tmp 2]) rfl [D6] rfl (by simpa using hD6.eq) (by simp) (fun w7 lm7 => ⟨_, inferInstance, ?_⟩)
    exact ⟨rfl, lkc⟩
  case jump =>
    exact fun _ _ _ _ _ h => h.elim
/-- (*waystation/stream.Machine).Drain -/
theorem drain_nil (w : World) : Ret Try.prog 27 #[.pointer none, .int .i64 1] w (fun v w' => v = .int .i64 0 ∧ Lk w' w NoB) := by
  refine ret_of_x (N := 33) (l := [.pointer none, .int .i64 1]) Try.func27 rfl rfl (Nat.le_of_ble_eq_true rfl) ?_
  refine x_seq ?_
  refine x_regionL ?_
  refine xl_e (e_box fun b0 w1 n0 l0 k0 => ?_)
  refine xl_v v_assign ?_
  refine xl_nil ?_
  refine x_scope ?_
  refine x_seq ?_
  refine x_regionL ?_
  refine xl_v v_assign ?_
  refine xl_nil ?_
  refine x_seq ?_
  refine x_label ?_
  refine x_seq ?_
  refine x_seq ?_
  refine x_regionL ?_
  refine xl_v v_move ?_
  refine xl_v v_max ?_
  refine xl_v v_move ?_
  refine xl_nil ?_
  refine x_block ?_
  refine x_loop (fun m τ ds w' => ds = [] ∧ m = 1 ∧ Ev τ 2 (.pointer (some ⟨b0, 0, none⟩)) ∧ Ev τ 5 (.int .i64 0) ∧ Ev τ 11 (.int .i64 1) ∧ Ev τ 12 (.int .i64 0) ∧ Lk w' w1 NoB) (1) ?start ?round
  case start =>
    exact ⟨rfl, rfl, inferInstance, inferInstance, evc, inferInstance, lkc⟩
  case round =>
    intro m τ2 ds2 w2 hI
    obtain ⟨rfl, rfl, e2, e5, e11, e12, lk⟩ := hI
    have hw1 : w.heap.size ≤ w1.heap.size := l0.keep.size
    refine x_seq ?_
    refine x_regionL ?_
    refine xl_v (v_congr (u := .bool true) v_lss rfl) ?_
    refine xl_nil ?_
    refine x_seq ?_
    refine x_condT ?_
    refine x_skip ?_
    refine x_seq ?_
    refine x_block ?_
    refine x_seq ?_
    refine x_regionL ?_
    refine xl_e (e_alloc fun b6 w3 n6 l6 k6 => ?_)
    refine xl_s (e_store fun w4 l4 k4 => ?_)
    refine xl_nil ?_
    refine x_seq ?_
    refine x_seq ?_
    refine x_regionL ?_
    refine xl_v (by first | exact v_load | exact v_loadO (by omega) | exact v_loadFf (by omega) | exact v_loadF0 (by omega)) ?_
    refine xl_call (idsn_ok _) ?_
    rintro _ w5 ⟨b1, rfl, kb1, hb1, lk1⟩
    refine xl_nil ?_
    refine x_block ?_
    have hb6w : w.heap.size ≤ b6 := by rw [n6.eq]; exact Nat.le_trans hw1 Ge.le
    have hb6l : b6 < w5.heap.size := Has.lt
    haveI kb6 : Blk w5 b6 _ := inferInstance
    refine x_range (ps := [16]) (fun _ => False) (fun _ => False) (fun pre => pre = []) (fun W l => idsnIter b1 W) (fun _ h => h.elim) (fun _ _ h => h.elim) (NilE w5) (fun _ _ _ _ => False) (NoB) (nilE_stable) (fun _ => ⟨fun _ _ _ h => h.elim, fun _ _ _ _ _ h => h.elim⟩) (⟨rfl, Keep.refl _ _⟩) (fun _ h _ => h) (fun _ _ => True) ?assign ?body ?normal ?jump
    case assign =>
      intro l6 v6 w6 hv6
      obtain ⟨x, rfl⟩ : ∃ x, v6 = [x] := List.length_eq_one_iff.1 hv6
      simp only [updL]
      refine x_regionL ?_
      refine xl_v v_assign ?_
      refine xl_nil ?_
      exact ⟨rfl, trivial⟩
    case body =>
      intro l pre v F w7 τ7 ds7 hal hI hB
      exact hal.elim
    case normal =>
      intro D8 pre F w8 hfin hI hkF hsF hD8 hge8 hnF8
      obtain ⟨rfl, hkw⟩ := hI
      haveI lkB : Lk w8 w5 NoB := ⟨hkw⟩
      have hDw : w.heap.size ≤ D8 := Nat.le_trans (Nat.le_trans hb6w (Nat.le_of_lt hb6l)) hge8
      haveI sD : SubF (fun k => k ∈ [D8]) NoB w := ⟨fun k hk e => by simp at e; omega⟩
      refine x_seq ?_
      refine x_regionL ?_
      refine xl_v v_move ?_
      refine xl_v (by first | exact v_load | exact v_loadO (by omega) | exact v_loadFf (by omega) | exact v_loadF0 (by omega)) ?_
      refine xl_v (v_add (by decide)) ?_
      refine xl_v v_assign ?_
      refine xl_nil ?_
      refine x_seq ?_
      refine x_regionL ?_
      refine xl_v (by first | exact v_load | exact v_loadO (by omega) | exact v_loadFf (by omega) | exact v_loadF0 (by omega)) ?_
      refine xl_v (v_eqlT rfl) ?_
      refine xl_nil ?_
      refine x_condT ?_
      refine x_exit ?_
      refine x_seq ?_
      refine x_regionL ?_
      refine xl_v v_move ?_
      refine xl_v v_assign ?_
      refine xl_nil ?_
      refine x_ret ?_
      refine finM (rs := [.tmp 4]) rfl [D8] rfl (by simpa using hD8.eq) (by simp) (fun w9 lm9 => ⟨_, inferInstance, ?_⟩)
      exact ⟨rfl, lkc⟩
    case jump =>
      exact fun _ _ _ _ _ h => h.elim
/-- waystation/waystationlaw14.StreamMakes -/
theorem StreamMakes_out (parts : Int) (hp : ¬ (1 ≤ parts ∧ parts ≤ 4)) (w : World) : Ret Try.prog 11 #[.int .i64 parts] w (fun v w' => v = .bool true ∧ Lk w' w NoB) := by
  refine ret_of_x (N := 141) (l := [.int .i64 parts]) Try.func11 rfl rfl (Nat.le_of_ble_eq_true rfl) ?_
  refine x_seq ?_
  refine x_regionL ?_
  refine xl_v v_assign ?_
  refine xl_nil ?_
  refine x_seq ?_
  refine x_regionL ?_
  refine xl_v v_move ?_
  refine xl_call (new_ok parts w) ?_
  rintro _ w1 ⟨hnew, lk1⟩
  rw [if_neg hp] at hnew
  subst hnew
  refine xl_v v_move ?_
  refine xl_v v_extract ?_
  refine xl_v v_extract ?_
  refine xl_v v_assign ?_
  refine xl_v v_assign ?_
  refine xl_nil ?_
  refine x_seq ?_
  refine x_regionL ?_
  refine xl_v v_move ?_
  refine xl_call (refNew_ok parts w1) ?_
  rintro _ w2 ⟨⟨F1, D1, hnew, hf1⟩, lk2⟩
  rw [if_neg hp] at hnew
  obtain ⟨rfl, hR1⟩ := hnew
  refine xl_v v_move ?_
  refine xl_v v_extract ?_
  refine xl_v v_extract ?_
  refine xl_e (e_alloc fun b3 w3 n3 l3 k3 => ?_)
  refine xl_s (e_storeA fun w4 l4 k4 => ?_)
  refine xl_v v_assign ?_
  refine xl_nil ?_
  refine x_seq ?_
  refine x_regionL ?_
  refine xl_v v_assign ?_
  refine xl_nil ?_
  refine x_seq ?_
  refine x_regionL ?_
  refine xl_v v_move ?_
  refine xl_call (round_nil 0 1 w4) ?_
  rintro _ w5 ⟨rfl, lk4⟩
  refine xl_v v_move ?_
  refine xl_v v_extract ?_
  refine xl_v v_extract ?_
  refine xl_v v_assign ?_
  refine xl_v v_assign ?_
  refine xl_nil ?_
  refine x_seq ?_
  refine x_regionL ?_
  refine xl_v v_move ?_
  refine xl_call (items_nil 0 w5) ?_
  rintro _ w6 ⟨rfl, lk5⟩
  refine xl_v v_move ?_
  refine xl_v v_extract ?_
  refine xl_v v_extract ?_
  refine xl_v v_assign ?_
  refine xl_v v_assign ?_
  refine xl_nil ?_
  refine x_seq ?_
  refine x_regionL ?_
  refine xl_v v_move ?_
  refine xl_call (pos_nil 0 w6) ?_
  rintro _ w7 ⟨rfl, lk6⟩
  refine xl_v v_move ?_
  refine xl_v v_extract ?_
  refine xl_v v_extract ?_
  refine xl_v v_assign ?_
  refine xl_v v_assign ?_
  refine xl_nil ?_
  refine x_seq ?_
  refine x_regionL ?_
  refine xl_v v_move ?_
  refine xl_call (made_nil 0 w7) ?_
  rintro _ w8 ⟨rfl, lk7⟩
  refine xl_v v_move ?_
  refine xl_v v_extract ?_
  refine xl_v v_extract ?_
  refine xl_v v_assign ?_
  refine xl_v v_assign ?_
  refine xl_nil ?_
  refine x_seq ?_
  refine x_seq ?_
  refine x_regionL ?_
  refine xl_v v_move ?_
  refine xl_call (num_ok _ _) ?_
  rintro _ _ ⟨rfl, rfl⟩
  refine xl_v v_move ?_
  refine xl_call (num_ok _ _) ?_
  rintro _ _ ⟨rfl, rfl⟩
  refine xl_v (v_add (by omega)) ?_
  refine xl_v v_move ?_
  refine xl_call (num_ok _ _) ?_
  rintro _ _ ⟨rfl, rfl⟩
  refine xl_v (v_add (by omega)) ?_
  refine xl_v v_move ?_
  refine xl_call (num_ok _ _) ?_
  rintro _ _ ⟨rfl, rfl⟩
  refine xl_v (v_add (by omega)) ?_
  refine xl_v (v_neqF rfl) ?_
  refine xl_v v_move ?_
  refine xl_gv rfl EvO.eq v_move ?_
  refine xl_gcall rfl EvO.eq (twice_ok _) ?_
  rintro _ w13 ⟨rfl, lk⟩
  refine xl_gcall rfl EvO.eq (rule_nil twR w13) ?_
  rintro _ w14 ⟨rfl, lk8⟩
  refine xl_gcall rfl EvO.eq (num_ok _ _) ?_
  rintro _ _ ⟨rfl, rfl⟩
  refine xl_gv rfl EvO.eq (v_neqF rfl) ?_
  refine xl_v (by first | exact v_pickT | exact v_pickF | exact v_pick) ?_
  refine xl_v v_move ?_
  refine xl_gv rfl EvO.eq v_move ?_
  refine xl_gcall rfl EvO.eq (put_nil 0 1 w14) ?_
  rintro _ w16 ⟨rfl, lk9⟩
  refine xl_gcall rfl EvO.eq (num_ok _ _) ?_
  rintro _ _ ⟨rfl, rfl⟩
  refine xl_gv rfl EvO.eq (v_neqF rfl) ?_
  refine xl_v (by first | exact v_pickT | exact v_pickF | exact v_pick) ?_
  refine xl_v v_move ?_
  refine xl_gv rfl EvO.eq v_move ?_
  refine xl_gcall rfl EvO.eq (drain_nil w16) ?_
  rintro _ w18 ⟨rfl, lk10⟩
  refine xl_gv rfl EvO.eq (v_neqF rfl) ?_
  refine xl_v (by first | exact v_pickT | exact v_pickF | exact v_pick) ?_
  refine xl_v v_move ?_
  refine xl_gv rfl EvO.eq v_move ?_
  refine xl_gcall rfl EvO.eq (rules_nil w18) ?_
  rintro _ w19 ⟨rfl, lk11⟩
  refine xl_gv rfl EvO.eq v_len ?_
  refine xl_gv rfl EvO.eq (v_neqF rfl) ?_
  refine xl_v (by first | exact v_pickT | exact v_pickF | exact v_pick) ?_
  refine xl_v v_move ?_
  refine xl_gv rfl EvO.eq v_move ?_
  refine xl_gcall rfl EvO.eq (copy_nil w19) ?_
  rintro _ w20 ⟨rfl, lk12⟩
  refine xl_gv rfl EvO.eq (by first | exact v_neq_pointerS | exact v_neq_pointerN) ?_
  refine xl_v (by first | exact v_pickT | exact v_pickF | exact v_pick) ?_
  refine xl_v v_move ?_
  refine xl_gv rfl EvO.eq v_move ?_
  refine xl_gcall rfl EvO.eq (same_nil w20) ?_
  rintro _ w21 ⟨rfl, lk13⟩
  refine xl_gv rfl EvO.eq v_not ?_
  refine xl_v (by first | exact v_pickT | exact v_pickF | exact v_pick) ?_
  refine xl_nil ?_
  refine x_condF ?_
  refine x_skip ?_
  refine x_seq ?_
  refine x_seq ?_
  refine x_regionL ?_
  refine xl_v v_move ?_
  refine xl_v (v_neqT (by decide)) ?_
  refine xl_nil ?_
  refine x_condT ?_
  refine x_seq ?_
  refine x_regionL ?_
  refine xl_v v_move ?_
  refine xl_v (by first | exact v_eql_pointerS | exact v_eql_pointerN) ?_
  refine xl_v v_move ?_
  refine xl_gv rfl EvO.eq v_move ?_
  refine xl_gcall rfl EvO.eq (num_ok _ _) ?_
  rintro _ _ ⟨rfl, rfl⟩
  refine xl_gv rfl EvO.eq v_move ?_
  refine xl_gv rfl EvO.eq (v_eqlT rfl) ?_
  refine xl_v (by first | exact v_pickT | exact v_pickF | exact v_pick) ?_
  refine xl_v v_move ?_
  refine xl_gcall rfl EvO.eq (works_ok _) ?_
  rintro _ w23 ⟨rfl, lk⟩
  refine xl_v (by first | exact v_pickT | exact v_pickF | exact v_pick) ?_
  refine xl_v v_assign ?_
  refine xl_nil ?_
  refine x_ret ?_
  refine fin1 rfl ?_
  exact ⟨rfl, lkc⟩
/-- waystation/waystationlaw14.StreamMakes -/
theorem StreamMakes_in (parts : Int) (hp : 1 ≤ parts ∧ parts ≤ 4) (w : World) : Ret Try.prog 11 #[.int .i64 parts] w (fun v w' => v = .bool true ∧ Lk w' w NoB) := by
  refine ret_of_x (N := 141) (l := [.int .i64 parts]) Try.func11 rfl rfl (Nat.le_of_ble_eq_true rfl) ?_
  refine x_seq ?_
  refine x_regionL ?_
  refine xl_v v_assign ?_
  refine xl_nil ?_
  refine x_seq ?_
  refine x_regionL ?_
  refine xl_v v_move ?_
  refine xl_call (new_ok parts w) ?_
  rintro _ w1 ⟨hnew, lk1⟩
  rw [if_pos hp] at hnew
  obtain ⟨b, pb, mb, u1, rfl, hM1, hs1⟩ := hnew
  refine xl_v v_move ?_
  refine xl_v v_extract ?_
  refine xl_v v_extract ?_
  refine xl_v v_assign ?_
  refine xl_v v_assign ?_
  refine xl_nil ?_
  refine x_seq ?_
  refine x_regionL ?_
  refine xl_v v_move ?_
  refine xl_call (refNew_ok parts w1) ?_
  rintro _ w2 ⟨⟨F1, D1, hnew, hf1⟩, lk2⟩
  rw [if_pos hp] at hnew
  obtain ⟨rfl, hR1⟩ := hnew
  refine xl_v v_move ?_
  refine xl_v v_extract ?_
  refine xl_v v_extract ?_
  refine xl_e (e_alloc fun br w3 nr lr kr => ?_)
  refine xl_s (e_storeA fun w4 l4 k4 => ?_)
  refine xl_v v_assign ?_
  refine xl_nil ?_
  have hSin : Since w w4 br b pb mb u1 (Mach.new parts.toNat) F1 D1 := since_new hp hM1 lk2 hR1 nr.eq (kpc : Keep (OneB br) _ w4) hs1 hf1 Ge.le
  refine x_seq ?_
  refine x_regionL ?_
  refine xl_v v_assign ?_
  refine xl_nil ?_
  refine x_seq ?_
  refine x_regionL ?_
  refine xl_v v_move ?_
  refine xl_call (round_nil 0 1 w4) ?_
  rintro _ w5 ⟨rfl, lk4⟩
  refine xl_v v_move ?_
  refine xl_v v_extract ?_
  refine xl_v v_extract ?_
  refine xl_v v_assign ?_
  refine xl_v v_assign ?_
  refine xl_nil ?_
  refine x_seq ?_
  refine x_regionL ?_
  refine xl_v v_move ?_
  refine xl_call (items_nil 0 w5) ?_
  rintro _ w6 ⟨rfl, lk5⟩
  refine xl_v v_move ?_
  refine xl_v v_extract ?_
  refine xl_v v_extract ?_
  refine xl_v v_assign ?_
  refine xl_v v_assign ?_
  refine xl_nil ?_
  refine x_seq ?_
  refine x_regionL ?_
  refine xl_v v_move ?_
  refine xl_call (pos_nil 0 w6) ?_
  rintro _ w7 ⟨rfl, lk6⟩
  refine xl_v v_move ?_
  refine xl_v v_extract ?_
  refine xl_v v_extract ?_
  refine xl_v v_assign ?_
  refine xl_v v_assign ?_
  refine xl_nil ?_
  refine x_seq ?_
  refine x_regionL ?_
  refine xl_v v_move ?_
  refine xl_call (made_nil 0 w7) ?_
  rintro _ w8 ⟨rfl, lk7⟩
  refine xl_v v_move ?_
  refine xl_v v_extract ?_
  refine xl_v v_extract ?_
  refine xl_v v_assign ?_
  refine xl_v v_assign ?_
  refine xl_nil ?_
  refine x_seq ?_
  refine x_seq ?_
  refine x_regionL ?_
  refine xl_v v_move ?_
  refine xl_call (num_ok _ _) ?_
  rintro _ _ ⟨rfl, rfl⟩
  refine xl_v v_move ?_
  refine xl_call (num_ok _ _) ?_
  rintro _ _ ⟨rfl, rfl⟩
  refine xl_v (v_add (by omega)) ?_
  refine xl_v v_move ?_
  refine xl_call (num_ok _ _) ?_
  rintro _ _ ⟨rfl, rfl⟩
  refine xl_v (v_add (by omega)) ?_
  refine xl_v v_move ?_
  refine xl_call (num_ok _ _) ?_
  rintro _ _ ⟨rfl, rfl⟩
  refine xl_v (v_add (by omega)) ?_
  refine xl_v (v_neqF rfl) ?_
  refine xl_v v_move ?_
  refine xl_gv rfl EvO.eq v_move ?_
  refine xl_gcall rfl EvO.eq (twice_ok _) ?_
  rintro _ w13 ⟨rfl, lk⟩
  refine xl_gcall rfl EvO.eq (rule_nil twR w13) ?_
  rintro _ w14 ⟨rfl, lk8⟩
  refine xl_gcall rfl EvO.eq (num_ok _ _) ?_
  rintro _ _ ⟨rfl, rfl⟩
  refine xl_gv rfl EvO.eq (v_neqF rfl) ?_
  refine xl_v (by first | exact v_pickT | exact v_pickF | exact v_pick) ?_
  refine xl_v v_move ?_
  refine xl_gv rfl EvO.eq v_move ?_
  refine xl_gcall rfl EvO.eq (put_nil 0 1 w14) ?_
  rintro _ w16 ⟨rfl, lk9⟩
  refine xl_gcall rfl EvO.eq (num_ok _ _) ?_
  rintro _ _ ⟨rfl, rfl⟩
  refine xl_gv rfl EvO.eq (v_neqF rfl) ?_
  refine xl_v (by first | exact v_pickT | exact v_pickF | exact v_pick) ?_
  refine xl_v v_move ?_
  refine xl_gv rfl EvO.eq v_move ?_
  refine xl_gcall rfl EvO.eq (drain_nil w16) ?_
  rintro _ w18 ⟨rfl, lk10⟩
  refine xl_gv rfl EvO.eq (v_neqF rfl) ?_
  refine xl_v (by first | exact v_pickT | exact v_pickF | exact v_pick) ?_
  refine xl_v v_move ?_
  refine xl_gv rfl EvO.eq v_move ?_
  refine xl_gcall rfl EvO.eq (rules_nil w18) ?_
  rintro _ w19 ⟨rfl, lk11⟩
  refine xl_gv rfl EvO.eq v_len ?_
  refine xl_gv rfl EvO.eq (v_neqF rfl) ?_
  refine xl_v (by first | exact v_pickT | exact v_pickF | exact v_pick) ?_
  refine xl_v v_move ?_
  refine xl_gv rfl EvO.eq v_move ?_
  refine xl_gcall rfl EvO.eq (copy_nil w19) ?_
  rintro _ w20 ⟨rfl, lk12⟩
  refine xl_gv rfl EvO.eq (by first | exact v_neq_pointerS | exact v_neq_pointerN) ?_
  refine xl_v (by first | exact v_pickT | exact v_pickF | exact v_pick) ?_
  refine xl_v v_move ?_
  refine xl_gv rfl EvO.eq v_move ?_
  refine xl_gcall rfl EvO.eq (same_nil w20) ?_
  rintro _ w21 ⟨rfl, lk13⟩
  refine xl_gv rfl EvO.eq v_not ?_
  refine xl_v (by first | exact v_pickT | exact v_pickF | exact v_pick) ?_
  refine xl_nil ?_
  refine x_condF ?_
  refine x_skip ?_
  refine x_seq ?_
  refine x_seq ?_
  refine x_regionL ?_
  refine xl_v v_move ?_
  refine xl_v (v_neqF rfl) ?_
  refine xl_nil ?_
  refine x_condF ?_
  refine x_skip ?_
  refine x_seq ?_
  refine x_regionL ?_
  refine xl_v v_move ?_
  refine xl_v v_move ?_
  refine xl_call (items_ok b pb mb u1 _ parts w21 (hSin.ext kpc).B.m hSin.B.ok) ?_
  rintro _ w22 ⟨hv, lki⟩
  rw [if_neg (by simp [Mach.hasB, Mach.new]; omega)] at hv
  subst hv
  haveI : Blk w22 b _ := ⟨(hSin.ext kpc).B.m.hb⟩
  refine xl_v v_move ?_
  refine xl_v v_extract ?_
  refine xl_v v_extract ?_
  refine xl_v v_assign ?_
  refine xl_v v_assign ?_
  refine xl_nil ?_
  refine x_seq ?_
  refine x_regionL ?_
  refine xl_v v_move ?_
  refine xl_call (num_ok _ _) ?_
  rintro _ _ ⟨rfl, rfl⟩
  refine xl_v (v_eqlT rfl) ?_
  refine xl_v v_move ?_
  refine xl_gv rfl EvO.eq v_move ?_
  refine xl_gcall rfl EvO.eq (num_ok _ _) ?_
  rintro _ _ ⟨rfl, rfl⟩
  refine xl_gv rfl EvO.eq (v_eqlT rfl) ?_
  refine xl_v (by first | exact v_pickT | exact v_pickF | exact v_pick) ?_
  refine xl_v v_move ?_
  refine xl_gv rfl EvO.eq v_move ?_
  refine xl_gv rfl EvO.eq (by first | exact v_loadA | exact v_loadF (by decide) (by omega)) ?_
  refine xl_gcall rfl EvO.eq (is_ok b pb mb u1 _ F1 D1 w22 (hSin.ext kpc).B) ?_
  rintro _ w25 ⟨rfl, lkis⟩
  refine xl_v (by first | exact v_pickT | exact v_pickF | exact v_pick) ?_
  refine xl_v v_move ?_
  refine xl_gv rfl EvO.eq v_move ?_
  refine xl_gv rfl EvO.eq v_move ?_
  refine xl_gcall rfl EvO.eq (same_nilR b mb _ w25) ?_
  rintro _ w26 ⟨rfl, lks⟩
  refine xl_gv rfl EvO.eq v_not ?_
  refine xl_v (by first | exact v_pickT | exact v_pickF | exact v_pick) ?_
  refine xl_v v_move ?_
  refine xl_gv rfl EvO.eq v_move ?_
  refine xl_gv rfl EvO.eq v_move ?_
  refine xl_gcall rfl EvO.eq (same_nilL b mb _ w26) ?_
  rintro _ w27 ⟨rfl, lks2⟩
  refine xl_gv rfl EvO.eq v_not ?_
  refine xl_v (by first | exact v_pickT | exact v_pickF | exact v_pick) ?_
  refine xl_v v_move ?_
  refine xl_gcall rfl EvO.eq (works_ok _) ?_
  rintro _ w28 ⟨rfl, lk⟩
  refine xl_v (by first | exact v_pickT | exact v_pickF | exact v_pick) ?_
  refine xl_v v_assign ?_
  refine xl_nil ?_
  refine x_ret ?_
  refine fin1 rfl ?_
  exact ⟨rfl, lkc⟩
theorem StreamMakes_ok (parts : Int) (w : World) : Ret Try.prog 11 #[.int .i64 parts] w (fun v w' => v = .bool true ∧ Lk w' w NoB) := by
  by_cases hp : 1 ≤ parts ∧ parts ≤ 4
  · exact StreamMakes_in parts hp w
  · exact StreamMakes_out parts hp w

end Go.Proofs.Ytbihphclmdokeaa
