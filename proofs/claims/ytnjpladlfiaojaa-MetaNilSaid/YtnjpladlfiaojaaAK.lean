/-
 Walks, printed by a program of this workplace (wip/tools/sx.py) off the functions' code and a text of contracts.
-/
import Derived.Test.YtnjpladlfiaojaaAH
set_option linter.all false
set_option maxRecDepth 100000
set_option synthInstance.maxSize 100000
set_option synthInstance.maxHeartbeats 400000
namespace Go.Proofs.Ytnjpladlfiaojaa
open Go.Wst
open Go.Wst.Ct
abbrev D0 : LMeta := ⟨0, 0, 0, [], none, 0, [], none, 0, [], none, 0⟩
/-- Nobody is there. -/
def NoneAt (w : World) (A : Option Addr) : Prop := A = none ∨ ∃ z, A = some ⟨z, 0, none⟩ ∧ MetaAt w z D0
theorem NoneAt.ext {w w' : World} {A : Option Addr} (h : NoneAt w A) (hk : Keep NoB w w') : NoneAt w' A := h.imp id fun ⟨z, h1, h2⟩ => ⟨z, h1, h2.ext hk⟩
theorem noneAt_nil (w : World) : NoneAt w none := .inl rfl
theorem none0_ok (A : Option Addr) (w : World) (h : NoneAt w A) : Ret Try.prog 35 #[.pointer A] w (fun v w' => v = .bool true ∧ Lk w' w NoB) := by
 rcases h with rfl | ⟨z, rfl, h⟩
 ·exact noneN_ok w
 ·exact none_ok z D0 w h
theorem noneL_ok (m : Nat) (D : LMeta) (w : World) (h : MetaAt w m D) (hok : D.pure.ok) : Ret Try.prog 35 #[.pointer (some ⟨m, 0, none⟩)] w (fun v w' => v = .bool false ∧ Lk w' w NoB) := by
 obtain ⟨_, hvl, _, _, hpl, _⟩ := lens hok
 have h1 := hok.p.1
 have := none_ok m D w h
 rwa [decide_eq_false (by have h2 := hok.vl; have h3 : D.pure.views.length = D.vs.length := List.length_map _; omega)] at this
theorem isNone0_ok (A : Option Addr) (w : World) (h : NoneAt w A) : Ret Try.prog 47 #[.pointer A] w (fun v w' => (∃ x : Chk, v = .agg (chkC x).toArray ∧ x.why = 1 ∧ x.bad = true ∧ ChkAt w' x) ∧ Lk w' w NoB) := by
 rcases h with rfl | ⟨z, rfl, h⟩
 ·exact isNoneN_ok w
 ·exact isNone_ok z D0 w h
theorem firstN1_ok (A : Option Addr) (n c : Nat) (x : Chk) (cs : List Chk) (w : World) [Row w A ((x :: cs).flatMap chkC)] (hl : (x :: cs).length = n) (hn : n ≤ 100) (h1 : ChkAt w x) (hb : x.bad = true) (hw : x.why = 1) :
    Ret Try.prog 46 #[.slice A n c] w (fun v w' => v = .int .i64 1 ∧ Lk w' w NoB) := by
 have := firstN_ok A n c x cs w hl hn h1 hb
 rwa [hw] at this

/-- (*waystation/meta.Meta).Fence -/
theorem fence0_ok (A : Option Addr) (b : Int)  (w : World) (h : NoneAt w A) : Ret Try.prog 28 #[.pointer A, .int .i64 b] w (fun v w' => v = .int .i64 1 ∧ Lk w' w NoB) := by
 refine ret_of_x (N := 119) (l := [.pointer A, .int .i64 b]) Try.func28 rfl rfl (Nat.le_of_ble_eq_true rfl) ?_
 refine x_seq ?_
 refine x_regionL ?_
 refine xl_v v_assign ?_
 refine xl_nil ?_
 refine x_seq ?_
 refine x_seq ?_
 refine x_regionL ?_
 refine xl_v v_move ?_
 refine xl_call (isNone0_ok A w (h.ext (kpc : Keep NoB w w))) ?_
 rintro _ w1 ⟨⟨x1, rfl, hw1, hb1, hc1⟩, lk1⟩
 refine xl_v v_move ?_
 refine xl_v v_move ?_
 refine xl_call (brokerU_ok (.pointer A) b w1) ?_
 rintro _ w2 ⟨⟨x2, rfl, hw2⟩, lk2⟩
 refine xl_e (e_buildSliceM (vs := [x1, x2].flatMap chkC) rfl rfl rfl fun b5 w3 n5 l5 k5 => ?_)
 refine xl_call (firstN1_ok _ 2 _ x1 [x2] w3 rfl (by omega) (hc1.ext lkc) hb1 hw1) ?_
 rintro _ w4 ⟨rfl, lk3⟩
 refine xl_v v_assign ?_
 refine xl_nil ?_
 refine x_seq ?_
 refine x_regionL ?_
 refine xl_v v_move ?_
 refine xl_v (v_neqT (by decide)) ?_
 refine xl_nil ?_
 refine x_condT ?_
 refine x_seq ?_
 refine x_regionL ?_
 refine xl_v v_move ?_
 refine xl_v v_assign ?_
 refine xl_nil ?_
 refine x_ret ?_
 refine fin1 rfl ?_
 exact ⟨rfl, lkc⟩

/-- (*waystation/meta.Meta).Register -/
theorem register0_ok (A : Option Addr) (b : Int)  (w : World) (h : NoneAt w A) : Ret Try.prog 29 #[.pointer A, .int .i64 b] w (fun v w' => v = .int .i64 1 ∧ Lk w' w NoB) := by
 refine ret_of_x (N := 22) (l := [.pointer A, .int .i64 b]) Try.func29 rfl rfl (Nat.le_of_ble_eq_true rfl) ?_
 refine x_seq ?_
 refine x_regionL ?_
 refine xl_v v_assign ?_
 refine xl_nil ?_
 refine x_seq ?_
 refine x_seq ?_
 refine x_regionL ?_
 refine xl_v v_move ?_
 refine xl_call (isNone0_ok A w (h.ext (kpc : Keep NoB w w))) ?_
 rintro _ w1 ⟨⟨x1, rfl, hw1, hb1, hc1⟩, lk1⟩
 refine xl_v v_move ?_
 refine xl_v v_move ?_
 refine xl_call (brokerU_ok (.pointer A) b w1) ?_
 rintro _ w2 ⟨⟨x2, rfl, hw2⟩, lk2⟩
 refine xl_e (e_buildSliceM (vs := [x1, x2].flatMap chkC) rfl rfl rfl fun b5 w3 n5 l5 k5 => ?_)
 refine xl_call (firstN1_ok _ 2 _ x1 [x2] w3 rfl (by omega) (hc1.ext lkc) hb1 hw1) ?_
 rintro _ w4 ⟨rfl, lk3⟩
 refine xl_v v_assign ?_
 refine xl_nil ?_
 refine x_seq ?_
 refine x_regionL ?_
 refine xl_v v_move ?_
 refine xl_v (v_neqT (by decide)) ?_
 refine xl_nil ?_
 refine x_condT ?_
 refine x_seq ?_
 refine x_regionL ?_
 refine xl_v v_move ?_
 refine xl_v v_assign ?_
 refine xl_nil ?_
 refine x_ret ?_
 refine fin1 rfl ?_
 exact ⟨rfl, lkc⟩

/-- (*waystation/meta.Meta).Init -/
theorem init0_ok (A : Option Addr) (b : Int)  (w : World) (h : NoneAt w A) : Ret Try.prog 24 #[.pointer A, .int .i64 b] w (fun v w' => v = .tuple #[.int .i64 0, .int .i64 1] ∧ Lk w' w NoB) := by
 refine ret_of_x (N := 56) (l := [.pointer A, .int .i64 b]) Try.func24 rfl rfl (Nat.le_of_ble_eq_true rfl) ?_
 refine x_seq ?_
 refine x_regionL ?_
 refine xl_v v_assign ?_
 refine xl_v v_assign ?_
 refine xl_nil ?_
 refine x_seq ?_
 refine x_seq ?_
 refine x_regionL ?_
 refine xl_v v_move ?_
 refine xl_call (isNone0_ok A w (h.ext (kpc : Keep NoB w w))) ?_
 rintro _ w1 ⟨⟨x1, rfl, hw1, hb1, hc1⟩, lk1⟩
 refine xl_v v_move ?_
 refine xl_v v_move ?_
 refine xl_call (idU_ok (.pointer A) b w1) ?_
 rintro _ w2 ⟨⟨x2, rfl, hw2⟩, lk2⟩
 refine xl_e (e_buildSliceM (vs := [x1, x2].flatMap chkC) rfl rfl rfl fun b5 w3 n5 l5 k5 => ?_)
 refine xl_call (firstN1_ok _ 2 _ x1 [x2] w3 rfl (by omega) (hc1.ext lkc) hb1 hw1) ?_
 rintro _ w4 ⟨rfl, lk3⟩
 refine xl_v v_assign ?_
 refine xl_nil ?_
 refine x_seq ?_
 refine x_regionL ?_
 refine xl_v v_move ?_
 refine xl_v (v_neqT (by decide)) ?_
 refine xl_nil ?_
 refine x_condT ?_
 refine x_seq ?_
 refine x_regionL ?_
 refine xl_v v_move ?_
 refine xl_v v_assign ?_
 refine xl_v v_assign ?_
 refine xl_nil ?_
 refine x_ret ?_
 refine fin2 rfl ?_
 exact ⟨rfl, lkc⟩

/-- (*waystation/meta.Meta).Lives -/
theorem lives0_ok (A : Option Addr) (b : Int)  (w : World) (h : NoneAt w A) : Ret Try.prog 19 #[.pointer A, .int .i64 b] w (fun v w' => v = .tuple #[.bool false, .int .i64 1] ∧ Lk w' w NoB) := by
 refine ret_of_x (N := 24) (l := [.pointer A, .int .i64 b]) Try.func19 rfl rfl (Nat.le_of_ble_eq_true rfl) ?_
 refine x_seq ?_
 refine x_regionL ?_
 refine xl_v v_assign ?_
 refine xl_v v_assign ?_
 refine xl_nil ?_
 refine x_seq ?_
 refine x_seq ?_
 refine x_regionL ?_
 refine xl_v v_move ?_
 refine xl_call (isNone0_ok A w (h.ext (kpc : Keep NoB w w))) ?_
 rintro _ w1 ⟨⟨x1, rfl, hw1, hb1, hc1⟩, lk1⟩
 refine xl_v v_move ?_
 refine xl_v v_move ?_
 refine xl_call (brokerU_ok (.pointer A) b w1) ?_
 rintro _ w2 ⟨⟨x2, rfl, hw2⟩, lk2⟩
 refine xl_e (e_buildSliceM (vs := [x1, x2].flatMap chkC) rfl rfl rfl fun b5 w3 n5 l5 k5 => ?_)
 refine xl_call (firstN1_ok _ 2 _ x1 [x2] w3 rfl (by omega) (hc1.ext lkc) hb1 hw1) ?_
 rintro _ w4 ⟨rfl, lk3⟩
 refine xl_v v_assign ?_
 refine xl_nil ?_
 refine x_seq ?_
 refine x_regionL ?_
 refine xl_v v_move ?_
 refine xl_v (v_neqT (by decide)) ?_
 refine xl_nil ?_
 refine x_condT ?_
 refine x_seq ?_
 refine x_regionL ?_
 refine xl_v v_move ?_
 refine xl_v v_assign ?_
 refine xl_v v_assign ?_
 refine xl_nil ?_
 refine x_ret ?_
 refine fin2 rfl ?_
 exact ⟨rfl, lkc⟩

/-- (*waystation/meta.Meta).View -/
theorem view0_ok (A : Option Addr) (b : Int)  (w : World) (h : NoneAt w A) : Ret Try.prog 18 #[.pointer A, .int .i64 b] w (fun v w' => (∃ x : LV, v = .tuple #[.agg (viewC x).toArray, .int .i64 1]) ∧ Lk w' w NoB) := by
 refine ret_of_x (N := 31) (l := [.pointer A, .int .i64 b]) Try.func18 rfl rfl (Nat.le_of_ble_eq_true rfl) ?_
 refine x_seq ?_
 refine x_regionL ?_
 refine xl_e (e_alloc fun b1 w1 n1 l1 k1 => ?_)
 refine xl_v v_assign ?_
 refine xl_nil ?_
 refine x_seq ?_
 refine x_seq ?_
 refine x_regionL ?_
 refine xl_v v_move ?_
 refine xl_call (isNone0_ok A w1 (h.ext (kpc : Keep NoB w w1))) ?_
 rintro _ w2 ⟨⟨x1, rfl, hw1, hb1, hc1⟩, lk1⟩
 refine xl_v v_move ?_
 refine xl_v v_move ?_
 refine xl_call (partU_ok (.pointer A) b w2) ?_
 rintro _ w3 ⟨⟨x2, rfl, hw2⟩, lk2⟩
 refine xl_e (e_buildSliceM (vs := [x1, x2].flatMap chkC) rfl rfl rfl fun b5 w4 n5 l5 k5 => ?_)
 refine xl_call (firstN1_ok _ 2 _ x1 [x2] w4 rfl (by omega) (hc1.ext lkc) hb1 hw1) ?_
 rintro _ w5 ⟨rfl, lk3⟩
 refine xl_v v_assign ?_
 refine xl_nil ?_
 refine x_seq ?_
 refine x_regionL ?_
 refine xl_v v_move ?_
 refine xl_v (v_neqT (by decide)) ?_
 refine xl_nil ?_
 refine x_condT ?_
 refine x_seq ?_
 refine x_regionL ?_
 refine xl_v v_build ?_
 refine xl_v v_move ?_
 refine xl_s (e_storeA fun w6 l6 k6 => ?_)
 refine xl_v v_assign ?_
 refine xl_nil ?_
 refine x_ret ?_
 refine finR (rs := [.cell 4 44, .tmp 5]) rfl ?_
 exact ⟨⟨⟨⟨0, 0, 0, []⟩, none, 0⟩, rfl⟩, lkc⟩

/-- (*waystation/meta.Meta).Writing -/
theorem writing0_ok (A : Option Addr) (b : Int)  (w : World) (h : NoneAt w A) : Ret Try.prog 21 #[.pointer A, .int .i64 b] w (fun v w' => (∃ x : LW, v = .tuple #[.agg (wrC x).toArray, .int .i64 1]) ∧ Lk w' w NoB) := by
 refine ret_of_x (N := 31) (l := [.pointer A, .int .i64 b]) Try.func21 rfl rfl (Nat.le_of_ble_eq_true rfl) ?_
 refine x_seq ?_
 refine x_regionL ?_
 refine xl_e (e_alloc fun b1 w1 n1 l1 k1 => ?_)
 refine xl_v v_assign ?_
 refine xl_nil ?_
 refine x_seq ?_
 refine x_seq ?_
 refine x_regionL ?_
 refine xl_v v_move ?_
 refine xl_call (isNone0_ok A w1 (h.ext (kpc : Keep NoB w w1))) ?_
 rintro _ w2 ⟨⟨x1, rfl, hw1, hb1, hc1⟩, lk1⟩
 refine xl_v v_move ?_
 refine xl_v v_move ?_
 refine xl_call (idU_ok (.pointer A) b w2) ?_
 rintro _ w3 ⟨⟨x2, rfl, hw2⟩, lk2⟩
 refine xl_e (e_buildSliceM (vs := [x1, x2].flatMap chkC) rfl rfl rfl fun b5 w4 n5 l5 k5 => ?_)
 refine xl_call (firstN1_ok _ 2 _ x1 [x2] w4 rfl (by omega) (hc1.ext lkc) hb1 hw1) ?_
 rintro _ w5 ⟨rfl, lk3⟩
 refine xl_v v_assign ?_
 refine xl_nil ?_
 refine x_seq ?_
 refine x_regionL ?_
 refine xl_v v_move ?_
 refine xl_v (v_neqT (by decide)) ?_
 refine xl_nil ?_
 refine x_condT ?_
 refine x_seq ?_
 refine x_regionL ?_
 refine xl_v v_build ?_
 refine xl_v v_move ?_
 refine xl_s (e_storeA fun w6 l6 k6 => ?_)
 refine xl_v v_assign ?_
 refine xl_nil ?_
 refine x_ret ?_
 refine finR (rs := [.cell 4 52, .tmp 5]) rfl ?_
 exact ⟨⟨⟨⟨0, 0, 0, [], 0, 0⟩, none, 0⟩, rfl⟩, lkc⟩

/-- (*waystation/meta.Meta).End -/
theorem end0_ok (A : Option Addr) (b : Int) (s o : Int) (cm : Bool) (w : World) (h : NoneAt w A) : Ret Try.prog 26 #[.pointer A, .int .i64 b, .int .i64 s, .bool cm, .int .i64 o] w (fun v w' => v = .int .i64 1 ∧ Lk w' w NoB) := by
 refine ret_of_x (N := 73) (l := [.pointer A, .int .i64 b, .int .i64 s, .bool cm, .int .i64 o]) Try.func26 rfl rfl (Nat.le_of_ble_eq_true rfl) ?_
 refine x_seq ?_
 refine x_regionL ?_
 refine xl_e (e_box fun b1 w1 n1 l1 k1 => ?_)
 refine xl_v v_assign ?_
 refine xl_nil ?_
 refine x_seq ?_
 refine x_seq ?_
 refine x_regionL ?_
 refine xl_v v_move ?_
 refine xl_call (isNone0_ok A w1 (h.ext (kpc : Keep NoB w w1))) ?_
 rintro _ w2 ⟨⟨x1, rfl, hw1, hb1, hc1⟩, lk1⟩
 refine xl_v v_move ?_
 refine xl_v v_move ?_
 refine xl_call (idU_ok (.pointer A) b w2) ?_
 rintro _ w3 ⟨⟨x2, rfl, hw2⟩, lk2⟩
 refine xl_e (e_buildSliceM (vs := [x1, x2].flatMap chkC) rfl rfl rfl fun b5 w4 n5 l5 k5 => ?_)
 refine xl_call (firstN1_ok _ 2 _ x1 [x2] w4 rfl (by omega) (hc1.ext lkc) hb1 hw1) ?_
 rintro _ w5 ⟨rfl, lk3⟩
 refine xl_v v_assign ?_
 refine xl_nil ?_
 refine x_seq ?_
 refine x_regionL ?_
 refine xl_v v_move ?_
 refine xl_v (v_neqT (by decide)) ?_
 refine xl_nil ?_
 refine x_condT ?_
 refine x_seq ?_
 refine x_regionL ?_
 refine xl_v v_move ?_
 refine xl_v v_assign ?_
 refine xl_nil ?_
 refine x_ret ?_
 refine fin1 rfl ?_
 exact ⟨rfl, lkc⟩

/-- (*waystation/meta.Meta).Add -/
theorem add0_ok (A : Option Addr) (b : Int) (s p : Int) (w : World) (h : NoneAt w A) : Ret Try.prog 25 #[.pointer A, .int .i64 b, .int .i64 s, .int .i64 p] w (fun v w' => v = .tuple #[.int .i64 0, .int .i64 1] ∧ Lk w' w NoB) := by
 refine ret_of_x (N := 97) (l := [.pointer A, .int .i64 b, .int .i64 s, .int .i64 p]) Try.func25 rfl rfl (Nat.le_of_ble_eq_true rfl) ?_
 refine x_seq ?_
 refine x_regionL ?_
 refine xl_v v_assign ?_
 refine xl_v v_assign ?_
 refine xl_nil ?_
 refine x_seq ?_
 refine x_seq ?_
 refine x_regionL ?_
 refine xl_v v_move ?_
 refine xl_call (isNone0_ok A w (h.ext (kpc : Keep NoB w w))) ?_
 rintro _ w1 ⟨⟨x1, rfl, hw1, hb1, hc1⟩, lk1⟩
 refine xl_v v_move ?_
 refine xl_v v_move ?_
 refine xl_call (idU_ok (.pointer A) b w1) ?_
 rintro _ w2 ⟨⟨x2, rfl, hw2⟩, lk2⟩
 refine xl_v v_move ?_
 refine xl_v v_move ?_
 refine xl_call (partU_ok (.pointer A) p w2) ?_
 rintro _ w3 ⟨⟨x3, rfl, hw3⟩, lk3⟩
 refine xl_e (e_buildSliceM (vs := [x1, x2, x3].flatMap chkC) rfl rfl rfl fun b5 w4 n5 l5 k5 => ?_)
 refine xl_call (firstN1_ok _ 3 _ x1 [x2, x3] w4 rfl (by omega) (hc1.ext lkc) hb1 hw1) ?_
 rintro _ w5 ⟨rfl, lk4⟩
 refine xl_v v_assign ?_
 refine xl_nil ?_
 refine x_seq ?_
 refine x_regionL ?_
 refine xl_v v_move ?_
 refine xl_v (v_neqT (by decide)) ?_
 refine xl_nil ?_
 refine x_condT ?_
 refine x_seq ?_
 refine x_regionL ?_
 refine xl_v v_move ?_
 refine xl_v v_assign ?_
 refine xl_v v_assign ?_
 refine xl_nil ?_
 refine x_ret ?_
 refine fin2 rfl ?_
 exact ⟨rfl, lkc⟩

/-- (*waystation/meta.Meta).Marked -/
theorem marked0_ok (A : Option Addr) (b : Int) (s p : Int) (w : World) (h : NoneAt w A) : Ret Try.prog 32 #[.pointer A, .int .i64 b, .int .i64 s, .int .i64 p] w (fun v w' => v = .int .i64 1 ∧ Lk w' w NoB) := by
 refine ret_of_x (N := 89) (l := [.pointer A, .int .i64 b, .int .i64 s, .int .i64 p]) Try.func32 rfl rfl (Nat.le_of_ble_eq_true rfl) ?_
 refine x_seq ?_
 refine x_regionL ?_
 refine xl_v v_assign ?_
 refine xl_nil ?_
 refine x_seq ?_
 refine x_seq ?_
 refine x_regionL ?_
 refine xl_v v_move ?_
 refine xl_call (isNone0_ok A w (h.ext (kpc : Keep NoB w w))) ?_
 rintro _ w1 ⟨⟨x1, rfl, hw1, hb1, hc1⟩, lk1⟩
 refine xl_v v_move ?_
 refine xl_v v_move ?_
 refine xl_call (idU_ok (.pointer A) b w1) ?_
 rintro _ w2 ⟨⟨x2, rfl, hw2⟩, lk2⟩
 refine xl_v v_move ?_
 refine xl_v v_move ?_
 refine xl_call (partU_ok (.pointer A) p w2) ?_
 rintro _ w3 ⟨⟨x3, rfl, hw3⟩, lk3⟩
 refine xl_e (e_buildSliceM (vs := [x1, x2, x3].flatMap chkC) rfl rfl rfl fun b5 w4 n5 l5 k5 => ?_)
 refine xl_call (firstN1_ok _ 3 _ x1 [x2, x3] w4 rfl (by omega) (hc1.ext lkc) hb1 hw1) ?_
 rintro _ w5 ⟨rfl, lk4⟩
 refine xl_v v_assign ?_
 refine xl_nil ?_
 refine x_seq ?_
 refine x_regionL ?_
 refine xl_v v_move ?_
 refine xl_v (v_neqT (by decide)) ?_
 refine xl_nil ?_
 refine x_condT ?_
 refine x_seq ?_
 refine x_regionL ?_
 refine xl_v v_move ?_
 refine xl_v v_assign ?_
 refine xl_nil ?_
 refine x_ret ?_
 refine fin1 rfl ?_
 exact ⟨rfl, lkc⟩

/-- (*waystation/meta.Meta).Elect -/
theorem elect0_ok (A : Option Addr) (b : Int) (p : Int) (u : Bool) (w : World) (h : NoneAt w A) : Ret Try.prog 30 #[.pointer A, .int .i64 b, .int .i64 p, .bool u] w (fun v w' => v = .int .i64 1 ∧ Lk w' w NoB) := by
 refine ret_of_x (N := 75) (l := [.pointer A, .int .i64 b, .int .i64 p, .bool u]) Try.func30 rfl rfl (Nat.le_of_ble_eq_true rfl) ?_
 refine x_seq ?_
 refine x_regionL ?_
 refine xl_e (e_box fun b1 w1 n1 l1 k1 => ?_)
 refine xl_e (e_box fun b2 w2 n2 l2 k2 => ?_)
 refine xl_e (e_box fun b3 w3 n3 l3 k3 => ?_)
 refine xl_v v_assign ?_
 refine xl_nil ?_
 refine x_scopeG (l := 0) (fun τ ds w' => ds = [] ∧ Ev τ 8 (.int .i64 1) ∧ Lk w' w NoB) rfl ?_ ?_
 ·
  refine x_seq ?_
  refine x_regionL ?_
  refine xl_e (e_alloc fun b4 w4 n4 l4 k4 => ?_)
  refine xl_nil ?_
  refine x_seq ?_
  refine x_seq ?_
  refine x_drawL (NoB) (allS) (.take 0 (.take 2 (.take 3 (.take 5 (.take 6 (.eff 1 (.eff 4 (.eff 7 (.eff 8 (.eff 9 (.take 10 .done))))))))))) mixed (by kernel_rfl) (fun _ _ _ _ _ h => h) (fun w5 l5 => ?_)
  refine xt_Ld rfl ?_
  refine xt_Ld rfl ?_
  refine xt_v rfl v_move ?_
  refine xt_Ld rfl ?_
  refine xt_Ld rfl ?_
  refine xt_call rfl (isNone0_ok A w5 (h.ext (kpc : Keep NoB w w5))) ?_
  rintro _ w6 ⟨⟨x1, rfl, hw1, hb1, hc1⟩, lk1⟩
  refine ⟨kpc, ?_⟩
  refine xt_call rfl (partU_ok (.pointer A) b w6) ?_
  rintro _ w7 ⟨⟨x2, rfl, hw2⟩, lk2⟩
  refine ⟨kpc, ?_⟩
  refine xt_call rfl (brokerU_ok (.pointer A) p w7) ?_
  rintro _ w8 ⟨⟨x3, rfl, hw3⟩, lk3⟩
  refine ⟨kpc, ?_⟩
  refine xt_e rfl (e_buildSliceM (vs := [x1, x2, x3].flatMap chkC) rfl rfl rfl fun b5 w9 n5 l5 k5 => ?_)
  refine xt_call rfl (firstN1_ok _ 3 _ x1 [x2, x3] w9 rfl (by omega) (hc1.ext lkc) hb1 hw1) ?_
  rintro _ w10 ⟨rfl, lk4⟩
  refine ⟨kpc, ?_⟩
  refine xt_v rfl v_assign ?_
  refine xt_nil ?_
  refine x_seq ?_
  refine x_regionL ?_
  refine xl_v v_move ?_
  refine xl_v (v_neqT (by decide)) ?_
  refine xl_nil ?_
  refine x_condT ?_
  refine x_goto ?_
  exact And.intro rfl (And.intro rfl (And.intro inferInstance lkc))
 ·
  intro τ11 ds11 w11 hI
  obtain ⟨rfl, e8, lk⟩ := hI
  refine x_seq ?_
  refine x_skip ?_
  refine x_seq ?_
  refine x_regionL ?_
  refine xl_v v_move ?_
  refine xl_v v_assign ?_
  refine xl_nil ?_
  refine x_ret ?_
  refine fin1 rfl ?_
  exact ⟨rfl, lkc⟩

/-- (*waystation/meta.Meta).Alter -/
theorem alter0_ok (A : Option Addr) (b : Int) (p s o : Int) (L : Option Addr) (nl cl : Nat) (w : World) (h : NoneAt w A) : Ret Try.prog 31 #[.pointer A, .int .i64 b, .int .i64 p, .int .i64 s, .int .i64 o, .slice L nl cl] w (fun v w' => v = .int .i64 1 ∧ Lk w' w NoB) := by
 refine ret_of_x (N := 65) (l := [.pointer A, .int .i64 b, .int .i64 p, .int .i64 s, .int .i64 o, .slice L nl cl]) Try.func31 rfl rfl (Nat.le_of_ble_eq_true rfl) ?_
 refine x_seq ?_
 refine x_regionL ?_
 refine xl_e (e_box fun b1 w1 n1 l1 k1 => ?_)
 refine xl_e (e_box fun b2 w2 n2 l2 k2 => ?_)
 refine xl_e (e_box fun b3 w3 n3 l3 k3 => ?_)
 refine xl_e (e_box fun b4 w4 n4 l4 k4 => ?_)
 refine xl_e (e_box fun b5 w5 n5 l5 k5 => ?_)
 refine xl_v v_assign ?_
 refine xl_nil ?_
 refine x_seq ?_
 refine x_seq ?_
 refine x_drawL (NoB) (allS) (.take 0 (.take 2 (.take 3 (.take 5 (.take 6 (.eff 1 (.eff 4 (.eff 7 (.eff 8 (.eff 9 (.take 10 .done))))))))))) mixed (by kernel_rfl) (fun _ _ _ _ _ h => h) (fun w6 l6 => ?_)
 refine xt_Ld rfl ?_
 refine xt_Ld rfl ?_
 refine xt_v rfl v_move ?_
 refine xt_Ld rfl ?_
 refine xt_Ld rfl ?_
 refine xt_call rfl (isNone0_ok A w6 (h.ext (kpc : Keep NoB w w6))) ?_
 rintro _ w7 ⟨⟨x1, rfl, hw1, hb1, hc1⟩, lk1⟩
 refine ⟨kpc, ?_⟩
 refine xt_call rfl (partU_ok (.pointer A) b w7) ?_
 rintro _ w8 ⟨⟨x2, rfl, hw2⟩, lk2⟩
 refine ⟨kpc, ?_⟩
 refine xt_call rfl (brokerU_ok (.pointer A) p w8) ?_
 rintro _ w9 ⟨⟨x3, rfl, hw3⟩, lk3⟩
 refine ⟨kpc, ?_⟩
 refine xt_e rfl (e_buildSliceM (vs := [x1, x2, x3].flatMap chkC) rfl rfl rfl fun b5 w10 n5 l5 k5 => ?_)
 refine xt_call rfl (firstN1_ok _ 3 _ x1 [x2, x3] w10 rfl (by omega) (hc1.ext lkc) hb1 hw1) ?_
 rintro _ w11 ⟨rfl, lk4⟩
 refine ⟨kpc, ?_⟩
 refine xt_v rfl v_assign ?_
 refine xt_nil ?_
 refine x_seq ?_
 refine x_regionL ?_
 refine xl_v v_move ?_
 refine xl_v (v_neqT (by decide)) ?_
 refine xl_nil ?_
 refine x_condT ?_
 refine x_seq ?_
 refine x_regionL ?_
 refine xl_v v_move ?_
 refine xl_v v_assign ?_
 refine xl_nil ?_
 refine x_ret ?_
 refine fin1 rfl ?_
 exact ⟨rfl, lkc⟩

/-- (*waystation/meta.Meta).Form -/
theorem form0_ok (A : Option Addr) (w : World) (h : NoneAt w A) : Ret Try.prog 33 #[.pointer A] w (fun v w' => v = .agg #[.int .i64 0, .int .i64 0, .int .i64 0] ∧ Lk w' w NoB) := by
 refine ret_of_x (N := 10) (l := [.pointer A]) Try.func33 rfl rfl (Nat.le_of_ble_eq_true rfl) ?_
 refine x_seq ?_
 refine x_regionL ?_
 refine xl_e (e_alloc fun b1 w1 n1 l1 k1 => ?_)
 refine xl_nil ?_
 refine x_seq ?_
 refine x_seq ?_
 refine x_regionL ?_
 refine xl_v v_move ?_
 refine xl_call (none0_ok A w1 (h.ext (kpc : Keep NoB w w1))) ?_
 rintro _ w2 ⟨rfl, lk1⟩
 refine xl_nil ?_
 refine x_condT ?_
 refine x_seq ?_
 refine x_regionL ?_
 refine xl_v v_build ?_
 refine xl_s (e_storeA fun w3 l3 k3 => ?_)
 refine xl_nil ?_
 refine x_ret ?_
 refine finR (rs := [.cell 2 26]) rfl ?_
 exact ⟨rfl, lkc⟩

/-- (*waystation/meta.Meta).Copy -/
theorem copy0_ok (A : Option Addr) (w : World) (h : NoneAt w A) : Ret Try.prog 16 #[.pointer A] w (fun v w' => v = .pointer none ∧ Lk w' w NoB) := by
 refine ret_of_x (N := 70) (l := [.pointer A]) Try.func16 rfl rfl (Nat.le_of_ble_eq_true rfl) ?_
 refine x_seq ?_
 refine x_regionL ?_
 refine xl_v v_assign ?_
 refine xl_nil ?_
 refine x_seq ?_
 refine x_seq ?_
 refine x_regionL ?_
 refine xl_v v_move ?_
 refine xl_call (none0_ok A w (h.ext (kpc : Keep NoB w w))) ?_
 rintro _ w1 ⟨rfl, lk1⟩
 refine xl_nil ?_
 refine x_condT ?_
 refine x_seq ?_
 refine x_regionL ?_
 refine xl_v v_assign ?_
 refine xl_nil ?_
 refine x_ret ?_
 refine fin1 rfl ?_
 exact ⟨rfl, lkc⟩

/-- waystation/meta.Same -/
theorem same00_ok (A B : Option Addr) (w : World) (h : NoneAt w A) (h2 : NoneAt w B) : Ret Try.prog 27 #[.pointer A, .pointer B] w (fun v w' => v = .bool true ∧ Lk w' w NoB) := by
 refine ret_of_x (N := 63) (l := [.pointer A, .pointer B]) Try.func27 rfl rfl (Nat.le_of_ble_eq_true rfl) ?_
 refine x_seq ?_
 refine x_regionL ?_
 refine xl_v v_assign ?_
 refine xl_nil ?_
 refine x_seq ?_
 refine x_seq ?_
 refine x_regionL ?_
 refine xl_v v_move ?_
 refine xl_call (none0_ok A w (h.ext (kpc : Keep NoB w w))) ?_
 rintro _ w1 ⟨rfl, lk1⟩
 refine xl_v v_move ?_
 refine xl_gs rfl EvO.eq ?_
 refine xl_gs rfl EvO.eq ?_
 refine xl_Pk ?_
 refine xl_nil ?_
 refine x_condT ?_
 refine x_seq ?_
 refine x_regionL ?_
 refine xl_v v_move ?_
 refine xl_call (none0_ok A w1 (h.ext (kpc : Keep NoB w w1))) ?_
 rintro _ w2 ⟨rfl, lk2⟩
 refine xl_v v_move ?_
 refine xl_gv rfl EvO.eq v_move ?_
 refine xl_gcall rfl EvO.eq (none0_ok B w2 (h2.ext (kpc : Keep NoB w w2))) ?_
 rintro _ w3 ⟨rfl, lk3⟩
 refine xl_Pk ?_
 refine xl_v v_assign ?_
 refine xl_nil ?_
 refine x_ret ?_
 refine fin1 rfl ?_
 exact ⟨rfl, lkc⟩

/-- waystation/meta.Same -/
theorem same01_ok (A : Option Addr) (m : Nat) (D : LMeta) (w : World) (h : NoneAt w A) (h2 : MetaAt w m D) (hok : D.pure.ok) : Ret Try.prog 27 #[.pointer A, .pointer (some ⟨m, 0, none⟩)] w (fun v w' => v = .bool false ∧ Lk w' w NoB) := by
 refine ret_of_x (N := 63) (l := [.pointer A, .pointer (some ⟨m, 0, none⟩)]) Try.func27 rfl rfl (Nat.le_of_ble_eq_true rfl) ?_
 refine x_seq ?_
 refine x_regionL ?_
 refine xl_v v_assign ?_
 refine xl_nil ?_
 refine x_seq ?_
 refine x_seq ?_
 refine x_regionL ?_
 refine xl_v v_move ?_
 refine xl_call (none0_ok A w (h.ext (kpc : Keep NoB w w))) ?_
 rintro _ w1 ⟨rfl, lk1⟩
 refine xl_v v_move ?_
 refine xl_gs rfl EvO.eq ?_
 refine xl_gs rfl EvO.eq ?_
 refine xl_Pk ?_
 refine xl_nil ?_
 refine x_condT ?_
 refine x_seq ?_
 refine x_regionL ?_
 refine xl_v v_move ?_
 refine xl_call (none0_ok A w1 (h.ext (kpc : Keep NoB w w1))) ?_
 rintro _ w2 ⟨rfl, lk2⟩
 refine xl_v v_move ?_
 refine xl_gv rfl EvO.eq v_move ?_
 refine xl_gcall rfl EvO.eq (noneL_ok m D w2 (h2.ext (kpc : Keep NoB w w2)) hok) ?_
 rintro _ w3 ⟨rfl, lk3⟩
 refine xl_Pk ?_
 refine xl_v v_assign ?_
 refine xl_nil ?_
 refine x_ret ?_
 refine fin1 rfl ?_
 exact ⟨rfl, lkc⟩

/-- waystation/meta.Same -/
theorem same10_ok (A : Option Addr) (m : Nat) (D : LMeta) (w : World) (h : NoneAt w A) (h2 : MetaAt w m D) (hok : D.pure.ok) : Ret Try.prog 27 #[.pointer (some ⟨m, 0, none⟩), .pointer A] w (fun v w' => v = .bool false ∧ Lk w' w NoB) := by
 refine ret_of_x (N := 63) (l := [.pointer (some ⟨m, 0, none⟩), .pointer A]) Try.func27 rfl rfl (Nat.le_of_ble_eq_true rfl) ?_
 refine x_seq ?_
 refine x_regionL ?_
 refine xl_v v_assign ?_
 refine xl_nil ?_
 refine x_seq ?_
 refine x_seq ?_
 refine x_regionL ?_
 refine xl_v v_move ?_
 refine xl_call (noneL_ok m D w (h2.ext (kpc : Keep NoB w w)) hok) ?_
 rintro _ w1 ⟨rfl, lk1⟩
 refine xl_v v_move ?_
 refine xl_gv rfl EvO.eq v_move ?_
 refine xl_gcall rfl EvO.eq (none0_ok A w1 (h.ext (kpc : Keep NoB w w1))) ?_
 rintro _ w2 ⟨rfl, lk2⟩
 refine xl_Pk ?_
 refine xl_nil ?_
 refine x_condT ?_
 refine x_seq ?_
 refine x_regionL ?_
 refine xl_v v_move ?_
 refine xl_call (noneL_ok m D w2 (h2.ext (kpc : Keep NoB w w2)) hok) ?_
 rintro _ w3 ⟨rfl, lk3⟩
 refine xl_v v_move ?_
 refine xl_gs rfl EvO.eq ?_
 refine xl_gs rfl EvO.eq ?_
 refine xl_Pk ?_
 refine xl_v v_assign ?_
 refine xl_nil ?_
 refine x_ret ?_
 refine fin1 rfl ?_
 exact ⟨rfl, lkc⟩
end Go.Proofs.Ytnjpladlfiaojaa
