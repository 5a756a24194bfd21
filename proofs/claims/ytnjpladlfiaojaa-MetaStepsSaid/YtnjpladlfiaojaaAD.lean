/-
 Walks, printed by a program of this workplace (wip/tools/sx.py) off the functions' code and a text of contracts.
-/
import Derived.Test.YtnjpladlfiaojaaAC
set_option linter.all false
set_option maxRecDepth 100000
set_option synthInstance.maxSize 100000
set_option synthInstance.maxHeartbeats 400000
namespace Go.Proofs.Ytnjpladlfiaojaa
open Go.Wst
open Go.Wst.Ct
instance cell1l_act (x : LAct) : Cell1L (actC x) := inferInstance
/-- Acts that bear no list. -/
def Bare (ys : List LAct) : Prop := ∀ y ∈ ys, y.a.list = [] ∧ y.A = none
theorem Bare.row {w : World} {ys : List LAct} (h : Bare ys) : ∀ j (hj : j < ys.length), RowP w ys[j].A (ints ys[j].a.list) := fun j hj => by
 rw [(h _ (List.getElem_mem hj)).1]
 intro i v hv
 simp [ints] at hv
theorem Bare.some {ys : List LAct} (h : Bare ys) : ∀ j (hj : j < ys.length), ys[j].A.isSome = true ∨ ys[j].a.list.length = 0 := fun j hj => .inr (by rw [(h _ (List.getElem_mem hj)).1]; rfl)
theorem Bare.snoc {ys : List LAct} (h : Bare ys) {y : LAct} (h1 : y.a.list = []) (h2 : y.A = none) : Bare (ys ++ [y]) := fun z hz => by
 rcases List.mem_append.1 hz with hz | hz
 ·exact h z hz
 ·rw [List.mem_singleton.1 hz]; exact ⟨h1, h2⟩
theorem Bare.app {ys zs : List LAct} (h : Bare ys) (k : Bare zs) : Bare (ys ++ zs) := fun z hz => (List.mem_append.1 hz).elim (h z) (k z)
abbrev mkA (kind a b n o : Int) (fl nr : Bool) : LAct := ⟨⟨kind, a, b, n, o, fl, nr, []⟩, none, 0⟩
theorem bare_of {l : List LAct} (h : ∀ y ∈ l, ∃ k a b n o fl nr, y = mkA k a b n o fl nr) : Bare l := fun y hy => by
 obtain ⟨k, a, b, n, o, fl, nr, rfl⟩ := h y hy
 exact ⟨rfl, rfl⟩

/-- waystation/waystationlaw10.MetaForms -/
theorem metaForms_ok (b p i : Int) (w : World) (hb : In64 b) (hp : In64 p) (hi : In64 i) : Ret Try.prog 8 #[.agg #[.int .i64 b, .int .i64 p, .int .i64 i]] w (fun v w' => v = .bool true ∧ Lk w' w NoB) := by
 refine ret_of_x (N := 46) (l := [.agg #[.int .i64 b, .int .i64 p, .int .i64 i]]) Try.func8 rfl rfl (Nat.le_of_ble_eq_true rfl) ?_
 refine x_seq ?_
 refine x_regionL ?_
 refine xl_e (e_box fun b1 w1 n1 l1 k1 => ?_)
 refine xl_v v_assign ?_
 refine xl_nil ?_
 refine x_seq ?_
 refine x_seq ?_
 refine x_regionL ?_
 refine xl_La ?_
 refine xl_call (refright_ok b p i w1) ?_
 rintro _ w2 ⟨rfl, lkr⟩
 refine xl_v v_not ?_
 refine xl_nil ?_
 first | refine x_condP (fun c1 => ?_) (fun c1 => ?_) | refine x_condN (fun c1 => ?_) (fun c1 => ?_) | refine x_condE (fun c1 => ?_) (fun c1 => ?_)
 ·
  refine x_seq ?_
  refine x_regionL ?_
  refine xl_La ?_
  refine xl_call (newE_ok b p i w2) ?_
  rintro _ w3 ⟨⟨NA, ne, rfl, hnw⟩, lkn⟩
  obtain ⟨_, rfl, rfl⟩ : ¬ formOk b p i ∧ NA = none ∧ ne = 2 := hnw.resolve_right (fun e => c1 e.1)
  refine xl_v v_move ?_
  refine xl_v v_extract ?_
  refine xl_v v_extract ?_
  refine xl_v v_assign ?_
  refine xl_v v_assign ?_
  refine xl_nil ?_
  refine x_seq ?_
  refine x_regionL ?_
  refine xl_v v_move ?_
  refine xl_v (v_eql_pointerN) ?_
  refine xl_v v_move ?_
  refine xl_gv rfl EvO.eq v_move ?_
  refine xl_gv rfl EvO.eq (v_eqlT rfl) ?_
  refine xl_Pk ?_
  refine xl_v v_move ?_
  refine xl_gcall rfl EvO.eq (known_ok w3) ?_
  rintro _ w4 ⟨rfl, lkk⟩
  refine xl_Pk ?_
  refine xl_v v_assign ?_
  refine xl_nil ?_
  refine x_ret ?_
  refine fin1 rfl ?_
  exact ⟨rfl, lkc⟩
 ·
  have hf : formOk b p i := c1
  have hf1 := hf.1
  have hf2 := hf.2.1
  have hf3 := hf.2.2
  obtain ⟨XS, hXS⟩ : ∃ XS : List LAct, XS = [mkA 1 0 0 0 0 false false, mkA 3 (p - 1) (b - 1) 0 0 false false, mkA 5 (i - 1) 0 0 0 false false, mkA 3 p 0 0 0 false false, mkA 2 b 0 0 0 false false, mkA 5 i 0 0 0 false false] := ⟨_, rfl⟩
  have hXl : XS.length = 6 := by rw [hXS]; rfl
  have hXb : Bare XS := by rw [hXS]; intro y hy; simp at hy; rcases hy with rfl | rfl | rfl | rfl | rfl | rfl <;> exact ⟨rfl, rfl⟩
  refine x_skip ?_
  refine x_seq ?_
  refine x_regionL ?_
  refine xl_La ?_
  refine xl_v v_build ?_
  refine xl_Fa ?_
  refine xl_Ld ?_
  refine xl_v (v_sub (by omega)) ?_
  refine xl_Fa ?_
  refine xl_Ld ?_
  refine xl_v (v_sub (by omega)) ?_
  refine xl_v v_build ?_
  refine xl_Fa ?_
  refine xl_Ld ?_
  refine xl_v (v_sub (by omega)) ?_
  refine xl_v v_build ?_
  refine xl_Fa ?_
  refine xl_Ld ?_
  refine xl_v v_build ?_
  refine xl_Fa ?_
  refine xl_Ld ?_
  refine xl_v v_build ?_
  refine xl_Fa ?_
  refine xl_Ld ?_
  refine xl_v v_build ?_
  refine xl_e (e_buildSliceM (vs := XS.flatMap actC) rfl rfl (by rw [hXS]; rfl) fun b7 w5 n7 l7 k7 => ?_)
  refine xl_call (metaPlay_ok b p i (some ⟨b7, 0, none⟩) 6 6 XS w5 hXb.row hXb.some hXl) ?_
  rintro _ w6 ⟨rfl, lk2⟩
  refine xl_v v_assign ?_
  refine xl_nil ?_
  refine x_ret ?_
  refine fin1 rfl ?_
  exact ⟨rfl, lkc⟩
set_option maxHeartbeats 1000000 in
/-- waystation/waystationlaw10.MetaTxn -/
theorem metaTxn_ok (A : Option Addr) (n c : Nat) (xs : List Int) (cm : Bool) (off : Int) (B : Option Addr) (n2 cB : Nat) (ms : List Int) (w : World) [hra : Row w A (ints xs)] [hrb : Row w B (ints ms)] (hl : xs.length = n) (hl2 : ms.length = n2) (hn : n ≤ 9223372036854775807) (hn2 : n2 ≤ 9223372036854775807) : Ret Try.prog 5 #[.slice A n c, .agg #[.bool cm, .int .i64 off], .slice B n2 cB] w (fun v w' => v = .bool true ∧ Lk w' w NoB) := by
 haveI hraB : RowB w A w (ints xs) := rowB_of hra.row
 haveI hrbB : RowB w B w (ints ms) := rowB_of hrb.row
 refine ret_of_x (N := 67) (l := [.slice A n c, .agg #[.bool cm, .int .i64 off], .slice B n2 cB]) Try.func5 rfl rfl (Nat.le_of_ble_eq_true rfl) ?_
 refine x_seq ?_
 refine x_regionL ?_
 refine xl_e (e_box fun b1 w1 n1 l1 k1 => ?_)
 refine xl_v v_assign ?_
 refine xl_nil ?_
 refine x_seq ?_
 refine x_seq ?_
 refine x_regionL ?_
 refine xl_v v_move ?_
 refine xl_v v_len ?_
 refine xl_v v_gtr ?_
 refine xl_v v_move ?_
 refine xl_split 13 (fun g13 => ?_) (fun g13 => ?_)
 ·
  refine xl_gs rfl EvO.eq ?_
  refine xl_gs rfl EvO.eq ?_
  refine xl_gs rfl EvO.eq ?_
  refine xl_Pk ?_
  refine xl_nil ?_
  refine x_condT ?_
  refine x_seq ?_
  refine x_regionL ?_
  refine xl_call (known_ok w1) ?_
  rintro _ w2 ⟨rfl, lkk⟩
  refine xl_v v_assign ?_
  refine xl_nil ?_
  refine x_ret ?_
  refine fin1 rfl ?_
  exact ⟨rfl, lkc⟩
 ·
  refine xl_gv rfl EvO.eq v_move ?_
  refine xl_gv rfl EvO.eq v_len ?_
  refine xl_gv rfl EvO.eq v_gtr ?_
  refine xl_Pk ?_
  refine xl_nil ?_
  first | refine x_condP (fun c1 => ?_) (fun c1 => ?_) | refine x_condN (fun c1 => ?_) (fun c1 => ?_) | refine x_condE (fun c1 => ?_) (fun c1 => ?_)
  ·
   refine x_seq ?_
   refine x_regionL ?_
   refine xl_call (known_ok w1) ?_
   rintro _ w3 ⟨rfl, lkk⟩
   refine xl_v v_assign ?_
   refine xl_nil ?_
   refine x_ret ?_
   refine fin1 rfl ?_
   exact ⟨rfl, lkc⟩
  ·
   have hsm : n ≤ 6 ∧ n2 ≤ 12 := by
    simp at g13 c1
    omega
   refine x_skip ?_
   refine x_seq ?_
   refine x_regionL ?_
   refine xl_v v_build ?_
   refine xl_e (e_buildSlice1 rfl fun b7 w4 n7 l7 k7 => ?_)
   refine xl_v v_assign ?_
   refine xl_nil ?_
   refine x_seq ?_
   refine x_seq ?_
   refine x_regionL ?_
   refine xl_v v_assign ?_
   refine xl_nil ?_
   refine x_block ?_
   have ho7 : World.ownsRow w4 (w4).heap.size 42 8 (.slice none 0 0) 0 [] := World.ownsRow_nil _ _ _ _
   have hb7 : (w4).heap[b7]? = some (.cells ([mkA 5 0 0 0 0 false false].flatMap actC).toArray 42 (0, 0)) := Blk.eq
   have hb7w : w.heap.size ≤ b7 := by rw [n7.eq]; exact Ge.le
   obtain ⟨wL, hwL⟩ : ∃ x, x = w := ⟨_, rfl⟩
   have hown0 : World.ownsRow w4 w.heap.size 42 8 (.slice (some ⟨b7, 0, none⟩) 1 1) 1 ([mkA 5 0 0 0 0 false false].flatMap actC) := ownsRow_blk hb7w hb7 rfl (by omega)
   haveI : NewA (some ⟨b7, 0, none⟩) w := ⟨fun a ha => by cases ha; exact hb7w⟩
   have hb1l : (w4).heap[b1]? = _ := Blk.eq
   have hb1w : w.heap.size ≤ b1 := by rw [n1.eq]; exact Ge.le
   refine x_loop (fun m τ ds w' => ds = [] ∧ ∃ (k : Nat) (ys : List LAct) (C : Option Addr) (d q : Nat), m = n - k ∧ k ≤ n ∧ ys.length = q ∧ q ≤ k + 1 ∧ Bare ys ∧ OwnI w' C q d w.heap.size 42 8 q (ys.flatMap actC) ∧ NewA C w ∧ ApB C b1 ∧ w'.heap[b1]? = some (.cells #[.bool cm, .int .i64 off] 59 (0, 0)) ∧ Ev τ 0 (.slice A n c) ∧ Ev τ 2 (.slice B n2 cB) ∧ Ev τ 4 (.pointer (some ⟨b1, 0, none⟩)) ∧ Ev τ 7 (.slice C q d) ∧ Ev τ 8 (.int .i64 (k : Int)) ∧ Lk w' w NoB) (n) ?start ?round
   case start =>
    exact ⟨rfl, 0, [mkA 5 0 0 0 0 false false], some ⟨b7, 0, none⟩, 1, 1, rfl, Nat.zero_le _, rfl, Nat.le_refl _, (by intro y hy; rw [List.mem_singleton.1 hy]; exact ⟨rfl, rfl⟩), ⟨hown0⟩, inferInstance, ⟨fun a ha => by cases ha; exact (NeB.ne : b7 ≠ b1)⟩, hb1l, inferInstance, inferInstance, inferInstance, inferInstance, evc, lkc⟩
   case round =>
    intro m τ5 ds5 w5 hI
    obtain ⟨rfl, k, ys, C, d, q, rfl, hk, hyl, hqk, hbr, oC, nC, apC, hb1, e0, e2, e4, e7, e8, lk⟩ := hI
    haveI kb1 : Blk w5 b1 _ := ⟨hb1⟩
    refine x_seq ?_
    refine x_seq ?_
    refine x_regionL ?_
    refine xl_v v_move ?_
    refine xl_v v_move ?_
    refine xl_v v_len ?_
    refine xl_v v_lss ?_
    refine xl_nil ?_
    first | refine x_condP (fun c2 => ?_) (fun c2 => ?_) | refine x_condN (fun c2 => ?_) (fun c2 => ?_) | refine x_condE (fun c2 => ?_) (fun c2 => ?_)
    ·
     have hk1 : k < xs.length := by omega
     refine x_skip ?_
     refine x_seq ?_
     refine x_block ?_
     refine x_regionL ?_
     refine xl_v v_move ?_
     refine xl_v v_move ?_
     refine xl_v v_move ?_
     refine xl_v (v_indexO k rfl (by omega) hk1) ?_
     refine xl_v (v_loadO (k := k) hk1) ?_
     refine xl_v v_build ?_
     refine xl_e (e_buildSlice1 rfl fun b8 w6 n8 l8 k8 => ?_)
     have hsz8 := l8.keep.size
     refine xl_e (e_app (by rfl) (by decide) (by omega) (by omega) (by first | exact Ge.le | omega) fun C9 d9 w7 o9 l9 a9 f9 => ?_)
     refine xl_v v_assign ?_
     refine xl_nil ?_
     refine x_regionL ?_
     refine xl_v v_move ?_
     refine xl_v (v_add (by omega)) ?_
     refine xl_v v_assign ?_
     refine xl_nil ?_
     refine ⟨_, ?_, rfl, k + 1, ys ++ [mkA 6 0 xs[k] 0 0 false true], C9, d9, q + 1, rfl, by omega, by simp [hyl], by omega, hbr.snoc rfl rfl, ⟨by rw [List.flatMap_append]; exact (OwnI.own : World.ownsRow w7 _ _ _ (.slice C9 _ d9) _ _)⟩, inferInstance, ⟨fun a ha e => by
      rcases f9.or a ha with ⟨a2, ha2, e2⟩ | e2
      ·exact apC.ne a2 ha2 (by rw [← e2, e])
      ·have h1 : b1 < _ := (Array.getElem?_eq_some_iff.1 hb1).1
       omega⟩, Blk.eq, inferInstance, inferInstance, inferInstance, inferInstance, evc, lkc⟩
     omega
    ·
     refine x_exit ?_
     refine x_seq ?_
     refine x_regionL ?_
     refine xl_v v_move ?_
     refine xl_Fa ?_
     refine xl_Ld ?_
     refine xl_Fa ?_
     refine xl_Ld ?_
     refine xl_v v_build ?_
     refine xl_v v_build ?_
     refine xl_v v_build ?_
     refine xl_e (e_buildSliceM (vs := [mkA 7 0 0 0 off cm true, mkA 5 0 0 0 0 false false, mkA 6 0 0 0 0 false true].flatMap actC) rfl rfl rfl fun b10 w8 n10 l10 k10 => ?_)
     refine xl_e (e_app (by rfl) (by decide) (by omega) (by omega) (by first | exact Ge.le | omega) fun C8 d8 w9 o8 l11 a8 f8 => ?_)
     refine xl_v v_assign ?_
     refine xl_nil ?_
     refine x_seq ?_
     refine x_seq ?_
     refine x_regionL ?_
     refine xl_v v_assign ?_
     refine xl_nil ?_
     refine x_block ?_
     obtain ⟨zs, hzs⟩ : ∃ zs : List LAct, zs = ys ++ [mkA 7 0 0 0 off cm true, mkA 5 0 0 0 0 false false, mkA 6 0 0 0 0 false true] := ⟨_, rfl⟩
     have hzb : Bare zs := by rw [hzs]; exact hbr.app (by intro y hy; simp at hy; rcases hy with rfl | rfl | rfl <;> exact ⟨rfl, rfl⟩)
     have hzl : zs.length = q + 3 := by rw [hzs]; simp [hyl]
     have oZ : World.ownsRow w9 w.heap.size 42 8 (.slice C8 (q + 3) d8) (q + 3) (zs.flatMap actC) := by rw [hzs, List.flatMap_append]; exact o8.own
     refine x_loop (fun m τ ds w' => ds = [] ∧ ∃ (k : Nat) (ys : List LAct) (C : Option Addr) (d q : Nat), m = n2 - k ∧ k ≤ n2 ∧ ys.length = q ∧ q ≤ k + 10 ∧ Bare ys ∧ OwnI w' C q d w.heap.size 42 8 q (ys.flatMap actC) ∧ NewA C w ∧ Ev τ 2 (.slice B n2 cB) ∧ Ev τ 7 (.slice C q d) ∧ Ev τ 9 (.int .i64 (k : Int)) ∧ Lk w' w NoB) (n2) ?start ?round
     case start =>
      exact ⟨rfl, 0, zs, C8, d8, q + 3, rfl, Nat.zero_le _, hzl, by omega, hzb, ⟨oZ⟩, inferInstance, inferInstance, inferInstance, evc, lkc⟩
     case round =>
      intro m τ10 ds10 w10 hI
      clear hyl hqk hbr oC nC apC hb1 e0 e2 e4 e7 e8 lk
      obtain ⟨rfl, k, ys, C, d, q, rfl, hk, hyl, hqk, hbr, oC, nC, e2, e7, e8, lk⟩ := hI
      refine x_seq ?_
      refine x_seq ?_
      refine x_regionL ?_
      refine xl_v v_move ?_
      refine xl_v v_move ?_
      refine xl_v v_len ?_
      refine xl_v v_lss ?_
      refine xl_nil ?_
      first | refine x_condP (fun c3 => ?_) (fun c3 => ?_) | refine x_condN (fun c3 => ?_) (fun c3 => ?_) | refine x_condE (fun c3 => ?_) (fun c3 => ?_)
      ·
       have hk1 : k < ms.length := by omega
       refine x_skip ?_
       refine x_seq ?_
       refine x_block ?_
       refine x_regionL ?_
       refine xl_v v_move ?_
       refine xl_v v_move ?_
       refine xl_v v_move ?_
       refine xl_v (v_indexO k rfl (by omega) hk1) ?_
       refine xl_v (v_loadO (k := k) hk1) ?_
       refine xl_v v_build ?_
       refine xl_e (e_buildSlice1 rfl fun b8 w11 n8 l8 k8 => ?_)
       refine xl_e (e_app (by rfl) (by decide) (by omega) (by omega) (by first | exact Ge.le | omega) fun C9 d9 w12 o9 l9 a9 f9 => ?_)
       refine xl_v v_assign ?_
       refine xl_nil ?_
       refine x_regionL ?_
       refine xl_v v_move ?_
       refine xl_v (v_add (by omega)) ?_
       refine xl_v v_assign ?_
       refine xl_nil ?_
       refine ⟨_, ?_, rfl, k + 1, ys ++ [mkA 8 0 ms[k] 0 0 false true], C9, d9, q + 1, rfl, by omega, by simp [hyl], by omega, hbr.snoc rfl rfl, ⟨by rw [List.flatMap_append]; exact (OwnI.own : World.ownsRow w12 _ _ _ (.slice C9 _ d9) _ _)⟩, inferInstance, inferInstance, inferInstance, evc, lkc⟩
       omega
      ·
       refine x_exit ?_
       refine x_seq ?_
       refine x_regionL ?_
       refine xl_v v_move ?_
       refine xl_v v_build ?_
       refine xl_v v_build ?_
       refine xl_e (e_buildSliceM (vs := [mkA 5 0 0 0 0 false false, mkA 6 0 1 0 0 false true].flatMap actC) rfl rfl rfl fun b10 w13 n10 l10 k10 => ?_)
       refine xl_e (e_app (by rfl) (by decide) (by omega) (by omega) (by first | exact Ge.le | omega) fun C8 d8 w14 o8 l11 a8 f8 => ?_)
       refine xl_v v_assign ?_
       refine xl_nil ?_
       refine x_seq ?_
       refine x_regionL ?_
       refine xl_v v_build ?_
       refine xl_v v_move ?_
       obtain ⟨zs, hzs⟩ : ∃ zs : List LAct, zs = ys ++ [mkA 5 0 0 0 0 false false, mkA 6 0 1 0 0 false true] := ⟨_, rfl⟩
       have hzb : Bare zs := by rw [hzs]; exact hbr.app (by intro y hy; simp at hy; rcases hy with rfl | rfl <;> exact ⟨rfl, rfl⟩)
       have hzl : zs.length = q + 2 := by rw [hzs]; simp [hyl]
       have oZ : World.ownsRow w14 w.heap.size 42 8 (.slice C8 (q + 2) d8) (q + 2) (zs.flatMap actC) := by rw [hzs, List.flatMap_append]; exact o8.own
       refine xl_call (metaPlay_ok 2 4 1 C8 (q + 2) d8 zs w14 (hra := ⟨by haveI : OwnI w14 C8 _ _ _ _ _ _ _ := ⟨oZ⟩; exact Row.row⟩) hzb.row hzb.some hzl) ?_
       rintro _ w15 ⟨rfl, lk2⟩
       refine xl_v v_assign ?_
       refine xl_nil ?_
       refine x_ret ?_
       refine fin1 rfl ?_
       exact ⟨rfl, lkc⟩
end Go.Proofs.Ytnjpladlfiaojaa
