/-
 Walks, printed by a program of this workplace (wip/tools/sx.py) off the functions' code and a text of contracts.
-/
import Derived.Test.YtnjpladlfiaojaaAE
set_option linter.all false
set_option maxRecDepth 100000
set_option synthInstance.maxSize 100000
set_option synthInstance.maxHeartbeats 400000
namespace Go.Proofs.Ytnjpladlfiaojaa
open Go.Wst
open Go.Wst.Ct
/-- Acts whose lists lie in F. -/
def Listed (w : World) (F : Nat → Prop) (ys : List LAct) : Prop := ∀ y ∈ ys, FRow w F y.A (ints y.a.list) ∧ (y.A.isSome = true ∨ y.a.list.length = 0)
theorem Listed.keep {w w' : World} {F S : Nat → Prop} {ys : List LAct} (h : Listed w F ys) (hk : Keep S w w') (hs : ∀ k, F k → ¬ S k) : Listed w' F ys := fun y hy => ⟨(h y hy).1.keep hk hs, (h y hy).2⟩
theorem Listed.snoc {w : World} {F : Nat → Prop} {ys : List LAct} {z : LAct} (h : Listed w F ys) (hz : RowP w z.A (ints z.a.list)) (hz2 : z.A.isSome = true ∨ z.a.list.length = 0) : Listed w (fun k => F k ∨ blkA z.A = some k) (ys ++ [z]) := fun y hy => by
 rcases List.mem_append.1 hy with hy | hy
 ·exact ⟨(h y hy).1.mono fun k e => .inl e, (h y hy).2⟩
 ·rw [List.mem_singleton.1 hy]
  exact ⟨⟨hz, fun a ha => .inr (by rw [ha]; rfl)⟩, hz2⟩
theorem Listed.row {w : World} {F : Nat → Prop} {ys : List LAct} (h : Listed w F ys) : ∀ j (hj : j < ys.length), RowP w ys[j].A (ints ys[j].a.list) := fun j hj => (h _ (List.getElem_mem hj)).1.row
theorem Listed.some {w : World} {F : Nat → Prop} {ys : List LAct} (h : Listed w F ys) : ∀ j (hj : j < ys.length), ys[j].A.isSome = true ∨ ys[j].a.list.length = 0 := fun j hj => (h _ (List.getElem_mem hj)).2
theorem own_isSome {w : World} {base n c : Nat} {e : TypeId} {A : Option Addr} {l : List Int} (h : w.ownsRow base e 1 (.slice A n c) n (ints l)) : A.isSome = true ∨ l.length = 0 := by
 have hl := h.1
 rcases h.2 with ⟨h1, h2⟩ | ⟨g, cap, cur, h1, _⟩
 ·right; simp [ints] at hl; omega
 ·cases h1; exact .inl rfl
theorem own_lies {w : World} {base n c : Nat} {e : TypeId} {A : Option Addr} {xs : List Value} (h : w.ownsRow base e 1 (.slice A n c) n xs) : ∀ a, A = some a → base ≤ a.block ∧ a.block < w.heap.size := fun a ha => by
 rcases h.2 with ⟨h1, h2⟩ | ⟨g, cap, cur, h1, h2, h3, _⟩
 ·cases h1; cases ha
 ·cases h1; cases ha
  exact ⟨h2, (Array.getElem?_eq_some_iff.1 h3).1⟩
theorem notOwn {C : Option Addr} {F : Nat → Prop} {n c : Nat} (h : ∀ a, C = some a → ¬ F a.block) : ∀ j, F j → ¬ OwnB (.slice C n c) j := fun j hj e => by
 cases C with
 | none => cases e
 | some a =>
   have e2 : some j = some a.block := e
   injection e2 with e2
   exact h a rfl (e2 ▸ hj)
abbrev grownA (z : Ct.Act) (l : List Int) (L : Option Addr) (c : Nat) : LAct := ⟨⟨z.kind, z.a, z.b, z.n, z.o, z.flag, z.near, l⟩, L, c⟩
set_option maxHeartbeats 2000000 in
/-- waystation/waystationlaw10.MetaSteps -/
theorem metaSteps_ok (A : Option Addr) (n c : Nat) (ts : List (Int × Int × Int)) (w : World) [hra : Row w A (ts.flatMap triC)] (hl : ts.length = n) (hn : n ≤ 9223372036854775807) : Ret Try.prog 6 #[.slice A n c] w (fun v w' => v = .bool true ∧ Lk w' w NoB) := by
 haveI hraB : RowB w A w (ts.flatMap triC) := rowB_of hra.row
 refine ret_of_x (N := 84) (l := [.slice A n c]) Try.func6 rfl rfl (Nat.le_of_ble_eq_true rfl) ?_
 refine x_seq ?_
 refine x_regionL ?_
 refine xl_v v_assign ?_
 refine xl_nil ?_
 refine x_seq ?_
 refine x_seq ?_
 refine x_regionL ?_
 refine xl_v v_move ?_
 refine xl_v v_len ?_
 refine xl_v v_gtr ?_
 refine xl_nil ?_
 first | refine x_condP (fun c1 => ?_) (fun c1 => ?_) | refine x_condN (fun c1 => ?_) (fun c1 => ?_) | refine x_condE (fun c1 => ?_) (fun c1 => ?_)
 ·
  refine x_seq ?_
  refine x_regionL ?_
  refine xl_call (known_ok w) ?_
  rintro _ w1 ⟨rfl, lkk⟩
  refine xl_v v_assign ?_
  refine xl_nil ?_
  refine x_ret ?_
  refine fin1 rfl ?_
  exact ⟨rfl, lkc⟩
 ·
  have hsm : n ≤ 40 := by
   simp at c1
   omega
  refine x_skip ?_
  refine x_seq ?_
  refine x_regionL ?_
  refine xl_v v_assign ?_
  refine xl_nil ?_
  refine x_seq ?_
  refine x_seq ?_
  refine x_regionL ?_
  refine xl_v v_assign ?_
  refine xl_nil ?_
  refine x_block ?_
  refine x_loop (fun m τ ds w' => ds = [] ∧ ∃ (k : Nat) (ys : List LAct) (C : Option Addr) (d q : Nat) (F : Nat → Prop), m = n - k ∧ k ≤ n ∧ ys.length = q ∧ q ≤ k ∧ Listed w' F ys ∧ (∀ j, F j → j < w'.heap.size) ∧ (∀ a, C = some a → ¬ F a.block) ∧ OwnI w' C q d w.heap.size 42 8 q (ys.flatMap actC) ∧ NewA C w ∧ Ev τ 0 (.slice A n c) ∧ Ev τ 3 (.slice C q d) ∧ Ev τ 4 (.int .i64 (k : Int)) ∧ Lk w' w NoB) (n) ?start ?round
  case start =>
   exact ⟨rfl, 0, [], none, 0, 0, (fun _ => False), rfl, Nat.zero_le _, rfl, Nat.le_refl _, (fun y hy => by cases hy), (fun _ e => e.elim), (fun _ e => by cases e), ⟨World.ownsRow_nil _ _ _ _⟩, newA_none _, inferInstance, inferInstance, evc, lkc⟩
  case round =>
   intro m τ2 ds2 w2 hI
   obtain ⟨rfl, k, ys, C, d, q, F, rfl, hk, hyl, hqk, hF, hFl, hCF, oC, nC, e0, e3, e4, lk⟩ := hI
   have hFk : ∀ W, Keep NoB w2 W → Listed W F ys := fun W hk => hF.keep hk (fun _ _ e => e.elim)
   have hCl : ∀ a, C = some a → a.block < (w2).heap.size := fun a ha => (inferInstance : OldA w2 C).lt a ha
   obtain ⟨sB, hsB⟩ : ∃ s, s = (w2).heap.size := ⟨_, rfl⟩
   refine x_seq ?_
   refine x_seq ?_
   refine x_regionL ?_
   refine xl_v v_move ?_
   refine xl_v v_move ?_
   refine xl_v v_len ?_
   refine xl_v v_lss ?_
   refine xl_nil ?_
   first | refine x_condP (fun c2 => ?_) (fun c2 => ?_) | refine x_condN (fun c2 => ?_) (fun c2 => ?_) | refine x_condE (fun c2 => ?_) (fun c2 => ?_)
   ·
    have hk1 : k < ts.length := by omega
    haveI oA : OldA w A := old_tri hraB hk1
    refine x_skip ?_
    refine x_seq ?_
    refine x_block ?_
    refine x_seq ?_
    refine x_regionL ?_
    refine xl_v v_move ?_
    refine xl_v v_move ?_
    refine xl_v (v_indexF k (by decide) rfl (by omega) hk1) ?_
    refine xl_v (v_indexAF (m := 0) rfl (by decide) (by decide) (by decide) hk1) ?_
    refine xl_Ld ?_
    refine xl_v (v_rem (by decide)) ?_
    refine xl_v (v_convert) ?_
    refine xl_v (v_addw) ?_
    refine xl_v v_build ?_
    refine xl_e (e_alloc fun b5 w3 n5 l5 k5 => ?_)
    refine xl_s (e_storeA fun w4 l4 k4 => ?_)
    refine xl_nil ?_
    refine x_seq ?_
    refine x_regionL ?_
    refine xl_v v_move ?_
    refine xl_v v_move ?_
    refine xl_v (v_indexF k (by decide) rfl (by omega) hk1) ?_
    refine xl_v (v_indexAF (m := 1) rfl (by decide) (by decide) (by decide) hk1) ?_
    refine xl_Ld ?_
    refine xl_v (v_rem (by decide)) ?_
    refine xl_v (v_convert) ?_
    refine xl_v v_assign ?_
    refine xl_nil ?_
    refine x_seq ?_
    refine x_seq ?_
    refine x_regionL ?_
    refine xl_Fa ?_
    refine xl_Ld ?_
    refine xl_nil ?_
    refine x_block ?_
    refine x_seq ?_
    refine x_seq ?_
    refine x_regionL ?_
    refine xl_v v_eql ?_
    refine xl_v v_assign ?_
    refine xl_nil ?_
    first | refine x_condP (fun c3 => ?_) (fun c3 => ?_) | refine x_condN (fun c3 => ?_) (fun c3 => ?_) | refine x_condE (fun c3 => ?_) (fun c3 => ?_)
    ·
     refine x_skip ?_
     first | refine x_condP (fun c4 => ?_) (fun c4 => ?_) | refine x_condN (fun c4 => ?_) (fun c4 => ?_) | refine x_condE (fun c4 => ?_) (fun c4 => ?_)
     ·
      refine x_regionL ?_
      refine xl_v v_move ?_
      refine xl_Fa ?_
      refine xl_s (e_store fun w5 l5 k5 => ?_)
      refine xl_nil ?_
      refine x_regionL ?_
      refine xl_v v_move ?_
      have hge : sB ≤ (w5).heap.size := by rw [hsB]; exact Ge.le
      obtain ⟨z, hz5, hz1, hz2, hz3⟩ : ∃ z : LAct, (w5).heap[b5]? = some (.cells (actC z).toArray 42 (0, 0)) ∧ RowP w5 z.A (ints z.a.list) ∧ (z.A.isSome = true ∨ z.a.list.length = 0) ∧ (∀ a, z.A = some a → sB ≤ a.block ∧ a.block < (w5).heap.size) := by
       first
       | exact ⟨grownA z0 li L e, hb5, hz0.1, hz0.2.1, hz0.2.2⟩
       | exact ⟨⟨⟨_, _, _, _, _, _, _, []⟩, none, 0⟩, Blk.eq, (fun j v hv => by simp [ints] at hv), .inr rfl, fun a ha => by cases ha⟩
      haveI kz5 : Blk w5 b5 _ := ⟨hz5⟩
      have hL := (hFk w5 kpc).snoc hz1 hz2
      have hFz : ∀ j, (F j ∨ blkA z.A = some j) → j < (w5).heap.size := fun j e => e.elim (fun e => Nat.lt_of_lt_of_le (hsB ▸ hFl j e) hge) (fun e => by
       obtain ⟨a, ha, rfl⟩ := Option.map_eq_some_iff.1 e
       exact (hz3 a ha).2)
      have hCz : ∀ a, C = some a → ¬ (F a.block ∨ blkA z.A = some a.block) := fun a ha e => e.elim (hCF a ha) (fun e => by
       obtain ⟨a2, ha2, e2⟩ := Option.map_eq_some_iff.1 e
       have h1 := hCl a ha
       have h2 := (hz3 a2 ha2).1
       omega)
      refine xl_La ?_
      refine xl_e (e_buildSlice1 rfl fun b9 w6 n9 l9 k9 => ?_)
      have hL8 := hL.keep l9.keep (fun _ _ e => e.elim)
      have hsz9 := l9.keep.size
      refine xl_e (e_app (by rfl) (by decide) (by omega) (by omega) (by first | exact Ge.le | omega) fun C9 d9 w7 o10 l10 a10 f10 => ?_)
      have hL9 := hL8.keep l10.keep (notOwn hCz)
      have hF9 : ∀ j, (F j ∨ blkA z.A = some j) → j < (w7).heap.size := fun j e => by have h1 := hFz j e; have h2 := l10.keep.size; omega
      have hC9 : ∀ a, C9 = some a → ¬ (F a.block ∨ blkA z.A = some a.block) := fun a ha e => by
       rcases f10.or a ha with ⟨a2, ha2, e2⟩ | e2
       ·exact hCz a2 ha2 (e2 ▸ e)
       ·have h1 := hFz _ e; omega
      refine xl_v v_assign ?_
      refine xl_nil ?_
      refine x_regionL ?_
      refine xl_v v_move ?_
      refine xl_v (v_add (by omega)) ?_
      refine xl_v v_assign ?_
      refine xl_nil ?_
      refine ⟨_, ?_, rfl, k + 1, ys ++ [z], C9, d9, q + 1, _, rfl, by omega, by simp [hyl], by omega, hL9, hF9, hC9, ⟨by rw [List.flatMap_append]; exact (OwnI.own : World.ownsRow w7 _ _ _ (.slice C9 _ d9) _ _)⟩, inferInstance, inferInstance, inferInstance, evc, lkc⟩
      omega
     ·
      refine x_seq ?_
      refine x_regionL ?_
      refine xl_v v_eql ?_
      refine xl_v v_assign ?_
      refine xl_nil ?_
      first | refine x_condP (fun c5 => ?_) (fun c5 => ?_) | refine x_condN (fun c5 => ?_) (fun c5 => ?_) | refine x_condE (fun c5 => ?_) (fun c5 => ?_)
      ·
       refine x_drawL (OneB b5) (allS) (.take 0 (.take 1 (.take 2 (.take 3 (.take 4 (.take 5 (.take 6 (.take 7 (.take 8 (.eff 9 (.take 10 (.last 11)))))))))))) mixed (by kernel_rfl) (fun _ _ _ _ _ h => h) (fun w8 l8 => ?_)
       refine xt_v rfl v_move ?_
       refine xt_v rfl v_move ?_
       refine xt_v rfl v_move ?_
       refine xt_v rfl (v_indexF k (by decide) rfl (by omega) hk1) ?_
       refine xt_v rfl (v_indexAF (m := 2) rfl (by decide) (by decide) (by decide) hk1) ?_
       refine xt_Ld rfl ?_
       refine xt_v rfl (v_rem (by decide)) ?_
       refine xt_v rfl v_eql ?_
       refine xt_Fa rfl ?_
       refine xt_s rfl (e_store fun w9 l9 k9 => ?_)
       refine xt_Fa rfl ?_
       refine xt_lastS rfl (e_store fun w10 l10 k10 => ?_)
       refine x_regionL ?_
       refine xl_v v_move ?_
       have hge : sB ≤ (w10).heap.size := by rw [hsB]; exact Ge.le
       obtain ⟨z, hz5, hz1, hz2, hz3⟩ : ∃ z : LAct, (w10).heap[b5]? = some (.cells (actC z).toArray 42 (0, 0)) ∧ RowP w10 z.A (ints z.a.list) ∧ (z.A.isSome = true ∨ z.a.list.length = 0) ∧ (∀ a, z.A = some a → sB ≤ a.block ∧ a.block < (w10).heap.size) := by
        first
        | exact ⟨grownA z0 li L e, hb5, hz0.1, hz0.2.1, hz0.2.2⟩
        | exact ⟨⟨⟨_, _, _, _, _, _, _, []⟩, none, 0⟩, Blk.eq, (fun j v hv => by simp [ints] at hv), .inr rfl, fun a ha => by cases ha⟩
       haveI kz5 : Blk w10 b5 _ := ⟨hz5⟩
       have hL := (hFk w10 kpc).snoc hz1 hz2
       have hFz : ∀ j, (F j ∨ blkA z.A = some j) → j < (w10).heap.size := fun j e => e.elim (fun e => Nat.lt_of_lt_of_le (hsB ▸ hFl j e) hge) (fun e => by
        obtain ⟨a, ha, rfl⟩ := Option.map_eq_some_iff.1 e
        exact (hz3 a ha).2)
       have hCz : ∀ a, C = some a → ¬ (F a.block ∨ blkA z.A = some a.block) := fun a ha e => e.elim (hCF a ha) (fun e => by
        obtain ⟨a2, ha2, e2⟩ := Option.map_eq_some_iff.1 e
        have h1 := hCl a ha
        have h2 := (hz3 a2 ha2).1
        omega)
       refine xl_La ?_
       refine xl_e (e_buildSlice1 rfl fun b9 w11 n9 l9 k9 => ?_)
       have hL8 := hL.keep l9.keep (fun _ _ e => e.elim)
       have hsz9 := l9.keep.size
       refine xl_e (e_app (by rfl) (by decide) (by omega) (by omega) (by first | exact Ge.le | omega) fun C9 d9 w12 o10 l10 a10 f10 => ?_)
       have hL9 := hL8.keep l10.keep (notOwn hCz)
       have hF9 : ∀ j, (F j ∨ blkA z.A = some j) → j < (w12).heap.size := fun j e => by have h1 := hFz j e; have h2 := l10.keep.size; omega
       have hC9 : ∀ a, C9 = some a → ¬ (F a.block ∨ blkA z.A = some a.block) := fun a ha e => by
        rcases f10.or a ha with ⟨a2, ha2, e2⟩ | e2
        ·exact hCz a2 ha2 (e2 ▸ e)
        ·have h1 := hFz _ e; omega
       refine xl_v v_assign ?_
       refine xl_nil ?_
       refine x_regionL ?_
       refine xl_v v_move ?_
       refine xl_v (v_add (by omega)) ?_
       refine xl_v v_assign ?_
       refine xl_nil ?_
       refine ⟨_, ?_, rfl, k + 1, ys ++ [z], C9, d9, q + 1, _, rfl, by omega, by simp [hyl], by omega, hL9, hF9, hC9, ⟨by rw [List.flatMap_append]; exact (OwnI.own : World.ownsRow w12 _ _ _ (.slice C9 _ d9) _ _)⟩, inferInstance, inferInstance, inferInstance, evc, lkc⟩
       omega
      ·
       refine x_seq ?_
       refine x_regionL ?_
       refine xl_v v_eql ?_
       refine xl_v v_assign ?_
       refine xl_nil ?_
       first | refine x_condP (fun c6 => ?_) (fun c6 => ?_) | refine x_condN (fun c6 => ?_) (fun c6 => ?_) | refine x_condE (fun c6 => ?_) (fun c6 => ?_)
       ·
        refine x_seq ?_
        refine x_regionL ?_
        refine xl_v v_move ?_
        refine xl_Fa ?_
        refine xl_s (e_store fun w13 l13 k13 => ?_)
        refine xl_nil ?_
        refine x_seq ?_
        refine x_regionL ?_
        refine xl_v v_assign ?_
        refine xl_nil ?_
        refine x_block ?_
        obtain ⟨z0, hz05⟩ : ∃ z0 : Ct.Act, (w13).heap[b5]? = some (.cells (actC (grownA z0 [] none 0)).toArray 42 (0, 0)) := ⟨⟨_, _, _, _, _, _, _, []⟩, Blk.eq⟩
        refine x_loop (fun m τ ds w' => ds = [] ∧ ∃ (j : Nat) (li : List Int) (L : Option Addr) (e : Nat), m = 4 - j ∧ j ≤ 4 ∧ li.length ≤ j ∧ OwnI w' L li.length e (w2).heap.size 3 1 li.length (ints li) ∧ NewA L w2 ∧ w'.heap[b5]? = some (.cells (actC (grownA z0 li L e)).toArray 42 (0, 0)) ∧ ApB L b5 ∧ Ev τ 0 (.slice A n c) ∧ Ev τ 3 (.slice C q d) ∧ Ev τ 4 (.int .i64 (k : Int)) ∧ Ev τ 5 (.pointer (some ⟨b5, 0, none⟩)) ∧ Ev τ 7 (.int .i64 (j : Int)) ∧ Lk w' w2 NoB ∧ Lk w' w NoB) (4) ?start ?round
        case start =>
         exact ⟨rfl, 0, [], none, 0, rfl, Nat.zero_le _, Nat.le_refl _, ⟨World.ownsRow_nil _ _ _ _⟩, newA_none _, hz05, ⟨fun a ha => by cases ha⟩, inferInstance, inferInstance, inferInstance, inferInstance, evc, lkc, lkc⟩
        case round =>
         intro m τ14 ds14 w14 hI
         clear e0 e3 e4
         obtain ⟨rfl, j, li, L, e, rfl, hj, hlj, oL, nL, hb5, apL, e0, e3, e4, e5, e7, lkB, lkw⟩ := hI
         haveI kb5 : Blk w14 b5 _ := ⟨hb5⟩
         have hgl : (grownA z0 li L e).a.list.length = li.length := rfl
         have hz0 : RowP w14 L (ints li) ∧ (L.isSome = true ∨ li.length = 0) ∧ ∀ a, L = some a → sB ≤ a.block ∧ a.block < (w14).heap.size := ⟨Row.row, own_isSome oL.own, hsB ▸ own_lies oL.own⟩
         refine x_seq ?_
         refine x_seq ?_
         refine x_regionL ?_
         refine xl_v v_move ?_
         refine xl_v v_lss ?_
         refine xl_nil ?_
         first | refine x_condP (fun c7 => ?_) (fun c7 => ?_) | refine x_condN (fun c7 => ?_) (fun c7 => ?_) | refine x_condE (fun c7 => ?_) (fun c7 => ?_)
         ·
          refine x_skip ?_
          refine x_seq ?_
          refine x_block ?_
          refine x_seq ?_
          refine x_regionL ?_
          refine xl_v v_move ?_
          refine xl_v v_move ?_
          refine xl_v (v_indexF k (by decide) rfl (by omega) hk1) ?_
          refine xl_v (v_indexAF (m := 2) rfl (by decide) (by decide) (by decide) hk1) ?_
          refine xl_Ld ?_
          refine xl_v v_move ?_
          refine xl_v (v_convert) ?_
          refine xl_v (v_shr (Int.emod_nonneg _ (by decide))) ?_
          refine xl_v (v_and) ?_
          refine xl_v v_neq ?_
          refine xl_nil ?_
          first | refine x_condP (fun c8 => ?_) (fun c8 => ?_) | refine x_condN (fun c8 => ?_) (fun c8 => ?_) | refine x_condE (fun c8 => ?_) (fun c8 => ?_)
          ·
           refine x_regionL ?_
           refine xl_Fa ?_
           refine xl_Ld ?_
           refine xl_v v_move ?_
           refine xl_e (e_buildSlice1 rfl fun b8 w15 n8 l8 k8 => ?_)
           refine xl_e (e_app (by omega) (by decide) (by omega) (by omega) (by first | exact Ge.le | omega) fun L2 x2 w16 o9 l9 nL2 f9 => ?_)
           obtain ⟨li2, hli2⟩ : ∃ li2, li2 = li ++ [(j : Int)] := ⟨_, rfl⟩
           have hll : li2.length = li.length + 1 := by rw [hli2]; simp
           haveI apL2 : ApB L2 b5 := ⟨fun a ha e => by
            rcases f9.or a ha with ⟨a2, ha2, e2⟩ | e2
            ·exact apL.ne a2 ha2 (by rw [← e2, e])
            ·have h1 : b5 < _ := (Array.getElem?_eq_some_iff.1 hb5).1
             have h2 := l8.keep.size
             omega⟩
           refine xl_Fa ?_
           refine xl_s (e_store fun w17 l17 k17 => ?_)
           have ho2 : World.ownsRow w17 sB 3 1 (.slice L2 li2.length x2) li2.length (ints li2) := by rw [hll, hli2, ints_append, hsB]; exact (OwnI.own : World.ownsRow w17 _ _ _ (.slice L2 _ x2) _ _)
           have hb52 : (w17).heap[b5]? = some (.cells (actC (grownA z0 li2 L2 x2)).toArray 42 (0, 0)) := by show _ = some (Obj.cells #[_, _, _, _, _, _, _, .slice L2 li2.length x2] _ _); rw [hll]; exact Blk.eq
           refine xl_nil ?_
           refine x_regionL ?_
           refine xl_v v_move ?_
           refine xl_v (v_add (by omega)) ?_
           refine xl_v v_assign ?_
           refine xl_nil ?_
           refine ⟨_, ?_, rfl, j + 1, li2, L2, x2, rfl, by omega, by omega, ⟨hsB ▸ ho2⟩, nL2, hb52, apL2, inferInstance, inferInstance, inferInstance, inferInstance, evc, lkc, lkc⟩
           omega
          ·
           obtain ⟨li2, L2, x2, hli2, hL2, hx2⟩ : ∃ li2 L2 x2, li2 = li ∧ L2 = L ∧ x2 = e := ⟨_, _, _, rfl, rfl, rfl⟩
           have hlj2 : li2.length ≤ j + 1 := by rw [hli2]; omega
           have ho2 : World.ownsRow w14 sB 3 1 (.slice L2 li2.length x2) li2.length (ints li2) := by rw [hli2, hL2, hx2, hsB]; exact oL.own
           haveI nL2 : NewA L2 _ := by rw [hL2]; exact nL
           have hb52 : (w14).heap[b5]? = some (.cells (actC (grownA z0 li2 L2 x2)).toArray 42 (0, 0)) := by rw [hli2, hL2, hx2]; exact hb5
           haveI apL2 : ApB L2 b5 := by rw [hL2]; exact apL
           refine x_skip ?_
           refine x_regionL ?_
           refine xl_v v_move ?_
           refine xl_v (v_add (by omega)) ?_
           refine xl_v v_assign ?_
           refine xl_nil ?_
           refine ⟨_, ?_, rfl, j + 1, li2, L2, x2, rfl, by omega, by omega, ⟨hsB ▸ ho2⟩, nL2, hb52, apL2, inferInstance, inferInstance, inferInstance, inferInstance, evc, lkc, lkc⟩
           omega
         ·
          refine x_exit ?_
          refine x_regionL ?_
          refine xl_v v_move ?_
          have hge : sB ≤ (w14).heap.size := by rw [hsB]; exact Ge.le
          obtain ⟨z, hz5, hz1, hz2, hz3⟩ : ∃ z : LAct, (w14).heap[b5]? = some (.cells (actC z).toArray 42 (0, 0)) ∧ RowP w14 z.A (ints z.a.list) ∧ (z.A.isSome = true ∨ z.a.list.length = 0) ∧ (∀ a, z.A = some a → sB ≤ a.block ∧ a.block < (w14).heap.size) := by
           first
           | exact ⟨grownA z0 li L e, hb5, hz0.1, hz0.2.1, hz0.2.2⟩
           | exact ⟨⟨⟨_, _, _, _, _, _, _, []⟩, none, 0⟩, Blk.eq, (fun j v hv => by simp [ints] at hv), .inr rfl, fun a ha => by cases ha⟩
          haveI kz5 : Blk w14 b5 _ := ⟨hz5⟩
          have hL := (hFk w14 kpc).snoc hz1 hz2
          have hFz : ∀ j, (F j ∨ blkA z.A = some j) → j < (w14).heap.size := fun j e => e.elim (fun e => Nat.lt_of_lt_of_le (hsB ▸ hFl j e) hge) (fun e => by
           obtain ⟨a, ha, rfl⟩ := Option.map_eq_some_iff.1 e
           exact (hz3 a ha).2)
          have hCz : ∀ a, C = some a → ¬ (F a.block ∨ blkA z.A = some a.block) := fun a ha e => e.elim (hCF a ha) (fun e => by
           obtain ⟨a2, ha2, e2⟩ := Option.map_eq_some_iff.1 e
           have h1 := hCl a ha
           have h2 := (hz3 a2 ha2).1
           omega)
          refine xl_La ?_
          refine xl_e (e_buildSlice1 rfl fun b9 w18 n9 l9 k9 => ?_)
          have hL8 := hL.keep l9.keep (fun _ _ e => e.elim)
          have hsz9 := l9.keep.size
          refine xl_e (e_app (by rfl) (by decide) (by omega) (by omega) (by first | exact Ge.le | omega) fun C9 d9 w19 o10 l10 a10 f10 => ?_)
          have hL9 := hL8.keep l10.keep (notOwn hCz)
          have hF9 : ∀ j, (F j ∨ blkA z.A = some j) → j < (w19).heap.size := fun j e => by have h1 := hFz j e; have h2 := l10.keep.size; omega
          have hC9 : ∀ a, C9 = some a → ¬ (F a.block ∨ blkA z.A = some a.block) := fun a ha e => by
           rcases f10.or a ha with ⟨a2, ha2, e2⟩ | e2
           ·exact hCz a2 ha2 (e2 ▸ e)
           ·have h1 := hFz _ e; omega
          refine xl_v v_assign ?_
          refine xl_nil ?_
          refine x_regionL ?_
          refine xl_v v_move ?_
          refine xl_v (v_add (by omega)) ?_
          refine xl_v v_assign ?_
          refine xl_nil ?_
          refine ⟨_, ?_, rfl, k + 1, ys ++ [z], C9, d9, q + 1, _, rfl, by omega, by simp [hyl], by omega, hL9, hF9, hC9, ⟨by rw [List.flatMap_append]; exact (OwnI.own : World.ownsRow w19 _ _ _ (.slice C9 _ d9) _ _)⟩, inferInstance, inferInstance, inferInstance, evc, lkc⟩
          omega
       ·
        refine x_skip ?_
        refine x_regionL ?_
        refine xl_v v_move ?_
        have hge : sB ≤ (w4).heap.size := by rw [hsB]; exact Ge.le
        obtain ⟨z, hz5, hz1, hz2, hz3⟩ : ∃ z : LAct, (w4).heap[b5]? = some (.cells (actC z).toArray 42 (0, 0)) ∧ RowP w4 z.A (ints z.a.list) ∧ (z.A.isSome = true ∨ z.a.list.length = 0) ∧ (∀ a, z.A = some a → sB ≤ a.block ∧ a.block < (w4).heap.size) := by
         first
         | exact ⟨grownA z0 li L e, hb5, hz0.1, hz0.2.1, hz0.2.2⟩
         | exact ⟨⟨⟨_, _, _, _, _, _, _, []⟩, none, 0⟩, Blk.eq, (fun j v hv => by simp [ints] at hv), .inr rfl, fun a ha => by cases ha⟩
        haveI kz5 : Blk w4 b5 _ := ⟨hz5⟩
        have hL := (hFk w4 kpc).snoc hz1 hz2
        have hFz : ∀ j, (F j ∨ blkA z.A = some j) → j < (w4).heap.size := fun j e => e.elim (fun e => Nat.lt_of_lt_of_le (hsB ▸ hFl j e) hge) (fun e => by
         obtain ⟨a, ha, rfl⟩ := Option.map_eq_some_iff.1 e
         exact (hz3 a ha).2)
        have hCz : ∀ a, C = some a → ¬ (F a.block ∨ blkA z.A = some a.block) := fun a ha e => e.elim (hCF a ha) (fun e => by
         obtain ⟨a2, ha2, e2⟩ := Option.map_eq_some_iff.1 e
         have h1 := hCl a ha
         have h2 := (hz3 a2 ha2).1
         omega)
        refine xl_La ?_
        refine xl_e (e_buildSlice1 rfl fun b9 w20 n9 l9 k9 => ?_)
        have hL8 := hL.keep l9.keep (fun _ _ e => e.elim)
        have hsz9 := l9.keep.size
        refine xl_e (e_app (by rfl) (by decide) (by omega) (by omega) (by first | exact Ge.le | omega) fun C9 d9 w21 o10 l10 a10 f10 => ?_)
        have hL9 := hL8.keep l10.keep (notOwn hCz)
        have hF9 : ∀ j, (F j ∨ blkA z.A = some j) → j < (w21).heap.size := fun j e => by have h1 := hFz j e; have h2 := l10.keep.size; omega
        have hC9 : ∀ a, C9 = some a → ¬ (F a.block ∨ blkA z.A = some a.block) := fun a ha e => by
         rcases f10.or a ha with ⟨a2, ha2, e2⟩ | e2
         ·exact hCz a2 ha2 (e2 ▸ e)
         ·have h1 := hFz _ e; omega
        refine xl_v v_assign ?_
        refine xl_nil ?_
        refine x_regionL ?_
        refine xl_v v_move ?_
        refine xl_v (v_add (by omega)) ?_
        refine xl_v v_assign ?_
        refine xl_nil ?_
        refine ⟨_, ?_, rfl, k + 1, ys ++ [z], C9, d9, q + 1, _, rfl, by omega, by simp [hyl], by omega, hL9, hF9, hC9, ⟨by rw [List.flatMap_append]; exact (OwnI.own : World.ownsRow w21 _ _ _ (.slice C9 _ d9) _ _)⟩, inferInstance, inferInstance, inferInstance, evc, lkc⟩
        omega
    ·
     refine x_regionL ?_
     refine xl_v v_eql ?_
     refine xl_v v_assign ?_
     refine xl_nil ?_
     first | refine x_condP (fun c4 => ?_) (fun c4 => ?_) | refine x_condN (fun c4 => ?_) (fun c4 => ?_) | refine x_condE (fun c4 => ?_) (fun c4 => ?_)
     ·
      refine x_regionL ?_
      refine xl_v v_move ?_
      refine xl_Fa ?_
      refine xl_s (e_store fun w22 l22 k22 => ?_)
      refine xl_nil ?_
      refine x_regionL ?_
      refine xl_v v_move ?_
      have hge : sB ≤ (w22).heap.size := by rw [hsB]; exact Ge.le
      obtain ⟨z, hz5, hz1, hz2, hz3⟩ : ∃ z : LAct, (w22).heap[b5]? = some (.cells (actC z).toArray 42 (0, 0)) ∧ RowP w22 z.A (ints z.a.list) ∧ (z.A.isSome = true ∨ z.a.list.length = 0) ∧ (∀ a, z.A = some a → sB ≤ a.block ∧ a.block < (w22).heap.size) := by
       first
       | exact ⟨grownA z0 li L e, hb5, hz0.1, hz0.2.1, hz0.2.2⟩
       | exact ⟨⟨⟨_, _, _, _, _, _, _, []⟩, none, 0⟩, Blk.eq, (fun j v hv => by simp [ints] at hv), .inr rfl, fun a ha => by cases ha⟩
      haveI kz5 : Blk w22 b5 _ := ⟨hz5⟩
      have hL := (hFk w22 kpc).snoc hz1 hz2
      have hFz : ∀ j, (F j ∨ blkA z.A = some j) → j < (w22).heap.size := fun j e => e.elim (fun e => Nat.lt_of_lt_of_le (hsB ▸ hFl j e) hge) (fun e => by
       obtain ⟨a, ha, rfl⟩ := Option.map_eq_some_iff.1 e
       exact (hz3 a ha).2)
      have hCz : ∀ a, C = some a → ¬ (F a.block ∨ blkA z.A = some a.block) := fun a ha e => e.elim (hCF a ha) (fun e => by
       obtain ⟨a2, ha2, e2⟩ := Option.map_eq_some_iff.1 e
       have h1 := hCl a ha
       have h2 := (hz3 a2 ha2).1
       omega)
      refine xl_La ?_
      refine xl_e (e_buildSlice1 rfl fun b9 w23 n9 l9 k9 => ?_)
      have hL8 := hL.keep l9.keep (fun _ _ e => e.elim)
      have hsz9 := l9.keep.size
      refine xl_e (e_app (by rfl) (by decide) (by omega) (by omega) (by first | exact Ge.le | omega) fun C9 d9 w24 o10 l10 a10 f10 => ?_)
      have hL9 := hL8.keep l10.keep (notOwn hCz)
      have hF9 : ∀ j, (F j ∨ blkA z.A = some j) → j < (w24).heap.size := fun j e => by have h1 := hFz j e; have h2 := l10.keep.size; omega
      have hC9 : ∀ a, C9 = some a → ¬ (F a.block ∨ blkA z.A = some a.block) := fun a ha e => by
       rcases f10.or a ha with ⟨a2, ha2, e2⟩ | e2
       ·exact hCz a2 ha2 (e2 ▸ e)
       ·have h1 := hFz _ e; omega
      refine xl_v v_assign ?_
      refine xl_nil ?_
      refine x_regionL ?_
      refine xl_v v_move ?_
      refine xl_v (v_add (by omega)) ?_
      refine xl_v v_assign ?_
      refine xl_nil ?_
      refine ⟨_, ?_, rfl, k + 1, ys ++ [z], C9, d9, q + 1, _, rfl, by omega, by simp [hyl], by omega, hL9, hF9, hC9, ⟨by rw [List.flatMap_append]; exact (OwnI.own : World.ownsRow w24 _ _ _ (.slice C9 _ d9) _ _)⟩, inferInstance, inferInstance, inferInstance, evc, lkc⟩
      omega
     ·
      refine x_seq ?_
      refine x_regionL ?_
      refine xl_v v_eql ?_
      refine xl_v v_assign ?_
      refine xl_nil ?_
      first | refine x_condP (fun c5 => ?_) (fun c5 => ?_) | refine x_condN (fun c5 => ?_) (fun c5 => ?_) | refine x_condE (fun c5 => ?_) (fun c5 => ?_)
      ·
       refine x_drawL (OneB b5) (allS) (.take 0 (.take 1 (.take 2 (.take 3 (.take 4 (.take 5 (.take 6 (.take 7 (.take 8 (.eff 9 (.take 10 (.last 11)))))))))))) mixed (by kernel_rfl) (fun _ _ _ _ _ h => h) (fun w25 l25 => ?_)
       refine xt_v rfl v_move ?_
       refine xt_v rfl v_move ?_
       refine xt_v rfl v_move ?_
       refine xt_v rfl (v_indexF k (by decide) rfl (by omega) hk1) ?_
       refine xt_v rfl (v_indexAF (m := 2) rfl (by decide) (by decide) (by decide) hk1) ?_
       refine xt_Ld rfl ?_
       refine xt_v rfl (v_rem (by decide)) ?_
       refine xt_v rfl v_eql ?_
       refine xt_Fa rfl ?_
       refine xt_s rfl (e_store fun w26 l26 k26 => ?_)
       refine xt_Fa rfl ?_
       refine xt_lastS rfl (e_store fun w27 l27 k27 => ?_)
       refine x_regionL ?_
       refine xl_v v_move ?_
       have hge : sB ≤ (w27).heap.size := by rw [hsB]; exact Ge.le
       obtain ⟨z, hz5, hz1, hz2, hz3⟩ : ∃ z : LAct, (w27).heap[b5]? = some (.cells (actC z).toArray 42 (0, 0)) ∧ RowP w27 z.A (ints z.a.list) ∧ (z.A.isSome = true ∨ z.a.list.length = 0) ∧ (∀ a, z.A = some a → sB ≤ a.block ∧ a.block < (w27).heap.size) := by
        first
        | exact ⟨grownA z0 li L e, hb5, hz0.1, hz0.2.1, hz0.2.2⟩
        | exact ⟨⟨⟨_, _, _, _, _, _, _, []⟩, none, 0⟩, Blk.eq, (fun j v hv => by simp [ints] at hv), .inr rfl, fun a ha => by cases ha⟩
       haveI kz5 : Blk w27 b5 _ := ⟨hz5⟩
       have hL := (hFk w27 kpc).snoc hz1 hz2
       have hFz : ∀ j, (F j ∨ blkA z.A = some j) → j < (w27).heap.size := fun j e => e.elim (fun e => Nat.lt_of_lt_of_le (hsB ▸ hFl j e) hge) (fun e => by
        obtain ⟨a, ha, rfl⟩ := Option.map_eq_some_iff.1 e
        exact (hz3 a ha).2)
       have hCz : ∀ a, C = some a → ¬ (F a.block ∨ blkA z.A = some a.block) := fun a ha e => e.elim (hCF a ha) (fun e => by
        obtain ⟨a2, ha2, e2⟩ := Option.map_eq_some_iff.1 e
        have h1 := hCl a ha
        have h2 := (hz3 a2 ha2).1
        omega)
       refine xl_La ?_
       refine xl_e (e_buildSlice1 rfl fun b9 w28 n9 l9 k9 => ?_)
       have hL8 := hL.keep l9.keep (fun _ _ e => e.elim)
       have hsz9 := l9.keep.size
       refine xl_e (e_app (by rfl) (by decide) (by omega) (by omega) (by first | exact Ge.le | omega) fun C9 d9 w29 o10 l10 a10 f10 => ?_)
       have hL9 := hL8.keep l10.keep (notOwn hCz)
       have hF9 : ∀ j, (F j ∨ blkA z.A = some j) → j < (w29).heap.size := fun j e => by have h1 := hFz j e; have h2 := l10.keep.size; omega
       have hC9 : ∀ a, C9 = some a → ¬ (F a.block ∨ blkA z.A = some a.block) := fun a ha e => by
        rcases f10.or a ha with ⟨a2, ha2, e2⟩ | e2
        ·exact hCz a2 ha2 (e2 ▸ e)
        ·have h1 := hFz _ e; omega
       refine xl_v v_assign ?_
       refine xl_nil ?_
       refine x_regionL ?_
       refine xl_v v_move ?_
       refine xl_v (v_add (by omega)) ?_
       refine xl_v v_assign ?_
       refine xl_nil ?_
       refine ⟨_, ?_, rfl, k + 1, ys ++ [z], C9, d9, q + 1, _, rfl, by omega, by simp [hyl], by omega, hL9, hF9, hC9, ⟨by rw [List.flatMap_append]; exact (OwnI.own : World.ownsRow w29 _ _ _ (.slice C9 _ d9) _ _)⟩, inferInstance, inferInstance, inferInstance, evc, lkc⟩
       omega
      ·
       refine x_seq ?_
       refine x_regionL ?_
       refine xl_v v_eql ?_
       refine xl_v v_assign ?_
       refine xl_nil ?_
       first | refine x_condP (fun c6 => ?_) (fun c6 => ?_) | refine x_condN (fun c6 => ?_) (fun c6 => ?_) | refine x_condE (fun c6 => ?_) (fun c6 => ?_)
       ·
        refine x_seq ?_
        refine x_regionL ?_
        refine xl_v v_move ?_
        refine xl_Fa ?_
        refine xl_s (e_store fun w30 l30 k30 => ?_)
        refine xl_nil ?_
        refine x_seq ?_
        refine x_regionL ?_
        refine xl_v v_assign ?_
        refine xl_nil ?_
        refine x_block ?_
        obtain ⟨z0, hz05⟩ : ∃ z0 : Ct.Act, (w30).heap[b5]? = some (.cells (actC (grownA z0 [] none 0)).toArray 42 (0, 0)) := ⟨⟨_, _, _, _, _, _, _, []⟩, Blk.eq⟩
        refine x_loop (fun m τ ds w' => ds = [] ∧ ∃ (j : Nat) (li : List Int) (L : Option Addr) (e : Nat), m = 4 - j ∧ j ≤ 4 ∧ li.length ≤ j ∧ OwnI w' L li.length e (w2).heap.size 3 1 li.length (ints li) ∧ NewA L w2 ∧ w'.heap[b5]? = some (.cells (actC (grownA z0 li L e)).toArray 42 (0, 0)) ∧ ApB L b5 ∧ Ev τ 0 (.slice A n c) ∧ Ev τ 3 (.slice C q d) ∧ Ev τ 4 (.int .i64 (k : Int)) ∧ Ev τ 5 (.pointer (some ⟨b5, 0, none⟩)) ∧ Ev τ 7 (.int .i64 (j : Int)) ∧ Lk w' w2 NoB ∧ Lk w' w NoB) (4) ?start ?round
        case start =>
         exact ⟨rfl, 0, [], none, 0, rfl, Nat.zero_le _, Nat.le_refl _, ⟨World.ownsRow_nil _ _ _ _⟩, newA_none _, hz05, ⟨fun a ha => by cases ha⟩, inferInstance, inferInstance, inferInstance, inferInstance, evc, lkc, lkc⟩
        case round =>
         intro m τ31 ds31 w31 hI
         clear e0 e3 e4
         obtain ⟨rfl, j, li, L, e, rfl, hj, hlj, oL, nL, hb5, apL, e0, e3, e4, e5, e7, lkB, lkw⟩ := hI
         haveI kb5 : Blk w31 b5 _ := ⟨hb5⟩
         have hgl : (grownA z0 li L e).a.list.length = li.length := rfl
         have hz0 : RowP w31 L (ints li) ∧ (L.isSome = true ∨ li.length = 0) ∧ ∀ a, L = some a → sB ≤ a.block ∧ a.block < (w31).heap.size := ⟨Row.row, own_isSome oL.own, hsB ▸ own_lies oL.own⟩
         refine x_seq ?_
         refine x_seq ?_
         refine x_regionL ?_
         refine xl_v v_move ?_
         refine xl_v v_lss ?_
         refine xl_nil ?_
         first | refine x_condP (fun c7 => ?_) (fun c7 => ?_) | refine x_condN (fun c7 => ?_) (fun c7 => ?_) | refine x_condE (fun c7 => ?_) (fun c7 => ?_)
         ·
          refine x_skip ?_
          refine x_seq ?_
          refine x_block ?_
          refine x_seq ?_
          refine x_regionL ?_
          refine xl_v v_move ?_
          refine xl_v v_move ?_
          refine xl_v (v_indexF k (by decide) rfl (by omega) hk1) ?_
          refine xl_v (v_indexAF (m := 2) rfl (by decide) (by decide) (by decide) hk1) ?_
          refine xl_Ld ?_
          refine xl_v v_move ?_
          refine xl_v (v_convert) ?_
          refine xl_v (v_shr (Int.emod_nonneg _ (by decide))) ?_
          refine xl_v (v_and) ?_
          refine xl_v v_neq ?_
          refine xl_nil ?_
          first | refine x_condP (fun c8 => ?_) (fun c8 => ?_) | refine x_condN (fun c8 => ?_) (fun c8 => ?_) | refine x_condE (fun c8 => ?_) (fun c8 => ?_)
          ·
           refine x_regionL ?_
           refine xl_Fa ?_
           refine xl_Ld ?_
           refine xl_v v_move ?_
           refine xl_e (e_buildSlice1 rfl fun b8 w32 n8 l8 k8 => ?_)
           refine xl_e (e_app (by omega) (by decide) (by omega) (by omega) (by first | exact Ge.le | omega) fun L2 x2 w33 o9 l9 nL2 f9 => ?_)
           obtain ⟨li2, hli2⟩ : ∃ li2, li2 = li ++ [(j : Int)] := ⟨_, rfl⟩
           have hll : li2.length = li.length + 1 := by rw [hli2]; simp
           haveI apL2 : ApB L2 b5 := ⟨fun a ha e => by
            rcases f9.or a ha with ⟨a2, ha2, e2⟩ | e2
            ·exact apL.ne a2 ha2 (by rw [← e2, e])
            ·have h1 : b5 < _ := (Array.getElem?_eq_some_iff.1 hb5).1
             have h2 := l8.keep.size
             omega⟩
           refine xl_Fa ?_
           refine xl_s (e_store fun w34 l34 k34 => ?_)
           have ho2 : World.ownsRow w34 sB 3 1 (.slice L2 li2.length x2) li2.length (ints li2) := by rw [hll, hli2, ints_append, hsB]; exact (OwnI.own : World.ownsRow w34 _ _ _ (.slice L2 _ x2) _ _)
           have hb52 : (w34).heap[b5]? = some (.cells (actC (grownA z0 li2 L2 x2)).toArray 42 (0, 0)) := by show _ = some (Obj.cells #[_, _, _, _, _, _, _, .slice L2 li2.length x2] _ _); rw [hll]; exact Blk.eq
           refine xl_nil ?_
           refine x_regionL ?_
           refine xl_v v_move ?_
           refine xl_v (v_add (by omega)) ?_
           refine xl_v v_assign ?_
           refine xl_nil ?_
           refine ⟨_, ?_, rfl, j + 1, li2, L2, x2, rfl, by omega, by omega, ⟨hsB ▸ ho2⟩, nL2, hb52, apL2, inferInstance, inferInstance, inferInstance, inferInstance, evc, lkc, lkc⟩
           omega
          ·
           obtain ⟨li2, L2, x2, hli2, hL2, hx2⟩ : ∃ li2 L2 x2, li2 = li ∧ L2 = L ∧ x2 = e := ⟨_, _, _, rfl, rfl, rfl⟩
           have hlj2 : li2.length ≤ j + 1 := by rw [hli2]; omega
           have ho2 : World.ownsRow w31 sB 3 1 (.slice L2 li2.length x2) li2.length (ints li2) := by rw [hli2, hL2, hx2, hsB]; exact oL.own
           haveI nL2 : NewA L2 _ := by rw [hL2]; exact nL
           have hb52 : (w31).heap[b5]? = some (.cells (actC (grownA z0 li2 L2 x2)).toArray 42 (0, 0)) := by rw [hli2, hL2, hx2]; exact hb5
           haveI apL2 : ApB L2 b5 := by rw [hL2]; exact apL
           refine x_skip ?_
           refine x_regionL ?_
           refine xl_v v_move ?_
           refine xl_v (v_add (by omega)) ?_
           refine xl_v v_assign ?_
           refine xl_nil ?_
           refine ⟨_, ?_, rfl, j + 1, li2, L2, x2, rfl, by omega, by omega, ⟨hsB ▸ ho2⟩, nL2, hb52, apL2, inferInstance, inferInstance, inferInstance, inferInstance, evc, lkc, lkc⟩
           omega
         ·
          refine x_exit ?_
          refine x_regionL ?_
          refine xl_v v_move ?_
          have hge : sB ≤ (w31).heap.size := by rw [hsB]; exact Ge.le
          obtain ⟨z, hz5, hz1, hz2, hz3⟩ : ∃ z : LAct, (w31).heap[b5]? = some (.cells (actC z).toArray 42 (0, 0)) ∧ RowP w31 z.A (ints z.a.list) ∧ (z.A.isSome = true ∨ z.a.list.length = 0) ∧ (∀ a, z.A = some a → sB ≤ a.block ∧ a.block < (w31).heap.size) := by
           first
           | exact ⟨grownA z0 li L e, hb5, hz0.1, hz0.2.1, hz0.2.2⟩
           | exact ⟨⟨⟨_, _, _, _, _, _, _, []⟩, none, 0⟩, Blk.eq, (fun j v hv => by simp [ints] at hv), .inr rfl, fun a ha => by cases ha⟩
          haveI kz5 : Blk w31 b5 _ := ⟨hz5⟩
          have hL := (hFk w31 kpc).snoc hz1 hz2
          have hFz : ∀ j, (F j ∨ blkA z.A = some j) → j < (w31).heap.size := fun j e => e.elim (fun e => Nat.lt_of_lt_of_le (hsB ▸ hFl j e) hge) (fun e => by
           obtain ⟨a, ha, rfl⟩ := Option.map_eq_some_iff.1 e
           exact (hz3 a ha).2)
          have hCz : ∀ a, C = some a → ¬ (F a.block ∨ blkA z.A = some a.block) := fun a ha e => e.elim (hCF a ha) (fun e => by
           obtain ⟨a2, ha2, e2⟩ := Option.map_eq_some_iff.1 e
           have h1 := hCl a ha
           have h2 := (hz3 a2 ha2).1
           omega)
          refine xl_La ?_
          refine xl_e (e_buildSlice1 rfl fun b9 w35 n9 l9 k9 => ?_)
          have hL8 := hL.keep l9.keep (fun _ _ e => e.elim)
          have hsz9 := l9.keep.size
          refine xl_e (e_app (by rfl) (by decide) (by omega) (by omega) (by first | exact Ge.le | omega) fun C9 d9 w36 o10 l10 a10 f10 => ?_)
          have hL9 := hL8.keep l10.keep (notOwn hCz)
          have hF9 : ∀ j, (F j ∨ blkA z.A = some j) → j < (w36).heap.size := fun j e => by have h1 := hFz j e; have h2 := l10.keep.size; omega
          have hC9 : ∀ a, C9 = some a → ¬ (F a.block ∨ blkA z.A = some a.block) := fun a ha e => by
           rcases f10.or a ha with ⟨a2, ha2, e2⟩ | e2
           ·exact hCz a2 ha2 (e2 ▸ e)
           ·have h1 := hFz _ e; omega
          refine xl_v v_assign ?_
          refine xl_nil ?_
          refine x_regionL ?_
          refine xl_v v_move ?_
          refine xl_v (v_add (by omega)) ?_
          refine xl_v v_assign ?_
          refine xl_nil ?_
          refine ⟨_, ?_, rfl, k + 1, ys ++ [z], C9, d9, q + 1, _, rfl, by omega, by simp [hyl], by omega, hL9, hF9, hC9, ⟨by rw [List.flatMap_append]; exact (OwnI.own : World.ownsRow w36 _ _ _ (.slice C9 _ d9) _ _)⟩, inferInstance, inferInstance, inferInstance, evc, lkc⟩
          omega
       ·
        refine x_skip ?_
        refine x_regionL ?_
        refine xl_v v_move ?_
        have hge : sB ≤ (w4).heap.size := by rw [hsB]; exact Ge.le
        obtain ⟨z, hz5, hz1, hz2, hz3⟩ : ∃ z : LAct, (w4).heap[b5]? = some (.cells (actC z).toArray 42 (0, 0)) ∧ RowP w4 z.A (ints z.a.list) ∧ (z.A.isSome = true ∨ z.a.list.length = 0) ∧ (∀ a, z.A = some a → sB ≤ a.block ∧ a.block < (w4).heap.size) := by
         first
         | exact ⟨grownA z0 li L e, hb5, hz0.1, hz0.2.1, hz0.2.2⟩
         | exact ⟨⟨⟨_, _, _, _, _, _, _, []⟩, none, 0⟩, Blk.eq, (fun j v hv => by simp [ints] at hv), .inr rfl, fun a ha => by cases ha⟩
        haveI kz5 : Blk w4 b5 _ := ⟨hz5⟩
        have hL := (hFk w4 kpc).snoc hz1 hz2
        have hFz : ∀ j, (F j ∨ blkA z.A = some j) → j < (w4).heap.size := fun j e => e.elim (fun e => Nat.lt_of_lt_of_le (hsB ▸ hFl j e) hge) (fun e => by
         obtain ⟨a, ha, rfl⟩ := Option.map_eq_some_iff.1 e
         exact (hz3 a ha).2)
        have hCz : ∀ a, C = some a → ¬ (F a.block ∨ blkA z.A = some a.block) := fun a ha e => e.elim (hCF a ha) (fun e => by
         obtain ⟨a2, ha2, e2⟩ := Option.map_eq_some_iff.1 e
         have h1 := hCl a ha
         have h2 := (hz3 a2 ha2).1
         omega)
        refine xl_La ?_
        refine xl_e (e_buildSlice1 rfl fun b9 w37 n9 l9 k9 => ?_)
        have hL8 := hL.keep l9.keep (fun _ _ e => e.elim)
        have hsz9 := l9.keep.size
        refine xl_e (e_app (by rfl) (by decide) (by omega) (by omega) (by first | exact Ge.le | omega) fun C9 d9 w38 o10 l10 a10 f10 => ?_)
        have hL9 := hL8.keep l10.keep (notOwn hCz)
        have hF9 : ∀ j, (F j ∨ blkA z.A = some j) → j < (w38).heap.size := fun j e => by have h1 := hFz j e; have h2 := l10.keep.size; omega
        have hC9 : ∀ a, C9 = some a → ¬ (F a.block ∨ blkA z.A = some a.block) := fun a ha e => by
         rcases f10.or a ha with ⟨a2, ha2, e2⟩ | e2
         ·exact hCz a2 ha2 (e2 ▸ e)
         ·have h1 := hFz _ e; omega
        refine xl_v v_assign ?_
        refine xl_nil ?_
        refine x_regionL ?_
        refine xl_v v_move ?_
        refine xl_v (v_add (by omega)) ?_
        refine xl_v v_assign ?_
        refine xl_nil ?_
        refine ⟨_, ?_, rfl, k + 1, ys ++ [z], C9, d9, q + 1, _, rfl, by omega, by simp [hyl], by omega, hL9, hF9, hC9, ⟨by rw [List.flatMap_append]; exact (OwnI.own : World.ownsRow w38 _ _ _ (.slice C9 _ d9) _ _)⟩, inferInstance, inferInstance, inferInstance, evc, lkc⟩
        omega
   ·
    refine x_exit ?_
    refine x_seq ?_
    refine x_regionL ?_
    refine xl_v v_build ?_
    refine xl_v v_move ?_
    refine xl_call (metaPlay_ok 4 1 1 C q d ys w2 (hra := ⟨by haveI : OwnI w2 C _ _ _ _ _ _ _ := ⟨oC.own⟩; exact Row.row⟩) hF.row hF.some hyl) ?_
    rintro _ w39 ⟨rfl, lk2⟩
    refine xl_v v_assign ?_
    refine xl_nil ?_
    refine x_ret ?_
    refine fin1 rfl ?_
    exact ⟨rfl, lkc⟩
end Go.Proofs.Ytnjpladlfiaojaa
