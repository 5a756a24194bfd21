/-
  Walks, printed by a program of this workplace (wip/tools/sx.py) off the functions' code and a text of contracts.
-/
import Derived.Test.YtacadajlpmhcfaaL
set_option linter.all false
set_option maxRecDepth 100000
set_option synthInstance.maxSize 100000
set_option synthInstance.maxHeartbeats 400000
namespace Go.Proofs.Ytacadajlpmhcfaa
open Go.Wst
open Go.Wst.Nm
/-- The document's net, where it lies. -/
structure RefL where
  most : Int
  came : Nat
  l : List (Int × LMsg)
  A : Option Addr
  c : Nat
def RefL.pure (R : RefL) : Net := ⟨R.most, R.came, R.l.map (fun p => (p.1, p.2.m))⟩
abbrev itemC (p : Int × LMsg) : List Value := [.int .i64 p.1, .int .i64 p.2.m.src, .int .i64 p.2.m.dst, .slice p.2.A p.2.m.bytes.length p.2.c]
instance encN_item : EncN itemC 4 := ⟨fun _ => rfl⟩
abbrev refC (R : RefL) : List Value := [.int .i64 R.most, .slice R.A R.l.length R.c, .int .i64 (R.came : Int)]
structure RefAt (W : World) (F : Nat → Prop) (R : RefL) : Prop where
  row : FRow W F R.A (R.l.flatMap itemC)
  items : ∀ p ∈ R.l, FRow W F p.2.A (bytesC p.2.m.bytes)
  lt : ∀ k, F k → k < W.heap.size
theorem RefAt.keep {W W' : World} {F S : Nat → Prop} {R : RefL} (h : RefAt W F R) (hk : Keep S W W') (hs : ∀ k, F k → ¬ S k) : RefAt W' F R :=
  ⟨h.row.keep hk hs, fun p hp => (h.items p hp).keep hk hs, fun k hk' => Nat.lt_of_lt_of_le (h.lt k hk') hk.size⟩
theorem RefAt.ext {W W' : World} {F : Nat → Prop} {R : RefL} (h : RefAt W F R) (hk : Keep NoB W W') : RefAt W' F R := h.keep hk (fun _ _ h => h)
theorem ref_len (R : RefL) : R.pure.l.length = R.l.length := by simp [RefL.pure]
def RefZ : RefL := ⟨0, 0, [], none, 0⟩
theorem refAt_nil (W : World) (F : Nat → Prop) (hF : ∀ k, F k → k < W.heap.size) (most : Int) : RefAt W F ⟨most, 0, [], none, 0⟩ := ⟨FRow.nil _ _, (by intro p hp; cases hp), hF⟩
/-- waystation/waystationref05.New -/
theorem refnew_ok (most : Int) (w : World) : Ret Try.prog 22 #[.int .i64 most] w (fun v w' => (if 1 ≤ most ∧ most ≤ 4096 then v = .tuple #[.agg (refC ⟨most, 0, [], none, 0⟩).toArray, .int .i64 0] else v = .tuple #[.agg (refC RefZ).toArray, .int .i64 2]) ∧ Lk w' w NoB) := by
  refine ret_of_x (N := 13) (l := [.int .i64 most]) Try.func22 rfl rfl (Nat.le_of_ble_eq_true rfl) ?_
  refine x_seq ?_
  refine x_regionL ?_
  refine xl_e (e_alloc fun b1 w1 n1 l1 k1 => ?_)
  refine xl_v v_assign ?_
  refine xl_nil ?_
  refine x_seq ?_
  refine x_seq ?_
  refine x_regionL ?_
  refine xl_v v_move ?_
  refine xl_v v_lss ?_
  refine xl_v v_move ?_
  refine xl_split 6 (fun g6 => ?_) (fun g6 => ?_)
  ·
    refine xl_gs rfl EvO.eq ?_
    refine xl_gs rfl EvO.eq ?_
    refine xl_v (by first | exact v_pickT | exact v_pickF | exact v_pick) ?_
    refine xl_nil ?_
    refine x_condT ?_
    refine x_seq ?_
    refine x_regionL ?_
    refine xl_v v_build ?_
    refine xl_s (e_storeA fun w2 l2 k2 => ?_)
    refine xl_v v_assign ?_
    refine xl_nil ?_
    refine x_ret ?_
    refine finR (rs := [.cell 2 47, .tmp 3]) rfl ?_
    refine ⟨?_, lkc⟩
    rw [if_neg (by first | (simp at g6; omega) | (simp at c1; omega))]
    rfl
  ·
    refine xl_gv rfl EvO.eq v_move ?_
    refine xl_gv rfl EvO.eq v_gtr ?_
    refine xl_v (by first | exact v_pickT | exact v_pickF | exact v_pick) ?_
    refine xl_nil ?_
    refine x_condE (fun c1 => ?_) (fun c1 => ?_)
    ·
      refine x_seq ?_
      refine x_regionL ?_
      refine xl_v v_build ?_
      refine xl_s (e_storeA fun w3 l3 k3 => ?_)
      refine xl_v v_assign ?_
      refine xl_nil ?_
      refine x_ret ?_
      refine finR (rs := [.cell 2 47, .tmp 3]) rfl ?_
      refine ⟨?_, lkc⟩
      rw [if_neg (by first | (simp at g6; omega) | (simp at c1; omega))]
      rfl
    ·
      refine x_skip ?_
      refine x_seq ?_
      refine x_regionL ?_
      refine xl_v v_move ?_
      refine xl_v v_build ?_
      refine xl_s (e_storeA fun w4 l4 k4 => ?_)
      refine xl_v v_assign ?_
      refine xl_nil ?_
      refine x_ret ?_
      refine finR (rs := [.cell 2 47, .tmp 3]) rfl ?_
      refine ⟨?_, lkc⟩
      rw [if_pos (by simp at g6 c1; omega)]
      rfl
/-- (waystation/waystationref05.Net).Put -/
theorem refput_ok (R : RefL) (F : Nat → Prop) (x : LMsg) (w : World) (h : RefAt w F R) (hok : R.pure.ok) (hc : R.came ≤ 100000000) [hr : Row w x.A (bytesC x.m.bytes)] : Ret Try.prog 23 #[.agg (refC R).toArray, .agg (msgC x).toArray] w (fun v w' => (∃ (R' : RefL) (F' : Nat → Prop), v = .tuple #[.agg (refC R').toArray, .int .i64 (R.pure.putN x.m), .int .i64 (R.pure.putNo x.m)] ∧ R'.pure = R.pure.putM x.m ∧ RefAt w' F' R' ∧ Sub F' F w) ∧ Lk w' w NoB) := by
  haveI hrb : RowB w x.A w (bytesC x.m.bytes) := rowB_of hr.row
  haveI hrR : RowB w R.A w (R.l.flatMap itemC) := rowB_of h.row.row
  have hpl := ref_len R
  have hmm : R.pure.most = R.most := rfl
  have hlen : R.l.length ≤ 4096 := by have h1 := hok.few; have h2 := hok.most; rw [ref_len] at h1; omega
  have stay : ∀ w' no, Lk w' w NoB → R.pure.putNo x.m = no → no ≠ 0 → (∃ (R' : RefL) (F' : Nat → Prop), Value.tuple #[.agg (refC R).toArray, .int .i64 0, .int .i64 no] = .tuple #[.agg (refC R').toArray, .int .i64 (R.pure.putN x.m), .int .i64 (R.pure.putNo x.m)] ∧ R'.pure = R.pure.putM x.m ∧ RefAt w' F' R' ∧ Sub F' F w) ∧ Lk w' w NoB := by
    intro w' no hk hno hne
    exact ⟨⟨R, F, by rw [Net.putN, hno, if_neg hne], by rw [Net.putM, if_neg (by omega)], h.ext hk.keep, Sub.refl _ _⟩, hk⟩
  refine ret_of_x (N := 62) (l := [.agg (refC R).toArray, .agg (msgC x).toArray]) Try.func23 rfl rfl (Nat.le_of_ble_eq_true rfl) ?_
  refine x_seq ?_
  refine x_regionL ?_
  refine xl_e (e_box fun b1 w1 n1 l1 k1 => ?_)
  refine xl_e (e_box fun b2 w2 n2 l2 k2 => ?_)
  refine xl_e (e_alloc fun b3 w3 n3 l3 k3 => ?_)
  refine xl_v v_assign ?_
  refine xl_v v_assign ?_
  refine xl_nil ?_
  refine x_seq ?_
  refine x_seq ?_
  refine x_regionL ?_
  refine xl_v (by first | exact v_fieldAddr | exact v_fieldAddrF (by decide) (by omega) | exact v_fieldAddrR (by first | assumption | rfl)) ?_
  refine xl_v (by first | exact v_load | exact v_loadO (by omega) | exact v_loadFf (by omega) | exact v_loadF0 (by omega)) ?_
  refine xl_v v_lss ?_
  refine xl_v v_move ?_
  refine xl_split 10 (fun g10 => ?_) (fun g10 => ?_)
  ·
    refine xl_gs rfl EvO.eq ?_
    refine xl_gs rfl EvO.eq ?_
    refine xl_gs rfl EvO.eq ?_
    refine xl_v (by first | exact v_pickT | exact v_pickF | exact v_pick) ?_
    refine xl_v v_move ?_
    refine xl_gs rfl EvO.eq ?_
    refine xl_gs rfl EvO.eq ?_
    refine xl_gs rfl EvO.eq ?_
    refine xl_v (by first | exact v_pickT | exact v_pickF | exact v_pick) ?_
    refine xl_v v_move ?_
    refine xl_gs rfl EvO.eq ?_
    refine xl_gs rfl EvO.eq ?_
    refine xl_gs rfl EvO.eq ?_
    refine xl_v (by first | exact v_pickT | exact v_pickF | exact v_pick) ?_
    refine xl_nil ?_
    refine x_condT ?_
    refine x_seq ?_
    refine x_regionL ?_
    refine xl_v (by first | exact v_loadA | exact v_loadF (by decide) (by omega)) ?_
    refine xl_s (e_storeA fun w4 l4 k4 => ?_)
    refine xl_v v_assign ?_
    refine xl_v v_assign ?_
    refine xl_nil ?_
    refine x_ret ?_
    refine finR (rs := [.cell 4 47, .tmp 5, .tmp 6]) rfl ?_
    refine stay _ 2 lkc ?_ (by decide)
    rw [Net.putNo, if_neg]
    rintro ⟨h1, h2⟩
    simp [placeB] at h1 h2
    first
      | (simp at g10; omega)
      | (simp at g15; omega)
      | (simp at g20; omega)
      | (simp at c1; omega)
  ·
    refine xl_gv rfl EvO.eq (by first | exact v_fieldAddr | exact v_fieldAddrF (by decide) (by omega) | exact v_fieldAddrR (by first | assumption | rfl)) ?_
    refine xl_gv rfl EvO.eq (by first | exact v_load | exact v_loadO (by omega) | exact v_loadFf (by omega) | exact v_loadF0 (by omega)) ?_
    refine xl_gv rfl EvO.eq v_gtr ?_
    refine xl_v (by first | exact v_pickT | exact v_pickF | exact v_pick) ?_
    refine xl_v v_move ?_
    refine xl_split 15 (fun g15 => ?_) (fun g15 => ?_)
    ·
      refine xl_gs rfl EvO.eq ?_
      refine xl_gs rfl EvO.eq ?_
      refine xl_gs rfl EvO.eq ?_
      refine xl_v (by first | exact v_pickT | exact v_pickF | exact v_pick) ?_
      refine xl_v v_move ?_
      refine xl_gs rfl EvO.eq ?_
      refine xl_gs rfl EvO.eq ?_
      refine xl_gs rfl EvO.eq ?_
      refine xl_v (by first | exact v_pickT | exact v_pickF | exact v_pick) ?_
      refine xl_nil ?_
      refine x_condT ?_
      refine x_seq ?_
      refine x_regionL ?_
      refine xl_v (by first | exact v_loadA | exact v_loadF (by decide) (by omega)) ?_
      refine xl_s (e_storeA fun w5 l5 k5 => ?_)
      refine xl_v v_assign ?_
      refine xl_v v_assign ?_
      refine xl_nil ?_
      refine x_ret ?_
      refine finR (rs := [.cell 4 47, .tmp 5, .tmp 6]) rfl ?_
      refine stay _ 2 lkc ?_ (by decide)
      rw [Net.putNo, if_neg]
      rintro ⟨h1, h2⟩
      simp [placeB] at h1 h2
      first
        | (simp at g10; omega)
        | (simp at g15; omega)
        | (simp at g20; omega)
        | (simp at c1; omega)
    ·
      refine xl_gv rfl EvO.eq (by first | exact v_fieldAddr | exact v_fieldAddrF (by decide) (by omega) | exact v_fieldAddrR (by first | assumption | rfl)) ?_
      refine xl_gv rfl EvO.eq (by first | exact v_load | exact v_loadO (by omega) | exact v_loadFf (by omega) | exact v_loadF0 (by omega)) ?_
      refine xl_gv rfl EvO.eq v_lss ?_
      refine xl_v (by first | exact v_pickT | exact v_pickF | exact v_pick) ?_
      refine xl_v v_move ?_
      refine xl_split 20 (fun g20 => ?_) (fun g20 => ?_)
      ·
        refine xl_gs rfl EvO.eq ?_
        refine xl_gs rfl EvO.eq ?_
        refine xl_gs rfl EvO.eq ?_
        refine xl_v (by first | exact v_pickT | exact v_pickF | exact v_pick) ?_
        refine xl_nil ?_
        refine x_condT ?_
        refine x_seq ?_
        refine x_regionL ?_
        refine xl_v (by first | exact v_loadA | exact v_loadF (by decide) (by omega)) ?_
        refine xl_s (e_storeA fun w6 l6 k6 => ?_)
        refine xl_v v_assign ?_
        refine xl_v v_assign ?_
        refine xl_nil ?_
        refine x_ret ?_
        refine finR (rs := [.cell 4 47, .tmp 5, .tmp 6]) rfl ?_
        refine stay _ 2 lkc ?_ (by decide)
        rw [Net.putNo, if_neg]
        rintro ⟨h1, h2⟩
        simp [placeB] at h1 h2
        first
          | (simp at g10; omega)
          | (simp at g15; omega)
          | (simp at g20; omega)
          | (simp at c1; omega)
      ·
        refine xl_gv rfl EvO.eq (by first | exact v_fieldAddr | exact v_fieldAddrF (by decide) (by omega) | exact v_fieldAddrR (by first | assumption | rfl)) ?_
        refine xl_gv rfl EvO.eq (by first | exact v_load | exact v_loadO (by omega) | exact v_loadFf (by omega) | exact v_loadF0 (by omega)) ?_
        refine xl_gv rfl EvO.eq v_gtr ?_
        refine xl_v (by first | exact v_pickT | exact v_pickF | exact v_pick) ?_
        refine xl_nil ?_
        refine x_condE (fun c1 => ?_) (fun c1 => ?_)
        ·
          refine x_seq ?_
          refine x_regionL ?_
          refine xl_v (by first | exact v_loadA | exact v_loadF (by decide) (by omega)) ?_
          refine xl_s (e_storeA fun w7 l7 k7 => ?_)
          refine xl_v v_assign ?_
          refine xl_v v_assign ?_
          refine xl_nil ?_
          refine x_ret ?_
          refine finR (rs := [.cell 4 47, .tmp 5, .tmp 6]) rfl ?_
          refine stay _ 2 lkc ?_ (by decide)
          rw [Net.putNo, if_neg]
          rintro ⟨h1, h2⟩
          simp [placeB] at h1 h2
          first
            | (simp at g10; omega)
            | (simp at g15; omega)
            | (simp at g20; omega)
            | (simp at c1; omega)
        ·
          have hp : placeB x.m.src = true ∧ placeB x.m.dst = true := by
            simp at g10 g15 g20 c1
            simp [placeB]
            omega
          refine x_skip ?_
          refine x_seq ?_
          refine x_seq ?_
          refine x_regionL ?_
          refine xl_v (by first | exact v_fieldAddr | exact v_fieldAddrF (by decide) (by omega) | exact v_fieldAddrR (by first | assumption | rfl)) ?_
          refine xl_v (by first | exact v_load | exact v_loadO (by omega) | exact v_loadFf (by omega) | exact v_loadF0 (by omega)) ?_
          refine xl_v v_len ?_
          refine xl_v v_gtr ?_
          refine xl_nil ?_
          first | refine x_condP (fun c2 => ?_) (fun c2 => ?_) | refine x_condN (fun c2 => ?_) (fun c2 => ?_) | refine x_condE (fun c2 => ?_) (fun c2 => ?_)
          ·
            refine x_seq ?_
            refine x_regionL ?_
            refine xl_v (by first | exact v_loadA | exact v_loadF (by decide) (by omega)) ?_
            refine xl_s (e_storeA fun w8 l8 k8 => ?_)
            refine xl_v v_assign ?_
            refine xl_v v_assign ?_
            refine xl_nil ?_
            refine x_ret ?_
            refine finR (rs := [.cell 4 47, .tmp 5, .tmp 6]) rfl ?_
            exact stay _ 3 lkc (by rw [Net.putNo, if_pos hp, if_pos (by omega)]) (by decide)
          ·
            refine x_skip ?_
            refine x_seq ?_
            refine x_seq ?_
            refine x_regionL ?_
            refine xl_v (by first | exact v_fieldAddr | exact v_fieldAddrF (by decide) (by omega) | exact v_fieldAddrR (by first | assumption | rfl)) ?_
            refine xl_v (by first | exact v_load | exact v_loadO (by omega) | exact v_loadFf (by omega) | exact v_loadF0 (by omega)) ?_
            refine xl_v v_len ?_
            refine xl_v (by first | exact v_fieldAddr | exact v_fieldAddrF (by decide) (by omega) | exact v_fieldAddrR (by first | assumption | rfl)) ?_
            refine xl_v (by first | exact v_load | exact v_loadO (by omega) | exact v_loadFf (by omega) | exact v_loadF0 (by omega)) ?_
            refine xl_v v_geq ?_
            refine xl_nil ?_
            first | refine x_condP (fun c3 => ?_) (fun c3 => ?_) | refine x_condN (fun c3 => ?_) (fun c3 => ?_) | refine x_condE (fun c3 => ?_) (fun c3 => ?_)
            ·
              refine x_seq ?_
              refine x_regionL ?_
              refine xl_v (by first | exact v_loadA | exact v_loadF (by decide) (by omega)) ?_
              refine xl_s (e_storeA fun w9 l9 k9 => ?_)
              refine xl_v v_assign ?_
              refine xl_v v_assign ?_
              refine xl_nil ?_
              refine x_ret ?_
              refine finR (rs := [.cell 4 47, .tmp 5, .tmp 6]) rfl ?_
              exact stay _ 150 lkc (by rw [Net.putNo, if_pos hp, if_neg (by omega), if_pos (by omega)]) (by decide)
            ·
              have hno : R.pure.putNo x.m = 0 := by rw [Net.putNo, if_pos hp, if_neg (by omega), if_neg (by omega)]
              refine x_skip ?_
              refine x_seq ?_
              refine x_regionL ?_
              refine xl_e (e_buildSlice0 fun b10 w10 n10 l10 k10 => ?_)
              refine xl_v (by first | exact v_fieldAddr | exact v_fieldAddrF (by decide) (by omega) | exact v_fieldAddrR (by first | assumption | rfl)) ?_
              refine xl_v (by first | exact v_load | exact v_loadO (by omega) | exact v_loadFf (by omega) | exact v_loadF0 (by omega)) ?_
              refine xl_e (e_appE (by omega) (by decide) (by omega) (by omega) fun Ab cb w11 ob lb ab fb => ?_)
              refine xl_v (by first | exact v_fieldAddr | exact v_fieldAddrF (by decide) (by omega) | exact v_fieldAddrR (by first | assumption | rfl)) ?_
              refine xl_s (e_store fun w12 l12 k12 => ?_)
              refine xl_nil ?_
              refine x_seq ?_
              refine x_drawL (NewS w12) (.take 1 (.take 2 (.take 4 (.take 5 (.take 6 (.take 7 (.fork 0 (.fork 3 (.eff 8 (.eff 9 (.take 10 (.last 11)))) 8 (.eff 3 (.eff 9 (.take 10 (.last 11))))) 8 (.eff 0 (.eff 3 (.eff 9 (.take 10 (.last 11)))))))))))) mixed (by kernel_rfl) (fun _ _ _ _ _ h => h) (fun w13 l13 => ?_)
              refine xt_v rfl (by first | exact v_fieldAddr | exact v_fieldAddrF (by decide) (by omega) | exact v_fieldAddrR (by first | assumption | rfl)) ?_
              refine xt_v rfl (by first | exact v_load | exact v_loadO (by omega) | exact v_loadFf (by omega) | exact v_loadF0 (by omega)) ?_
              refine xt_v rfl (by first | exact v_fieldAddr | exact v_fieldAddrF (by decide) (by omega) | exact v_fieldAddrR (by first | assumption | rfl)) ?_
              refine xt_v rfl (by first | exact v_load | exact v_loadO (by omega) | exact v_loadFf (by omega) | exact v_loadF0 (by omega)) ?_
              refine xt_v rfl (by first | exact v_loadA | exact v_loadF (by decide) (by omega)) ?_
              refine xt_v rfl v_build ?_
              refine xt_fork ?_ ?_
              ·
                refine xt_e rfl (e_buildSlice0 fun b14 w14 n14 l14 k14 => ?_)
                refine xt_fork ?_ ?_
                ·
                  refine xt_e rfl (e_appE (by omega) (by decide) (by omega) (by omega) fun Ac cc w15 oc lc ac fc => ?_)
                  refine xt_e rfl (e_buildSlice1 rfl fun b16 w16 n16 l16 k16 => ?_)
                  refine xt_e rfl (e_app (by omega) (by decide) (by omega) (by omega) (by first | exact Ge.le | omega) fun Ad cd w17 od ld ad fd => ?_)
                  refine xt_v rfl (by first | exact v_fieldAddr | exact v_fieldAddrF (by decide) (by omega) | exact v_fieldAddrR (by first | assumption | rfl)) ?_
                  refine xt_lastS rfl (e_store fun w18 l18 k18 => ?_)
                  refine x_seq ?_
                  refine x_regionL ?_
                  refine xl_v (by first | exact v_fieldAddr | exact v_fieldAddrF (by decide) (by omega) | exact v_fieldAddrR (by first | assumption | rfl)) ?_
                  refine xl_v (by first | exact v_load | exact v_loadO (by omega) | exact v_loadFf (by omega) | exact v_loadF0 (by omega)) ?_
                  refine xl_v (v_add (by omega)) ?_
                  refine xl_v (by first | exact v_fieldAddr | exact v_fieldAddrF (by decide) (by omega) | exact v_fieldAddrR (by first | assumption | rfl)) ?_
                  refine xl_s (e_store fun w19 l19 k19 => ?_)
                  refine xl_nil ?_
                  refine x_seq ?_
                  refine x_drawL (OneB b3) (.take 0 (.take 1 (.take 2 (.take 3 (.eff 4 (.take 5 (.take 6 .done))))))) mixed (by kernel_rfl) (fun _ _ _ _ _ h => h) (fun w20 l20 => ?_)
                  refine xt_v rfl (by first | exact v_loadA | exact v_loadF (by decide) (by omega)) ?_
                  refine xt_v rfl (by first | exact v_fieldAddr | exact v_fieldAddrF (by decide) (by omega) | exact v_fieldAddrR (by first | assumption | rfl)) ?_
                  refine xt_v rfl (by first | exact v_load | exact v_loadO (by omega) | exact v_loadFf (by omega) | exact v_loadF0 (by omega)) ?_
                  refine xt_v rfl (v_sub (by omega)) ?_
                  refine xt_s rfl (e_storeA fun w21 l21 k21 => ?_)
                  refine xt_v rfl v_assign ?_
                  refine xt_v rfl v_assign ?_
                  refine xt_nil ?_
                  refine x_ret ?_
                  refine finR (rs := [.cell 4 47, .tmp 5, .tmp 6]) rfl ?_
                  have ob' : World.ownsRow w21 _ _ _ (.slice Ab _ cb) _ _ := OwnI.own
                  have od' : World.ownsRow w21 _ _ _ (.slice Ad _ cd) _ _ := OwnI.own
                  have hkp : Keep NoB w w21 := kpc
                  have obl := ownB_lt ob'
                  have odl := ownB_lt od'
                  refine ⟨⟨⟨R.most, R.came + 1, R.l ++ [((R.came : Int), ⟨x.m, Ab, cb⟩)], Ad, cd⟩, fun k => F k ∨ OwnB (.slice Ad (R.l.length + 1) cd) k ∨ OwnB (.slice Ab x.m.bytes.length cb) k, ?_, ?_, ⟨?_, ?_, ?_⟩, ?_⟩, lkc⟩
                  · rw [Net.putN, if_pos hno, hno]
                    have : (R.came : Int) + 1 - 1 = (R.pure.came : Int) := by show _ = (R.came : Int); omega
                    rw [this]
                    simp [outV]
                  · rw [Net.putM, if_pos hno]
                    simp [RefL.pure]
                  · have := FRow.of_own od'
                    exact (by simpa using this.mono (G := fun k => F k ∨ OwnB (.slice Ad (R.l.length + 1) cd) k ∨ OwnB (.slice Ab x.m.bytes.length cb) k) (fun k e => .inr (.inl e)))
                  · intro p hp
                    rcases List.mem_append.1 hp with hp | hp
                    · exact ((h.items p hp).keep hkp (fun _ _ h => h)).mono (fun k e => .inl e)
                    · simp only [List.mem_singleton] at hp
                      subst hp
                      exact (FRow.of_own ob').mono (fun k e => .inr (.inr e))
                  · rintro k (e | e | e)
                    · exact Nat.lt_of_lt_of_le (h.lt k e) hkp.size
                    · exact (odl k e).2
                    · exact (obl k e).2
                  · rintro k (e | e | e)
                    · exact .inl e
                    · exact .inr (Nat.le_trans Ge.le (odl k e).1)
                    · exact .inr (Nat.le_trans Ge.le (obl k e).1)
                ·
                  refine xt_e rfl (e_buildSlice1 rfl fun b22 w22 n22 l22 k22 => ?_)
                  refine xt_e rfl (e_appE (by omega) (by decide) (by omega) (by omega) fun Ac cc w23 oc lc ac fc => ?_)
                  refine xt_e rfl (e_app (by omega) (by decide) (by omega) (by omega) (by first | exact Ge.le | omega) fun Ad cd w24 od ld ad fd => ?_)
                  refine xt_v rfl (by first | exact v_fieldAddr | exact v_fieldAddrF (by decide) (by omega) | exact v_fieldAddrR (by first | assumption | rfl)) ?_
                  refine xt_lastS rfl (e_store fun w25 l25 k25 => ?_)
                  refine x_seq ?_
                  refine x_regionL ?_
                  refine xl_v (by first | exact v_fieldAddr | exact v_fieldAddrF (by decide) (by omega) | exact v_fieldAddrR (by first | assumption | rfl)) ?_
                  refine xl_v (by first | exact v_load | exact v_loadO (by omega) | exact v_loadFf (by omega) | exact v_loadF0 (by omega)) ?_
                  refine xl_v (v_add (by omega)) ?_
                  refine xl_v (by first | exact v_fieldAddr | exact v_fieldAddrF (by decide) (by omega) | exact v_fieldAddrR (by first | assumption | rfl)) ?_
                  refine xl_s (e_store fun w26 l26 k26 => ?_)
                  refine xl_nil ?_
                  refine x_seq ?_
                  refine x_drawL (OneB b3) (.take 0 (.take 1 (.take 2 (.take 3 (.eff 4 (.take 5 (.take 6 .done))))))) mixed (by kernel_rfl) (fun _ _ _ _ _ h => h) (fun w27 l27 => ?_)
                  refine xt_v rfl (by first | exact v_loadA | exact v_loadF (by decide) (by omega)) ?_
                  refine xt_v rfl (by first | exact v_fieldAddr | exact v_fieldAddrF (by decide) (by omega) | exact v_fieldAddrR (by first | assumption | rfl)) ?_
                  refine xt_v rfl (by first | exact v_load | exact v_loadO (by omega) | exact v_loadFf (by omega) | exact v_loadF0 (by omega)) ?_
                  refine xt_v rfl (v_sub (by omega)) ?_
                  refine xt_s rfl (e_storeA fun w28 l28 k28 => ?_)
                  refine xt_v rfl v_assign ?_
                  refine xt_v rfl v_assign ?_
                  refine xt_nil ?_
                  refine x_ret ?_
                  refine finR (rs := [.cell 4 47, .tmp 5, .tmp 6]) rfl ?_
                  have ob' : World.ownsRow w28 _ _ _ (.slice Ab _ cb) _ _ := OwnI.own
                  have od' : World.ownsRow w28 _ _ _ (.slice Ad _ cd) _ _ := OwnI.own
                  have hkp : Keep NoB w w28 := kpc
                  have obl := ownB_lt ob'
                  have odl := ownB_lt od'
                  refine ⟨⟨⟨R.most, R.came + 1, R.l ++ [((R.came : Int), ⟨x.m, Ab, cb⟩)], Ad, cd⟩, fun k => F k ∨ OwnB (.slice Ad (R.l.length + 1) cd) k ∨ OwnB (.slice Ab x.m.bytes.length cb) k, ?_, ?_, ⟨?_, ?_, ?_⟩, ?_⟩, lkc⟩
                  · rw [Net.putN, if_pos hno, hno]
                    have : (R.came : Int) + 1 - 1 = (R.pure.came : Int) := by show _ = (R.came : Int); omega
                    rw [this]
                    simp [outV]
                  · rw [Net.putM, if_pos hno]
                    simp [RefL.pure]
                  · have := FRow.of_own od'
                    exact (by simpa using this.mono (G := fun k => F k ∨ OwnB (.slice Ad (R.l.length + 1) cd) k ∨ OwnB (.slice Ab x.m.bytes.length cb) k) (fun k e => .inr (.inl e)))
                  · intro p hp
                    rcases List.mem_append.1 hp with hp | hp
                    · exact ((h.items p hp).keep hkp (fun _ _ h => h)).mono (fun k e => .inl e)
                    · simp only [List.mem_singleton] at hp
                      subst hp
                      exact (FRow.of_own ob').mono (fun k e => .inr (.inr e))
                  · rintro k (e | e | e)
                    · exact Nat.lt_of_lt_of_le (h.lt k e) hkp.size
                    · exact (odl k e).2
                    · exact (obl k e).2
                  · rintro k (e | e | e)
                    · exact .inl e
                    · exact .inr (Nat.le_trans Ge.le (odl k e).1)
                    · exact .inr (Nat.le_trans Ge.le (obl k e).1)
              ·
                refine xt_e rfl (e_buildSlice1 rfl fun b29 w29 n29 l29 k29 => ?_)
                refine xt_e rfl (e_buildSlice0 fun b30 w30 n30 l30 k30 => ?_)
                refine xt_e rfl (e_appE (by omega) (by decide) (by omega) (by omega) fun Ac cc w31 oc lc ac fc => ?_)
                refine xt_e rfl (e_app (by omega) (by decide) (by omega) (by omega) (by first | exact Ge.le | omega) fun Ad cd w32 od ld ad fd => ?_)
                refine xt_v rfl (by first | exact v_fieldAddr | exact v_fieldAddrF (by decide) (by omega) | exact v_fieldAddrR (by first | assumption | rfl)) ?_
                refine xt_lastS rfl (e_store fun w33 l33 k33 => ?_)
                refine x_seq ?_
                refine x_regionL ?_
                refine xl_v (by first | exact v_fieldAddr | exact v_fieldAddrF (by decide) (by omega) | exact v_fieldAddrR (by first | assumption | rfl)) ?_
                refine xl_v (by first | exact v_load | exact v_loadO (by omega) | exact v_loadFf (by omega) | exact v_loadF0 (by omega)) ?_
                refine xl_v (v_add (by omega)) ?_
                refine xl_v (by first | exact v_fieldAddr | exact v_fieldAddrF (by decide) (by omega) | exact v_fieldAddrR (by first | assumption | rfl)) ?_
                refine xl_s (e_store fun w34 l34 k34 => ?_)
                refine xl_nil ?_
                refine x_seq ?_
                refine x_drawL (OneB b3) (.take 0 (.take 1 (.take 2 (.take 3 (.eff 4 (.take 5 (.take 6 .done))))))) mixed (by kernel_rfl) (fun _ _ _ _ _ h => h) (fun w35 l35 => ?_)
                refine xt_v rfl (by first | exact v_loadA | exact v_loadF (by decide) (by omega)) ?_
                refine xt_v rfl (by first | exact v_fieldAddr | exact v_fieldAddrF (by decide) (by omega) | exact v_fieldAddrR (by first | assumption | rfl)) ?_
                refine xt_v rfl (by first | exact v_load | exact v_loadO (by omega) | exact v_loadFf (by omega) | exact v_loadF0 (by omega)) ?_
                refine xt_v rfl (v_sub (by omega)) ?_
                refine xt_s rfl (e_storeA fun w36 l36 k36 => ?_)
                refine xt_v rfl v_assign ?_
                refine xt_v rfl v_assign ?_
                refine xt_nil ?_
                refine x_ret ?_
                refine finR (rs := [.cell 4 47, .tmp 5, .tmp 6]) rfl ?_
                have ob' : World.ownsRow w36 _ _ _ (.slice Ab _ cb) _ _ := OwnI.own
                have od' : World.ownsRow w36 _ _ _ (.slice Ad _ cd) _ _ := OwnI.own
                have hkp : Keep NoB w w36 := kpc
                have obl := ownB_lt ob'
                have odl := ownB_lt od'
                refine ⟨⟨⟨R.most, R.came + 1, R.l ++ [((R.came : Int), ⟨x.m, Ab, cb⟩)], Ad, cd⟩, fun k => F k ∨ OwnB (.slice Ad (R.l.length + 1) cd) k ∨ OwnB (.slice Ab x.m.bytes.length cb) k, ?_, ?_, ⟨?_, ?_, ?_⟩, ?_⟩, lkc⟩
                · rw [Net.putN, if_pos hno, hno]
                  have : (R.came : Int) + 1 - 1 = (R.pure.came : Int) := by show _ = (R.came : Int); omega
                  rw [this]
                  simp [outV]
                · rw [Net.putM, if_pos hno]
                  simp [RefL.pure]
                · have := FRow.of_own od'
                  exact (by simpa using this.mono (G := fun k => F k ∨ OwnB (.slice Ad (R.l.length + 1) cd) k ∨ OwnB (.slice Ab x.m.bytes.length cb) k) (fun k e => .inr (.inl e)))
                · intro p hp
                  rcases List.mem_append.1 hp with hp | hp
                  · exact ((h.items p hp).keep hkp (fun _ _ h => h)).mono (fun k e => .inl e)
                  · simp only [List.mem_singleton] at hp
                    subst hp
                    exact (FRow.of_own ob').mono (fun k e => .inr (.inr e))
                · rintro k (e | e | e)
                  · exact Nat.lt_of_lt_of_le (h.lt k e) hkp.size
                  · exact (odl k e).2
                  · exact (obl k e).2
                · rintro k (e | e | e)
                  · exact .inl e
                  · exact .inr (Nat.le_trans Ge.le (odl k e).1)
                  · exact .inr (Nat.le_trans Ge.le (obl k e).1)
/-- (waystation/waystationref05.Net).Pick -/
theorem refpick_ok (R : RefL) (F : Nat → Prop) (pick : Int) (w : World) (h : RefAt w F R) (hp : In64 pick) (hl : R.l.length ≤ 1000000) : Ret Try.prog 37 #[.agg (refC R).toArray, .int .i64 pick] w (fun v w' => v = .int .i64 (if R.l = [] then -1 else pickI pick R.l.length) ∧ Lk w' w NoB) := by
  refine ret_of_x (N := 23) (l := [.agg (refC R).toArray, .int .i64 pick]) Try.func37 rfl rfl (Nat.le_of_ble_eq_true rfl) ?_
  refine x_seq ?_
  refine x_regionL ?_
  refine xl_e (e_box fun b1 w1 n1 l1 k1 => ?_)
  refine xl_v v_assign ?_
  refine xl_nil ?_
  refine x_seq ?_
  refine x_seq ?_
  refine x_regionL ?_
  refine xl_v (by first | exact v_fieldAddr | exact v_fieldAddrF (by decide) (by omega) | exact v_fieldAddrR (by first | assumption | rfl)) ?_
  refine xl_v (by first | exact v_load | exact v_loadO (by omega) | exact v_loadFf (by omega) | exact v_loadF0 (by omega)) ?_
  refine xl_v v_len ?_
  refine xl_v v_eql ?_
  refine xl_nil ?_
  first | refine x_condP (fun c1 => ?_) (fun c1 => ?_) | refine x_condN (fun c1 => ?_) (fun c1 => ?_) | refine x_condE (fun c1 => ?_) (fun c1 => ?_)
  ·
    refine x_seq ?_
    refine x_regionL ?_
    refine xl_v v_assign ?_
    refine xl_nil ?_
    refine x_ret ?_
    refine fin1 rfl ?_
    exact ⟨by rw [if_pos (List.eq_nil_of_length_eq_zero (by omega))], lkc⟩
  ·
    have hpos : 0 < R.l.length := by omega
    have hb1 : -(R.l.length : Int) < pick.tmod (R.l.length : Int) := Int.lt_tmod_of_pos pick (by omega)
    have hb2 : pick.tmod (R.l.length : Int) < R.l.length := Int.tmod_lt_of_pos pick (by omega)
    refine x_skip ?_
    refine x_seq ?_
    refine x_regionL ?_
    refine xl_v v_move ?_
    refine xl_v (by first | exact v_fieldAddr | exact v_fieldAddrF (by decide) (by omega) | exact v_fieldAddrR (by first | assumption | rfl)) ?_
    refine xl_v (by first | exact v_load | exact v_loadO (by omega) | exact v_loadFf (by omega) | exact v_loadF0 (by omega)) ?_
    refine xl_v v_len ?_
    refine xl_v (v_rem (by omega)) ?_
    refine xl_v v_assign ?_
    refine xl_nil ?_
    refine x_seq ?_
    refine x_seq ?_
    refine x_regionL ?_
    refine xl_v v_move ?_
    refine xl_v v_lss ?_
    refine xl_nil ?_
    first | refine x_condP (fun c2 => ?_) (fun c2 => ?_) | refine x_condN (fun c2 => ?_) (fun c2 => ?_) | refine x_condE (fun c2 => ?_) (fun c2 => ?_)
    ·
      refine x_regionL ?_
      refine xl_v v_move ?_
      refine xl_v (by first | exact v_fieldAddr | exact v_fieldAddrF (by decide) (by omega) | exact v_fieldAddrR (by first | assumption | rfl)) ?_
      refine xl_v (by first | exact v_load | exact v_loadO (by omega) | exact v_loadFf (by omega) | exact v_loadF0 (by omega)) ?_
      refine xl_v v_len ?_
      refine xl_v (v_add (by omega)) ?_
      refine xl_v v_assign ?_
      refine xl_nil ?_
      refine x_seq ?_
      refine x_regionL ?_
      refine xl_v v_move ?_
      refine xl_v v_assign ?_
      refine xl_nil ?_
      refine x_ret ?_
      refine fin1 rfl ?_
      refine ⟨?_, lkc⟩
      rw [if_neg (fun e => by rw [e] at hpos; simp at hpos)]
      congr 1
      unfold pickI
      first
        | rw [Int.tmod_eq_of_lt (a := pick.tmod _ + _) (by omega) (by omega)]
        | (have : (pick.tmod (R.l.length : Int) + (R.l.length : Int)).tmod (R.l.length : Int) = pick.tmod (R.l.length : Int) := by
             rw [Int.tmod_eq_emod_of_nonneg (by omega), Int.add_emod_right]
             exact Int.emod_eq_of_lt (by omega) (by omega)
           rw [this])
    ·
      refine x_skip ?_
      refine x_seq ?_
      refine x_regionL ?_
      refine xl_v v_move ?_
      refine xl_v v_assign ?_
      refine xl_nil ?_
      refine x_ret ?_
      refine fin1 rfl ?_
      refine ⟨?_, lkc⟩
      rw [if_neg (fun e => by rw [e] at hpos; simp at hpos)]
      congr 1
      unfold pickI
      first
        | rw [Int.tmod_eq_of_lt (a := pick.tmod _ + _) (by omega) (by omega)]
        | (have : (pick.tmod (R.l.length : Int) + (R.l.length : Int)).tmod (R.l.length : Int) = pick.tmod (R.l.length : Int) := by
             rw [Int.tmod_eq_emod_of_nonneg (by omega), Int.add_emod_right]
             exact Int.emod_eq_of_lt (by omega) (by omega)
           rw [this])
end Go.Proofs.Ytacadajlpmhcfaa
