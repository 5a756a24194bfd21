/-
 Walks, printed by a program of this workplace (wip/tools/sx.py) off the functions' code and a text of contracts.
-/
import Derived.Test.YtnjpladlfiaojaaY
set_option linter.all false
set_option maxRecDepth 100000
set_option synthInstance.maxSize 100000
set_option synthInstance.maxHeartbeats 400000
namespace Go.Proofs.Ytnjpladlfiaojaa
open Go.Wst
open Go.Wst.Ct
/-- An act where it lies. -/
structure LAct where
 a : Ct.Act
 A : Option Addr
 c : Nat
abbrev actC (x : LAct) : List Value := [.int .i64 x.a.kind, .int .i64 x.a.a, .int .i64 x.a.b, .int .i64 x.a.n, .int .i64 x.a.o, .bool x.a.flag, .bool x.a.near, .slice x.A x.a.list.length x.c]
instance encN_act : EncN actC 8 := ⟨fun _ => rfl⟩
theorem near_list (a : Ct.Act) (M : Meta) : (a.near' M).list = a.list ∧ (a.near' M).kind = a.kind := by
 unfold Ct.Act.near'
 split
 ·exact ⟨rfl, rfl⟩
 split
 ·split <;> exact ⟨rfl, rfl⟩
 split
 ·split <;> exact ⟨rfl, rfl⟩
 ·exact ⟨rfl, rfl⟩
set_option maxHeartbeats 1000000 in
/-- (waystation/waystationlaw10.Act).near -/
theorem near0_ok (kd aa ab an ao : Int) (fl nr : Bool) (li : List Int) (A : Option Addr) (c : Nat) (R : LMeta) (F : Nat → Prop) (w : World) (h : RefAt w F R) (hok : R.pure.ok) : Ret Try.prog 37 #[.agg ([.int .i64 kd, .int .i64 aa, .int .i64 ab, .int .i64 an, .int .i64 ao, .bool fl, .bool nr, .slice A li.length c] : List Value).toArray, .agg (metaC R).toArray] w (fun v w' => v = .agg (actC ⟨(⟨kd, aa, ab, an, ao, fl, nr, li⟩ : Ct.Act).near' R.pure, A, c⟩).toArray ∧ Lk w' w NoB) := by
 obtain ⟨hll, hvl, hwl, hnb, hnp, hni⟩ := lens hok
 have hmost : most = 2147483647 := rfl
 haveI hrv : RowB w R.VA w (R.vs.flatMap viewC) := rowB_of h.views.row
 haveI hrw : RowB w R.WA w (R.ws.flatMap wrC) := rowB_of h.wrs.row
 refine ret_of_x (N := 112) (l := [.agg ([.int .i64 kd, .int .i64 aa, .int .i64 ab, .int .i64 an, .int .i64 ao, .bool fl, .bool nr, .slice A li.length c] : List Value).toArray, .agg (metaC R).toArray]) Try.func37 rfl rfl (Nat.le_of_ble_eq_true rfl) ?_
 refine x_seq ?_
 refine x_regionL ?_
 refine xl_e (e_box fun b1 w1 n1 l1 k1 => ?_)
 refine xl_e (e_box fun b2 w2 n2 l2 k2 => ?_)
 refine xl_e (e_alloc fun b3 w3 n3 l3 k3 => ?_)
 refine xl_nil ?_
 refine x_seq ?_
 refine x_seq ?_
 refine x_regionL ?_
 refine xl_Fa ?_
 refine xl_Ld ?_
 refine xl_v v_not ?_
 refine xl_v v_move ?_
 refine xl_split 9 (fun g9 => ?_) (fun g9 => ?_)
 ·
  refine xl_gs rfl EvO.eq ?_
  refine xl_gs rfl EvO.eq ?_
  refine xl_gs rfl EvO.eq ?_
  refine xl_Pk ?_
  refine xl_v v_move ?_
  refine xl_gs rfl EvO.eq ?_
  refine xl_gs rfl EvO.eq ?_
  refine xl_gs rfl EvO.eq ?_
  refine xl_Pk ?_
  refine xl_v v_move ?_
  refine xl_gs rfl EvO.eq ?_
  refine xl_gs rfl EvO.eq ?_
  refine xl_gs rfl EvO.eq ?_
  refine xl_Pk ?_
  refine xl_v v_move ?_
  refine xl_gs rfl EvO.eq ?_
  refine xl_gs rfl EvO.eq ?_
  refine xl_gs rfl EvO.eq ?_
  refine xl_Pk ?_
  refine xl_nil ?_
  refine x_condT ?_
  refine x_seq ?_
  refine x_regionL ?_
  refine xl_La ?_
  refine xl_s (e_storeA fun w4 l4 k4 => ?_)
  refine xl_nil ?_
  refine x_ret ?_
  refine finR (rs := [.cell 4 42]) rfl ?_
  have hn : (⟨kd, aa, ab, an, ao, fl, nr, li⟩ : Ct.Act).near' R.pure = ⟨kd, aa, ab, an, ao, fl, nr, li⟩ := by
   unfold Ct.Act.near'
   rw [if_pos]
   show nr = false ∨ ¬ (-5 ≤ an ∧ an ≤ 5) ∨ ¬ (-5 ≤ ao ∧ ao ≤ 5)
   first
    | (simp at g9; exact .inl g9)
    | (simp at g14; exact .inr (.inl (by omega)))
    | (simp at g19; exact .inr (.inl (by omega)))
    | (simp at g24; exact .inr (.inr (by omega)))
    | (simp at c1; exact .inr (.inr (by omega)))
  exact ⟨by rw [hn]; rfl, lkc⟩
 ·
  refine xl_gFa rfl EvO.eq ?_
  refine xl_gLd rfl EvO.eq ?_
  refine xl_gv rfl EvO.eq v_lss ?_
  refine xl_Pk ?_
  refine xl_v v_move ?_
  refine xl_split 14 (fun g14 => ?_) (fun g14 => ?_)
  ·
   refine xl_gs rfl EvO.eq ?_
   refine xl_gs rfl EvO.eq ?_
   refine xl_gs rfl EvO.eq ?_
   refine xl_Pk ?_
   refine xl_v v_move ?_
   refine xl_gs rfl EvO.eq ?_
   refine xl_gs rfl EvO.eq ?_
   refine xl_gs rfl EvO.eq ?_
   refine xl_Pk ?_
   refine xl_v v_move ?_
   refine xl_gs rfl EvO.eq ?_
   refine xl_gs rfl EvO.eq ?_
   refine xl_gs rfl EvO.eq ?_
   refine xl_Pk ?_
   refine xl_nil ?_
   refine x_condT ?_
   refine x_seq ?_
   refine x_regionL ?_
   refine xl_La ?_
   refine xl_s (e_storeA fun w5 l5 k5 => ?_)
   refine xl_nil ?_
   refine x_ret ?_
   refine finR (rs := [.cell 4 42]) rfl ?_
   have hn : (⟨kd, aa, ab, an, ao, fl, nr, li⟩ : Ct.Act).near' R.pure = ⟨kd, aa, ab, an, ao, fl, nr, li⟩ := by
    unfold Ct.Act.near'
    rw [if_pos]
    show nr = false ∨ ¬ (-5 ≤ an ∧ an ≤ 5) ∨ ¬ (-5 ≤ ao ∧ ao ≤ 5)
    first
     | (simp at g9; exact .inl g9)
     | (simp at g14; exact .inr (.inl (by omega)))
     | (simp at g19; exact .inr (.inl (by omega)))
     | (simp at g24; exact .inr (.inr (by omega)))
     | (simp at c1; exact .inr (.inr (by omega)))
   exact ⟨by rw [hn]; rfl, lkc⟩
  ·
   refine xl_gFa rfl EvO.eq ?_
   refine xl_gLd rfl EvO.eq ?_
   refine xl_gv rfl EvO.eq v_gtr ?_
   refine xl_Pk ?_
   refine xl_v v_move ?_
   refine xl_split 19 (fun g19 => ?_) (fun g19 => ?_)
   ·
    refine xl_gs rfl EvO.eq ?_
    refine xl_gs rfl EvO.eq ?_
    refine xl_gs rfl EvO.eq ?_
    refine xl_Pk ?_
    refine xl_v v_move ?_
    refine xl_gs rfl EvO.eq ?_
    refine xl_gs rfl EvO.eq ?_
    refine xl_gs rfl EvO.eq ?_
    refine xl_Pk ?_
    refine xl_nil ?_
    refine x_condT ?_
    refine x_seq ?_
    refine x_regionL ?_
    refine xl_La ?_
    refine xl_s (e_storeA fun w6 l6 k6 => ?_)
    refine xl_nil ?_
    refine x_ret ?_
    refine finR (rs := [.cell 4 42]) rfl ?_
    have hn : (⟨kd, aa, ab, an, ao, fl, nr, li⟩ : Ct.Act).near' R.pure = ⟨kd, aa, ab, an, ao, fl, nr, li⟩ := by
     unfold Ct.Act.near'
     rw [if_pos]
     show nr = false ∨ ¬ (-5 ≤ an ∧ an ≤ 5) ∨ ¬ (-5 ≤ ao ∧ ao ≤ 5)
     first
      | (simp at g9; exact .inl g9)
      | (simp at g14; exact .inr (.inl (by omega)))
      | (simp at g19; exact .inr (.inl (by omega)))
      | (simp at g24; exact .inr (.inr (by omega)))
      | (simp at c1; exact .inr (.inr (by omega)))
    exact ⟨by rw [hn]; rfl, lkc⟩
   ·
    refine xl_gFa rfl EvO.eq ?_
    refine xl_gLd rfl EvO.eq ?_
    refine xl_gv rfl EvO.eq v_lss ?_
    refine xl_Pk ?_
    refine xl_v v_move ?_
    refine xl_split 24 (fun g24 => ?_) (fun g24 => ?_)
    ·
     refine xl_gs rfl EvO.eq ?_
     refine xl_gs rfl EvO.eq ?_
     refine xl_gs rfl EvO.eq ?_
     refine xl_Pk ?_
     refine xl_nil ?_
     refine x_condT ?_
     refine x_seq ?_
     refine x_regionL ?_
     refine xl_La ?_
     refine xl_s (e_storeA fun w7 l7 k7 => ?_)
     refine xl_nil ?_
     refine x_ret ?_
     refine finR (rs := [.cell 4 42]) rfl ?_
     have hn : (⟨kd, aa, ab, an, ao, fl, nr, li⟩ : Ct.Act).near' R.pure = ⟨kd, aa, ab, an, ao, fl, nr, li⟩ := by
      unfold Ct.Act.near'
      rw [if_pos]
      show nr = false ∨ ¬ (-5 ≤ an ∧ an ≤ 5) ∨ ¬ (-5 ≤ ao ∧ ao ≤ 5)
      first
       | (simp at g9; exact .inl g9)
       | (simp at g14; exact .inr (.inl (by omega)))
       | (simp at g19; exact .inr (.inl (by omega)))
       | (simp at g24; exact .inr (.inr (by omega)))
       | (simp at c1; exact .inr (.inr (by omega)))
     exact ⟨by rw [hn]; rfl, lkc⟩
    ·
     refine xl_gFa rfl EvO.eq ?_
     refine xl_gLd rfl EvO.eq ?_
     refine xl_gv rfl EvO.eq v_gtr ?_
     refine xl_Pk ?_
     refine xl_nil ?_
     refine x_condE (fun c1 => ?_) (fun c1 => ?_)
     ·
      refine x_seq ?_
      refine x_regionL ?_
      refine xl_La ?_
      refine xl_s (e_storeA fun w8 l8 k8 => ?_)
      refine xl_nil ?_
      refine x_ret ?_
      refine finR (rs := [.cell 4 42]) rfl ?_
      have hn : (⟨kd, aa, ab, an, ao, fl, nr, li⟩ : Ct.Act).near' R.pure = ⟨kd, aa, ab, an, ao, fl, nr, li⟩ := by
       unfold Ct.Act.near'
       rw [if_pos]
       show nr = false ∨ ¬ (-5 ≤ an ∧ an ≤ 5) ∨ ¬ (-5 ≤ ao ∧ ao ≤ 5)
       first
        | (simp at g9; exact .inl g9)
        | (simp at g14; exact .inr (.inl (by omega)))
        | (simp at g19; exact .inr (.inl (by omega)))
        | (simp at g24; exact .inr (.inr (by omega)))
        | (simp at c1; exact .inr (.inr (by omega)))
      exact ⟨by rw [hn]; rfl, lkc⟩
     ·
      have hsm : nr = true ∧ (-5 ≤ an ∧ an ≤ 5) ∧ (-5 ≤ ao ∧ ao ≤ 5) := by
       simp at g9 g14 g19 g24 c1
       exact ⟨g9, ⟨g14, g19⟩, g24, c1⟩
      have hnear : (⟨kd, aa, ab, an, ao, fl, nr, li⟩ : Ct.Act).near' R.pure = (if kd = 4 then if inN aa R.np then { (⟨kd, aa, ab, an, ao, fl, nr, li⟩ : Ct.Act) with n := an + (R.pure.view aa).epoch, o := ao + (R.pure.view aa).ver } else ⟨kd, aa, ab, an, ao, fl, nr, li⟩ else if 6 ≤ kd then if inN aa R.ni then { (⟨kd, aa, ab, an, ao, fl, nr, li⟩ : Ct.Act) with o := ao + (R.pure.wr aa).off, n := if kd = 8 then an + (R.pure.wr aa).num else an + (R.pure.wr aa).ses } else ⟨kd, aa, ab, an, ao, fl, nr, li⟩ else ⟨kd, aa, ab, an, ao, fl, nr, li⟩) := by
       show (if nr = false ∨ ¬ smallN an ∨ ¬ smallN ao then _ else _) = _
       rw [if_neg]
       ·rfl
       ·rintro (q | q | q)
        ·rw [hsm.1] at q; cases q
        ·exact q hsm.2.1
        ·exact q hsm.2.2
      refine x_skip ?_
      refine x_seq ?_
      refine x_seq ?_
      refine x_regionL ?_
      refine xl_Fa ?_
      refine xl_Ld ?_
      refine xl_v v_eql ?_
      refine xl_v v_move ?_
      refine xl_split 33 (fun g33 => ?_) (fun g33 => ?_)
      ·
       refine xl_gFa rfl EvO.eq ?_
       refine xl_gLd rfl EvO.eq ?_
       refine xl_gv rfl EvO.eq v_geq ?_
       refine xl_Pk ?_
       refine xl_v v_move ?_
       refine xl_split 38 (fun g38 => ?_) (fun g38 => ?_)
       ·
        refine xl_gFa rfl EvO.eq ?_
        refine xl_gLd rfl EvO.eq ?_
        refine xl_gFa rfl EvO.eq ?_
        refine xl_gFa rfl EvO.eq ?_
        refine xl_gLd rfl EvO.eq ?_
        refine xl_gv rfl EvO.eq v_lss ?_
        refine xl_Pk ?_
        refine xl_nil ?_
        refine x_condE (fun c2 => ?_) (fun c2 => ?_)
        ·
         have hk4 : kd = 4 := by simpa using g33
         have hin : inN aa R.np := by
          simp at g38 c2
          exact ⟨by omega, by omega⟩
         obtain ⟨i, haa, hi⟩ := nat_of hin
         have hi : i < R.vs.length := by omega
         have ho := hok.view hin
         have hva : R.pure.view aa = R.vs[i].v := by rw [haa]; exact view_at hi
         rw [if_pos hk4, if_pos hin, hva] at hnear
         rw [hva] at ho
         have he0 := ho.e0
         have he1 := ho.e1
         have hv0 := ho.v0
         have hv1 := ho.v1
         haveI : ApB R.VA b1 := ⟨fun a ha e => by have := h.lt _ (h.views.blk a ha); have := n1.eq; omega⟩
         refine x_drawL (NoB) (OneB b1) (.take 0 (.take 1 (.take 2 (.take 3 (.take 4 (.take 5 (.take 6 (.take 7 (.take 8 (.take 9 (.take 10 (.take 11 (.takeA 12 (.takeA 13 (.take 14 (.take 15 (.takeA 16 (.takeA 17 (.takeA 18 (.takeA 19 (.take 20 (.free 21 (.take 22 (.last 23)))))))))))))))))))))))) mixed (by kernel_rfl) (fun _ _ _ _ _ h => h) (fun w9 l9 => ?_)
         refine xt_Fa rfl ?_
         refine xt_Ld rfl ?_
         refine xt_Fa rfl ?_
         refine xt_Ld rfl ?_
         refine xt_Fa rfl ?_
         refine xt_Ld rfl ?_
         refine xt_v rfl (v_indexF i (by decide) haa (by omega) hi) ?_
         refine xt_Fa rfl ?_
         refine xt_Ld rfl ?_
         refine xt_v rfl (v_add (by omega)) ?_
         refine xt_Fa rfl ?_
         refine xt_Ld rfl ?_
         refine xt_av rfl (by first | exact v_fieldAddr | exact v_fieldAddrF (by decide) (by omega) | exact v_fieldAddrR (by first | assumption | rfl)) ?_
         refine xt_av rfl (by first | exact v_load | exact v_loadO (by omega) | exact v_loadFf (by omega) | exact v_loadF0 (by omega)) ?_
         refine xt_Fa rfl ?_
         refine xt_Ld rfl ?_
         refine xt_av rfl (v_indexF i (by decide) haa (by omega) hi) ?_
         refine xt_av rfl (by first | exact v_fieldAddr | exact v_fieldAddrF (by decide) (by omega) | exact v_fieldAddrR (by first | assumption | rfl)) ?_
         refine xt_av rfl (by first | exact v_load | exact v_loadO (by omega) | exact v_loadFf (by omega) | exact v_loadF0 (by omega)) ?_
         refine xt_av rfl (v_add (by omega)) ?_
         refine xt_Fa rfl ?_
         refine xt_fs rfl (e_store fun w10 l10 k10 => ?_)
         refine xt_Fa rfl ?_
         refine xt_lastS rfl (e_store fun w11 l11 k11 => ?_)
         refine x_seq ?_
         refine x_seq ?_
         refine x_regionL ?_
         refine xl_Fa ?_
         refine xl_Ld ?_
         refine xl_v v_geq ?_
         refine xl_v v_move ?_
         refine xl_split 71 (fun g71 => ?_) (fun g71 => ?_)
         ·
          refine xl_gFa rfl EvO.eq ?_
          refine xl_gLd rfl EvO.eq ?_
          refine xl_gv rfl EvO.eq v_geq ?_
          refine xl_Pk ?_
          refine xl_v v_move ?_
          refine xl_split 76 (fun g76 => ?_) (fun g76 => ?_)
          ·
           refine xl_gFa rfl EvO.eq ?_
           refine xl_gLd rfl EvO.eq ?_
           refine xl_gFa rfl EvO.eq ?_
           refine xl_gFa rfl EvO.eq ?_
           refine xl_gLd rfl EvO.eq ?_
           refine xl_gv rfl EvO.eq v_lss ?_
           refine xl_Pk ?_
           refine xl_nil ?_
           refine x_condE (fun c3 => ?_) (fun c3 => ?_)
           ·
            have hk6 : 6 ≤ kd := by simpa using g71
            have hin : inN aa R.ni := by
             simp at g76 c3
             exact ⟨by omega, by omega⟩
            obtain ⟨i, haa, hi⟩ := nat_of hin
            have hi : i < R.ws.length := by omega
            have ho := hok.wr hin
            have hva : R.pure.wr aa = R.ws[i].w := by rw [haa]; exact wr_at hi
            have hnear2 : (⟨kd, aa, ab, an, ao, fl, nr, li⟩ : Ct.Act).near' R.pure = ⟨kd, aa, ab, if kd = 8 then an + R.ws[i].w.num else an + R.ws[i].w.ses, ao + R.ws[i].w.off, fl, nr, li⟩ := by
             first
              | (exfalso; omega)
              | (rw [hnear, if_neg (by omega), if_pos hk6, if_pos hin, hva])
            rw [hva] at ho
            have hs0 := ho.s0
            have hs1 := ho.s1
            have hn0 := ho.n0
            have hn1 := ho.n1
            have ho0 := ho.o0
            have ho1 := ho.o1
            refine x_seq ?_
            refine x_regionL ?_
            refine xl_Fa ?_
            refine xl_Ld ?_
            refine xl_Fa ?_
            refine xl_Ld ?_
            refine xl_v (v_indexF i (by decide) haa (by omega) hi) ?_
            refine xl_v (v_loadF (k := i) (by decide) hi) ?_
            refine xl_e (e_alloc fun b12 w12 n12 l12 k12 => ?_)
            refine xl_s (e_storeA fun w13 l13 k13 => ?_)
            refine xl_nil ?_
            refine x_seq ?_
            refine x_regionL ?_
            refine xl_Fa ?_
            refine xl_Ld ?_
            refine xl_Fa ?_
            refine xl_Ld ?_
            refine xl_v (v_add (by omega)) ?_
            refine xl_Fa ?_
            refine xl_s (e_store fun w14 l14 k14 => ?_)
            refine xl_nil ?_
            refine x_seq ?_
            refine x_regionL ?_
            refine xl_Fa ?_
            refine xl_Ld ?_
            refine xl_v v_eql ?_
            refine xl_nil ?_
            first | refine x_condP (fun c4 => ?_) (fun c4 => ?_) | refine x_condN (fun c4 => ?_) (fun c4 => ?_) | refine x_condE (fun c4 => ?_) (fun c4 => ?_)
            ·
             rw [if_pos c4] at hnear2
             refine x_regionL ?_
             refine xl_Fa ?_
             refine xl_Ld ?_
             refine xl_Fa ?_
             refine xl_Ld ?_
             refine xl_v (v_add (by omega)) ?_
             refine xl_Fa ?_
             refine xl_s (e_store fun w15 l15 k15 => ?_)
             refine xl_nil ?_
             refine x_seq ?_
             refine x_regionL ?_
             refine xl_La ?_
             refine xl_s (e_storeA fun w16 l16 k16 => ?_)
             refine xl_nil ?_
             refine x_ret ?_
             refine finR (rs := [.cell 4 42]) rfl ?_
             refine ⟨?_, lkc⟩
             first
              | (rw [hnear2]; rfl)
              | (exfalso; omega)
              | (rw [hnear]; rfl)
              | (have hnk : ¬ (kd = 4 ∧ inN aa R.np) := by
                  rintro ⟨q1, q2⟩
                  have q3 := q2.1
                  have q4 := q2.2
                  first
                   | (simp at g33; exact g33 q1)
                   | (simp at g38; omega)
                   | (simp at c2; omega)
                 have hn : (⟨kd, aa, ab, an, ao, fl, nr, li⟩ : Ct.Act).near' R.pure = ⟨kd, aa, ab, an, ao, fl, nr, li⟩ := by
                  rw [hnear]
                  split
                  ·next q =>
                   split
                   ·next q2 => exact absurd ⟨q, q2⟩ hnk
                   ·rfl
                  ·split
                   ·next q =>
                    split
                    ·next q2 =>
                     have q3 := q2.1
                     have q4 := q2.2
                     exfalso
                     first
                      | (simp at g71; omega)
                      | (simp at g76; omega)
                      | (simp at c3; omega)
                    ·rfl
                   ·rfl
                 rw [hn]; rfl)
            ·
             rw [if_neg c4] at hnear2
             refine x_regionL ?_
             refine xl_Fa ?_
             refine xl_Ld ?_
             refine xl_Fa ?_
             refine xl_Ld ?_
             refine xl_v (v_add (by omega)) ?_
             refine xl_Fa ?_
             refine xl_s (e_store fun w17 l17 k17 => ?_)
             refine xl_nil ?_
             refine x_seq ?_
             refine x_regionL ?_
             refine xl_La ?_
             refine xl_s (e_storeA fun w18 l18 k18 => ?_)
             refine xl_nil ?_
             refine x_ret ?_
             refine finR (rs := [.cell 4 42]) rfl ?_
             refine ⟨?_, lkc⟩
             first
              | (rw [hnear2]; rfl)
              | (exfalso; omega)
              | (rw [hnear]; rfl)
              | (have hnk : ¬ (kd = 4 ∧ inN aa R.np) := by
                  rintro ⟨q1, q2⟩
                  have q3 := q2.1
                  have q4 := q2.2
                  first
                   | (simp at g33; exact g33 q1)
                   | (simp at g38; omega)
                   | (simp at c2; omega)
                 have hn : (⟨kd, aa, ab, an, ao, fl, nr, li⟩ : Ct.Act).near' R.pure = ⟨kd, aa, ab, an, ao, fl, nr, li⟩ := by
                  rw [hnear]
                  split
                  ·next q =>
                   split
                   ·next q2 => exact absurd ⟨q, q2⟩ hnk
                   ·rfl
                  ·split
                   ·next q =>
                    split
                    ·next q2 =>
                     have q3 := q2.1
                     have q4 := q2.2
                     exfalso
                     first
                      | (simp at g71; omega)
                      | (simp at g76; omega)
                      | (simp at c3; omega)
                    ·rfl
                   ·rfl
                 rw [hn]; rfl)
           ·
            refine x_skip ?_
            refine x_seq ?_
            refine x_regionL ?_
            refine xl_La ?_
            refine xl_s (e_storeA fun w19 l19 k19 => ?_)
            refine xl_nil ?_
            refine x_ret ?_
            refine finR (rs := [.cell 4 42]) rfl ?_
            refine ⟨?_, lkc⟩
            first
             | (rw [hnear2]; rfl)
             | (exfalso; omega)
             | (rw [hnear]; rfl)
             | (have hnk : ¬ (kd = 4 ∧ inN aa R.np) := by
                 rintro ⟨q1, q2⟩
                 have q3 := q2.1
                 have q4 := q2.2
                 first
                  | (simp at g33; exact g33 q1)
                  | (simp at g38; omega)
                  | (simp at c2; omega)
                have hn : (⟨kd, aa, ab, an, ao, fl, nr, li⟩ : Ct.Act).near' R.pure = ⟨kd, aa, ab, an, ao, fl, nr, li⟩ := by
                 rw [hnear]
                 split
                 ·next q =>
                  split
                  ·next q2 => exact absurd ⟨q, q2⟩ hnk
                  ·rfl
                 ·split
                  ·next q =>
                   split
                   ·next q2 =>
                    have q3 := q2.1
                    have q4 := q2.2
                    exfalso
                    first
                     | (simp at g71; omega)
                     | (simp at g76; omega)
                     | (simp at c3; omega)
                   ·rfl
                  ·rfl
                rw [hn]; rfl)
          ·
           refine xl_gs rfl EvO.eq ?_
           refine xl_gs rfl EvO.eq ?_
           refine xl_gs rfl EvO.eq ?_
           refine xl_gs rfl EvO.eq ?_
           refine xl_gs rfl EvO.eq ?_
           refine xl_gs rfl EvO.eq ?_
           refine xl_Pk ?_
           refine xl_nil ?_
           refine x_condF ?_
           refine x_skip ?_
           refine x_seq ?_
           refine x_regionL ?_
           refine xl_La ?_
           refine xl_s (e_storeA fun w20 l20 k20 => ?_)
           refine xl_nil ?_
           refine x_ret ?_
           refine finR (rs := [.cell 4 42]) rfl ?_
           refine ⟨?_, lkc⟩
           first
            | (rw [hnear2]; rfl)
            | (exfalso; omega)
            | (rw [hnear]; rfl)
            | (have hnk : ¬ (kd = 4 ∧ inN aa R.np) := by
                rintro ⟨q1, q2⟩
                have q3 := q2.1
                have q4 := q2.2
                first
                 | (simp at g33; exact g33 q1)
                 | (simp at g38; omega)
                 | (simp at c2; omega)
               have hn : (⟨kd, aa, ab, an, ao, fl, nr, li⟩ : Ct.Act).near' R.pure = ⟨kd, aa, ab, an, ao, fl, nr, li⟩ := by
                rw [hnear]
                split
                ·next q =>
                 split
                 ·next q2 => exact absurd ⟨q, q2⟩ hnk
                 ·rfl
                ·split
                 ·next q =>
                  split
                  ·next q2 =>
                   have q3 := q2.1
                   have q4 := q2.2
                   exfalso
                   first
                    | (simp at g71; omega)
                    | (simp at g76; omega)
                    | (simp at c3; omega)
                  ·rfl
                 ·rfl
               rw [hn]; rfl)
         ·
          refine xl_gs rfl EvO.eq ?_
          refine xl_gs rfl EvO.eq ?_
          refine xl_gs rfl EvO.eq ?_
          refine xl_Pk ?_
          refine xl_v v_move ?_
          refine xl_gs rfl EvO.eq ?_
          refine xl_gs rfl EvO.eq ?_
          refine xl_gs rfl EvO.eq ?_
          refine xl_gs rfl EvO.eq ?_
          refine xl_gs rfl EvO.eq ?_
          refine xl_gs rfl EvO.eq ?_
          refine xl_Pk ?_
          refine xl_nil ?_
          refine x_condF ?_
          refine x_skip ?_
          refine x_seq ?_
          refine x_regionL ?_
          refine xl_La ?_
          refine xl_s (e_storeA fun w21 l21 k21 => ?_)
          refine xl_nil ?_
          refine x_ret ?_
          refine finR (rs := [.cell 4 42]) rfl ?_
          refine ⟨?_, lkc⟩
          first
           | (rw [hnear2]; rfl)
           | (exfalso; omega)
           | (rw [hnear]; rfl)
           | (have hnk : ¬ (kd = 4 ∧ inN aa R.np) := by
               rintro ⟨q1, q2⟩
               have q3 := q2.1
               have q4 := q2.2
               first
                | (simp at g33; exact g33 q1)
                | (simp at g38; omega)
                | (simp at c2; omega)
              have hn : (⟨kd, aa, ab, an, ao, fl, nr, li⟩ : Ct.Act).near' R.pure = ⟨kd, aa, ab, an, ao, fl, nr, li⟩ := by
               rw [hnear]
               split
               ·next q =>
                split
                ·next q2 => exact absurd ⟨q, q2⟩ hnk
                ·rfl
               ·split
                ·next q =>
                 split
                 ·next q2 =>
                  have q3 := q2.1
                  have q4 := q2.2
                  exfalso
                  first
                   | (simp at g71; omega)
                   | (simp at g76; omega)
                   | (simp at c3; omega)
                 ·rfl
                ·rfl
              rw [hn]; rfl)
        ·
         refine x_skip ?_
         refine x_seq ?_
         refine x_seq ?_
         refine x_regionL ?_
         refine xl_Fa ?_
         refine xl_Ld ?_
         refine xl_v v_geq ?_
         refine xl_v v_move ?_
         refine xl_split 71 (fun g71 => ?_) (fun g71 => ?_)
         ·
          refine xl_gFa rfl EvO.eq ?_
          refine xl_gLd rfl EvO.eq ?_
          refine xl_gv rfl EvO.eq v_geq ?_
          refine xl_Pk ?_
          refine xl_v v_move ?_
          refine xl_split 76 (fun g76 => ?_) (fun g76 => ?_)
          ·
           refine xl_gFa rfl EvO.eq ?_
           refine xl_gLd rfl EvO.eq ?_
           refine xl_gFa rfl EvO.eq ?_
           refine xl_gFa rfl EvO.eq ?_
           refine xl_gLd rfl EvO.eq ?_
           refine xl_gv rfl EvO.eq v_lss ?_
           refine xl_Pk ?_
           refine xl_nil ?_
           refine x_condE (fun c3 => ?_) (fun c3 => ?_)
           ·
            have hk6 : 6 ≤ kd := by simpa using g71
            have hin : inN aa R.ni := by
             simp at g76 c3
             exact ⟨by omega, by omega⟩
            obtain ⟨i, haa, hi⟩ := nat_of hin
            have hi : i < R.ws.length := by omega
            have ho := hok.wr hin
            have hva : R.pure.wr aa = R.ws[i].w := by rw [haa]; exact wr_at hi
            have hnear2 : (⟨kd, aa, ab, an, ao, fl, nr, li⟩ : Ct.Act).near' R.pure = ⟨kd, aa, ab, if kd = 8 then an + R.ws[i].w.num else an + R.ws[i].w.ses, ao + R.ws[i].w.off, fl, nr, li⟩ := by
             first
              | (exfalso; omega)
              | (rw [hnear, if_neg (by omega), if_pos hk6, if_pos hin, hva])
            rw [hva] at ho
            have hs0 := ho.s0
            have hs1 := ho.s1
            have hn0 := ho.n0
            have hn1 := ho.n1
            have ho0 := ho.o0
            have ho1 := ho.o1
            refine x_seq ?_
            refine x_regionL ?_
            refine xl_Fa ?_
            refine xl_Ld ?_
            refine xl_Fa ?_
            refine xl_Ld ?_
            refine xl_v (v_indexF i (by decide) haa (by omega) hi) ?_
            refine xl_v (v_loadF (k := i) (by decide) hi) ?_
            refine xl_e (e_alloc fun b22 w22 n22 l22 k22 => ?_)
            refine xl_s (e_storeA fun w23 l23 k23 => ?_)
            refine xl_nil ?_
            refine x_seq ?_
            refine x_regionL ?_
            refine xl_Fa ?_
            refine xl_Ld ?_
            refine xl_Fa ?_
            refine xl_Ld ?_
            refine xl_v (v_add (by omega)) ?_
            refine xl_Fa ?_
            refine xl_s (e_store fun w24 l24 k24 => ?_)
            refine xl_nil ?_
            refine x_seq ?_
            refine x_regionL ?_
            refine xl_Fa ?_
            refine xl_Ld ?_
            refine xl_v v_eql ?_
            refine xl_nil ?_
            first | refine x_condP (fun c4 => ?_) (fun c4 => ?_) | refine x_condN (fun c4 => ?_) (fun c4 => ?_) | refine x_condE (fun c4 => ?_) (fun c4 => ?_)
            ·
             rw [if_pos c4] at hnear2
             refine x_regionL ?_
             refine xl_Fa ?_
             refine xl_Ld ?_
             refine xl_Fa ?_
             refine xl_Ld ?_
             refine xl_v (v_add (by omega)) ?_
             refine xl_Fa ?_
             refine xl_s (e_store fun w25 l25 k25 => ?_)
             refine xl_nil ?_
             refine x_seq ?_
             refine x_regionL ?_
             refine xl_La ?_
             refine xl_s (e_storeA fun w26 l26 k26 => ?_)
             refine xl_nil ?_
             refine x_ret ?_
             refine finR (rs := [.cell 4 42]) rfl ?_
             refine ⟨?_, lkc⟩
             first
              | (rw [hnear2]; rfl)
              | (exfalso; omega)
              | (rw [hnear]; rfl)
              | (have hnk : ¬ (kd = 4 ∧ inN aa R.np) := by
                  rintro ⟨q1, q2⟩
                  have q3 := q2.1
                  have q4 := q2.2
                  first
                   | (simp at g33; exact g33 q1)
                   | (simp at g38; omega)
                   | (simp at c2; omega)
                 have hn : (⟨kd, aa, ab, an, ao, fl, nr, li⟩ : Ct.Act).near' R.pure = ⟨kd, aa, ab, an, ao, fl, nr, li⟩ := by
                  rw [hnear]
                  split
                  ·next q =>
                   split
                   ·next q2 => exact absurd ⟨q, q2⟩ hnk
                   ·rfl
                  ·split
                   ·next q =>
                    split
                    ·next q2 =>
                     have q3 := q2.1
                     have q4 := q2.2
                     exfalso
                     first
                      | (simp at g71; omega)
                      | (simp at g76; omega)
                      | (simp at c3; omega)
                    ·rfl
                   ·rfl
                 rw [hn]; rfl)
            ·
             rw [if_neg c4] at hnear2
             refine x_regionL ?_
             refine xl_Fa ?_
             refine xl_Ld ?_
             refine xl_Fa ?_
             refine xl_Ld ?_
             refine xl_v (v_add (by omega)) ?_
             refine xl_Fa ?_
             refine xl_s (e_store fun w27 l27 k27 => ?_)
             refine xl_nil ?_
             refine x_seq ?_
             refine x_regionL ?_
             refine xl_La ?_
             refine xl_s (e_storeA fun w28 l28 k28 => ?_)
             refine xl_nil ?_
             refine x_ret ?_
             refine finR (rs := [.cell 4 42]) rfl ?_
             refine ⟨?_, lkc⟩
             first
              | (rw [hnear2]; rfl)
              | (exfalso; omega)
              | (rw [hnear]; rfl)
              | (have hnk : ¬ (kd = 4 ∧ inN aa R.np) := by
                  rintro ⟨q1, q2⟩
                  have q3 := q2.1
                  have q4 := q2.2
                  first
                   | (simp at g33; exact g33 q1)
                   | (simp at g38; omega)
                   | (simp at c2; omega)
                 have hn : (⟨kd, aa, ab, an, ao, fl, nr, li⟩ : Ct.Act).near' R.pure = ⟨kd, aa, ab, an, ao, fl, nr, li⟩ := by
                  rw [hnear]
                  split
                  ·next q =>
                   split
                   ·next q2 => exact absurd ⟨q, q2⟩ hnk
                   ·rfl
                  ·split
                   ·next q =>
                    split
                    ·next q2 =>
                     have q3 := q2.1
                     have q4 := q2.2
                     exfalso
                     first
                      | (simp at g71; omega)
                      | (simp at g76; omega)
                      | (simp at c3; omega)
                    ·rfl
                   ·rfl
                 rw [hn]; rfl)
           ·
            refine x_skip ?_
            refine x_seq ?_
            refine x_regionL ?_
            refine xl_La ?_
            refine xl_s (e_storeA fun w29 l29 k29 => ?_)
            refine xl_nil ?_
            refine x_ret ?_
            refine finR (rs := [.cell 4 42]) rfl ?_
            refine ⟨?_, lkc⟩
            first
             | (rw [hnear2]; rfl)
             | (exfalso; omega)
             | (rw [hnear]; rfl)
             | (have hnk : ¬ (kd = 4 ∧ inN aa R.np) := by
                 rintro ⟨q1, q2⟩
                 have q3 := q2.1
                 have q4 := q2.2
                 first
                  | (simp at g33; exact g33 q1)
                  | (simp at g38; omega)
                  | (simp at c2; omega)
                have hn : (⟨kd, aa, ab, an, ao, fl, nr, li⟩ : Ct.Act).near' R.pure = ⟨kd, aa, ab, an, ao, fl, nr, li⟩ := by
                 rw [hnear]
                 split
                 ·next q =>
                  split
                  ·next q2 => exact absurd ⟨q, q2⟩ hnk
                  ·rfl
                 ·split
                  ·next q =>
                   split
                   ·next q2 =>
                    have q3 := q2.1
                    have q4 := q2.2
                    exfalso
                    first
                     | (simp at g71; omega)
                     | (simp at g76; omega)
                     | (simp at c3; omega)
                   ·rfl
                  ·rfl
                rw [hn]; rfl)
          ·
           refine xl_gs rfl EvO.eq ?_
           refine xl_gs rfl EvO.eq ?_
           refine xl_gs rfl EvO.eq ?_
           refine xl_gs rfl EvO.eq ?_
           refine xl_gs rfl EvO.eq ?_
           refine xl_gs rfl EvO.eq ?_
           refine xl_Pk ?_
           refine xl_nil ?_
           refine x_condF ?_
           refine x_skip ?_
           refine x_seq ?_
           refine x_regionL ?_
           refine xl_La ?_
           refine xl_s (e_storeA fun w30 l30 k30 => ?_)
           refine xl_nil ?_
           refine x_ret ?_
           refine finR (rs := [.cell 4 42]) rfl ?_
           refine ⟨?_, lkc⟩
           first
            | (rw [hnear2]; rfl)
            | (exfalso; omega)
            | (rw [hnear]; rfl)
            | (have hnk : ¬ (kd = 4 ∧ inN aa R.np) := by
                rintro ⟨q1, q2⟩
                have q3 := q2.1
                have q4 := q2.2
                first
                 | (simp at g33; exact g33 q1)
                 | (simp at g38; omega)
                 | (simp at c2; omega)
               have hn : (⟨kd, aa, ab, an, ao, fl, nr, li⟩ : Ct.Act).near' R.pure = ⟨kd, aa, ab, an, ao, fl, nr, li⟩ := by
                rw [hnear]
                split
                ·next q =>
                 split
                 ·next q2 => exact absurd ⟨q, q2⟩ hnk
                 ·rfl
                ·split
                 ·next q =>
                  split
                  ·next q2 =>
                   have q3 := q2.1
                   have q4 := q2.2
                   exfalso
                   first
                    | (simp at g71; omega)
                    | (simp at g76; omega)
                    | (simp at c3; omega)
                  ·rfl
                 ·rfl
               rw [hn]; rfl)
         ·
          refine xl_gs rfl EvO.eq ?_
          refine xl_gs rfl EvO.eq ?_
          refine xl_gs rfl EvO.eq ?_
          refine xl_Pk ?_
          refine xl_v v_move ?_
          refine xl_gs rfl EvO.eq ?_
          refine xl_gs rfl EvO.eq ?_
          refine xl_gs rfl EvO.eq ?_
          refine xl_gs rfl EvO.eq ?_
          refine xl_gs rfl EvO.eq ?_
          refine xl_gs rfl EvO.eq ?_
          refine xl_Pk ?_
          refine xl_nil ?_
          refine x_condF ?_
          refine x_skip ?_
          refine x_seq ?_
          refine x_regionL ?_
          refine xl_La ?_
          refine xl_s (e_storeA fun w31 l31 k31 => ?_)
          refine xl_nil ?_
          refine x_ret ?_
          refine finR (rs := [.cell 4 42]) rfl ?_
          refine ⟨?_, lkc⟩
          first
           | (rw [hnear2]; rfl)
           | (exfalso; omega)
           | (rw [hnear]; rfl)
           | (have hnk : ¬ (kd = 4 ∧ inN aa R.np) := by
               rintro ⟨q1, q2⟩
               have q3 := q2.1
               have q4 := q2.2
               first
                | (simp at g33; exact g33 q1)
                | (simp at g38; omega)
                | (simp at c2; omega)
              have hn : (⟨kd, aa, ab, an, ao, fl, nr, li⟩ : Ct.Act).near' R.pure = ⟨kd, aa, ab, an, ao, fl, nr, li⟩ := by
               rw [hnear]
               split
               ·next q =>
                split
                ·next q2 => exact absurd ⟨q, q2⟩ hnk
                ·rfl
               ·split
                ·next q =>
                 split
                 ·next q2 =>
                  have q3 := q2.1
                  have q4 := q2.2
                  exfalso
                  first
                   | (simp at g71; omega)
                   | (simp at g76; omega)
                   | (simp at c3; omega)
                 ·rfl
                ·rfl
              rw [hn]; rfl)
       ·
        refine xl_gs rfl EvO.eq ?_
        refine xl_gs rfl EvO.eq ?_
        refine xl_gs rfl EvO.eq ?_
        refine xl_gs rfl EvO.eq ?_
        refine xl_gs rfl EvO.eq ?_
        refine xl_gs rfl EvO.eq ?_
        refine xl_Pk ?_
        refine xl_nil ?_
        refine x_condF ?_
        refine x_skip ?_
        refine x_seq ?_
        refine x_seq ?_
        refine x_regionL ?_
        refine xl_Fa ?_
        refine xl_Ld ?_
        refine xl_v v_geq ?_
        refine xl_v v_move ?_
        refine xl_split 71 (fun g71 => ?_) (fun g71 => ?_)
        ·
         refine xl_gFa rfl EvO.eq ?_
         refine xl_gLd rfl EvO.eq ?_
         refine xl_gv rfl EvO.eq v_geq ?_
         refine xl_Pk ?_
         refine xl_v v_move ?_
         refine xl_split 76 (fun g76 => ?_) (fun g76 => ?_)
         ·
          refine xl_gFa rfl EvO.eq ?_
          refine xl_gLd rfl EvO.eq ?_
          refine xl_gFa rfl EvO.eq ?_
          refine xl_gFa rfl EvO.eq ?_
          refine xl_gLd rfl EvO.eq ?_
          refine xl_gv rfl EvO.eq v_lss ?_
          refine xl_Pk ?_
          refine xl_nil ?_
          refine x_condE (fun c3 => ?_) (fun c3 => ?_)
          ·
           have hk6 : 6 ≤ kd := by simpa using g71
           have hin : inN aa R.ni := by
            simp at g76 c3
            exact ⟨by omega, by omega⟩
           obtain ⟨i, haa, hi⟩ := nat_of hin
           have hi : i < R.ws.length := by omega
           have ho := hok.wr hin
           have hva : R.pure.wr aa = R.ws[i].w := by rw [haa]; exact wr_at hi
           have hnear2 : (⟨kd, aa, ab, an, ao, fl, nr, li⟩ : Ct.Act).near' R.pure = ⟨kd, aa, ab, if kd = 8 then an + R.ws[i].w.num else an + R.ws[i].w.ses, ao + R.ws[i].w.off, fl, nr, li⟩ := by
            first
             | (exfalso; omega)
             | (rw [hnear, if_neg (by omega), if_pos hk6, if_pos hin, hva])
           rw [hva] at ho
           have hs0 := ho.s0
           have hs1 := ho.s1
           have hn0 := ho.n0
           have hn1 := ho.n1
           have ho0 := ho.o0
           have ho1 := ho.o1
           refine x_seq ?_
           refine x_regionL ?_
           refine xl_Fa ?_
           refine xl_Ld ?_
           refine xl_Fa ?_
           refine xl_Ld ?_
           refine xl_v (v_indexF i (by decide) haa (by omega) hi) ?_
           refine xl_v (v_loadF (k := i) (by decide) hi) ?_
           refine xl_e (e_alloc fun b32 w32 n32 l32 k32 => ?_)
           refine xl_s (e_storeA fun w33 l33 k33 => ?_)
           refine xl_nil ?_
           refine x_seq ?_
           refine x_regionL ?_
           refine xl_Fa ?_
           refine xl_Ld ?_
           refine xl_Fa ?_
           refine xl_Ld ?_
           refine xl_v (v_add (by omega)) ?_
           refine xl_Fa ?_
           refine xl_s (e_store fun w34 l34 k34 => ?_)
           refine xl_nil ?_
           refine x_seq ?_
           refine x_regionL ?_
           refine xl_Fa ?_
           refine xl_Ld ?_
           refine xl_v v_eql ?_
           refine xl_nil ?_
           first | refine x_condP (fun c4 => ?_) (fun c4 => ?_) | refine x_condN (fun c4 => ?_) (fun c4 => ?_) | refine x_condE (fun c4 => ?_) (fun c4 => ?_)
           ·
            rw [if_pos c4] at hnear2
            refine x_regionL ?_
            refine xl_Fa ?_
            refine xl_Ld ?_
            refine xl_Fa ?_
            refine xl_Ld ?_
            refine xl_v (v_add (by omega)) ?_
            refine xl_Fa ?_
            refine xl_s (e_store fun w35 l35 k35 => ?_)
            refine xl_nil ?_
            refine x_seq ?_
            refine x_regionL ?_
            refine xl_La ?_
            refine xl_s (e_storeA fun w36 l36 k36 => ?_)
            refine xl_nil ?_
            refine x_ret ?_
            refine finR (rs := [.cell 4 42]) rfl ?_
            refine ⟨?_, lkc⟩
            first
             | (rw [hnear2]; rfl)
             | (exfalso; omega)
             | (rw [hnear]; rfl)
             | (have hnk : ¬ (kd = 4 ∧ inN aa R.np) := by
                 rintro ⟨q1, q2⟩
                 have q3 := q2.1
                 have q4 := q2.2
                 first
                  | (simp at g33; exact g33 q1)
                  | (simp at g38; omega)
                  | (simp at c2; omega)
                have hn : (⟨kd, aa, ab, an, ao, fl, nr, li⟩ : Ct.Act).near' R.pure = ⟨kd, aa, ab, an, ao, fl, nr, li⟩ := by
                 rw [hnear]
                 split
                 ·next q =>
                  split
                  ·next q2 => exact absurd ⟨q, q2⟩ hnk
                  ·rfl
                 ·split
                  ·next q =>
                   split
                   ·next q2 =>
                    have q3 := q2.1
                    have q4 := q2.2
                    exfalso
                    first
                     | (simp at g71; omega)
                     | (simp at g76; omega)
                     | (simp at c3; omega)
                   ·rfl
                  ·rfl
                rw [hn]; rfl)
           ·
            rw [if_neg c4] at hnear2
            refine x_regionL ?_
            refine xl_Fa ?_
            refine xl_Ld ?_
            refine xl_Fa ?_
            refine xl_Ld ?_
            refine xl_v (v_add (by omega)) ?_
            refine xl_Fa ?_
            refine xl_s (e_store fun w37 l37 k37 => ?_)
            refine xl_nil ?_
            refine x_seq ?_
            refine x_regionL ?_
            refine xl_La ?_
            refine xl_s (e_storeA fun w38 l38 k38 => ?_)
            refine xl_nil ?_
            refine x_ret ?_
            refine finR (rs := [.cell 4 42]) rfl ?_
            refine ⟨?_, lkc⟩
            first
             | (rw [hnear2]; rfl)
             | (exfalso; omega)
             | (rw [hnear]; rfl)
             | (have hnk : ¬ (kd = 4 ∧ inN aa R.np) := by
                 rintro ⟨q1, q2⟩
                 have q3 := q2.1
                 have q4 := q2.2
                 first
                  | (simp at g33; exact g33 q1)
                  | (simp at g38; omega)
                  | (simp at c2; omega)
                have hn : (⟨kd, aa, ab, an, ao, fl, nr, li⟩ : Ct.Act).near' R.pure = ⟨kd, aa, ab, an, ao, fl, nr, li⟩ := by
                 rw [hnear]
                 split
                 ·next q =>
                  split
                  ·next q2 => exact absurd ⟨q, q2⟩ hnk
                  ·rfl
                 ·split
                  ·next q =>
                   split
                   ·next q2 =>
                    have q3 := q2.1
                    have q4 := q2.2
                    exfalso
                    first
                     | (simp at g71; omega)
                     | (simp at g76; omega)
                     | (simp at c3; omega)
                   ·rfl
                  ·rfl
                rw [hn]; rfl)
          ·
           refine x_skip ?_
           refine x_seq ?_
           refine x_regionL ?_
           refine xl_La ?_
           refine xl_s (e_storeA fun w39 l39 k39 => ?_)
           refine xl_nil ?_
           refine x_ret ?_
           refine finR (rs := [.cell 4 42]) rfl ?_
           refine ⟨?_, lkc⟩
           first
            | (rw [hnear2]; rfl)
            | (exfalso; omega)
            | (rw [hnear]; rfl)
            | (have hnk : ¬ (kd = 4 ∧ inN aa R.np) := by
                rintro ⟨q1, q2⟩
                have q3 := q2.1
                have q4 := q2.2
                first
                 | (simp at g33; exact g33 q1)
                 | (simp at g38; omega)
                 | (simp at c2; omega)
               have hn : (⟨kd, aa, ab, an, ao, fl, nr, li⟩ : Ct.Act).near' R.pure = ⟨kd, aa, ab, an, ao, fl, nr, li⟩ := by
                rw [hnear]
                split
                ·next q =>
                 split
                 ·next q2 => exact absurd ⟨q, q2⟩ hnk
                 ·rfl
                ·split
                 ·next q =>
                  split
                  ·next q2 =>
                   have q3 := q2.1
                   have q4 := q2.2
                   exfalso
                   first
                    | (simp at g71; omega)
                    | (simp at g76; omega)
                    | (simp at c3; omega)
                  ·rfl
                 ·rfl
               rw [hn]; rfl)
         ·
          refine xl_gs rfl EvO.eq ?_
          refine xl_gs rfl EvO.eq ?_
          refine xl_gs rfl EvO.eq ?_
          refine xl_gs rfl EvO.eq ?_
          refine xl_gs rfl EvO.eq ?_
          refine xl_gs rfl EvO.eq ?_
          refine xl_Pk ?_
          refine xl_nil ?_
          refine x_condF ?_
          refine x_skip ?_
          refine x_seq ?_
          refine x_regionL ?_
          refine xl_La ?_
          refine xl_s (e_storeA fun w40 l40 k40 => ?_)
          refine xl_nil ?_
          refine x_ret ?_
          refine finR (rs := [.cell 4 42]) rfl ?_
          refine ⟨?_, lkc⟩
          first
           | (rw [hnear2]; rfl)
           | (exfalso; omega)
           | (rw [hnear]; rfl)
           | (have hnk : ¬ (kd = 4 ∧ inN aa R.np) := by
               rintro ⟨q1, q2⟩
               have q3 := q2.1
               have q4 := q2.2
               first
                | (simp at g33; exact g33 q1)
                | (simp at g38; omega)
                | (simp at c2; omega)
              have hn : (⟨kd, aa, ab, an, ao, fl, nr, li⟩ : Ct.Act).near' R.pure = ⟨kd, aa, ab, an, ao, fl, nr, li⟩ := by
               rw [hnear]
               split
               ·next q =>
                split
                ·next q2 => exact absurd ⟨q, q2⟩ hnk
                ·rfl
               ·split
                ·next q =>
                 split
                 ·next q2 =>
                  have q3 := q2.1
                  have q4 := q2.2
                  exfalso
                  first
                   | (simp at g71; omega)
                   | (simp at g76; omega)
                   | (simp at c3; omega)
                 ·rfl
                ·rfl
              rw [hn]; rfl)
        ·
         refine xl_gs rfl EvO.eq ?_
         refine xl_gs rfl EvO.eq ?_
         refine xl_gs rfl EvO.eq ?_
         refine xl_Pk ?_
         refine xl_v v_move ?_
         refine xl_gs rfl EvO.eq ?_
         refine xl_gs rfl EvO.eq ?_
         refine xl_gs rfl EvO.eq ?_
         refine xl_gs rfl EvO.eq ?_
         refine xl_gs rfl EvO.eq ?_
         refine xl_gs rfl EvO.eq ?_
         refine xl_Pk ?_
         refine xl_nil ?_
         refine x_condF ?_
         refine x_skip ?_
         refine x_seq ?_
         refine x_regionL ?_
         refine xl_La ?_
         refine xl_s (e_storeA fun w41 l41 k41 => ?_)
         refine xl_nil ?_
         refine x_ret ?_
         refine finR (rs := [.cell 4 42]) rfl ?_
         refine ⟨?_, lkc⟩
         first
          | (rw [hnear2]; rfl)
          | (exfalso; omega)
          | (rw [hnear]; rfl)
          | (have hnk : ¬ (kd = 4 ∧ inN aa R.np) := by
              rintro ⟨q1, q2⟩
              have q3 := q2.1
              have q4 := q2.2
              first
               | (simp at g33; exact g33 q1)
               | (simp at g38; omega)
               | (simp at c2; omega)
             have hn : (⟨kd, aa, ab, an, ao, fl, nr, li⟩ : Ct.Act).near' R.pure = ⟨kd, aa, ab, an, ao, fl, nr, li⟩ := by
              rw [hnear]
              split
              ·next q =>
               split
               ·next q2 => exact absurd ⟨q, q2⟩ hnk
               ·rfl
              ·split
               ·next q =>
                split
                ·next q2 =>
                 have q3 := q2.1
                 have q4 := q2.2
                 exfalso
                 first
                  | (simp at g71; omega)
                  | (simp at g76; omega)
                  | (simp at c3; omega)
                ·rfl
               ·rfl
             rw [hn]; rfl)
      ·
       refine xl_gs rfl EvO.eq ?_
       refine xl_gs rfl EvO.eq ?_
       refine xl_gs rfl EvO.eq ?_
       refine xl_Pk ?_
       refine xl_v v_move ?_
       refine xl_gs rfl EvO.eq ?_
       refine xl_gs rfl EvO.eq ?_
       refine xl_gs rfl EvO.eq ?_
       refine xl_gs rfl EvO.eq ?_
       refine xl_gs rfl EvO.eq ?_
       refine xl_gs rfl EvO.eq ?_
       refine xl_Pk ?_
       refine xl_nil ?_
       refine x_condF ?_
       refine x_skip ?_
       refine x_seq ?_
       refine x_seq ?_
       refine x_regionL ?_
       refine xl_Fa ?_
       refine xl_Ld ?_
       refine xl_v v_geq ?_
       refine xl_v v_move ?_
       refine xl_split 71 (fun g71 => ?_) (fun g71 => ?_)
       ·
        refine xl_gFa rfl EvO.eq ?_
        refine xl_gLd rfl EvO.eq ?_
        refine xl_gv rfl EvO.eq v_geq ?_
        refine xl_Pk ?_
        refine xl_v v_move ?_
        refine xl_split 76 (fun g76 => ?_) (fun g76 => ?_)
        ·
         refine xl_gFa rfl EvO.eq ?_
         refine xl_gLd rfl EvO.eq ?_
         refine xl_gFa rfl EvO.eq ?_
         refine xl_gFa rfl EvO.eq ?_
         refine xl_gLd rfl EvO.eq ?_
         refine xl_gv rfl EvO.eq v_lss ?_
         refine xl_Pk ?_
         refine xl_nil ?_
         refine x_condE (fun c3 => ?_) (fun c3 => ?_)
         ·
          have hk6 : 6 ≤ kd := by simpa using g71
          have hin : inN aa R.ni := by
           simp at g76 c3
           exact ⟨by omega, by omega⟩
          obtain ⟨i, haa, hi⟩ := nat_of hin
          have hi : i < R.ws.length := by omega
          have ho := hok.wr hin
          have hva : R.pure.wr aa = R.ws[i].w := by rw [haa]; exact wr_at hi
          have hnear2 : (⟨kd, aa, ab, an, ao, fl, nr, li⟩ : Ct.Act).near' R.pure = ⟨kd, aa, ab, if kd = 8 then an + R.ws[i].w.num else an + R.ws[i].w.ses, ao + R.ws[i].w.off, fl, nr, li⟩ := by
           first
            | (exfalso; omega)
            | (rw [hnear, if_neg (by omega), if_pos hk6, if_pos hin, hva])
          rw [hva] at ho
          have hs0 := ho.s0
          have hs1 := ho.s1
          have hn0 := ho.n0
          have hn1 := ho.n1
          have ho0 := ho.o0
          have ho1 := ho.o1
          refine x_seq ?_
          refine x_regionL ?_
          refine xl_Fa ?_
          refine xl_Ld ?_
          refine xl_Fa ?_
          refine xl_Ld ?_
          refine xl_v (v_indexF i (by decide) haa (by omega) hi) ?_
          refine xl_v (v_loadF (k := i) (by decide) hi) ?_
          refine xl_e (e_alloc fun b42 w42 n42 l42 k42 => ?_)
          refine xl_s (e_storeA fun w43 l43 k43 => ?_)
          refine xl_nil ?_
          refine x_seq ?_
          refine x_regionL ?_
          refine xl_Fa ?_
          refine xl_Ld ?_
          refine xl_Fa ?_
          refine xl_Ld ?_
          refine xl_v (v_add (by omega)) ?_
          refine xl_Fa ?_
          refine xl_s (e_store fun w44 l44 k44 => ?_)
          refine xl_nil ?_
          refine x_seq ?_
          refine x_regionL ?_
          refine xl_Fa ?_
          refine xl_Ld ?_
          refine xl_v v_eql ?_
          refine xl_nil ?_
          first | refine x_condP (fun c4 => ?_) (fun c4 => ?_) | refine x_condN (fun c4 => ?_) (fun c4 => ?_) | refine x_condE (fun c4 => ?_) (fun c4 => ?_)
          ·
           rw [if_pos c4] at hnear2
           refine x_regionL ?_
           refine xl_Fa ?_
           refine xl_Ld ?_
           refine xl_Fa ?_
           refine xl_Ld ?_
           refine xl_v (v_add (by omega)) ?_
           refine xl_Fa ?_
           refine xl_s (e_store fun w45 l45 k45 => ?_)
           refine xl_nil ?_
           refine x_seq ?_
           refine x_regionL ?_
           refine xl_La ?_
           refine xl_s (e_storeA fun w46 l46 k46 => ?_)
           refine xl_nil ?_
           refine x_ret ?_
           refine finR (rs := [.cell 4 42]) rfl ?_
           refine ⟨?_, lkc⟩
           first
            | (rw [hnear2]; rfl)
            | (exfalso; omega)
            | (rw [hnear]; rfl)
            | (have hnk : ¬ (kd = 4 ∧ inN aa R.np) := by
                rintro ⟨q1, q2⟩
                have q3 := q2.1
                have q4 := q2.2
                first
                 | (simp at g33; exact g33 q1)
                 | (simp at g38; omega)
                 | (simp at c2; omega)
               have hn : (⟨kd, aa, ab, an, ao, fl, nr, li⟩ : Ct.Act).near' R.pure = ⟨kd, aa, ab, an, ao, fl, nr, li⟩ := by
                rw [hnear]
                split
                ·next q =>
                 split
                 ·next q2 => exact absurd ⟨q, q2⟩ hnk
                 ·rfl
                ·split
                 ·next q =>
                  split
                  ·next q2 =>
                   have q3 := q2.1
                   have q4 := q2.2
                   exfalso
                   first
                    | (simp at g71; omega)
                    | (simp at g76; omega)
                    | (simp at c3; omega)
                  ·rfl
                 ·rfl
               rw [hn]; rfl)
          ·
           rw [if_neg c4] at hnear2
           refine x_regionL ?_
           refine xl_Fa ?_
           refine xl_Ld ?_
           refine xl_Fa ?_
           refine xl_Ld ?_
           refine xl_v (v_add (by omega)) ?_
           refine xl_Fa ?_
           refine xl_s (e_store fun w47 l47 k47 => ?_)
           refine xl_nil ?_
           refine x_seq ?_
           refine x_regionL ?_
           refine xl_La ?_
           refine xl_s (e_storeA fun w48 l48 k48 => ?_)
           refine xl_nil ?_
           refine x_ret ?_
           refine finR (rs := [.cell 4 42]) rfl ?_
           refine ⟨?_, lkc⟩
           first
            | (rw [hnear2]; rfl)
            | (exfalso; omega)
            | (rw [hnear]; rfl)
            | (have hnk : ¬ (kd = 4 ∧ inN aa R.np) := by
                rintro ⟨q1, q2⟩
                have q3 := q2.1
                have q4 := q2.2
                first
                 | (simp at g33; exact g33 q1)
                 | (simp at g38; omega)
                 | (simp at c2; omega)
               have hn : (⟨kd, aa, ab, an, ao, fl, nr, li⟩ : Ct.Act).near' R.pure = ⟨kd, aa, ab, an, ao, fl, nr, li⟩ := by
                rw [hnear]
                split
                ·next q =>
                 split
                 ·next q2 => exact absurd ⟨q, q2⟩ hnk
                 ·rfl
                ·split
                 ·next q =>
                  split
                  ·next q2 =>
                   have q3 := q2.1
                   have q4 := q2.2
                   exfalso
                   first
                    | (simp at g71; omega)
                    | (simp at g76; omega)
                    | (simp at c3; omega)
                  ·rfl
                 ·rfl
               rw [hn]; rfl)
         ·
          refine x_skip ?_
          refine x_seq ?_
          refine x_regionL ?_
          refine xl_La ?_
          refine xl_s (e_storeA fun w49 l49 k49 => ?_)
          refine xl_nil ?_
          refine x_ret ?_
          refine finR (rs := [.cell 4 42]) rfl ?_
          refine ⟨?_, lkc⟩
          first
           | (rw [hnear2]; rfl)
           | (exfalso; omega)
           | (rw [hnear]; rfl)
           | (have hnk : ¬ (kd = 4 ∧ inN aa R.np) := by
               rintro ⟨q1, q2⟩
               have q3 := q2.1
               have q4 := q2.2
               first
                | (simp at g33; exact g33 q1)
                | (simp at g38; omega)
                | (simp at c2; omega)
              have hn : (⟨kd, aa, ab, an, ao, fl, nr, li⟩ : Ct.Act).near' R.pure = ⟨kd, aa, ab, an, ao, fl, nr, li⟩ := by
               rw [hnear]
               split
               ·next q =>
                split
                ·next q2 => exact absurd ⟨q, q2⟩ hnk
                ·rfl
               ·split
                ·next q =>
                 split
                 ·next q2 =>
                  have q3 := q2.1
                  have q4 := q2.2
                  exfalso
                  first
                   | (simp at g71; omega)
                   | (simp at g76; omega)
                   | (simp at c3; omega)
                 ·rfl
                ·rfl
              rw [hn]; rfl)
        ·
         refine xl_gs rfl EvO.eq ?_
         refine xl_gs rfl EvO.eq ?_
         refine xl_gs rfl EvO.eq ?_
         refine xl_gs rfl EvO.eq ?_
         refine xl_gs rfl EvO.eq ?_
         refine xl_gs rfl EvO.eq ?_
         refine xl_Pk ?_
         refine xl_nil ?_
         refine x_condF ?_
         refine x_skip ?_
         refine x_seq ?_
         refine x_regionL ?_
         refine xl_La ?_
         refine xl_s (e_storeA fun w50 l50 k50 => ?_)
         refine xl_nil ?_
         refine x_ret ?_
         refine finR (rs := [.cell 4 42]) rfl ?_
         refine ⟨?_, lkc⟩
         first
          | (rw [hnear2]; rfl)
          | (exfalso; omega)
          | (rw [hnear]; rfl)
          | (have hnk : ¬ (kd = 4 ∧ inN aa R.np) := by
              rintro ⟨q1, q2⟩
              have q3 := q2.1
              have q4 := q2.2
              first
               | (simp at g33; exact g33 q1)
               | (simp at g38; omega)
               | (simp at c2; omega)
             have hn : (⟨kd, aa, ab, an, ao, fl, nr, li⟩ : Ct.Act).near' R.pure = ⟨kd, aa, ab, an, ao, fl, nr, li⟩ := by
              rw [hnear]
              split
              ·next q =>
               split
               ·next q2 => exact absurd ⟨q, q2⟩ hnk
               ·rfl
              ·split
               ·next q =>
                split
                ·next q2 =>
                 have q3 := q2.1
                 have q4 := q2.2
                 exfalso
                 first
                  | (simp at g71; omega)
                  | (simp at g76; omega)
                  | (simp at c3; omega)
                ·rfl
               ·rfl
             rw [hn]; rfl)
       ·
        refine xl_gs rfl EvO.eq ?_
        refine xl_gs rfl EvO.eq ?_
        refine xl_gs rfl EvO.eq ?_
        refine xl_Pk ?_
        refine xl_v v_move ?_
        refine xl_gs rfl EvO.eq ?_
        refine xl_gs rfl EvO.eq ?_
        refine xl_gs rfl EvO.eq ?_
        refine xl_gs rfl EvO.eq ?_
        refine xl_gs rfl EvO.eq ?_
        refine xl_gs rfl EvO.eq ?_
        refine xl_Pk ?_
        refine xl_nil ?_
        refine x_condF ?_
        refine x_skip ?_
        refine x_seq ?_
        refine x_regionL ?_
        refine xl_La ?_
        refine xl_s (e_storeA fun w51 l51 k51 => ?_)
        refine xl_nil ?_
        refine x_ret ?_
        refine finR (rs := [.cell 4 42]) rfl ?_
        refine ⟨?_, lkc⟩
        first
         | (rw [hnear2]; rfl)
         | (exfalso; omega)
         | (rw [hnear]; rfl)
         | (have hnk : ¬ (kd = 4 ∧ inN aa R.np) := by
             rintro ⟨q1, q2⟩
             have q3 := q2.1
             have q4 := q2.2
             first
              | (simp at g33; exact g33 q1)
              | (simp at g38; omega)
              | (simp at c2; omega)
            have hn : (⟨kd, aa, ab, an, ao, fl, nr, li⟩ : Ct.Act).near' R.pure = ⟨kd, aa, ab, an, ao, fl, nr, li⟩ := by
             rw [hnear]
             split
             ·next q =>
              split
              ·next q2 => exact absurd ⟨q, q2⟩ hnk
              ·rfl
             ·split
              ·next q =>
               split
               ·next q2 =>
                have q3 := q2.1
                have q4 := q2.2
                exfalso
                first
                 | (simp at g71; omega)
                 | (simp at g76; omega)
                 | (simp at c3; omega)
               ·rfl
              ·rfl
            rw [hn]; rfl)
theorem near_ok (x : LAct) (R : LMeta) (F : Nat → Prop) (w : World) (h : RefAt w F R) (hok : R.pure.ok) : Ret Try.prog 37 #[.agg (actC x).toArray, .agg (metaC R).toArray] w (fun v w' => v = .agg (actC ⟨x.a.near' R.pure, x.A, x.c⟩).toArray ∧ Lk w' w NoB) :=
 near0_ok x.a.kind x.a.a x.a.b x.a.n x.a.o x.a.flag x.a.near x.a.list x.A x.c R F w h hok

end Go.Proofs.Ytnjpladlfiaojaa
