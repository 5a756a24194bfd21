/-
 Walks, printed by a program of this workplace (wip/tools/sx.py) off the functions' code and a text of contracts.
-/
import Derived.Test.YtnjpladlfiaojaaV
set_option linter.all false
set_option maxRecDepth 100000
set_option synthInstance.maxSize 100000
set_option synthInstance.maxHeartbeats 400000
namespace Go.Proofs.Ytnjpladlfiaojaa
open Go.Wst
open Go.Wst.Ct
set_option maxHeartbeats 1000000 in
/-- (waystation/waystationref10.Meta).Alter -/
theorem refalter_ok (R : LMeta) (F : Nat → Prop) (p b n o : Int) (A : Option Addr) (ln c : Nat) (l : List Int) (w : World) (h : RefAt w F R) (hok : R.pure.ok) [hrl : Row w A (ints l)] (hl : l.length = ln) (hln : ln ≤ 1000) (hA : l ≠ [] → ∀ a, A = some a → F a.block) : Ret Try.prog 41 #[.agg (metaC R).toArray, .int .i64 p, .agg #[.int .i64 b, .int .i64 n, .int .i64 o, .slice A ln c]] w (fun v w' => (∃ R', v = .tuple #[.agg (metaC R').toArray, .int .i64 (R.pure.alter p b n o l).2] ∧ RMade F w (R.pure.alter p b n o l).1 w' R') ∧ Lk w' w NoB) := by
 obtain ⟨hll, hvl, hwl, hnb, hnp, hni⟩ := lens hok
 have hmost : most = 2147483647 := rfl
 haveI hrb : RowB w R.VA w (R.vs.flatMap viewC) := rowB_of h.views.row
 haveI hrlB : RowB w R.LA w (bools R.lives) := rowB_of h.lives.row
 haveI hrA : RowB w A w (ints l) := rowB_of hrl.row
 have hr0 : R.pure.alter p b n o l = if ¬ inN p R.np ∨ ¬ inN b R.nb ∨ ¬ Rises R.nb l ∨ b ∉ l then (R.pure, 2) else if (R.pure.view p).lead ≠ b ∨ (R.pure.view p).epoch ≠ n ∨ (R.pure.view p).ver ≠ o then (R.pure, 200) else if l.any (fun x => !R.pure.live x) then (R.pure, 201) else if (R.pure.view p).ver = most then (R.pure, 204) else (R.pure.setV p ⟨(R.pure.view p).lead, (R.pure.view p).epoch, (R.pure.view p).ver + 1, l⟩, 0) := rfl
 refine ret_of_x (N := 108) (l := [.agg (metaC R).toArray, .int .i64 p, .agg #[.int .i64 b, .int .i64 n, .int .i64 o, .slice A ln c]]) Try.func41 rfl rfl (Nat.le_of_ble_eq_true rfl) ?_
 refine x_seq ?_
 refine x_regionL ?_
 refine xl_e (e_box fun b1 w1 n1 l1 k1 => ?_)
 refine xl_e (e_box fun b2 w2 n2 l2 k2 => ?_)
 refine xl_e (e_alloc fun b3 w3 n3 l3 k3 => ?_)
 refine xl_v v_assign ?_
 refine xl_nil ?_
 refine x_seq ?_
 refine x_seq ?_
 refine x_regionL ?_
 refine xl_v v_move ?_
 refine xl_v v_lss ?_
 refine xl_v v_move ?_
 refine xl_split 12 (fun g12 => ?_) (fun g12 => ?_)
 ·
  refine xl_gs rfl EvO.eq ?_
  refine xl_gs rfl EvO.eq ?_
  refine xl_gs rfl EvO.eq ?_
  refine xl_gs rfl EvO.eq ?_
  refine xl_gs rfl EvO.eq ?_
  refine xl_Pk ?_
  refine xl_v v_move ?_
  refine xl_gs rfl EvO.eq ?_
  refine xl_gs rfl EvO.eq ?_
  refine xl_gs rfl EvO.eq ?_
  refine xl_Pk ?_
  refine xl_v v_move ?_
  refine xl_gs rfl EvO.eq ?_
  refine xl_gs rfl EvO.eq ?_
  refine xl_gs rfl EvO.eq ?_
  refine xl_gs rfl EvO.eq ?_
  refine xl_gs rfl EvO.eq ?_
  refine xl_gs rfl EvO.eq ?_
  refine xl_Pk ?_
  refine xl_v v_move ?_
  refine xl_gs rfl EvO.eq ?_
  refine xl_gs rfl EvO.eq ?_
  refine xl_gs rfl EvO.eq ?_
  refine xl_gs rfl EvO.eq ?_
  refine xl_gs rfl EvO.eq ?_
  refine xl_gs rfl EvO.eq ?_
  refine xl_gs rfl EvO.eq ?_
  refine xl_Pk ?_
  refine xl_v v_move ?_
  refine xl_gs rfl EvO.eq ?_
  refine xl_gs rfl EvO.eq ?_
  refine xl_gs rfl EvO.eq ?_
  refine xl_gs rfl EvO.eq ?_
  refine xl_gs rfl EvO.eq ?_
  refine xl_gs rfl EvO.eq ?_
  refine xl_Pk ?_
  refine xl_nil ?_
  refine x_condT ?_
  refine x_seq ?_
  refine x_regionL ?_
  refine xl_La ?_
  refine xl_s (e_storeA fun w4 l4 k4 => ?_)
  refine xl_v v_assign ?_
  refine xl_nil ?_
  refine x_ret ?_
  refine finR (rs := [.cell 6 35, .tmp 7]) rfl ?_
  have hn : ¬ inN p R.np ∨ ¬ inN b R.nb ∨ ¬ Rises R.nb l ∨ b ∉ l := by
   first
    | (simp at g12; exact .inl (by unfold inN; omega))
    | (simp at g19; exact .inl (by unfold inN; omega))
    | (simp at g24; exact .inr (.inl (by unfold inN; omega)))
    | (simp at g32; exact .inr (.inl (by unfold inN; omega)))
    | (simp at g41; exact .inr (.inr (.inl g41)))
    | (simp at c1; exact .inr (.inr (.inr c1)))
  rw [if_pos hn] at hr0
  exact ⟨⟨R, by rw [hr0]; rfl, RMade.stay h kpc (by rw [hr0])⟩, lkc⟩
 ·
  refine xl_gv rfl EvO.eq v_move ?_
  refine xl_gFa rfl EvO.eq ?_
  refine xl_gFa rfl EvO.eq ?_
  refine xl_gLd rfl EvO.eq ?_
  refine xl_gv rfl EvO.eq v_geq ?_
  refine xl_Pk ?_
  refine xl_v v_move ?_
  refine xl_split 19 (fun g19 => ?_) (fun g19 => ?_)
  ·
   refine xl_gs rfl EvO.eq ?_
   refine xl_gs rfl EvO.eq ?_
   refine xl_gs rfl EvO.eq ?_
   refine xl_Pk ?_
   refine xl_v v_move ?_
   refine xl_gs rfl EvO.eq ?_
   refine xl_gs rfl EvO.eq ?_
   refine xl_gs rfl EvO.eq ?_
   refine xl_gs rfl EvO.eq ?_
   refine xl_gs rfl EvO.eq ?_
   refine xl_gs rfl EvO.eq ?_
   refine xl_Pk ?_
   refine xl_v v_move ?_
   refine xl_gs rfl EvO.eq ?_
   refine xl_gs rfl EvO.eq ?_
   refine xl_gs rfl EvO.eq ?_
   refine xl_gs rfl EvO.eq ?_
   refine xl_gs rfl EvO.eq ?_
   refine xl_gs rfl EvO.eq ?_
   refine xl_gs rfl EvO.eq ?_
   refine xl_Pk ?_
   refine xl_v v_move ?_
   refine xl_gs rfl EvO.eq ?_
   refine xl_gs rfl EvO.eq ?_
   refine xl_gs rfl EvO.eq ?_
   refine xl_gs rfl EvO.eq ?_
   refine xl_gs rfl EvO.eq ?_
   refine xl_gs rfl EvO.eq ?_
   refine xl_Pk ?_
   refine xl_nil ?_
   refine x_condT ?_
   refine x_seq ?_
   refine x_regionL ?_
   refine xl_La ?_
   refine xl_s (e_storeA fun w5 l5 k5 => ?_)
   refine xl_v v_assign ?_
   refine xl_nil ?_
   refine x_ret ?_
   refine finR (rs := [.cell 6 35, .tmp 7]) rfl ?_
   have hn : ¬ inN p R.np ∨ ¬ inN b R.nb ∨ ¬ Rises R.nb l ∨ b ∉ l := by
    first
     | (simp at g12; exact .inl (by unfold inN; omega))
     | (simp at g19; exact .inl (by unfold inN; omega))
     | (simp at g24; exact .inr (.inl (by unfold inN; omega)))
     | (simp at g32; exact .inr (.inl (by unfold inN; omega)))
     | (simp at g41; exact .inr (.inr (.inl g41)))
     | (simp at c1; exact .inr (.inr (.inr c1)))
   rw [if_pos hn] at hr0
   exact ⟨⟨R, by rw [hr0]; rfl, RMade.stay h kpc (by rw [hr0])⟩, lkc⟩
  ·
   refine xl_gFa rfl EvO.eq ?_
   refine xl_gLd rfl EvO.eq ?_
   refine xl_gv rfl EvO.eq v_lss ?_
   refine xl_Pk ?_
   refine xl_v v_move ?_
   refine xl_split 24 (fun g24 => ?_) (fun g24 => ?_)
   ·
    refine xl_gs rfl EvO.eq ?_
    refine xl_gs rfl EvO.eq ?_
    refine xl_gs rfl EvO.eq ?_
    refine xl_gs rfl EvO.eq ?_
    refine xl_gs rfl EvO.eq ?_
    refine xl_gs rfl EvO.eq ?_
    refine xl_Pk ?_
    refine xl_v v_move ?_
    refine xl_gs rfl EvO.eq ?_
    refine xl_gs rfl EvO.eq ?_
    refine xl_gs rfl EvO.eq ?_
    refine xl_gs rfl EvO.eq ?_
    refine xl_gs rfl EvO.eq ?_
    refine xl_gs rfl EvO.eq ?_
    refine xl_gs rfl EvO.eq ?_
    refine xl_Pk ?_
    refine xl_v v_move ?_
    refine xl_gs rfl EvO.eq ?_
    refine xl_gs rfl EvO.eq ?_
    refine xl_gs rfl EvO.eq ?_
    refine xl_gs rfl EvO.eq ?_
    refine xl_gs rfl EvO.eq ?_
    refine xl_gs rfl EvO.eq ?_
    refine xl_Pk ?_
    refine xl_nil ?_
    refine x_condT ?_
    refine x_seq ?_
    refine x_regionL ?_
    refine xl_La ?_
    refine xl_s (e_storeA fun w6 l6 k6 => ?_)
    refine xl_v v_assign ?_
    refine xl_nil ?_
    refine x_ret ?_
    refine finR (rs := [.cell 6 35, .tmp 7]) rfl ?_
    have hn : ¬ inN p R.np ∨ ¬ inN b R.nb ∨ ¬ Rises R.nb l ∨ b ∉ l := by
     first
      | (simp at g12; exact .inl (by unfold inN; omega))
      | (simp at g19; exact .inl (by unfold inN; omega))
      | (simp at g24; exact .inr (.inl (by unfold inN; omega)))
      | (simp at g32; exact .inr (.inl (by unfold inN; omega)))
      | (simp at g41; exact .inr (.inr (.inl g41)))
      | (simp at c1; exact .inr (.inr (.inr c1)))
    rw [if_pos hn] at hr0
    exact ⟨⟨R, by rw [hr0]; rfl, RMade.stay h kpc (by rw [hr0])⟩, lkc⟩
   ·
    refine xl_gFa rfl EvO.eq ?_
    refine xl_gLd rfl EvO.eq ?_
    refine xl_gFa rfl EvO.eq ?_
    refine xl_gFa rfl EvO.eq ?_
    refine xl_gLd rfl EvO.eq ?_
    refine xl_gv rfl EvO.eq v_geq ?_
    refine xl_Pk ?_
    refine xl_v v_move ?_
    refine xl_split 32 (fun g32 => ?_) (fun g32 => ?_)
    ·
     refine xl_gs rfl EvO.eq ?_
     refine xl_gs rfl EvO.eq ?_
     refine xl_gs rfl EvO.eq ?_
     refine xl_gs rfl EvO.eq ?_
     refine xl_gs rfl EvO.eq ?_
     refine xl_gs rfl EvO.eq ?_
     refine xl_gs rfl EvO.eq ?_
     refine xl_Pk ?_
     refine xl_v v_move ?_
     refine xl_gs rfl EvO.eq ?_
     refine xl_gs rfl EvO.eq ?_
     refine xl_gs rfl EvO.eq ?_
     refine xl_gs rfl EvO.eq ?_
     refine xl_gs rfl EvO.eq ?_
     refine xl_gs rfl EvO.eq ?_
     refine xl_Pk ?_
     refine xl_nil ?_
     refine x_condT ?_
     refine x_seq ?_
     refine x_regionL ?_
     refine xl_La ?_
     refine xl_s (e_storeA fun w7 l7 k7 => ?_)
     refine xl_v v_assign ?_
     refine xl_nil ?_
     refine x_ret ?_
     refine finR (rs := [.cell 6 35, .tmp 7]) rfl ?_
     have hn : ¬ inN p R.np ∨ ¬ inN b R.nb ∨ ¬ Rises R.nb l ∨ b ∉ l := by
      first
       | (simp at g12; exact .inl (by unfold inN; omega))
       | (simp at g19; exact .inl (by unfold inN; omega))
       | (simp at g24; exact .inr (.inl (by unfold inN; omega)))
       | (simp at g32; exact .inr (.inl (by unfold inN; omega)))
       | (simp at g41; exact .inr (.inr (.inl g41)))
       | (simp at c1; exact .inr (.inr (.inr c1)))
     rw [if_pos hn] at hr0
     exact ⟨⟨R, by rw [hr0]; rfl, RMade.stay h kpc (by rw [hr0])⟩, lkc⟩
    ·
     refine xl_gFa rfl EvO.eq ?_
     refine xl_gLd rfl EvO.eq ?_
     refine xl_gFa rfl EvO.eq ?_
     refine xl_gFa rfl EvO.eq ?_
     refine xl_gLd rfl EvO.eq ?_
     refine xl_gcall rfl EvO.eq (refrises_ok A ln c l R.nb w3 hl (by omega)) ?_
     rintro _ w8 ⟨rfl, lk5⟩
     refine xl_gv rfl EvO.eq v_not ?_
     refine xl_Pk ?_
     refine xl_v v_move ?_
     refine xl_split 41 (fun g41 => ?_) (fun g41 => ?_)
     ·
      refine xl_gs rfl EvO.eq ?_
      refine xl_gs rfl EvO.eq ?_
      refine xl_gs rfl EvO.eq ?_
      refine xl_gs rfl EvO.eq ?_
      refine xl_gs rfl EvO.eq ?_
      refine xl_gs rfl EvO.eq ?_
      refine xl_Pk ?_
      refine xl_nil ?_
      refine x_condT ?_
      refine x_seq ?_
      refine x_regionL ?_
      refine xl_La ?_
      refine xl_s (e_storeA fun w9 l9 k9 => ?_)
      refine xl_v v_assign ?_
      refine xl_nil ?_
      refine x_ret ?_
      refine finR (rs := [.cell 6 35, .tmp 7]) rfl ?_
      have hn : ¬ inN p R.np ∨ ¬ inN b R.nb ∨ ¬ Rises R.nb l ∨ b ∉ l := by
       first
        | (simp at g12; exact .inl (by unfold inN; omega))
        | (simp at g19; exact .inl (by unfold inN; omega))
        | (simp at g24; exact .inr (.inl (by unfold inN; omega)))
        | (simp at g32; exact .inr (.inl (by unfold inN; omega)))
        | (simp at g41; exact .inr (.inr (.inl g41)))
        | (simp at c1; exact .inr (.inr (.inr c1)))
      rw [if_pos hn] at hr0
      exact ⟨⟨R, by rw [hr0]; rfl, RMade.stay h kpc (by rw [hr0])⟩, lkc⟩
     ·
      refine xl_gFa rfl EvO.eq ?_
      refine xl_gLd rfl EvO.eq ?_
      refine xl_gFa rfl EvO.eq ?_
      refine xl_gLd rfl EvO.eq ?_
      refine xl_gcall rfl EvO.eq (refin_ok A ln c l b w8 hl (by omega)) ?_
      rintro _ w10 ⟨rfl, lk6⟩
      refine xl_gv rfl EvO.eq v_not ?_
      refine xl_Pk ?_
      refine xl_nil ?_
      refine x_condE (fun c1 => ?_) (fun c1 => ?_)
      ·
       refine x_seq ?_
       refine x_regionL ?_
       refine xl_La ?_
       refine xl_s (e_storeA fun w11 l11 k11 => ?_)
       refine xl_v v_assign ?_
       refine xl_nil ?_
       refine x_ret ?_
       refine finR (rs := [.cell 6 35, .tmp 7]) rfl ?_
       have hn : ¬ inN p R.np ∨ ¬ inN b R.nb ∨ ¬ Rises R.nb l ∨ b ∉ l := by
        first
         | (simp at g12; exact .inl (by unfold inN; omega))
         | (simp at g19; exact .inl (by unfold inN; omega))
         | (simp at g24; exact .inr (.inl (by unfold inN; omega)))
         | (simp at g32; exact .inr (.inl (by unfold inN; omega)))
         | (simp at g41; exact .inr (.inr (.inl g41)))
         | (simp at c1; exact .inr (.inr (.inr c1)))
       rw [if_pos hn] at hr0
       exact ⟨⟨R, by rw [hr0]; rfl, RMade.stay h kpc (by rw [hr0])⟩, lkc⟩
      ·
       have hnn : inN p R.np ∧ inN b R.nb ∧ Rises R.nb l ∧ b ∈ l := by
        simp at g12 g19 g24 g32 g41 c1
        exact ⟨⟨by omega, by omega⟩, ⟨by omega, by omega⟩, g41, c1⟩
       obtain ⟨hn, hnb2, hri, hbl⟩ := hnn
       rw [if_neg (fun e => by rcases e with e | e | e | e; exact e hn; exact e hnb2; exact e hri; exact e hbl)] at hr0
       have hne : l ≠ [] := fun e => by rw [e] at hbl; cases hbl
       obtain ⟨i, rfl, hi⟩ := nat_of hn
       have hi : i < R.vs.length := by omega
       have ho := hok.view hn
       rw [view_at hi] at hr0 ho
       have hv0 := ho.v0
       have hv1 := ho.v1
       refine x_skip ?_
       refine x_seq ?_
       refine x_regionL ?_
       refine xl_Fa ?_
       refine xl_Ld ?_
       refine xl_v v_move ?_
       refine xl_v (v_indexF i (by decide) rfl (by omega) hi) ?_
       refine xl_v (v_loadF (k := i) (by decide) hi) ?_
       refine xl_e (e_alloc fun bw w12 nw lw kw => ?_)
       refine xl_s (e_storeA fun w13 l13 k13 => ?_)
       refine xl_nil ?_
       refine x_seq ?_
       refine x_seq ?_
       refine x_regionL ?_
       refine xl_Fa ?_
       refine xl_Ld ?_
       refine xl_Fa ?_
       refine xl_Ld ?_
       refine xl_v v_neq ?_
       refine xl_v v_move ?_
       refine xl_split 60 (fun g60 => ?_) (fun g60 => ?_)
       ·
        refine xl_gs rfl EvO.eq ?_
        refine xl_gs rfl EvO.eq ?_
        refine xl_gs rfl EvO.eq ?_
        refine xl_gs rfl EvO.eq ?_
        refine xl_gs rfl EvO.eq ?_
        refine xl_Pk ?_
        refine xl_v v_move ?_
        refine xl_gs rfl EvO.eq ?_
        refine xl_gs rfl EvO.eq ?_
        refine xl_gs rfl EvO.eq ?_
        refine xl_gs rfl EvO.eq ?_
        refine xl_gs rfl EvO.eq ?_
        refine xl_Pk ?_
        refine xl_nil ?_
        refine x_condT ?_
        refine x_seq ?_
        refine x_regionL ?_
        refine xl_La ?_
        refine xl_s (e_storeA fun w14 l14 k14 => ?_)
        refine xl_v v_assign ?_
        refine xl_nil ?_
        refine x_ret ?_
        refine finR (rs := [.cell 6 35, .tmp 7]) rfl ?_
        have hE : R.vs[i].v.lead ≠ b ∨ R.vs[i].v.epoch ≠ n ∨ R.vs[i].v.ver ≠ o := by
         first
          | (simp at g60; exact .inl g60)
          | (simp at g67; exact .inr (.inl g67))
          | (simp at c2; exact .inr (.inr c2))
        rw [if_pos hE] at hr0
        exact ⟨⟨R, by rw [hr0]; rfl, RMade.stay h kpc (by rw [hr0])⟩, lkc⟩
       ·
        refine xl_gFa rfl EvO.eq ?_
        refine xl_gLd rfl EvO.eq ?_
        refine xl_gFa rfl EvO.eq ?_
        refine xl_gLd rfl EvO.eq ?_
        refine xl_gv rfl EvO.eq v_neq ?_
        refine xl_Pk ?_
        refine xl_v v_move ?_
        refine xl_split 67 (fun g67 => ?_) (fun g67 => ?_)
        ·
         refine xl_gs rfl EvO.eq ?_
         refine xl_gs rfl EvO.eq ?_
         refine xl_gs rfl EvO.eq ?_
         refine xl_gs rfl EvO.eq ?_
         refine xl_gs rfl EvO.eq ?_
         refine xl_Pk ?_
         refine xl_nil ?_
         refine x_condT ?_
         refine x_seq ?_
         refine x_regionL ?_
         refine xl_La ?_
         refine xl_s (e_storeA fun w15 l15 k15 => ?_)
         refine xl_v v_assign ?_
         refine xl_nil ?_
         refine x_ret ?_
         refine finR (rs := [.cell 6 35, .tmp 7]) rfl ?_
         have hE : R.vs[i].v.lead ≠ b ∨ R.vs[i].v.epoch ≠ n ∨ R.vs[i].v.ver ≠ o := by
          first
           | (simp at g60; exact .inl g60)
           | (simp at g67; exact .inr (.inl g67))
           | (simp at c2; exact .inr (.inr c2))
         rw [if_pos hE] at hr0
         exact ⟨⟨R, by rw [hr0]; rfl, RMade.stay h kpc (by rw [hr0])⟩, lkc⟩
        ·
         refine xl_gFa rfl EvO.eq ?_
         refine xl_gLd rfl EvO.eq ?_
         refine xl_gFa rfl EvO.eq ?_
         refine xl_gLd rfl EvO.eq ?_
         refine xl_gv rfl EvO.eq v_neq ?_
         refine xl_Pk ?_
         refine xl_nil ?_
         refine x_condE (fun c2 => ?_) (fun c2 => ?_)
         ·
          refine x_seq ?_
          refine x_regionL ?_
          refine xl_La ?_
          refine xl_s (e_storeA fun w16 l16 k16 => ?_)
          refine xl_v v_assign ?_
          refine xl_nil ?_
          refine x_ret ?_
          refine finR (rs := [.cell 6 35, .tmp 7]) rfl ?_
          have hE : R.vs[i].v.lead ≠ b ∨ R.vs[i].v.epoch ≠ n ∨ R.vs[i].v.ver ≠ o := by
           first
            | (simp at g60; exact .inl g60)
            | (simp at g67; exact .inr (.inl g67))
            | (simp at c2; exact .inr (.inr c2))
          rw [if_pos hE] at hr0
          exact ⟨⟨R, by rw [hr0]; rfl, RMade.stay h kpc (by rw [hr0])⟩, lkc⟩
         ·
          have hE : ¬ (R.vs[i].v.lead ≠ b ∨ R.vs[i].v.epoch ≠ n ∨ R.vs[i].v.ver ≠ o) := by
           simp at g60 g67 c2
           rintro (e | e | e)
           ·exact e g60
           ·exact e g67
           ·exact e c2
          rw [if_neg hE] at hr0
          refine x_skip ?_
          refine x_seq ?_
          refine x_seq ?_
          refine x_regionL ?_
          refine xl_v v_assign ?_
          refine xl_nil ?_
          refine x_block ?_
          have hb2l : (w13).heap[b3]? = _ := Blk.eq
          obtain ⟨wL, hwL⟩ : ∃ x, x = w13 := ⟨_, rfl⟩
          have hwwL : Keep NoB w wL := by rw [hwL]; exact kpc
          haveI lkLw : Lk wL w NoB := ⟨hwwL⟩
          have hbwl : (w13).heap[bw]? = _ := Blk.eq
          have hb1l : (w13).heap[b1]? = _ := Blk.eq
          have hb2l' : (w13).heap[b2]? = _ := Blk.eq
          rw [← hwL] at hb2l hbwl hb1l hb2l'
          haveI : Blk wL b3 _ := ⟨hb2l⟩
          haveI : Blk wL b1 _ := ⟨hb1l⟩
          haveI : Blk wL b2 _ := ⟨hb2l'⟩
          haveI : Blk wL bw _ := ⟨hbwl⟩
          refine x_loop (fun m τ ds w' => ds = [] ∧ ∃ (k : Nat), m = l.length - k ∧ k ≤ l.length ∧ (∀ x ∈ l.take k, R.pure.live x = true) ∧ Ev τ 1 (.int .i64 (i : Int)) ∧ Ev τ 3 (.pointer (some ⟨b1, 0, none⟩)) ∧ Ev τ 5 (.pointer (some ⟨b2, 0, none⟩)) ∧ Ev τ 6 (.pointer (some ⟨b3, 0, none⟩)) ∧ Ev τ 8 (.pointer (some ⟨bw, 0, none⟩)) ∧ Ev τ 9 (.int .i64 (k : Int)) ∧ Lk w' wL NoB) (l.length) ?start ?round
          case start =>
           exact ⟨rfl, 0, rfl, Nat.zero_le _, by simp, inferInstance, inferInstance, inferInstance, inferInstance, inferInstance, evc, by rw [hwL]; exact lkc⟩
          case round =>
           intro m τ17 ds17 w17 hI
           obtain ⟨rfl, k, rfl, hk, hall, e1, e3, e5, e6, e8, e9, lk⟩ := hI
           refine x_seq ?_
           refine x_seq ?_
           refine x_regionL ?_
           refine xl_v v_move ?_
           refine xl_Fa ?_
           refine xl_Ld ?_
           refine xl_v v_len ?_
           refine xl_v v_lss ?_
           refine xl_nil ?_
           first | refine x_condP (fun c3 => ?_) (fun c3 => ?_) | refine x_condN (fun c3 => ?_) (fun c3 => ?_) | refine x_condE (fun c3 => ?_) (fun c3 => ?_)
           ·
            have hk1 : k < l.length := by omega
            obtain ⟨q, hq, hq2⟩ := nat_of (hri.2 _ (List.getElem_mem hk1))
            have hq3 : q < R.lives.length := by omega
            refine x_skip ?_
            refine x_seq ?_
            refine x_block ?_
            refine x_seq ?_
            refine x_drawL (NoB) (allS) (.take 0 (.take 1 (.take 2 (.take 3 (.take 4 (.take 5 (.take 6 (.take 7 (.take 8 (.take 9 .done)))))))))) mixed (by kernel_rfl) (fun _ _ _ _ _ h => h) (fun w18 l18 => ?_)
            refine xt_Fa rfl ?_
            refine xt_Ld rfl ?_
            refine xt_Fa rfl ?_
            refine xt_Ld rfl ?_
            refine xt_v rfl v_move ?_
            refine xt_v rfl (v_indexO k rfl (by omega) hk1) ?_
            refine xt_v rfl (v_congr (u := .int .i64 (q : Int)) (v_loadO (k := k) hk1) (by rw [hq])) ?_
            refine xt_v rfl (v_indexO q rfl (by omega) hq3) ?_
            refine xt_v rfl (v_loadO (k := q) hq3) ?_
            refine xt_v rfl v_not ?_
            refine xt_nil ?_
            refine x_condE (fun c4 => ?_) (fun c4 => ?_)
            ·
             refine x_seq ?_
             refine x_regionL ?_
             refine xl_La ?_
             refine xl_s (e_storeA fun w19 l19 k19 => ?_)
             refine xl_v v_assign ?_
             refine xl_nil ?_
             refine x_ret ?_
             refine finR (rs := [.cell 6 35, .tmp 7]) rfl ?_
             have hE3 : l.any (fun x => !R.pure.live x) = true := List.any_eq_true.2 ⟨_, List.getElem_mem hk1, by rw [hq, live_at2 hq3]; exact c4⟩
             rw [if_pos hE3] at hr0
             exact ⟨⟨R, by rw [hr0]; rfl, RMade.stay h kpc (by rw [hr0])⟩, lkc⟩
            ·
             refine x_skip ?_
             refine x_regionL ?_
             refine xl_v v_move ?_
             refine xl_v (v_add (by omega)) ?_
             refine xl_v v_assign ?_
             refine xl_nil ?_
             refine ⟨_, ?_, rfl, k + 1, rfl, by omega, ?_, inferInstance, inferInstance, inferInstance, inferInstance, inferInstance, evc, lkc⟩
             ·omega
             ·intro x hx
              rw [take_snoc _ _ hk1] at hx
              rcases List.mem_append.1 hx with hx | hx
              ·exact hall x hx
              ·rw [List.mem_singleton.1 hx, hq, live_at2 hq3]
               simpa using c4
           ·
            refine x_exit ?_
            refine x_seq ?_
            refine x_seq ?_
            have hE3 : ¬ (l.any (fun x => !R.pure.live x) = true) := by
             rw [List.any_eq_true]
             rintro ⟨x, hx, e⟩
             rw [List.take_of_length_le (by omega)] at hall
             rw [hall x hx] at e
             cases e
            rw [if_neg hE3] at hr0
            refine x_regionL ?_
            refine xl_Fa ?_
            refine xl_Ld ?_
            refine xl_v v_eql ?_
            refine xl_nil ?_
            first | refine x_condP (fun c5 => ?_) (fun c5 => ?_) | refine x_condN (fun c5 => ?_) (fun c5 => ?_) | refine x_condE (fun c5 => ?_) (fun c5 => ?_)
            ·
             rw [if_pos c5] at hr0
             refine x_seq ?_
             refine x_regionL ?_
             refine xl_La ?_
             refine xl_s (e_storeA fun w20 l20 k20 => ?_)
             refine xl_v v_assign ?_
             refine xl_nil ?_
             refine x_ret ?_
             refine finR (rs := [.cell 6 35, .tmp 7]) rfl ?_
             exact ⟨⟨R, by rw [hr0]; rfl, RMade.stay h kpc (by rw [hr0])⟩, lkc⟩
            ·
             rw [if_neg c5] at hr0
             refine x_skip ?_
             refine x_seq ?_
             refine x_regionL ?_
             refine xl_Fa ?_
             refine xl_Ld ?_
             refine xl_Fa ?_
             refine xl_Ld ?_
             refine xl_v (v_add (by omega)) ?_
             refine xl_Fa ?_
             refine xl_s (e_store fun w21 l21 k21 => ?_)
             refine xl_Fa ?_
             refine xl_s (e_store fun w22 l22 k22 => ?_)
             refine xl_nil ?_
             refine x_seq ?_
             subst hl
             refine x_regionL ?_
             refine xl_La ?_
             refine xl_v v_move ?_
             refine xl_La ?_
             refine xl_call (refview_ok R F i ⟨⟨R.vs[i].v.lead, R.vs[i].v.epoch, R.vs[i].v.ver + 1, l⟩, A, c⟩ w22 (h.ext (kpc : Keep NoB w w22)) ⟨(inferInstance : Row w22 A (ints l)).row, hA hne⟩ hi (by omega)) ?_
             rintro _ w23 ⟨⟨A2, c2', F', rfl, hR', hs⟩, lk2⟩
             have hs2 := sub_le hs (Ge.le : w.heap.size ≤ (w22).heap.size)
             have hbx : w.heap.size ≤ b3 ∧ b3 < (w22).heap.size := ⟨by rw [n3.eq]; exact Ge.le, Has.lt⟩
             refine xl_s (e_storeA fun w24 l24 k24 => ?_)
             refine xl_v v_assign ?_
             refine xl_nil ?_
             refine x_ret ?_
             refine finR (rs := [.cell 6 35, .tmp 7]) rfl ?_
             exact ⟨⟨_, by rw [hr0]; rfl, by rw [hr0]; exact RMade.setV (hR'.cell hs h.lt hbx (kpc : Keep (OneB b3) _ w24)) hs2⟩, lkc⟩
end Go.Proofs.Ytnjpladlfiaojaa
