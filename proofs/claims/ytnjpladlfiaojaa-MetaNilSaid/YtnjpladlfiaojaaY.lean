/-
 Walks, printed by a program of this workplace (wip/tools/sx.py) off the functions' code and a text of contracts.
-/
import Derived.Test.YtnjpladlfiaojaaX
set_option linter.all false
set_option maxRecDepth 100000
set_option synthInstance.maxSize 100000
set_option synthInstance.maxHeartbeats 400000
namespace Go.Proofs.Ytnjpladlfiaojaa
open Go.Wst
open Go.Wst.Ct
set_option maxHeartbeats 1000000 in
/-- waystation/waystationref10.New -/
theorem refnew_ok (nb np ni : Nat) (w : World) (hb4 : 1 ≤ nb ∧ nb ≤ 4) (hp4 : 1 ≤ np ∧ np ≤ 4) (hi4 : 1 ≤ ni ∧ ni ≤ 4) : Ret Try.prog 15 #[.agg #[.int .i64 (nb : Int), .int .i64 (np : Int), .int .i64 (ni : Int)]] w (fun v w' => (∃ R F', v = .agg (metaC R).toArray ∧ R.pure = new nb np ni ∧ RefAt w' F' R ∧ Sub F' NoB w) ∧ Lk w' w NoB) := by
 refine ret_of_x (N := 51) (l := [.agg #[.int .i64 (nb : Int), .int .i64 (np : Int), .int .i64 (ni : Int)]]) Try.func15 rfl rfl (Nat.le_of_ble_eq_true rfl) ?_
 refine x_seq ?_
 refine x_regionL ?_
 refine xl_e (e_box fun b1 w1 n1 l1 k1 => ?_)
 refine xl_e (e_alloc fun b2 w2 n2 l2 k2 => ?_)
 refine xl_nil ?_
 refine x_seq ?_
 refine x_regionL ?_
 refine xl_La ?_
 refine xl_v v_build ?_
 refine xl_e (e_alloc fun bm w3 nm lm km => ?_)
 refine xl_s (e_storeA fun w4 l4 k4 => ?_)
 refine xl_nil ?_
 refine x_seq ?_
 refine x_regionL ?_
 refine xl_v v_assign ?_
 refine xl_nil ?_
 refine x_seq ?_
 refine x_seq ?_
 refine x_regionL ?_
 refine xl_v v_assign ?_
 refine xl_nil ?_
 refine x_block ?_
 have hb1l : (w4).heap[b1]? = _ := Blk.eq
 have hb2l : (w4).heap[b2]? = _ := Blk.eq
 have hbml : (w4).heap[bm]? = _ := Blk.eq
 have hbmw : w.heap.size ≤ bm := by rw [nm.eq]; exact Ge.le
 have hb2w : w.heap.size ≤ b2 := by rw [n2.eq]; exact Ge.le
 have hne1 : b1 ≠ bm := NeB.ne
 have hne2 : b2 ≠ bm := NeB.ne
 haveI nbm1 : NeB b1 bm := ⟨hne1⟩
 haveI nbm2 : NeB b2 bm := ⟨hne2⟩
 obtain ⟨wL, hwL⟩ : ∃ x, x = w4 := ⟨_, rfl⟩
 have hwwL : Keep NoB w wL := by rw [hwL]; exact kpc
 haveI lkLw : Lk wL w NoB := ⟨hwwL⟩
 rw [← hwL] at hb1l hb2l hbml
 haveI : Blk wL b1 _ := ⟨hb1l⟩
 haveI : Blk wL b2 _ := ⟨hb2l⟩
 haveI : Blk wL bm _ := ⟨hbml⟩
 haveI sbm : SubF (OneB bm) NoB w := subNew1 hbmw (Nat.le_refl _)
 refine x_loop (fun m τ ds w' => ds = [] ∧ ∃ (k : Nat) (LA : Option Addr) (lc : Nat) (AA : Option Addr) (ac : Nat), m = nb - k ∧ k ≤ nb ∧ OwnI w' LA k lc wL.heap.size 4 1 k (bools (List.replicate k true)) ∧ NewA LA wL ∧ OwnI w' AA k ac wL.heap.size 3 1 k (ints (upTo k)) ∧ NewA AA wL ∧ ApA LA AA ∧ w'.heap[bm]? = some (.cells [.int .i64 (nb : Int), .int .i64 (np : Int), .int .i64 (ni : Int), .slice LA k lc, .slice none 0 0, .slice none 0 0].toArray 35 (0, 0)) ∧ Ev τ 1 (.pointer (some ⟨b1, 0, none⟩)) ∧ Ev τ 2 (.pointer (some ⟨b2, 0, none⟩)) ∧ Ev τ 3 (.pointer (some ⟨bm, 0, none⟩)) ∧ Ev τ 4 (.slice AA k ac) ∧ Ev τ 5 (.int .i64 (k : Int)) ∧ Lk w' wL (OneB bm)) (nb) ?start ?round
 case start =>
  exact ⟨rfl, 0, none, 0, none, 0, rfl, Nat.zero_le _, ⟨World.ownsRow_nil _ _ _ _⟩, newA_none _, ⟨World.ownsRow_nil _ _ _ _⟩, newA_none _, inferInstance, by rw [← hwL]; exact hbml, inferInstance, inferInstance, inferInstance, inferInstance, evc, by rw [hwL]; exact lkc⟩
 case round =>
  intro m τ5 ds5 w5 hI
  obtain ⟨rfl, k, LA, lc, AA, ac, rfl, hk, oL, nL, oA, nA, ap, hbm, e1, e2, e3, e4, e5, lk⟩ := hI
  haveI kbm : Blk w5 bm _ := ⟨hbm⟩
  haveI ap2 : ApA AA LA := ap.symm
  refine x_seq ?_
  refine x_seq ?_
  refine x_regionL ?_
  refine xl_v v_move ?_
  refine xl_Fa ?_
  refine xl_Ld ?_
  refine xl_v v_lss ?_
  refine xl_nil ?_
  first | refine x_condP (fun c1 => ?_) (fun c1 => ?_) | refine x_condN (fun c1 => ?_) (fun c1 => ?_) | refine x_condE (fun c1 => ?_) (fun c1 => ?_)
  ·
   refine x_skip ?_
   refine x_seq ?_
   refine x_block ?_
   refine x_seq ?_
   refine x_regionL ?_
   refine xl_Fa ?_
   refine xl_Ld ?_
   refine xl_e (e_buildSlice1 rfl fun b8 w6 n8 l8 k8 => ?_)
   refine xl_e (e_app (by simp) (by decide) (by omega) (by omega) (by first | exact Ge.le | omega) fun Aa ca w7 oa la aa fa => ?_)
   refine xl_Fa ?_
   refine xl_s (e_store fun w8 l8 k8 => ?_)
   refine xl_nil ?_
   refine x_regionL ?_
   refine xl_v v_move ?_
   refine xl_v v_move ?_
   refine xl_e (e_buildSlice1 rfl fun b9 w9 n9 l9 k9 => ?_)
   refine xl_e (e_app (by simp [ints]) (by decide) (by omega) (by omega) (by first | exact Ge.le | omega) fun A9 c9 w10 o9 l10 a9 f9 => ?_)
   refine xl_v v_assign ?_
   refine xl_nil ?_
   refine x_regionL ?_
   refine xl_v v_move ?_
   refine xl_v (v_add (by omega)) ?_
   refine xl_v v_assign ?_
   refine xl_nil ?_
   refine ⟨_, ?_, rfl, k + 1, Aa, ca, A9, c9, rfl, by omega, ⟨by rw [List.replicate_succ', bools, List.map_append]; exact (OwnI.own : World.ownsRow w10 _ _ _ (.slice Aa _ ca) _ _)⟩, inferInstance, ⟨by rw [upTo_succ, ints_append]; exact o9.own⟩, inferInstance, (inferInstance : ApA A9 Aa).symm, Blk.eq, inferInstance, inferInstance, inferInstance, inferInstance, evc, lkc⟩
   omega
  ·
   refine x_exit ?_
   refine x_seq ?_
   refine x_seq ?_
   refine x_regionL ?_
   refine xl_v v_assign ?_
   refine xl_nil ?_
   refine x_block ?_
   have hkn : k = nb := by omega
   obtain ⟨wM, hwM⟩ : ∃ x, x = w5 := ⟨_, rfl⟩
   have hlM : Lk wM wL (OneB bm) := by rw [hwM]; exact lkc
   haveI lkM : Lk wM wL (OneB bm) := hlM
   have oL2 : OwnI wM LA k lc wL.heap.size 4 1 k (bools (List.replicate k true)) := by rw [hwM]; exact inferInstance
   have oA2 : OwnI wM AA k ac wL.heap.size 3 1 k (ints (upTo k)) := by rw [hwM]; exact inferInstance
   haveI := oL2
   haveI := oA2
   obtain ⟨x0, hx0⟩ : ∃ x0 : LV, x0 = ⟨v0 nb, AA, ac⟩ := ⟨_, rfl⟩
   have hua : (upTo nb).length = k := by rw [upTo_len, hkn]
   refine x_loop (fun m τ ds w' => ds = [] ∧ ∃ (q : Nat) (VA : Option Addr) (vc : Nat), m = np - q ∧ q ≤ np ∧ OwnI w' VA q vc wM.heap.size 44 4 q ((List.replicate q x0).flatMap viewC) ∧ NewA VA wM ∧ w'.heap[bm]? = some (.cells [.int .i64 (nb : Int), .int .i64 (np : Int), .int .i64 (ni : Int), .slice LA k lc, .slice VA q vc, .slice none 0 0].toArray 35 (0, 0)) ∧ Ev τ 1 (.pointer (some ⟨b1, 0, none⟩)) ∧ Ev τ 2 (.pointer (some ⟨b2, 0, none⟩)) ∧ Ev τ 3 (.pointer (some ⟨bm, 0, none⟩)) ∧ Ev τ 4 (.slice AA k ac) ∧ Ev τ 6 (.int .i64 (q : Int)) ∧ Lk w' wM (OneB bm)) (np) ?start ?round
   case start =>
    exact ⟨rfl, 0, none, 0, rfl, Nat.zero_le _, ⟨World.ownsRow_nil _ _ _ _⟩, newA_none _, Blk.eq, inferInstance, inferInstance, inferInstance, inferInstance, evc, by rw [hwM]; exact lkc⟩
   case round =>
    intro m τ11 ds11 w11 hI
    obtain ⟨rfl, q, VA, vc, rfl, hq, oV, nV, hbm2, f1, f2, f3, f4, f6, lk2⟩ := hI
    haveI kbm2 : Blk w11 bm _ := ⟨hbm2⟩
    refine x_seq ?_
    refine x_seq ?_
    refine x_regionL ?_
    refine xl_v v_move ?_
    refine xl_Fa ?_
    refine xl_Ld ?_
    refine xl_v v_lss ?_
    refine xl_nil ?_
    first | refine x_condP (fun c2 => ?_) (fun c2 => ?_) | refine x_condN (fun c2 => ?_) (fun c2 => ?_) | refine x_condE (fun c2 => ?_) (fun c2 => ?_)
    ·
     refine x_skip ?_
     refine x_seq ?_
     refine x_block ?_
     refine x_regionL ?_
     refine xl_Fa ?_
     refine xl_Ld ?_
     refine xl_v v_move ?_
     refine xl_v v_build ?_
     refine xl_e (e_buildSlice1 rfl fun b8 w12 n8 l8 k8 => ?_)
     refine xl_e (e_app (by simp) (by decide) (by omega) (by omega) (by first | exact Ge.le | omega) fun Aa ca w13 oa la aa fa => ?_)
     refine xl_Fa ?_
     refine xl_s (e_store fun w14 l14 k14 => ?_)
     refine xl_nil ?_
     refine x_regionL ?_
     refine xl_v v_move ?_
     refine xl_v (v_add (by omega)) ?_
     refine xl_v v_assign ?_
     refine xl_nil ?_
     refine ⟨_, ?_, rfl, q + 1, Aa, ca, rfl, by omega, ⟨by rw [List.replicate_succ', List.flatMap_append, hx0]; simpa [viewC, hua, hx0] using (OwnI.own : World.ownsRow w14 _ _ _ (.slice Aa _ ca) _ _)⟩, inferInstance, Blk.eq, inferInstance, inferInstance, inferInstance, inferInstance, evc, lkc⟩
     omega
    ·
     refine x_exit ?_
     refine x_seq ?_
     refine x_seq ?_
     refine x_regionL ?_
     refine xl_v v_assign ?_
     refine xl_nil ?_
     refine x_block ?_
     have hqn : q = np := by omega
     obtain ⟨wN, hwN⟩ : ∃ x, x = w11 := ⟨_, rfl⟩
     haveI lkN : Lk wN wM (OneB bm) := by rw [hwN]; exact lkc
     haveI oV2 : OwnI wN VA q vc wM.heap.size 44 4 q ((List.replicate q x0).flatMap viewC) := by rw [hwN]; exact inferInstance
     refine x_loop (fun m τ ds w' => ds = [] ∧ ∃ (t : Nat) (WA : Option Addr) (wc : Nat), m = ni - t ∧ t ≤ ni ∧ OwnI w' WA t wc wN.heap.size 52 6 t ((List.replicate t (⟨wr0, none, 0⟩ : LW)).flatMap wrC) ∧ NewA WA wN ∧ w'.heap[bm]? = some (.cells [.int .i64 (nb : Int), .int .i64 (np : Int), .int .i64 (ni : Int), .slice LA k lc, .slice VA q vc, .slice WA t wc].toArray 35 (0, 0)) ∧ Ev τ 1 (.pointer (some ⟨b1, 0, none⟩)) ∧ Ev τ 2 (.pointer (some ⟨b2, 0, none⟩)) ∧ Ev τ 3 (.pointer (some ⟨bm, 0, none⟩)) ∧ Ev τ 7 (.int .i64 (t : Int)) ∧ Lk w' wN (OneB bm)) (ni) ?start ?round
     case start =>
      exact ⟨rfl, 0, none, 0, rfl, Nat.zero_le _, ⟨World.ownsRow_nil _ _ _ _⟩, newA_none _, Blk.eq, inferInstance, inferInstance, inferInstance, evc, by rw [hwN]; exact lkc⟩
     case round =>
      intro m τ15 ds15 w15 hI
      obtain ⟨rfl, t, WA, wc, rfl, ht, oW, nW, hbm3, g1, g2, g3, g7, lk3⟩ := hI
      haveI kbm3 : Blk w15 bm _ := ⟨hbm3⟩
      refine x_seq ?_
      refine x_seq ?_
      refine x_regionL ?_
      refine xl_v v_move ?_
      refine xl_Fa ?_
      refine xl_Ld ?_
      refine xl_v v_lss ?_
      refine xl_nil ?_
      first | refine x_condP (fun c3 => ?_) (fun c3 => ?_) | refine x_condN (fun c3 => ?_) (fun c3 => ?_) | refine x_condE (fun c3 => ?_) (fun c3 => ?_)
      ·
       refine x_skip ?_
       refine x_seq ?_
       refine x_block ?_
       refine x_regionL ?_
       refine xl_Fa ?_
       refine xl_Ld ?_
       refine xl_v v_build ?_
       refine xl_e (e_buildSlice1 rfl fun b8 w16 n8 l8 k8 => ?_)
       refine xl_e (e_app (by simp) (by decide) (by omega) (by omega) (by first | exact Ge.le | omega) fun Aa ca w17 oa la aa fa => ?_)
       refine xl_Fa ?_
       refine xl_s (e_store fun w18 l18 k18 => ?_)
       refine xl_nil ?_
       refine x_regionL ?_
       refine xl_v v_move ?_
       refine xl_v (v_add (by omega)) ?_
       refine xl_v v_assign ?_
       refine xl_nil ?_
       refine ⟨_, ?_, rfl, t + 1, Aa, ca, rfl, by omega, ⟨by rw [List.replicate_succ', List.flatMap_append]; simpa [wrC, wr0] using (OwnI.own : World.ownsRow w18 _ _ _ (.slice Aa _ ca) _ _)⟩, inferInstance, Blk.eq, inferInstance, inferInstance, inferInstance, evc, lkc⟩
       omega
      ·
       refine x_exit ?_
       refine x_seq ?_
       refine x_regionL ?_
       refine xl_La ?_
       refine xl_s (e_storeA fun w19 l19 k19 => ?_)
       refine xl_nil ?_
       refine x_ret ?_
       refine finR (rs := [.cell 2 35]) rfl ?_
       have htn : t = ni := by omega
       have oLw : World.ownsRow w19 _ _ _ (.slice LA _ lc) _ _ := OwnI.own
       have oAw : World.ownsRow w19 _ _ _ (.slice AA _ ac) _ _ := OwnI.own
       have oVw : World.ownsRow w19 _ _ _ (.slice VA _ vc) _ _ := OwnI.own
       have oWw : World.ownsRow w19 _ _ _ (.slice WA _ wc) _ _ := OwnI.own
       have hMs : wL.heap.size ≤ wM.heap.size := lkM.keep.size
       have hNs : wM.heap.size ≤ wN.heap.size := lkN.keep.size
       refine ⟨⟨⟨nb, np, ni, List.replicate k true, LA, lc, List.replicate q x0, VA, vc, List.replicate t ⟨wr0, none, 0⟩, WA, wc⟩, grown NoB w w19, by simp [outV, metaC], ?_, ⟨?_, ?_, ?_, ?_, ?_, ?_⟩, grown_sub⟩, lkc⟩
       ·simp [LMeta.pure, new, hkn, hqn, htn, hx0]
       ·exact FRow.own oLw hwwL.size
       ·exact FRow.own oVw (Nat.le_trans hwwL.size hMs)
       ·exact FRow.own oWw (Nat.le_trans hwwL.size (Nat.le_trans hMs hNs))
       ·intro x hx
        rw [(List.mem_replicate.1 hx).2, hx0]
        show FRow _ _ AA (ints (upTo nb))
        rw [← hkn]
        exact FRow.own oAw hwwL.size
       ·intro x hx
        rw [(List.mem_replicate.1 hx).2]
        exact FRow.nil _ _
       ·exact grown_lt (fun k e => e.elim) kpc
end Go.Proofs.Ytnjpladlfiaojaa
