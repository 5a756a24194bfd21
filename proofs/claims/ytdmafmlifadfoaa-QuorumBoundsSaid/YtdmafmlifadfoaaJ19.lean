/-
 Walks, printed by a program of this workplace (wip/tools/sx.py) off the functions' code and a text of contracts.
-/
import Derived.Test.YtdmafmlifadfoaaJAN
set_option linter.all false
set_option maxRecDepth 100000
set_option synthInstance.maxSize 100000
set_option synthInstance.maxHeartbeats 400000
namespace Go.Proofs.Ytdmafmlifadfoaa
open Go.Wst
open Go.Wst.Qm
/-- Whoever seeks again and again. -/
def seeks (n : Nat) (k : Nat) : List Pk := (List.range k).map (fun i : Nat => ⟨1, ((i : Int).tmod (n : Int)), 0⟩)
theorem seeks_succ (n k : Nat) : seeks n (k + 1) = seeks n k ++ [⟨1, (k : Int).tmod (n : Int), 0⟩] := by
 unfold seeks
 rw [List.range_succ, List.map_append]
 rfl
theorem bound3 : ((Dq.new 3).run (seeks 3 140)).bag.length = 256 := by decide +kernel
theorem bound5 : ((Dq.new 5).run (seeks 5 140)).bag.length = 256 := by decide +kernel
set_option maxHeartbeats 4000000 in
/-- waystation/waystationlaw06.QuorumBounds -/
theorem bounds_ok (b : Bool) (w : World) : Ret Try.prog 9 #[.bool b] w (fun v w' => v = .bool true ∧ Lk w' w NoB) := by
 refine ret_of_x (N := 56) (l := [.bool b]) Try.func9 rfl rfl (Nat.le_of_ble_eq_true rfl) ?_
 refine x_seq ?_
 refine x_regionL ?_
 refine xl_v v_assign ?_
 refine xl_nil ?_
 refine x_seq ?_
 refine x_regionL ?_
 refine xl_v v_assign ?_
 refine xl_nil ?_
 refine x_seq ?_
 refine x_seq ?_
 refine x_regionL ?_
 refine xl_v v_move ?_
 refine xl_nil ?_
 refine x_condE (fun c1 => ?_) (fun c1 => ?_)
 ·
  obtain ⟨n, hn7, hbd⟩ : ∃ n : Nat, n = 5 ∧ ((Dq.new n).run (seeks n 140)).bag.length = 256 := ⟨5, rfl, bound5⟩
  refine x_regionL ?_
  refine xl_v v_assign ?_
  refine xl_nil ?_
  refine x_seq ?_
  have hn : (n : Int) = 1 ∨ (n : Int) = 3 ∨ (n : Int) = 5 := by omega
  refine x_regionL ?_
  refine xl_v (v_congr (u := .int .i64 (n : Int)) v_move (by rw [hn7]; rfl)) ?_
  refine xl_call (newQ_p (n : Int) hn w) ?_
  rintro _ w1 ⟨⟨q, D, rfl, hQ, hp, hnw⟩, lk3⟩
  refine xl_v v_move ?_
  refine xl_v v_extract ?_
  refine xl_v v_extract ?_
  refine xl_v v_assign ?_
  refine xl_v v_assign ?_
  refine xl_nil ?_
  refine x_seq ?_
  refine x_regionL ?_
  refine xl_v (v_congr (u := .int .i64 (n : Int)) v_move (by rw [hn7]; rfl)) ?_
  refine xl_call (newD_p (n : Int) hn q D w1 (hQ.ext (kpc : Keep NoB _ w1)) hp) ?_
  rintro _ w2 ⟨⟨R, rfl, hP⟩, lk4⟩
  refine xl_v v_move ?_
  refine xl_v v_extract ?_
  refine xl_v v_extract ?_
  refine xl_e (e_alloc fun b6 w3 n6 l6 k6 => ?_)
  have hP7 := hP.one (kpc : Keep NoB _ w3) n6.eq Has.lt
  refine xl_s (e_storeA fun w4 l56 k56 => ?_)
  refine xl_v v_assign ?_
  refine xl_nil ?_
  refine x_seq ?_
  refine x_seq ?_
  refine x_regionL ?_
  refine xl_v v_assign ?_
  refine xl_nil ?_
  refine x_block ?_
  have hP8 := hP7.keep (kpc : Keep (OneB b6) _ w4) (fun _ _ e => e)
  have hnt : ((n : Int)).toNat = n := Int.toNat_natCast n
  rw [hnt] at hp
  have hnw8 : ∀ j, QuB q D j → w.heap.size ≤ j := fun j e => Nat.le_trans Ge.le (hnw j e)
  refine x_loop (fun t τ ds w' => ds = [] ∧ ∃ (k : Nat) (D : LQu) (R : LDq), t = 140 - k ∧ k ≤ 140 ∧ PairQ (Ap1 b6) q D R D.pure.tell w' ∧ D.pure = (Qu.new n).run (seeks n k) ∧ (∀ j, QuB q D j → w.heap.size ≤ j) ∧ Blk w' b6 (.cells (dqC R).toArray 48 (0, 0)) ∧ Ev τ 3 (.int .i64 (n : Int)) ∧ Ev τ 4 (.pointer (some ⟨q, 0, none⟩)) ∧ Ev τ 5 (.int .i64 0) ∧ Ev τ 6 (.pointer (some ⟨b6, 0, none⟩)) ∧ Ev τ 8 (.int .i64 (k : Int)) ∧ Lk w' w NoB) (140) ?start ?round
  case start =>
   exact ⟨rfl, 0, D, R, rfl, Nat.zero_le _, hP8, hp, hnw8, inferInstance, evc (by rw [hn7]; rfl), inferInstance, inferInstance, inferInstance, evc, lkc⟩
  case round =>
   intro m τ5 ds5 w5 hI
   clear hP8 hnw8
   obtain ⟨rfl, k, D, R, rfl, hk, hP, hpr, hq, kb6, e3, e4, e5, e6, e8, lk⟩ := hI
   haveI nb6 : NotS (QuB q D) b6 := ⟨(hP.xl b6 rfl).2⟩
   haveI sD : SubF (QuB q D) NoB w := ⟨fun j hj e => by have := hq j e; omega⟩
   refine x_seq ?_
   refine x_seq ?_
   refine x_regionL ?_
   refine xl_v v_move ?_
   refine xl_v v_lss ?_
   refine xl_nil ?_
   first | refine x_condP (fun c2 => ?_) (fun c2 => ?_) | refine x_condN (fun c2 => ?_) (fun c2 => ?_) | refine x_condE (fun c2 => ?_) (fun c2 => ?_)
   ·
    refine x_skip ?_
    refine x_seq ?_
    refine x_block ?_
    refine x_seq ?_
    refine x_drawL (NoB) (allS) (.take 0 (.take 1 (.take 2 (.take 3 (.eff 4 (.eff 5 (.take 6 (.take 7 (.takeA 8 (.free 9 .done)))))))))) mixed (by kernel_rfl) (fun _ _ _ _ _ h => h) (fun w6 l6 => ?_)
    refine xt_Lb rfl ?_
    refine xt_v rfl v_move ?_
    refine xt_v rfl v_move ?_
    refine xt_v rfl (v_rem (by omega)) ?_
    refine xt_call rfl (pick_ok 1 ((k : Int).tmod (n : Int)) 0 w6) ?_
    rintro _ w7 ⟨rfl, lk94⟩
    refine ⟨kpc, ?_⟩
    refine xt_call rfl (stepD_p _ q D R ⟨1, (k : Int).tmod (n : Int), 0⟩ w7 (hP.ext (kpc : Keep NoB _ w7))) ?_
    rintro _ w8 ⟨⟨R1, rfl, hP1⟩, lk95⟩
    refine ⟨kpc, ?_⟩
    refine xt_v rfl v_move ?_
    refine xt_v rfl v_extract ?_
    refine xt_av rfl v_extract ?_
    refine xt_fs rfl (e_storeA fun w9 l99 k99 => ?_)
    refine xt_nil ?_
    have hP3 := hP1.keep (kpc : Keep (OneB b6) _ w9) (fun _ _ e => e)
    refine x_regionL ?_
    refine xl_v v_move ?_
    refine xl_v v_move ?_
    refine xl_v v_move ?_
    refine xl_v (v_rem (by omega)) ?_
    refine xl_call (pick_ok 1 ((k : Int).tmod (n : Int)) 0 w9) ?_
    rintro _ w10 ⟨rfl, lk104⟩
    refine xl_call (stepQ_p _ q D R1 ⟨1, (k : Int).tmod (n : Int), 0⟩ w10 (hP3.ext (kpc : Keep NoB _ w10))) ?_
    rintro _ w11 ⟨rfl, ⟨D1, hP2, hp2, hb2⟩, lk105⟩
    refine xl_nil ?_
    refine x_regionL ?_
    refine xl_v v_move ?_
    refine xl_v (v_add (by omega)) ?_
    refine xl_v v_assign ?_
    refine xl_nil ?_
    refine ⟨_, ?_, rfl, k + 1, D1, R1, rfl, by omega, hP2.ext (kpc : Keep NoB _ _), ?_, fun j e => (hb2 j e).elim (hq j) (fun e => Nat.le_trans Ge.le e), inferInstance, inferInstance, inferInstance, inferInstance, inferInstance, evc, lkc⟩
    ·omega
    ·rw [hp2, hpr, seeks_succ, run_snoc]
   ·
    refine x_exit ?_
    refine x_seq ?_
    obtain ⟨F, G, hQ2, hInv, _⟩ := hP.ex
    obtain ⟨hb256, hcl⟩ := bag_of hInv
    have hkm : k = 140 := by omega
    have hlen : D.bs.length = 256 := by
     rw [hkm] at hpr
     have h1 := congrArg Dq.bag (tell_run (inv_newN hn) (seeks n 140)).1
     rw [Int.toNat_natCast, ← hpr, tell_newQ] at h1
     have h2 := congrArg List.length h1
     rw [hbd] at h2
     rw [← h2]
     simp [LQu.pure, Qu.tell]
    refine x_regionL ?_
    refine xl_v v_move ?_
    refine xl_call (num_ok _ _) ?_
    rintro _ _ ⟨rfl, rfl⟩
    refine xl_v (v_eqlT rfl) ?_
    refine xl_v v_move ?_
    refine xl_gv rfl EvO.eq v_move ?_
    refine xl_gcall rfl EvO.eq (bag_ok q D F w5 (hQ2.ext (kpc : Keep NoB _ w5)) hb256 hcl) ?_
    rintro _ w13 ⟨⟨A8, c8, bs, rfl, hbs, hbag⟩, lk115⟩
    refine xl_gv rfl EvO.eq v_len ?_
    refine xl_gv rfl EvO.eq (v_eqlT (by rw [hlen]; rfl)) ?_
    refine xl_Pk ?_
    refine xl_v v_move ?_
    refine xl_gv rfl EvO.eq v_move ?_
    refine xl_gLb rfl EvO.eq ?_
    refine xl_gcall rfl EvO.eq (is_ok _ q D R w13 (hP.ext (kpc : Keep NoB _ w13))) ?_
    rintro _ w14 ⟨rfl, lk1112⟩
    refine xl_Pk ?_
    refine xl_v v_move ?_
    refine xl_gcall rfl EvO.eq (works_ok w14) ?_
    rintro _ w15 ⟨rfl, lk1115⟩
    refine xl_Pk ?_
    refine xl_v v_assign ?_
    refine xl_nil ?_
    refine x_ret ?_
    refine fin1 rfl ?_
    exact ⟨rfl, lkc⟩
 ·
  obtain ⟨n, hn7, hbd⟩ : ∃ n : Nat, n = 3 ∧ ((Dq.new n).run (seeks n 140)).bag.length = 256 := ⟨3, rfl, bound3⟩
  refine x_skip ?_
  refine x_seq ?_
  have hn : (n : Int) = 1 ∨ (n : Int) = 3 ∨ (n : Int) = 5 := by omega
  refine x_regionL ?_
  refine xl_v (v_congr (u := .int .i64 (n : Int)) v_move (by rw [hn7]; rfl)) ?_
  refine xl_call (newQ_p (n : Int) hn w) ?_
  rintro _ w16 ⟨⟨q, D, rfl, hQ, hp, hnw⟩, lk3⟩
  refine xl_v v_move ?_
  refine xl_v v_extract ?_
  refine xl_v v_extract ?_
  refine xl_v v_assign ?_
  refine xl_v v_assign ?_
  refine xl_nil ?_
  refine x_seq ?_
  refine x_regionL ?_
  refine xl_v (v_congr (u := .int .i64 (n : Int)) v_move (by rw [hn7]; rfl)) ?_
  refine xl_call (newD_p (n : Int) hn q D w16 (hQ.ext (kpc : Keep NoB _ w16)) hp) ?_
  rintro _ w17 ⟨⟨R, rfl, hP⟩, lk4⟩
  refine xl_v v_move ?_
  refine xl_v v_extract ?_
  refine xl_v v_extract ?_
  refine xl_e (e_alloc fun b6 w18 n6 l6 k6 => ?_)
  have hP7 := hP.one (kpc : Keep NoB _ w18) n6.eq Has.lt
  refine xl_s (e_storeA fun w19 l56 k56 => ?_)
  refine xl_v v_assign ?_
  refine xl_nil ?_
  refine x_seq ?_
  refine x_seq ?_
  refine x_regionL ?_
  refine xl_v v_assign ?_
  refine xl_nil ?_
  refine x_block ?_
  have hP8 := hP7.keep (kpc : Keep (OneB b6) _ w19) (fun _ _ e => e)
  have hnt : ((n : Int)).toNat = n := Int.toNat_natCast n
  rw [hnt] at hp
  have hnw8 : ∀ j, QuB q D j → w.heap.size ≤ j := fun j e => Nat.le_trans Ge.le (hnw j e)
  refine x_loop (fun t τ ds w' => ds = [] ∧ ∃ (k : Nat) (D : LQu) (R : LDq), t = 140 - k ∧ k ≤ 140 ∧ PairQ (Ap1 b6) q D R D.pure.tell w' ∧ D.pure = (Qu.new n).run (seeks n k) ∧ (∀ j, QuB q D j → w.heap.size ≤ j) ∧ Blk w' b6 (.cells (dqC R).toArray 48 (0, 0)) ∧ Ev τ 3 (.int .i64 (n : Int)) ∧ Ev τ 4 (.pointer (some ⟨q, 0, none⟩)) ∧ Ev τ 5 (.int .i64 0) ∧ Ev τ 6 (.pointer (some ⟨b6, 0, none⟩)) ∧ Ev τ 8 (.int .i64 (k : Int)) ∧ Lk w' w NoB) (140) ?start ?round
  case start =>
   exact ⟨rfl, 0, D, R, rfl, Nat.zero_le _, hP8, hp, hnw8, inferInstance, evc (by rw [hn7]; rfl), inferInstance, inferInstance, inferInstance, evc, lkc⟩
  case round =>
   intro m τ20 ds20 w20 hI
   clear hP8 hnw8
   obtain ⟨rfl, k, D, R, rfl, hk, hP, hpr, hq, kb6, e3, e4, e5, e6, e8, lk⟩ := hI
   haveI nb6 : NotS (QuB q D) b6 := ⟨(hP.xl b6 rfl).2⟩
   haveI sD : SubF (QuB q D) NoB w := ⟨fun j hj e => by have := hq j e; omega⟩
   refine x_seq ?_
   refine x_seq ?_
   refine x_regionL ?_
   refine xl_v v_move ?_
   refine xl_v v_lss ?_
   refine xl_nil ?_
   first | refine x_condP (fun c2 => ?_) (fun c2 => ?_) | refine x_condN (fun c2 => ?_) (fun c2 => ?_) | refine x_condE (fun c2 => ?_) (fun c2 => ?_)
   ·
    refine x_skip ?_
    refine x_seq ?_
    refine x_block ?_
    refine x_seq ?_
    refine x_drawL (NoB) (allS) (.take 0 (.take 1 (.take 2 (.take 3 (.eff 4 (.eff 5 (.take 6 (.take 7 (.takeA 8 (.free 9 .done)))))))))) mixed (by kernel_rfl) (fun _ _ _ _ _ h => h) (fun w21 l21 => ?_)
    refine xt_Lb rfl ?_
    refine xt_v rfl v_move ?_
    refine xt_v rfl v_move ?_
    refine xt_v rfl (v_rem (by omega)) ?_
    refine xt_call rfl (pick_ok 1 ((k : Int).tmod (n : Int)) 0 w21) ?_
    rintro _ w22 ⟨rfl, lk94⟩
    refine ⟨kpc, ?_⟩
    refine xt_call rfl (stepD_p _ q D R ⟨1, (k : Int).tmod (n : Int), 0⟩ w22 (hP.ext (kpc : Keep NoB _ w22))) ?_
    rintro _ w23 ⟨⟨R1, rfl, hP1⟩, lk95⟩
    refine ⟨kpc, ?_⟩
    refine xt_v rfl v_move ?_
    refine xt_v rfl v_extract ?_
    refine xt_av rfl v_extract ?_
    refine xt_fs rfl (e_storeA fun w24 l99 k99 => ?_)
    refine xt_nil ?_
    have hP3 := hP1.keep (kpc : Keep (OneB b6) _ w24) (fun _ _ e => e)
    refine x_regionL ?_
    refine xl_v v_move ?_
    refine xl_v v_move ?_
    refine xl_v v_move ?_
    refine xl_v (v_rem (by omega)) ?_
    refine xl_call (pick_ok 1 ((k : Int).tmod (n : Int)) 0 w24) ?_
    rintro _ w25 ⟨rfl, lk104⟩
    refine xl_call (stepQ_p _ q D R1 ⟨1, (k : Int).tmod (n : Int), 0⟩ w25 (hP3.ext (kpc : Keep NoB _ w25))) ?_
    rintro _ w26 ⟨rfl, ⟨D1, hP2, hp2, hb2⟩, lk105⟩
    refine xl_nil ?_
    refine x_regionL ?_
    refine xl_v v_move ?_
    refine xl_v (v_add (by omega)) ?_
    refine xl_v v_assign ?_
    refine xl_nil ?_
    refine ⟨_, ?_, rfl, k + 1, D1, R1, rfl, by omega, hP2.ext (kpc : Keep NoB _ _), ?_, fun j e => (hb2 j e).elim (hq j) (fun e => Nat.le_trans Ge.le e), inferInstance, inferInstance, inferInstance, inferInstance, inferInstance, evc, lkc⟩
    ·omega
    ·rw [hp2, hpr, seeks_succ, run_snoc]
   ·
    refine x_exit ?_
    refine x_seq ?_
    obtain ⟨F, G, hQ2, hInv, _⟩ := hP.ex
    obtain ⟨hb256, hcl⟩ := bag_of hInv
    have hkm : k = 140 := by omega
    have hlen : D.bs.length = 256 := by
     rw [hkm] at hpr
     have h1 := congrArg Dq.bag (tell_run (inv_newN hn) (seeks n 140)).1
     rw [Int.toNat_natCast, ← hpr, tell_newQ] at h1
     have h2 := congrArg List.length h1
     rw [hbd] at h2
     rw [← h2]
     simp [LQu.pure, Qu.tell]
    refine x_regionL ?_
    refine xl_v v_move ?_
    refine xl_call (num_ok _ _) ?_
    rintro _ _ ⟨rfl, rfl⟩
    refine xl_v (v_eqlT rfl) ?_
    refine xl_v v_move ?_
    refine xl_gv rfl EvO.eq v_move ?_
    refine xl_gcall rfl EvO.eq (bag_ok q D F w20 (hQ2.ext (kpc : Keep NoB _ w20)) hb256 hcl) ?_
    rintro _ w28 ⟨⟨A8, c8, bs, rfl, hbs, hbag⟩, lk115⟩
    refine xl_gv rfl EvO.eq v_len ?_
    refine xl_gv rfl EvO.eq (v_eqlT (by rw [hlen]; rfl)) ?_
    refine xl_Pk ?_
    refine xl_v v_move ?_
    refine xl_gv rfl EvO.eq v_move ?_
    refine xl_gLb rfl EvO.eq ?_
    refine xl_gcall rfl EvO.eq (is_ok _ q D R w28 (hP.ext (kpc : Keep NoB _ w28))) ?_
    rintro _ w29 ⟨rfl, lk1112⟩
    refine xl_Pk ?_
    refine xl_v v_move ?_
    refine xl_gcall rfl EvO.eq (works_ok w29) ?_
    rintro _ w30 ⟨rfl, lk1115⟩
    refine xl_Pk ?_
    refine xl_v v_assign ?_
    refine xl_nil ?_
    refine x_ret ?_
    refine fin1 rfl ?_
    exact ⟨rfl, lkc⟩
end Go.Proofs.Ytdmafmlifadfoaa
