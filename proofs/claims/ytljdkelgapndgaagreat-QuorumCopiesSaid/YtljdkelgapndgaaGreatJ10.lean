/-
 Walks, printed by a program of this workplace (wip/tools/sx.py) off the functions' code and a text of contracts.
-/
import Derived.Test.YtljdkelgapndgaaGreatJ9
set_option linter.all false
set_option maxRecDepth 100000
set_option synthInstance.maxSize 100000
set_option synthInstance.maxHeartbeats 400000
namespace Go.Proofs.YtljdkelgapndgaaGreat
open Go.Wst
open Go.Wst.Qm
theorem ins_more {n a : Int} {vs : List Int} {k : Nat} {os : List Int} (hk : k < vs.length) (ha : vs[k] = a) (hos : os = vs.take k) (hi : ins n vs = os ++ ins n (vs.drop k)) : (a = n → ins n vs = os ++ vs.drop k) ∧ (a ≠ n → n < a → ins n vs = os ++ [n] ++ vs.drop k) ∧ (a ≠ n → ¬ n < a → ins n vs = vs.take (k + 1) ++ ins n (vs.drop (k + 1))) := by
 rw [List.drop_eq_getElem_cons hk, ha] at hi ⊢
 refine ⟨fun e => ?_, fun e1 e2 => ?_, fun e1 e2 => ?_⟩
 ·rw [hi, ins, if_pos e]
 ·rw [hi, ins, if_neg e1, if_pos e2]; simp
 ·rw [hi, ins, if_neg e1, if_neg e2, take_snoc vs k hk, ← hos, ha]; simp

theorem votedD_ok (P : Nat → Prop) (z : LAn) (n : Int) (w : World) (hP : ∀ k, w.heap.size ≤ k → P k) (hz : RowsAn w P z) (hv : z.x.votes.length ≤ 5) : Ret Tryz.prog 53 #[.agg (anC z).toArray, .int .i64 n] w (fun v w' => (∃ z', v = .agg (anC z').toArray ∧ z'.x = { z.x with votes := ins n z.x.votes } ∧ RowsAn w' P z') ∧ Lk w' w NoB) := by
 haveI hrv : Row w z.VA (ints z.x.votes) := ⟨hz.votes.row⟩
 haveI holdV : OldA w z.VA := ⟨fun a ha => (hz.votes.blk a ha).2⟩
 refine ret_of_x (N := 54) (l := [.agg (anC z).toArray, .int .i64 n]) Tryz.func53 rfl rfl (Nat.le_of_ble_eq_true rfl) ?_
 refine x_seq ?_
 refine x_regionL ?_
 refine xl_e (e_box fun b1 w1 n1 l1 k1 => ?_)
 refine xl_e (e_alloc fun b4 w2 n4 l4 k4 => ?_)
 refine xl_nil ?_
 refine x_seq ?_
 refine x_regionL ?_
 refine xl_v v_assign ?_
 refine xl_nil ?_
 refine x_seq ?_
 refine x_regionL ?_
 refine xl_v v_assign ?_
 refine xl_nil ?_
 refine x_seq ?_
 refine x_seq ?_
 refine x_regionL ?_
 refine xl_v v_assign ?_
 refine xl_nil ?_
 refine x_block ?_
 have hb4l : b4 < (w2).heap.size := Has.lt
 refine x_loop (fun m τ ds w' => ds = [] ∧ ∃ (k : Nat) (b : Bool) (A7 : Option Addr) (c7 : Nat) (os : List Int), m = z.x.votes.length - k ∧ k ≤ z.x.votes.length ∧ os.length ≤ k + 1 ∧ (b = false → os = z.x.votes.take k ∧ ins n z.x.votes = os ++ ins n (z.x.votes.drop k)) ∧ (b = true → ins n z.x.votes = os ++ z.x.votes.drop k) ∧ w'.ownsRow (w2).heap.size 3 1 (.slice A7 os.length c7) os.length (ints os) ∧ Ev τ 1 (.int .i64 n) ∧ Ev τ 2 (.pointer (some ⟨b1, 0, none⟩)) ∧ Ev τ 4 (.pointer (some ⟨b4, 0, none⟩)) ∧ Ev τ 5 (.slice A7 os.length c7) ∧ Ev τ 6 (.bool b) ∧ Ev τ 7 (.int .i64 (k : Int)) ∧ Lk w' w2 NoB) (z.x.votes.length) ?start ?round
 case start =>
  exact ⟨rfl, 0, false, none, 0, [], rfl, Nat.zero_le _, Nat.zero_le _, fun _ => ⟨rfl, rfl⟩, nofun, World.ownsRow_nil _ _ _ _, inferInstance, inferInstance, inferInstance, evc, evc, evc, lkc⟩
 case round =>
  intro m τ3 ds3 w3 hI
  obtain ⟨rfl, k, b, A7, c7, os, rfl, hk, hol, hf, ht, ho7, e1, e2, e4, e5, e6, e7, lk⟩ := hI
  haveI o7 : OwnI w3 A7 _ _ _ _ _ _ _ := ⟨ho7⟩
  haveI na7 : NewA A7 w2 := newA_of ho7 (Nat.le_refl _)
  refine x_seq ?_
  refine x_seq ?_
  refine x_regionL ?_
  refine xl_v v_move ?_
  refine xl_Fb ?_
  refine xl_Lc ?_
  refine xl_v v_len ?_
  refine xl_v v_lss ?_
  refine xl_nil ?_
  first | refine x_condP (fun c1 => ?_) (fun c1 => ?_) | refine x_condN (fun c1 => ?_) (fun c1 => ?_) | refine x_condE (fun c1 => ?_) (fun c1 => ?_)
  ·
   have hk1 : k < z.x.votes.length := by omega
   refine x_skip ?_
   refine x_seq ?_
   refine x_block ?_
   refine x_seq ?_
   refine x_seq ?_
   refine x_regionL ?_
   refine xl_Fb ?_
   refine xl_Lc ?_
   refine xl_v v_move ?_
   refine xl_v (v_indexO k rfl (by omega) hk1) ?_
   refine xl_v (v_loadO (k := k) hk1) ?_
   refine xl_v v_move ?_
   refine xl_v v_eql ?_
   refine xl_nil ?_
   first | refine x_condP (fun c2 => ?_) (fun c2 => ?_) | refine x_condN (fun c2 => ?_) (fun c2 => ?_) | refine x_condE (fun c2 => ?_) (fun c2 => ?_)
   ·
    refine x_regionL ?_
    refine xl_v v_assign ?_
    refine xl_nil ?_
    refine x_seq ?_
    refine x_seq ?_
    refine x_regionL ?_
    refine xl_Fb ?_
    refine xl_Lc ?_
    refine xl_v v_move ?_
    refine xl_v (v_indexO k rfl (by omega) hk1) ?_
    refine xl_v (v_loadO (k := k) hk1) ?_
    refine xl_v v_move ?_
    refine xl_v v_gtr ?_
    refine xl_v v_move ?_
    refine xl_split 29 (fun g29 => ?_) (fun g29 => ?_)
    ·
     refine xl_gv rfl EvO.eq v_move ?_
     refine xl_gv rfl EvO.eq v_not ?_
     refine xl_Pk ?_
     refine xl_nil ?_
     refine x_condF ?_
     refine x_skip ?_
     refine x_regionL ?_
     refine xl_v v_move ?_
     refine xl_Fb ?_
     refine xl_Lc ?_
     refine xl_v v_move ?_
     refine xl_v (v_indexO k rfl (by omega) hk1) ?_
     refine xl_v (v_loadO (k := k) hk1) ?_
     refine xl_e (e_buildSlice1 rfl fun b4 w4 n4 l4 k4 => ?_)
     refine xl_e (e_app (by simp) (by decide) (by omega) (by omega) Ge.le fun A10 c10 w5 o10 l10 a10 f10 => ?_)
     refine xl_v v_assign ?_
     refine xl_nil ?_
     refine x_regionL ?_
     refine xl_v v_move ?_
     refine xl_v (v_add (by omega)) ?_
     refine xl_v v_assign ?_
     refine xl_nil ?_
     have h1 := fun e1 e2 => ins_more (n := n) (os := os) hk1 rfl e1 e2
     have hdr := List.drop_eq_getElem_cons hk1
     first
      | refine ⟨_, ?_, rfl, k + 1, true, A10, c10, os ++ [n] ++ [z.x.votes[k]], rfl, by omega, ?_, nofun, fun _ => ?_, ?_, inferInstance, inferInstance, inferInstance, evc (by simp), evc, evc, lkc⟩
        ·omega
        ·have hbf : b = false := by simpa using c3
         have := (hf hbf).1
         have h2 : os.length = k := by rw [this, List.length_take]; omega
         simp; omega
        ·have hbf : b = false := by simpa using c3
         have := ((h1 (hf hbf).1 (hf hbf).2).2.1 c2 (by simpa using g29))
         rw [this, hdr]; simp
        ·have := o10.own
         simpa [ints] using this
      | refine ⟨_, ?_, rfl, k + 1, true, A10, c10, os ++ [z.x.votes[k]], rfl, by omega, ?_, nofun, fun _ => ?_, ?_, inferInstance, inferInstance, inferInstance, evc (by simp), evc rfl, evc, lkc⟩
        ·omega
        ·simp; omega
        ·have h3 : ins n z.x.votes = os ++ z.x.votes.drop k := by
          cases hb : b with
          | false => exact (h1 (hf hb).1 (hf hb).2).1 c2
          | true => exact ht hb
         rw [h3, hdr]; simp
        ·have := o10.own
         simpa [ints] using this
      | refine ⟨_, ?_, rfl, k + 1, b, A10, c10, os ++ [z.x.votes[k]], rfl, by omega, ?_, fun hb => ?_, fun hb => ?_, ?_, inferInstance, inferInstance, inferInstance, evc (by simp), inferInstance, evc, lkc⟩
        ·omega
        ·simp; omega
        ·have hng : ¬ n < z.x.votes[k] := by
          first
           | simpa using g29
           | (rw [hb] at c3; simp at c3)
         refine ⟨by rw [(hf hb).1, take_snoc _ k hk1], ?_⟩
         rw [(h1 (hf hb).1 (hf hb).2).2.2 c2 hng, (hf hb).1, take_snoc _ k hk1]
        ·rw [ht hb, hdr]; simp
        ·have := o10.own
         simpa [ints] using this
    ·
     refine xl_gs rfl EvO.eq ?_
     refine xl_gs rfl EvO.eq ?_
     refine xl_Pk ?_
     refine xl_nil ?_
     refine x_condF ?_
     refine x_skip ?_
     refine x_regionL ?_
     refine xl_v v_move ?_
     refine xl_Fb ?_
     refine xl_Lc ?_
     refine xl_v v_move ?_
     refine xl_v (v_indexO k rfl (by omega) hk1) ?_
     refine xl_v (v_loadO (k := k) hk1) ?_
     refine xl_e (e_buildSlice1 rfl fun b6 w6 n6 l6 k6 => ?_)
     refine xl_e (e_app (by simp) (by decide) (by omega) (by omega) Ge.le fun A10 c10 w7 o10 l10 a10 f10 => ?_)
     refine xl_v v_assign ?_
     refine xl_nil ?_
     refine x_regionL ?_
     refine xl_v v_move ?_
     refine xl_v (v_add (by omega)) ?_
     refine xl_v v_assign ?_
     refine xl_nil ?_
     have h1 := fun e1 e2 => ins_more (n := n) (os := os) hk1 rfl e1 e2
     have hdr := List.drop_eq_getElem_cons hk1
     first
      | refine ⟨_, ?_, rfl, k + 1, true, A10, c10, os ++ [n] ++ [z.x.votes[k]], rfl, by omega, ?_, nofun, fun _ => ?_, ?_, inferInstance, inferInstance, inferInstance, evc (by simp), evc, evc, lkc⟩
        ·omega
        ·have hbf : b = false := by simpa using c3
         have := (hf hbf).1
         have h2 : os.length = k := by rw [this, List.length_take]; omega
         simp; omega
        ·have hbf : b = false := by simpa using c3
         have := ((h1 (hf hbf).1 (hf hbf).2).2.1 c2 (by simpa using g29))
         rw [this, hdr]; simp
        ·have := o10.own
         simpa [ints] using this
      | refine ⟨_, ?_, rfl, k + 1, true, A10, c10, os ++ [z.x.votes[k]], rfl, by omega, ?_, nofun, fun _ => ?_, ?_, inferInstance, inferInstance, inferInstance, evc (by simp), evc rfl, evc, lkc⟩
        ·omega
        ·simp; omega
        ·have h3 : ins n z.x.votes = os ++ z.x.votes.drop k := by
          cases hb : b with
          | false => exact (h1 (hf hb).1 (hf hb).2).1 c2
          | true => exact ht hb
         rw [h3, hdr]; simp
        ·have := o10.own
         simpa [ints] using this
      | refine ⟨_, ?_, rfl, k + 1, b, A10, c10, os ++ [z.x.votes[k]], rfl, by omega, ?_, fun hb => ?_, fun hb => ?_, ?_, inferInstance, inferInstance, inferInstance, evc (by simp), inferInstance, evc, lkc⟩
        ·omega
        ·simp; omega
        ·have hng : ¬ n < z.x.votes[k] := by
          first
           | simpa using g29
           | (rw [hb] at c3; simp at c3)
         refine ⟨by rw [(hf hb).1, take_snoc _ k hk1], ?_⟩
         rw [(h1 (hf hb).1 (hf hb).2).2.2 c2 hng, (hf hb).1, take_snoc _ k hk1]
        ·rw [ht hb, hdr]; simp
        ·have := o10.own
         simpa [ints] using this
   ·
    refine x_skip ?_
    refine x_seq ?_
    refine x_seq ?_
    refine x_regionL ?_
    refine xl_Fb ?_
    refine xl_Lc ?_
    refine xl_v v_move ?_
    refine xl_v (v_indexO k rfl (by omega) hk1) ?_
    refine xl_v (v_loadO (k := k) hk1) ?_
    refine xl_v v_move ?_
    refine xl_v v_gtr ?_
    refine xl_v v_move ?_
    refine xl_split 29 (fun g29 => ?_) (fun g29 => ?_)
    ·
     refine xl_gv rfl EvO.eq v_move ?_
     refine xl_gv rfl EvO.eq v_not ?_
     refine xl_Pk ?_
     refine xl_nil ?_
     refine x_condE (fun c3 => ?_) (fun c3 => ?_)
     ·
      refine x_regionL ?_
      refine xl_v v_move ?_
      refine xl_v v_move ?_
      refine xl_e (e_buildSlice1 rfl fun b8 w8 n8 l8 k8 => ?_)
      refine xl_e (e_app (by simp) (by decide) (by omega) (by omega) Ge.le fun A9 c9 w9 o9 l9 a9 f9 => ?_)
      refine xl_v v_assign ?_
      refine xl_v v_assign ?_
      refine xl_nil ?_
      refine x_regionL ?_
      refine xl_v v_move ?_
      refine xl_Fb ?_
      refine xl_Lc ?_
      refine xl_v v_move ?_
      refine xl_v (v_indexO k rfl (by omega) hk1) ?_
      refine xl_v (v_loadO (k := k) hk1) ?_
      refine xl_e (e_buildSlice1 rfl fun b10 w10 n10 l10 k10 => ?_)
      refine xl_e (e_app (by simp) (by decide) (by omega) (by omega) Ge.le fun A10 c10 w11 o10 l10 a10 f10 => ?_)
      refine xl_v v_assign ?_
      refine xl_nil ?_
      refine x_regionL ?_
      refine xl_v v_move ?_
      refine xl_v (v_add (by omega)) ?_
      refine xl_v v_assign ?_
      refine xl_nil ?_
      have h1 := fun e1 e2 => ins_more (n := n) (os := os) hk1 rfl e1 e2
      have hdr := List.drop_eq_getElem_cons hk1
      first
       | refine ⟨_, ?_, rfl, k + 1, true, A10, c10, os ++ [n] ++ [z.x.votes[k]], rfl, by omega, ?_, nofun, fun _ => ?_, ?_, inferInstance, inferInstance, inferInstance, evc (by simp), evc, evc, lkc⟩
         ·omega
         ·have hbf : b = false := by simpa using c3
          have := (hf hbf).1
          have h2 : os.length = k := by rw [this, List.length_take]; omega
          simp; omega
         ·have hbf : b = false := by simpa using c3
          have := ((h1 (hf hbf).1 (hf hbf).2).2.1 c2 (by simpa using g29))
          rw [this, hdr]; simp
         ·have := o10.own
          simpa [ints] using this
       | refine ⟨_, ?_, rfl, k + 1, true, A10, c10, os ++ [z.x.votes[k]], rfl, by omega, ?_, nofun, fun _ => ?_, ?_, inferInstance, inferInstance, inferInstance, evc (by simp), evc rfl, evc, lkc⟩
         ·omega
         ·simp; omega
         ·have h3 : ins n z.x.votes = os ++ z.x.votes.drop k := by
           cases hb : b with
           | false => exact (h1 (hf hb).1 (hf hb).2).1 c2
           | true => exact ht hb
          rw [h3, hdr]; simp
         ·have := o10.own
          simpa [ints] using this
       | refine ⟨_, ?_, rfl, k + 1, b, A10, c10, os ++ [z.x.votes[k]], rfl, by omega, ?_, fun hb => ?_, fun hb => ?_, ?_, inferInstance, inferInstance, inferInstance, evc (by simp), inferInstance, evc, lkc⟩
         ·omega
         ·simp; omega
         ·have hng : ¬ n < z.x.votes[k] := by
           first
            | simpa using g29
            | (rw [hb] at c3; simp at c3)
          refine ⟨by rw [(hf hb).1, take_snoc _ k hk1], ?_⟩
          rw [(h1 (hf hb).1 (hf hb).2).2.2 c2 hng, (hf hb).1, take_snoc _ k hk1]
         ·rw [ht hb, hdr]; simp
         ·have := o10.own
          simpa [ints] using this
     ·
      refine x_skip ?_
      refine x_regionL ?_
      refine xl_v v_move ?_
      refine xl_Fb ?_
      refine xl_Lc ?_
      refine xl_v v_move ?_
      refine xl_v (v_indexO k rfl (by omega) hk1) ?_
      refine xl_v (v_loadO (k := k) hk1) ?_
      refine xl_e (e_buildSlice1 rfl fun b12 w12 n12 l12 k12 => ?_)
      refine xl_e (e_app (by simp) (by decide) (by omega) (by omega) Ge.le fun A10 c10 w13 o10 l10 a10 f10 => ?_)
      refine xl_v v_assign ?_
      refine xl_nil ?_
      refine x_regionL ?_
      refine xl_v v_move ?_
      refine xl_v (v_add (by omega)) ?_
      refine xl_v v_assign ?_
      refine xl_nil ?_
      have h1 := fun e1 e2 => ins_more (n := n) (os := os) hk1 rfl e1 e2
      have hdr := List.drop_eq_getElem_cons hk1
      first
       | refine ⟨_, ?_, rfl, k + 1, true, A10, c10, os ++ [n] ++ [z.x.votes[k]], rfl, by omega, ?_, nofun, fun _ => ?_, ?_, inferInstance, inferInstance, inferInstance, evc (by simp), evc, evc, lkc⟩
         ·omega
         ·have hbf : b = false := by simpa using c3
          have := (hf hbf).1
          have h2 : os.length = k := by rw [this, List.length_take]; omega
          simp; omega
         ·have hbf : b = false := by simpa using c3
          have := ((h1 (hf hbf).1 (hf hbf).2).2.1 c2 (by simpa using g29))
          rw [this, hdr]; simp
         ·have := o10.own
          simpa [ints] using this
       | refine ⟨_, ?_, rfl, k + 1, true, A10, c10, os ++ [z.x.votes[k]], rfl, by omega, ?_, nofun, fun _ => ?_, ?_, inferInstance, inferInstance, inferInstance, evc (by simp), evc rfl, evc, lkc⟩
         ·omega
         ·simp; omega
         ·have h3 : ins n z.x.votes = os ++ z.x.votes.drop k := by
           cases hb : b with
           | false => exact (h1 (hf hb).1 (hf hb).2).1 c2
           | true => exact ht hb
          rw [h3, hdr]; simp
         ·have := o10.own
          simpa [ints] using this
       | refine ⟨_, ?_, rfl, k + 1, b, A10, c10, os ++ [z.x.votes[k]], rfl, by omega, ?_, fun hb => ?_, fun hb => ?_, ?_, inferInstance, inferInstance, inferInstance, evc (by simp), inferInstance, evc, lkc⟩
         ·omega
         ·simp; omega
         ·have hng : ¬ n < z.x.votes[k] := by
           first
            | simpa using g29
            | (rw [hb] at c3; simp at c3)
          refine ⟨by rw [(hf hb).1, take_snoc _ k hk1], ?_⟩
          rw [(h1 (hf hb).1 (hf hb).2).2.2 c2 hng, (hf hb).1, take_snoc _ k hk1]
         ·rw [ht hb, hdr]; simp
         ·have := o10.own
          simpa [ints] using this
    ·
     refine xl_gs rfl EvO.eq ?_
     refine xl_gs rfl EvO.eq ?_
     refine xl_Pk ?_
     refine xl_nil ?_
     refine x_condF ?_
     refine x_skip ?_
     refine x_regionL ?_
     refine xl_v v_move ?_
     refine xl_Fb ?_
     refine xl_Lc ?_
     refine xl_v v_move ?_
     refine xl_v (v_indexO k rfl (by omega) hk1) ?_
     refine xl_v (v_loadO (k := k) hk1) ?_
     refine xl_e (e_buildSlice1 rfl fun b14 w14 n14 l14 k14 => ?_)
     refine xl_e (e_app (by simp) (by decide) (by omega) (by omega) Ge.le fun A10 c10 w15 o10 l10 a10 f10 => ?_)
     refine xl_v v_assign ?_
     refine xl_nil ?_
     refine x_regionL ?_
     refine xl_v v_move ?_
     refine xl_v (v_add (by omega)) ?_
     refine xl_v v_assign ?_
     refine xl_nil ?_
     have h1 := fun e1 e2 => ins_more (n := n) (os := os) hk1 rfl e1 e2
     have hdr := List.drop_eq_getElem_cons hk1
     first
      | refine ⟨_, ?_, rfl, k + 1, true, A10, c10, os ++ [n] ++ [z.x.votes[k]], rfl, by omega, ?_, nofun, fun _ => ?_, ?_, inferInstance, inferInstance, inferInstance, evc (by simp), evc, evc, lkc⟩
        ·omega
        ·have hbf : b = false := by simpa using c3
         have := (hf hbf).1
         have h2 : os.length = k := by rw [this, List.length_take]; omega
         simp; omega
        ·have hbf : b = false := by simpa using c3
         have := ((h1 (hf hbf).1 (hf hbf).2).2.1 c2 (by simpa using g29))
         rw [this, hdr]; simp
        ·have := o10.own
         simpa [ints] using this
      | refine ⟨_, ?_, rfl, k + 1, true, A10, c10, os ++ [z.x.votes[k]], rfl, by omega, ?_, nofun, fun _ => ?_, ?_, inferInstance, inferInstance, inferInstance, evc (by simp), evc rfl, evc, lkc⟩
        ·omega
        ·simp; omega
        ·have h3 : ins n z.x.votes = os ++ z.x.votes.drop k := by
          cases hb : b with
          | false => exact (h1 (hf hb).1 (hf hb).2).1 c2
          | true => exact ht hb
         rw [h3, hdr]; simp
        ·have := o10.own
         simpa [ints] using this
      | refine ⟨_, ?_, rfl, k + 1, b, A10, c10, os ++ [z.x.votes[k]], rfl, by omega, ?_, fun hb => ?_, fun hb => ?_, ?_, inferInstance, inferInstance, inferInstance, evc (by simp), inferInstance, evc, lkc⟩
        ·omega
        ·simp; omega
        ·have hng : ¬ n < z.x.votes[k] := by
          first
           | simpa using g29
           | (rw [hb] at c3; simp at c3)
         refine ⟨by rw [(hf hb).1, take_snoc _ k hk1], ?_⟩
         rw [(h1 (hf hb).1 (hf hb).2).2.2 c2 hng, (hf hb).1, take_snoc _ k hk1]
        ·rw [ht hb, hdr]; simp
        ·have := o10.own
         simpa [ints] using this
  ·
   refine x_exit ?_
   refine x_seq ?_
   refine x_seq ?_
   refine x_regionL ?_
   refine xl_v v_move ?_
   refine xl_v v_not ?_
   refine xl_nil ?_
   refine x_condE (fun c4 => ?_) (fun c4 => ?_)
   ·
    have hbf : b = false := by simpa using c4
    refine x_regionL ?_
    refine xl_v v_move ?_
    refine xl_v v_move ?_
    refine xl_e (e_buildSlice1 rfl fun b16 w16 n16 l16 k16 => ?_)
    refine xl_e (e_app (by simp) (by decide) (by omega) (by omega) Ge.le fun A9 c9 w17 o9 l9 a9 f9 => ?_)
    refine xl_v v_assign ?_
    refine xl_nil ?_
    refine x_seq ?_
    have hkv : k = z.x.votes.length := by omega
    refine x_regionL ?_
    refine xl_v v_move ?_
    refine xl_Fb ?_
    refine xl_s (e_store fun w18 l2 k2 => ?_)
    refine xl_nil ?_
    refine x_seq ?_
    refine x_regionL ?_
    refine xl_v (v_loadA) ?_
    refine xl_s (e_storeA fun w19 l1b k1b => ?_)
    refine xl_nil ?_
    refine x_ret ?_
    refine finR (rs := [.cell 4 41]) rfl ?_
    first
    | (have hos : ins n z.x.votes = os ++ [n] := by rw [(hf hbf).2, hkv, List.drop_eq_nil_of_le (Nat.le_refl _)]; rfl
       refine ⟨⟨{ z with x := { z.x with votes := ins n z.x.votes }, VA := A9, vc := c9 }, ?_, rfl, ⟨frow_ext hz.log kpc, ?_, frow_ext hz.next kpc, frow_ext hz.mat kpc, hz.lc⟩⟩, lkc⟩
       ·rw [hos]; simp [outV, anC]
       ·have := frow_new (OwnI.own (w := w19) (A := A9)) (Ge.le : w.heap.size ≤ _) hP
        show FRow _ _ A9 (ints (ins n z.x.votes))
        rw [hos]
        simpa [ints] using this)
    | (have hos : ins n z.x.votes = os := by rw [ht hbt, hkv, List.drop_eq_nil_of_le (Nat.le_refl _), List.append_nil]
       refine ⟨⟨{ z with x := { z.x with votes := ins n z.x.votes }, VA := A7, vc := c7 }, ?_, rfl, ⟨frow_ext hz.log kpc, ?_, frow_ext hz.next kpc, frow_ext hz.mat kpc, hz.lc⟩⟩, lkc⟩
       ·rw [hos]; simp [outV, anC]
       ·have := frow_new (OwnI.own (w := w19) (A := A7)) (Ge.le : w.heap.size ≤ _) hP
        show FRow _ _ A7 (ints (ins n z.x.votes))
        rw [hos]
        exact this)
   ·
    have hbt : b = true := by simpa using c4
    refine x_skip ?_
    refine x_seq ?_
    have hkv : k = z.x.votes.length := by omega
    refine x_regionL ?_
    refine xl_v v_move ?_
    refine xl_Fb ?_
    refine xl_s (e_store fun w20 l2 k2 => ?_)
    refine xl_nil ?_
    refine x_seq ?_
    refine x_regionL ?_
    refine xl_v (v_loadA) ?_
    refine xl_s (e_storeA fun w21 l1b k1b => ?_)
    refine xl_nil ?_
    refine x_ret ?_
    refine finR (rs := [.cell 4 41]) rfl ?_
    first
    | (have hos : ins n z.x.votes = os ++ [n] := by rw [(hf hbf).2, hkv, List.drop_eq_nil_of_le (Nat.le_refl _)]; rfl
       refine ⟨⟨{ z with x := { z.x with votes := ins n z.x.votes }, VA := A9, vc := c9 }, ?_, rfl, ⟨frow_ext hz.log kpc, ?_, frow_ext hz.next kpc, frow_ext hz.mat kpc, hz.lc⟩⟩, lkc⟩
       ·rw [hos]; simp [outV, anC]
       ·have := frow_new (OwnI.own (w := w21) (A := A9)) (Ge.le : w.heap.size ≤ _) hP
        show FRow _ _ A9 (ints (ins n z.x.votes))
        rw [hos]
        simpa [ints] using this)
    | (have hos : ins n z.x.votes = os := by rw [ht hbt, hkv, List.drop_eq_nil_of_le (Nat.le_refl _), List.append_nil]
       refine ⟨⟨{ z with x := { z.x with votes := ins n z.x.votes }, VA := A7, vc := c7 }, ?_, rfl, ⟨frow_ext hz.log kpc, ?_, frow_ext hz.next kpc, frow_ext hz.mat kpc, hz.lc⟩⟩, lkc⟩
       ·rw [hos]; simp [outV, anC]
       ·have := frow_new (OwnI.own (w := w21) (A := A7)) (Ge.le : w.heap.size ≤ _) hP
        show FRow _ _ A7 (ints (ins n z.x.votes))
        rw [hos]
        exact this)
end Go.Proofs.YtljdkelgapndgaaGreat
set_option linter.all false
set_option maxRecDepth 100000
set_option synthInstance.maxSize 100000
set_option synthInstance.maxHeartbeats 400000
namespace Go.Proofs.YtljdkelgapndgaaGreat
open Go.Wst
open Go.Wst.Qm
theorem many_snoc {l : List Int} {j : Nat} (k : Int) (h : j < l.length) : many (l.take (j + 1)) k = many (l.take j) k + (if k ≤ l[j] then 1 else 0) := by
 unfold many
 rw [take_snoc l j h, List.filter_append, List.length_append]
 congr 1
 by_cases e : k ≤ l[j] <;> simp [e]
theorem many_le (l : List Int) (k : Int) : many l k ≤ l.length := List.length_filter_le _ _
theorem findK_step {x : An} {cnt k : Nat} (h : x.commit < k + 1) (hn : ¬ (cnt / 2 + 1 ≤ many x.mat (k + 1) ∧ (x.log.map (·.term))[k]? = some x.term)) : x.findK cnt (k + 1) = x.findK cnt k := by
 conv => lhs; unfold An.findK
 rw [if_pos h, if_neg hn]
theorem findK_here {x : An} {cnt k : Nat} (h : x.commit < k + 1) (hn : cnt / 2 + 1 ≤ many x.mat (k + 1) ∧ (x.log.map (·.term))[k]? = some x.term) : x.findK cnt (k + 1) = k + 1 := by
 conv => lhs; unfold An.findK
 rw [if_pos h, if_pos hn]
theorem findK_end {x : An} {cnt k : Nat} (h : (k : Int) ≤ x.commit) : x.findK cnt k = x.commit := by
 cases k with
 | zero => rfl
 | succ k =>
   unfold An.findK
   rw [if_neg (by omega)]
theorem pureD_self {R : LDq} {i : Nat} {z : LAn} (hz : R.ns[i]? = some z) : R.pure.setN i z.x = R.pure := by
 have h1 : (R.ns.map (·.x)).set i z.x = R.ns.map (·.x) := by rw [← List.map_set, set_self hz]
 simp only [LDq.pure, Dq.setN, h1]
def LAn.setC (z : LAn) (c : Int) : LAn := { z with x := { z.x with commit := c } }
theorem RowsAn.setC {W : World} {P : Nat → Prop} {z : LAn} (h : RowsAn W P z) (c : Int) : RowsAn W P (z.setC c) := ⟨h.log, h.votes, h.next, h.mat, h.lc⟩

theorem commitsD_ok (P : Nat → Prop) (R : LDq) (i : Nat) (z : LAn) (w : World) (hP : ∀ k, w.heap.size ≤ k → P k) (h : RefAt w P R) (hz : R.ns[i]? = some z) (hn5 : R.ns.length ≤ 5) (hll : z.x.log.length ≤ 256) (hml : z.x.mat.length ≤ 5) (hc0 : 0 ≤ z.x.commit) : Ret Tryz.prog 51 #[.agg (dqC R).toArray, .int .i64 (i : Int)] w (fun v w' => (∃ R', v = .agg (dqC R').toArray ∧ RMade P w' (R.pure.setN i (z.x.commits R.ns.length)) R') ∧ Lk w' w NoB) := by
 haveI hrb : Row w R.NA (R.ns.flatMap anC) := ⟨h.nodes.row⟩
 have hi : i < R.ns.length := (List.getElem?_eq_some_iff.1 hz).1
 have hzi : R.ns[i] = z := (List.getElem?_eq_some_iff.1 hz).2
 have hzr := h.rows z (List.mem_of_getElem? hz)
 haveI holdN : OldA w R.NA := ⟨fun a ha => (h.nodes.blk a ha).2⟩
 haveI hrl : Row w z.LA (cmdsC z.x.log) := ⟨hzr.log.row⟩
 haveI hrm : Row w z.MA (ints z.x.mat) := ⟨hzr.mat.row⟩
 haveI holdL : OldA w z.LA := ⟨fun a ha => (hzr.log.blk a ha).2⟩
 haveI holdM : OldA w z.MA := ⟨fun a ha => (hzr.mat.blk a ha).2⟩
 refine ret_of_x (N := 62) (l := [.agg (dqC R).toArray, .int .i64 (i : Int)]) Tryz.func51 rfl rfl (Nat.le_of_ble_eq_true rfl) ?_
 refine x_seq ?_
 refine x_regionL ?_
 refine xl_e (e_box fun b1 w1 n1 l1 k1 => ?_)
 refine xl_e (e_alloc fun b4 w2 n4 l4 k4 => ?_)
 refine xl_nil ?_
 refine x_seq ?_
 refine x_regionL ?_
 refine xl_Fb ?_
 refine xl_Lc ?_
 refine xl_v v_move ?_
 refine xl_v (v_indexF i (by decide) rfl (by omega) hi) ?_
 refine xl_v (v_congr (u := .agg (anC z).toArray) (v_loadF (k := i) (by decide) hi) (by rw [hzi])) ?_
 refine xl_e (e_alloc fun b5 w3 n5 l5 k5 => ?_)
 refine xl_s (e_storeA fun w4 l6 k6 => ?_)
 refine xl_nil ?_
 refine x_seq ?_
 refine x_seq ?_
 refine x_regionL ?_
 refine xl_Fb ?_
 refine xl_Lc ?_
 refine xl_v v_len ?_
 refine xl_v v_assign ?_
 refine xl_nil ?_
 refine x_block ?_
 refine x_loop (fun m τ ds w' => ds = [] ∧ ∃ k : Nat, m = k ∧ k ≤ z.x.log.length ∧ z.x.findK R.ns.length z.x.log.length = z.x.findK R.ns.length k ∧ Ev τ 1 (.int .i64 (i : Int)) ∧ Ev τ 2 (.pointer (some ⟨b1, 0, none⟩)) ∧ Ev τ 4 (.pointer (some ⟨b4, 0, none⟩)) ∧ Ev τ 5 (.pointer (some ⟨b5, 0, none⟩)) ∧ Ev τ 6 (.int .i64 (k : Int)) ∧ Lk w' w4 NoB) (z.x.log.length) ?start ?round
 case start =>
  exact ⟨rfl, z.x.log.length, rfl, Nat.le_refl _, rfl, inferInstance, inferInstance, inferInstance, inferInstance, evc, lkc⟩
 case round =>
  intro m τ5 ds5 w5 hI
  obtain ⟨rfl, k, rfl, hk, hfk, e1, e2, e4, e5, e6, lk⟩ := hI
  refine x_seq ?_
  refine x_seq ?_
  refine x_regionL ?_
  refine xl_v v_move ?_
  refine xl_Fb ?_
  refine xl_Lc ?_
  refine xl_v v_gtr ?_
  refine xl_nil ?_
  first | refine x_condP (fun c1 => ?_) (fun c1 => ?_) | refine x_condN (fun c1 => ?_) (fun c1 => ?_) | refine x_condE (fun c1 => ?_) (fun c1 => ?_)
  ·
   obtain ⟨j, rfl⟩ : ∃ j, m = j + 1 := ⟨m - 1, by omega⟩
   refine x_skip ?_
   refine x_seq ?_
   refine x_block ?_
   refine x_seq ?_
   refine x_regionL ?_
   refine xl_v v_assign ?_
   refine xl_nil ?_
   refine x_seq ?_
   refine x_seq ?_
   refine x_regionL ?_
   refine xl_v v_assign ?_
   refine xl_nil ?_
   refine x_block ?_
   refine x_loop (fun m τ ds w' => ds = [] ∧ ∃ o : Nat, m = z.x.mat.length - o ∧ o ≤ z.x.mat.length ∧ Ev τ 1 (.int .i64 (i : Int)) ∧ Ev τ 2 (.pointer (some ⟨b1, 0, none⟩)) ∧ Ev τ 4 (.pointer (some ⟨b4, 0, none⟩)) ∧ Ev τ 5 (.pointer (some ⟨b5, 0, none⟩)) ∧ Ev τ 6 (.int .i64 ((j + 1 : Nat) : Int)) ∧ Ev τ 7 (.int .i64 (many (z.x.mat.take o) ((j + 1 : Nat) : Int) : Int)) ∧ Ev τ 8 (.int .i64 (o : Int)) ∧ Lk w' w5 NoB) (z.x.mat.length) ?start ?round
   case start =>
    exact ⟨rfl, 0, rfl, Nat.zero_le _, inferInstance, inferInstance, inferInstance, inferInstance, inferInstance, evc, evc, lkc⟩
   case round =>
    intro m τ6 ds6 w6 hI
    obtain ⟨rfl, o, rfl, ho, e1, e2, e4, e5, e6, e7, e8, lk2⟩ := hI
    have hmle : many (z.x.mat.take o) ((j + 1 : Nat) : Int) ≤ 5 := Nat.le_trans (many_le _ _) (by rw [List.length_take]; omega)
    refine x_seq ?_
    refine x_seq ?_
    refine x_regionL ?_
    refine xl_v v_move ?_
    refine xl_Fb ?_
    refine xl_Lc ?_
    refine xl_v v_len ?_
    refine xl_v v_lss ?_
    refine xl_nil ?_
    first | refine x_condP (fun c2 => ?_) (fun c2 => ?_) | refine x_condN (fun c2 => ?_) (fun c2 => ?_) | refine x_condE (fun c2 => ?_) (fun c2 => ?_)
    ·
     have ho1 : o < z.x.mat.length := by omega
     refine x_skip ?_
     refine x_seq ?_
     refine x_block ?_
     refine x_seq ?_
     refine x_regionL ?_
     refine xl_Fb ?_
     refine xl_Lc ?_
     refine xl_v v_move ?_
     refine xl_v (v_indexO o rfl (by omega) ho1) ?_
     refine xl_v (v_loadO (k := o) ho1) ?_
     refine xl_v v_move ?_
     refine xl_v v_geq ?_
     refine xl_nil ?_
     first | refine x_condP (fun c3 => ?_) (fun c3 => ?_) | refine x_condN (fun c3 => ?_) (fun c3 => ?_) | refine x_condE (fun c3 => ?_) (fun c3 => ?_)
     ·
      refine x_regionL ?_
      refine xl_v v_move ?_
      refine xl_v (v_add (by omega)) ?_
      refine xl_v v_assign ?_
      refine xl_nil ?_
      refine x_regionL ?_
      refine xl_v v_move ?_
      refine xl_v (v_add (by omega)) ?_
      refine xl_v v_assign ?_
      refine xl_nil ?_
      refine ⟨_, ?_, rfl, o + 1, rfl, by omega, inferInstance, inferInstance, inferInstance, inferInstance, inferInstance, evc (congrArg (Value.int .i64) (by rw [many_snoc _ ho1]; first | (rw [if_pos c3]; omega) | (rw [if_neg c3]; omega))), evc, lkc⟩
      omega
     ·
      refine x_skip ?_
      refine x_regionL ?_
      refine xl_v v_move ?_
      refine xl_v (v_add (by omega)) ?_
      refine xl_v v_assign ?_
      refine xl_nil ?_
      refine ⟨_, ?_, rfl, o + 1, rfl, by omega, inferInstance, inferInstance, inferInstance, inferInstance, inferInstance, evc (congrArg (Value.int .i64) (by rw [many_snoc _ ho1]; first | (rw [if_pos c3]; omega) | (rw [if_neg c3]; omega))), evc, lkc⟩
      omega
    ·
     refine x_exit ?_
     refine x_seq ?_
     have hom : o = z.x.mat.length := by omega
     have htk : z.x.mat.take o = z.x.mat := List.take_of_length_le (by omega)
     refine x_drawL (NoB) (allS) (.take 0 (.take 1 (.eff 2 (.take 3 (.take 4 (.take 5 (.take 6 (.take 7 (.take 8 (.take 9 (.take 10 (.take 11 (.take 12 (.take 13 (.take 14 (.take 15 .done)))))))))))))))) mixed (by kernel_rfl) (fun _ _ _ _ _ h => h) (fun w7 l7 => ?_)
     refine xt_v rfl v_move ?_
     refine xt_Lb rfl ?_
     refine xt_call rfl (mostD_ok R w7 hn5) ?_
     rintro _ w8 ⟨rfl, lk2b⟩
     refine ⟨kpc, ?_⟩
     refine xt_v rfl v_geq ?_
     refine xt_v rfl v_move ?_
     refine xt_split 43 (fun g43 => ?_) (fun g43 => ?_)
     ·
      refine xt_gFb rfl rfl EvO.eq ?_
      refine xt_gLc rfl rfl EvO.eq ?_
      refine xt_gv rfl rfl EvO.eq v_move ?_
      refine xt_gv rfl rfl EvO.eq (v_sub (by omega)) ?_
      refine xt_gv rfl rfl EvO.eq (v_indexF j (by decide) (by omega) (by omega) (by omega)) ?_
      refine xt_gFb rfl rfl EvO.eq ?_
      refine xt_gLc rfl rfl EvO.eq ?_
      refine xt_gFb rfl rfl EvO.eq ?_
      refine xt_gLc rfl rfl EvO.eq ?_
      refine xt_gv rfl rfl EvO.eq v_eql ?_
      refine xt_Pk rfl ?_
      refine xt_nil ?_
      refine x_condE (fun c4 => ?_) (fun c4 => ?_)
      ·
       have hyes : R.ns.length / 2 + 1 ≤ many z.x.mat ((j + 1 : Nat) : Int) ∧ (z.x.log.map (·.term))[j]? = some z.x.term := by
        first
         | (exfalso; simp at c4; done)
         | (rw [htk] at g43
            refine ⟨by have := of_decide_eq_true g43; omega, ?_⟩
            have hj : j < z.x.log.length := by omega
            rw [List.getElem?_map, List.getElem?_eq_getElem hj]
            simpa using c4)
       have hfin : z.x.commits R.ns.length = { z.x with commit := ((j + 1 : Nat) : Int) } := by
        unfold An.commits
        rw [hfk, findK_here (by omega) hyes]
        rfl
       refine x_seq ?_
       refine x_regionL ?_
       refine xl_v v_move ?_
       refine xl_Fb ?_
       refine xl_s (e_store fun w9 l9 k9 => ?_)
       refine xl_nil ?_
       refine x_seq ?_
       refine x_regionL ?_
       refine xl_Lb ?_
       refine xl_v v_move ?_
       refine xl_Lb ?_
       refine xl_call (withD_ok (Mid P w.heap.size (w9).heap.size) R i (z.setC ((j + 1 : Nat) : Int)) w9 (midP hP Ge.le (Nat.le_refl _)) ((h.mid _).ext kpc) (((hzr.mid _).ext kpc).setC _) hi hn5) ?_
       rintro _ w10 ⟨⟨R', rfl, hR', _⟩, lk3⟩
       have hb4 : w.heap.size ≤ b4 ∧ b4 < (w9).heap.size := ⟨by rw [n4.eq]; exact Ge.le, Has.lt⟩
       refine xl_s (e_storeA fun w11 l44 k44 => ?_)
       refine xl_nil ?_
       refine x_ret ?_
       refine finR (rs := [.cell 4 32]) rfl ?_
       refine ⟨⟨R', by simp [outV], ?_, hR'.2.box l44.keep hb4⟩, lkc⟩
       rw [hR'.1, hfin]
       rfl
      ·
       refine x_skip ?_
       have hnot : ¬ (R.ns.length / 2 + 1 ≤ many z.x.mat ((j + 1 : Nat) : Int) ∧ (z.x.log.map (·.term))[j]? = some z.x.term) := by
        rintro ⟨h1, h2⟩
        have hj : j < z.x.log.length := by omega
        rw [List.getElem?_map, List.getElem?_eq_getElem hj] at h2
        have h3 : z.x.log[j].term = z.x.term := by simpa using h2
        rw [htk] at g43
        first
         | (simp [h3] at c4; done)
         | (have := of_decide_eq_false g43; omega)
       refine x_regionL ?_
       refine xl_v v_move ?_
       refine xl_v (v_sub (by omega)) ?_
       refine xl_v v_assign ?_
       refine xl_nil ?_
       refine ⟨_, ?_, rfl, j, rfl, by omega, ?_, inferInstance, inferInstance, inferInstance, inferInstance, evc (by simp), lkc⟩
       ·omega
       ·rw [hfk]; exact findK_step (by omega) hnot
     ·
      refine xt_gs rfl rfl EvO.eq ?_
      refine xt_gs rfl rfl EvO.eq ?_
      refine xt_gs rfl rfl EvO.eq ?_
      refine xt_gs rfl rfl EvO.eq ?_
      refine xt_gs rfl rfl EvO.eq ?_
      refine xt_gs rfl rfl EvO.eq ?_
      refine xt_gs rfl rfl EvO.eq ?_
      refine xt_gs rfl rfl EvO.eq ?_
      refine xt_gs rfl rfl EvO.eq ?_
      refine xt_gs rfl rfl EvO.eq ?_
      refine xt_Pk rfl ?_
      refine xt_nil ?_
      refine x_condF ?_
      refine x_skip ?_
      have hnot : ¬ (R.ns.length / 2 + 1 ≤ many z.x.mat ((j + 1 : Nat) : Int) ∧ (z.x.log.map (·.term))[j]? = some z.x.term) := by
       rintro ⟨h1, h2⟩
       have hj : j < z.x.log.length := by omega
       rw [List.getElem?_map, List.getElem?_eq_getElem hj] at h2
       have h3 : z.x.log[j].term = z.x.term := by simpa using h2
       rw [htk] at g43
       first
        | (simp [h3] at c4; done)
        | (have := of_decide_eq_false g43; omega)
      refine x_regionL ?_
      refine xl_v v_move ?_
      refine xl_v (v_sub (by omega)) ?_
      refine xl_v v_assign ?_
      refine xl_nil ?_
      refine ⟨_, ?_, rfl, j, rfl, by omega, ?_, inferInstance, inferInstance, inferInstance, inferInstance, evc (by simp), lkc⟩
      ·omega
      ·rw [hfk]; exact findK_step (by omega) hnot
  ·
   refine x_exit ?_
   refine x_seq ?_
   refine x_regionL ?_
   refine xl_Lb ?_
   refine xl_s (e_storeA fun w12 l12 k12 => ?_)
   refine xl_nil ?_
   refine x_ret ?_
   refine finR (rs := [.cell 4 32]) rfl ?_
   refine ⟨⟨R, by simp [outV], ?_, h.ext kpc⟩, lkc⟩
   have hfin : z.x.commits R.ns.length = z.x := by
    unfold An.commits
    rw [hfk, findK_end (by omega)]
   rw [hfin, pureD_self hz]
end Go.Proofs.YtljdkelgapndgaaGreat
set_option linter.all false
set_option maxRecDepth 100000
set_option synthInstance.maxSize 100000
set_option synthInstance.maxHeartbeats 400000
namespace Go.Proofs.YtljdkelgapndgaaGreat
open Go.Wst
open Go.Wst.Qm
def But (P : Nat → Prop) (b : Nat) : Nat → Prop := fun k => P k ∧ k ≠ b
theorem butP {P : Nat → Prop} {a b n : Nat} (hP : ∀ k, a ≤ k → P k) (h1 : a ≤ n) (h2 : b < n) : ∀ k, n ≤ k → But P b k := fun k e => ⟨hP k (by omega), by omega⟩
section
variable {W W' : World} {P : Nat → Prop} {R : LDq} {z : LAn} {b : Nat}
theorem RefAt.but (h : RefAt W P R) (hb : W.heap.size ≤ b) : RefAt W (But P b) R := h.wide (fun _ hl e => ⟨e, by omega⟩)
theorem RowsAn.but (h : RowsAn W P z) (hb : W.heap.size ≤ b) : RowsAn W (But P b) z := h.wide (fun _ hl e => ⟨e, by omega⟩)
theorem frow_but {A : Option Addr} {cs : List Value} (h : FRow W (InP P W) A cs) (hb : W.heap.size ≤ b) : FRow W (InP (But P b) W) A cs := h.mono (fun _ e => ⟨⟨e.1, by have := e.2; omega⟩, e.2⟩)
theorem RefAt.unbut (h : RefAt W (But P b) R) (hk : Keep (OneB b) W W') : RefAt W' P R :=
 (h.keep hk (fun k e _ e2 => e.2 e2)).wide (fun _ _ e => e.1)
end
theorem leadsD_yes {x : An} {cnt n : Nat} (h : ¬ (x.role ≠ 2 ∨ x.votes.length < cnt / 2 + 1)) : x.leads cnt n = An.commits { x with role := 3, votes := [], next := List.replicate cnt (x.log.length : Int), mat := (List.replicate cnt (0 : Int)).set n x.log.length } cnt := if_neg h
theorem setN_setND (q : Dq) (i : Nat) (a b : An) : (q.setN i a).setN i b = q.setN i b := by simp [Dq.setN, List.set_set]

theorem leadsD_ok (P : Nat → Prop) (R : LDq) (i : Nat) (z : LAn) (w : World) (hP : ∀ k, w.heap.size ≤ k → P k) (h : RefAt w P R) (hz : R.ns[i]? = some z) (hn5 : R.ns.length ≤ 5) (hll : z.x.log.length ≤ 256) (hvl : z.x.votes.length ≤ 1000) (hc0 : 0 ≤ z.x.commit) : Ret Tryz.prog 47 #[.agg (dqC R).toArray, .int .i64 (i : Int)] w (fun v w' => (∃ R', v = .agg (dqC R').toArray ∧ RMade P w' (R.pure.setN i (z.x.leads R.ns.length i)) R') ∧ Lk w' w NoB) := by
 haveI hrb : Row w R.NA (R.ns.flatMap anC) := ⟨h.nodes.row⟩
 have hi : i < R.ns.length := (List.getElem?_eq_some_iff.1 hz).1
 have hzi : R.ns[i] = z := (List.getElem?_eq_some_iff.1 hz).2
 have hzr := h.rows z (List.mem_of_getElem? hz)
 haveI holdN : OldA w R.NA := ⟨fun a ha => (h.nodes.blk a ha).2⟩
 refine ret_of_x (N := 60) (l := [.agg (dqC R).toArray, .int .i64 (i : Int)]) Tryz.func47 rfl rfl (Nat.le_of_ble_eq_true rfl) ?_
 refine x_seq ?_
 refine x_regionL ?_
 refine xl_e (e_box fun b1 w1 n1 l1 k1 => ?_)
 refine xl_e (e_alloc fun b4 w2 n4 l4 k4 => ?_)
 refine xl_nil ?_
 refine x_seq ?_
 refine x_regionL ?_
 refine xl_Fb ?_
 refine xl_Lc ?_
 refine xl_v v_move ?_
 refine xl_v (v_indexF i (by decide) rfl (by omega) hi) ?_
 refine xl_v (v_congr (u := .agg (anC z).toArray) (v_loadF (k := i) (by decide) hi) (by rw [hzi])) ?_
 refine xl_e (e_alloc fun b5 w3 n5 l5 k5 => ?_)
 refine xl_s (e_storeA fun w4 l6 k6 => ?_)
 refine xl_nil ?_
 refine x_seq ?_
 refine x_seq ?_
 refine x_drawL (NoB) (allS) (.take 0 (.take 1 (.take 2 (.take 3 (.take 4 (.take 5 (.take 6 (.take 7 (.eff 8 (.take 9 (.take 10 .done))))))))))) mixed (by kernel_rfl) (fun _ _ _ _ _ h => h) (fun w5 l5 => ?_)
 refine xt_Fb rfl ?_
 refine xt_Lc rfl ?_
 refine xt_v rfl v_neq ?_
 refine xt_v rfl v_move ?_
 refine xt_split 15 (fun g15 => ?_) (fun g15 => ?_)
 ·
  refine xt_gs rfl rfl EvO.eq ?_
  refine xt_gs rfl rfl EvO.eq ?_
  refine xt_gs rfl rfl EvO.eq ?_
  refine xt_gs rfl rfl EvO.eq ?_
  refine xt_gse rfl rfl EvO.eq ?_
  refine xt_gs rfl rfl EvO.eq ?_
  refine xt_Pk rfl ?_
  refine xt_nil ?_
  refine x_condT ?_
  refine x_seq ?_
  refine x_regionL ?_
  refine xl_Lb ?_
  refine xl_s (e_storeA fun w6 l6 k6 => ?_)
  refine xl_nil ?_
  refine x_ret ?_
  refine finR (rs := [.cell 4 32]) rfl ?_
  have hno : z.x.role ≠ 2 ∨ z.x.votes.length < R.ns.length / 2 + 1 := by
   first
    | exact .inl (by simpa using g15)
    | exact .inr (by have := of_decide_eq_true c1; omega)
  have hr : z.x.leads R.ns.length i = z.x := if_pos hno
  exact ⟨⟨R, by simp [outV], by rw [hr, pureD_self hz], h.ext kpc⟩, lkc⟩
 ·
  refine xt_gFb rfl rfl EvO.eq ?_
  refine xt_gLc rfl rfl EvO.eq ?_
  refine xt_gv rfl rfl EvO.eq v_len ?_
  refine xt_gLb rfl rfl EvO.eq ?_
  refine xt_gcall rfl rfl EvO.eq (mostD_ok R w5 hn5) ?_
  rintro _ w7 ⟨rfl, lk2b⟩
  refine ⟨kpc, ?_⟩
  refine xt_gv rfl rfl EvO.eq v_lss ?_
  refine xt_Pk rfl ?_
  refine xt_nil ?_
  refine x_condE (fun c1 => ?_) (fun c1 => ?_)
  ·
   refine x_seq ?_
   refine x_regionL ?_
   refine xl_Lb ?_
   refine xl_s (e_storeA fun w8 l8 k8 => ?_)
   refine xl_nil ?_
   refine x_ret ?_
   refine finR (rs := [.cell 4 32]) rfl ?_
   have hno : z.x.role ≠ 2 ∨ z.x.votes.length < R.ns.length / 2 + 1 := by
    first
     | exact .inl (by simpa using g15)
     | exact .inr (by have := of_decide_eq_true c1; omega)
   have hr : z.x.leads R.ns.length i = z.x := if_pos hno
   exact ⟨⟨R, by simp [outV], by rw [hr, pureD_self hz], h.ext kpc⟩, lkc⟩
  ·
   have hyes : ¬ (z.x.role ≠ 2 ∨ z.x.votes.length < R.ns.length / 2 + 1) := by
    first
     | (exfalso; simp at c1; done)
     | (have h1 : z.x.role = 2 := by simpa using g15
        have h2 := of_decide_eq_false c1
        rintro (e | e)
        ·exact e h1
        ·omega)
   refine x_skip ?_
   refine x_seq ?_
   refine x_regionL ?_
   refine xl_Fb ?_
   refine xl_s (e_store fun w9 l9 k9 => ?_)
   refine xl_Fb ?_
   refine xl_s (e_store fun w10 l10 k10 => ?_)
   refine xl_nil ?_
   refine x_seq ?_
   refine x_drawL (OneB b5) (allS) (.take 0 (.take 1 (.take 2 (.take 4 (.fork 3 (.eff 5 (.take 6 (.last 7))) 5 (.eff 3 (.take 6 (.last 7)))))))) mixed (by kernel_rfl) (fun _ _ _ _ _ h => h) (fun w11 l11 => ?_)
   refine xt_Fb rfl ?_
   refine xt_Lc rfl ?_
   refine xt_v rfl v_len ?_
   refine xt_Fb rfl ?_
   refine xt_fork ?_ ?_
   ·
    refine xt_e rfl (e_makeSlice R.ns.length R.ns.length rfl rfl (Nat.le_refl _) (by omega) (by omega) fun g w12 ng lg kg => ?_)
    refine xt_s rfl (e_store fun w13 l55 k55 => ?_)
    refine xt_Fb rfl ?_
    refine xt_lastS rfl (e_store fun w14 l57 k57 => ?_)
    refine x_seq ?_
    refine x_seq ?_
    refine x_regionL ?_
    refine xl_v v_assign ?_
    refine xl_nil ?_
    refine x_block ?_
    have hb4 : w.heap.size ≤ b4 := by rw [n4.eq]; exact Ge.le
    have hb4l : b4 < (w14).heap.size := Has.lt
    have hb5l : b5 < (w14).heap.size := Has.lt
    have hgb4 : b4 < g := by rw [ng.eq]; exact Has.lt
    refine x_loop (fun m τ ds w' => ds = [] ∧ ∃ (k : Nat) (XA : Option Addr) (xc : Nat), m = R.ns.length - k ∧ k ≤ R.ns.length ∧ w'.ownsRow (w14).heap.size 3 1 (.slice XA k xc) k (ints (List.replicate k (z.x.log.length : Int))) ∧ Ev τ 1 (.int .i64 (i : Int)) ∧ Ev τ 2 (.pointer (some ⟨b1, 0, none⟩)) ∧ Ev τ 4 (.pointer (some ⟨b4, 0, none⟩)) ∧ Ev τ 5 (.pointer (some ⟨b5, 0, none⟩)) ∧ Ev τ 6 (.int .i64 (k : Int)) ∧ Blk w' b5 (.cells [.int .i64 3, .int .i64 z.x.term, .int .i64 z.x.vote, .int .i64 z.x.commit, .slice z.LA z.x.log.length z.lc, .slice none 0 0, .slice XA k xc, .slice (some ⟨g, 0, none⟩) R.ns.length R.ns.length].toArray 41 (0, 0)) ∧ Lk w' w14 (OneB b5)) (R.ns.length) ?start ?round
    case start =>
     exact ⟨rfl, 0, none, 0, rfl, Nat.zero_le _, World.ownsRow_nil _ _ _ _, inferInstance, inferInstance, inferInstance, inferInstance, evc, ⟨Blk.eq⟩, lkc⟩
    case round =>
     intro m τ15 ds15 w15 hI
     obtain ⟨rfl, k, XA, xc, rfl, hk, hoX, e1, e2, e4, e5, e6, kb5, lkS⟩ := hI
     haveI oX : OwnI w15 XA _ _ _ _ _ _ _ := ⟨hoX⟩
     haveI naX : NewA XA w14 := newA_of hoX (Nat.le_refl _)
     refine x_seq ?_
     refine x_seq ?_
     refine x_regionL ?_
     refine xl_v v_move ?_
     refine xl_Fb ?_
     refine xl_Lc ?_
     refine xl_v v_len ?_
     refine xl_v v_lss ?_
     refine xl_nil ?_
     first | refine x_condP (fun c2 => ?_) (fun c2 => ?_) | refine x_condN (fun c2 => ?_) (fun c2 => ?_) | refine x_condE (fun c2 => ?_) (fun c2 => ?_)
     ·
      refine x_skip ?_
      refine x_seq ?_
      refine x_block ?_
      refine x_regionL ?_
      refine xl_Fb ?_
      refine xl_Lc ?_
      refine xl_Fb ?_
      refine xl_Lc ?_
      refine xl_v v_len ?_
      refine xl_e (e_buildSlice1 rfl fun b16 w16 n16 l16 k16 => ?_)
      refine xl_e (e_app (by simp) (by decide) (by omega) (by omega) Ge.le fun X7 x7 w17 o7 l7 a7 f7 => ?_)
      refine xl_Fb ?_
      refine xl_s (e_store fun w18 l8 k8 => ?_)
      refine xl_nil ?_
      refine x_regionL ?_
      refine xl_v v_move ?_
      refine xl_v (v_add (by omega)) ?_
      refine xl_v v_assign ?_
      refine xl_nil ?_
      refine ⟨_, ?_, rfl, k + 1, X7, x7, rfl, by omega, ?_, inferInstance, inferInstance, inferInstance, inferInstance, evc, k8, lkc⟩
      ·omega
      ·have h1 := (OwnI.own (w := w18) (A := X7))
       rw [List.replicate_succ']
       simpa [ints] using h1
     ·
      refine x_exit ?_
      refine x_seq ?_
      have hkn : k = R.ns.length := by omega
      subst hkn
      have hog : World.ownsRow w15 (w15).heap.size 3 1 (.slice none 0 0) 0 [] := World.ownsRow_nil _ _ _ _
      have hkg : (w15).heap[g]? = _ := Blk.eq
      have hog2 : World.ownsRow w15 g 3 1 (.slice (some ⟨g, 0, none⟩) R.ns.length R.ns.length) R.ns.length (ints (List.replicate R.ns.length 0)) := by
       have := ownsRow_blk (n := R.ns.length) (sz := 1) (Nat.le_refl g) hkg (by simp) (by omega)
       simpa [ints] using this
      haveI hrg : Row w15 (some ⟨g, 0, none⟩) (ints (List.replicate R.ns.length (0 : Int))) := ⟨(FRow.of_own hog2).row⟩
      refine x_regionL ?_
      refine xl_Fb ?_
      refine xl_Lc ?_
      refine xl_v v_move ?_
      refine xl_Fb ?_
      refine xl_Lc ?_
      refine xl_v v_len ?_
      refine xl_v (v_indexO i rfl (by omega) (by simp; omega)) ?_
      refine xl_s (e_storeOwn hog2 (by omega) (by decide) fun w19 l107 ho107 => ?_)
      have hsl : setL (ints (List.replicate R.ns.length (0 : Int))) (i * 1) [.int .i64 (z.x.log.length : Int)] = ints ((List.replicate R.ns.length (0 : Int)).set i z.x.log.length) := setL_map (Value.int .i64) _ i _ (by simp; omega)
      rw [hsl] at ho107
      refine xl_nil ?_
      refine x_seq ?_
      obtain ⟨z1, hz1⟩ : ∃ z1 : LAn, z1 = ⟨{ z.x with role := 3, votes := [], next := List.replicate R.ns.length (z.x.log.length : Int), mat := (List.replicate R.ns.length (0 : Int)).set i z.x.log.length }, z.LA, z.lc, none, 0, XA, xc, some ⟨g, 0, none⟩, R.ns.length⟩ := ⟨_, rfl⟩
      have hcells : anC z1 = [.int .i64 3, .int .i64 z.x.term, .int .i64 z.x.vote, .int .i64 z.x.commit, .slice z.LA z.x.log.length z.lc, .slice none 0 0, .slice XA R.ns.length xc, .slice (some ⟨g, 0, none⟩) R.ns.length R.ns.length] := by rw [hz1]; simp [anC]
      have hoX2 := own_keepB hoX (kpc : Keep (OwnB (.slice (some ⟨g, 0, none⟩) R.ns.length R.ns.length)) _ w19) (fun j e e2 => by
       have h1 := (own_blk hoX e).1
       have h2 : j = g := by have := ownB_blk.1 e2; cases this; rfl
       have h3 : g < _ := (Has.lt : g < (w14).heap.size)
       omega)
      have hrows : RowsAn w19 (But P b4) z1 := by
       have hkw : Keep NoB w w19 := kpc
       rw [hz1]
       exact ⟨frow_ext (frow_but hzr.log hb4) hkw, FRow.nil _ _, frow_new (w := w14) hoX2 (Nat.le_refl _) (butP hP Ge.le hb4l), (FRow.of_own ho107).mono (fun k e => by
        have h1 := ownB_blk.1 e
        have h2 := (own_blk ho107 h1)
        cases h1
        exact ⟨⟨hP _ (by show w.heap.size ≤ g; omega), by show g ≠ b4; omega⟩, h2.2⟩), hzr.lc⟩
      refine x_regionL ?_
      refine xl_Lb ?_
      refine xl_v v_move ?_
      refine xl_v (v_congr (u := .agg (anC z1).toArray) v_loadA (by rw [hcells])) ?_
      refine xl_call (withD_ok (But P b4) R i z1 w19 (butP hP Ge.le Has.lt) ((h.but hb4).ext kpc) (hrows.ext kpc) hi hn5) ?_
      rintro _ w20 ⟨⟨R1, rfl, hR1, hR1n⟩, lk3⟩
      refine xl_v v_move ?_
      refine xl_call (commitsD_ok (But P b4) R1 i z1 w20 (butP hP Ge.le Has.lt) (hR1.2.ext kpc) (by rw [hR1n]; simp [hi]) (by rw [hR1n]; simpa using hn5) (by rw [hz1]; exact hll) (by rw [hz1]; simpa using hn5) (by rw [hz1]; exact hc0)) ?_
      rintro _ w21 ⟨⟨R2, rfl, hR2⟩, lk5⟩
      refine xl_s (e_storeA fun w22 l116 k116 => ?_)
      refine xl_nil ?_
      refine x_ret ?_
      refine finR (rs := [.cell 4 32]) rfl ?_
      refine ⟨⟨R2, by simp [outV], ?_, hR2.2.unbut l116.keep⟩, lkc⟩
      rw [hR2.1, hR1.1, setN_setND, leadsD_yes hyes, hz1, hR1n, len_mapset]
   ·
    refine xt_s rfl (e_store fun w23 l55 k55 => ?_)
    refine xt_e rfl (e_makeSlice R.ns.length R.ns.length rfl rfl (Nat.le_refl _) (by omega) (by omega) fun g w24 ng lg kg => ?_)
    refine xt_Fb rfl ?_
    refine xt_lastS rfl (e_store fun w25 l57 k57 => ?_)
    refine x_seq ?_
    refine x_seq ?_
    refine x_regionL ?_
    refine xl_v v_assign ?_
    refine xl_nil ?_
    refine x_block ?_
    have hb4 : w.heap.size ≤ b4 := by rw [n4.eq]; exact Ge.le
    have hb4l : b4 < (w25).heap.size := Has.lt
    have hb5l : b5 < (w25).heap.size := Has.lt
    have hgb4 : b4 < g := by rw [ng.eq]; exact Has.lt
    refine x_loop (fun m τ ds w' => ds = [] ∧ ∃ (k : Nat) (XA : Option Addr) (xc : Nat), m = R.ns.length - k ∧ k ≤ R.ns.length ∧ w'.ownsRow (w25).heap.size 3 1 (.slice XA k xc) k (ints (List.replicate k (z.x.log.length : Int))) ∧ Ev τ 1 (.int .i64 (i : Int)) ∧ Ev τ 2 (.pointer (some ⟨b1, 0, none⟩)) ∧ Ev τ 4 (.pointer (some ⟨b4, 0, none⟩)) ∧ Ev τ 5 (.pointer (some ⟨b5, 0, none⟩)) ∧ Ev τ 6 (.int .i64 (k : Int)) ∧ Blk w' b5 (.cells [.int .i64 3, .int .i64 z.x.term, .int .i64 z.x.vote, .int .i64 z.x.commit, .slice z.LA z.x.log.length z.lc, .slice none 0 0, .slice XA k xc, .slice (some ⟨g, 0, none⟩) R.ns.length R.ns.length].toArray 41 (0, 0)) ∧ Lk w' w25 (OneB b5)) (R.ns.length) ?start ?round
    case start =>
     exact ⟨rfl, 0, none, 0, rfl, Nat.zero_le _, World.ownsRow_nil _ _ _ _, inferInstance, inferInstance, inferInstance, inferInstance, evc, ⟨Blk.eq⟩, lkc⟩
    case round =>
     intro m τ26 ds26 w26 hI
     obtain ⟨rfl, k, XA, xc, rfl, hk, hoX, e1, e2, e4, e5, e6, kb5, lkS⟩ := hI
     haveI oX : OwnI w26 XA _ _ _ _ _ _ _ := ⟨hoX⟩
     haveI naX : NewA XA w25 := newA_of hoX (Nat.le_refl _)
     refine x_seq ?_
     refine x_seq ?_
     refine x_regionL ?_
     refine xl_v v_move ?_
     refine xl_Fb ?_
     refine xl_Lc ?_
     refine xl_v v_len ?_
     refine xl_v v_lss ?_
     refine xl_nil ?_
     first | refine x_condP (fun c2 => ?_) (fun c2 => ?_) | refine x_condN (fun c2 => ?_) (fun c2 => ?_) | refine x_condE (fun c2 => ?_) (fun c2 => ?_)
     ·
      refine x_skip ?_
      refine x_seq ?_
      refine x_block ?_
      refine x_regionL ?_
      refine xl_Fb ?_
      refine xl_Lc ?_
      refine xl_Fb ?_
      refine xl_Lc ?_
      refine xl_v v_len ?_
      refine xl_e (e_buildSlice1 rfl fun b27 w27 n27 l27 k27 => ?_)
      refine xl_e (e_app (by simp) (by decide) (by omega) (by omega) Ge.le fun X7 x7 w28 o7 l7 a7 f7 => ?_)
      refine xl_Fb ?_
      refine xl_s (e_store fun w29 l8 k8 => ?_)
      refine xl_nil ?_
      refine x_regionL ?_
      refine xl_v v_move ?_
      refine xl_v (v_add (by omega)) ?_
      refine xl_v v_assign ?_
      refine xl_nil ?_
      refine ⟨_, ?_, rfl, k + 1, X7, x7, rfl, by omega, ?_, inferInstance, inferInstance, inferInstance, inferInstance, evc, k8, lkc⟩
      ·omega
      ·have h1 := (OwnI.own (w := w29) (A := X7))
       rw [List.replicate_succ']
       simpa [ints] using h1
     ·
      refine x_exit ?_
      refine x_seq ?_
      have hkn : k = R.ns.length := by omega
      subst hkn
      have hog : World.ownsRow w26 (w26).heap.size 3 1 (.slice none 0 0) 0 [] := World.ownsRow_nil _ _ _ _
      have hkg : (w26).heap[g]? = _ := Blk.eq
      have hog2 : World.ownsRow w26 g 3 1 (.slice (some ⟨g, 0, none⟩) R.ns.length R.ns.length) R.ns.length (ints (List.replicate R.ns.length 0)) := by
       have := ownsRow_blk (n := R.ns.length) (sz := 1) (Nat.le_refl g) hkg (by simp) (by omega)
       simpa [ints] using this
      haveI hrg : Row w26 (some ⟨g, 0, none⟩) (ints (List.replicate R.ns.length (0 : Int))) := ⟨(FRow.of_own hog2).row⟩
      refine x_regionL ?_
      refine xl_Fb ?_
      refine xl_Lc ?_
      refine xl_v v_move ?_
      refine xl_Fb ?_
      refine xl_Lc ?_
      refine xl_v v_len ?_
      refine xl_v (v_indexO i rfl (by omega) (by simp; omega)) ?_
      refine xl_s (e_storeOwn hog2 (by omega) (by decide) fun w30 l107 ho107 => ?_)
      have hsl : setL (ints (List.replicate R.ns.length (0 : Int))) (i * 1) [.int .i64 (z.x.log.length : Int)] = ints ((List.replicate R.ns.length (0 : Int)).set i z.x.log.length) := setL_map (Value.int .i64) _ i _ (by simp; omega)
      rw [hsl] at ho107
      refine xl_nil ?_
      refine x_seq ?_
      obtain ⟨z1, hz1⟩ : ∃ z1 : LAn, z1 = ⟨{ z.x with role := 3, votes := [], next := List.replicate R.ns.length (z.x.log.length : Int), mat := (List.replicate R.ns.length (0 : Int)).set i z.x.log.length }, z.LA, z.lc, none, 0, XA, xc, some ⟨g, 0, none⟩, R.ns.length⟩ := ⟨_, rfl⟩
      have hcells : anC z1 = [.int .i64 3, .int .i64 z.x.term, .int .i64 z.x.vote, .int .i64 z.x.commit, .slice z.LA z.x.log.length z.lc, .slice none 0 0, .slice XA R.ns.length xc, .slice (some ⟨g, 0, none⟩) R.ns.length R.ns.length] := by rw [hz1]; simp [anC]
      have hoX2 := own_keepB hoX (kpc : Keep (OwnB (.slice (some ⟨g, 0, none⟩) R.ns.length R.ns.length)) _ w30) (fun j e e2 => by
       have h1 := (own_blk hoX e).1
       have h2 : j = g := by have := ownB_blk.1 e2; cases this; rfl
       have h3 : g < _ := (Has.lt : g < (w25).heap.size)
       omega)
      have hrows : RowsAn w30 (But P b4) z1 := by
       have hkw : Keep NoB w w30 := kpc
       rw [hz1]
       exact ⟨frow_ext (frow_but hzr.log hb4) hkw, FRow.nil _ _, frow_new (w := w25) hoX2 (Nat.le_refl _) (butP hP Ge.le hb4l), (FRow.of_own ho107).mono (fun k e => by
        have h1 := ownB_blk.1 e
        have h2 := (own_blk ho107 h1)
        cases h1
        exact ⟨⟨hP _ (by show w.heap.size ≤ g; omega), by show g ≠ b4; omega⟩, h2.2⟩), hzr.lc⟩
      refine x_regionL ?_
      refine xl_Lb ?_
      refine xl_v v_move ?_
      refine xl_v (v_congr (u := .agg (anC z1).toArray) v_loadA (by rw [hcells])) ?_
      refine xl_call (withD_ok (But P b4) R i z1 w30 (butP hP Ge.le Has.lt) ((h.but hb4).ext kpc) (hrows.ext kpc) hi hn5) ?_
      rintro _ w31 ⟨⟨R1, rfl, hR1, hR1n⟩, lk3⟩
      refine xl_v v_move ?_
      refine xl_call (commitsD_ok (But P b4) R1 i z1 w31 (butP hP Ge.le Has.lt) (hR1.2.ext kpc) (by rw [hR1n]; simp [hi]) (by rw [hR1n]; simpa using hn5) (by rw [hz1]; exact hll) (by rw [hz1]; simpa using hn5) (by rw [hz1]; exact hc0)) ?_
      rintro _ w32 ⟨⟨R2, rfl, hR2⟩, lk5⟩
      refine xl_s (e_storeA fun w33 l116 k116 => ?_)
      refine xl_nil ?_
      refine x_ret ?_
      refine finR (rs := [.cell 4 32]) rfl ?_
      refine ⟨⟨R2, by simp [outV], ?_, hR2.2.unbut l116.keep⟩, lkc⟩
      rw [hR2.1, hR1.1, setN_setND, leadsD_yes hyes, hz1, hR1n, len_mapset]
end Go.Proofs.YtljdkelgapndgaaGreat
