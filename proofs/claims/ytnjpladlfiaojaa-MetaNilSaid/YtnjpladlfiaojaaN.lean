/-
 Walks, printed by a program of this workplace (wip/tools/sx.py) off the functions' code and a text of contracts.
-/
import Derived.Test.YtnjpladlfiaojaaM
set_option linter.all false
set_option maxRecDepth 100000
set_option synthInstance.maxSize 100000
set_option synthInstance.maxHeartbeats 400000
namespace Go.Proofs.Ytnjpladlfiaojaa
open Go.Wst
open Go.Wst.Ct
theorem upTo_succ (n : Nat) : upTo (n + 1) = upTo n ++ [(n : Int)] := by simp [upTo, List.range_succ]
theorem upTo_len (n : Nat) : (upTo n).length = n := by simp [upTo]
theorem rep_succ {α : Type} (n : Nat) (a : α) : List.replicate (n + 1) a = List.replicate n a ++ [a] := by rw [List.replicate_succ']
abbrev v0 (nb : Nat) : View := ⟨-1, 0, 0, upTo nb⟩
abbrev wr0 : Wr := ⟨0, 0, 1, [], 0, 0⟩
def formOk (b p i : Int) : Prop := (1 ≤ b ∧ b ≤ 4) ∧ (1 ≤ p ∧ p ≤ 4) ∧ (1 ≤ i ∧ i ≤ 4)
instance (b p i : Int) : Decidable (formOk b p i) := inferInstanceAs (Decidable (_ ∧ _))
theorem own_from2 {A' A : Option Addr} {w : World} (f : FromA A' A w) {j : Nat} (h : blkA A' = some j) : blkA A = some j ∨ j = w.heap.size := by
 cases A' with
 | none => cases h
 | some a' =>
   have e : a'.block = j := by simpa [blkA] using h
   rcases f.or a' rfl with ⟨a, ha, hb⟩ | hb
   ·exact .inl (by rw [blkA_some ha, ← hb, e])
   ·exact .inr (by rw [← e, hb])
theorem apB_old {m : Nat} {D : LMeta} {w : World} (h : NewM m D w) {A : Option Addr} {s : Sl} (hA : D.addr m s = blkA A) {b : Nat} (hb : b < w.heap.size) : ApB A b := ⟨fun a ha e => by have := h a.block ⟨s, hA.trans (blkA_some ha)⟩; omega⟩
theorem subNewM {m : Nat} {D : LMeta} {w : World} (h : NewM m D w) {A : Option Addr} {s : Sl} (hA : D.addr m s = blkA A) (n c : Nat) (w' : World) (hw : w'.heap.size ≤ w.heap.size) : SubF (OwnB (.slice A n c)) NoB w' := ⟨fun k hk e => by have := h k ⟨s, hA.trans (ownB_blk.1 e)⟩; omega⟩
theorem subNew1 {m : Nat} {w w' : World} (h : w.heap.size ≤ m) (hw : w'.heap.size ≤ w.heap.size) : SubF (OneB m) NoB w' := ⟨fun k hk e => by have e' : k = m := e; omega⟩
set_option maxHeartbeats 1000000 in
/-- waystation/meta.New -/
theorem new_ok (b p i : Int) (w : World) : Ret Try.prog 14 #[.agg #[.int .i64 b, .int .i64 p, .int .i64 i]] w (fun v w' => (if formOk b p i then ∃ m D, v = .tuple #[.pointer (some ⟨m, 0, none⟩), .int .i64 0] ∧ MetaAt w' m D ∧ D.pure = new b.toNat p.toNat i.toNat ∧ NewM m D w else v = .tuple #[.pointer none, .int .i64 2]) ∧ Lk w' w NoB) := by
 refine ret_of_x (N := 90) (l := [.agg #[.int .i64 b, .int .i64 p, .int .i64 i]]) Try.func14 rfl rfl (Nat.le_of_ble_eq_true rfl) ?_
 refine x_seq ?_
 refine x_regionL ?_
 refine xl_e (e_box fun b1 w1 n1 l1 k1 => ?_)
 refine xl_v v_assign ?_
 refine xl_v v_assign ?_
 refine xl_nil ?_
 refine x_seq ?_
 refine x_seq ?_
 refine x_regionL ?_
 refine xl_Fa ?_
 refine xl_Ld ?_
 refine xl_v v_lss ?_
 refine xl_v v_move ?_
 refine xl_split 10 (fun g10 => ?_) (fun g10 => ?_)
 ·
  refine xl_gs rfl EvO.eq ?_
  refine xl_gs rfl EvO.eq ?_
  refine xl_gs rfl EvO.eq ?_
  refine xl_Pk ?_
  refine xl_v v_move ?_
  refine xl_gs rfl EvO.eq ?_
  refine xl_gs rfl EvO.eq ?_
  refine xl_gs rfl EvO.eq ?_
  refine xl_Pk ?_
  refine xl_v v_move ?_
  refine xl_gs rfl EvO.eq ?_
  refine xl_gs rfl EvO.eq ?_
  refine xl_gs rfl EvO.eq ?_
  refine xl_Pk ?_
  refine xl_v v_move ?_
  refine xl_gs rfl EvO.eq ?_
  refine xl_gs rfl EvO.eq ?_
  refine xl_gs rfl EvO.eq ?_
  refine xl_Pk ?_
  refine xl_v v_move ?_
  refine xl_gs rfl EvO.eq ?_
  refine xl_gs rfl EvO.eq ?_
  refine xl_gs rfl EvO.eq ?_
  refine xl_Pk ?_
  refine xl_nil ?_
  refine x_condT ?_
  refine x_seq ?_
  refine x_regionL ?_
  refine xl_v v_assign ?_
  refine xl_v v_assign ?_
  refine xl_nil ?_
  refine x_ret ?_
  refine fin2 rfl ?_
  refine ⟨?_, lkc⟩
  rw [if_neg]
  intro hf
  obtain ⟨q1, q2, q3⟩ := hf
  first
   | (simp at c1; omega)
   | (simp at g10; omega)
   | (simp at g15; omega)
   | (simp at g20; omega)
   | (simp at g25; omega)
   | (simp at g30; omega)
 ·
  refine xl_gFa rfl EvO.eq ?_
  refine xl_gLd rfl EvO.eq ?_
  refine xl_gv rfl EvO.eq v_gtr ?_
  refine xl_Pk ?_
  refine xl_v v_move ?_
  refine xl_split 15 (fun g15 => ?_) (fun g15 => ?_)
  ·
   refine xl_gs rfl EvO.eq ?_
   refine xl_gs rfl EvO.eq ?_
   refine xl_gs rfl EvO.eq ?_
   refine xl_Pk ?_
   refine xl_v v_move ?_
   refine xl_gs rfl EvO.eq ?_
   refine xl_gs rfl EvO.eq ?_
   refine xl_gs rfl EvO.eq ?_
   refine xl_Pk ?_
   refine xl_v v_move ?_
   refine xl_gs rfl EvO.eq ?_
   refine xl_gs rfl EvO.eq ?_
   refine xl_gs rfl EvO.eq ?_
   refine xl_Pk ?_
   refine xl_v v_move ?_
   refine xl_gs rfl EvO.eq ?_
   refine xl_gs rfl EvO.eq ?_
   refine xl_gs rfl EvO.eq ?_
   refine xl_Pk ?_
   refine xl_nil ?_
   refine x_condT ?_
   refine x_seq ?_
   refine x_regionL ?_
   refine xl_v v_assign ?_
   refine xl_v v_assign ?_
   refine xl_nil ?_
   refine x_ret ?_
   refine fin2 rfl ?_
   refine ⟨?_, lkc⟩
   rw [if_neg]
   intro hf
   obtain ⟨q1, q2, q3⟩ := hf
   first
    | (simp at c1; omega)
    | (simp at g10; omega)
    | (simp at g15; omega)
    | (simp at g20; omega)
    | (simp at g25; omega)
    | (simp at g30; omega)
  ·
   refine xl_gFa rfl EvO.eq ?_
   refine xl_gLd rfl EvO.eq ?_
   refine xl_gv rfl EvO.eq v_lss ?_
   refine xl_Pk ?_
   refine xl_v v_move ?_
   refine xl_split 20 (fun g20 => ?_) (fun g20 => ?_)
   ·
    refine xl_gs rfl EvO.eq ?_
    refine xl_gs rfl EvO.eq ?_
    refine xl_gs rfl EvO.eq ?_
    refine xl_Pk ?_
    refine xl_v v_move ?_
    refine xl_gs rfl EvO.eq ?_
    refine xl_gs rfl EvO.eq ?_
    refine xl_gs rfl EvO.eq ?_
    refine xl_Pk ?_
    refine xl_v v_move ?_
    refine xl_gs rfl EvO.eq ?_
    refine xl_gs rfl EvO.eq ?_
    refine xl_gs rfl EvO.eq ?_
    refine xl_Pk ?_
    refine xl_nil ?_
    refine x_condT ?_
    refine x_seq ?_
    refine x_regionL ?_
    refine xl_v v_assign ?_
    refine xl_v v_assign ?_
    refine xl_nil ?_
    refine x_ret ?_
    refine fin2 rfl ?_
    refine ⟨?_, lkc⟩
    rw [if_neg]
    intro hf
    obtain ⟨q1, q2, q3⟩ := hf
    first
     | (simp at c1; omega)
     | (simp at g10; omega)
     | (simp at g15; omega)
     | (simp at g20; omega)
     | (simp at g25; omega)
     | (simp at g30; omega)
   ·
    refine xl_gFa rfl EvO.eq ?_
    refine xl_gLd rfl EvO.eq ?_
    refine xl_gv rfl EvO.eq v_gtr ?_
    refine xl_Pk ?_
    refine xl_v v_move ?_
    refine xl_split 25 (fun g25 => ?_) (fun g25 => ?_)
    ·
     refine xl_gs rfl EvO.eq ?_
     refine xl_gs rfl EvO.eq ?_
     refine xl_gs rfl EvO.eq ?_
     refine xl_Pk ?_
     refine xl_v v_move ?_
     refine xl_gs rfl EvO.eq ?_
     refine xl_gs rfl EvO.eq ?_
     refine xl_gs rfl EvO.eq ?_
     refine xl_Pk ?_
     refine xl_nil ?_
     refine x_condT ?_
     refine x_seq ?_
     refine x_regionL ?_
     refine xl_v v_assign ?_
     refine xl_v v_assign ?_
     refine xl_nil ?_
     refine x_ret ?_
     refine fin2 rfl ?_
     refine ⟨?_, lkc⟩
     rw [if_neg]
     intro hf
     obtain ⟨q1, q2, q3⟩ := hf
     first
      | (simp at c1; omega)
      | (simp at g10; omega)
      | (simp at g15; omega)
      | (simp at g20; omega)
      | (simp at g25; omega)
      | (simp at g30; omega)
    ·
     refine xl_gFa rfl EvO.eq ?_
     refine xl_gLd rfl EvO.eq ?_
     refine xl_gv rfl EvO.eq v_lss ?_
     refine xl_Pk ?_
     refine xl_v v_move ?_
     refine xl_split 30 (fun g30 => ?_) (fun g30 => ?_)
     ·
      refine xl_gs rfl EvO.eq ?_
      refine xl_gs rfl EvO.eq ?_
      refine xl_gs rfl EvO.eq ?_
      refine xl_Pk ?_
      refine xl_nil ?_
      refine x_condT ?_
      refine x_seq ?_
      refine x_regionL ?_
      refine xl_v v_assign ?_
      refine xl_v v_assign ?_
      refine xl_nil ?_
      refine x_ret ?_
      refine fin2 rfl ?_
      refine ⟨?_, lkc⟩
      rw [if_neg]
      intro hf
      obtain ⟨q1, q2, q3⟩ := hf
      first
       | (simp at c1; omega)
       | (simp at g10; omega)
       | (simp at g15; omega)
       | (simp at g20; omega)
       | (simp at g25; omega)
       | (simp at g30; omega)
     ·
      refine xl_gFa rfl EvO.eq ?_
      refine xl_gLd rfl EvO.eq ?_
      refine xl_gv rfl EvO.eq v_gtr ?_
      refine xl_Pk ?_
      refine xl_nil ?_
      refine x_condE (fun c1 => ?_) (fun c1 => ?_)
      ·
       refine x_seq ?_
       refine x_regionL ?_
       refine xl_v v_assign ?_
       refine xl_v v_assign ?_
       refine xl_nil ?_
       refine x_ret ?_
       refine fin2 rfl ?_
       refine ⟨?_, lkc⟩
       rw [if_neg]
       intro hf
       obtain ⟨q1, q2, q3⟩ := hf
       first
        | (simp at c1; omega)
        | (simp at g10; omega)
        | (simp at g15; omega)
        | (simp at g20; omega)
        | (simp at g25; omega)
        | (simp at g30; omega)
      ·
       have hf : formOk b p i := by
        simp at c1 g10 g15 g20 g25 g30
        exact ⟨⟨by omega, by omega⟩, ⟨by omega, by omega⟩, ⟨by omega, by omega⟩⟩
       obtain ⟨nb, hnb⟩ : ∃ n : Nat, n = b.toNat := ⟨_, rfl⟩
       obtain ⟨np, hnp⟩ : ∃ n : Nat, n = p.toNat := ⟨_, rfl⟩
       obtain ⟨ni, hni⟩ : ∃ n : Nat, n = i.toNat := ⟨_, rfl⟩
       have hb1 : b = nb := by have := hf.1; omega
       have hp1 : p = np := by have := hf.2.1; omega
       have hi1 : i = ni := by have := hf.2.2; omega
       have hb4 : 1 ≤ nb ∧ nb ≤ 4 := by have := hf.1; omega
       have hp4 : 1 ≤ np ∧ np ≤ 4 := by have := hf.2.1; omega
       have hi4 : 1 ≤ ni ∧ ni ≤ 4 := by have := hf.2.2; omega
       clear g10 g15 g20 g25 g30 c1
       rw [← hnb, ← hnp, ← hni]
       subst hb1; subst hp1; subst hi1
       refine x_skip ?_
       refine x_seq ?_
       refine x_regionL ?_
       refine xl_La ?_
       refine xl_v v_build ?_
       refine xl_e (e_box fun bm w2 nm lm km => ?_)
       refine xl_v v_assign ?_
       refine xl_nil ?_
       refine x_seq ?_
       refine x_regionL ?_
       refine xl_v v_assign ?_
       refine xl_nil ?_
       refine x_seq ?_
       refine x_seq ?_
       refine x_regionL ?_
       refine xl_Fa ?_
       refine xl_Ld ?_
       refine xl_v v_move ?_
       refine xl_nil ?_
       refine x_block ?_
       have hM0 : MetaAt w2 bm (emptyM nb np ni) := MetaAt.empty Blk.eq
       have hbmw : w1.heap.size ≤ bm := by rw [nm.eq]; exact Ge.le
       have hN0 : NewM bm (emptyM nb np ni) w1 := by
        rintro k ⟨s, hs⟩
        cases s with
        | m => cases hs; exact hbmw
        | vi j => cases hs
        | wi j => cases hs
        | _ => cases hs
       have hb1w : b1 < w1.heap.size := Has.lt
       haveI sbm : SubF (OneB bm) NoB w1 := subNew1 hbmw (Nat.le_refl _)
       refine x_loop (fun m τ ds w' => ds = [] ∧ ∃ (k : Nat) (D : LMeta) (AA : Option Addr) (ac : Nat), m = nb - k ∧ k ≤ nb ∧ MetaAt w' bm D ∧ NewM bm D w1 ∧ D.pure = ⟨nb, np, ni, List.replicate k true, [], []⟩ ∧ OwnI w' AA k ac w1.heap.size 3 1 k (ints (upTo k)) ∧ NewA AA w1 ∧ (∀ j, MetaB bm D j → blkA AA ≠ some j) ∧ Ev τ 1 (.pointer (some ⟨b1, 0, none⟩)) ∧ Ev τ 4 (.pointer (some ⟨bm, 0, none⟩)) ∧ Ev τ 5 (.slice AA k ac) ∧ Ev τ 39 (.int .i64 (nb : Int)) ∧ Ev τ 40 (.int .i64 (k : Int)) ∧ Lk w' w1 NoB) (nb) ?start ?round
       case start =>
        exact ⟨rfl, 0, emptyM nb np ni, none, 0, rfl, Nat.zero_le _, hM0, hN0, rfl, ⟨World.ownsRow_nil _ _ _ _⟩, newA_none _, (fun _ _ e => by cases e), inferInstance, inferInstance, inferInstance, inferInstance, evc, lkc⟩
       case round =>
        intro m τ3 ds3 w3 hI
        obtain ⟨rfl, k, D, AA, ac, rfl, hk, hM, hN, hP, oA, nA, hAp, e1, e4, e5, e39, e40, lk⟩ := hI
        haveI hb : Blk w3 bm _ := ⟨hM.hb⟩
        haveI hL : OwnI w3 D.LA _ _ _ _ _ _ _ := ⟨hM.lives⟩
        haveI apm : ApB D.LA bm := hM.apm (s := .l) rfl nofun
        haveI apLA : ApA D.LA AA := ⟨fun a b ha hb e => hAp a.block ⟨.l, blkA_some ha⟩ (by rw [blkA_some hb, e])⟩
        haveI apAL : ApA AA D.LA := apLA.symm
        haveI apBA : ApB AA bm := ⟨fun a ha e => hAp bm ⟨.m, rfl⟩ (by rw [blkA_some ha, e])⟩
        haveI apB1 : ApB D.LA b1 := apB_old hN (s := .l) rfl hb1w
        haveI sL : ∀ n c, SubF (OwnB (.slice D.LA n c)) NoB w1 := fun n c => subNewM hN (s := .l) rfl n c w1 (Nat.le_refl _)
        have hll : D.lives = List.replicate k true := congrArg Meta.lives hP
        have hlk : D.lives.length = k := by rw [hll]; simp
        have hnbD : D.nb = nb := congrArg Meta.nb hP
        have hnpD : D.np = np := congrArg Meta.np hP
        have hniD : D.ni = ni := congrArg Meta.ni hP
        have hvD : D.vs = [] := List.map_eq_nil_iff.1 (congrArg Meta.views hP)
        have hwD : D.ws = [] := List.map_eq_nil_iff.1 (congrArg Meta.wrs hP)
        refine x_seq ?_
        refine x_regionL ?_
        refine xl_v v_lss ?_
        refine xl_nil ?_
        refine x_seq ?_
        first | refine x_condP (fun c2 => ?_) (fun c2 => ?_) | refine x_condN (fun c2 => ?_) (fun c2 => ?_) | refine x_condE (fun c2 => ?_) (fun c2 => ?_)
        ·
         refine x_skip ?_
         refine x_seq ?_
         refine x_block ?_
         refine x_seq ?_
         refine x_regionL ?_
         refine xl_v v_move ?_
         refine xl_v v_assign ?_
         refine xl_nil ?_
         refine x_seq ?_
         refine x_regionL ?_
         refine xl_v v_move ?_
         refine xl_v v_move ?_
         refine xl_Nc ?_
         refine xl_Fa ?_
         refine xl_Ld ?_
         refine xl_e (e_buildSlice1 rfl fun b8 w4 n8 l8 k8 => ?_)
         have hbQ : (w3).heap.size ≤ (w4).heap.size := Ge.le
         refine xl_e (e_append' (OwnI.own : World.ownsRow w4 _ _ _ (.slice D.LA _ D.lc) _ _) (Nat.zero_le _) rfl Cell1L.eq (by decide) (.inl rfl) (by omega) (by omega) fun Aa ca w5 hownA la hfa => ?_)
         haveI oAa : OwnI w5 Aa _ _ _ _ _ _ _ := ⟨hownA⟩
         haveI faA := from_own hfa
         haveI apAm : ApB Aa bm := ⟨fun a ha e => by
          rcases own_from hfa hbQ with h2 | h2
          ·exact hM.ne (s := .l) (t := .m) (h2.symm.trans (blkA_some ha)) rfl nofun e
          ·have := h2 _ (blkA_some ha); have := hM.lt bm ⟨.m, rfl⟩; omega⟩
         have hfaB := own_from hfa hbQ
         have hAAl : ∀ j, blkA AA = some j → j < (w3).heap.size := fun j e => (own_blk oA.own e).2
         refine xl_Nc ?_
         refine xl_Fa ?_
         refine xl_s (e_store fun w6 l6 k6 => ?_)
         have hM2 : MetaAt w6 bm { D with lives := D.lives ++ [true], LA := Aa, lc := ca } := hM.pushL true (S := fun k => OneB bm k ∨ OwnB (.slice D.LA D.lives.length D.lc) k) kpc (fun k _ e => e.imp id ownB_blk.1) (by have := (Blk.eq : (w6).heap[bm]? = _); simpa [metaC] using this) (by have := (OwnI.own : World.ownsRow w6 _ _ _ (.slice Aa _ ca) _ _); simpa [bools] using this) hfaB
         have hN2 : NewM bm { D with lives := D.lives ++ [true], LA := Aa, lc := ca } w1 := fun j hj => by
          rcases hj.pushL with h1 | h1
          ·exact hN j h1
          ·rcases hfaB with h2 | h2
           ·exact hN j ⟨.l, h2.symm.trans h1⟩
           ·have := h2 j h1; have := lk.keep.size; omega
         obtain ⟨wM, hwM⟩ : ∃ x, x = w6 := ⟨_, rfl⟩
         have hM2' := hwM ▸ hM2
         have hBM : (w3).heap.size ≤ wM.heap.size := by rw [hwM]; exact Ge.le
         refine xl_nil ?_
         refine x_regionL ?_
         refine xl_v v_move ?_
         refine xl_v v_move ?_
         refine xl_e (e_buildSlice1 rfl fun b9 w7 n9 l9 k9 => ?_)
         have hMs : wM.heap.size ≤ (w7).heap.size := by rw [hwM]; exact Ge.le
         refine xl_e (e_app (by omega) (by decide) (by omega) (by omega) (by first | exact Ge.le | omega) fun A9 c9 w8 o9 l10 a9 f9 => ?_)
         have hM3 : MetaAt w8 bm { D with lives := D.lives ++ [true], LA := Aa, lc := ca } := hM2'.keep (S := OwnB (.slice AA k ac)) (by rw [hwM]; exact kpc) (fun j hj e => by
          have e2 := ownB_blk.1 e
          rcases hj.pushL with h1 | h1
          ·exact hAp j h1 e2
          ·rcases hfaB with h2 | h2
           ·exact hAp j ⟨.l, h2.symm.trans h1⟩ e2
           ·have := h2 j h1; have := hAAl j e2; omega)
         have hN3 := hN2
         refine xl_v v_assign ?_
         refine xl_nil ?_
         refine x_regionL ?_
         refine xl_v (v_add (by omega)) ?_
         refine xl_v v_move ?_
         refine xl_nil ?_
         refine ⟨_, ?_, rfl, k + 1, { D with lives := D.lives ++ [true], LA := Aa, lc := ca }, A9, c9, rfl, by omega, hM3, hN3, ?_, ⟨by rw [upTo_succ, ints_append]; exact o9.own⟩, inferInstance, ?_, inferInstance, inferInstance, inferInstance, inferInstance, evc, lkc⟩
         ·omega
         ·simp [LMeta.pure, hll, hvD, hwD, hnbD, hnpD, hniD, List.replicate_succ']
         ·intro j hj e
          rcases own_from2 f9 e with e2 | e2
          ·rcases hj.pushL with h1 | h1
           ·exact hAp j h1 e2
           ·rcases hfaB with h2 | h2
            ·exact hAp j ⟨.l, h2.symm.trans h1⟩ e2
            ·have := h2 j h1; have := hAAl j e2; omega
          ·have := hM2'.lt j hj; omega
        ·
         refine x_exit ?_
         refine x_seq ?_
         refine x_seq ?_
         refine x_regionL ?_
         refine xl_Fa ?_
         refine xl_Ld ?_
         refine xl_v v_move ?_
         refine xl_nil ?_
         refine x_block ?_
         have hkn : k = nb := by omega
         subst hkn
         have hlA : (upTo k).length = k := upTo_len k
         have hAAs : AA.isSome = true := row_some (w := w3) (A := AA) (cs := ints (upTo k)) inferInstance (by simp [ints, hlA]; omega)
         have hAAn : ∀ j, blkA AA = some j → w1.heap.size ≤ j := fun j e => (own_blk oA.own e).1
         refine x_loop (fun m τ ds w' => ds = [] ∧ ∃ (q : Nat) (D2 : LMeta), m = np - q ∧ q ≤ np ∧ MetaAt w' bm D2 ∧ NewM bm D2 w1 ∧ D2.pure = ⟨k, np, ni, List.replicate k true, List.replicate q (v0 k), []⟩ ∧ OwnI w' AA k ac w1.heap.size 3 1 k (ints (upTo k)) ∧ (∀ j, MetaB bm D2 j → blkA AA ≠ some j) ∧ Ev τ 1 (.pointer (some ⟨b1, 0, none⟩)) ∧ Ev τ 4 (.pointer (some ⟨bm, 0, none⟩)) ∧ Ev τ 5 (.slice AA k ac) ∧ Ev τ 58 (.int .i64 (np : Int)) ∧ Ev τ 59 (.int .i64 (q : Int)) ∧ Lk w' w1 NoB) (np) ?start ?round
         case start =>
          exact ⟨rfl, 0, D, rfl, Nat.zero_le _, hM.ext kpc, hN, by rw [hP]; rfl, inferInstance, hAp, inferInstance, inferInstance, inferInstance, inferInstance, evc, lkc⟩
         case round =>
          intro m τ9 ds9 w9 hI
          clear hM hN hP hAp oA hb hL apm apLA apAL apBA apB1 sL hll hlk hnbD hnpD hniD hvD hwD lk e1 e4 e5 e39 e40
          obtain ⟨rfl, q, D, rfl, hq, hM, hN, hP, oA, hAp, e1, e4, e5, e39, e40, lk⟩ := hI
          haveI hb : Blk w9 bm _ := ⟨hM.hb⟩
          haveI hL : OwnI w9 D.VA _ _ _ _ _ _ _ := ⟨hM.views⟩
          haveI apm : ApB D.VA bm := hM.apm (s := .v) rfl nofun
          haveI apLA : ApA D.VA AA := ⟨fun a b ha hb e => hAp a.block ⟨.v, blkA_some ha⟩ (by rw [blkA_some hb, e])⟩
          haveI apAL : ApA AA D.VA := apLA.symm
          haveI apBA : ApB AA bm := ⟨fun a ha e => hAp bm ⟨.m, rfl⟩ (by rw [blkA_some ha, e])⟩
          haveI apB1 : ApB D.VA b1 := apB_old hN (s := .v) rfl hb1w
          haveI sL : ∀ n c, SubF (OwnB (.slice D.VA n c)) NoB w1 := fun n c => subNewM hN (s := .v) rfl n c w1 (Nat.le_refl _)
          have hvq : D.vs.length = q := by have := congrArg (fun m => (Meta.views m).length) hP; simpa [LMeta.pure] using this
          have hvs : D.vs.map (·.v) = List.replicate q (v0 k) := congrArg Meta.views hP
          have hll : D.lives = List.replicate k true := congrArg Meta.lives hP
          have hnbD : D.nb = k := congrArg Meta.nb hP
          have hnpD : D.np = np := congrArg Meta.np hP
          have hniD : D.ni = ni := congrArg Meta.ni hP
          have hwD : D.ws = [] := List.map_eq_nil_iff.1 (congrArg Meta.wrs hP)
          refine x_seq ?_
          refine x_regionL ?_
          refine xl_v v_lss ?_
          refine xl_nil ?_
          refine x_seq ?_
          first | refine x_condP (fun c3 => ?_) (fun c3 => ?_) | refine x_condN (fun c3 => ?_) (fun c3 => ?_) | refine x_condE (fun c3 => ?_) (fun c3 => ?_)
          ·
           refine x_skip ?_
           refine x_seq ?_
           refine x_block ?_
           refine x_drawL (OwnB (.slice D.VA D.vs.length D.vc)) (allS) (.take 0 (.take 1 (.take 2 (.take 3 (.take 4 (.take 5 (.eff 6 (.take 7 (.eff 8 (.eff 9 (.takeA 10 (.take 11 (.free 12 .done))))))))))))) mixed (by kernel_rfl) (fun _ _ _ _ _ h => h) (fun w10 l10 => ?_)
           refine xt_v rfl v_move ?_
           refine xt_v rfl v_move ?_
           refine xt_Nc rfl ?_
           refine xt_Fa rfl ?_
           refine xt_Ld rfl ?_
           refine xt_v rfl v_move ?_
           refine xt_call rfl (cloneI_ok AA k ac (ints (upTo k)) w10 (by simp [ints, hlA]) (by omega) (ints_one _) (.inl hAAs)) ?_
           rintro _ w11 ⟨⟨A7, c7, rfl, hown7⟩, lk7⟩
           refine ⟨kpc, ?_⟩
           haveI o7 : OwnI w11 A7 _ _ _ _ _ _ _ := ⟨hown7⟩
           haveI na7 : NewA A7 w10 := newA_of hown7 (Nat.le_refl _)
           have hBp : (w9).heap.size ≤ (w10).heap.size := Ge.le
           refine xt_v rfl v_build ?_
           refine xt_e rfl (e_buildSlice1 rfl fun b8 w12 n8 l8 k8 => ?_)
           have hbQ : (w9).heap.size ≤ (w12).heap.size := Ge.le
           have h7 : ∀ j, blkA A7 = some j → (w9).heap.size ≤ j ∧ j < (w12).heap.size := fun j e => ⟨Nat.le_trans hBp (own_blk hown7 e).1, Nat.lt_of_lt_of_le (own_blk hown7 e).2 Ge.le⟩
           refine xt_e rfl (e_append' (OwnI.own : World.ownsRow w12 _ _ _ (.slice D.VA _ D.vc) _ _) (Nat.zero_le _) rfl Cell1L.eq (by decide) (.inl rfl) (by omega) (by omega) fun Aa ca w13 hownA la hfa => ?_)
           haveI oAa : OwnI w13 Aa _ _ _ _ _ _ _ := ⟨hownA⟩
           have hfaB := own_from hfa hbQ
           have hfaN := own_from hfa (Nat.le_refl _)
           haveI apAm : ApB Aa bm := ⟨fun a ha e => by
            rcases hfaB with h2 | h2
            ·exact hM.ne (s := .v) (t := .m) (h2.symm.trans (blkA_some ha)) rfl nofun e
            ·have := h2 _ (blkA_some ha); have := hM.lt bm ⟨.m, rfl⟩; omega⟩
           haveI ap7m : ApB A7 bm := ⟨fun a ha e => by have := (h7 _ (blkA_some ha)).1; have := hM.lt bm ⟨.m, rfl⟩; omega⟩
           refine xt_av rfl (by first | exact v_nilCheckP | exact v_nilCheckF | exact v_nilCheckR (by first | assumption | rfl)) ?_
           refine xt_Fa rfl ?_
           refine xt_fs rfl (e_store fun w14 l14 k14 => ?_)
           have hM2 : MetaAt w14 bm { D with vs := D.vs ++ [⟨v0 k, A7, c7⟩], VA := Aa, vc := ca } := hM.pushV ⟨v0 k, A7, c7⟩ (S := fun k => OneB bm k ∨ OwnB (.slice D.VA D.vs.length D.vc) k) kpc (fun k _ e => e.imp id ownB_blk.1) (by have := (Blk.eq : (w14).heap[bm]? = _); simpa [metaC] using this) (by have := (OwnI.own : World.ownsRow w14 _ _ _ (.slice Aa _ ca) _ _); simpa [hlA, viewC, v0] using this) (by have := (OwnI.own : World.ownsRow w14 _ _ _ (.slice A7 _ c7) _ _); rw [hlA]; exact own_mono this (Nat.zero_le _)) hbQ h7 hfaN
           have hN2 : NewM bm { D with vs := D.vs ++ [⟨v0 k, A7, c7⟩], VA := Aa, vc := ca } w1 := fun j hj => by
            have hsz := lk.keep.size
            rcases hj.pushV with h1 | h1 | h1
            ·exact hN j h1
            ·have := (h7 j h1).1; omega
            ·rcases hfaB with h2 | h2
             ·exact hN j ⟨.v, h2.symm.trans h1⟩
             ·have := h2 j h1; omega
           refine xt_nil ?_
           refine x_regionL ?_
           refine xl_v (v_add (by omega)) ?_
           refine xl_v v_move ?_
           refine xl_nil ?_
           refine ⟨_, ?_, rfl, q + 1, { D with vs := D.vs ++ [⟨v0 k, A7, c7⟩], VA := Aa, vc := ca }, rfl, by omega, hM2, hN2, ?_, inferInstance, ?_, inferInstance, inferInstance, inferInstance, inferInstance, evc, lkc⟩
           ·omega
           ·simp only [LMeta.pure, List.map_append, List.map_cons, List.map_nil, hvs, hll, hwD, hnbD, hnpD, hniD, List.replicate_succ']
           ·intro j hj e
            rcases hj.pushV with h1 | h1 | h1
            ·exact hAp j h1 e
            ·have := (h7 j h1).1; have := (own_blk oA.own e).2; omega
            ·rcases hfaB with h2 | h2
             ·exact hAp j ⟨.v, h2.symm.trans h1⟩ e
             ·have := h2 j h1; have := (own_blk oA.own e).2; omega
          ·
           refine x_exit ?_
           refine x_seq ?_
           refine x_seq ?_
           refine x_regionL ?_
           refine xl_Fa ?_
           refine xl_Ld ?_
           refine xl_v v_move ?_
           refine xl_nil ?_
           refine x_block ?_
           have hqn : q = np := by omega
           subst hqn
           refine x_loop (fun m τ ds w' => ds = [] ∧ ∃ (t : Nat) (D2 : LMeta), m = ni - t ∧ t ≤ ni ∧ MetaAt w' bm D2 ∧ NewM bm D2 w1 ∧ D2.pure = ⟨k, q, ni, List.replicate k true, List.replicate q (v0 k), List.replicate t wr0⟩ ∧ Ev τ 4 (.pointer (some ⟨bm, 0, none⟩)) ∧ Ev τ 75 (.int .i64 (ni : Int)) ∧ Ev τ 76 (.int .i64 (t : Int)) ∧ Lk w' w1 NoB) (ni) ?start ?round
           case start =>
            exact ⟨rfl, 0, D, rfl, Nat.zero_le _, hM.ext kpc, hN, by rw [hP]; rfl, inferInstance, inferInstance, evc, lkc⟩
           case round =>
            intro m τ15 ds15 w15 hI
            clear hM hN hP hAp oA hb hL apm apLA apAL apBA apB1 sL hvq hvs hll hnbD hnpD hniD hwD lk e1 e4 e5 e39 e40
            obtain ⟨rfl, t, D, rfl, ht, hM, hN, hP, e4, e39, e40, lk⟩ := hI
            haveI hb : Blk w15 bm _ := ⟨hM.hb⟩
            haveI hL : OwnI w15 D.WA _ _ _ _ _ _ _ := ⟨hM.wrs⟩
            haveI apm : ApB D.WA bm := hM.apm (s := .w) rfl nofun
            haveI sL : ∀ n c, SubF (OwnB (.slice D.WA n c)) NoB w1 := fun n c => subNewM hN (s := .w) rfl n c w1 (Nat.le_refl _)
            have hwt : D.ws.length = t := by have := congrArg (fun m => (Meta.wrs m).length) hP; simpa [LMeta.pure] using this
            have hws : D.ws.map (·.w) = List.replicate t wr0 := congrArg Meta.wrs hP
            have hvs : D.vs.map (·.v) = List.replicate q (v0 k) := congrArg Meta.views hP
            have hll : D.lives = List.replicate k true := congrArg Meta.lives hP
            have hnbD : D.nb = k := congrArg Meta.nb hP
            have hnpD : D.np = q := congrArg Meta.np hP
            have hniD : D.ni = ni := congrArg Meta.ni hP
            refine x_seq ?_
            refine x_regionL ?_
            refine xl_v v_lss ?_
            refine xl_nil ?_
            refine x_seq ?_
            first | refine x_condP (fun c4 => ?_) (fun c4 => ?_) | refine x_condN (fun c4 => ?_) (fun c4 => ?_) | refine x_condE (fun c4 => ?_) (fun c4 => ?_)
            ·
             refine x_skip ?_
             refine x_seq ?_
             refine x_block ?_
             refine x_regionL ?_
             refine xl_v v_move ?_
             refine xl_v v_move ?_
             refine xl_Nc ?_
             refine xl_Fa ?_
             refine xl_Ld ?_
             refine xl_v v_build ?_
             refine xl_e (e_buildSlice1 rfl fun b8 w16 n8 l8 k8 => ?_)
             have hbQ : (w15).heap.size ≤ (w16).heap.size := Ge.le
             refine xl_e (e_append' (OwnI.own : World.ownsRow w16 _ _ _ (.slice D.WA _ D.wc) _ _) (Nat.zero_le _) rfl Cell1L.eq (by decide) (.inl rfl) (by omega) (by omega) fun Aa ca w17 hownA la hfa => ?_)
             haveI oAa : OwnI w17 Aa _ _ _ _ _ _ _ := ⟨hownA⟩
             have hfaB := own_from hfa hbQ
             have hfaN := own_from hfa (Nat.le_refl _)
             haveI apAm : ApB Aa bm := ⟨fun a ha e => by
              rcases hfaB with h2 | h2
              ·exact hM.ne (s := .w) (t := .m) (h2.symm.trans (blkA_some ha)) rfl nofun e
              ·have := h2 _ (blkA_some ha); have := hM.lt bm ⟨.m, rfl⟩; omega⟩
             refine xl_Nc ?_
             refine xl_Fa ?_
             refine xl_s (e_store fun w18 l18 k18 => ?_)
             have hM2 : MetaAt w18 bm { D with ws := D.ws ++ [⟨wr0, none, 0⟩], WA := Aa, wc := ca } := hM.pushW ⟨wr0, none, 0⟩ (S := fun k => OneB bm k ∨ OwnB (.slice D.WA D.ws.length D.wc) k) kpc (fun k _ e => e.imp id ownB_blk.1) (by have := (Blk.eq : (w18).heap[bm]? = _); simpa [metaC] using this) (by have := (OwnI.own : World.ownsRow w18 _ _ _ (.slice Aa _ ca) _ _); simpa [wrC, wr0] using this) (World.ownsRow_nil _ _ _ _) hbQ nofun hfaN
             have hN2 : NewM bm { D with ws := D.ws ++ [⟨wr0, none, 0⟩], WA := Aa, wc := ca } w1 := fun j hj => by
              have hsz := lk.keep.size
              rcases hj.pushW with h1 | h1 | h1
              ·exact hN j h1
              ·cases h1
              ·rcases hfaB with h2 | h2
               ·exact hN j ⟨.w, h2.symm.trans h1⟩
               ·have := h2 j h1; omega
             refine xl_nil ?_
             refine x_regionL ?_
             refine xl_v (v_add (by omega)) ?_
             refine xl_v v_move ?_
             refine xl_nil ?_
             refine ⟨_, ?_, rfl, t + 1, { D with ws := D.ws ++ [⟨wr0, none, 0⟩], WA := Aa, wc := ca }, rfl, by omega, hM2, hN2, ?_, inferInstance, inferInstance, evc, lkc⟩
             ·omega
             ·simp only [LMeta.pure, List.map_append, List.map_cons, List.map_nil, hws, hvs, hll, hnbD, hnpD, hniD, List.replicate_succ']
            ·
             refine x_exit ?_
             refine x_seq ?_
             refine x_regionL ?_
             refine xl_v v_move ?_
             refine xl_v v_assign ?_
             refine xl_v v_assign ?_
             refine xl_nil ?_
             refine x_ret ?_
             refine fin2 rfl ?_
             have htn : t = ni := by omega
             subst htn
             refine ⟨?_, lkc⟩
             rw [if_pos hf]
             exact ⟨bm, D, rfl, hM.ext kpc, by rw [hP]; simp [new], fun j hj => Nat.le_trans Ge.le (hN j hj)⟩
end Go.Proofs.Ytnjpladlfiaojaa
