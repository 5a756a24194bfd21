/-
  Walks, printed by a program of this workplace (wip/tools/sx.py) off the functions' code and a text of contracts.
-/
import Derived.Test.YtbihphclmdokeaaQ
set_option linter.all false
set_option maxRecDepth 100000
set_option synthInstance.maxSize 100000
set_option synthInstance.maxHeartbeats 400000
namespace Go.Proofs.Ytbihphclmdokeaa
open Go.Wst
open Go.Wst.Sm
/-- Two machines, apart, both made since wS. -/
structure Pair (wS w : World) (b1 pb1 mb1 : Nat) (v1 : List Value) (b2 pb2 mb2 : Nat) (v2 : List Value) (M N : Mach) : Prop where
  l : MachAt w b1 pb1 mb1 v1 M
  r : MachAt w b2 pb2 mb2 v2 N
  ls : ∀ k, MachF b1 pb1 mb1 v1 k → wS.heap.size ≤ k
  rs : ∀ k, MachF b2 pb2 mb2 v2 k → wS.heap.size ≤ k
  ap : ∀ k, MachF b1 pb1 mb1 v1 k → ¬ MachF b2 pb2 mb2 v2 k
theorem Pair.ext {wS w w' : World} {b1 pb1 mb1 : Nat} {v1 : List Value} {b2 pb2 mb2 : Nat} {v2 : List Value} {M N : Mach} (h : Pair wS w b1 pb1 mb1 v1 b2 pb2 mb2 v2 M N) (hk : Keep NoB w w') : Pair wS w' b1 pb1 mb1 v1 b2 pb2 mb2 v2 M N :=
  ⟨h.l.keep hk (fun _ _ h => h), h.r.keep hk (fun _ _ h => h), h.ls, h.rs, h.ap⟩
theorem Pair.left {wS w w' : World} {b1 pb1 mb1 : Nat} {v1 v1' : List Value} {b2 pb2 mb2 : Nat} {v2 : List Value} {M M' N : Mach} (h : Pair wS w b1 pb1 mb1 v1 b2 pb2 mb2 v2 M N) (hs : wS.heap.size ≤ w.heap.size) (hk : Lk w' w (MachF b1 pb1 mb1 v1)) (hm : MachAt w' b1 pb1 mb1 v1' M') (hsub : Sub (MachF b1 pb1 mb1 v1') (MachF b1 pb1 mb1 v1) w) :
    Pair wS w' b1 pb1 mb1 v1' b2 pb2 mb2 v2 M' N :=
  ⟨hm, h.r.keep hk.keep (fun k h2 h1 => h.ap k h1 h2), fun k hk => (hsub k hk).elim (h.ls k) (fun e => Nat.le_trans hs e), h.rs, fun k h1 h2 => (hsub k h1).elim (fun e => h.ap k e h2) (fun e => by have := h.r.lt k h2; omega)⟩
theorem Pair.right {wS w w' : World} {b1 pb1 mb1 : Nat} {v1 : List Value} {b2 pb2 mb2 : Nat} {v2 v2' : List Value} {M N N' : Mach} (h : Pair wS w b1 pb1 mb1 v1 b2 pb2 mb2 v2 M N) (hs : wS.heap.size ≤ w.heap.size) (hk : Lk w' w (MachF b2 pb2 mb2 v2)) (hm : MachAt w' b2 pb2 mb2 v2' N') (hsub : Sub (MachF b2 pb2 mb2 v2') (MachF b2 pb2 mb2 v2) w) :
    Pair wS w' b1 pb1 mb1 v1 b2 pb2 mb2 v2' M N' :=
  ⟨h.l.keep hk.keep (fun k h1 h2 => h.ap k h1 h2), hm, h.ls, fun k hk => (hsub k hk).elim (h.rs k) (fun e => Nat.le_trans hs e), fun k h1 h2 => (hsub k h2).elim (fun e => h.ap k h1 e) (fun e => by have := h.l.lt k h1; omega)⟩
theorem notS_since {F : Nat → Prop} {wS : World} (h : ∀ k, F k → wS.heap.size ≤ k) (b : Nat) (hb : b < wS.heap.size) : NotS F b := ⟨fun e => by have := h b e; omega⟩
theorem rowOut_since {F : Nat → Prop} {w wS : World} {A : Option Addr} {cs : List Value} (h : ∀ k, F k → wS.heap.size ≤ k) (hr : RowP w A cs) (hl : 0 < cs.length) (hs : w.heap.size ≤ wS.heap.size) : RowOut F A := ⟨fun a ha e => by
  obtain ⟨a', ha', hc⟩ := hr 0 _ (List.getElem?_eq_getElem hl)
  have h1 := World.block_lt_of_cell? _ _ hc
  rw [block_add] at h1
  rw [ha] at ha'
  cases ha'
  have := h _ e
  omega⟩
theorem subF_since' {F S : Nat → Prop} {w wS : World} (h : ∀ k, F k → wS.heap.size ≤ k) (hs : w.heap.size ≤ wS.heap.size) : SubF F S w := ⟨fun k hk e => by have := h k e; omega⟩

/-- waystation/waystationlaw14.StreamRounds -/
theorem StreamRounds_ok (r : Rule) (A : Option Addr) (n c : Nat) (xs : List Int) (B : Option Addr) (n' c' : Nat) (sizes : List Int) (w : World) [hrow : Row w A (ints xs)] [hrowB : Row w B (ints sizes)] (hl : xs.length = n) (hl' : sizes.length = n') (hA : A.isSome = true ∨ n = 0) (hB : B.isSome = true ∨ n' = 0) (hn : n ≤ 9223372036854775807) (hn' : n' ≤ 9223372036854775807) : Ret Try.prog 4 #[.agg (ruleC r).toArray, .slice A n c, .slice B n' c'] w (fun v w' => v = .bool true ∧ Lk w' w NoB) := by
  refine ret_of_x (N := 110) (l := [.agg (ruleC r).toArray, .slice A n c, .slice B n' c']) Try.func4 rfl rfl (Nat.le_of_ble_eq_true rfl) ?_
  refine x_seq ?_
  refine x_regionL ?_
  refine xl_e (e_box fun b0 w1 n0 l0 k0 => ?_)
  refine xl_v v_assign ?_
  refine xl_nil ?_
  refine x_seq ?_
  refine x_seq ?_
  refine x_regionL ?_
  refine xl_v v_move ?_
  refine xl_v v_len ?_
  refine xl_v v_gtr ?_
  refine xl_v v_move ?_
  refine xl_split 19 (fun g19 => ?_) (fun g19 => ?_)
  ·
    refine xl_gs rfl EvO.eq ?_
    refine xl_gs rfl EvO.eq ?_
    refine xl_gs rfl EvO.eq ?_
    refine xl_v (by first | exact v_pickT | exact v_pickF | exact v_pick) ?_
    refine xl_nil ?_
    refine x_condT ?_
    refine x_seq ?_
    refine x_regionL ?_
    refine xl_call (works_ok _) ?_
    rintro _ w2 ⟨rfl, lk⟩
    refine xl_v v_assign ?_
    refine xl_nil ?_
    refine x_ret ?_
    refine fin1 rfl ?_
    exact ⟨rfl, lkc⟩
  ·
    refine xl_gv rfl EvO.eq v_move ?_
    refine xl_gv rfl EvO.eq v_len ?_
    refine xl_gv rfl EvO.eq v_gtr ?_
    refine xl_v (by first | exact v_pickT | exact v_pickF | exact v_pick) ?_
    refine xl_nil ?_
    first | refine x_condP (fun c1 => ?_) (fun c1 => ?_) | refine x_condN (fun c1 => ?_) (fun c1 => ?_) | refine x_condE (fun c1 => ?_) (fun c1 => ?_)
    ·
      refine x_seq ?_
      refine x_regionL ?_
      refine xl_call (works_ok _) ?_
      rintro _ w3 ⟨rfl, lk⟩
      refine xl_v v_assign ?_
      refine xl_nil ?_
      refine x_ret ?_
      refine fin1 rfl ?_
      exact ⟨rfl, lkc⟩
    ·
      have hn60 : n ≤ 60 := by simp at g19; omega
      have hn60' : n' ≤ 60 := by omega
      refine x_skip ?_
      refine x_seq ?_
      refine x_regionL ?_
      refine xl_call (new_ok 4 w1) ?_
      rintro _ w4 ⟨hnew, lk1⟩
      rw [if_pos (by decide)] at hnew
      obtain ⟨b1, pb1, mb1, u1, rfl, hM1, hs1⟩ := hnew
      refine xl_v v_move ?_
      refine xl_v v_extract ?_
      refine xl_v v_extract ?_
      refine xl_v v_assign ?_
      refine xl_v v_assign ?_
      refine xl_nil ?_
      refine x_seq ?_
      refine x_regionL ?_
      refine xl_call (new_ok 4 w4) ?_
      rintro _ w5 ⟨hnew, lk2⟩
      rw [if_pos (by decide)] at hnew
      obtain ⟨b2, pb2, mb2, u2, rfl, hM2, hs2⟩ := hnew
      refine xl_v v_move ?_
      refine xl_v v_extract ?_
      refine xl_v v_extract ?_
      refine xl_v v_assign ?_
      refine xl_v v_assign ?_
      refine xl_nil ?_
      have hwS : w.heap.size ≤ w1.heap.size := Ge.le
      have hb0 : b0 < w1.heap.size := Has.lt
      have hw1 : w1.heap.size ≤ w5.heap.size := Ge.le
      have hP0 : Pair w1 w5 b1 pb1 mb1 u1 b2 pb2 mb2 u2 (Mach.new (4 : Int).toNat) (Mach.new (4 : Int).toNat) := ⟨hM1.keep lk2.keep (fun _ _ h => h), hM2, hs1, fun k hk => Nat.le_trans lk1.keep.size (hs2 k hk), fun k h1 h2 => by have e1 := hM1.lt k h1; have e2 := hs2 k h2; omega⟩
      haveI sF1 := subF_since' (S := NoB) hP0.ls hwS
      haveI sF2 := subF_since' (S := NoB) hP0.rs hwS
      haveI nS1 := notS_since hP0.ls b0 hb0
      haveI nS2 := notS_since hP0.rs b0 hb0
      refine x_seq ?_
      refine x_seq ?_
      refine x_regionL ?_
      refine xl_v v_move ?_
      refine xl_v (by first | exact v_loadA | exact v_loadF (by decide) (by omega)) ?_
      refine xl_call (rule_ok b1 pb1 mb1 u1 _ r _ hP0.l) ?_
      rintro _ w6 ⟨hv, hR1, lk3⟩
      subst hv
      have hP1 := hP0.left hw1 lk3 hR1 (Sub.refl _ _)
      have hw2 : w1.heap.size ≤ w6.heap.size := Ge.le
      refine xl_call (num_ok _ _) ?_
      rintro _ _ ⟨rfl, rfl⟩
      refine xl_v v_neq ?_
      refine xl_nil ?_
      refine x_condN (fun c2 => ?_) (fun c2 => ?_)
      ·
        have hrb : (Mach.new 4).ruleB r = false := by
          cases hb : (Mach.new 4).ruleB r with
          | false => rfl
          | true => exact absurd (if_pos hb) c2
        refine x_seq ?_
        refine x_regionL ?_
        refine xl_v v_move ?_
        refine xl_v (by first | exact v_loadA | exact v_loadF (by decide) (by omega)) ?_
        refine xl_call (rule_ok b2 pb2 mb2 u2 _ r _ hP1.r) ?_
        rintro _ w8 ⟨hv, hR2, lk4⟩
        subst hv
        refine xl_call (num_ok _ _) ?_
        rintro _ _ ⟨rfl, rfl⟩
        refine xl_v (v_eqlT (if_neg (by have := hrb; simpa using this))) ?_
        refine xl_v v_move ?_
        refine xl_gcall rfl EvO.eq (works_ok _) ?_
        rintro _ w10 ⟨rfl, lk⟩
        refine xl_v (by first | exact v_pickT | exact v_pickF | exact v_pick) ?_
        refine xl_v v_assign ?_
        refine xl_nil ?_
        refine x_ret ?_
        refine fin1 rfl ?_
        exact ⟨rfl, lkc⟩
      ·
        have hrb : (Mach.new 4).ruleB r = true := by
          cases hb : (Mach.new 4).ruleB r with
          | true => rfl
          | false => exact absurd c2 (by rw [if_neg]; decide; have := hb; simpa using this)
        have hm : mayB r = true := by simp [Mach.ruleB] at hrb; exact hrb.1.1.2
        obtain ⟨hO0, _⟩ := one1_new hm
        refine x_skip ?_
        refine x_seq ?_
        refine x_regionL ?_
        refine xl_v v_move ?_
        refine xl_v (by first | exact v_loadA | exact v_loadF (by decide) (by omega)) ?_
        refine xl_call (rule_ok b2 pb2 mb2 u2 _ r _ hP1.r) ?_
        rintro _ w11 ⟨hv, hR2, lk4⟩
        subst hv
        have hP2 : Pair w1 w11 b1 pb1 mb1 u1 b2 pb2 mb2 u2 ((Mach.new 4).ruleM r) ((Mach.new 4).ruleM r) := hP1.right hw2 lk4 hR2 (Sub.refl _ _)
        haveI sG1 := subF_since' (S := NoB) (w := w1) hP0.ls (Nat.le_refl _)
        haveI sG2 := subF_since' (S := NoB) (w := w1) hP0.rs (Nat.le_refl _)
        refine xl_nil ?_
        refine x_seq ?_
        refine x_seq ?_
        refine x_regionL ?_
        refine xl_v v_assign ?_
        refine xl_nil ?_
        refine x_block ?_
        refine x_loop (fun m τ ds w' => ds = [] ∧ ∃ (k : Nat) (v1 v2 : List Value), m = n - k ∧ k ≤ n ∧ One1 r k (putsM ((Mach.new 4).ruleM r) r.inp (xs.take k)) ∧ Pair w1 w' b1 pb1 mb1 v1 b2 pb2 mb2 v2 (putsM ((Mach.new 4).ruleM r) r.inp (xs.take k)) (putsM ((Mach.new 4).ruleM r) r.inp (xs.take k)) ∧ Ev τ 1 (.slice A n c) ∧ Ev τ 2 (.slice B n' c') ∧ Ev τ 3 (.pointer (some ⟨b0, 0, none⟩)) ∧ Ev τ 7 (.pointer (some ⟨b1, 0, none⟩)) ∧ Ev τ 8 (.int .i64 0) ∧ Ev τ 9 (.pointer (some ⟨b2, 0, none⟩)) ∧ Ev τ 10 (.int .i64 0) ∧ Ev τ 11 (.int .i64 (k : Int)) ∧ Lk w' w1 NoB) (n) ?start ?round
        case start =>
          exact ⟨rfl, 0, u1, u2, rfl, Nat.zero_le _, hO0, hP2, inferInstance, inferInstance, inferInstance, inferInstance, inferInstance, inferInstance, inferInstance, evc, lkc⟩
        case round =>
          intro m τ12 ds12 w12 hI
          obtain ⟨rfl, k, v1, v2, rfl, hk, hO, hP, e1, e2, e3, e7, e8, e9, e10, e11, lk⟩ := hI
          haveI sH1 := subF_since' (S := NoB) (w := w1) hP.ls (Nat.le_refl _)
          haveI sH2 := subF_since' (S := NoB) (w := w1) hP.rs (Nat.le_refl _)
          haveI nH1 := notS_since hP.ls b0 hb0
          haveI nH2 := notS_since hP.rs b0 hb0
          refine x_seq ?_
          refine x_seq ?_
          refine x_regionL ?_
          refine xl_v v_move ?_
          refine xl_v v_move ?_
          refine xl_v v_len ?_
          refine xl_v v_lss ?_
          refine xl_nil ?_
          first | refine x_condP (fun c3 => ?_) (fun c3 => ?_) | refine x_condN (fun c3 => ?_) (fun c3 => ?_) | refine x_condE (fun c3 => ?_) (fun c3 => ?_)
          ·
            have hk1 : k < xs.length := by omega
            have hAs : A.isSome = true := hA.resolve_right (by omega)
            haveI rO1 : RowOut (MachF b1 pb1 mb1 v1) A := rowOut_since hP.ls hrow.row (by rw [ints_len]; omega) hwS
            haveI rO2 : RowOut (MachF b2 pb2 mb2 v2) A := rowOut_since hP.rs hrow.row (by rw [ints_len]; omega) hwS
            refine x_skip ?_
            refine x_seq ?_
            refine x_block ?_
            refine x_seq ?_
            refine x_drawL (MachF b1 pb1 mb1 v1) (allS) (.take 0 (.take 1 (.take 2 (.take 3 (.take 4 (.take 5 (.take 6 (.eff 7 .done)))))))) mixed (by kernel_rfl) (fun _ _ _ _ _ h => h) (fun w13 l13 => ?_)
            refine xt_v rfl v_move ?_
            refine xt_v rfl (by first | exact v_fieldAddr | exact v_fieldAddrF (by decide) (by omega) | exact v_fieldAddrR (by first | assumption | rfl)) ?_
            refine xt_v rfl (by first | exact v_load | exact v_loadO (by omega) | exact v_loadFf (by omega) | exact v_loadF0 (by omega)) ?_
            refine xt_v rfl v_move ?_
            refine xt_v rfl v_move ?_
            refine xt_v rfl (v_indexAddr k rfl (by omega) hAs) ?_
            refine xt_v rfl (v_loadR (by simpa using ints_get hk1)) ?_
            refine xt_call rfl (put_ok b1 pb1 mb1 v1 _ r.inp xs[k] w13 (hP.ext kpc).l hO.ok) ?_
            rintro _ w14 ⟨rfl, lkp, v1', hMp, hsp⟩
            refine ⟨kpc, ?_⟩
            have hP3 := (hP.ext (kpc : Keep NoB w12 _)).left (Ge.le) lkp hMp hsp
            refine xt_nil ?_
            refine x_drawL (MachF b2 pb2 mb2 v2) (allS) (.take 0 (.take 1 (.take 2 (.take 3 (.take 4 (.take 5 (.take 6 (.eff 7 .done)))))))) mixed (by kernel_rfl) (fun _ _ _ _ _ h => h) (fun w15 l15 => ?_)
            refine xt_v rfl v_move ?_
            refine xt_v rfl (by first | exact v_fieldAddr | exact v_fieldAddrF (by decide) (by omega) | exact v_fieldAddrR (by first | assumption | rfl)) ?_
            refine xt_v rfl (by first | exact v_load | exact v_loadO (by omega) | exact v_loadFf (by omega) | exact v_loadF0 (by omega)) ?_
            refine xt_v rfl v_move ?_
            refine xt_v rfl v_move ?_
            refine xt_v rfl (v_indexAddr k rfl (by omega) hAs) ?_
            refine xt_v rfl (v_loadR (by simpa using ints_get hk1)) ?_
            refine xt_call rfl (put_ok b2 pb2 mb2 v2 _ r.inp xs[k] w15 (hP3.ext kpc).r hO.ok) ?_
            rintro _ w16 ⟨rfl, lkq, v2', hMq, hsq⟩
            refine ⟨kpc, ?_⟩
            have hP4 := (hP3.ext kpc).right (Ge.le) lkq hMq hsq
            refine xt_nil ?_
            refine x_regionL ?_
            refine xl_v v_move ?_
            refine xl_v (v_add (by omega)) ?_
            refine xl_v v_assign ?_
            refine xl_nil ?_
            refine ⟨_, ?_, rfl, k + 1, v1', v2', rfl, by omega, ?_, ?_, inferInstance, inferInstance, inferInstance, inferInstance, inferInstance, inferInstance, inferInstance, evc, lkc⟩
            · omega
            · rw [take_snoc _ _ hk1, putsM_snoc]; exact hO.put hm _
            · rw [take_snoc _ _ hk1, putsM_snoc]; exact hP4
          ·
            have hkn : k = n := by omega
            subst hkn
            rw [List.take_of_length_le (by omega)] at hO hP
            obtain ⟨M0, hM0⟩ : ∃ M0, M0 = putsM ((Mach.new 4).ruleM r) r.inp xs := ⟨_, rfl⟩
            rw [← hM0] at hO hP
            refine x_exit ?_
            refine x_seq ?_
            refine x_regionL ?_
            refine xl_v v_assign ?_
            refine xl_nil ?_
            refine x_seq ?_
            refine x_seq ?_
            refine x_regionL ?_
            refine xl_v v_assign ?_
            refine xl_nil ?_
            refine x_block ?_
            refine x_loop (fun m τ ds w' => ds = [] ∧ ∃ (j T : Nat) (v1 v2 : List Value), m = n' - j ∧ j ≤ n' ∧ T ≤ (M0.part r.inp).length ∧ Pair w1 w' b1 pb1 mb1 v1 b2 pb2 mb2 v2 (through r M0 T) M0 ∧ Ev τ 2 (.slice B n' c') ∧ Ev τ 3 (.pointer (some ⟨b0, 0, none⟩)) ∧ Ev τ 7 (.pointer (some ⟨b1, 0, none⟩)) ∧ Ev τ 8 (.int .i64 0) ∧ Ev τ 9 (.pointer (some ⟨b2, 0, none⟩)) ∧ Ev τ 10 (.int .i64 0) ∧ Ev τ 12 (.int .i64 (T : Int)) ∧ Ev τ 13 (.int .i64 (j : Int)) ∧ Lk w' w1 NoB) (n') ?start ?round
            case start =>
              exact ⟨rfl, 0, 0, v1, v2, rfl, Nat.zero_le _, Nat.zero_le _, by rw [through0 hO]; exact hP, inferInstance, inferInstance, inferInstance, inferInstance, inferInstance, inferInstance, evc, evc, lkc⟩
            case round =>
              intro m τ17 ds17 w17 hI
              clear hP
              obtain ⟨rfl, j, T, v1, v2, rfl, hj, hT, hP, f2, f3, f7, f8, f9, f10, f12, f13, lkx⟩ := hI
              haveI sH1 := subF_since' (S := NoB) (w := w1) hP.ls (Nat.le_refl _)
              haveI sH2 := subF_since' (S := NoB) (w := w1) hP.rs (Nat.le_refl _)
              haveI nH1 := notS_since hP.ls b0 hb0
              haveI nH2 := notS_since hP.rs b0 hb0
              have hlen := hO.len
              refine x_seq ?_
              refine x_seq ?_
              refine x_regionL ?_
              refine xl_v v_move ?_
              refine xl_v v_move ?_
              refine xl_v v_len ?_
              refine xl_v v_lss ?_
              refine xl_nil ?_
              first | refine x_condP (fun c4 => ?_) (fun c4 => ?_) | refine x_condN (fun c4 => ?_) (fun c4 => ?_) | refine x_condE (fun c4 => ?_) (fun c4 => ?_)
              ·
                have hj1 : j < sizes.length := by omega
                have hBs : B.isSome = true := hB.resolve_right (by omega)
                haveI rO1 : RowOut (MachF b1 pb1 mb1 v1) B := rowOut_since hP.ls hrowB.row (by rw [ints_len]; omega) hwS
                obtain ⟨t1, t2, t3⟩ := through_round hO hn60 hm T hT sizes[j]
                refine x_skip ?_
                refine x_seq ?_
                refine x_block ?_
                refine x_seq ?_
                refine x_drawL (MachF b1 pb1 mb1 v1) (allS) (.take 0 (.take 1 (.take 2 (.take 3 (.take 4 (.take 5 (.take 6 (.eff 7 (.take 8 (.take 9 (.take 10 (.take 11 (.take 12 .done))))))))))))) mixed (by kernel_rfl) (fun _ _ _ _ _ h => h) (fun w18 l18 => ?_)
                refine xt_v rfl v_move ?_
                refine xt_v rfl (by first | exact v_fieldAddr | exact v_fieldAddrF (by decide) (by omega) | exact v_fieldAddrR (by first | assumption | rfl)) ?_
                refine xt_v rfl (by first | exact v_load | exact v_loadO (by omega) | exact v_loadFf (by omega) | exact v_loadF0 (by omega)) ?_
                refine xt_v rfl v_move ?_
                refine xt_v rfl v_move ?_
                refine xt_v rfl (v_indexAddr j rfl (by omega) hBs) ?_
                refine xt_v rfl (v_loadR (by simpa using ints_get hj1)) ?_
                refine xt_call rfl (round_ok b1 pb1 mb1 v1 _ r.id sizes[j] w18 (hP.ext kpc).l (through_ok hO hn60 hm T hT)) ?_
                rintro _ w19 ⟨hv, lkr, v1', hMr, hsr⟩
                refine ⟨kpc, ?_⟩
                rw [t2] at hv
                rw [t1] at hMr
                subst hv
                have hP5 := (hP.ext (kpc : Keep NoB w17 _)).left (Ge.le) lkr hMr hsr
                refine xt_v rfl v_move ?_
                refine xt_v rfl v_extract ?_
                refine xt_v rfl v_extract ?_
                refine xt_v rfl v_assign ?_
                refine xt_v rfl v_assign ?_
                refine xt_nil ?_
                refine x_regionL ?_
                refine xl_v v_move ?_
                refine xl_v v_move ?_
                refine xl_v (v_add (by omega)) ?_
                refine xl_v v_assign ?_
                refine xl_nil ?_
                refine x_regionL ?_
                refine xl_v v_move ?_
                refine xl_v (v_add (by omega)) ?_
                refine xl_v v_assign ?_
                refine xl_nil ?_
                refine ⟨_, ?_, rfl, j + 1, T + cutN (M0.part r.inp).length T sizes[j], v1', v2, rfl, by omega, t3, hP5, inferInstance, inferInstance, inferInstance, inferInstance, inferInstance, inferInstance, evc, evc, lkc⟩
                omega
              ·
                haveI sJ2 := subF_since' (S := NoB) (w := w) hP.rs hwS
                refine x_exit ?_
                refine x_seq ?_
                refine x_regionL ?_
                refine xl_v v_move ?_
                refine xl_v (by first | exact v_fieldAddr | exact v_fieldAddrF (by decide) (by omega) | exact v_fieldAddrR (by first | assumption | rfl)) ?_
                refine xl_v (by first | exact v_load | exact v_loadO (by omega) | exact v_loadFf (by omega) | exact v_loadF0 (by omega)) ?_
                refine xl_v v_move ?_
                refine xl_call (round_ok b2 pb2 mb2 v2 M0 r.id (T : Int) w17 hP.r hO.ok) ?_
                rintro _ w20 ⟨rfl, lkr, v2', hMr, hsr⟩
                rw [through_all hO hn60 hm T hT] at hMr
                have hP6 := hP.right (Ge.le) lkr hMr hsr
                haveI sI2 := subF_since' (S := NoB) (w := w1) hP6.rs (Nat.le_refl _)
                refine xl_nil ?_
                refine x_seq ?_
                refine x_regionL ?_
                refine xl_v v_move ?_
                refine xl_call (num_ok _ _) ?_
                rintro _ _ ⟨rfl, rfl⟩
                refine xl_v v_move ?_
                refine xl_call (num_ok _ _) ?_
                rintro _ _ ⟨rfl, rfl⟩
                refine xl_v (v_add (by omega)) ?_
                refine xl_v (v_eqlT rfl) ?_
                refine xl_v v_move ?_
                refine xl_gv rfl EvO.eq v_move ?_
                refine xl_gv rfl EvO.eq v_move ?_
                refine xl_gcall rfl EvO.eq (same_ok b1 pb1 mb1 v1 (through r M0 T) b2 pb2 mb2 v2' (through r M0 T) w20 hP6.l hP6.r (through_ok hO hn60 hm T hT) (through_ok hO hn60 hm T hT)) ?_
                rintro _ w23 ⟨hv, lks⟩
                rw [sameM_refl (through_ok hO hn60 hm T hT).keys] at hv
                subst hv
                refine xl_v (by first | exact v_pickT | exact v_pickF | exact v_pick) ?_
                refine xl_v v_move ?_
                refine xl_gcall rfl EvO.eq (works_ok _) ?_
                rintro _ w24 ⟨rfl, lk⟩
                refine xl_v (by first | exact v_pickT | exact v_pickF | exact v_pick) ?_
                refine xl_v v_assign ?_
                refine xl_nil ?_
                refine x_ret ?_
                refine fin1 rfl ?_
                exact ⟨rfl, lkc⟩
end Go.Proofs.Ytbihphclmdokeaa
