/-
  Walks, printed by a program of this workplace (wip/tools/sx.py) off the functions' code and a text of contracts.
-/
import Derived.Test.YtbihphclmdokeaaZ
set_option linter.all false
set_option maxRecDepth 100000
set_option synthInstance.maxSize 100000
set_option synthInstance.maxHeartbeats 400000
namespace Go.Proofs.Ytbihphclmdokeaa
open Go.Wst
open Go.Wst.Sm
theorem refRuleM_ok (F : Nat → Prop) (D : RD) (M : Mach) (r : Rule) (w : World) (h : RefAt w F D (refOf M)) (hok : M.ok) :
    Ret Try.prog 56 #[refV D (refOf M), .agg (ruleC r).toArray] w (fun x w' => (∃ F' D', x = .tuple #[refV D' (refOf (M.ruleM r)), .int .i64 (if M.ruleB r = true then 0 else 2)] ∧ RefAt w' F' D' (refOf (M.ruleM r)) ∧ Sub F' F w) ∧ Lk w' w NoB) := by
  have := refRule_ok F D (refOf M) r w h (refOf_ok hok)
  rw [rule_ref hok, ruleB_ref hok] at this
  exact this
theorem refPutM_ok (F : Nat → Prop) (D : RD) (M : Mach) (part v : Int) (w : World) (h : RefAt w F D (refOf M)) (hok : M.ok) :
    Ret Try.prog 57 #[refV D (refOf M), .int .i64 part, .int .i64 v] w (fun x w' => (∃ F' D', x = .tuple #[refV D' (refOf (M.putM part v)), .int .i64 (M.putNo part v)] ∧ RefAt w' F' D' (refOf (M.putM part v)) ∧ Sub F' F w) ∧ Lk w' w NoB) := by
  have := refPut_ok F D (refOf M) part v w h (refOf_ok hok)
  obtain ⟨e1, e2⟩ := put_ref M part v
  rw [e1, e2] at this
  exact this
/-- A machine, and the document's in its place. -/
structure Both (w : World) (b pb mb : Nat) (vs : List Value) (M : Mach) (F : Nat → Prop) (D : RD) : Prop where
  m : MachAt w b pb mb vs M
  r : RefAt w F D (refOf M)
  ok : M.ok
  ok2 : M.ok2
  ap : ∀ k, F k → ¬ MachF b pb mb vs k
theorem Both.ext {w w' : World} {b pb mb : Nat} {vs : List Value} {M : Mach} {F : Nat → Prop} {D : RD} (h : Both w b pb mb vs M F D) (hk : Keep NoB w w') : Both w' b pb mb vs M F D :=
  ⟨h.m.keep hk (fun _ _ h => h), h.r.keep hk (fun _ _ h => h), h.ok, h.ok2, h.ap⟩
theorem Both.keep {w w' : World} {S : Nat → Prop} {b pb mb : Nat} {vs : List Value} {M : Mach} {F : Nat → Prop} {D : RD} (h : Both w b pb mb vs M F D) (hk : Keep S w w') (h1 : ∀ k, MachF b pb mb vs k → ¬ S k) (h2 : ∀ k, F k → ¬ S k) : Both w' b pb mb vs M F D :=
  ⟨h.m.keep hk h1, h.r.keep hk h2, h.ok, h.ok2, h.ap⟩
theorem both_step {w wp wr wm wn w' : World} {b pb mb b3 : Nat} {vs vs' : List Value} {M M' : Mach} {F F1 : Nat → Prop} {D D1 : RD} (h : Both w b pb mb vs M F D) (hwp : w.heap.size ≤ wp.heap.size) (s1 : Sub F1 F wp) (hpr : Lk wr wp NoB) (h1 : RefAt wr F1 D1 (refOf M')) (hrm : Keep (NewS wr) wr wm)
    (hm : Lk wn wm (MachF b pb mb vs)) (hM : MachAt wn b pb mb vs' M') (hs : Sub (MachF b pb mb vs') (MachF b pb mb vs) wm) (hend : Keep (OneB b3) wn w') (hb : w.heap.size ≤ b3) (hb' : b3 < wp.heap.size) (ok : M'.ok) (ok2 : M'.ok2) :
    Both w' b pb mb vs' M' F1 D1 ∧ Sub (MachF b pb mb vs') (MachF b pb mb vs) w ∧ Sub F1 F w := by
  have hpr' := hpr.keep.size
  have hrm' := hrm.size
  have n1 : ¬ F1 b3 := sub_ne s1 h.r.lt hb hb'
  have n2 : ¬ MachF b pb mb vs' b3 := sub_ne hs h.m.lt hb (by omega)
  have apm : ∀ k, F1 k → ¬ MachF b pb mb vs k := fun k hk hmk => (s1 k hk).elim (fun e => h.ap k e hmk) (fun e => by have := h.m.lt k hmk; omega)
  have r1 := h1.keep hrm (fun k hk e => by have := h1.lt k hk; have e' : wr.heap.size ≤ k := e; omega)
  have r2 := r1.keep hm.keep apm
  have r3 := r2.keep hend (fun k hk e => n1 (by have e' : k = b3 := e; exact e' ▸ hk))
  have m3 := hM.keep hend (fun k hk e => n2 (by have e' : k = b3 := e; exact e' ▸ hk))
  refine ⟨⟨m3, r3, ok, ok2, fun k hk hmk => ?_⟩, fun k hk => (hs k hk).imp id (fun e => by omega), fun k hk => (s1 k hk).imp id (fun e => by omega)⟩
  rcases hs k hmk with e | e
  · exact apm k hk e
  · have := h1.lt k hk; omega
structure ActD where
  what : Int
  part : Int
  id : Int
  n : Int
  val : Int
  rule : Rule
abbrev actC (x : ActD) : List Value := [.int .i64 x.what, .int .i64 x.part, .int .i64 x.id, .int .i64 x.n, .int .i64 x.val, .int .i64 x.rule.id, .int .i64 x.rule.inp, .int .i64 x.rule.out, .int .i64 x.rule.mul, .int .i64 x.rule.add]
instance encN_act : EncN actC 10 := ⟨fun _ => rfl⟩
def actM (M : Mach) (x : ActD) : Mach := if x.what = 0 then M.ruleM x.rule else if x.what = 1 then M.putM x.part x.val else if x.what = 2 then M.roundM x.id x.n else (M.drain (min x.n 3).toNat).1

/-- waystation/waystationlaw14.act -/
theorem act_ok (b pb mb : Nat) (vs : List Value) (M : Mach) (F : Nat → Prop) (D : RD) (x : ActD) (w : World) (h : Both w b pb mb vs M F D) : Ret Try.prog 29 #[.pointer (some ⟨b, 0, none⟩), refV D (refOf M), .agg (actC x).toArray] w (fun v w' => (∃ vs' F' D', v = .tuple #[refV D' (refOf (actM M x)), .bool true] ∧ Both w' b pb mb vs' (actM M x) F' D' ∧ Sub (MachF b pb mb vs') (MachF b pb mb vs) w ∧ Sub F' F w) ∧ Lk w' w (MachF b pb mb vs)) := by
  haveI : FLt (MachF b pb mb vs) w := ⟨h.m.lt⟩
  have hok := h.ok
  refine ret_of_x (N := 106) (l := [.pointer (some ⟨b, 0, none⟩), refV D (refOf M), .agg (actC x).toArray]) Try.func29 rfl rfl (Nat.le_of_ble_eq_true rfl) ?_
  refine x_seq ?_
  refine x_regionL ?_
  refine xl_e (e_box fun b1 w1 n1 l1 k1 => ?_)
  refine xl_e (e_box fun b2 w2 n2 l2 k2 => ?_)
  refine xl_e (e_alloc fun b3 w3 n3 l3 k3 => ?_)
  refine xl_v v_assign ?_
  refine xl_nil ?_
  refine x_seq ?_
  refine x_seq ?_
  have hb3 : w.heap.size ≤ b3 := by rw [n3.eq]; exact Ge.le
  refine x_regionL ?_
  refine xl_v (by first | exact v_fieldAddr | exact v_fieldAddrF (by decide) (by omega) | exact v_fieldAddrR (by first | assumption | rfl)) ?_
  refine xl_v (by first | exact v_load | exact v_loadO (by omega) | exact v_loadFf (by omega) | exact v_loadF0 (by omega)) ?_
  refine xl_nil ?_
  refine x_block ?_
  refine x_seq ?_
  refine x_regionL ?_
  refine xl_v v_eql ?_
  refine xl_v v_assign ?_
  refine xl_nil ?_
  first | refine x_condP (fun c1 => ?_) (fun c1 => ?_) | refine x_condN (fun c1 => ?_) (fun c1 => ?_) | refine x_condE (fun c1 => ?_) (fun c1 => ?_)
  ·
    refine x_seq ?_
    refine x_regionL ?_
    refine xl_v (by first | exact v_loadA | exact v_loadF (by decide) (by omega)) ?_
    refine xl_v (by first | exact v_fieldAddr | exact v_fieldAddrF (by decide) (by omega) | exact v_fieldAddrR (by first | assumption | rfl)) ?_
    refine xl_v (by first | exact v_loadA | exact v_loadF (by decide) (by omega)) ?_
    refine xl_call (refRuleM_ok F D M x.rule _ (h.r.ext lkc) hok) ?_
    rintro _ w4 ⟨⟨F1, D1, rfl, h1, s1⟩, lk1⟩
    have hb3' : b3 < w3.heap.size := Has.lt
    have hwp : w.heap.size ≤ w3.heap.size := Ge.le
    refine xl_v v_move ?_
    refine xl_v v_extract ?_
    refine xl_v v_extract ?_
    refine xl_e (e_alloc fun b5 w5 n5 l5 k5 => ?_)
    refine xl_s (e_storeA fun w6 l6 k6 => ?_)
    refine xl_v v_assign ?_
    refine xl_nil ?_
    refine x_seq ?_
    refine x_drawL (fun k => MachF b pb mb vs k ∨ OneB b3 k) (allS) (.take 0 (.take 1 (.take 2 (.take 3 (.take 6 (.eff 4 (.eff 5 (.take 7 (.eff 8 (.take 9 .done)))))))))) mixed (by kernel_rfl) (fun _ _ _ _ _ h => h) (fun w7 l7 => ?_)
    refine xt_v rfl (by first | exact v_loadA | exact v_loadF (by decide) (by omega)) ?_
    refine xt_v rfl v_move ?_
    refine xt_v rfl (by first | exact v_fieldAddr | exact v_fieldAddrF (by decide) (by omega) | exact v_fieldAddrR (by first | assumption | rfl)) ?_
    refine xt_v rfl (by first | exact v_loadA | exact v_loadF (by decide) (by omega)) ?_
    refine xt_v rfl v_move ?_
    refine xt_call rfl (rule_ok b pb mb vs M x.rule w7 (h.m.keep (kpc : Keep NoB w _) (fun _ _ h => h))) ?_
    rintro _ w8 ⟨hv, hM1, lkm⟩
    refine ⟨kpc, ?_⟩
    subst hv
    refine xt_call rfl (num_ok _ _) ?_
    rintro _ _ ⟨rfl, rfl⟩
    refine ⟨kpc, ?_⟩
    refine xt_v rfl (v_eqlT rfl) ?_
    refine xt_s rfl (e_storeA fun w10 l10 k10 => ?_)
    refine xt_v rfl v_assign ?_
    refine xt_nil ?_
    refine x_ret ?_
    refine finR (rs := [.cell 6 51, .tmp 7]) rfl ?_
    have hA : actM M x = M.ruleM x.rule := by rw [actM, if_pos (by assumption)]
    obtain ⟨hB, hs1, hs2⟩ := both_step h hwp s1 lk1 h1 kpc lkm hM1 (Sub.refl _ _) (kpc : Keep (OneB b3) _ w10) hb3 hb3' (hok.rule _) (ok2_rule hok h.ok2 _)
    rw [hA]
    exact ⟨⟨vs, F1, D1, rfl, hB, hs1, hs2⟩, lkc⟩
  ·
    refine x_seq ?_
    refine x_regionL ?_
    refine xl_v v_eql ?_
    refine xl_v v_assign ?_
    refine xl_nil ?_
    first | refine x_condP (fun c2 => ?_) (fun c2 => ?_) | refine x_condN (fun c2 => ?_) (fun c2 => ?_) | refine x_condE (fun c2 => ?_) (fun c2 => ?_)
    ·
      refine x_seq ?_
      refine x_regionL ?_
      refine xl_v (by first | exact v_loadA | exact v_loadF (by decide) (by omega)) ?_
      refine xl_v (by first | exact v_fieldAddr | exact v_fieldAddrF (by decide) (by omega) | exact v_fieldAddrR (by first | assumption | rfl)) ?_
      refine xl_v (by first | exact v_load | exact v_loadO (by omega) | exact v_loadFf (by omega) | exact v_loadF0 (by omega)) ?_
      refine xl_v (by first | exact v_fieldAddr | exact v_fieldAddrF (by decide) (by omega) | exact v_fieldAddrR (by first | assumption | rfl)) ?_
      refine xl_v (by first | exact v_load | exact v_loadO (by omega) | exact v_loadFf (by omega) | exact v_loadF0 (by omega)) ?_
      refine xl_call (refPutM_ok F D M x.part x.val _ (h.r.ext lkc) hok) ?_
      rintro _ w11 ⟨⟨F1, D1, rfl, h1, s1⟩, lk1⟩
      have hb3' : b3 < w3.heap.size := Has.lt
      have hwp : w.heap.size ≤ w3.heap.size := Ge.le
      refine xl_v v_move ?_
      refine xl_v v_extract ?_
      refine xl_v v_extract ?_
      refine xl_e (e_alloc fun b12 w12 n12 l12 k12 => ?_)
      refine xl_s (e_storeA fun w13 l13 k13 => ?_)
      refine xl_v v_assign ?_
      refine xl_nil ?_
      refine x_seq ?_
      refine x_drawL (fun k => MachF b pb mb vs k ∨ OneB b3 k) (allS) (.take 0 (.take 1 (.take 2 (.take 3 (.take 4 (.take 5 (.take 8 (.eff 6 (.eff 7 (.take 9 (.eff 10 (.take 11 .done)))))))))))) mixed (by kernel_rfl) (fun _ _ _ _ _ h => h) (fun w14 l14 => ?_)
      refine xt_v rfl (by first | exact v_loadA | exact v_loadF (by decide) (by omega)) ?_
      refine xt_v rfl v_move ?_
      refine xt_v rfl (by first | exact v_fieldAddr | exact v_fieldAddrF (by decide) (by omega) | exact v_fieldAddrR (by first | assumption | rfl)) ?_
      refine xt_v rfl (by first | exact v_load | exact v_loadO (by omega) | exact v_loadFf (by omega) | exact v_loadF0 (by omega)) ?_
      refine xt_v rfl (by first | exact v_fieldAddr | exact v_fieldAddrF (by decide) (by omega) | exact v_fieldAddrR (by first | assumption | rfl)) ?_
      refine xt_v rfl (by first | exact v_load | exact v_loadO (by omega) | exact v_loadFf (by omega) | exact v_loadF0 (by omega)) ?_
      refine xt_v rfl v_move ?_
      refine xt_call rfl (put_ok b pb mb vs M x.part x.val w14 (h.m.keep (kpc : Keep NoB w _) (fun _ _ h => h)) hok) ?_
      rintro _ w15 ⟨hv, lkm, vs1, hM1, hsm⟩
      refine ⟨kpc, ?_⟩
      subst hv
      refine xt_call rfl (num_ok _ _) ?_
      rintro _ _ ⟨rfl, rfl⟩
      refine ⟨kpc, ?_⟩
      refine xt_v rfl (v_eqlT rfl) ?_
      refine xt_s rfl (e_storeA fun w17 l17 k17 => ?_)
      refine xt_v rfl v_assign ?_
      refine xt_nil ?_
      refine x_ret ?_
      refine finR (rs := [.cell 6 51, .tmp 7]) rfl ?_
      have hA : actM M x = M.putM x.part x.val := by rw [actM, if_neg c1, if_pos (by assumption)]
      obtain ⟨hB, hs1, hs2⟩ := both_step h hwp s1 lk1 h1 kpc lkm hM1 hsm (kpc : Keep (OneB b3) _ w17) hb3 hb3' (hok.put _ _) (ok2_put hok h.ok2 _ _)
      rw [hA]
      exact ⟨⟨vs1, F1, D1, rfl, hB, hs1, hs2⟩, lkc⟩
    ·
      refine x_seq ?_
      refine x_regionL ?_
      refine xl_v v_eql ?_
      refine xl_v v_assign ?_
      refine xl_nil ?_
      first | refine x_condP (fun c3 => ?_) (fun c3 => ?_) | refine x_condN (fun c3 => ?_) (fun c3 => ?_) | refine x_condE (fun c3 => ?_) (fun c3 => ?_)
      ·
        refine x_seq ?_
        refine x_regionL ?_
        refine xl_v (by first | exact v_loadA | exact v_loadF (by decide) (by omega)) ?_
        refine xl_v (by first | exact v_fieldAddr | exact v_fieldAddrF (by decide) (by omega) | exact v_fieldAddrR (by first | assumption | rfl)) ?_
        refine xl_v (by first | exact v_load | exact v_loadO (by omega) | exact v_loadFf (by omega) | exact v_loadF0 (by omega)) ?_
        refine xl_v (by first | exact v_fieldAddr | exact v_fieldAddrF (by decide) (by omega) | exact v_fieldAddrR (by first | assumption | rfl)) ?_
        refine xl_v (by first | exact v_load | exact v_loadO (by omega) | exact v_loadFf (by omega) | exact v_loadF0 (by omega)) ?_
        refine xl_call (refRoundM_ok F D M x.id x.n _ (h.r.ext lkc) hok) ?_
        rintro _ w18 ⟨⟨F1, D1, rfl, h1, s1⟩, lk1⟩
        have hb3' : b3 < w3.heap.size := Has.lt
        have hwp : w.heap.size ≤ w3.heap.size := Ge.le
        refine xl_v v_move ?_
        refine xl_v v_extract ?_
        refine xl_v v_extract ?_
        refine xl_v v_extract ?_
        refine xl_e (e_alloc fun b19 w19 n19 l19 k19 => ?_)
        refine xl_s (e_storeA fun w20 l20 k20 => ?_)
        refine xl_v v_assign ?_
        refine xl_v v_assign ?_
        refine xl_nil ?_
        refine x_seq ?_
        refine x_regionL ?_
        refine xl_v v_move ?_
        refine xl_v (by first | exact v_fieldAddr | exact v_fieldAddrF (by decide) (by omega) | exact v_fieldAddrR (by first | assumption | rfl)) ?_
        refine xl_v (by first | exact v_load | exact v_loadO (by omega) | exact v_loadFf (by omega) | exact v_loadF0 (by omega)) ?_
        refine xl_v (by first | exact v_fieldAddr | exact v_fieldAddrF (by decide) (by omega) | exact v_fieldAddrR (by first | assumption | rfl)) ?_
        refine xl_v (by first | exact v_load | exact v_loadO (by omega) | exact v_loadFf (by omega) | exact v_loadF0 (by omega)) ?_
        refine xl_call (round_ok b pb mb vs M x.id x.n w20 (h.m.keep (kpc : Keep NoB w _) (fun _ _ h => h)) hok) ?_
        rintro _ w21 ⟨hv, lkm, vs1, hM1, hsm⟩
        subst hv
        refine xl_v v_move ?_
        refine xl_v v_extract ?_
        refine xl_v v_extract ?_
        refine xl_v v_assign ?_
        refine xl_v v_assign ?_
        refine xl_nil ?_
        refine x_seq ?_
        refine x_drawL (OneB b3) (allS) (.take 0 (.take 1 (.take 2 (.take 3 (.take 4 (.take 5 (.take 7 (.eff 6 (.take 8 (.take 9 (.eff 10 (.take 11 .done)))))))))))) mixed (by kernel_rfl) (fun _ _ _ _ _ h => h) (fun w22 l22 => ?_)
        refine xt_v rfl (by first | exact v_loadA | exact v_loadF (by decide) (by omega)) ?_
        refine xt_v rfl v_move ?_
        refine xt_v rfl v_move ?_
        refine xt_v rfl (v_eqlT rfl) ?_
        refine xt_v rfl v_move ?_
        refine xt_gv rfl rfl EvO.eq v_move ?_
        refine xt_gv rfl rfl EvO.eq v_move ?_
        refine xt_gcall rfl rfl EvO.eq (num_ok _ _) ?_
        rintro _ _ ⟨rfl, rfl⟩
        refine ⟨kpc, ?_⟩
        refine xt_gv rfl rfl EvO.eq (v_eqlT rfl) ?_
        refine xt_v rfl (by first | exact v_pickT | exact v_pickF | exact v_pick) ?_
        refine xt_s rfl (e_storeA fun w24 l24 k24 => ?_)
        refine xt_v rfl v_assign ?_
        refine xt_nil ?_
        refine x_ret ?_
        refine finR (rs := [.cell 6 51, .tmp 7]) rfl ?_
        have hA : actM M x = M.roundM x.id x.n := by rw [actM, if_neg c1, if_neg c2, if_pos (by assumption)]
        obtain ⟨hB, hs1, hs2⟩ := both_step h hwp s1 lk1 h1 kpc lkm hM1 hsm (kpc : Keep (OneB b3) _ w24) hb3 hb3' (hok.round _ _) (ok2_round hok h.ok2 _ _)
        rw [hA]
        exact ⟨⟨vs1, F1, D1, rfl, hB, hs1, hs2⟩, lkc⟩
      ·
        refine x_skip ?_
        refine x_seq ?_
        refine x_regionL ?_
        refine xl_v (by first | exact v_fieldAddr | exact v_fieldAddrF (by decide) (by omega) | exact v_fieldAddrR (by first | assumption | rfl)) ?_
        refine xl_v (by first | exact v_load | exact v_loadO (by omega) | exact v_loadFf (by omega) | exact v_loadF0 (by omega)) ?_
        refine xl_v v_min ?_
        refine xl_v v_assign ?_
        refine xl_nil ?_
        refine x_seq ?_
        refine x_regionL ?_
        refine xl_v (by first | exact v_loadA | exact v_loadF (by decide) (by omega)) ?_
        refine xl_v v_move ?_
        refine xl_call (refDrain_ok F D M (min x.n 3) _ (h.r.ext lkc) hok (by omega)) ?_
        rintro _ w25 ⟨⟨F1, D1, rfl, h1, s1⟩, lk1⟩
        have hb3' : b3 < w3.heap.size := Has.lt
        have hwp : w.heap.size ≤ w3.heap.size := Ge.le
        refine xl_v v_move ?_
        refine xl_v v_extract ?_
        refine xl_v v_extract ?_
        refine xl_e (e_alloc fun b26 w26 n26 l26 k26 => ?_)
        refine xl_s (e_storeA fun w27 l27 k27 => ?_)
        refine xl_v v_assign ?_
        refine xl_nil ?_
        refine x_seq ?_
        refine x_drawL (fun k => MachF b pb mb vs k ∨ OneB b3 k) (allS) (.take 0 (.take 1 (.take 2 (.take 4 (.eff 3 (.take 5 (.eff 6 (.take 7 .done)))))))) mixed (by kernel_rfl) (fun _ _ _ _ _ h => h) (fun w28 l28 => ?_)
        refine xt_v rfl (by first | exact v_loadA | exact v_loadF (by decide) (by omega)) ?_
        refine xt_v rfl v_move ?_
        refine xt_v rfl v_move ?_
        refine xt_v rfl v_move ?_
        refine xt_call rfl (drain_ok b pb mb vs M (min x.n 3) w28 (h.m.keep (kpc : Keep NoB w _) (fun _ _ h => h)) hok (by omega)) ?_
        rintro _ w29 ⟨hv, lkm, vs1, hM1, hsm⟩
        refine ⟨kpc, ?_⟩
        subst hv
        refine xt_v rfl (v_eqlT rfl) ?_
        refine xt_s rfl (e_storeA fun w30 l30 k30 => ?_)
        refine xt_v rfl v_assign ?_
        refine xt_nil ?_
        refine x_ret ?_
        refine finR (rs := [.cell 6 51, .tmp 7]) rfl ?_
        have hA : actM M x = (M.drain (min x.n 3).toNat).1 := by rw [actM, if_neg c1, if_neg c2, if_neg c3]
        obtain ⟨hB, hs1, hs2⟩ := both_step h hwp s1 lk1 h1 kpc lkm hM1 hsm (kpc : Keep (OneB b3) _ w30) hb3 hb3' (ok2_drain _ hok h.ok2).1 (ok2_drain _ hok h.ok2).2
        rw [hA]
        exact ⟨⟨vs1, F1, D1, rfl, hB, hs1, hs2⟩, lkc⟩
end Go.Proofs.Ytbihphclmdokeaa
