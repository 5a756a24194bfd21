/-
  Walks, printed by a program of this workplace (wip/tools/sx.py) off the functions' code and a text of contracts.
-/
import Derived.Test.YtbihphclmdokeaaAA
set_option linter.all false
set_option maxRecDepth 100000
set_option synthInstance.maxSize 100000
set_option synthInstance.maxHeartbeats 400000
namespace Go.Proofs.Ytbihphclmdokeaa
open Go.Wst
open Go.Wst.Sm
theorem v_congr {P : Program} {r : Option Nat} {N : Nat} {S : Nat → Prop} {op : Op} {ty : TypeId} {τ : Tau} {w : World} {v u : Value} (h : Val P r N S op ty τ w v) (e : v = u) : Val P r N S op ty τ w u := e ▸ h
theorem akey_srt {M : Mach} (hok : M.ok) (p : Int × Rule × Nat) (hp : p ∈ srt M.rules) : akey M.rules p.1 = some p.2 := akey_nodup hok.keys ((srt_perm _).mem_iff.1 hp)
theorem ruleOf_rows {M : Mach} (hok : M.ok) : M.ids.map M.ruleOf = (refOf M).rows.map (·.1) := by
  rw [ids_srt]
  simp only [refOf, List.map_map]
  apply List.map_congr_left
  intro p hp
  simp [Mach.ruleOf, akey_srt hok p hp]
theorem row_akey {M : Mach} (hok : M.ok) (i : Nat) (hi : i < (refOf M).rows.length) : akey M.rules (refOf M).rows[i].1.id = some (refOf M).rows[i] := by
  have hi' : i < (srt M.rules).length := by simpa [refOf] using hi
  have e : (refOf M).rows[i] = (srt M.rules)[i].2 := by simp [refOf]
  have h1 := rows_of hok _ (List.getElem_mem hi')
  rw [e, h1]
  exact akey_srt hok _ (List.getElem_mem hi')

/-- waystation/waystationlaw14.is -/
theorem is_ok (b pb mb : Nat) (vs : List Value) (M : Mach) (F : Nat → Prop) (D : RD) (w : World) (h : Both w b pb mb vs M F D) : Ret Try.prog 30 #[.pointer (some ⟨b, 0, none⟩), refV D (refOf M)] w (fun v w' => v = .bool true ∧ Lk w' w NoB) := by
  haveI : Row w D.PA _ := ⟨h.r.p.row⟩
  haveI : Row w D.RA _ := ⟨h.r.r.row⟩
  haveI : Row w D.QA _ := ⟨h.r.q.row⟩
  haveI := h.r.p.old h.r.lt
  haveI := h.r.r.old h.r.lt
  haveI := h.r.q.old h.r.lt
  have hok := h.ok
  have hpn : D.pv.length = M.parts.length := h.r.pn
  have hfour := hok.four
  have hil := hok.ids_len
  have hrl := refOf_len M
  refine ret_of_x (N := 113) (l := [.pointer (some ⟨b, 0, none⟩), refV D (refOf M)]) Try.func30 rfl rfl (Nat.le_of_ble_eq_true rfl) ?_
  refine x_seq ?_
  refine x_regionL ?_
  refine xl_e (e_box fun b1 w1 n1 l1 k1 => ?_)
  refine xl_v v_assign ?_
  refine xl_nil ?_
  refine x_seq ?_
  refine x_seq ?_
  refine x_regionL ?_
  refine xl_v v_assign ?_
  refine xl_nil ?_
  refine x_block ?_
  refine x_loop (fun m τ ds w' => ds = [] ∧ ∃ k : Nat, m = M.parts.length - k ∧ k ≤ M.parts.length ∧ Ev τ 0 (.pointer (some ⟨b, 0, none⟩)) ∧ Ev τ 3 (.pointer (some ⟨b1, 0, none⟩)) ∧ Ev τ 5 (.int .i64 (k : Int)) ∧ Lk w' w1 NoB) (M.parts.length) ?start ?round
  case start =>
    exact ⟨rfl, 0, rfl, Nat.zero_le _, inferInstance, inferInstance, evc, lkc⟩
  case round =>
    intro m τ2 ds2 w2 hI
    obtain ⟨rfl, k, rfl, hk, e0, e3, e5, lk⟩ := hI
    refine x_seq ?_
    refine x_seq ?_
    refine x_regionL ?_
    refine xl_v v_move ?_
    refine xl_v (by first | exact v_fieldAddr | exact v_fieldAddrF (by decide) (by omega) | exact v_fieldAddrR (by first | assumption | rfl)) ?_
    refine xl_v (by first | exact v_load | exact v_loadO (by omega) | exact v_loadFf (by omega) | exact v_loadF0 (by omega)) ?_
    refine xl_v v_len ?_
    refine xl_v v_lss ?_
    refine xl_nil ?_
    first | refine x_condP (fun c1 => ?_) (fun c1 => ?_) | refine x_condN (fun c1 => ?_) (fun c1 => ?_) | refine x_condE (fun c1 => ?_) (fun c1 => ?_)
    ·
      have hk1 : k < M.parts.length := by simp [refOf] at c1; omega
      have hh : M.hasB (k : Int) = true := by simp [Mach.hasB, hk1]
      obtain ⟨B, cB, hV, hB⟩ := ref_part (n := (k : Int)) h.r hh
      rw [refOf_part] at hV hB
      haveI : Row w B _ := ⟨hB.row⟩
      have hlong := hok.part_long (k : Int)
      have hPs : D.PA.isSome = true := row_some (cs := D.pv) (w := w) inferInstance (by omega)
      refine x_skip ?_
      refine x_seq ?_
      refine x_block ?_
      refine x_seq ?_
      refine x_regionL ?_
      refine xl_v v_move ?_
      refine xl_v v_move ?_
      refine xl_call (items_ok b pb mb vs M (k : Int) w2 (h.m.keep (kpc : Keep NoB w _) (fun _ _ h => h)) hok) ?_
      rintro _ w3 ⟨hv, lk4⟩
      rw [if_pos hh] at hv
      obtain ⟨A4, c4, rfl, ho4⟩ := hv
      haveI : OwnI w3 _ _ _ _ _ _ _ _ := ⟨ho4⟩
      refine xl_v v_move ?_
      refine xl_v v_extract ?_
      refine xl_v v_extract ?_
      refine xl_v v_assign ?_
      refine xl_v v_assign ?_
      refine xl_nil ?_
      refine x_seq ?_
      refine x_regionL ?_
      refine xl_v v_move ?_
      refine xl_call (num_ok _ _) ?_
      rintro _ _ ⟨rfl, rfl⟩
      refine xl_v (v_neqF rfl) ?_
      refine xl_v v_move ?_
      refine xl_gv rfl EvO.eq v_move ?_
      refine xl_gv rfl EvO.eq (by first | exact v_fieldAddr | exact v_fieldAddrF (by decide) (by omega) | exact v_fieldAddrR (by first | assumption | rfl)) ?_
      refine xl_gv rfl EvO.eq (by first | exact v_load | exact v_loadO (by omega) | exact v_loadFf (by omega) | exact v_loadF0 (by omega)) ?_
      refine xl_gv rfl EvO.eq v_move ?_
      refine xl_gv rfl EvO.eq (v_indexAddr k rfl (by simpa [refOf] using hk1) hPs) ?_
      refine xl_gv rfl EvO.eq (v_loadR (by simpa using hV)) ?_
      refine xl_gcall rfl EvO.eq (sameItems_ok A4 _ c4 (M.part k) B _ cB (M.part k) w3 rfl rfl (by omega)) ?_
      rintro _ w5 ⟨hv, lk5⟩
      rw [decide_eq_true rfl] at hv
      subst hv
      refine xl_gv rfl EvO.eq v_not ?_
      refine xl_v (by first | exact v_pickT | exact v_pickF | exact v_pick) ?_
      refine xl_nil ?_
      refine x_condF ?_
      refine x_skip ?_
      refine x_regionL ?_
      refine xl_v v_move ?_
      refine xl_v (v_add (by omega)) ?_
      refine xl_v v_assign ?_
      refine xl_nil ?_
      exact ⟨_, by omega, rfl, k + 1, rfl, by omega, inferInstance, inferInstance, evc, lkc⟩
    ·
      refine x_exit ?_
      refine x_seq ?_
      refine x_regionL ?_
      refine xl_v v_move ?_
      refine xl_call (rules_ok b pb mb vs M w2 (h.m.keep (kpc : Keep NoB w _) (fun _ _ h => h)) hok) ?_
      rintro _ w6 ⟨A7, c7, rfl, ho7, lk7⟩
      have hrc : (M.ids.map M.ruleOf).flatMap ruleC = (refOf M).rows.flatMap rowC := by rw [ruleOf_rows hok, List.flatMap_map]
      rw [hrc] at ho7
      haveI : OwnI w6 _ _ _ _ _ _ _ _ := ⟨ho7⟩
      obtain ⟨w7, hw7⟩ : ∃ w7, w7 = w6 := ⟨_, rfl⟩
      refine xl_v v_assign ?_
      refine xl_nil ?_
      refine x_seq ?_
      refine x_seq ?_
      refine x_regionL ?_
      refine xl_v v_move ?_
      refine xl_v v_len ?_
      refine xl_v (by first | exact v_fieldAddr | exact v_fieldAddrF (by decide) (by omega) | exact v_fieldAddrR (by first | assumption | rfl)) ?_
      refine xl_v (by first | exact v_load | exact v_loadO (by omega) | exact v_loadFf (by omega) | exact v_loadF0 (by omega)) ?_
      refine xl_v v_len ?_
      refine xl_v (v_neqF (by omega)) ?_
      refine xl_nil ?_
      refine x_condF ?_
      refine x_skip ?_
      refine x_seq ?_
      refine x_seq ?_
      refine x_regionL ?_
      refine xl_v v_assign ?_
      refine xl_nil ?_
      refine x_block ?_
      refine x_loop (fun m τ ds w' => ds = [] ∧ ∃ i : Nat, m = M.ids.length - i ∧ i ≤ M.ids.length ∧ Ev τ 0 (.pointer (some ⟨b, 0, none⟩)) ∧ Ev τ 3 (.pointer (some ⟨b1, 0, none⟩)) ∧ Ev τ 8 (.slice A7 M.ids.length c7) ∧ Ev τ 9 (.int .i64 (i : Int)) ∧ Lk w' w6 NoB) (M.ids.length) ?start ?round
      case start =>
        exact ⟨rfl, 0, rfl, Nat.zero_le _, inferInstance, inferInstance, inferInstance, evc, lkc⟩
      case round =>
        intro m τ7 ds7 w7 hI
        obtain ⟨rfl, i, rfl, hi, f0, f3, f8, f9, lk2⟩ := hI
        refine x_seq ?_
        refine x_seq ?_
        refine x_regionL ?_
        refine xl_v v_move ?_
        refine xl_v v_move ?_
        refine xl_v v_len ?_
        refine xl_v v_lss ?_
        refine xl_nil ?_
        first | refine x_condP (fun c4 => ?_) (fun c4 => ?_) | refine x_condN (fun c4 => ?_) (fun c4 => ?_) | refine x_condE (fun c4 => ?_) (fun c4 => ?_)
        ·
          have hi1 : i < M.ids.length := by omega
          have hi2 : i < (refOf M).rows.length := by omega
          have hak := row_akey hok i hi2
          have hmr := made_ref hok h.ok2 hak
          refine x_skip ?_
          refine x_seq ?_
          refine x_block ?_
          refine x_seq ?_
          refine x_regionL ?_
          refine xl_v v_move ?_
          refine xl_v v_move ?_
          refine xl_v v_move ?_
          refine xl_v (by first | exact v_indexAddr _ rfl (by omega) (by assumption) | exact v_indexO _ rfl (by omega) (by omega) | exact v_indexF _ (by decide) rfl (by omega) (by omega)) ?_
          refine xl_v (by first | exact v_fieldAddr | exact v_fieldAddrF (by decide) (by omega) | exact v_fieldAddrR (by first | assumption | rfl)) ?_
          refine xl_v (by first | exact v_load | exact v_loadO (by omega) | exact v_loadFf (by omega) | exact v_loadF0 (by omega)) ?_
          refine xl_call (pos_ok b pb mb vs M (refOf M).rows[i].1.id w7 (h.m.keep (kpc : Keep NoB w _) (fun _ _ h => h))) ?_
          rintro _ w8 ⟨hv, lkp⟩
          rw [hak] at hv
          obtain rfl : _ = Value.tuple #[.int .i64 ((refOf M).rows[i].2 : Int), .int .i64 0] := hv
          refine xl_v v_move ?_
          refine xl_v v_extract ?_
          refine xl_v v_extract ?_
          refine xl_v v_assign ?_
          refine xl_v v_assign ?_
          refine xl_nil ?_
          refine x_seq ?_
          refine x_regionL ?_
          refine xl_v v_move ?_
          refine xl_v v_move ?_
          refine xl_v v_move ?_
          refine xl_v (by first | exact v_indexAddr _ rfl (by omega) (by assumption) | exact v_indexO _ rfl (by omega) (by omega) | exact v_indexF _ (by decide) rfl (by omega) (by omega)) ?_
          refine xl_v (by first | exact v_fieldAddr | exact v_fieldAddrF (by decide) (by omega) | exact v_fieldAddrR (by first | assumption | rfl)) ?_
          refine xl_v (by first | exact v_load | exact v_loadO (by omega) | exact v_loadFf (by omega) | exact v_loadF0 (by omega)) ?_
          refine xl_call (made_ok b pb mb vs M (refOf M).rows[i].1.id w8 (h.m.keep (kpc : Keep NoB w _) (fun _ _ h => h)) hok) ?_
          rintro _ w9 ⟨hv, lkm⟩
          rw [hak] at hv
          obtain ⟨Am, nm, cm, rfl, hom⟩ := hv
          rw [flat_intC, ← hmr] at hom
          haveI : OwnI w9 _ _ _ _ _ _ _ _ := ⟨hom⟩
          have hlm : ((refOf M).made (refOf M).rows[i].1.id).length = nm := by have := owns_len hom; omega
          refine xl_v v_move ?_
          refine xl_v v_extract ?_
          refine xl_v v_extract ?_
          refine xl_v v_assign ?_
          refine xl_v v_assign ?_
          refine xl_nil ?_
          refine x_seq ?_
          refine x_drawL (NoB) (allS) (.take 0 (.take 1 (.take 2 (.take 3 (.take 4 (.take 5 (.take 6 (.take 7 (.take 8 (.take 9 (.take 10 (.take 11 (.take 12 (.take 13 (.take 14 (.take 15 (.take 16 (.take 17 (.take 18 (.take 19 (.take 20 (.take 22 (.eff 21 (.eff 23 (.take 24 (.take 25 (.take 26 (.take 27 (.take 28 (.take 29 (.take 30 (.take 31 (.take 32 (.take 33 (.take 34 (.eff 35 (.eff 36 (.take 37 (.take 38 .done))))))))))))))))))))))))))))))))))))))) mixed (by kernel_rfl) (fun _ _ _ _ _ h => h) (fun w10 l10 => ?_)
          refine xt_v rfl v_move ?_
          refine xt_v rfl v_move ?_
          refine xt_v rfl (by first | exact v_indexAddr _ rfl (by omega) (by assumption) | exact v_indexO _ rfl (by omega) (by omega) | exact v_indexF _ (by decide) rfl (by omega) (by omega)) ?_
          refine xt_v rfl (by first | exact v_loadA | exact v_loadF (by decide) (by omega)) ?_
          refine xt_v rfl (by first | exact v_fieldAddr | exact v_fieldAddrF (by decide) (by omega) | exact v_fieldAddrR (by first | assumption | rfl)) ?_
          refine xt_v rfl (by first | exact v_load | exact v_loadO (by omega) | exact v_loadFf (by omega) | exact v_loadF0 (by omega)) ?_
          refine xt_v rfl v_move ?_
          refine xt_v rfl (by first | exact v_indexAddr _ rfl (by omega) (by assumption) | exact v_indexO _ rfl (by omega) (by omega) | exact v_indexF _ (by decide) rfl (by omega) (by omega)) ?_
          refine xt_v rfl (by first | exact v_loadA | exact v_loadF (by decide) (by omega)) ?_
          refine xt_v rfl (v_congr (u := .bool false) v_neq_struct (by simp)) ?_
          refine xt_v rfl v_move ?_
          refine xt_gv rfl rfl EvO.eq v_move ?_
          refine xt_gv rfl rfl EvO.eq (by first | exact v_fieldAddr | exact v_fieldAddrF (by decide) (by omega) | exact v_fieldAddrR (by first | assumption | rfl)) ?_
          refine xt_gv rfl rfl EvO.eq (by first | exact v_load | exact v_loadO (by omega) | exact v_loadFf (by omega) | exact v_loadF0 (by omega)) ?_
          refine xt_gv rfl rfl EvO.eq v_move ?_
          refine xt_gv rfl rfl EvO.eq (by first | exact v_indexAddr _ rfl (by omega) (by assumption) | exact v_indexO _ rfl (by omega) (by omega) | exact v_indexF _ (by decide) rfl (by omega) (by omega)) ?_
          refine xt_gv rfl rfl EvO.eq (by first | exact v_load | exact v_loadO (by omega) | exact v_loadFf (by omega) | exact v_loadF0 (by omega)) ?_
          refine xt_gv rfl rfl EvO.eq (v_neqF rfl) ?_
          refine xt_v rfl (by first | exact v_pickT | exact v_pickF | exact v_pick) ?_
          refine xt_v rfl v_move ?_
          refine xt_gv rfl rfl EvO.eq v_move ?_
          refine xt_gv rfl rfl EvO.eq v_move ?_
          refine xt_gcall rfl rfl EvO.eq (num_ok _ _) ?_
          rintro _ _ ⟨rfl, rfl⟩
          refine ⟨kpc, ?_⟩
          refine xt_gcall rfl rfl EvO.eq (num_ok _ _) ?_
          rintro _ _ ⟨rfl, rfl⟩
          refine ⟨kpc, ?_⟩
          refine xt_gv rfl rfl EvO.eq (v_add (by omega)) ?_
          refine xt_gv rfl rfl EvO.eq (v_neqF rfl) ?_
          refine xt_v rfl (by first | exact v_pickT | exact v_pickF | exact v_pick) ?_
          refine xt_v rfl v_move ?_
          refine xt_gv rfl rfl EvO.eq v_move ?_
          refine xt_gv rfl rfl EvO.eq (by first | exact v_loadA | exact v_loadF (by decide) (by omega)) ?_
          refine xt_gv rfl rfl EvO.eq v_move ?_
          refine xt_gv rfl rfl EvO.eq v_move ?_
          refine xt_gv rfl rfl EvO.eq (by first | exact v_indexAddr _ rfl (by omega) (by assumption) | exact v_indexO _ rfl (by omega) (by omega) | exact v_indexF _ (by decide) rfl (by omega) (by omega)) ?_
          refine xt_gv rfl rfl EvO.eq (by first | exact v_fieldAddr | exact v_fieldAddrF (by decide) (by omega) | exact v_fieldAddrR (by first | assumption | rfl)) ?_
          refine xt_gv rfl rfl EvO.eq (by first | exact v_load | exact v_loadO (by omega) | exact v_loadFf (by omega) | exact v_loadF0 (by omega)) ?_
          refine xt_gcall rfl rfl EvO.eq (refMade_ok F D (refOf M) (refOf M).rows[i].1.id w10 (h.r.ext lkc) (refOf_ok hok)) ?_
          rintro _ w13 ⟨⟨Ar, nr, cr, rfl, hor, hnr⟩, lkr⟩
          refine ⟨kpc, ?_⟩
          haveI : OwnI w13 _ _ _ _ _ _ _ _ := ⟨hor⟩
          have hlr : ((refOf M).made (refOf M).rows[i].1.id).length = nr := by have := owns_len hor; omega
          refine xt_gcall rfl rfl EvO.eq (sameV_ok Am nm cm ((refOf M).made (refOf M).rows[i].1.id) Ar nr cr ((refOf M).made (refOf M).rows[i].1.id) w13 hlm hlr (by omega)) ?_
          rintro _ w14 ⟨hv, lks⟩
          refine ⟨kpc, ?_⟩
          rw [decide_eq_true rfl] at hv
          subst hv
          refine xt_gv rfl rfl EvO.eq v_not ?_
          refine xt_v rfl (by first | exact v_pickT | exact v_pickF | exact v_pick) ?_
          refine xt_nil ?_
          refine x_condF ?_
          refine x_skip ?_
          refine x_regionL ?_
          refine xl_v v_move ?_
          refine xl_v (v_add (by omega)) ?_
          refine xl_v v_assign ?_
          refine xl_nil ?_
          exact ⟨_, by omega, rfl, i + 1, rfl, by omega, inferInstance, inferInstance, inferInstance, evc, lkc⟩
        ·
          refine x_exit ?_
          refine x_seq ?_
          refine x_regionL ?_
          refine xl_v v_assign ?_
          refine xl_nil ?_
          refine x_ret ?_
          refine fin1 rfl ?_
          exact ⟨rfl, lkc⟩

/-- waystation/waystationlaw14.few -/
theorem few_ok (parts : Int) (A : Option Addr) (n c : Nat) (w : World) : Ret Try.prog 31 #[.int .i64 parts, .slice A n c] w (fun v w' => v = .bool (decide (1 ≤ parts) && decide (parts ≤ 4) && decide (n ≤ 40)) ∧ Lk w' w NoB) := by
  refine ret_of_x (N := 16) (l := [.int .i64 parts, .slice A n c]) Try.func31 rfl rfl (Nat.le_of_ble_eq_true rfl) ?_
  refine x_seq ?_
  refine x_regionL ?_
  refine xl_v v_assign ?_
  refine xl_nil ?_
  refine x_seq ?_
  refine x_regionL ?_
  refine xl_v v_move ?_
  refine xl_v v_geq ?_
  refine xl_v v_move ?_
  refine xl_split 7 (fun g7 => ?_) (fun g7 => ?_)
  ·
    refine xl_gv rfl EvO.eq v_move ?_
    refine xl_gv rfl EvO.eq v_leq ?_
    refine xl_v (by first | exact v_pickT | exact v_pickF | exact v_pick) ?_
    refine xl_v v_move ?_
    refine xl_split 11 (fun g11 => ?_) (fun g11 => ?_)
    ·
      refine xl_gv rfl EvO.eq v_move ?_
      refine xl_gv rfl EvO.eq v_len ?_
      refine xl_gv rfl EvO.eq v_leq ?_
      refine xl_v (by first | exact v_pickT | exact v_pickF | exact v_pick) ?_
      refine xl_v v_assign ?_
      refine xl_nil ?_
      refine x_ret ?_
      refine fin1 rfl ?_
      refine ⟨?_, lkc⟩
      rw [show decide (n ≤ 40) = decide ((n : Int) ≤ 40) by rw [decide_eq_decide]; omega]
      first
        | (simp_all; done)
        | (simp_all; omega)
    ·
      refine xl_gs rfl EvO.eq ?_
      refine xl_gs rfl EvO.eq ?_
      refine xl_gs rfl EvO.eq ?_
      refine xl_v (by first | exact v_pickT | exact v_pickF | exact v_pick) ?_
      refine xl_v v_assign ?_
      refine xl_nil ?_
      refine x_ret ?_
      refine fin1 rfl ?_
      refine ⟨?_, lkc⟩
      rw [show decide (n ≤ 40) = decide ((n : Int) ≤ 40) by rw [decide_eq_decide]; omega]
      first
        | (simp_all; done)
        | (simp_all; omega)
  ·
    refine xl_gs rfl EvO.eq ?_
    refine xl_gs rfl EvO.eq ?_
    refine xl_v (by first | exact v_pickT | exact v_pickF | exact v_pick) ?_
    refine xl_v v_move ?_
    refine xl_gs rfl EvO.eq ?_
    refine xl_gs rfl EvO.eq ?_
    refine xl_gs rfl EvO.eq ?_
    refine xl_v (by first | exact v_pickT | exact v_pickF | exact v_pick) ?_
    refine xl_v v_assign ?_
    refine xl_nil ?_
    refine x_ret ?_
    refine fin1 rfl ?_
    refine ⟨?_, lkc⟩
    rw [show decide (n ≤ 40) = decide ((n : Int) ≤ 40) by rw [decide_eq_decide]; omega]
    first
      | (simp_all; done)
      | (simp_all; omega)
theorem old_of_row {w : World} {A : Option Addr} {cs : List Value} (h : RowP w A cs) (hl : 0 < cs.length) : OldA w A := ⟨fun a ha => by
  obtain ⟨a', ha', hc⟩ := h 0 _ (List.getElem?_eq_getElem hl)
  have h1 := World.block_lt_of_cell? _ _ hc
  rw [block_add] at h1
  rw [ha] at ha'
  cases ha'
  exact h1⟩
theorem rounds_parts (M : Mach) (id most : Int) : (M.roundM id most).parts.length = M.parts.length := by
  unfold Mach.roundM
  cases akey M.rules id with
  | none => rfl
  | some q => simp only []; split <;> simp
theorem pass_parts (M : Mach) : ∀ l : List Int, (M.pass l).1.parts.length = M.parts.length := by
  intro l
  induction l generalizing M with
  | nil => rfl
  | cons id l ih => exact (ih _).trans (rounds_parts M id 4096)
theorem drain_parts : ∀ (n : Nat) (M : Mach), (M.drain n).1.parts.length = M.parts.length
  | 0, _ => rfl
  | n + 1, M => by
    unfold Mach.drain
    split
    · exact pass_parts M _
    · exact (drain_parts n _).trans (pass_parts M _)
theorem actM_parts (M : Mach) (x : ActD) : (actM M x).parts.length = M.parts.length := by
  unfold actM
  split
  · unfold Mach.ruleM; split <;> rfl
  · split
    · unfold Mach.putM; split <;> simp
    · split
      · exact rounds_parts M _ _
      · exact drain_parts _ M

/-- waystation/waystationlaw14.played -/
theorem played_ok (parts : Int) (A : Option Addr) (n c : Nat) (xs : List ActD) (w : World) [hrow : Row w A (xs.flatMap actC)] (hl : xs.length = n) (hp : 1 ≤ parts ∧ parts ≤ 4) (hn : n ≤ 1000) : Ret Try.prog 32 #[.int .i64 parts, .slice A n c] w (fun v w' => (∃ b pb mb vs M F D small, v = .tuple #[.pointer (some ⟨b, 0, none⟩), refV D (refOf M), .bool true, .bool small] ∧ Both w' b pb mb vs M F D ∧ (∀ k, MachF b pb mb vs k → w.heap.size ≤ k) ∧ (∀ k, F k → w.heap.size ≤ k) ∧ M.parts.length = parts.toNat) ∧ Lk w' w NoB) := by
  refine ret_of_x (N := 76) (l := [.int .i64 parts, .slice A n c]) Try.func32 rfl rfl (Nat.le_of_ble_eq_true rfl) ?_
  refine x_seq ?_
  refine x_regionL ?_
  refine xl_v v_assign ?_
  refine xl_e (e_alloc fun b1 w1 n1 l1 k1 => ?_)
  refine xl_v v_assign ?_
  refine xl_v v_assign ?_
  refine xl_nil ?_
  refine x_seq ?_
  refine x_regionL ?_
  refine xl_v v_move ?_
  refine xl_call (new_ok parts w1) ?_
  rintro _ w2 ⟨hnew, lk1⟩
  rw [if_pos hp] at hnew
  obtain ⟨b, pb, mb, u1, rfl, hM1, hs1⟩ := hnew
  refine xl_v v_move ?_
  refine xl_v v_extract ?_
  refine xl_v v_extract ?_
  refine xl_v v_assign ?_
  refine xl_v v_assign ?_
  refine xl_nil ?_
  refine x_seq ?_
  refine x_regionL ?_
  refine xl_v v_move ?_
  refine xl_call (refNew_ok parts w2) ?_
  rintro _ w3 ⟨⟨F1, D1, hnew, hf1⟩, lk2⟩
  rw [if_pos hp] at hnew
  obtain ⟨rfl, hR1⟩ := hnew
  refine xl_v v_move ?_
  refine xl_v v_extract ?_
  refine xl_v v_extract ?_
  refine xl_e (e_alloc fun br w4 nr lr kr => ?_)
  refine xl_s (e_storeA fun w5 l5 k5 => ?_)
  refine xl_v v_assign ?_
  refine xl_nil ?_
  refine x_seq ?_
  refine x_regionL ?_
  refine xl_v v_move ?_
  refine xl_call (num_ok _ _) ?_
  rintro _ _ ⟨rfl, rfl⟩
  refine xl_v (v_eqlT rfl) ?_
  refine xl_v v_move ?_
  refine xl_gv rfl EvO.eq v_move ?_
  refine xl_gv rfl EvO.eq (v_eqlT rfl) ?_
  refine xl_v (by first | exact v_pickT | exact v_pickF | exact v_pick) ?_
  refine xl_v v_assign ?_
  refine xl_nil ?_
  refine x_seq ?_
  refine x_seq ?_
  refine x_regionL ?_
  refine xl_v v_assign ?_
  refine xl_nil ?_
  refine x_block ?_
  have hw1 : w.heap.size ≤ w1.heap.size := l1.keep.size
  have hb1 : b1 < w1.heap.size := Has.lt
  have hlenM : (Mach.new parts.toNat).parts.length = parts.toNat := by simp [Mach.new]
  have hB0 : Both w5 b pb mb u1 (Mach.new parts.toNat) F1 D1 := by
    have hbr := nr.eq
    have h1 := hM1.lt
    have h2 := hR1.lt
    have h3 := lk2.keep.size
    refine ⟨(hM1.keep lk2.keep (fun _ _ h => h)).keep (kpc : Keep (OneB br) _ w5) (fun k hk e => by have e' : k = br := e; have := h1 k hk; omega), hR1.keep (kpc : Keep (OneB br) _ w5) (fun k hk e => by have e' : k = br := e; have := h2 k hk; omega), Mach.ok.new (by omega) (by omega), ok2_new _, fun k hk hm => by have := hf1 k hk; have := h1 k hm; omega⟩
  have hnm : ¬ MachF b pb mb u1 br := fun e => by have := hM1.lt _ e; have := nr.eq; have := lk2.keep.size; omega
  have hnf : ¬ F1 br := fun e => by have := hR1.lt _ e; have := nr.eq; omega
  have hsF1 : ∀ k, F1 k → w1.heap.size ≤ k := fun k hk => Nat.le_trans lk1.keep.size (hf1 k hk)
  refine x_loop (fun m τ ds w' => ds = [] ∧ ∃ (k : Nat) (vs : List Value) (M : Mach) (F : Nat → Prop) (D : RD), m = n - k ∧ k ≤ n ∧ Both w' b pb mb vs M F D ∧ ¬ MachF b pb mb vs br ∧ ¬ F br ∧ (∀ k, MachF b pb mb vs k → w1.heap.size ≤ k) ∧ (∀ k, F k → w1.heap.size ≤ k) ∧ M.parts.length = parts.toNat ∧ Ev τ 1 (.slice A n c) ∧ Ev τ 5 (.pointer (some ⟨b1, 0, none⟩)) ∧ Ev τ 8 (.pointer (some ⟨b, 0, none⟩)) ∧ Ev τ 10 (.pointer (some ⟨br, 0, none⟩)) ∧ Ev τ 12 (.bool true) ∧ Ev τ 13 (.int .i64 (k : Int)) ∧ Blk w' br (.cells (refC D (refOf M)).toArray 51 (0, 0)) ∧ Lk w' w1 NoB) (n) ?start ?round
  case start =>
    exact ⟨rfl, 0, u1, Mach.new parts.toNat, F1, D1, rfl, Nat.zero_le _, hB0.ext kpc, hnm, hnf, hs1, hsF1, hlenM, inferInstance, inferInstance, inferInstance, inferInstance, inferInstance, evc, inferInstance, lkc⟩
  case round =>
    intro m τ7 ds7 w7 hI
    obtain ⟨rfl, k, vs, M, F, D, rfl, hk, hB, hnm, hnf, hsM, hsF, hlM, e1, e5, e8, e10, e12, e13, kb, lk⟩ := hI
    haveI := subF_since' (S := NoB) (w := w1) hsM (Nat.le_refl _)
    haveI := notS_since hsM b1 hb1
    haveI := subF_since' (S := NoB) (w := w) hsM hw1
    refine x_seq ?_
    refine x_seq ?_
    refine x_regionL ?_
    refine xl_v v_move ?_
    refine xl_v v_move ?_
    refine xl_v v_len ?_
    refine xl_v v_lss ?_
    refine xl_v v_move ?_
    refine xl_split 36 (fun g36 => ?_) (fun g36 => ?_)
    ·
      have hk1 : k < xs.length := by simp at g36; omega
      haveI hoA : OldA w A := old_of_row hrow.row (by rw [flat_len (sz := 10) (fun _ => rfl)]; omega)
      haveI : RowOut (MachF b pb mb vs) A := ⟨fun a ha e => by have := hoA.lt a ha; have := hsM _ e; omega⟩
      haveI : NotS (MachF b pb mb vs) br := ⟨hnm⟩
      refine xl_gv rfl EvO.eq v_move ?_
      refine xl_v (by first | exact v_pickT | exact v_pickF | exact v_pick) ?_
      refine xl_nil ?_
      refine x_condT ?_
      refine x_skip ?_
      refine x_seq ?_
      refine x_block ?_
      refine x_seq ?_
      refine x_drawL (MachF b pb mb vs) (allS) (.take 0 (.take 1 (.take 2 (.take 3 (.take 4 (.take 5 (.eff 6 (.take 7 (.take 8 (.takeA 9 (.free 10 (.take 11 .done)))))))))))) mixed (by kernel_rfl) (fun _ _ _ _ _ h => h) (fun w8 l8 => ?_)
      refine xt_v rfl v_move ?_
      refine xt_v rfl (by first | exact v_loadA | exact v_loadF (by decide) (by omega)) ?_
      refine xt_v rfl v_move ?_
      refine xt_v rfl v_move ?_
      refine xt_v rfl (by first | exact v_indexAddr _ rfl (by omega) (by assumption) | exact v_indexO _ rfl (by omega) (by omega) | exact v_indexF _ (by decide) rfl (by omega) (by omega)) ?_
      refine xt_v rfl (by first | exact v_loadA | exact v_loadF (by decide) (by omega)) ?_
      refine xt_call rfl (act_ok b pb mb vs M F D xs[k] w8 (hB.ext kpc)) ?_
      rintro _ w9 ⟨⟨vs2, F2, D2, rfl, hB2, hsm, hsf⟩, lka⟩
      refine ⟨kpc, ?_⟩
      have hnm2 : ¬ MachF b pb mb vs2 br := fun e => (hsm _ e).elim hnm (fun e => absurd e (Nat.not_le_of_lt Has.lt))
      have hnf2 : ¬ F2 br := fun e => (hsf _ e).elim hnf (fun e => absurd e (Nat.not_le_of_lt Has.lt))
      have hsM2 : ∀ j, MachF b pb mb vs2 j → w1.heap.size ≤ j := fun j hj => (hsm j hj).elim (hsM j) (fun e => Nat.le_trans (Nat.le_trans lk.keep.size Ge.le) e)
      have hsF2 : ∀ j, F2 j → w1.heap.size ≤ j := fun j hj => (hsf j hj).elim (hsF j) (fun e => Nat.le_trans (Nat.le_trans lk.keep.size Ge.le) e)
      have hlM2 : (actM M xs[k]).parts.length = parts.toNat := (actM_parts M _).trans hlM
      refine xt_v rfl v_move ?_
      refine xt_v rfl v_extract ?_
      refine xt_av rfl v_extract ?_
      refine xt_fs rfl (e_storeA fun w10 l710 k710 => ?_)
      refine xt_v rfl v_assign ?_
      refine xt_nil ?_
      have hB3 := hB2.keep (kpc : Keep (OneB br) _ w10) (fun j hj e => hnm2 (by have e' : j = br := e; exact e' ▸ hj)) (fun j hj e => hnf2 (by have e' : j = br := e; exact e' ▸ hj))
      haveI : Row w10 D2.PA _ := ⟨hB3.r.p.row⟩
      have hpn2 : D2.pv.length = (actM M xs[k]).parts.length := hB3.r.pn
      have hpl : ((refOf (actM M xs[k])).parts.length) = parts.toNat := hlM2
      refine x_seq ?_
      refine x_regionL ?_
      refine xl_v v_assign ?_
      refine xl_nil ?_
      refine x_block ?_
      refine x_loop (fun m τ ds w' => ds = [] ∧ ∃ j : Nat, m = parts.toNat - j ∧ j ≤ parts.toNat ∧ Ev τ 1 (.slice A n c) ∧ Ev τ 5 (.pointer (some ⟨b1, 0, none⟩)) ∧ Ev τ 8 (.pointer (some ⟨b, 0, none⟩)) ∧ Ev τ 10 (.pointer (some ⟨br, 0, none⟩)) ∧ Ev τ 12 (.bool true) ∧ Ev τ 13 (.int .i64 (k : Int)) ∧ Ev τ 14 (.int .i64 (j : Int)) ∧ Lk w' w10 NoB) (parts.toNat) ?start ?round
      case start =>
        exact ⟨rfl, 0, rfl, Nat.zero_le _, inferInstance, inferInstance, inferInstance, inferInstance, inferInstance, inferInstance, evc, lkc⟩
      case round =>
        intro m τ11 ds11 w11 hI
        obtain ⟨rfl, j, rfl, hj, f1, f5, f8, f10, f12, f13, f14, lk2⟩ := hI
        haveI := subF_since' (S := NoB) (w := w1) hsM2 (Nat.le_refl _)
        refine x_seq ?_
        refine x_seq ?_
        refine x_regionL ?_
        refine xl_v v_move ?_
        refine xl_v (by first | exact v_fieldAddr | exact v_fieldAddrF (by decide) (by omega) | exact v_fieldAddrR (by first | assumption | rfl)) ?_
        refine xl_v (by first | exact v_load | exact v_loadO (by omega) | exact v_loadFf (by omega) | exact v_loadF0 (by omega)) ?_
        refine xl_v v_len ?_
        refine xl_v v_lss ?_
        refine xl_nil ?_
        first | refine x_condP (fun c2 => ?_) (fun c2 => ?_) | refine x_condN (fun c2 => ?_) (fun c2 => ?_) | refine x_condE (fun c2 => ?_) (fun c2 => ?_)
        ·
          have hj1 : j < (actM M xs[k]).parts.length := by omega
          obtain ⟨B, cB, hV, hBr⟩ := ref_part (n := (j : Int)) hB3.r (by simp [RefM.hasB, refOf, hj1])
          have hPs : D2.PA.isSome = true := row_some (cs := D2.pv) (w := w11) inferInstance (by omega)
          refine x_skip ?_
          refine x_seq ?_
          refine x_block ?_
          refine x_seq ?_
          refine x_regionL ?_
          refine xl_v (by first | exact v_fieldAddr | exact v_fieldAddrF (by decide) (by omega) | exact v_fieldAddrR (by first | assumption | rfl)) ?_
          refine xl_v (by first | exact v_load | exact v_loadO (by omega) | exact v_loadFf (by omega) | exact v_loadF0 (by omega)) ?_
          refine xl_v v_move ?_
          refine xl_v (v_indexAddr j rfl (by omega) hPs) ?_
          refine xl_v (v_loadR (by simpa using hV)) ?_
          refine xl_v v_len ?_
          refine xl_v v_gtr ?_
          refine xl_nil ?_
          first | refine x_condP (fun c3 => ?_) (fun c3 => ?_) | refine x_condN (fun c3 => ?_) (fun c3 => ?_) | refine x_condE (fun c3 => ?_) (fun c3 => ?_)
          ·
            refine x_seq ?_
            refine x_drawL (OneB b1) (allS) (.take 0 (.take 1 (.take 2 (.take 3 (.eff 4 (.take 5 (.take 6 .done))))))) mixed (by kernel_rfl) (fun _ _ _ _ _ h => h) (fun w12 l12 => ?_)
            refine xt_v rfl v_move ?_
            refine xt_v rfl (by first | exact v_loadA | exact v_loadF (by decide) (by omega)) ?_
            refine xt_v rfl v_move ?_
            refine xt_v rfl v_assign ?_
            refine xt_s rfl (e_storeA fun w13 l13 k13 => ?_)
            refine xt_v rfl v_assign ?_
            refine xt_v rfl v_assign ?_
            refine xt_nil ?_
            refine x_ret ?_
            refine finR (rs := [.tmp 4, .cell 5 51, .tmp 6, .tmp 7]) rfl ?_
            have hB4 := hB3.keep (kpc : Keep (OneB b1) _ w13) (fun i hi e => by have e' : i = b1 := e; have := hsM2 i hi; omega) (fun i hi e => by have e' : i = b1 := e; have := hsF2 i hi; omega)
            exact ⟨⟨b, pb, mb, vs2, actM M xs[k], F2, D2, false, rfl, hB4, fun i hi => Nat.le_trans hw1 (hsM2 i hi), fun i hi => Nat.le_trans hw1 (hsF2 i hi), hlM2⟩, lkc⟩
          ·
            refine x_skip ?_
            refine x_regionL ?_
            refine xl_v v_move ?_
            refine xl_v (v_add (by omega)) ?_
            refine xl_v v_assign ?_
            refine xl_nil ?_
            exact ⟨_, by omega, rfl, j + 1, rfl, by omega, inferInstance, inferInstance, inferInstance, inferInstance, inferInstance, inferInstance, evc, lkc⟩
        ·
          refine x_exit ?_
          refine x_regionL ?_
          refine xl_v v_move ?_
          refine xl_v (v_add (by omega)) ?_
          refine xl_v v_assign ?_
          refine xl_nil ?_
          refine ⟨_, by omega, rfl, k + 1, vs2, actM M xs[k], F2, D2, rfl, by omega, hB3.ext kpc, hnm2, hnf2, hsM2, hsF2, hlM2, inferInstance, inferInstance, inferInstance, inferInstance, inferInstance, evc, inferInstance, lkc⟩
    ·
      refine xl_gs rfl EvO.eq ?_
      refine xl_v (by first | exact v_pickT | exact v_pickF | exact v_pick) ?_
      refine xl_nil ?_
      refine x_condF ?_
      refine x_exit ?_
      refine x_seq ?_
      refine x_drawL (OneB b1) (allS) (.take 0 (.take 1 (.take 2 (.take 3 (.take 4 (.take 5 (.eff 6 (.take 7 (.take 8 (.eff 9 (.take 10 (.take 11 .done)))))))))))) mixed (by kernel_rfl) (fun _ _ _ _ _ h => h) (fun w14 l14 => ?_)
      refine xt_v rfl v_move ?_
      refine xt_v rfl (by first | exact v_loadA | exact v_loadF (by decide) (by omega)) ?_
      refine xt_v rfl v_move ?_
      refine xt_v rfl v_move ?_
      refine xt_gv rfl rfl EvO.eq v_move ?_
      refine xt_gv rfl rfl EvO.eq (by first | exact v_loadA | exact v_loadF (by decide) (by omega)) ?_
      refine xt_gcall rfl rfl EvO.eq (is_ok b pb mb vs M F D w14 (hB.ext kpc)) ?_
      rintro _ w15 ⟨rfl, lki⟩
      refine ⟨kpc, ?_⟩
      refine xt_v rfl (by first | exact v_pickT | exact v_pickF | exact v_pick) ?_
      refine xt_v rfl v_assign ?_
      refine xt_s rfl (e_storeA fun w16 l16 k16 => ?_)
      refine xt_v rfl v_assign ?_
      refine xt_v rfl v_assign ?_
      refine xt_nil ?_
      refine x_ret ?_
      refine finR (rs := [.tmp 4, .cell 5 51, .tmp 6, .tmp 7]) rfl ?_
      have hB4 := hB.keep (kpc : Keep (OneB b1) _ w16) (fun i hi e => by have e' : i = b1 := e; have := hsM i hi; omega) (fun i hi e => by have e' : i = b1 := e; have := hsF i hi; omega)
      exact ⟨⟨b, pb, mb, vs, M, F, D, true, rfl, hB4, fun i hi => Nat.le_trans hw1 (hsM i hi), fun i hi => Nat.le_trans hw1 (hsF i hi), hlM⟩, lkc⟩
end Go.Proofs.Ytbihphclmdokeaa
