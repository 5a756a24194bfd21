/-
  Walks, printed by a program of this workplace (wip/tools/sx.py) off the functions' code and a text of contracts.
-/
import Derived.Test.YtbihphclmdokeaaD
set_option linter.all false
set_option maxRecDepth 100000
set_option synthInstance.maxSize 100000
set_option synthInstance.maxHeartbeats 400000
namespace Go.Proofs.Ytbihphclmdokeaa
open Go.Wst
open Go.Wst.Sm
theorem rules_get (l : List (Int × Rule × Nat)) (k : Int) : (akey (rulesV l) k).getD (.agg #[.int .i64 0, .int .i64 0, .int .i64 0, .int .i64 0, .int .i64 0, .int .i64 0]) = .agg (rpC ((akey l k).getD (⟨0, 0, 0, 0, 0⟩, 0))).toArray ∧ (akey (rulesV l) k).isSome = (akey l k).isSome := by
  have e : akey (rulesV l) k = (akey l k).map (fun q => Value.agg (rpC q).toArray) := akey_map (fun q : Rule × Nat => Value.agg (rpC q).toArray) l k
  rw [e]
  cases akey l k <;> exact ⟨rfl, rfl⟩

/-- waystation/stream.New -/
theorem new_ok (n : Int) (w : World) : Ret Try.prog 20 #[.int .i64 n] w (fun v w' => (if 1 ≤ n ∧ n ≤ 4 then ∃ b pb mb vs, v = .tuple #[.pointer (some ⟨b, 0, none⟩), .int .i64 0] ∧ MachAt w' b pb mb vs (Mach.new n.toNat) ∧ (∀ k, MachF b pb mb vs k → w.heap.size ≤ k) else v = .tuple #[.pointer none, .int .i64 2]) ∧ Lk w' w NoB) := by
  refine ret_of_x (N := 16) (l := [.int .i64 n]) Try.func20 rfl rfl (Nat.le_of_ble_eq_true rfl) ?_
  refine x_seq ?_
  refine x_regionL ?_
  refine xl_v v_assign ?_
  refine xl_v v_assign ?_
  refine xl_nil ?_
  refine x_seq ?_
  refine x_seq ?_
  refine x_regionL ?_
  refine xl_v v_move ?_
  refine xl_v v_lss ?_
  refine xl_v v_move ?_
  refine xl_split 6 (fun g6 => ?_) (fun g6 => ?_)
  ·
    have hn : ¬ (1 ≤ n ∧ n ≤ 4) := by simp at g6; omega
    refine xl_gs rfl EvO.eq ?_
    refine xl_gs rfl EvO.eq ?_
    refine xl_v (by first | exact v_pickT | exact v_pickF | exact v_pick) ?_
    refine xl_nil ?_
    refine x_condT ?_
    refine x_seq ?_
    refine x_regionL ?_
    refine xl_v v_assign ?_
    refine xl_v v_assign ?_
    refine xl_nil ?_
    refine x_ret ?_
    refine fin2 rfl ?_
    exact ⟨by rw [if_neg hn], lkc⟩
  ·
    refine xl_gv rfl EvO.eq v_move ?_
    refine xl_gv rfl EvO.eq v_gtr ?_
    refine xl_v (by first | exact v_pickT | exact v_pickF | exact v_pick) ?_
    refine xl_nil ?_
    refine x_condE (fun c1 => ?_) (fun c1 => ?_)
    ·
      have hn : ¬ (1 ≤ n ∧ n ≤ 4) := by simp at c1; omega
      refine x_seq ?_
      refine x_regionL ?_
      refine xl_v v_assign ?_
      refine xl_v v_assign ?_
      refine xl_nil ?_
      refine x_ret ?_
      refine fin2 rfl ?_
      exact ⟨by rw [if_neg hn], lkc⟩
    ·
      have hn : 1 ≤ n ∧ n ≤ 4 := by simp at g6 c1; omega
      refine x_skip ?_
      refine x_seq ?_
      refine x_regionL ?_
      refine xl_v v_move ?_
      refine xl_e (e_makeSlice n.toNat n.toNat (by omega) (by omega) (Nat.le_refl _) (by omega) (by omega) fun b1 w1 n1 l1 k1 => ?_)
      refine xl_v v_build ?_
      refine xl_e (e_makeMap fun b3 w2 n3 l3 k3 => ?_)
      refine xl_v v_build ?_
      refine xl_e (e_box fun b5 w3 n5 l5 k5 => ?_)
      refine xl_v v_assign ?_
      refine xl_v v_assign ?_
      refine xl_nil ?_
      refine x_ret ?_
      refine fin2 rfl ?_
      refine ⟨?_, lkc⟩
      rw [if_pos hn]
      refine ⟨b5, b1, b3, List.replicate n.toNat (.slice none 0 0), rfl, ⟨⟨[], ?_, by simpa using (Blk.eq : (w3).heap[b1]? = _)⟩, ?_, mapB_made _ inferInstance, NeB.ne, NeB.ne, NeB.ne, slsF_nils, slsF_nils, slsF_nils⟩, ?_⟩
      · simpa [Mach.new] using k5.eq
      · have e : (Mach.new n.toNat).parts.map itemsC = List.replicate n.toNat [] := by simp [Mach.new, itemsC]
        rw [e]
        exact Sls.nils _ _ _ _
      · have e1 := n1.eq
        have e3 := n3.eq
        have e5 := n5.eq
        have h1 := l1.keep.size
        have h3 := l3.keep.size
        rintro k (rfl | rfl | rfl | hk)
        · omega
        · omega
        · omega
        · exact absurd hk slsF_nils

/-- (*waystation/stream.Machine).Rule -/
theorem rule_ok (b pb mb : Nat) (vs : List Value) (M : Mach) (r : Rule) (w : World) (h : MachAt w b pb mb vs M) : Ret Try.prog 21 #[.pointer (some ⟨b, 0, none⟩), .agg (ruleC r).toArray] w (fun v w' => v = .int .i64 (if M.ruleB r = true then 0 else 2) ∧ MachAt w' b pb mb vs (M.ruleM r) ∧ Lk w' w (MachF b pb mb vs)) := by
  obtain ⟨sp, hbs, hps⟩ := h.ex
  haveI hb : Blk w b _ := ⟨hbs⟩
  haveI hm : MapI w mb _ _ _ := ⟨h.hm⟩
  obtain ⟨q1, q2⟩ := rules_get M.rules r.id
  refine ret_of_x (N := 53) (l := [.pointer (some ⟨b, 0, none⟩), .agg (ruleC r).toArray]) Try.func21 rfl rfl (Nat.le_of_ble_eq_true rfl) ?_
  refine x_seq ?_
  refine x_regionL ?_
  refine xl_e (e_box fun b1 w1 n1 l1 k1 => ?_)
  refine xl_v v_assign ?_
  refine xl_nil ?_
  refine x_seq ?_
  refine x_seq ?_
  refine x_regionL ?_
  refine xl_v v_move ?_
  refine xl_call (none_ok _ _ _ _) ?_
  rintro _ _ ⟨rfl, rfl⟩
  refine xl_nil ?_
  refine x_condF ?_
  refine x_skip ?_
  refine x_seq ?_
  refine x_seq ?_
  refine x_drawL (NewS w1) (allS) (.take 0 (.take 1 (.take 2 (.take 3 (.take 4 (.take 5 (.take 6 (.take 7 (.take 8 (.take 9 (.eff 10 (.eff 11 (.take 12 .done))))))))))))) mixed (by kernel_rfl) (fun _ _ _ _ _ h => h) (fun w3 l3 => ?_)
  refine xt_v rfl v_move ?_
  refine xt_v rfl (by first | exact v_nilCheckP | exact v_nilCheckF | exact v_nilCheckR (by first | assumption | rfl)) ?_
  refine xt_v rfl (by first | exact v_fieldAddr | exact v_fieldAddrF (by decide) (by omega) | exact v_fieldAddrR (by first | assumption | rfl)) ?_
  refine xt_v rfl (by first | exact v_load | exact v_loadO (by omega) | exact v_loadFf (by omega) | exact v_loadF0 (by omega)) ?_
  refine xt_v rfl (by first | exact v_fieldAddr | exact v_fieldAddrF (by decide) (by omega) | exact v_fieldAddrR (by first | assumption | rfl)) ?_
  refine xt_v rfl (by first | exact v_load | exact v_loadO (by omega) | exact v_loadFf (by omega) | exact v_loadF0 (by omega)) ?_
  refine xt_v rfl (v_lookup2v r.id _ _ rfl q1 q2) ?_
  refine xt_v rfl v_move ?_
  refine xt_v rfl v_extract ?_
  refine xt_v rfl v_extract ?_
  refine xt_e rfl (e_alloc fun b4 w4 n4 l4 k4 => ?_)
  refine xt_s rfl (e_storeA fun w5 l5 k5 => ?_)
  refine xt_v rfl v_assign ?_
  refine xt_nil ?_
  refine x_seq ?_
  refine x_drawL (NoB) (allS) (.take 0 (.take 1 (.take 2 (.eff 3 (.take 4 (.take 5 (.take 6 (.take 7 (.take 8 (.take 9 (.take 10 (.take 11 (.take 12 (.eff 13 (.take 14 (.take 15 (.take 16 (.take 17 (.take 18 (.take 19 (.take 20 (.take 21 (.take 22 (.eff 23 (.take 24 (.take 25 .done)))))))))))))))))))))))))) mixed (by kernel_rfl) (fun _ _ _ _ _ h => h) (fun w6 l6 => ?_)
  refine xt_v rfl v_move ?_
  refine xt_v rfl v_move ?_
  refine xt_split 20 (fun g20 => ?_) (fun g20 => ?_)
  ·
    refine xt_gs rfl rfl EvO.eq ?_
    refine xt_gse rfl rfl EvO.eq ?_
    refine xt_gs rfl rfl EvO.eq ?_
    refine xt_v rfl (by first | exact v_pickT | exact v_pickF | exact v_pick) ?_
    refine xt_v rfl v_move ?_
    refine xt_gs rfl rfl EvO.eq ?_
    refine xt_gs rfl rfl EvO.eq ?_
    refine xt_gs rfl rfl EvO.eq ?_
    refine xt_gs rfl rfl EvO.eq ?_
    refine xt_gs rfl rfl EvO.eq ?_
    refine xt_gs rfl rfl EvO.eq ?_
    refine xt_gse rfl rfl EvO.eq ?_
    refine xt_gs rfl rfl EvO.eq ?_
    refine xt_v rfl (by first | exact v_pickT | exact v_pickF | exact v_pick) ?_
    refine xt_v rfl v_move ?_
    refine xt_gs rfl rfl EvO.eq ?_
    refine xt_gs rfl rfl EvO.eq ?_
    refine xt_gs rfl rfl EvO.eq ?_
    refine xt_gs rfl rfl EvO.eq ?_
    refine xt_gs rfl rfl EvO.eq ?_
    refine xt_gs rfl rfl EvO.eq ?_
    refine xt_gse rfl rfl EvO.eq ?_
    refine xt_gs rfl rfl EvO.eq ?_
    refine xt_v rfl (by first | exact v_pickT | exact v_pickF | exact v_pick) ?_
    refine xt_nil ?_
    refine x_condT ?_
    refine x_seq ?_
    refine x_regionL ?_
    refine xl_v v_assign ?_
    refine xl_nil ?_
    refine x_ret ?_
    refine fin1 rfl ?_
    have hr : M.ruleB r = false := by simp_all [Mach.ruleB, Mach.hasB]; try omega
    have hk : Keep NoB w w6 := kpc
    refine ⟨by rw [if_neg (by simp [hr])], ?_, ⟨hk.mono (fun _ _ h => h.elim)⟩⟩
    rw [Mach.ruleM, if_neg (by simp [hr])]
    exact h.keep hk (fun _ _ h => h)
  ·
    refine xt_gv rfl rfl EvO.eq (by first | exact v_loadA | exact v_loadF (by decide) (by omega)) ?_
    refine xt_gcall rfl rfl EvO.eq (right_ok _ _) ?_
    rintro _ w7 ⟨rfl, lk⟩
    refine ⟨kpc, ?_⟩
    refine xt_gv rfl rfl EvO.eq v_not ?_
    refine xt_v rfl (by first | exact v_pickT | exact v_pickF | exact v_pick) ?_
    refine xt_v rfl v_move ?_
    refine xt_split 25 (fun g25 => ?_) (fun g25 => ?_)
    ·
      refine xt_gs rfl rfl EvO.eq ?_
      refine xt_gs rfl rfl EvO.eq ?_
      refine xt_gs rfl rfl EvO.eq ?_
      refine xt_gs rfl rfl EvO.eq ?_
      refine xt_gs rfl rfl EvO.eq ?_
      refine xt_gs rfl rfl EvO.eq ?_
      refine xt_gse rfl rfl EvO.eq ?_
      refine xt_gs rfl rfl EvO.eq ?_
      refine xt_v rfl (by first | exact v_pickT | exact v_pickF | exact v_pick) ?_
      refine xt_v rfl v_move ?_
      refine xt_gs rfl rfl EvO.eq ?_
      refine xt_gs rfl rfl EvO.eq ?_
      refine xt_gs rfl rfl EvO.eq ?_
      refine xt_gs rfl rfl EvO.eq ?_
      refine xt_gs rfl rfl EvO.eq ?_
      refine xt_gs rfl rfl EvO.eq ?_
      refine xt_gse rfl rfl EvO.eq ?_
      refine xt_gs rfl rfl EvO.eq ?_
      refine xt_v rfl (by first | exact v_pickT | exact v_pickF | exact v_pick) ?_
      refine xt_nil ?_
      refine x_condT ?_
      refine x_seq ?_
      refine x_regionL ?_
      refine xl_v v_assign ?_
      refine xl_nil ?_
      refine x_ret ?_
      refine fin1 rfl ?_
      have hr : M.ruleB r = false := by simp_all [Mach.ruleB, Mach.hasB]; try omega
      have hk : Keep NoB w w7 := kpc
      refine ⟨by rw [if_neg (by simp [hr])], ?_, ⟨hk.mono (fun _ _ h => h.elim)⟩⟩
      rw [Mach.ruleM, if_neg (by simp [hr])]
      exact h.keep hk (fun _ _ h => h)
    ·
      refine xt_gv rfl rfl EvO.eq v_move ?_
      refine xt_gv rfl rfl EvO.eq (by first | exact v_nilCheckP | exact v_nilCheckF | exact v_nilCheckR (by first | assumption | rfl)) ?_
      refine xt_gv rfl rfl EvO.eq (by first | exact v_fieldAddr | exact v_fieldAddrF (by decide) (by omega) | exact v_fieldAddrR (by first | assumption | rfl)) ?_
      refine xt_gv rfl rfl EvO.eq (by first | exact v_loadA | exact v_loadF (by decide) (by omega)) ?_
      refine xt_gv rfl rfl EvO.eq (by first | exact v_fieldAddr | exact v_fieldAddrF (by decide) (by omega) | exact v_fieldAddrR (by first | assumption | rfl)) ?_
      refine xt_gv rfl rfl EvO.eq (by first | exact v_load | exact v_loadO (by omega) | exact v_loadFf (by omega) | exact v_loadF0 (by omega)) ?_
      refine xt_gcall rfl rfl EvO.eq (has_ok _ _ _ _ _) ?_
      rintro _ w8 ⟨rfl, lk⟩
      refine ⟨kpc, ?_⟩
      refine xt_gv rfl rfl EvO.eq v_not ?_
      refine xt_v rfl (by first | exact v_pickT | exact v_pickF | exact v_pick) ?_
      refine xt_v rfl v_move ?_
      refine xt_split 35 (fun g35 => ?_) (fun g35 => ?_)
      ·
        refine xt_gs rfl rfl EvO.eq ?_
        refine xt_gs rfl rfl EvO.eq ?_
        refine xt_gs rfl rfl EvO.eq ?_
        refine xt_gs rfl rfl EvO.eq ?_
        refine xt_gs rfl rfl EvO.eq ?_
        refine xt_gs rfl rfl EvO.eq ?_
        refine xt_gse rfl rfl EvO.eq ?_
        refine xt_gs rfl rfl EvO.eq ?_
        refine xt_v rfl (by first | exact v_pickT | exact v_pickF | exact v_pick) ?_
        refine xt_nil ?_
        refine x_condT ?_
        refine x_seq ?_
        refine x_regionL ?_
        refine xl_v v_assign ?_
        refine xl_nil ?_
        refine x_ret ?_
        refine fin1 rfl ?_
        have hr : M.ruleB r = false := by simp_all [Mach.ruleB, Mach.hasB]; try omega
        have hk : Keep NoB w w8 := kpc
        refine ⟨by rw [if_neg (by simp [hr])], ?_, ⟨hk.mono (fun _ _ h => h.elim)⟩⟩
        rw [Mach.ruleM, if_neg (by simp [hr])]
        exact h.keep hk (fun _ _ h => h)
      ·
        refine xt_gv rfl rfl EvO.eq v_move ?_
        refine xt_gv rfl rfl EvO.eq (by first | exact v_nilCheckP | exact v_nilCheckF | exact v_nilCheckR (by first | assumption | rfl)) ?_
        refine xt_gv rfl rfl EvO.eq (by first | exact v_fieldAddr | exact v_fieldAddrF (by decide) (by omega) | exact v_fieldAddrR (by first | assumption | rfl)) ?_
        refine xt_gv rfl rfl EvO.eq (by first | exact v_loadA | exact v_loadF (by decide) (by omega)) ?_
        refine xt_gv rfl rfl EvO.eq (by first | exact v_fieldAddr | exact v_fieldAddrF (by decide) (by omega) | exact v_fieldAddrR (by first | assumption | rfl)) ?_
        refine xt_gv rfl rfl EvO.eq (by first | exact v_load | exact v_loadO (by omega) | exact v_loadFf (by omega) | exact v_loadF0 (by omega)) ?_
        refine xt_gcall rfl rfl EvO.eq (has_ok _ _ _ _ _) ?_
        rintro _ w9 ⟨rfl, lk⟩
        refine ⟨kpc, ?_⟩
        refine xt_gv rfl rfl EvO.eq v_not ?_
        refine xt_v rfl (by first | exact v_pickT | exact v_pickF | exact v_pick) ?_
        refine xt_nil ?_
        refine x_condE (fun c2 => ?_) (fun c2 => ?_)
        ·
          refine x_seq ?_
          refine x_regionL ?_
          refine xl_v v_assign ?_
          refine xl_nil ?_
          refine x_ret ?_
          refine fin1 rfl ?_
          have hr : M.ruleB r = false := by simp_all [Mach.ruleB, Mach.hasB]; try omega
          have hk : Keep NoB w w9 := kpc
          refine ⟨by rw [if_neg (by simp [hr])], ?_, ⟨hk.mono (fun _ _ h => h.elim)⟩⟩
          rw [Mach.ruleM, if_neg (by simp [hr])]
          exact h.keep hk (fun _ _ h => h)
        ·
          refine x_skip ?_
          refine x_seq ?_
          refine x_drawL (NoB) (allS) (.take 0 (.take 1 (.take 2 (.take 3 (.take 4 (.take 5 (.take 6 (.take 7 (.last 8))))))))) mixed (by kernel_rfl) (fun _ _ _ _ _ h => h) (fun w10 l10 => ?_)
          refine xt_v rfl v_move ?_
          refine xt_v rfl (by first | exact v_nilCheckP | exact v_nilCheckF | exact v_nilCheckR (by first | assumption | rfl)) ?_
          refine xt_v rfl (by first | exact v_fieldAddr | exact v_fieldAddrF (by decide) (by omega) | exact v_fieldAddrR (by first | assumption | rfl)) ?_
          refine xt_v rfl (by first | exact v_load | exact v_loadO (by omega) | exact v_loadFf (by omega) | exact v_loadF0 (by omega)) ?_
          refine xt_v rfl (by first | exact v_fieldAddr | exact v_fieldAddrF (by decide) (by omega) | exact v_fieldAddrR (by first | assumption | rfl)) ?_
          refine xt_v rfl (by first | exact v_load | exact v_loadO (by omega) | exact v_loadFf (by omega) | exact v_loadF0 (by omega)) ?_
          refine xt_v rfl (by first | exact v_loadA | exact v_loadF (by decide) (by omega)) ?_
          refine xt_v rfl v_build ?_
          refine xt_lastS rfl (e_mapUpdate r.id rfl fun w11 l8 m8 => ?_)
          refine x_seq ?_
          refine x_regionL ?_
          refine xl_v v_assign ?_
          refine xl_nil ?_
          refine x_ret ?_
          refine fin1 rfl ?_
          have hr : M.ruleB r = true := by simp_all [Mach.ruleB, Mach.hasB]; try omega
          have hk8 : Keep NoB w w10 := kpc
          have h8 := (h.keep hk8 (fun _ _ h => h)).ruled (rs := aput M.rules r.id (r, 0)) l8.keep (by rw [rulesV, ← aput_map (fun q : Rule × Nat => Value.agg (rpC q).toArray)]; exact m8.m)
          refine ⟨by rw [if_pos hr], by rw [Mach.ruleM, if_pos hr]; exact h8, ⟨(hk8.mono (fun _ _ h => h.elim)).then l8.keep (fun k _ hk => .inr (.inr (.inl hk)))⟩⟩

/-- (*waystation/stream.Machine).Put -/
theorem put_ok (b pb mb : Nat) (vs : List Value) (M : Mach) (part v : Int) (w : World) (h : MachAt w b pb mb vs M) (hok : M.ok) : Ret Try.prog 22 #[.pointer (some ⟨b, 0, none⟩), .int .i64 part, .int .i64 v] w (fun x w' => x = .int .i64 (M.putNo part v) ∧ Lk w' w (MachF b pb mb vs) ∧ ∃ vs', MachAt w' b pb mb vs' (M.putM part v) ∧ Sub (MachF b pb mb vs') (MachF b pb mb vs) w) := by
  obtain ⟨sp, hbs, hps⟩ := h.ex
  haveI hb : Blk w b _ := ⟨hbs⟩
  have stay : ∀ w', Keep NoB w w' → M.putNo part v ≠ 0 → Lk w' w (MachF b pb mb vs) ∧ ∃ vs', MachAt w' b pb mb vs' (M.putM part v) ∧ Sub (MachF b pb mb vs') (MachF b pb mb vs) w := by
    intro w' hk hne
    refine ⟨⟨hk.mono (fun _ _ h => h.elim)⟩, vs, ?_, Sub.refl _ _⟩
    rw [Mach.putM, if_neg hne]
    exact h.keep hk (fun _ _ h => h)
  refine ret_of_x (N := 52) (l := [.pointer (some ⟨b, 0, none⟩), .int .i64 part, .int .i64 v]) Try.func22 rfl rfl (Nat.le_of_ble_eq_true rfl) ?_
  refine x_seq ?_
  refine x_regionL ?_
  refine xl_v v_assign ?_
  refine xl_nil ?_
  refine x_seq ?_
  refine x_block ?_
  refine x_seq ?_
  refine x_regionL ?_
  refine xl_v v_move ?_
  refine xl_call (none_ok _ _ _ _) ?_
  rintro _ _ ⟨rfl, rfl⟩
  refine xl_v v_assign ?_
  refine xl_nil ?_
  refine x_condF ?_
  refine x_seq ?_
  refine x_regionL ?_
  refine xl_v v_move ?_
  refine xl_v (by first | exact v_nilCheckP | exact v_nilCheckF | exact v_nilCheckR (by first | assumption | rfl)) ?_
  refine xl_v (by first | exact v_fieldAddr | exact v_fieldAddrF (by decide) (by omega) | exact v_fieldAddrR (by first | assumption | rfl)) ?_
  refine xl_v (by first | exact v_loadA | exact v_loadF (by decide) (by omega)) ?_
  refine xl_v v_move ?_
  refine xl_call (has_ok _ _ _ _ _) ?_
  rintro _ w2 ⟨rfl, lk⟩
  refine xl_v v_not ?_
  refine xl_v v_assign ?_
  refine xl_nil ?_
  refine x_condE (fun c2 => ?_) (fun c2 => ?_)
  ·
    have hn : M.putNo part v = 4 := by
      have : M.hasB part = false := by simp [Mach.hasB]; simp at c2; omega
      simp [Mach.putNo, this]
    refine x_seq ?_
    refine x_regionL ?_
    refine xl_v v_assign ?_
    refine xl_nil ?_
    refine x_ret ?_
    refine fin1 rfl ?_
    exact ⟨by rw [hn], stay _ kpc (by omega)⟩
  ·
    have hh : M.hasB part = true := by simpa [Mach.hasB] using c2
    have hp0 : part = (part.toNat : Int) := by simp [Mach.hasB] at hh; omega
    have hp1 : part.toNat < M.parts.length := by simp [Mach.hasB] at hh; omega
    obtain ⟨A, cap, hV, hown, hrow, hcap⟩ := h.part hh
    haveI hbp : Blk w pb _ := ⟨hps⟩
    haveI hR : Row w A _ := ⟨hrow⟩
    refine x_seq ?_
    refine x_regionL ?_
    refine xl_v v_move ?_
    refine xl_call (value_ok _ _) ?_
    rintro _ _ ⟨rfl, rfl⟩
    refine xl_v v_not ?_
    refine xl_v v_assign ?_
    refine xl_nil ?_
    refine x_condE (fun c3 => ?_) (fun c3 => ?_)
    ·
      have hn : M.putNo part v = 2 := by
        have : valB v = false := by simpa using c3
        simp [Mach.putNo, hh, this]
      refine x_seq ?_
      refine x_regionL ?_
      refine xl_v v_assign ?_
      refine xl_nil ?_
      refine x_ret ?_
      refine fin1 rfl ?_
      exact ⟨by rw [hn], stay _ kpc (by omega)⟩
    ·
      have hv : valB v = true := by simpa using c3
      refine x_seq ?_
      refine x_regionL ?_
      refine xl_v v_move ?_
      refine xl_v (by first | exact v_nilCheckP | exact v_nilCheckF | exact v_nilCheckR (by first | assumption | rfl)) ?_
      refine xl_v (by first | exact v_fieldAddr | exact v_fieldAddrF (by decide) (by omega) | exact v_fieldAddrR (by first | assumption | rfl)) ?_
      refine xl_v (by first | exact v_fieldAddr | exact v_fieldAddrF (by decide) (by omega) | exact v_fieldAddrR (by first | assumption | rfl)) ?_
      refine xl_v (by first | exact v_load | exact v_loadO (by omega) | exact v_loadFf (by omega) | exact v_loadF0 (by omega)) ?_
      refine xl_v v_move ?_
      refine xl_v (v_indexAddr part.toNat hp0 hp1 rfl) ?_
      refine xl_v (v_loadR (by have := get_app (m := sp) hV; simpa using this)) ?_
      refine xl_v v_len ?_
      refine xl_v v_geq ?_
      refine xl_v v_assign ?_
      refine xl_nil ?_
      first | refine x_condP (fun c4 => ?_) (fun c4 => ?_) | refine x_condN (fun c4 => ?_) (fun c4 => ?_) | refine x_condE (fun c4 => ?_) (fun c4 => ?_)
      ·
        have hn : M.putNo part v = 3 := by
          have : 4096 ≤ (M.part part).length := by omega
          simp [Mach.putNo, hh, hv, this]
        refine x_seq ?_
        refine x_regionL ?_
        refine xl_v v_assign ?_
        refine xl_nil ?_
        refine x_ret ?_
        refine fin1 rfl ?_
        exact ⟨by rw [hn], stay _ kpc (by omega)⟩
      ·
        have hl : (M.part part).length < 4096 := by omega
        have hn : M.putNo part v = 0 := by
          have : ¬ 4096 ≤ (M.part part).length := by omega
          simp [Mach.putNo, hh, hv, this]
        have hvl : vs.length = M.parts.length := by simpa using h.hs.len
        have hVF : ∀ k, OwnB (.slice A (M.part part).length cap) k → SlsF vs k := fun k e => ⟨_, List.mem_of_getElem? hV, e.symm⟩
        haveI nb : NotS (OwnB (.slice A (M.part part).length cap)) b := ⟨fun e => h.f1 (hVF _ e)⟩
        haveI np : NotS (OwnB (.slice A (M.part part).length cap)) pb := ⟨fun e => h.f2 (hVF _ e)⟩
        refine x_skip ?_
        refine x_seq ?_
        refine x_drawL (OwnB (.slice A (M.part part).length cap)) (allS) (.take 0 (.take 1 (.take 2 (.take 3 (.take 4 (.take 5 (.take 6 (.take 7 (.take 8 (.take 9 (.take 10 (.take 11 (.take 12 (.take 13 (.take 14 (.take 15 (.eff 16 (.eff 17 (.take 18 (.last 19)))))))))))))))))))) mixed (by kernel_rfl) (fun _ _ _ _ _ h => h) (fun w4 l4 => ?_)
        refine xt_v rfl v_move ?_
        refine xt_v rfl (by first | exact v_nilCheckP | exact v_nilCheckF | exact v_nilCheckR (by first | assumption | rfl)) ?_
        refine xt_v rfl (by first | exact v_fieldAddr | exact v_fieldAddrF (by decide) (by omega) | exact v_fieldAddrR (by first | assumption | rfl)) ?_
        refine xt_v rfl (by first | exact v_fieldAddr | exact v_fieldAddrF (by decide) (by omega) | exact v_fieldAddrR (by first | assumption | rfl)) ?_
        refine xt_v rfl (by first | exact v_load | exact v_loadO (by omega) | exact v_loadFf (by omega) | exact v_loadF0 (by omega)) ?_
        refine xt_v rfl v_move ?_
        refine xt_v rfl v_move ?_
        refine xt_v rfl (by first | exact v_nilCheckP | exact v_nilCheckF | exact v_nilCheckR (by first | assumption | rfl)) ?_
        refine xt_v rfl (by first | exact v_fieldAddr | exact v_fieldAddrF (by decide) (by omega) | exact v_fieldAddrR (by first | assumption | rfl)) ?_
        refine xt_v rfl (by first | exact v_fieldAddr | exact v_fieldAddrF (by decide) (by omega) | exact v_fieldAddrR (by first | assumption | rfl)) ?_
        refine xt_v rfl (by first | exact v_load | exact v_loadO (by omega) | exact v_loadFf (by omega) | exact v_loadF0 (by omega)) ?_
        refine xt_v rfl v_move ?_
        refine xt_v rfl (v_indexAddr part.toNat hp0 hp1 rfl) ?_
        refine xt_v rfl (v_loadR (by have := get_app (m := sp) hV; simpa using this)) ?_
        refine xt_v rfl v_move ?_
        refine xt_v rfl v_build ?_
        refine xt_e rfl (e_buildSlice1 rfl fun b16 w5 n16 l16 k16 => ?_)
        have hge0 : w.heap.size ≤ w5.heap.size := Ge.le
        refine xt_e rfl (e_append' (own_ext hown lkc) (Nat.zero_le _) rfl Cell1L.eq (by decide) (.inl rfl) (by omega) (by omega) fun A17 c17 w6 ho17 l17 hn17 => ?_)
        refine xt_v rfl (v_indexAddr part.toNat hp0 hp1 rfl) ?_
        refine xt_lastS rfl (e_storeB (by simp; omega) fun w7 l19 k19 => ?_)
        refine x_seq ?_
        refine x_regionL ?_
        refine xl_v v_assign ?_
        refine xl_nil ?_
        refine x_ret ?_
        refine fin1 rfl ?_
        have hlp := h.lt pb (.inr (.inl rfl))
        haveI s1 : SubF (OwnB (.slice A (M.part part).length cap)) (fun j => OwnB (.slice A (M.part part).length cap) j ∨ OneB pb j) w := ⟨fun _ _ h => .inl h⟩
        haveI s2 : SubF (OneB pb) (fun j => OwnB (.slice A (M.part part).length cap) j ∨ OneB pb j) w := ⟨fun _ _ h => .inr h⟩
        have hk : Keep (fun j => OwnB (.slice A (M.part part).length cap) j ∨ OneB pb j) w w7 := kpc
        have hn2 : (Value.slice A17 ((M.part part).length + 1) c17).ownBlock = (Value.slice A (M.part part).length cap).ownBlock ∨ ∃ j, (Value.slice A17 ((M.part part).length + 1) c17).ownBlock = some j ∧ w.heap.size ≤ j := hn17.imp id (fun e => ⟨_, e, hge0⟩)
        have ho2 := own_keep ho17 l19.keep (fun k hob e => by
          have e2 : k = pb := e
          rcases hn2 with h2 | ⟨j, h2, hj⟩
          · exact h.f2 (e2 ▸ hVF k (h2.symm.trans hob).symm)
          · rw [h2] at hob
            cases hob
            omega)
        have hg := h.grow hV (xs' := M.part part ++ [⟨v, -1, -1⟩]) (by simpa [itemsC_append, itemsC] using ho2) hk hbs (by simpa using k19.eq) hn2
        refine ⟨by rw [hn], ⟨hk.mono (fun k _ e => e.elim (fun e => .inr (.inr (.inr (hVF _ e)))) (fun e => .inr (.inl e)))⟩, _, ?_, hg.2⟩
        rw [Mach.putM, if_pos hn]
        exact hg.1
end Go.Proofs.Ytbihphclmdokeaa
