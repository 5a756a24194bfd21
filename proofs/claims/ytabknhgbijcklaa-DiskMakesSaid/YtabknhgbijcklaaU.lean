/-
  Walks, printed by a program of this workplace (wip/tools/sx.py) off the functions' code and a text of contracts.
-/
import Derived.Test.YtabknhgbijcklaaT
set_option linter.all false
set_option maxRecDepth 100000
set_option synthInstance.maxSize 100000
set_option synthInstance.maxHeartbeats 400000
namespace Go.Proofs.Ytabknhgbijcklaa
open Go.Wst
open Go.Wst.Dm
theorem row_read {l : List (ByteArray × LB)} {L : Fs} (hr : Rise L) (hn : ∀ f ∈ L, nameOk f.1 = true) (e : fsP l = L) {k : Nat} (hk : k < l.length) : readNo L l[k].1 = 0 ∧ readB L l[k].1 = l[k].2.bytes := by
  have hm : (l[k].1, l[k].2.bytes) ∈ L := by rw [← e]; exact List.mem_map.2 ⟨l[k], List.getElem_mem hk, rfl⟩
  have h1 := hn _ hm
  have h2 : akey L l[k].1 = some l[k].2.bytes := (akey_mem hr.nodup).2 hm
  unfold readNo readB
  rw [h1, h2]
  exact ⟨rfl, rfl⟩

/-- waystation/waystationlaw03.lasting -/
theorem lasting2_ok (P R : Nat → Prop) (d : Nat) (M : Disk) (A : Option Addr) (c : Nat) (l : List (ByteArray × LB)) (F : Nat → Prop) (w : World) (h : DiskW P R d M w) (hl : FsRow w F A l) (hf : fsP l = M.lasts) : Ret Try.prog 56 #[.pointer (some ⟨d, 0, none⟩), .slice A l.length c] w (fun v w' => v = .bool true ∧ Lk w' w NoB) := by
  haveI hrA : RowB w A w (l.flatMap fileC) := rowB_of hl.row.row
  obtain ⟨hok0, hfew0⟩ := h.ok
  have hll : l.length ≤ 10000 := by rw [← fsP_len, hf]; omega
  have hfl := files_len hfew0
  refine ret_of_x (N := 80) (l := [.pointer (some ⟨d, 0, none⟩), .slice A l.length c]) Try.func56 rfl rfl (Nat.le_of_ble_eq_true rfl) ?_
  refine x_seq ?_
  refine x_regionL ?_
  refine xl_v v_assign ?_
  refine xl_nil ?_
  refine x_seq ?_
  refine x_seq ?_
  refine x_regionL ?_
  refine xl_v v_assign ?_
  refine xl_nil ?_
  refine x_block ?_
  refine x_loop (fun m τ ds w' => ds = [] ∧ ∃ k : Nat, m = l.length - k ∧ k ≤ l.length ∧ Ev τ 0 (.pointer (some ⟨d, 0, none⟩)) ∧ Ev τ 1 (.slice A l.length c) ∧ Ev τ 5 (.int .i64 (k : Int)) ∧ Lk w' w NoB) (l.length) ?start ?round
  case start =>
    exact ⟨rfl, 0, rfl, by omega, inferInstance, inferInstance, evc, lkc⟩
  case round =>
    intro m τ1 ds1 w1 hI
    obtain ⟨rfl, k, rfl, hk, e0, e1, e5, lk⟩ := hI
    refine x_seq ?_
    refine x_seq ?_
    refine x_regionL ?_
    refine xl_v v_move ?_
    refine xl_v v_move ?_
    refine xl_v v_len ?_
    refine xl_v v_lss ?_
    refine xl_nil ?_
    first | refine x_condP (fun c1 => ?_) (fun c1 => ?_) | refine x_condN (fun c1 => ?_) (fun c1 => ?_) | refine x_condE (fun c1 => ?_) (fun c1 => ?_)
    ·
      have hk1 : k < l.length := by omega
      obtain ⟨hrn, hrb⟩ := row_read hok0.rise hok0.names hf hk1
      haveI : Row w1 l[k].2.A (bytesC l[k].2.bytes) := ⟨((hl.items _ (List.getElem_mem hk1)).keep (kpc : Keep NoB w w1) (fun _ _ h => h)).row⟩
      refine x_skip ?_
      refine x_seq ?_
      refine x_block ?_
      refine x_seq ?_
      refine x_regionL ?_
      refine xl_v v_move ?_
      refine xl_v v_move ?_
      refine xl_v v_move ?_
      refine xl_v (v_indexF k (by decide) rfl (by omega) hk1) ?_
      refine xl_v (by first | exact v_fieldAddr | exact v_fieldAddrF (by decide) (by omega) | exact v_fieldAddrR (by first | assumption | rfl)) ?_
      refine xl_v (v_loadF0 hk1) ?_
      refine xl_call (lasts_ok P R d M l[k].1 w1 (h.ext (kpc : Keep NoB w w1))) ?_
      rintro _ w2 ⟨⟨A9, c9, rfl, ho9⟩, lk9⟩
      rw [hrb] at ho9 ⊢
      rw [hrn]
      haveI : NewA A9 w1 := newA_of ho9 (Nat.le_refl _)
      haveI : OwnI w2 A9 _ _ _ _ _ _ _ := ⟨ho9⟩
      refine xl_v v_move ?_
      refine xl_v v_extract ?_
      refine xl_v v_extract ?_
      refine xl_v v_assign ?_
      refine xl_v v_assign ?_
      refine xl_nil ?_
      refine x_seq ?_
      refine x_drawL (NoB) (.take 0 (.eff 1 (.take 2 (.take 3 (.take 4 (.take 5 (.take 6 (.take 7 (.take 8 (.take 9 (.take 10 (.take 11 (.take 12 (.take 13 .done)))))))))))))) mixed (by kernel_rfl) (fun _ _ _ _ _ h => h) (fun w3 l3 => ?_)
      refine xt_v rfl v_move ?_
      refine xt_call rfl (num_ok _ _) ?_
      rintro _ _ ⟨rfl, rfl⟩
      refine ⟨kpc, ?_⟩
      refine xt_v rfl (v_congr (u := .bool false) v_neq (by simp)) ?_
      refine xt_v rfl v_move ?_
      refine xt_gv rfl rfl EvO.eq v_move ?_
      refine xt_gv rfl rfl EvO.eq (v_bytesStr (xs := l[k].2.bytes) rfl) ?_
      refine xt_gv rfl rfl EvO.eq v_move ?_
      refine xt_gv rfl rfl EvO.eq v_move ?_
      refine xt_gv rfl rfl EvO.eq (v_indexF k (by decide) rfl (by omega) hk1) ?_
      refine xt_gv rfl rfl EvO.eq (by first | exact v_fieldAddr | exact v_fieldAddrF (by decide) (by omega) | exact v_fieldAddrR (by first | assumption | rfl)) ?_
      refine xt_gv rfl rfl EvO.eq (v_loadFf hk1) ?_
      refine xt_gv rfl rfl EvO.eq (v_bytesStr (xs := l[k].2.bytes) rfl) ?_
      refine xt_gv rfl rfl EvO.eq (v_congr (u := .bool false) v_sneq (by simp)) ?_
      refine xt_v rfl (by first | exact v_pickT | exact v_pickF | exact v_pick) ?_
      refine xt_nil ?_
      refine x_condF ?_
      refine x_skip ?_
      refine x_regionL ?_
      refine xl_v v_move ?_
      refine xl_v (v_add (by omega)) ?_
      refine xl_v v_assign ?_
      refine xl_nil ?_
      refine ⟨_, ?_, rfl, k + 1, rfl, by omega, inferInstance, inferInstance, evc, lkc⟩
      omega
    ·
      refine x_exit ?_
      refine x_seq ?_
      refine x_regionL ?_
      refine xl_v v_move ?_
      refine xl_call (names_ok P R d M w1 (h.ext (kpc : Keep NoB w w1))) ?_
      rintro _ w5 ⟨⟨A8, c8, rfl, ho8⟩, lk8⟩
      refine xl_v v_assign ?_
      refine xl_nil ?_
      refine x_seq ?_
      refine x_seq ?_
      refine x_regionL ?_
      refine xl_v v_assign ?_
      refine xl_nil ?_
      refine x_block ?_
      have ho8' := own_ext ho8 (lkc : Lk w5 _ NoB)
      haveI hr8 : Row w5 A8 (strs (M.files.map (·.1))) := ⟨(FRow.of_own ho8').row⟩
      refine x_loop (fun m τ ds w' => ds = [] ∧ ∃ k : Nat, m = M.files.length - k ∧ k ≤ M.files.length ∧ Ev τ 0 (.pointer (some ⟨d, 0, none⟩)) ∧ Ev τ 1 (.slice A l.length c) ∧ Ev τ 8 (.slice A8 M.files.length c8) ∧ Ev τ 9 (.int .i64 (k : Int)) ∧ Lk w' w5 NoB) (M.files.length) ?start ?round
      case start =>
        exact ⟨rfl, 0, rfl, by omega, inferInstance, inferInstance, inferInstance, evc, lkc⟩
      case round =>
        intro m τ6 ds6 w6 hI
        obtain ⟨rfl, k, rfl, hk, e0, e1, e8, e9, lk⟩ := hI
        haveI hr8w : Row w6 A8 (strs (M.files.map (·.1))) := ⟨hr8.row.keep lk.keep (fun _ _ h => h)⟩
        refine x_seq ?_
        refine x_seq ?_
        refine x_regionL ?_
        refine xl_v v_move ?_
        refine xl_v v_move ?_
        refine xl_v v_len ?_
        refine xl_v v_lss ?_
        refine xl_nil ?_
        first | refine x_condP (fun c3 => ?_) (fun c3 => ?_) | refine x_condN (fun c3 => ?_) (fun c3 => ?_) | refine x_condE (fun c3 => ?_) (fun c3 => ?_)
        ·
          have hk1 : k < M.files.length := by omega
          obtain ⟨nm, hnm⟩ : ∃ nm, nm = M.files[k].1 := ⟨_, rfl⟩
          have hnn : nameOk nm = true := by rw [hnm]; exact hok0.files.2.2 _ (List.getElem_mem hk1)
          have hno : (readNo M.lasts nm = 0 ∧ akey M.lasts nm ≠ none) ∨ (readNo M.lasts nm = 5 ∧ akey M.lasts nm = none) := by
            unfold readNo
            rw [if_neg (by simp [hnn])]
            by_cases h5 : akey M.lasts nm = none
            · rw [if_pos h5]; exact .inr ⟨rfl, h5⟩
            · rw [if_neg h5]; exact .inl ⟨rfl, h5⟩
          refine x_skip ?_
          refine x_seq ?_
          refine x_block ?_
          refine x_seq ?_
          refine x_regionL ?_
          refine xl_v v_move ?_
          refine xl_v v_move ?_
          refine xl_v v_move ?_
          refine xl_v (v_indexAddr k rfl (by omega) (row_some hr8w (by simp [strs]; omega))) ?_
          refine xl_v (v_loadR (v := .string nm) (by rw [Nat.mul_one]; simp [hk1, hnm])) ?_
          refine xl_call (lasts_ok P R d M nm w6 (h.ext (kpc : Keep NoB w w6))) ?_
          rintro _ w7 ⟨⟨A9, c9, rfl, ho9⟩, lk9⟩
          refine xl_v v_move ?_
          refine xl_v v_extract ?_
          refine xl_v v_extract ?_
          refine xl_v v_assign ?_
          refine xl_v v_assign ?_
          refine xl_nil ?_
          refine x_seq ?_
          refine x_drawL (NoB) (.take 0 (.take 3 (.take 4 (.take 5 (.take 6 (.take 7 (.eff 1 (.take 2 (.eff 8 (.take 9 (.take 10 (.take 11 (.take 12 (.eff 13 (.take 14 (.take 15 (.take 16 (.eff 17 (.take 18 (.take 19 (.take 20 .done))))))))))))))))))))) mixed (by kernel_rfl) (fun _ _ _ _ _ h => h) (fun w8 l8 => ?_)
          refine xt_v rfl v_move ?_
          refine xt_v rfl v_move ?_
          refine xt_v rfl v_move ?_
          refine xt_v rfl v_move ?_
          refine xt_v rfl (v_indexAddr k rfl (by omega) (row_some hr8w (by simp [strs]; omega))) ?_
          refine xt_v rfl (v_loadR (v := .string nm) (by rw [Nat.mul_one]; simp [hk1, hnm])) ?_
          refine xt_call rfl (num_ok _ _) ?_
          rintro _ _ ⟨rfl, rfl⟩
          refine ⟨kpc, ?_⟩
          refine xt_v rfl v_eql ?_
          refine xt_call rfl (find_ok A c l F nm w8 (hl.ext (kpc : Keep NoB w w8)) (by omega)) ?_
          rintro _ w10 ⟨⟨fi, rfl, hfi⟩, lk10⟩
          refine ⟨kpc, ?_⟩
          rw [hf] at hfi
          have hiff : readNo M.lasts nm = 0 ↔ 0 ≤ fi := by
            rcases hfi with ⟨e, h2⟩ | ⟨k2, hk2, e, _, h2⟩
            · rcases hno with ⟨h3, h4⟩ | ⟨h3, h4⟩
              · exact absurd h2 h4
              · omega
            · rcases hno with ⟨h3, h4⟩ | ⟨h3, h4⟩
              · omega
              · rw [h4] at h2; cases h2
          refine xt_v rfl v_geq ?_
          refine xt_v rfl (v_congr (u := .bool false) v_bneq (by simp [hiff])) ?_
          refine xt_v rfl v_move ?_
          refine xt_gv rfl rfl EvO.eq v_move ?_
          refine xt_gcall rfl rfl EvO.eq (num_ok _ _) ?_
          rintro _ _ ⟨rfl, rfl⟩
          refine ⟨kpc, ?_⟩
          refine xt_gv rfl rfl EvO.eq v_neq ?_
          refine xt_gv rfl rfl EvO.eq v_move ?_
          refine xt_split 74 (fun g74 => ?_) (fun g74 => ?_)
          ·
            have hno5 : readNo M.lasts nm = 5 := by
              rcases hno with h3 | h3
              · exact absurd h3.1 (by simpa using g74)
              · exact h3.1
            refine xt_gv rfl rfl EvO.eq v_move ?_
            refine xt_gcall rfl rfl EvO.eq (num_ok _ _) ?_
            rintro _ _ ⟨rfl, rfl⟩
            refine ⟨kpc, ?_⟩
            refine xt_gv rfl rfl EvO.eq (v_congr (u := .bool false) v_neq (by simp [hno5])) ?_
            refine xt_gv rfl rfl EvO.eq (by first | exact v_pickT | exact v_pickF | exact v_pick) ?_
            refine xt_v rfl (by first | exact v_pickT | exact v_pickF | exact v_pick) ?_
            refine xt_nil ?_
            refine x_condF ?_
            refine x_skip ?_
            refine x_regionL ?_
            refine xl_v v_move ?_
            refine xl_v (v_add (by omega)) ?_
            refine xl_v v_assign ?_
            refine xl_nil ?_
            refine ⟨_, ?_, rfl, k + 1, rfl, by omega, inferInstance, inferInstance, inferInstance, evc, lkc⟩
            omega
          ·
            refine xt_gs rfl rfl EvO.eq ?_
            refine xt_gse rfl rfl EvO.eq ?_
            refine xt_gs rfl rfl EvO.eq ?_
            refine xt_gv rfl rfl EvO.eq (by first | exact v_pickT | exact v_pickF | exact v_pick) ?_
            refine xt_v rfl (by first | exact v_pickT | exact v_pickF | exact v_pick) ?_
            refine xt_nil ?_
            refine x_condF ?_
            refine x_skip ?_
            refine x_regionL ?_
            refine xl_v v_move ?_
            refine xl_v (v_add (by omega)) ?_
            refine xl_v v_assign ?_
            refine xl_nil ?_
            refine ⟨_, ?_, rfl, k + 1, rfl, by omega, inferInstance, inferInstance, inferInstance, evc, lkc⟩
            omega
        ·
          refine x_exit ?_
          refine x_seq ?_
          refine x_regionL ?_
          refine xl_v v_assign ?_
          refine xl_nil ?_
          refine x_ret ?_
          refine fin1 rfl ?_
          exact ⟨rfl, lkc⟩

/-- waystation/waystationlaw03.is -/
theorem is_ok (P R : Nat → Prop) (d : Nat) (M : Disk) (Rf : LRef) (F : Nat → Prop) (w : World) (h : DiskW P R d M w) (hR : RefAt w F Rf) (hs : RefS Rf M) : Ret Try.prog 33 #[.pointer (some ⟨d, 0, none⟩), .agg (refC Rf).toArray] w (fun v w' => v = .bool true ∧ Lk w' w NoB) := by
  haveI hrB : RowB w Rf.B w (Rf.waits.flatMap thC) := rowB_of hR.row.row
  have hfl := files_len hs.few
  have hwl := hs.len
  have hmost := hs.ok.most
  have hus := hs.ok.files.2.1
  refine ret_of_x (N := 33) (l := [.pointer (some ⟨d, 0, none⟩), .agg (refC Rf).toArray]) Try.func33 rfl rfl (Nat.le_of_ble_eq_true rfl) ?_
  refine x_seq ?_
  refine x_regionL ?_
  refine xl_e (e_box fun b1 w1 n1 l1 k1 => ?_)
  refine xl_v v_assign ?_
  refine xl_nil ?_
  refine x_seq ?_
  refine x_regionL ?_
  refine xl_v (by first | exact v_loadA | exact v_loadF (by decide) (by omega)) ?_
  refine xl_call (reffiles_ok Rf M F w1 (hR.ext (kpc : Keep NoB w w1)) hs) ?_
  rintro _ w2 ⟨⟨A6, c6, q6, F6, rfl, hf6, hr6, hF6⟩, lk1⟩
  have hq6 : q6.length ≤ 10000 := by rw [← fsP_len, hf6]; exact hfl
  refine xl_v v_assign ?_
  refine xl_nil ?_
  refine x_seq ?_
  refine x_drawL (NoB) (.take 0 (.take 2 (.eff 1 (.eff 3 (.take 4 (.take 5 (.take 6 (.take 7 (.eff 8 (.take 9 (.take 10 (.take 11 (.take 13 (.take 14 (.take 15 (.eff 12 (.take 16 (.take 17 (.take 18 (.take 19 (.take 21 (.eff 20 (.eff 22 (.take 23 (.take 24 (.take 25 .done)))))))))))))))))))))))))) mixed (by kernel_rfl) (fun _ _ _ _ _ h => h) (fun w3 l3 => ?_)
  refine xt_v rfl v_move ?_
  refine xt_v rfl v_move ?_
  refine xt_call rfl (files_ok P R d M w3 (h.ext (kpc : Keep NoB w w3))) ?_
  rintro _ w4 ⟨⟨A9, c9, q9, F9, rfl, hf9, hr9, hF9⟩, lk2⟩
  refine ⟨kpc, ?_⟩
  have hq9 : q9.length ≤ 10000 := by rw [← fsP_len, hf9]; exact hfl
  refine xt_call rfl (sameFiles_ok A9 A6 c9 c6 q9 q6 F9 F6 w4 (hr9.ext (kpc : Keep NoB _ w4)) (hr6.ext (kpc : Keep NoB _ w4)) (by omega) (by omega)) ?_
  rintro _ w5 ⟨rfl, lk3⟩
  refine ⟨kpc, ?_⟩
  rw [decide_eq_true (show fsP q9 = fsP q6 by rw [hf9, hf6])]
  refine xt_v rfl v_move ?_
  refine xt_gv rfl rfl EvO.eq v_move ?_
  refine xt_gv rfl rfl EvO.eq (by first | exact v_fieldAddr | exact v_fieldAddrF (by decide) (by omega) | exact v_fieldAddrR (by first | assumption | rfl)) ?_
  refine xt_gv rfl rfl EvO.eq (by first | exact v_load | exact v_loadO (by omega) | exact v_loadFf (by omega) | exact v_loadF0 (by omega)) ?_
  refine xt_gcall rfl rfl EvO.eq (lasting2_ok P R d M Rf.A Rf.c Rf.lasts F w5 (h.ext (kpc : Keep NoB w w5)) (hR.lasts.ext (kpc : Keep NoB w w5)) hs.lasts) ?_
  rintro _ w6 ⟨rfl, lk4⟩
  refine ⟨kpc, ?_⟩
  refine xt_v rfl (by first | exact v_pickT | exact v_pickF | exact v_pick) ?_
  refine xt_v rfl v_move ?_
  refine xt_gv rfl rfl EvO.eq v_move ?_
  refine xt_gv rfl rfl EvO.eq (by first | exact v_fieldAddr | exact v_fieldAddrF (by decide) (by omega) | exact v_fieldAddrR (by first | assumption | rfl)) ?_
  refine xt_gv rfl rfl EvO.eq (by first | exact v_load | exact v_loadO (by omega) | exact v_loadFf (by omega) | exact v_loadF0 (by omega)) ?_
  refine xt_gv rfl rfl EvO.eq v_len ?_
  refine xt_gcall rfl rfl EvO.eq (waits_ok P R d M w6 (h.ext (kpc : Keep NoB w w6))) ?_
  rintro _ w7 ⟨rfl, lk5⟩
  refine ⟨kpc, ?_⟩
  refine xt_gv rfl rfl EvO.eq (v_congr (u := .bool true) v_eql (by simp [hwl])) ?_
  refine xt_v rfl (by first | exact v_pickT | exact v_pickF | exact v_pick) ?_
  refine xt_v rfl v_move ?_
  refine xt_gv rfl rfl EvO.eq v_move ?_
  refine xt_gv rfl rfl EvO.eq v_move ?_
  refine xt_gcall rfl rfl EvO.eq (Used_ok P R d M w7 (h.ext (kpc : Keep NoB w w7))) ?_
  rintro _ w8 ⟨rfl, lk6⟩
  refine ⟨kpc, ?_⟩
  refine xt_gcall rfl rfl EvO.eq (refused_ok A6 c6 q6 F6 w8 (hr6.ext (kpc : Keep NoB _ w8)) (by omega) (by rw [hf6]; omega)) ?_
  rintro _ w9 ⟨rfl, lk7⟩
  refine ⟨kpc, ?_⟩
  refine xt_gv rfl rfl EvO.eq (v_congr (u := .bool true) v_eql (by simp [hf6])
  ) ?_
  refine xt_v rfl (by first | exact v_pickT | exact v_pickF | exact v_pick) ?_
  refine xt_v rfl v_assign ?_
  refine xt_nil ?_
  refine x_ret ?_
  refine fin1 rfl ?_
  exact ⟨rfl, lkc⟩
end Go.Proofs.Ytabknhgbijcklaa
