/-
  Walks, printed by a program of this workplace (wip/tools/sx.py) off the functions' code and a text of contracts.
-/
import Derived.Test.YtabknhgbijcklaaAC
set_option linter.all false
set_option maxRecDepth 100000
set_option synthInstance.maxSize 100000
set_option synthInstance.maxHeartbeats 400000
namespace Go.Proofs.Ytabknhgbijcklaa
open Go.Wst
open Go.Wst.Dm

/-- waystation/waystationref03.Same -/
theorem refsame_ok (R1 R2 : LRef) (M1 M2 : Disk) (F1 F2 : Nat → Prop) (w : World) (h1 : RefAt w F1 R1) (h2 : RefAt w F2 R2) (s1 : RefS R1 M1) (s2 : RefS R2 M2) : Ret Try.prog 38 #[.agg (refC R1).toArray, .agg (refC R2).toArray] w (fun v w' => (∃ r, v = .bool r ∧ (M1 = M2 → r = true) ∧ (M1.waits.length ≠ M2.waits.length → r = false)) ∧ Lk w' w NoB) := by
  haveI hrB1 : RowB w R1.B w (R1.waits.flatMap thC) := rowB_of h1.row.row
  haveI hrB2 : RowB w R2.B w (R2.waits.flatMap thC) := rowB_of h2.row.row
  haveI : OldA w R1.B := h1.row.old h1.lt
  haveI : OldA w R2.B := h2.row.old h2.lt
  have hl1 := s1.len
  have hl2 := s2.len
  have hf1 := s1.few
  have hf2 := s2.few
  have hll1 := s1.llen
  have hll2 := s2.llen
  have f1 : M1 = M2 → R1.room = R2.room := fun e => by rw [s1.room, s2.room, e]
  have f2 : M1 = M2 → fsP R1.lasts = fsP R2.lasts := fun e => by rw [s1.lasts, s2.lasts, e]
  have f3 : M1 = M2 → R1.waits.map (·.t) = R2.waits.map (·.t) := fun e => by rw [s1.waits, s2.waits, e]
  have f4 : M1 = M2 → R1.waits.length = R2.waits.length := fun e => by rw [hl1, hl2, e]
  refine ret_of_x (N := 75) (l := [.agg (refC R1).toArray, .agg (refC R2).toArray]) Try.func38 rfl rfl (Nat.le_of_ble_eq_true rfl) ?_
  refine x_seq ?_
  refine x_regionL ?_
  refine xl_e (e_box fun b1 w1 n1 l1 k1 => ?_)
  refine xl_e (e_box fun b2 w2 n2 l2 k2 => ?_)
  refine xl_v v_assign ?_
  refine xl_nil ?_
  refine x_seq ?_
  refine x_seq ?_
  refine x_regionL ?_
  refine xl_v (by first | exact v_fieldAddr | exact v_fieldAddrF (by decide) (by omega) | exact v_fieldAddrR (by first | assumption | rfl)) ?_
  refine xl_v (by first | exact v_load | exact v_loadO (by omega) | exact v_loadFf (by omega) | exact v_loadF0 (by omega)) ?_
  refine xl_v (by first | exact v_fieldAddr | exact v_fieldAddrF (by decide) (by omega) | exact v_fieldAddrR (by first | assumption | rfl)) ?_
  refine xl_v (by first | exact v_load | exact v_loadO (by omega) | exact v_loadFf (by omega) | exact v_loadF0 (by omega)) ?_
  refine xl_v v_neq ?_
  refine xl_v v_move ?_
  refine xl_split 13 (fun g13 => ?_) (fun g13 => ?_)
  ·
    refine xl_gs rfl EvO.eq ?_
    refine xl_gs rfl EvO.eq ?_
    refine xl_gs rfl EvO.eq ?_
    refine xl_gs rfl EvO.eq ?_
    refine xl_gs rfl EvO.eq ?_
    refine xl_gs rfl EvO.eq ?_
    refine xl_v (by first | exact v_pickT | exact v_pickF | exact v_pick) ?_
    refine xl_v v_move ?_
    refine xl_gs rfl EvO.eq ?_
    refine xl_gs rfl EvO.eq ?_
    refine xl_gs rfl EvO.eq ?_
    refine xl_gs rfl EvO.eq ?_
    refine xl_gs rfl EvO.eq ?_
    refine xl_gs rfl EvO.eq ?_
    refine xl_gs rfl EvO.eq ?_
    refine xl_v (by first | exact v_pickT | exact v_pickF | exact v_pick) ?_
    refine xl_nil ?_
    refine x_condT ?_
    refine x_seq ?_
    refine x_regionL ?_
    refine xl_v v_assign ?_
    refine xl_nil ?_
    refine x_ret ?_
    refine fin1 rfl ?_
    refine ⟨⟨_, rfl, fun e => ?_, fun _ => rfl⟩, lkc⟩
    exfalso
    have e1 := f1 e
    have e2 := f2 e
    have e4 := f4 e
    first
      | (simp [e1] at g13; done)
      | (simp [e2] at g21; done)
      | (simp at c1; omega)
      | omega
  ·
    refine xl_gv rfl EvO.eq (by first | exact v_fieldAddr | exact v_fieldAddrF (by decide) (by omega) | exact v_fieldAddrR (by first | assumption | rfl)) ?_
    refine xl_gv rfl EvO.eq (by first | exact v_load | exact v_loadO (by omega) | exact v_loadFf (by omega) | exact v_loadF0 (by omega)) ?_
    refine xl_gv rfl EvO.eq (by first | exact v_fieldAddr | exact v_fieldAddrF (by decide) (by omega) | exact v_fieldAddrR (by first | assumption | rfl)) ?_
    refine xl_gv rfl EvO.eq (by first | exact v_load | exact v_loadO (by omega) | exact v_loadFf (by omega) | exact v_loadF0 (by omega)) ?_
    refine xl_gcall rfl EvO.eq (sameFiles_ok R1.A R2.A R1.c R2.c R1.lasts R2.lasts F1 F2 w2 (h1.lasts.ext (kpc : Keep NoB w w2)) (h2.lasts.ext (kpc : Keep NoB w w2)) (by omega) (by omega)) ?_
    rintro _ w3 ⟨rfl, lk1⟩
    refine xl_gv rfl EvO.eq v_not ?_
    refine xl_v (by first | exact v_pickT | exact v_pickF | exact v_pick) ?_
    refine xl_v v_move ?_
    refine xl_split 21 (fun g21 => ?_) (fun g21 => ?_)
    ·
      refine xl_gs rfl EvO.eq ?_
      refine xl_gs rfl EvO.eq ?_
      refine xl_gs rfl EvO.eq ?_
      refine xl_gs rfl EvO.eq ?_
      refine xl_gs rfl EvO.eq ?_
      refine xl_gs rfl EvO.eq ?_
      refine xl_gs rfl EvO.eq ?_
      refine xl_v (by first | exact v_pickT | exact v_pickF | exact v_pick) ?_
      refine xl_nil ?_
      refine x_condT ?_
      refine x_seq ?_
      refine x_regionL ?_
      refine xl_v v_assign ?_
      refine xl_nil ?_
      refine x_ret ?_
      refine fin1 rfl ?_
      refine ⟨⟨_, rfl, fun e => ?_, fun _ => rfl⟩, lkc⟩
      exfalso
      have e1 := f1 e
      have e2 := f2 e
      have e4 := f4 e
      first
        | (simp [e1] at g13; done)
        | (simp [e2] at g21; done)
        | (simp at c1; omega)
        | omega
    ·
      refine xl_gv rfl EvO.eq (by first | exact v_fieldAddr | exact v_fieldAddrF (by decide) (by omega) | exact v_fieldAddrR (by first | assumption | rfl)) ?_
      refine xl_gv rfl EvO.eq (by first | exact v_load | exact v_loadO (by omega) | exact v_loadFf (by omega) | exact v_loadF0 (by omega)) ?_
      refine xl_gv rfl EvO.eq v_len ?_
      refine xl_gv rfl EvO.eq (by first | exact v_fieldAddr | exact v_fieldAddrF (by decide) (by omega) | exact v_fieldAddrR (by first | assumption | rfl)) ?_
      refine xl_gv rfl EvO.eq (by first | exact v_load | exact v_loadO (by omega) | exact v_loadFf (by omega) | exact v_loadF0 (by omega)) ?_
      refine xl_gv rfl EvO.eq v_len ?_
      refine xl_gv rfl EvO.eq v_neq ?_
      refine xl_v (by first | exact v_pickT | exact v_pickF | exact v_pick) ?_
      refine xl_nil ?_
      first | refine x_condP (fun c1 => ?_) (fun c1 => ?_) | refine x_condN (fun c1 => ?_) (fun c1 => ?_) | refine x_condE (fun c1 => ?_) (fun c1 => ?_)
      ·
        refine x_seq ?_
        refine x_regionL ?_
        refine xl_v v_assign ?_
        refine xl_nil ?_
        refine x_ret ?_
        refine fin1 rfl ?_
        refine ⟨⟨_, rfl, fun e => ?_, fun _ => rfl⟩, lkc⟩
        exfalso
        have e1 := f1 e
        have e2 := f2 e
        have e4 := f4 e
        first
          | (simp [e1] at g13; done)
          | (simp [e2] at g21; done)
          | (simp at c1; omega)
          | omega
      ·
        refine x_skip ?_
        refine x_seq ?_
        refine x_seq ?_
        refine x_regionL ?_
        refine xl_v v_assign ?_
        refine xl_nil ?_
        refine x_block ?_
        have hwl : R1.waits.length = R2.waits.length := by
          first
            | omega
            | (simp at c1; omega)
        refine x_loop (fun m τ ds w' => ds = [] ∧ ∃ k : Nat, m = R1.waits.length - k ∧ k ≤ R1.waits.length ∧ Ev τ 2 (.pointer (some ⟨b1, 0, none⟩)) ∧ Ev τ 3 (.pointer (some ⟨b2, 0, none⟩)) ∧ Ev τ 5 (.int .i64 (k : Int)) ∧ Lk w' w3 NoB) (R1.waits.length) ?start ?round
        case start =>
          exact ⟨rfl, 0, rfl, by omega, inferInstance, inferInstance, evc, lkc⟩
        case round =>
          intro m τ4 ds4 w4 hI
          obtain ⟨rfl, k, rfl, hk, e2, e3, e5, lk⟩ := hI
          refine x_seq ?_
          refine x_seq ?_
          refine x_regionL ?_
          refine xl_v v_move ?_
          refine xl_v (by first | exact v_fieldAddr | exact v_fieldAddrF (by decide) (by omega) | exact v_fieldAddrR (by first | assumption | rfl)) ?_
          refine xl_v (by first | exact v_load | exact v_loadO (by omega) | exact v_loadFf (by omega) | exact v_loadF0 (by omega)) ?_
          refine xl_v v_len ?_
          refine xl_v v_lss ?_
          refine xl_nil ?_
          first | refine x_condP (fun c2 => ?_) (fun c2 => ?_) | refine x_condN (fun c2 => ?_) (fun c2 => ?_) | refine x_condE (fun c2 => ?_) (fun c2 => ?_)
          ·
            have hk1 : k < R1.waits.length := by omega
            have hk2 : k < R2.waits.length := by omega
            haveI : RowB w R1.waits[k].A w (bytesC R1.waits[k].t.bytes) := rowB_of (h1.items _ (List.getElem_mem hk1)).row
            haveI : RowB w R2.waits[k].A w (bytesC R2.waits[k].t.bytes) := rowB_of (h2.items _ (List.getElem_mem hk2)).row
            refine x_skip ?_
            refine x_seq ?_
            refine x_block ?_
            refine x_seq ?_
            refine x_drawL (NewS w4) (.take 0 (.take 1 (.take 2 (.take 3 (.take 4 (.take 5 (.take 6 (.take 7 (.take 8 (.take 9 (.fork 10 (.eff 11 (.eff 12 (.last 13))) 11 (.eff 10 (.eff 12 (.last 13)))))))))))))) mixed (by kernel_rfl) (fun _ _ _ _ _ h => h) (fun w5 l5 => ?_)
            refine xt_v rfl (by first | exact v_fieldAddr | exact v_fieldAddrF (by decide) (by omega) | exact v_fieldAddrR (by first | assumption | rfl)) ?_
            refine xt_v rfl (by first | exact v_load | exact v_loadO (by omega) | exact v_loadFf (by omega) | exact v_loadF0 (by omega)) ?_
            refine xt_v rfl v_move ?_
            refine xt_v rfl (v_indexF k (by decide) rfl (by omega) hk1) ?_
            refine xt_v rfl (by first | exact v_loadA | exact v_loadF (by decide) (by omega)) ?_
            refine xt_v rfl (by first | exact v_fieldAddr | exact v_fieldAddrF (by decide) (by omega) | exact v_fieldAddrR (by first | assumption | rfl)) ?_
            refine xt_v rfl (by first | exact v_load | exact v_loadO (by omega) | exact v_loadFf (by omega) | exact v_loadF0 (by omega)) ?_
            refine xt_v rfl v_move ?_
            refine xt_v rfl (v_indexF k (by decide) rfl (by omega) hk2) ?_
            refine xt_v rfl (by first | exact v_loadA | exact v_loadF (by decide) (by omega)) ?_
            refine xt_fork ?_ ?_
            ·
              refine xt_e rfl (e_alloc fun b6 w6 n6 l6 k6 => ?_)
              refine xt_e rfl (e_alloc fun b7 w7 n7 l7 k7 => ?_)
              refine xt_s rfl (e_storeA fun w8 l8 k8 => ?_)
              refine xt_lastS rfl (e_storeA fun w9 l9 k9 => ?_)
              refine x_seq ?_
              refine x_regionL ?_
              refine xl_v (by first | exact v_fieldAddr | exact v_fieldAddrF (by decide) (by omega) | exact v_fieldAddrR (by first | assumption | rfl)) ?_
              refine xl_v (by first | exact v_load | exact v_loadO (by omega) | exact v_loadFf (by omega) | exact v_loadF0 (by omega)) ?_
              refine xl_v (by first | exact v_fieldAddr | exact v_fieldAddrF (by decide) (by omega) | exact v_fieldAddrR (by first | assumption | rfl)) ?_
              refine xl_v (by first | exact v_load | exact v_loadO (by omega) | exact v_loadFf (by omega) | exact v_loadF0 (by omega)) ?_
              refine xl_v v_neq ?_
              refine xl_v v_move ?_
              refine xl_split 52 (fun g52 => ?_) (fun g52 => ?_)
              ·
                refine xl_gs rfl EvO.eq ?_
                refine xl_gs rfl EvO.eq ?_
                refine xl_gs rfl EvO.eq ?_
                refine xl_gs rfl EvO.eq ?_
                refine xl_gs rfl EvO.eq ?_
                refine xl_v (by first | exact v_pickT | exact v_pickF | exact v_pick) ?_
                refine xl_v v_move ?_
                refine xl_gs rfl EvO.eq ?_
                refine xl_gs rfl EvO.eq ?_
                refine xl_gs rfl EvO.eq ?_
                refine xl_gs rfl EvO.eq ?_
                refine xl_gs rfl EvO.eq ?_
                refine xl_gs rfl EvO.eq ?_
                refine xl_gs rfl EvO.eq ?_
                refine xl_v (by first | exact v_pickT | exact v_pickF | exact v_pick) ?_
                refine xl_v v_move ?_
                refine xl_gs rfl EvO.eq ?_
                refine xl_gs rfl EvO.eq ?_
                refine xl_gs rfl EvO.eq ?_
                refine xl_gs rfl EvO.eq ?_
                refine xl_gs rfl EvO.eq ?_
                refine xl_v (by first | exact v_pickT | exact v_pickF | exact v_pick) ?_
                refine xl_nil ?_
                refine x_condT ?_
                refine x_seq ?_
                refine x_regionL ?_
                refine xl_v v_assign ?_
                refine xl_nil ?_
                refine x_ret ?_
                refine fin1 rfl ?_
                refine ⟨⟨_, rfl, fun e => ?_, fun _ => rfl⟩, lkc⟩
                exfalso
                have e1 : (R1.waits.map (·.t))[k]? = (R2.waits.map (·.t))[k]? := by rw [f3 e]
                have e2 : R1.waits[k].t = R2.waits[k].t := by simpa [hk1, hk2] using e1
                first
                  | (simp [e2] at g52; done)
                  | (simp [e2] at g59; done)
                  | (simp [e2] at g68; done)
                  | (simp [e2] at c3; done)
                  | (rw [e2] at c3; simp at c3; done)
                  | (rw [e2] at c3; omega)
              ·
                refine xl_gv rfl EvO.eq (by first | exact v_fieldAddr | exact v_fieldAddrF (by decide) (by omega) | exact v_fieldAddrR (by first | assumption | rfl)) ?_
                refine xl_gv rfl EvO.eq (by first | exact v_load | exact v_loadO (by omega) | exact v_loadFf (by omega) | exact v_loadF0 (by omega)) ?_
                refine xl_gv rfl EvO.eq (by first | exact v_fieldAddr | exact v_fieldAddrF (by decide) (by omega) | exact v_fieldAddrR (by first | assumption | rfl)) ?_
                refine xl_gv rfl EvO.eq (by first | exact v_load | exact v_loadO (by omega) | exact v_loadFf (by omega) | exact v_loadF0 (by omega)) ?_
                refine xl_gv rfl EvO.eq (v_sneq) ?_
                refine xl_v (by first | exact v_pickT | exact v_pickF | exact v_pick) ?_
                refine xl_v v_move ?_
                refine xl_split 59 (fun g59 => ?_) (fun g59 => ?_)
                ·
                  refine xl_gs rfl EvO.eq ?_
                  refine xl_gs rfl EvO.eq ?_
                  refine xl_gs rfl EvO.eq ?_
                  refine xl_gs rfl EvO.eq ?_
                  refine xl_gs rfl EvO.eq ?_
                  refine xl_gs rfl EvO.eq ?_
                  refine xl_gs rfl EvO.eq ?_
                  refine xl_v (by first | exact v_pickT | exact v_pickF | exact v_pick) ?_
                  refine xl_v v_move ?_
                  refine xl_gs rfl EvO.eq ?_
                  refine xl_gs rfl EvO.eq ?_
                  refine xl_gs rfl EvO.eq ?_
                  refine xl_gs rfl EvO.eq ?_
                  refine xl_gs rfl EvO.eq ?_
                  refine xl_v (by first | exact v_pickT | exact v_pickF | exact v_pick) ?_
                  refine xl_nil ?_
                  refine x_condT ?_
                  refine x_seq ?_
                  refine x_regionL ?_
                  refine xl_v v_assign ?_
                  refine xl_nil ?_
                  refine x_ret ?_
                  refine fin1 rfl ?_
                  refine ⟨⟨_, rfl, fun e => ?_, fun _ => rfl⟩, lkc⟩
                  exfalso
                  have e1 : (R1.waits.map (·.t))[k]? = (R2.waits.map (·.t))[k]? := by rw [f3 e]
                  have e2 : R1.waits[k].t = R2.waits[k].t := by simpa [hk1, hk2] using e1
                  first
                    | (simp [e2] at g52; done)
                    | (simp [e2] at g59; done)
                    | (simp [e2] at g68; done)
                    | (simp [e2] at c3; done)
                    | (rw [e2] at c3; simp at c3; done)
                    | (rw [e2] at c3; omega)
                ·
                  refine xl_gv rfl EvO.eq (by first | exact v_fieldAddr | exact v_fieldAddrF (by decide) (by omega) | exact v_fieldAddrR (by first | assumption | rfl)) ?_
                  refine xl_gv rfl EvO.eq (by first | exact v_load | exact v_loadO (by omega) | exact v_loadFf (by omega) | exact v_loadF0 (by omega)) ?_
                  refine xl_gv rfl EvO.eq (v_bytesStr (xs := R1.waits[k].t.bytes) rfl) ?_
                  refine xl_gv rfl EvO.eq (by first | exact v_fieldAddr | exact v_fieldAddrF (by decide) (by omega) | exact v_fieldAddrR (by first | assumption | rfl)) ?_
                  refine xl_gv rfl EvO.eq (by first | exact v_load | exact v_loadO (by omega) | exact v_loadFf (by omega) | exact v_loadF0 (by omega)) ?_
                  refine xl_gv rfl EvO.eq (v_bytesStr (xs := R2.waits[k].t.bytes) rfl) ?_
                  refine xl_gv rfl EvO.eq (v_sneq) ?_
                  refine xl_v (by first | exact v_pickT | exact v_pickF | exact v_pick) ?_
                  refine xl_v v_move ?_
                  refine xl_split 68 (fun g68 => ?_) (fun g68 => ?_)
                  ·
                    refine xl_gs rfl EvO.eq ?_
                    refine xl_gs rfl EvO.eq ?_
                    refine xl_gs rfl EvO.eq ?_
                    refine xl_gs rfl EvO.eq ?_
                    refine xl_gs rfl EvO.eq ?_
                    refine xl_v (by first | exact v_pickT | exact v_pickF | exact v_pick) ?_
                    refine xl_nil ?_
                    refine x_condT ?_
                    refine x_seq ?_
                    refine x_regionL ?_
                    refine xl_v v_assign ?_
                    refine xl_nil ?_
                    refine x_ret ?_
                    refine fin1 rfl ?_
                    refine ⟨⟨_, rfl, fun e => ?_, fun _ => rfl⟩, lkc⟩
                    exfalso
                    have e1 : (R1.waits.map (·.t))[k]? = (R2.waits.map (·.t))[k]? := by rw [f3 e]
                    have e2 : R1.waits[k].t = R2.waits[k].t := by simpa [hk1, hk2] using e1
                    first
                      | (simp [e2] at g52; done)
                      | (simp [e2] at g59; done)
                      | (simp [e2] at g68; done)
                      | (simp [e2] at c3; done)
                      | (rw [e2] at c3; simp at c3; done)
                      | (rw [e2] at c3; omega)
                  ·
                    refine xl_gv rfl EvO.eq (by first | exact v_fieldAddr | exact v_fieldAddrF (by decide) (by omega) | exact v_fieldAddrR (by first | assumption | rfl)) ?_
                    refine xl_gv rfl EvO.eq (by first | exact v_load | exact v_loadO (by omega) | exact v_loadFf (by omega) | exact v_loadF0 (by omega)) ?_
                    refine xl_gv rfl EvO.eq (by first | exact v_fieldAddr | exact v_fieldAddrF (by decide) (by omega) | exact v_fieldAddrR (by first | assumption | rfl)) ?_
                    refine xl_gv rfl EvO.eq (by first | exact v_load | exact v_loadO (by omega) | exact v_loadFf (by omega) | exact v_loadF0 (by omega)) ?_
                    refine xl_gv rfl EvO.eq v_neq ?_
                    refine xl_v (by first | exact v_pickT | exact v_pickF | exact v_pick) ?_
                    refine xl_nil ?_
                    first | refine x_condP (fun c3 => ?_) (fun c3 => ?_) | refine x_condN (fun c3 => ?_) (fun c3 => ?_) | refine x_condE (fun c3 => ?_) (fun c3 => ?_)
                    ·
                      refine x_seq ?_
                      refine x_regionL ?_
                      refine xl_v v_assign ?_
                      refine xl_nil ?_
                      refine x_ret ?_
                      refine fin1 rfl ?_
                      refine ⟨⟨_, rfl, fun e => ?_, fun _ => rfl⟩, lkc⟩
                      exfalso
                      have e1 : (R1.waits.map (·.t))[k]? = (R2.waits.map (·.t))[k]? := by rw [f3 e]
                      have e2 : R1.waits[k].t = R2.waits[k].t := by simpa [hk1, hk2] using e1
                      first
                        | (simp [e2] at g52; done)
                        | (simp [e2] at g59; done)
                        | (simp [e2] at g68; done)
                        | (simp [e2] at c3; done)
                        | (rw [e2] at c3; simp at c3; done)
                        | (rw [e2] at c3; omega)
                    ·
                      refine x_skip ?_
                      refine x_regionL ?_
                      refine xl_v v_move ?_
                      refine xl_v (v_add (by omega)) ?_
                      refine xl_v v_assign ?_
                      refine xl_nil ?_
                      refine ⟨_, ?_, rfl, k + 1, rfl, by omega, inferInstance, inferInstance, evc, lkc⟩
                      omega
            ·
              refine xt_e rfl (e_alloc fun b7 w10 n7 l7 k7 => ?_)
              refine xt_e rfl (e_alloc fun b6 w11 n6 l6 k6 => ?_)
              refine xt_s rfl (e_storeA fun w12 l12 k12 => ?_)
              refine xt_lastS rfl (e_storeA fun w13 l13 k13 => ?_)
              refine x_seq ?_
              refine x_regionL ?_
              refine xl_v (by first | exact v_fieldAddr | exact v_fieldAddrF (by decide) (by omega) | exact v_fieldAddrR (by first | assumption | rfl)) ?_
              refine xl_v (by first | exact v_load | exact v_loadO (by omega) | exact v_loadFf (by omega) | exact v_loadF0 (by omega)) ?_
              refine xl_v (by first | exact v_fieldAddr | exact v_fieldAddrF (by decide) (by omega) | exact v_fieldAddrR (by first | assumption | rfl)) ?_
              refine xl_v (by first | exact v_load | exact v_loadO (by omega) | exact v_loadFf (by omega) | exact v_loadF0 (by omega)) ?_
              refine xl_v v_neq ?_
              refine xl_v v_move ?_
              refine xl_split 52 (fun g52 => ?_) (fun g52 => ?_)
              ·
                refine xl_gs rfl EvO.eq ?_
                refine xl_gs rfl EvO.eq ?_
                refine xl_gs rfl EvO.eq ?_
                refine xl_gs rfl EvO.eq ?_
                refine xl_gs rfl EvO.eq ?_
                refine xl_v (by first | exact v_pickT | exact v_pickF | exact v_pick) ?_
                refine xl_v v_move ?_
                refine xl_gs rfl EvO.eq ?_
                refine xl_gs rfl EvO.eq ?_
                refine xl_gs rfl EvO.eq ?_
                refine xl_gs rfl EvO.eq ?_
                refine xl_gs rfl EvO.eq ?_
                refine xl_gs rfl EvO.eq ?_
                refine xl_gs rfl EvO.eq ?_
                refine xl_v (by first | exact v_pickT | exact v_pickF | exact v_pick) ?_
                refine xl_v v_move ?_
                refine xl_gs rfl EvO.eq ?_
                refine xl_gs rfl EvO.eq ?_
                refine xl_gs rfl EvO.eq ?_
                refine xl_gs rfl EvO.eq ?_
                refine xl_gs rfl EvO.eq ?_
                refine xl_v (by first | exact v_pickT | exact v_pickF | exact v_pick) ?_
                refine xl_nil ?_
                refine x_condT ?_
                refine x_seq ?_
                refine x_regionL ?_
                refine xl_v v_assign ?_
                refine xl_nil ?_
                refine x_ret ?_
                refine fin1 rfl ?_
                refine ⟨⟨_, rfl, fun e => ?_, fun _ => rfl⟩, lkc⟩
                exfalso
                have e1 : (R1.waits.map (·.t))[k]? = (R2.waits.map (·.t))[k]? := by rw [f3 e]
                have e2 : R1.waits[k].t = R2.waits[k].t := by simpa [hk1, hk2] using e1
                first
                  | (simp [e2] at g52; done)
                  | (simp [e2] at g59; done)
                  | (simp [e2] at g68; done)
                  | (simp [e2] at c3; done)
                  | (rw [e2] at c3; simp at c3; done)
                  | (rw [e2] at c3; omega)
              ·
                refine xl_gv rfl EvO.eq (by first | exact v_fieldAddr | exact v_fieldAddrF (by decide) (by omega) | exact v_fieldAddrR (by first | assumption | rfl)) ?_
                refine xl_gv rfl EvO.eq (by first | exact v_load | exact v_loadO (by omega) | exact v_loadFf (by omega) | exact v_loadF0 (by omega)) ?_
                refine xl_gv rfl EvO.eq (by first | exact v_fieldAddr | exact v_fieldAddrF (by decide) (by omega) | exact v_fieldAddrR (by first | assumption | rfl)) ?_
                refine xl_gv rfl EvO.eq (by first | exact v_load | exact v_loadO (by omega) | exact v_loadFf (by omega) | exact v_loadF0 (by omega)) ?_
                refine xl_gv rfl EvO.eq (v_sneq) ?_
                refine xl_v (by first | exact v_pickT | exact v_pickF | exact v_pick) ?_
                refine xl_v v_move ?_
                refine xl_split 59 (fun g59 => ?_) (fun g59 => ?_)
                ·
                  refine xl_gs rfl EvO.eq ?_
                  refine xl_gs rfl EvO.eq ?_
                  refine xl_gs rfl EvO.eq ?_
                  refine xl_gs rfl EvO.eq ?_
                  refine xl_gs rfl EvO.eq ?_
                  refine xl_gs rfl EvO.eq ?_
                  refine xl_gs rfl EvO.eq ?_
                  refine xl_v (by first | exact v_pickT | exact v_pickF | exact v_pick) ?_
                  refine xl_v v_move ?_
                  refine xl_gs rfl EvO.eq ?_
                  refine xl_gs rfl EvO.eq ?_
                  refine xl_gs rfl EvO.eq ?_
                  refine xl_gs rfl EvO.eq ?_
                  refine xl_gs rfl EvO.eq ?_
                  refine xl_v (by first | exact v_pickT | exact v_pickF | exact v_pick) ?_
                  refine xl_nil ?_
                  refine x_condT ?_
                  refine x_seq ?_
                  refine x_regionL ?_
                  refine xl_v v_assign ?_
                  refine xl_nil ?_
                  refine x_ret ?_
                  refine fin1 rfl ?_
                  refine ⟨⟨_, rfl, fun e => ?_, fun _ => rfl⟩, lkc⟩
                  exfalso
                  have e1 : (R1.waits.map (·.t))[k]? = (R2.waits.map (·.t))[k]? := by rw [f3 e]
                  have e2 : R1.waits[k].t = R2.waits[k].t := by simpa [hk1, hk2] using e1
                  first
                    | (simp [e2] at g52; done)
                    | (simp [e2] at g59; done)
                    | (simp [e2] at g68; done)
                    | (simp [e2] at c3; done)
                    | (rw [e2] at c3; simp at c3; done)
                    | (rw [e2] at c3; omega)
                ·
                  refine xl_gv rfl EvO.eq (by first | exact v_fieldAddr | exact v_fieldAddrF (by decide) (by omega) | exact v_fieldAddrR (by first | assumption | rfl)) ?_
                  refine xl_gv rfl EvO.eq (by first | exact v_load | exact v_loadO (by omega) | exact v_loadFf (by omega) | exact v_loadF0 (by omega)) ?_
                  refine xl_gv rfl EvO.eq (v_bytesStr (xs := R1.waits[k].t.bytes) rfl) ?_
                  refine xl_gv rfl EvO.eq (by first | exact v_fieldAddr | exact v_fieldAddrF (by decide) (by omega) | exact v_fieldAddrR (by first | assumption | rfl)) ?_
                  refine xl_gv rfl EvO.eq (by first | exact v_load | exact v_loadO (by omega) | exact v_loadFf (by omega) | exact v_loadF0 (by omega)) ?_
                  refine xl_gv rfl EvO.eq (v_bytesStr (xs := R2.waits[k].t.bytes) rfl) ?_
                  refine xl_gv rfl EvO.eq (v_sneq) ?_
                  refine xl_v (by first | exact v_pickT | exact v_pickF | exact v_pick) ?_
                  refine xl_v v_move ?_
                  refine xl_split 68 (fun g68 => ?_) (fun g68 => ?_)
                  ·
                    refine xl_gs rfl EvO.eq ?_
                    refine xl_gs rfl EvO.eq ?_
                    refine xl_gs rfl EvO.eq ?_
                    refine xl_gs rfl EvO.eq ?_
                    refine xl_gs rfl EvO.eq ?_
                    refine xl_v (by first | exact v_pickT | exact v_pickF | exact v_pick) ?_
                    refine xl_nil ?_
                    refine x_condT ?_
                    refine x_seq ?_
                    refine x_regionL ?_
                    refine xl_v v_assign ?_
                    refine xl_nil ?_
                    refine x_ret ?_
                    refine fin1 rfl ?_
                    refine ⟨⟨_, rfl, fun e => ?_, fun _ => rfl⟩, lkc⟩
                    exfalso
                    have e1 : (R1.waits.map (·.t))[k]? = (R2.waits.map (·.t))[k]? := by rw [f3 e]
                    have e2 : R1.waits[k].t = R2.waits[k].t := by simpa [hk1, hk2] using e1
                    first
                      | (simp [e2] at g52; done)
                      | (simp [e2] at g59; done)
                      | (simp [e2] at g68; done)
                      | (simp [e2] at c3; done)
                      | (rw [e2] at c3; simp at c3; done)
                      | (rw [e2] at c3; omega)
                  ·
                    refine xl_gv rfl EvO.eq (by first | exact v_fieldAddr | exact v_fieldAddrF (by decide) (by omega) | exact v_fieldAddrR (by first | assumption | rfl)) ?_
                    refine xl_gv rfl EvO.eq (by first | exact v_load | exact v_loadO (by omega) | exact v_loadFf (by omega) | exact v_loadF0 (by omega)) ?_
                    refine xl_gv rfl EvO.eq (by first | exact v_fieldAddr | exact v_fieldAddrF (by decide) (by omega) | exact v_fieldAddrR (by first | assumption | rfl)) ?_
                    refine xl_gv rfl EvO.eq (by first | exact v_load | exact v_loadO (by omega) | exact v_loadFf (by omega) | exact v_loadF0 (by omega)) ?_
                    refine xl_gv rfl EvO.eq v_neq ?_
                    refine xl_v (by first | exact v_pickT | exact v_pickF | exact v_pick) ?_
                    refine xl_nil ?_
                    first | refine x_condP (fun c3 => ?_) (fun c3 => ?_) | refine x_condN (fun c3 => ?_) (fun c3 => ?_) | refine x_condE (fun c3 => ?_) (fun c3 => ?_)
                    ·
                      refine x_seq ?_
                      refine x_regionL ?_
                      refine xl_v v_assign ?_
                      refine xl_nil ?_
                      refine x_ret ?_
                      refine fin1 rfl ?_
                      refine ⟨⟨_, rfl, fun e => ?_, fun _ => rfl⟩, lkc⟩
                      exfalso
                      have e1 : (R1.waits.map (·.t))[k]? = (R2.waits.map (·.t))[k]? := by rw [f3 e]
                      have e2 : R1.waits[k].t = R2.waits[k].t := by simpa [hk1, hk2] using e1
                      first
                        | (simp [e2] at g52; done)
                        | (simp [e2] at g59; done)
                        | (simp [e2] at g68; done)
                        | (simp [e2] at c3; done)
                        | (rw [e2] at c3; simp at c3; done)
                        | (rw [e2] at c3; omega)
                    ·
                      refine x_skip ?_
                      refine x_regionL ?_
                      refine xl_v v_move ?_
                      refine xl_v (v_add (by omega)) ?_
                      refine xl_v v_assign ?_
                      refine xl_nil ?_
                      refine ⟨_, ?_, rfl, k + 1, rfl, by omega, inferInstance, inferInstance, evc, lkc⟩
                      omega
          ·
            refine x_exit ?_
            refine x_seq ?_
            refine x_regionL ?_
            refine xl_v v_assign ?_
            refine xl_nil ?_
            refine x_ret ?_
            refine fin1 rfl ?_
            exact ⟨⟨true, rfl, fun _ => rfl, fun e => absurd (by omega) e⟩, lkc⟩
theorem step_same (M : Disk) (t : Thing) : M.step t = M ∨ (M.step t).waits.length ≠ M.waits.length := by
  unfold Disk.step
  split
  · unfold Disk.does
    split
    · right; simp
    · exact .inl rfl
  · cases hM : M.waits with
    | nil =>
      left
      cases M with
      | mk room lasts waits =>
        simp only at hM
        subst hM
        rfl
    | cons a l => right; show (0 : Nat) ≠ _; simp
theorem crash_flush (M : Disk) : M.crash (M.waits.length : Int) 0 = M.flush := by
  rw [crash_keep]
  · rw [pick_all, List.take_length]
    rfl
  · rw [pick_all]
    intro t ht
    rw [List.getElem?_eq_none (Nat.le_refl _)] at ht
    cases ht
theorem both_eq {M M2 : Disk} {r sm : Bool} (h : M2 = M ∨ M2.waits.length ≠ M.waits.length) (h1 : M2 = M → r = true) (h2 : M2.waits.length ≠ M.waits.length → r = false) (h3 : M = M2 → sm = true) (h4 : M.waits.length ≠ M2.waits.length → sm = false) : r = sm := by
  rcases h with e | e
  · rw [h1 e, h3 e.symm]
  · rw [h2 e, h4 (fun e2 => e e2.symm)]
theorem mkPairD {P Q F : Nat → Prop} {d : Nat} {M : Disk} {Rf : LRef} {w W : World} (h : DiskW P Q d M w) (hk : Keep NoB w W) (hs : RefS Rf M) (hR : RefAt W F Rf) (hF : ∀ k, F k → Q k) : PairD NoB (wide Q w W) d M Rf W :=
  ⟨hs, F, h.keep hk (fun _ _ h => h.elim) (fun k e => e.elim) (fun k e => by
    rcases e with (e | e) | e
    · exact ⟨Nat.lt_of_lt_of_le (h.lt.2 k e) hk.size, .inl e⟩
    · exact ⟨e.2, .inr e.1⟩
    · exact ⟨Nat.lt_of_lt_of_le (h.lt.2 k (hF k e)) hk.size, .inl (hF k e)⟩), hR, fun _ _ e => e⟩
instance (priority := low) subF_wide2 (Q T : Nat → Prop) (w W w0 : World) [h : SubF (NotP Q) T w0] : SubF (NotP (wide Q w W)) T w0 := ⟨fun k hk e => h.sub k hk (fun q => e (.inl q))⟩
set_option maxHeartbeats 1000000 in
/-- waystation/waystationlaw03.DiskCopies -/
theorem diskCopies_ok (A : Option Addr) (n c : Nat) (xs : List LT) (x : LT) (w : World) [hra : Row w A (xs.flatMap thC)] (hrs : ∀ j (h : j < xs.length), RowP w xs[j].A (bytesC xs[j].t.bytes)) (hcs : ∀ j (h : j < xs.length), xs[j].t.bytes.length ≤ xs[j].c) (hns : ∀ j (h : j < xs.length), In64 xs[j].t.n) (hl : xs.length = n) (hn : n ≤ 9223372036854775807) (hxr : RowP w x.A (bytesC x.t.bytes)) (hxc : x.t.bytes.length ≤ x.c) (hxn : In64 x.t.n) : Ret Try.prog 11 #[.slice A n c, .agg (thC x).toArray] w (fun v w' => v = .bool true ∧ Lk w' w NoB) := by
  haveI hrb : RowB w A w (xs.flatMap thC) := rowB_of hra.row
  haveI hrxB : RowB w x.A w (bytesC x.t.bytes) := rowB_of hxr
  refine ret_of_x (N := 122) (l := [.slice A n c, .agg (thC x).toArray]) Try.func11 rfl rfl (Nat.le_of_ble_eq_true rfl) ?_
  refine x_seq ?_
  refine x_regionL ?_
  refine xl_e (e_box fun b1 w1 n1 l1 k1 => ?_)
  refine xl_v v_assign ?_
  refine xl_nil ?_
  refine x_seq ?_
  refine x_seq ?_
  refine x_regionL ?_
  refine xl_v v_move ?_
  refine xl_call (few_ok A n c xs w1 (hra := rowB_of (inferInstance : Row w1 A (xs.flatMap thC)).row) hl hn) ?_
  rintro _ w2 ⟨⟨fb, rfl, hfb⟩, lkf⟩
  refine xl_v v_not ?_
  refine xl_v v_move ?_
  refine xl_split 21 (fun g21 => ?_) (fun g21 => ?_)
  ·
    refine xl_gs rfl EvO.eq ?_
    refine xl_gs rfl EvO.eq ?_
    refine xl_gs rfl EvO.eq ?_
    refine xl_gs rfl EvO.eq ?_
    refine xl_v (by first | exact v_pickT | exact v_pickF | exact v_pick) ?_
    refine xl_nil ?_
    refine x_condT ?_
    refine x_seq ?_
    refine x_regionL ?_
    refine xl_call (works_ok w2) ?_
    rintro _ w3 ⟨rfl, lkw⟩
    refine xl_v v_assign ?_
    refine xl_nil ?_
    refine x_ret ?_
    refine fin1 rfl ?_
    exact ⟨rfl, lkc⟩
  ·
    refine xl_gv rfl EvO.eq (by first | exact v_loadA | exact v_loadF (by decide) (by omega)) ?_
    refine xl_ge rfl EvO.eq (e_buildSlice1 rfl fun b5 w4 n5 l5 k5 => ?_)
    have hrow5 : RowP w4 (some ⟨b5, 0, none⟩) ([x].flatMap thC) := by
      have h1 := row_blk (Blk.eq : (w4).heap[b5]? = _)
      simpa using h1
    refine xl_gcall rfl EvO.eq (few_ok (some ⟨b5, 0, none⟩) 1 1 [x] w4 (hra := rowB_of hrow5) rfl (by decide)) ?_
    rintro _ w5 ⟨⟨gb, rfl, hgb⟩, lkg⟩
    refine xl_gv rfl EvO.eq v_not ?_
    refine xl_v (by first | exact v_pickT | exact v_pickF | exact v_pick) ?_
    refine xl_nil ?_
    first | refine x_condP (fun c1 => ?_) (fun c1 => ?_) | refine x_condN (fun c1 => ?_) (fun c1 => ?_) | refine x_condE (fun c1 => ?_) (fun c1 => ?_)
    ·
      refine x_seq ?_
      refine x_regionL ?_
      refine xl_call (works_ok w5) ?_
      rintro _ w6 ⟨rfl, lkw⟩
      refine xl_v v_assign ?_
      refine xl_nil ?_
      refine x_ret ?_
      refine fin1 rfl ?_
      exact ⟨rfl, lkc⟩
    ·
      refine x_skip ?_
      refine x_seq ?_
      refine x_regionL ?_
      refine xl_v v_move ?_
      have hfew := hfb (by simpa using g21)
      have hfew2 := (hgb (by simpa using c1)).2 0 (by simp)
      simp only [List.getElem_cons_zero] at hfew2
      refine xl_call (played_ok 1000 A n c xs w5 w (by decide) (fun j h => (rowB_of (hrs j h)).keep (kpc : Keep NoB w w5) (fun _ h => h.elim)) hcs hns hl hfew Ge.le) ?_
      rintro _ w7 ⟨⟨d, M, Rf, rfl, hP, hlen, hgd⟩, lk1⟩
      obtain ⟨F, hD, hR, hFP⟩ := hP.ex
      have hs := hP.pure
      obtain ⟨np, hnp⟩ : ∃ np, np = (w5).heap.size := ⟨_, rfl⟩
      obtain ⟨nq, hnq⟩ : ∃ nq, nq = (w7).heap.size := ⟨_, rfl⟩
      have hwnp : w.heap.size ≤ np := by rw [hnp]; exact Ge.le
      have hRl := hR.lt
      refine xl_v v_move ?_
      refine xl_v v_extract ?_
      refine xl_v v_extract ?_
      refine xl_v v_extract ?_
      refine xl_e (e_alloc fun b6 w8 n6 l6 k6 => ?_)
      have hb6 : nq ≤ b6 := by rw [n6.eq, hnq]; exact Ge.le
      refine xl_v v_assign ?_
      refine xl_s (e_storeA fun w9 l9 k9 => ?_)
      refine xl_v v_assign ?_
      refine xl_nil ?_
      refine x_seq ?_
      refine x_regionL ?_
      refine xl_v v_move ?_
      refine xl_call (copy_ok _ _ d M w9 (hD.wide (kpc : Keep NoB _ w9))) ?_
      rintro _ w10 ⟨⟨cc, Q, rfl, hC, hD2, hgc⟩, lk2⟩
      obtain ⟨nc, hnc⟩ : ∃ nc, nc = (w9).heap.size := ⟨_, rfl⟩
      have hb6c : b6 < nc := by rw [hnc]; exact Has.lt
      have hcsz := lk2.keep.size
      obtain ⟨R3, hR3⟩ : ∃ R3 : Nat → Prop, R3 = fun k => k < np ∨ F k ∨ (nq ≤ k ∧ k < nc) ∨ Q k := ⟨_, rfl⟩
      have hD3 : DiskW NoB R3 d M w10 := hD2.keep (S := NoB) (P' := NoB) (R' := R3) (Keep.refl _ _) (fun _ _ h => h.elim) (fun k e => e.elim) (fun k e => by
        rw [hR3] at e
        have hlt := hD2.lt.2 k
        refine (fun e2 => ⟨hlt e2, .inl e2⟩ : _ → _) ?_
        rcases e with e | e | e | e
        · exact .inl (.inl (.inl (by rw [← hnp]; exact e)))
        · exact .inl (.inl (.inr e))
        · exact .inl (.inr ⟨by rw [← hnq]; exact e.1, by rw [← hnc]; exact e.2⟩)
        · exact .inr e)
      haveI : NotS (NotP R3) b6 := ⟨fun e => e (by rw [hR3]; exact .inr (.inr (.inl ⟨hb6, hb6c⟩)))⟩
      haveI : SubF (NotP R3) NoB w := ⟨fun k hk e => e (by rw [hR3]; exact .inl (by omega))⟩
      refine xl_v v_assign ?_
      refine xl_nil ?_
      refine x_seq ?_
      refine x_seq ?_
      refine x_regionL ?_
      refine xl_v v_move ?_
      refine xl_v v_not ?_
      refine xl_v v_move ?_
      refine xl_gv rfl EvO.eq v_move ?_
      refine xl_gv rfl EvO.eq v_move ?_
      refine xl_gcall rfl EvO.eq (same_ok _ _ _ _ d cc M M w10 (hD3.ext (kpc : Keep NoB _ w10)) (hC.toW.ext (kpc : Keep NoB _ w10))) ?_
      rintro _ w11 ⟨⟨r1, rfl, hr1, hr1b, hr1c⟩, lk3⟩
      obtain rfl : r1 = true := hr1 rfl
      refine xl_gv rfl EvO.eq v_not ?_
      refine xl_v (by first | exact v_pickT | exact v_pickF | exact v_pick) ?_
      refine xl_nil ?_
      refine x_condF ?_
      refine x_skip ?_
      refine x_seq ?_
      refine x_regionL ?_
      refine xl_v v_move ?_
      refine xl_v (by first | exact v_loadA | exact v_loadF (by decide) (by omega)) ?_
      refine xl_v (by first | exact v_loadA | exact v_loadF (by decide) (by omega)) ?_
      refine xl_call (act_ok NoB _ d M Rf x w11 (mkPairD hD3 (kpc : Keep NoB _ w11) hs (hR.ext (kpc : Keep NoB _ w11)) (fun k e => by rw [hR3]; exact .inr (.inl e))) (by omega) (hxr.keep (kpc : Keep NoB w w11) (fun _ _ h => h)) hxc (by omega) (by omega) hxn (fun hn0 a ha => by
            have h1 := hrxB.far.resolve_left (by simpa [bytesC] using hn0) a ha
            exact ⟨.inl (by rw [hR3]; exact .inl (by omega)), fun e => e⟩)) ?_
      rintro _ w12 ⟨⟨Rf2, rfl, hP2⟩, lk4⟩
      have hR4 : RefAt w12 F Rf := (hR.ext (kpc : Keep NoB _ w11)).keep lk4.keep (fun k e e2 => e2 (.inl (by rw [hR3]; exact .inr (.inl e))))
      have hC4 := (hC.ext (kpc : Keep NoB _ w11)).keep lk4.keep (fun k e e2 => e2 (.inl (by rw [hR3]; exact .inr (.inr (.inr e)))))
      obtain ⟨F2, hD5, hR5, _⟩ := hP2.ex
      have hs5 := hP2.pure
      refine xl_v v_move ?_
      refine xl_v v_extract ?_
      refine xl_v v_extract ?_
      refine xl_e (e_alloc fun b13 w13 n13 l13 k13 => ?_)
      refine xl_s (e_storeA fun w14 l14 k14 => ?_)
      refine xl_v v_assign ?_
      refine xl_nil ?_
      refine x_seq ?_
      refine x_regionL ?_
      refine xl_v (by first | exact v_loadA | exact v_loadF (by decide) (by omega)) ?_
      refine xl_v (by first | exact v_loadA | exact v_loadF (by decide) (by omega)) ?_
      refine xl_call (refsame_ok Rf Rf2 M (M.step x.t) F F2 w14 (hR4.ext (kpc : Keep NoB _ w14)) (hR5.ext (kpc : Keep NoB _ w14)) hs hs5) ?_
      rintro _ w15 ⟨⟨sm, rfl, hsm1, hsm2⟩, lk5⟩
      have hst := step_same M x.t
      have hwll := hs.len
      refine xl_v v_assign ?_
      refine xl_nil ?_
      refine x_seq ?_
      refine x_regionL ?_
      refine xl_v v_move ?_
      refine xl_v (by first | exact v_fieldAddr | exact v_fieldAddrF (by decide) (by omega) | exact v_fieldAddrR (by first | assumption | rfl)) ?_
      refine xl_v (by first | exact v_load | exact v_loadO (by omega) | exact v_loadFf (by omega) | exact v_loadF0 (by omega)) ?_
      refine xl_v v_len ?_
      refine xl_v v_build ?_
      refine xl_call (crash_ok _ _ cc M (Rf.waits.length : Int) 0 w15 (hC4.toW.ext (kpc : Keep NoB _ w15)) ⟨by omega, by have := hs.few; omega⟩ ⟨by decide, by decide⟩) ?_
      rintro _ w16 ⟨⟨x2, rfl, hX, hgx⟩, lk6⟩
      rw [hs.len, crash_flush] at hX
      refine xl_v v_move ?_
      refine xl_v v_extract ?_
      refine xl_v v_extract ?_
      refine xl_v v_assign ?_
      refine xl_v v_assign ?_
      refine xl_nil ?_
      refine x_seq ?_
      refine x_regionL ?_
      refine xl_call (new2_ok 1000 w16 (by decide)) ?_
      rintro _ w17 ⟨⟨a1, rfl, hA1, hga1⟩, lk7⟩
      refine xl_v v_move ?_
      refine xl_v v_extract ?_
      refine xl_v v_extract ?_
      refine xl_v v_assign ?_
      refine xl_v v_assign ?_
      refine xl_nil ?_
      refine x_seq ?_
      refine x_regionL ?_
      refine xl_call (new2_ok 1001 w17 (by decide)) ?_
      rintro _ w18 ⟨⟨a2, rfl, hA2, hga2⟩, lk8⟩
      refine xl_v v_move ?_
      refine xl_v v_extract ?_
      refine xl_v v_extract ?_
      refine xl_v v_assign ?_
      refine xl_v v_assign ?_
      refine xl_nil ?_
      refine x_seq ?_
      refine x_regionL ?_
      refine xl_v v_move ?_
      refine xl_v v_move ?_
      refine xl_gv rfl EvO.eq v_move ?_
      refine xl_gcall rfl EvO.eq (num_ok _ _) ?_
      rintro _ _ ⟨rfl, rfl⟩
      refine xl_gv rfl EvO.eq v_move ?_
      refine xl_gcall rfl EvO.eq (num_ok _ _) ?_
      rintro _ _ ⟨rfl, rfl⟩
      refine xl_gv rfl EvO.eq (v_add (by omega)) ?_
      refine xl_gv rfl EvO.eq v_move ?_
      refine xl_gcall rfl EvO.eq (num_ok _ _) ?_
      rintro _ _ ⟨rfl, rfl⟩
      refine xl_gv rfl EvO.eq (v_add (by omega)) ?_
      refine xl_gv rfl EvO.eq (v_congr (u := .bool true) v_eql (by simp)) ?_
      refine xl_v (by first | exact v_pickT | exact v_pickF | exact v_pick) ?_
      refine xl_v v_move ?_
      refine xl_gv rfl EvO.eq v_move ?_
      refine xl_gv rfl EvO.eq (by first | exact v_loadA | exact v_loadF (by decide) (by omega)) ?_
      refine xl_gcall rfl EvO.eq (refflush_ok Rf M F w18 (hR4.ext (kpc : Keep NoB _ w18)) hs) ?_
      rintro _ w22 ⟨⟨Rg, Fg, rfl, hsg, hRg, hFg⟩, lk9⟩
      refine xl_gcall rfl EvO.eq (is_ok _ _ x2 M.flush Rg Fg w22 (hX.ext (kpc : Keep NoB _ w22)) (hRg.ext (kpc : Keep NoB _ w22)) hsg) ?_
      rintro _ w23 ⟨rfl, lk10⟩
      refine xl_v (by first | exact v_pickT | exact v_pickF | exact v_pick) ?_
      refine xl_v v_move ?_
      refine xl_gv rfl EvO.eq v_move ?_
      refine xl_gv rfl EvO.eq (by first | exact v_loadA | exact v_loadF (by decide) (by omega)) ?_
      refine xl_gcall rfl EvO.eq (is_ok _ _ cc M Rf F w23 (hC4.toW.ext (kpc : Keep NoB _ w23)) (hR4.ext (kpc : Keep NoB _ w23)) hs) ?_
      rintro _ w24 ⟨rfl, lk11⟩
      refine xl_v (by first | exact v_pickT | exact v_pickF | exact v_pick) ?_
      refine xl_v v_move ?_
      refine xl_gv rfl EvO.eq v_move ?_
      refine xl_gv rfl EvO.eq (by first | exact v_loadA | exact v_loadF (by decide) (by omega)) ?_
      refine xl_gcall rfl EvO.eq (is_ok _ _ d (M.step x.t) Rf2 F2 w24 (hD5.ext (kpc : Keep NoB _ w24)) (hR5.ext (kpc : Keep NoB _ w24)) hs5) ?_
      rintro _ w25 ⟨rfl, lk12⟩
      refine xl_v (by first | exact v_pickT | exact v_pickF | exact v_pick) ?_
      refine xl_v v_move ?_
      refine xl_gv rfl EvO.eq v_move ?_
      refine xl_gv rfl EvO.eq v_move ?_
      refine xl_gcall rfl EvO.eq (same_ok _ _ _ _ d cc (M.step x.t) M w25 (hD5.ext (kpc : Keep NoB _ w25)) (hC4.toW.ext (kpc : Keep NoB _ w25))) ?_
      rintro _ w26 ⟨⟨r2, rfl, hr2, hr2b, hr2c⟩, lk13⟩
      have hr2s := both_eq hst hr2 hr2b hsm1 hsm2
      refine xl_gv rfl EvO.eq v_move ?_
      refine xl_gv rfl EvO.eq (v_congr (u := .bool true) v_beql (by simp [hr2s])) ?_
      refine xl_v (by first | exact v_pickT | exact v_pickF | exact v_pick) ?_
      refine xl_v v_move ?_
      refine xl_gv rfl EvO.eq v_move ?_
      refine xl_gv rfl EvO.eq v_move ?_
      refine xl_gcall rfl EvO.eq (same_ok _ _ _ _ cc d M (M.step x.t) w26 (hC4.toW.ext (kpc : Keep NoB _ w26)) (hD5.ext (kpc : Keep NoB _ w26))) ?_
      rintro _ w27 ⟨⟨r3, rfl, hr3, hr3b, hr3c⟩, lk14⟩
      have hr3s := both_eq hst (fun e => hr3 e.symm) (fun e => hr3b (fun e2 => e e2.symm)) hsm1 hsm2
      refine xl_gv rfl EvO.eq v_move ?_
      refine xl_gv rfl EvO.eq (v_congr (u := .bool true) v_beql (by simp [hr3s])) ?_
      refine xl_v (by first | exact v_pickT | exact v_pickF | exact v_pick) ?_
      refine xl_v v_move ?_
      refine xl_gv rfl EvO.eq v_move ?_
      refine xl_gv rfl EvO.eq v_move ?_
      refine xl_gcall rfl EvO.eq (same_ok _ _ _ _ a1 a2 ⟨1000, [], []⟩ ⟨1001, [], []⟩ w27 (hA1.ext (kpc : Keep NoB _ w27)) (hA2.ext (kpc : Keep NoB _ w27))) ?_
      rintro _ w28 ⟨⟨r4, rfl, hr4, hr4b, hr4c⟩, lk15⟩
      obtain rfl : r4 = false := hr4c (by decide)
      refine xl_gv rfl EvO.eq v_not ?_
      refine xl_v (by first | exact v_pickT | exact v_pickF | exact v_pick) ?_
      refine xl_v v_move ?_
      refine xl_gcall rfl EvO.eq (works_ok w28) ?_
      rintro _ w29 ⟨rfl, lkw⟩
      refine xl_v (by first | exact v_pickT | exact v_pickF | exact v_pick) ?_
      refine xl_v v_assign ?_
      refine xl_nil ?_
      refine x_ret ?_
      refine fin1 rfl ?_
      exact ⟨rfl, lkc⟩
end Go.Proofs.Ytabknhgbijcklaa
