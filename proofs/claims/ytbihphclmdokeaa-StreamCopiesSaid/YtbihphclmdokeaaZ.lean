/-
  Walks, printed by a program of this workplace (wip/tools/sx.py) off the functions' code and a text of contracts.
-/
import Derived.Test.YtbihphclmdokeaaY
set_option linter.all false
set_option maxRecDepth 100000
set_option synthInstance.maxSize 100000
set_option synthInstance.maxHeartbeats 400000
namespace Go.Proofs.Ytbihphclmdokeaa
open Go.Wst
open Go.Wst.Sm
theorem ids_srt (M : Mach) : M.ids = (srt M.rules).map (·.1) := by rw [srt_keys]; rfl
theorem refOf_ids {M : Mach} (hok : M.ok) : (refOf M).rows.map (fun q => q.1.id) = M.ids := by
  rw [ids_srt]
  simp only [refOf, List.map_map]
  exact List.map_congr_left (fun p hp => rows_of hok p hp)
theorem refOf_len (M : Mach) : (refOf M).rows.length = M.ids.length := by rw [ids_srt]; simp [refOf]
theorem ids_round (M : Mach) (id most : Int) : (M.roundM id most).ids = M.ids := by
  unfold Mach.roundM
  cases hq : akey M.rules id with
  | none => rfl
  | some q =>
    simp only []
    split
    · have hany : M.rules.any (fun p => decide (p.1 = id)) = true := List.any_eq_true.2 ⟨_, akey_mem hq, by simp⟩
      simp only [Mach.ids, keys_aput, hany, if_true]
    · rfl
theorem ids_pass (M : Mach) : ∀ l : List Int, (M.pass l).1.ids = M.ids := by
  intro l
  induction l generalizing M with
  | nil => rfl
  | cons id l ih => exact (ih _).trans (ids_round M id 4096)
theorem round_not {M : Mach} {id most : Int} (h : M.roundNo id most ≠ 0) : M.roundM id most = M ∧ M.roundN id most = 0 := by
  unfold Mach.roundM Mach.roundN
  cases akey M.rules id with
  | none => exact ⟨rfl, rfl⟩
  | some q => simp only []; rw [if_neg h, if_neg h]; exact ⟨rfl, rfl⟩
/-- Round, of the machine that the document has in M's place. -/
theorem refRoundM_ok (F : Nat → Prop) (D : RD) (M : Mach) (id most : Int) (w : World) (h : RefAt w F D (refOf M)) (hok : M.ok) :
    Ret Try.prog 58 #[refV D (refOf M), .int .i64 id, .int .i64 most] w (fun x w' => (∃ F' D', x = .tuple #[refV D' (refOf (M.roundM id most)), .int .i64 (M.roundN id most : Int), .int .i64 (M.roundNo id most)] ∧ RefAt w' F' D' (refOf (M.roundM id most)) ∧ Sub F' F w) ∧ Lk w' w NoB) := by
  obtain ⟨e1, e2, e3⟩ := round_ref hok id most
  have := refRound_ok F D (refOf M) id most w h (refOf_ok hok)
  rw [e1, e2, e3] at this
  exact this

/-- (waystation/waystationref14.Machine).Drain -/
theorem refDrain_ok (F : Nat → Prop) (D : RD) (M : Mach) (rounds : Int) (w : World) (h : RefAt w F D (refOf M)) (hok : M.ok) (hr3 : rounds ≤ 3) : Ret Try.prog 59 #[refV D (refOf M), .int .i64 rounds] w (fun x w' => (∃ F' D', x = .tuple #[refV D' (refOf (M.drain rounds.toNat).1), .int .i64 ((M.drain rounds.toNat).2 : Int)] ∧ RefAt w' F' D' (refOf (M.drain rounds.toNat).1) ∧ Sub F' F w) ∧ Lk w' w NoB) := by
  refine ret_of_x (N := 51) (l := [refV D (refOf M), .int .i64 rounds]) Try.func59 rfl rfl (Nat.le_of_ble_eq_true rfl) ?_
  refine x_seq ?_
  refine x_regionL ?_
  refine xl_e (e_box fun b1 w1 n1 l1 k1 => ?_)
  refine xl_e (e_alloc fun b2 w2 n2 l2 k2 => ?_)
  refine xl_v v_assign ?_
  refine xl_nil ?_
  refine x_seq ?_
  refine x_regionL ?_
  refine xl_v v_assign ?_
  refine xl_nil ?_
  refine x_seq ?_
  refine x_seq ?_
  refine x_regionL ?_
  refine xl_v v_assign ?_
  refine xl_nil ?_
  refine x_block ?_
  obtain ⟨n, hn⟩ : ∃ n, n = rounds.toNat := ⟨_, rfl⟩
  have hws : w.heap.size ≤ (w2).heap.size := Ge.le
  have hb1 : w.heap.size ≤ b1 ∧ b1 < (w2).heap.size := ⟨by rw [n1.eq]; exact Nat.le_refl _, Has.lt⟩
  have hb2 : w.heap.size ≤ b2 ∧ b2 < (w2).heap.size := ⟨by rw [n2.eq]; exact Ge.le, Has.lt⟩
  refine x_loop (fun m τ ds w' => ds = [] ∧ ∃ (k all : Nat) (Fk : Nat → Prop) (Dk : RD) (Mk : Mach), m = n - k ∧ k ≤ n ∧ all ≤ k * 4096000 ∧ M.drain n = ((Mk.drain (n - k)).1, all + (Mk.drain (n - k)).2) ∧ Mk.ok ∧ RefAt w' Fk Dk (refOf Mk) ∧ Sub Fk F w2 ∧ Ev τ 1 (.int .i64 rounds) ∧ Ev τ 2 (.pointer (some ⟨b1, 0, none⟩)) ∧ Ev τ 4 (.pointer (some ⟨b2, 0, none⟩)) ∧ Ev τ 6 (.int .i64 (all : Int)) ∧ Ev τ 7 (.int .i64 (k : Int)) ∧ Blk w' b1 (.cells (refC Dk (refOf Mk)).toArray 51 (0, 0)) ∧ Lk w' w2 (OneB b1)) (n) ?start ?round
  case start =>
    exact ⟨rfl, 0, 0, F, D, M, rfl, Nat.zero_le _, Nat.le_refl _, by simp, hok, h.ext lkc, Sub.refl _ _, inferInstance, inferInstance, inferInstance, evc, evc, inferInstance, lkc⟩
  case round =>
    intro m τ3 ds3 w3 hI
    obtain ⟨rfl, k, all, Fk, Dk, Mk, rfl, hk, hall, hdr, hko, hRk, hsk, e1, e2, e4, e6, e7, kb, lk⟩ := hI
    have hdk : ∀ j, n - k = j + 1 → Mk.drain (n - k) = if (Mk.pass Mk.ids).2 = 0 then ((Mk.pass Mk.ids).1, 0) else (((Mk.pass Mk.ids).1.drain j).1, (Mk.pass Mk.ids).2 + ((Mk.pass Mk.ids).1.drain j).2) := fun j hj => by rw [hj]; rfl
    refine x_seq ?_
    refine x_seq ?_
    refine x_regionL ?_
    refine xl_v v_move ?_
    refine xl_v v_move ?_
    refine xl_v v_lss ?_
    refine xl_nil ?_
    first | refine x_condP (fun c1 => ?_) (fun c1 => ?_) | refine x_condN (fun c1 => ?_) (fun c1 => ?_) | refine x_condE (fun c1 => ?_) (fun c1 => ?_)
    ·
      have hil := hko.ids_len
      have hkn : k + 1 ≤ n := by omega
      refine x_skip ?_
      refine x_seq ?_
      refine x_block ?_
      refine x_seq ?_
      refine x_regionL ?_
      refine xl_v v_move ?_
      refine xl_v v_assign ?_
      refine xl_nil ?_
      refine x_seq ?_
      refine x_seq ?_
      refine x_regionL ?_
      refine xl_v v_assign ?_
      refine xl_nil ?_
      refine x_block ?_
      refine x_loop (fun m τ ds w' => ds = [] ∧ ∃ (i : Nat) (Fi : Nat → Prop) (Di : RD), m = Mk.ids.length - i ∧ i ≤ Mk.ids.length ∧ RefAt w' Fi Di (refOf (Mk.pass (Mk.ids.take i)).1) ∧ Sub Fi F w2 ∧ Ev τ 1 (.int .i64 rounds) ∧ Ev τ 2 (.pointer (some ⟨b1, 0, none⟩)) ∧ Ev τ 4 (.pointer (some ⟨b2, 0, none⟩)) ∧ Ev τ 6 (.int .i64 ((all + (Mk.pass (Mk.ids.take i)).2 : Nat) : Int)) ∧ Ev τ 7 (.int .i64 (k : Int)) ∧ Ev τ 8 (.int .i64 (all : Int)) ∧ Ev τ 9 (.int .i64 (i : Int)) ∧ Blk w' b1 (.cells (refC Di (refOf (Mk.pass (Mk.ids.take i)).1)).toArray 51 (0, 0)) ∧ Lk w' w2 (OneB b1)) (Mk.ids.length) ?start ?round
      case start =>
        exact ⟨rfl, 0, Fk, Dk, rfl, Nat.zero_le _, hRk.ext lkc, hsk, inferInstance, inferInstance, inferInstance, evc (by simp [Mach.pass]), inferInstance, inferInstance, evc, inferInstance, lkc⟩
      case round =>
        intro m τ4 ds4 w4 hI
        obtain ⟨rfl, i, Fi, Di, rfl, hi, hRi, hsi, f1, f2, f4, f6, f7, f8, f9, kb2, lk2⟩ := hI
        obtain ⟨hpo, hpl⟩ := hko.pass (Mk.ids.take i)
        have hlen : (refOf (Mk.pass (Mk.ids.take i)).1).rows.length = Mk.ids.length := by rw [refOf_len, ids_pass]
        have hpl2 : (Mk.pass (Mk.ids.take i)).2 ≤ 4096000 := by
          have : (Mk.ids.take i).length ≤ 1000 := by rw [List.length_take]; omega
          omega
        haveI : Row w4 Di.RA _ := ⟨hRi.r.row⟩
        haveI := hRi.r.old hRi.lt
        have hnb1 : ¬ Fi b1 := sub_ne hsi h.lt hb1.1 hb1.2
        have hnb2 : ¬ Fi b2 := sub_ne hsi h.lt hb2.1 hb2.2
        refine x_seq ?_
        refine x_seq ?_
        refine x_regionL ?_
        refine xl_v v_move ?_
        refine xl_v (by first | exact v_fieldAddr | exact v_fieldAddrF (by decide) (by omega) | exact v_fieldAddrR (by first | assumption | rfl)) ?_
        refine xl_v (by first | exact v_load | exact v_loadO (by omega) | exact v_loadFf (by omega) | exact v_loadF0 (by omega)) ?_
        refine xl_v v_len ?_
        refine xl_v v_lss ?_
        refine xl_nil ?_
        first | refine x_condP (fun c2 => ?_) (fun c2 => ?_) | refine x_condN (fun c2 => ?_) (fun c2 => ?_) | refine x_condE (fun c2 => ?_) (fun c2 => ?_)
        ·
          have hi1 : i < Mk.ids.length := by omega
          have hrl := hpo.roundN_le Mk.ids[i] 4096
          have hi2 : i < (refOf (Mk.pass (Mk.ids.take i)).1).rows.length := by omega
          have hid : (refOf (Mk.pass (Mk.ids.take i)).1).rows[i].1.id = Mk.ids[i] := by
            have h1 := refOf_ids hpo
            rw [ids_pass] at h1
            have h2 := congrArg (fun l => l[i]?) h1
            simpa [hi1, hi2] using h2
          refine x_skip ?_
          refine x_seq ?_
          refine x_block ?_
          refine x_seq ?_
          refine x_drawL (NewS w4) (allS) (.take 0 (.take 1 (.take 2 (.take 3 (.take 4 (.take 5 (.take 6 (.fork 7 (.take 8 (.take 9 (.take 10 (.take 11 (.eff 12 (.eff 13 (.take 14 (.take 15 .done)))))))) 12 (.eff 7 (.take 8 (.take 9 (.take 10 (.take 11 (.eff 13 (.take 14 (.take 15 .done)))))))))))))))) mixed (by kernel_rfl) (fun _ _ _ _ _ h => h) (fun w5 l5 => ?_)
          refine xt_v rfl (by first | exact v_loadA | exact v_loadF (by decide) (by omega)) ?_
          refine xt_v rfl (by first | exact v_fieldAddr | exact v_fieldAddrF (by decide) (by omega) | exact v_fieldAddrR (by first | assumption | rfl)) ?_
          refine xt_v rfl (by first | exact v_load | exact v_loadO (by omega) | exact v_loadFf (by omega) | exact v_loadF0 (by omega)) ?_
          refine xt_v rfl v_move ?_
          refine xt_v rfl (by first | exact v_indexAddr _ rfl (by omega) (by assumption) | exact v_indexO _ rfl (by omega) (by omega) | exact v_indexF _ (by decide) rfl (by omega) (by omega)) ?_
          refine xt_v rfl (by first | exact v_fieldAddr | exact v_fieldAddrF (by decide) (by omega) | exact v_fieldAddrR (by first | assumption | rfl)) ?_
          refine xt_v rfl (by first | exact v_load | exact v_loadO (by omega) | exact v_loadFf (by omega) | exact v_loadF0 (by omega)) ?_
          rw [hid]
          refine xt_fork ?_ ?_
          ·
            refine xt_call rfl (refRoundM_ok Fi Di (Mk.pass (Mk.ids.take i)).1 Mk.ids[i] 4096 w5 (hRi.ext lkc) hpo) ?_
            rintro _ w6 ⟨⟨F7, D7, rfl, h7, s7⟩, lk7⟩
            refine ⟨kpc, ?_⟩
            have hs7 : Sub F7 F _ := s7.trans hsi (Ge.le)
            refine xt_v rfl v_move ?_
            refine xt_v rfl v_extract ?_
            refine xt_v rfl v_extract ?_
            refine xt_v rfl v_extract ?_
            refine xt_e rfl (e_alloc fun ba w7 na la ka => ?_)
            refine xt_s rfl (e_storeA fun w8 l8 k8 => ?_)
            have hnba : ¬ F7 ba := by
              first
                | exact fun e => by have h1 := h7.lt _ e; have h2 := na.eq; omega
                | exact fun e => (s7 _ e).elim (fun e => by have h1 := hRi.lt _ e; have h4 : (w4).heap.size ≤ ba := (by rw [na.eq]; exact Ge.le); omega) (fun e => absurd e (Nat.not_le_of_lt Has.lt))
            have h7E := h7.keep (kpc : Keep (OneB ba) _ w8) (fun j hj e => hnba (by have e' : j = ba := e; exact e' ▸ hj))
            refine xt_v rfl v_assign ?_
            refine xt_v rfl v_assign ?_
            refine xt_nil ?_
            refine x_seq ?_
            refine x_regionL ?_
            refine xl_v v_move ?_
            refine xl_v v_eql ?_
            refine xl_nil ?_
            first | refine x_condP (fun c3 => ?_) (fun c3 => ?_) | refine x_condN (fun c3 => ?_) (fun c3 => ?_) | refine x_condE (fun c3 => ?_) (fun c3 => ?_)
            ·
              refine x_regionL ?_
              refine xl_v (by first | exact v_loadA | exact v_loadF (by decide) (by omega)) ?_
              refine xl_v v_move ?_
              refine xl_v v_move ?_
              refine xl_v (v_add (by omega)) ?_
              refine xl_s (e_storeA fun w9 l11 k11 => ?_)
              refine xl_v v_assign ?_
              refine xl_nil ?_
              refine x_regionL ?_
              refine xl_v v_move ?_
              refine xl_v (v_add (by omega)) ?_
              refine xl_v v_assign ?_
              refine xl_nil ?_
              first
              | refine ⟨_, by omega, rfl, i + 1, F7, D7, rfl, by omega, ?_, hs7, inferInstance, inferInstance, inferInstance, evc (by rw [take_snoc _ _ hi1, Mach.pass_snoc]; congr 1; dsimp only; omega), inferInstance, inferInstance, evc, ?_, lkc⟩
                · rw [take_snoc _ _ hi1, Mach.pass_snoc]
                  exact (h7E.ext lkc).keep l11.keep (fun j hj e => sub_ne hs7 h.lt hb1.1 hb1.2 (by have e' : j = b1 := e; exact e' ▸ hj))
                · rw [take_snoc _ _ hi1, Mach.pass_snoc]
                  exact k11
              | refine ⟨_, by omega, rfl, i + 1, Fi, Di, rfl, by omega, ?_, hsi, inferInstance, inferInstance, inferInstance, evc (by rw [take_snoc _ _ hi1, Mach.pass_snoc, (round_not c3).2]; rfl), inferInstance, inferInstance, evc, ?_, lkc⟩
                · rw [take_snoc _ _ hi1, Mach.pass_snoc, (round_not c3).1]
                  exact hRi.keep (kpc : Keep (NewS w4) w4 w9) (fun j hj e => by have := hRi.lt j hj; have e' : _ ≤ j := e; omega)
                · rw [take_snoc _ _ hi1, Mach.pass_snoc, (round_not c3).1]
                  exact inferInstance
            ·
              refine x_skip ?_
              refine x_regionL ?_
              refine xl_v v_move ?_
              refine xl_v (v_add (by omega)) ?_
              refine xl_v v_assign ?_
              refine xl_nil ?_
              first
              | refine ⟨_, by omega, rfl, i + 1, F7, D7, rfl, by omega, ?_, hs7, inferInstance, inferInstance, inferInstance, evc (by rw [take_snoc _ _ hi1, Mach.pass_snoc]; congr 1; dsimp only; omega), inferInstance, inferInstance, evc, ?_, lkc⟩
                · rw [take_snoc _ _ hi1, Mach.pass_snoc]
                  exact (h7E.ext lkc).keep l11.keep (fun j hj e => sub_ne hs7 h.lt hb1.1 hb1.2 (by have e' : j = b1 := e; exact e' ▸ hj))
                · rw [take_snoc _ _ hi1, Mach.pass_snoc]
                  exact k11
              | refine ⟨_, by omega, rfl, i + 1, Fi, Di, rfl, by omega, ?_, hsi, inferInstance, inferInstance, inferInstance, evc (by rw [take_snoc _ _ hi1, Mach.pass_snoc, (round_not c3).2]; rfl), inferInstance, inferInstance, evc, ?_, lkc⟩
                · rw [take_snoc _ _ hi1, Mach.pass_snoc, (round_not c3).1]
                  exact hRi.keep (kpc : Keep (NewS w4) w4 w8) (fun j hj e => by have := hRi.lt j hj; have e' : _ ≤ j := e; omega)
                · rw [take_snoc _ _ hi1, Mach.pass_snoc, (round_not c3).1]
                  exact inferInstance
          ·
            refine xt_e rfl (e_alloc fun ba w10 na la ka => ?_)
            refine xt_call rfl (refRoundM_ok Fi Di (Mk.pass (Mk.ids.take i)).1 Mk.ids[i] 4096 w10 (hRi.ext lkc) hpo) ?_
            rintro _ w11 ⟨⟨F7, D7, rfl, h7, s7⟩, lk7⟩
            refine ⟨kpc, ?_⟩
            have hs7 : Sub F7 F _ := s7.trans hsi (Ge.le)
            refine xt_v rfl v_move ?_
            refine xt_v rfl v_extract ?_
            refine xt_v rfl v_extract ?_
            refine xt_v rfl v_extract ?_
            refine xt_s rfl (e_storeA fun w12 l12 k12 => ?_)
            have hnba : ¬ F7 ba := by
              first
                | exact fun e => by have h1 := h7.lt _ e; have h2 := na.eq; omega
                | exact fun e => (s7 _ e).elim (fun e => by have h1 := hRi.lt _ e; have h4 : (w4).heap.size ≤ ba := (by rw [na.eq]; exact Ge.le); omega) (fun e => absurd e (Nat.not_le_of_lt Has.lt))
            have h7E := h7.keep (kpc : Keep (OneB ba) _ w12) (fun j hj e => hnba (by have e' : j = ba := e; exact e' ▸ hj))
            refine xt_v rfl v_assign ?_
            refine xt_v rfl v_assign ?_
            refine xt_nil ?_
            refine x_seq ?_
            refine x_regionL ?_
            refine xl_v v_move ?_
            refine xl_v v_eql ?_
            refine xl_nil ?_
            first | refine x_condP (fun c3 => ?_) (fun c3 => ?_) | refine x_condN (fun c3 => ?_) (fun c3 => ?_) | refine x_condE (fun c3 => ?_) (fun c3 => ?_)
            ·
              refine x_regionL ?_
              refine xl_v (by first | exact v_loadA | exact v_loadF (by decide) (by omega)) ?_
              refine xl_v v_move ?_
              refine xl_v v_move ?_
              refine xl_v (v_add (by omega)) ?_
              refine xl_s (e_storeA fun w13 l11 k11 => ?_)
              refine xl_v v_assign ?_
              refine xl_nil ?_
              refine x_regionL ?_
              refine xl_v v_move ?_
              refine xl_v (v_add (by omega)) ?_
              refine xl_v v_assign ?_
              refine xl_nil ?_
              first
              | refine ⟨_, by omega, rfl, i + 1, F7, D7, rfl, by omega, ?_, hs7, inferInstance, inferInstance, inferInstance, evc (by rw [take_snoc _ _ hi1, Mach.pass_snoc]; congr 1; dsimp only; omega), inferInstance, inferInstance, evc, ?_, lkc⟩
                · rw [take_snoc _ _ hi1, Mach.pass_snoc]
                  exact (h7E.ext lkc).keep l11.keep (fun j hj e => sub_ne hs7 h.lt hb1.1 hb1.2 (by have e' : j = b1 := e; exact e' ▸ hj))
                · rw [take_snoc _ _ hi1, Mach.pass_snoc]
                  exact k11
              | refine ⟨_, by omega, rfl, i + 1, Fi, Di, rfl, by omega, ?_, hsi, inferInstance, inferInstance, inferInstance, evc (by rw [take_snoc _ _ hi1, Mach.pass_snoc, (round_not c3).2]; rfl), inferInstance, inferInstance, evc, ?_, lkc⟩
                · rw [take_snoc _ _ hi1, Mach.pass_snoc, (round_not c3).1]
                  exact hRi.keep (kpc : Keep (NewS w4) w4 w13) (fun j hj e => by have := hRi.lt j hj; have e' : _ ≤ j := e; omega)
                · rw [take_snoc _ _ hi1, Mach.pass_snoc, (round_not c3).1]
                  exact inferInstance
            ·
              refine x_skip ?_
              refine x_regionL ?_
              refine xl_v v_move ?_
              refine xl_v (v_add (by omega)) ?_
              refine xl_v v_assign ?_
              refine xl_nil ?_
              first
              | refine ⟨_, by omega, rfl, i + 1, F7, D7, rfl, by omega, ?_, hs7, inferInstance, inferInstance, inferInstance, evc (by rw [take_snoc _ _ hi1, Mach.pass_snoc]; congr 1; dsimp only; omega), inferInstance, inferInstance, evc, ?_, lkc⟩
                · rw [take_snoc _ _ hi1, Mach.pass_snoc]
                  exact (h7E.ext lkc).keep l11.keep (fun j hj e => sub_ne hs7 h.lt hb1.1 hb1.2 (by have e' : j = b1 := e; exact e' ▸ hj))
                · rw [take_snoc _ _ hi1, Mach.pass_snoc]
                  exact k11
              | refine ⟨_, by omega, rfl, i + 1, Fi, Di, rfl, by omega, ?_, hsi, inferInstance, inferInstance, inferInstance, evc (by rw [take_snoc _ _ hi1, Mach.pass_snoc, (round_not c3).2]; rfl), inferInstance, inferInstance, evc, ?_, lkc⟩
                · rw [take_snoc _ _ hi1, Mach.pass_snoc, (round_not c3).1]
                  exact hRi.keep (kpc : Keep (NewS w4) w4 w12) (fun j hj e => by have := hRi.lt j hj; have e' : _ ≤ j := e; omega)
                · rw [take_snoc _ _ hi1, Mach.pass_snoc, (round_not c3).1]
                  exact inferInstance
        ·
          have hplz := (hko.pass Mk.ids).2
          have hie : i = Mk.ids.length := by omega
          rw [hie, List.take_of_length_le (Nat.le_refl _)] at hRi f6 kb2
          refine x_exit ?_
          refine x_seq ?_
          refine x_regionL ?_
          refine xl_v v_move ?_
          refine xl_v v_move ?_
          refine xl_v v_eql ?_
          refine xl_nil ?_
          first | refine x_condP (fun c4 => ?_) (fun c4 => ?_) | refine x_condN (fun c4 => ?_) (fun c4 => ?_) | refine x_condE (fun c4 => ?_) (fun c4 => ?_)
          ·
            have h0 : (Mk.pass Mk.ids).2 = 0 := by omega
            have hfin : M.drain n = ((Mk.pass Mk.ids).1, all + (Mk.pass Mk.ids).2) := by
              rw [hdr, hdk (n - k - 1) (by omega), if_pos h0, h0]
            refine x_seq ?_
            refine x_regionL ?_
            refine xl_v (by first | exact v_loadA | exact v_loadF (by decide) (by omega)) ?_
            refine xl_v v_move ?_
            refine xl_s (e_storeA fun w14 l14 k14 => ?_)
            refine xl_v v_assign ?_
            refine xl_nil ?_
            refine x_ret ?_
            refine finR (rs := [.cell 4 51, .tmp 5]) rfl ?_
            have hnb := sub_ne hsi h.lt hb2.1 hb2.2
            have hE := hRi.keep (kpc : Keep (OneB b2) _ w14) (fun j hj e => hnb (by have e' : j = b2 := e; exact e' ▸ hj))
            refine ⟨⟨Fi, Di, ?_, ?_, fun j hj => (hsi j hj).imp id (fun e => Nat.le_trans hws e)⟩, lkc⟩
            · rw [← hn, hfin]; rfl
            · rw [← hn, hfin]; exact hE
          ·
            refine x_skip ?_
            refine x_regionL ?_
            refine xl_v v_move ?_
            refine xl_v (v_add (by omega)) ?_
            refine xl_v v_assign ?_
            refine xl_nil ?_
            refine ⟨_, by omega, rfl, k + 1, all + (Mk.pass Mk.ids).2, Fi, Di, (Mk.pass Mk.ids).1, rfl, by omega, by omega, ?_, (hko.pass Mk.ids).1, hRi, hsi, inferInstance, inferInstance, inferInstance, evc, evc, inferInstance, lkc⟩
            rw [hdr, hdk (n - k - 1) (by omega), if_neg (by omega), show n - k - 1 = n - (k + 1) by omega]
            simp only [Nat.add_assoc]
    ·
      have hkn : k = n := by omega
      have hfin : M.drain n = (Mk, all) := by
        rw [hdr, hkn, Nat.sub_self]; simp [Mach.drain]
      refine x_exit ?_
      refine x_seq ?_
      refine x_regionL ?_
      refine xl_v (by first | exact v_loadA | exact v_loadF (by decide) (by omega)) ?_
      refine xl_v v_move ?_
      refine xl_s (e_storeA fun w15 l15 k15 => ?_)
      refine xl_v v_assign ?_
      refine xl_nil ?_
      refine x_ret ?_
      refine finR (rs := [.cell 4 51, .tmp 5]) rfl ?_
      have hnb := sub_ne hsk h.lt hb2.1 hb2.2
      have hE := hRk.keep (kpc : Keep (OneB b2) _ w15) (fun j hj e => hnb (by have e' : j = b2 := e; exact e' ▸ hj))
      refine ⟨⟨Fk, Dk, ?_, ?_, fun j hj => (hsk j hj).imp id (fun e => Nat.le_trans hws e)⟩, lkc⟩
      · rw [← hn, hfin]; rfl
      · rw [← hn, hfin]; exact hE
end Go.Proofs.Ytbihphclmdokeaa
