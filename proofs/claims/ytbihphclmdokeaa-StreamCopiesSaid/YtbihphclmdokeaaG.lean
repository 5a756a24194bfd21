/-
  Walks, printed by a program of this workplace (wip/tools/sx.py) off the functions' code and a text of contracts.
-/
import Derived.Test.YtbihphclmdokeaaF
set_option linter.all false
set_option maxRecDepth 100000
set_option synthInstance.maxSize 100000
set_option synthInstance.maxHeartbeats 400000
namespace Go.Proofs.Ytbihphclmdokeaa
open Go.Wst
open Go.Wst.Sm

/-- (*waystation/stream.Machine).Round$1 -/
theorem round1_ok (i : Nat) (hi : i ≤ 1000000000) (x : Itm) (hx : valB x.val = true) (q : Rule × Nat) (hq : q.2 ≤ 1000000000) (id : Int) (rb ib : Nat) (w : World) [Blk w rb (.cells (rpC q).toArray 89 (0, 0))] [Blk w ib (.cells #[.int .i64 id] 3 (0, 0))] : Ret Try.prog 50 #[.int .i64 (i : Int), .agg (itemC x).toArray, .pointer (some ⟨rb, 0, none⟩), .pointer (some ⟨ib, 0, none⟩)] w (fun v w' => v = .agg (itemC ⟨make q.1 x.val, id, (q.2 : Int) + (i : Int)⟩).toArray ∧ Lk w' w NoB) := by
  have hv : In64 x.val := by simp [valB] at hx; constructor <;> omega
  refine ret_of_x (N := 18) (l := [.int .i64 (i : Int), .agg (itemC x).toArray, .pointer (some ⟨rb, 0, none⟩), .pointer (some ⟨ib, 0, none⟩)]) Try.func50 rfl rfl (Nat.le_of_ble_eq_true rfl) ?_
  refine x_seq ?_
  refine x_regionL ?_
  refine xl_e (e_box fun b1 w1 n1 l1 k1 => ?_)
  refine xl_e (e_alloc fun b2 w2 n2 l2 k2 => ?_)
  refine xl_nil ?_
  refine x_seq ?_
  refine x_drawL (NoB) (allS) (.take 0 (.take 1 (.take 2 (.take 3 (.take 5 (.take 6 (.take 7 (.take 8 (.take 9 (.eff 4 (.take 10 (.last 11)))))))))))) mixed (by kernel_rfl) (fun _ _ _ _ _ h => h) (fun w3 l3 => ?_)
  refine xt_v rfl (by first | exact v_fieldAddr | exact v_fieldAddrF (by decide) (by omega) | exact v_fieldAddrR (by first | assumption | rfl)) ?_
  refine xt_v rfl (by first | exact v_loadA | exact v_loadF (by decide) (by omega)) ?_
  refine xt_v rfl (by first | exact v_fieldAddr | exact v_fieldAddrF (by decide) (by omega) | exact v_fieldAddrR (by first | assumption | rfl)) ?_
  refine xt_v rfl (by first | exact v_load | exact v_loadO (by omega) | exact v_loadFf (by omega) | exact v_loadF0 (by omega)) ?_
  refine xt_v rfl (by first | exact v_load | exact v_loadO (by omega) | exact v_loadFf (by omega) | exact v_loadF0 (by omega)) ?_
  refine xt_v rfl (by first | exact v_fieldAddr | exact v_fieldAddrF (by decide) (by omega) | exact v_fieldAddrR (by first | assumption | rfl)) ?_
  refine xt_v rfl (by first | exact v_load | exact v_loadO (by omega) | exact v_loadFf (by omega) | exact v_loadF0 (by omega)) ?_
  refine xt_v rfl v_move ?_
  refine xt_v rfl (v_add (by omega)) ?_
  refine xt_call rfl (cmake_ok q.1 x.val hv _) ?_
  rintro _ w4 ⟨rfl, lk⟩
  refine ⟨kpc, ?_⟩
  refine xt_v rfl v_build ?_
  refine xt_lastS rfl (e_storeA fun w5 l5 k5 => ?_)
  refine x_ret ?_
  refine finR (rs := [.cell 6 74]) rfl ?_
  exact ⟨rfl, lkc⟩

/-- (*waystation/stream.Machine).of -/
theorem of_ok (b pb mb : Nat) (vs : List Value) (M : Mach) (id : Int) (w : World) (h : MachAt w b pb mb vs M) : Ret Try.prog 54 #[.pointer (some ⟨b, 0, none⟩), .int .i64 id] w (fun v w' => v = .tuple #[.agg (rpC ((akey M.rules id).getD (⟨0, 0, 0, 0, 0⟩, 0))).toArray, .int .i64 (if (akey M.rules id).isSome = true then 0 else 5)] ∧ Lk w' w NoB) := by
  obtain ⟨sp, hbs, hps⟩ := h.ex
  haveI hb : Blk w b _ := ⟨hbs⟩
  haveI hm : MapI w mb _ _ _ := ⟨h.hm⟩
  obtain ⟨q1, q2⟩ := rules_get M.rules id
  refine ret_of_x (N := 24) (l := [.pointer (some ⟨b, 0, none⟩), .int .i64 id]) Try.func54 rfl rfl (Nat.le_of_ble_eq_true rfl) ?_
  refine x_seq ?_
  refine x_regionL ?_
  refine xl_e (e_alloc fun b1 w1 n1 l1 k1 => ?_)
  refine xl_v v_assign ?_
  refine xl_nil ?_
  refine x_seq ?_
  refine x_seq ?_
  refine x_regionL ?_
  refine xl_v v_move ?_
  refine xl_call (none_ok _ _ _ _) ?_
  rintro _ _ ⟨rfl, rfl⟩
  refine xl_nil ?_
  refine x_condF ?_
  refine x_skip ?_
  refine x_seq ?_
  refine x_regionL ?_
  refine xl_v v_move ?_
  refine xl_v (by first | exact v_nilCheckP | exact v_nilCheckF | exact v_nilCheckR (by first | assumption | rfl)) ?_
  refine xl_v (by first | exact v_fieldAddr | exact v_fieldAddrF (by decide) (by omega) | exact v_fieldAddrR (by first | assumption | rfl)) ?_
  refine xl_v (by first | exact v_load | exact v_loadO (by omega) | exact v_loadFf (by omega) | exact v_loadF0 (by omega)) ?_
  refine xl_v v_move ?_
  refine xl_v (v_lookup2v id _ _ rfl q1 q2) ?_
  refine xl_v v_move ?_
  refine xl_v v_extract ?_
  refine xl_v v_extract ?_
  refine xl_e (e_alloc fun b3 w3 n3 l3 k3 => ?_)
  refine xl_s (e_storeA fun w4 l4 k4 => ?_)
  refine xl_v v_assign ?_
  refine xl_nil ?_
  refine x_seq ?_
  refine x_seq ?_
  refine x_regionL ?_
  refine xl_v v_move ?_
  refine xl_v v_not ?_
  refine xl_nil ?_
  refine x_condE (fun c2 => ?_) (fun c2 => ?_)
  ·
    refine x_seq ?_
    refine x_regionL ?_
    refine xl_v v_build ?_
    refine xl_s (e_storeA fun w5 l5 k5 => ?_)
    refine xl_v v_assign ?_
    refine xl_nil ?_
    refine x_ret ?_
    refine finR (rs := [.cell 4 89, .tmp 5]) rfl ?_
    refine ⟨?_, lkc⟩
    have hs : akey M.rules id = none := by simpa using c2
    rw [hs]
    rfl
  ·
    refine x_skip ?_
    refine x_seq ?_
    refine x_regionL ?_
    refine xl_v (by first | exact v_loadA | exact v_loadF (by decide) (by omega)) ?_
    refine xl_s (e_storeA fun w6 l6 k6 => ?_)
    refine xl_v v_assign ?_
    refine xl_nil ?_
    refine x_ret ?_
    refine finR (rs := [.cell 4 89, .tmp 5]) rfl ?_
    refine ⟨?_, lkc⟩
    have hs : (akey M.rules id).isSome = true := by simpa using c2
    rw [if_pos hs]
    rfl

/-- (*waystation/stream.Machine).Made$1 -/
theorem made1_ok (x : Itm) (id : Int) (ib : Nat) (w : World) [Blk w ib (.cells #[.int .i64 id] 3 (0, 0))] : Ret Try.prog 64 #[.agg (itemC x).toArray, .pointer (some ⟨ib, 0, none⟩)] w (fun v w' => v = .bool (!decide (x.rule = id)) ∧ Lk w' w NoB) := by
  refine ret_of_x (N := 8) (l := [.agg (itemC x).toArray, .pointer (some ⟨ib, 0, none⟩)]) Try.func64 rfl rfl (Nat.le_of_ble_eq_true rfl) ?_
  refine x_seq ?_
  refine x_regionL ?_
  refine xl_e (e_box fun b1 w1 n1 l1 k1 => ?_)
  refine xl_v v_assign ?_
  refine xl_nil ?_
  refine x_seq ?_
  refine x_regionL ?_
  refine xl_v (by first | exact v_fieldAddr | exact v_fieldAddrF (by decide) (by omega) | exact v_fieldAddrR (by first | assumption | rfl)) ?_
  refine xl_v (by first | exact v_load | exact v_loadO (by omega) | exact v_loadFf (by omega) | exact v_loadF0 (by omega)) ?_
  refine xl_v (by first | exact v_load | exact v_loadO (by omega) | exact v_loadFf (by omega) | exact v_loadF0 (by omega)) ?_
  refine xl_v v_neq ?_
  refine xl_v v_assign ?_
  refine xl_nil ?_
  refine x_ret ?_
  refine fin1 rfl ?_
  exact ⟨rfl, lkc⟩

/-- (*waystation/stream.Machine).Made$2 -/
theorem made2_ok (i : Int) (x : Itm) (w : World) : Ret Try.prog 66 #[.int .i64 i, .agg (itemC x).toArray] w (fun v w' => v = .int .i64 x.val ∧ Lk w' w NoB) := by
  refine ret_of_x (N := 7) (l := [.int .i64 i, .agg (itemC x).toArray]) Try.func66 rfl rfl (Nat.le_of_ble_eq_true rfl) ?_
  refine x_seq ?_
  refine x_regionL ?_
  refine xl_e (e_box fun b1 w1 n1 l1 k1 => ?_)
  refine xl_v v_assign ?_
  refine xl_nil ?_
  refine x_seq ?_
  refine x_regionL ?_
  refine xl_v (by first | exact v_fieldAddr | exact v_fieldAddrF (by decide) (by omega) | exact v_fieldAddrR (by first | assumption | rfl)) ?_
  refine xl_v (by first | exact v_load | exact v_loadO (by omega) | exact v_loadFf (by omega) | exact v_loadF0 (by omega)) ?_
  refine xl_v v_assign ?_
  refine xl_nil ?_
  refine x_ret ?_
  refine fin1 rfl ?_
  exact ⟨rfl, lkc⟩

/-- (*waystation/stream.Machine).Made -/
theorem made_ok (b pb mb : Nat) (vs : List Value) (M : Mach) (id : Int) (w : World) (h : MachAt w b pb mb vs M) (hok : M.ok) : Ret Try.prog 34 #[.pointer (some ⟨b, 0, none⟩), .int .i64 id] w (fun v w' => (match akey M.rules id with | none => v = .tuple #[.slice none 0 0, .int .i64 5] | some q => ∃ A n c, v = .tuple #[.slice A n c, .int .i64 0] ∧ w'.ownsRow w.heap.size 2 1 (.slice A n c) n ((((M.part q.1.out).filter (fun x => decide (x.rule = id))).map (fun x => x.val)).flatMap intC)) ∧ Lk w' w NoB) := by
  obtain ⟨sp, hbs, hps⟩ := h.ex
  haveI hb : Blk w b _ := ⟨hbs⟩
  refine ret_of_x (N := 33) (l := [.pointer (some ⟨b, 0, none⟩), .int .i64 id]) Try.func34 rfl rfl (Nat.le_of_ble_eq_true rfl) ?_
  refine x_seq ?_
  refine x_regionL ?_
  refine xl_e (e_box fun b1 w1 n1 l1 k1 => ?_)
  refine xl_v v_assign ?_
  refine xl_v v_assign ?_
  refine xl_nil ?_
  refine x_seq ?_
  refine x_regionL ?_
  refine xl_v v_move ?_
  refine xl_v (by first | exact v_load | exact v_loadO (by omega) | exact v_loadFf (by omega) | exact v_loadF0 (by omega)) ?_
  refine xl_call (of_ok _ _ _ _ _ _ _ (MachAt.keep (by assumption) kpc (fun _ _ h => h))) ?_
  rintro _ w2 ⟨rfl, lk⟩
  refine xl_v v_move ?_
  refine xl_v v_extract ?_
  refine xl_v v_extract ?_
  refine xl_e (e_alloc fun b3 w3 n3 l3 k3 => ?_)
  refine xl_s (e_storeA fun w4 l4 k4 => ?_)
  refine xl_v v_assign ?_
  refine xl_nil ?_
  refine x_seq ?_
  refine x_seq ?_
  refine x_regionL ?_
  refine xl_v v_move ?_
  refine xl_v (v_neq) ?_
  refine xl_nil ?_
  refine x_condN (fun c1 => ?_) (fun c1 => ?_)
  ·
    refine x_seq ?_
    refine x_regionL ?_
    refine xl_v v_move ?_
    refine xl_v v_assign ?_
    refine xl_v v_assign ?_
    refine xl_nil ?_
    refine x_ret ?_
    refine fin2 rfl ?_
    refine ⟨?_, lkc⟩
    cases hq : akey M.rules id with
    | none => rfl
    | some q => simp [hq] at c1
  ·
    obtain ⟨q, hq⟩ : ∃ q, akey M.rules id = some q := by
      cases hq : akey M.rules id with
      | none => simp [hq] at c1
      | some q => exact ⟨q, rfl⟩
    obtain ⟨hr1, hr2, hr3, hr4, hr5⟩ := hok.rules _ (akey_mem hq)
    simp only at hr1 hr2 hr3 hr4 hr5
    have hp0 : q.1.out = (q.1.out.toNat : Int) := by simp [Mach.hasB] at hr4; omega
    have hp1 : q.1.out.toNat < M.parts.length := by simp [Mach.hasB] at hr4; omega
    have hlong := hok.long _ (Mach.part_mem hr4)
    obtain ⟨A, cap, hV, hown, hrow, hcap⟩ := h.part hr4
    haveI hbp : Blk w pb _ := ⟨hps⟩
    haveI hR : Row w4 A _ := ⟨hrow.keep (kpc : Keep NoB w w4) (fun _ _ h => h)⟩
    refine x_skip ?_
    refine x_seq ?_
    refine x_drawL (NewS w4) (allS) (.take 0 (.take 1 (.take 2 (.take 3 (.take 4 (.take 5 (.take 6 (.take 7 (.take 8 (.take 9 (.take 11 (.eff 10 (.eff 12 (.take 13 .done)))))))))))))) mixed (by kernel_rfl) (fun _ _ _ _ _ h => h) (fun w5 l5 => ?_)
    refine xt_v rfl v_move ?_
    refine xt_v rfl (by first | exact v_nilCheckP | exact v_nilCheckF | exact v_nilCheckR (by first | assumption | rfl)) ?_
    refine xt_v rfl (by first | exact v_fieldAddr | exact v_fieldAddrF (by decide) (by omega) | exact v_fieldAddrR (by first | assumption | rfl)) ?_
    refine xt_v rfl (by first | exact v_fieldAddr | exact v_fieldAddrF (by decide) (by omega) | exact v_fieldAddrR (by first | assumption | rfl)) ?_
    refine xt_v rfl (by first | exact v_load | exact v_loadO (by omega) | exact v_loadFf (by omega) | exact v_loadF0 (by omega)) ?_
    refine xt_v rfl (by first | exact v_fieldAddr | exact v_fieldAddrF (by decide) (by omega) | exact v_fieldAddrR (by first | assumption | rfl)) ?_
    refine xt_v rfl (by first | exact v_fieldAddr | exact v_fieldAddrF (by decide) (by omega) | exact v_fieldAddrR (by first | assumption | rfl)) ?_
    refine xt_v rfl (by first | exact v_load | exact v_loadO (by omega) | exact v_loadFf (by omega) | exact v_loadF0 (by omega)) ?_
    refine xt_v rfl (v_indexAddr q.1.out.toNat (by simpa [hq] using hp0) hp1 rfl) ?_
    refine xt_v rfl (v_loadR (by have := get_app (m := sp) hV; simpa using this)) ?_
    refine xt_v rfl v_makeFunc ?_
    refine xt_call rfl (clonex_ok A _ cap (itemsC (M.part q.1.out)) _ (itemsC_len _) (by omega) (itemsC_one _) (by rcases Nat.eq_zero_or_pos (M.part q.1.out).length with h0 | h0; exact .inr h0; exact .inl (row_some hR (by rw [itemsC_len]; omega)))) ?_
    rintro _ w6 ⟨⟨A5, c5, rfl, ho5⟩, lk5⟩
    refine ⟨kpc, ?_⟩
    haveI := ownA_of ho5 (Nat.le_refl _)
    refine xt_call rfl (deletex_ok A5 _ c5 _ (M.part q.1.out) _ [_] (fun x => !decide (x.rule = id)) _ (own_ext ho5 lkc) rfl (by omega) (fun x _ W l => made1_ok x id _ W)) ?_
    rintro _ w7 ⟨⟨k6, rfl, ho6, hk6⟩, lk6⟩
    refine ⟨kpc, ?_⟩
    refine xt_v rfl v_assign ?_
    refine xt_nil ?_
    refine x_seq ?_
    refine x_regionL ?_
    refine xl_v v_move ?_
    obtain ⟨_, _, hA6, _, _, hrow6⟩ := ownsRow_form ho6
    cases hA6
    haveI : Row w7 A5 _ := ⟨hrow6⟩
    have hk7 : k6 ≤ 4096 := by
      rw [hk6]
      exact Nat.le_trans (List.length_filter_le _ _) hlong
    refine xl_call (eachxi_ok A5 k6 c5 ((M.part q.1.out).filter (fun x => !(!decide (x.rule = id)))) _ [] (fun _ x => x.val) _ hk6.symm (by omega) (fun i hi W l => made2_ok i _ W)) ?_
    rintro _ w8 ⟨⟨A7, c7, rfl, ho7⟩, lk7⟩
    refine xl_v v_assign ?_
    refine xl_v v_assign ?_
    refine xl_nil ?_
    refine x_ret ?_
    refine fin2 rfl ?_
    refine ⟨?_, lkc⟩
    simp only [hq]
    refine ⟨A7, k6, c7, rfl, ?_⟩
    have h9 := own_mono ho7 (Ge.le (w := w))
    simpa [mapIdx_const] using h9
end Go.Proofs.Ytbihphclmdokeaa
