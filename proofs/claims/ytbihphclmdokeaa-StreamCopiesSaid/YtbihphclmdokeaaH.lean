/-
  Walks, printed by a program of this workplace (wip/tools/sx.py) off the functions' code and a text of contracts.
-/
import Derived.Test.YtbihphclmdokeaaG
set_option linter.all false
set_option maxRecDepth 100000
set_option synthInstance.maxSize 100000
set_option synthInstance.maxHeartbeats 400000
namespace Go.Proofs.Ytbihphclmdokeaa
open Go.Wst
open Go.Wst.Sm

/-- (*waystation/stream.Machine).Round -/
theorem round_ok (b pb mb : Nat) (vs : List Value) (M : Mach) (id most : Int) (w : World) (h : MachAt w b pb mb vs M) (hok : M.ok) : Ret Try.prog 23 #[.pointer (some ⟨b, 0, none⟩), .int .i64 id, .int .i64 most] w (fun x w' => x = .tuple #[.int .i64 (M.roundN id most : Int), .int .i64 (M.roundNo id most)] ∧ Lk w' w (MachF b pb mb vs) ∧ ∃ vs', MachAt w' b pb mb vs' (M.roundM id most) ∧ Sub (MachF b pb mb vs') (MachF b pb mb vs) w) := by
  obtain ⟨sp, hbs, hps⟩ := h.ex
  haveI hb : Blk w b _ := ⟨hbs⟩
  haveI hm : MapI w mb _ _ _ := ⟨h.hm⟩
  obtain ⟨q1, q2⟩ := rules_get M.rules id
  obtain ⟨q, hgd⟩ : ∃ q, (akey M.rules id).getD (⟨0, 0, 0, 0, 0⟩, 0) = q := ⟨_, rfl⟩
  rw [hgd] at q1
  have stay : ∀ w', Keep NoB w w' → M.roundNo id most ≠ 0 → ((0 : Int) = (M.roundN id most : Int)) ∧ Lk w' w (MachF b pb mb vs) ∧ ∃ vs', MachAt w' b pb mb vs' (M.roundM id most) ∧ Sub (MachF b pb mb vs') (MachF b pb mb vs) w := by
    intro w' hk hne
    have e1 : M.roundN id most = 0 := by
      unfold Mach.roundN
      cases akey M.rules id with
      | none => rfl
      | some q => simp only []; rw [if_neg hne]
    have e2 : M.roundM id most = M := by
      unfold Mach.roundM
      cases akey M.rules id with
      | none => rfl
      | some q => simp only []; rw [if_neg hne]
    exact ⟨by rw [e1]; rfl, ⟨hk.mono (fun _ _ h => h.elim)⟩, vs, by rw [e2]; exact h.keep hk (fun _ _ h => h), Sub.refl _ _⟩
  refine ret_of_x (N := 107) (l := [.pointer (some ⟨b, 0, none⟩), .int .i64 id, .int .i64 most]) Try.func23 rfl rfl (Nat.le_of_ble_eq_true rfl) ?_
  refine x_seq ?_
  refine x_regionL ?_
  refine xl_e (e_box fun ib w1 nib lib kib => ?_)
  refine xl_v v_assign ?_
  refine xl_v v_assign ?_
  refine xl_nil ?_
  refine x_seq ?_
  refine x_seq ?_
  refine x_regionL ?_
  refine xl_v v_move ?_
  refine xl_call (none_ok _ _ _ _) ?_
  rintro _ _ ⟨rfl, rfl⟩
  refine xl_nil ?_
  refine x_condF ?_
  refine x_skip ?_
  refine x_seq ?_
  refine x_drawL (NewS w1) (allS) (.take 0 (.take 1 (.take 2 (.take 3 (.take 4 (.take 5 (.take 6 (.take 7 (.take 8 (.eff 9 (.eff 10 (.take 11 .done)))))))))))) mixed (by kernel_rfl) (fun _ _ _ _ _ h => h) (fun w3 l3 => ?_)
  refine xt_v rfl v_move ?_
  refine xt_v rfl (by first | exact v_nilCheckP | exact v_nilCheckF | exact v_nilCheckR (by first | assumption | rfl)) ?_
  refine xt_v rfl (by first | exact v_fieldAddr | exact v_fieldAddrF (by decide) (by omega) | exact v_fieldAddrR (by first | assumption | rfl)) ?_
  refine xt_v rfl (by first | exact v_load | exact v_loadO (by omega) | exact v_loadFf (by omega) | exact v_loadF0 (by omega)) ?_
  refine xt_v rfl (by first | exact v_load | exact v_loadO (by omega) | exact v_loadFf (by omega) | exact v_loadF0 (by omega)) ?_
  refine xt_v rfl (v_lookup2v id _ _ rfl q1 q2) ?_
  refine xt_v rfl v_move ?_
  refine xt_v rfl v_extract ?_
  refine xt_v rfl v_extract ?_
  refine xt_e rfl (e_alloc fun rb w4 nr lr kr => ?_)
  refine xt_s rfl (e_storeA fun w5 ls ks => ?_)
  refine xt_v rfl v_assign ?_
  refine xt_nil ?_
  refine x_seq ?_
  refine x_block ?_
  refine x_seq ?_
  refine x_regionL ?_
  refine xl_v v_move ?_
  refine xl_v v_not ?_
  refine xl_v v_assign ?_
  refine xl_nil ?_
  refine x_condE (fun c2 => ?_) (fun c2 => ?_)
  ·
    have hn : M.roundNo id most = 5 := by
      have : akey M.rules id = none := by simpa using c2
      simp [Mach.roundNo, this]
    refine x_seq ?_
    refine x_regionL ?_
    refine xl_v v_assign ?_
    refine xl_v v_assign ?_
    refine xl_nil ?_
    refine x_ret ?_
    refine fin2 rfl ?_
    have hs := stay w5 kpc (by omega)
    exact ⟨by rw [hn, ← hs.1], hs.2⟩
  ·
    have hq : akey M.rules id = some q := by
      cases hq : akey M.rules id with
      | none => simp [hq] at c2
      | some q' => rw [hq] at hgd; exact congrArg some hgd
    obtain ⟨hr1, hr2, hr3, hr4, hr5⟩ := hok.rules _ (akey_mem hq)
    simp only at hr1 hr2 hr3 hr4 hr5
    have hi0 : q.1.inp = (q.1.inp.toNat : Int) := by simp [Mach.hasB] at hr3; omega
    have hi1 : q.1.inp.toNat < M.parts.length := by simp [Mach.hasB] at hr3; omega
    have ho0 : q.1.out = (q.1.out.toNat : Int) := by simp [Mach.hasB] at hr4; omega
    have ho1 : q.1.out.toNat < M.parts.length := by simp [Mach.hasB] at hr4; omega
    have hlongi := hok.long _ (Mach.part_mem hr3)
    have hlongo := hok.long _ (Mach.part_mem hr4)
    obtain ⟨A, cap, hV, hown, hrow, hcap⟩ := h.part hr3
    obtain ⟨B, capo, hVo, howno, hrowo, hcapo⟩ := h.part hr4
    haveI hbp : Blk w pb _ := ⟨hps⟩
    refine x_seq ?_
    refine x_regionL ?_
    refine xl_v v_move ?_
    refine xl_v v_lss ?_
    refine xl_v v_assign ?_
    refine xl_nil ?_
    first | refine x_condP (fun c3 => ?_) (fun c3 => ?_) | refine x_condN (fun c3 => ?_) (fun c3 => ?_) | refine x_condE (fun c3 => ?_) (fun c3 => ?_)
    ·
      have hn : M.roundNo id most = 2 := by simp [Mach.roundNo, hq, c3]
      refine x_seq ?_
      refine x_regionL ?_
      refine xl_v v_assign ?_
      refine xl_v v_assign ?_
      refine xl_nil ?_
      refine x_ret ?_
      refine fin2 rfl ?_
      have hs := stay w5 kpc (by omega)
      exact ⟨by rw [hn, ← hs.1], hs.2⟩
    ·
      refine x_skip ?_
      refine x_seq ?_
      refine x_drawL (NoB) (allS) (.take 0 (.take 1 (.take 2 (.take 3 (.take 4 (.take 5 (.take 6 (.take 7 (.take 8 (.take 9 (.take 10 (.take 11 (.take 12 (.take 13 .done)))))))))))))) mixed (by kernel_rfl) (fun _ _ _ _ _ h => h) (fun w6 l6 => ?_)
      refine xt_v rfl v_move ?_
      refine xt_v rfl (by first | exact v_nilCheckP | exact v_nilCheckF | exact v_nilCheckR (by first | assumption | rfl)) ?_
      refine xt_v rfl (by first | exact v_fieldAddr | exact v_fieldAddrF (by decide) (by omega) | exact v_fieldAddrR (by first | assumption | rfl)) ?_
      refine xt_v rfl (by first | exact v_fieldAddr | exact v_fieldAddrF (by decide) (by omega) | exact v_fieldAddrR (by first | assumption | rfl)) ?_
      refine xt_v rfl (by first | exact v_load | exact v_loadO (by omega) | exact v_loadFf (by omega) | exact v_loadF0 (by omega)) ?_
      refine xt_v rfl (by first | exact v_fieldAddr | exact v_fieldAddrF (by decide) (by omega) | exact v_fieldAddrR (by first | assumption | rfl)) ?_
      refine xt_v rfl (by first | exact v_fieldAddr | exact v_fieldAddrF (by decide) (by omega) | exact v_fieldAddrR (by first | assumption | rfl)) ?_
      refine xt_v rfl (by first | exact v_load | exact v_loadO (by omega) | exact v_loadFf (by omega) | exact v_loadF0 (by omega)) ?_
      refine xt_v rfl (v_indexAddr q.1.inp.toNat hi0 hi1 rfl) ?_
      refine xt_v rfl (v_loadR (by have := get_app (m := sp) hV; simpa using this)) ?_
      refine xt_v rfl (by first | exact v_fieldAddr | exact v_fieldAddrF (by decide) (by omega) | exact v_fieldAddrR (by first | assumption | rfl)) ?_
      refine xt_v rfl (by first | exact v_load | exact v_loadO (by omega) | exact v_loadFf (by omega) | exact v_loadF0 (by omega)) ?_
      refine xt_v rfl (v_sliceL q.2 rfl hr5) ?_
      refine xt_v rfl v_assign ?_
      refine xt_nil ?_
      refine x_seq ?_
      refine x_regionL ?_
      refine xl_v v_move ?_
      refine xl_v v_move ?_
      refine xl_v v_move ?_
      refine xl_v v_len ?_
      refine xl_v v_min ?_
      refine xl_v (v_sliceH (min most.toNat ((M.part q.1.inp).length - q.2)) (by omega) (by omega)) ?_
      refine xl_v v_assign ?_
      refine xl_nil ?_
      refine x_seq ?_
      refine x_seq ?_
      refine x_regionL ?_
      refine xl_v v_move ?_
      refine xl_v v_len ?_
      refine xl_v v_assign ?_
      refine xl_nil ?_
      refine x_block ?_
      refine x_seq ?_
      refine x_regionL ?_
      refine xl_v v_move ?_
      refine xl_v v_eql ?_
      refine xl_v v_assign ?_
      refine xl_nil ?_
      first | refine x_condP (fun c4 => ?_) (fun c4 => ?_) | refine x_condN (fun c4 => ?_) (fun c4 => ?_) | refine x_condE (fun c4 => ?_) (fun c4 => ?_)
      ·
        have hl0 : (M.left q most).length = 0 := by simp [Mach.left]; omega
        have hn : M.roundNo id most = 5 := by simp [Mach.roundNo, hq, c3, hl0]
        refine x_seq ?_
        refine x_regionL ?_
        refine xl_v v_assign ?_
        refine xl_v v_assign ?_
        refine xl_nil ?_
        refine x_ret ?_
        refine fin2 rfl ?_
        have hs := stay w6 kpc (by omega)
        exact ⟨by rw [hn, ← hs.1], hs.2⟩
      ·
        have hln : (M.left q most).length = min most.toNat ((M.part q.1.inp).length - q.2) := by simp [Mach.left]
        refine x_seq ?_
        refine x_drawL (NoB) (allS) (.take 0 (.take 1 (.take 2 (.take 3 (.take 4 (.take 5 (.take 6 (.take 7 (.take 8 (.take 9 (.take 10 (.take 11 (.take 12 (.take 13 (.take 14 .done))))))))))))))) mixed (by kernel_rfl) (fun _ _ _ _ _ h => h) (fun w7 l7 => ?_)
        refine xt_v rfl v_move ?_
        refine xt_v rfl (by first | exact v_nilCheckP | exact v_nilCheckF | exact v_nilCheckR (by first | assumption | rfl)) ?_
        refine xt_v rfl (by first | exact v_fieldAddr | exact v_fieldAddrF (by decide) (by omega) | exact v_fieldAddrR (by first | assumption | rfl)) ?_
        refine xt_v rfl (by first | exact v_fieldAddr | exact v_fieldAddrF (by decide) (by omega) | exact v_fieldAddrR (by first | assumption | rfl)) ?_
        refine xt_v rfl (by first | exact v_load | exact v_loadO (by omega) | exact v_loadFf (by omega) | exact v_loadF0 (by omega)) ?_
        refine xt_v rfl (by first | exact v_fieldAddr | exact v_fieldAddrF (by decide) (by omega) | exact v_fieldAddrR (by first | assumption | rfl)) ?_
        refine xt_v rfl (by first | exact v_fieldAddr | exact v_fieldAddrF (by decide) (by omega) | exact v_fieldAddrR (by first | assumption | rfl)) ?_
        refine xt_v rfl (by first | exact v_load | exact v_loadO (by omega) | exact v_loadFf (by omega) | exact v_loadF0 (by omega)) ?_
        refine xt_v rfl (v_indexAddr q.1.out.toNat ho0 ho1 rfl) ?_
        refine xt_v rfl (v_loadR (by have := get_app (m := sp) hVo; simpa using this)) ?_
        refine xt_v rfl v_len ?_
        refine xt_v rfl v_move ?_
        refine xt_v rfl (v_add (by omega)) ?_
        refine xt_v rfl v_gtr ?_
        refine xt_v rfl v_assign ?_
        refine xt_nil ?_
        first | refine x_condP (fun c5 => ?_) (fun c5 => ?_) | refine x_condN (fun c5 => ?_) (fun c5 => ?_) | refine x_condE (fun c5 => ?_) (fun c5 => ?_)
        ·
          have hn : M.roundNo id most = 3 := by
            have h1 : ¬ (M.left q most).length = 0 := by omega
            have h2 : 4096 < (M.part q.1.out).length + (M.left q most).length := by omega
            simp [Mach.roundNo, hq, c3, h1, h2]
          refine x_seq ?_
          refine x_regionL ?_
          refine xl_v v_assign ?_
          refine xl_v v_assign ?_
          refine xl_nil ?_
          refine x_ret ?_
          refine fin2 rfl ?_
          have hs := stay w7 kpc (by omega)
          exact ⟨by rw [hn, ← hs.1], hs.2⟩
        ·
          have hn : M.roundNo id most = 0 := by
            have h1 : ¬ (M.left q most).length = 0 := by omega
            have h2 : ¬ 4096 < (M.part q.1.out).length + (M.left q most).length := by omega
            simp [Mach.roundNo, hq, c3, h1, h2]
          have hlong : (M.part q.1.out).length + (M.left q most).length ≤ 4096 := by omega
          have hleft : (M.left q most).length ≠ 0 := by omega
          have hrow2 : RowP w (if cap = q.2 then A else A.map (·.add (q.2 * 3))) (itemsC (M.left q most)) := by
            have h1 := row_take (row_drop (k := q.2) hrow (itemsC_len _) hcap) (most.toNat * 3)
            rw [itemsC, ← flat_drop (enc := itemC) (sz := 3) (fun _ => rfl), ← flat_take (enc := itemC) (sz := 3) (fun _ => rfl)] at h1
            exact h1
          haveI hR2 : Row w7 (if cap = q.2 then A else A.map (·.add (q.2 * 3))) (itemsC (M.left q most)) := ⟨hrow2.keep (kpc : Keep NoB w w7) (fun _ _ h => h)⟩
          have hvals : ∀ i (hi : i < (M.left q most).length), valB (M.left q most)[i].val = true := fun i hi =>
            hok.vals _ (Mach.part_mem hr3) _ (List.mem_of_mem_drop (List.mem_of_mem_take (List.getElem_mem hi)))
          have hVF : ∀ k, OwnB (.slice B (M.part q.1.out).length capo) k → SlsF vs k := fun k e => ⟨_, List.mem_of_getElem? hVo, e.symm⟩
          haveI nb : NotS (OwnB (.slice B (M.part q.1.out).length capo)) b := ⟨fun e => h.f1 (hVF _ e)⟩
          haveI np : NotS (OwnB (.slice B (M.part q.1.out).length capo)) pb := ⟨fun e => h.f2 (hVF _ e)⟩
          haveI nm : NotS (OwnB (.slice B (M.part q.1.out).length capo)) mb := ⟨fun e => h.f3 (hVF _ e)⟩
          have hrbw : w.heap.size ≤ rb := by rw [nr.eq]; exact Ge.le
          have hibw : w.heap.size ≤ ib := by rw [nib.eq]; exact Ge.le
          haveI nrb : NotS (OwnB (.slice B (M.part q.1.out).length capo)) rb := ⟨fun e => by have := h.hs.lt _ (hVF _ e); omega⟩
          haveI nib2 : NotS (OwnB (.slice B (M.part q.1.out).length capo)) ib := ⟨fun e => by have := h.hs.lt _ (hVF _ e); omega⟩
          haveI npm : NeB mb pb := ⟨h.d3.symm⟩
          haveI npb : NeB b pb := ⟨h.d1⟩
          have hvl : vs.length = M.parts.length := by simpa using h.hs.len
          refine x_skip ?_
          refine x_seq ?_
          refine x_regionL ?_
          refine xl_v v_move ?_
          refine xl_v v_makeFunc ?_
          refine xl_call (eachxx_ok _ _ _ (M.left q most) _ [_, _] (fun i x => ⟨make q.1 x.val, id, (q.2 : Int) + (i : Int)⟩) _ hln (by omega) (fun i hi W l => round1_ok i (by omega) _ (hvals i hi) q (by omega) id rb ib W)) ?_
          rintro _ w8 ⟨⟨A2, c2', rfl, ho2⟩, lk2⟩
          refine xl_v v_assign ?_
          refine xl_nil ?_
          obtain ⟨_, _, hA2, _, _, hrowm⟩ := ownsRow_form ho2
          cases hA2
          haveI hR3 : Row w8 A2 (itemsC (madeBy q id (M.left q most))) := ⟨hrowm⟩
          have hml : (itemsC (madeBy q id (M.left q most))).length = min most.toNat ((M.part q.1.inp).length - q.2) * 3 := by rw [itemsC_len, madeBy_len, hln]
          have hA2s : A2.isSome = true := row_some hR3 (by rw [hml]; omega)
          refine x_seq ?_
          refine x_drawL (OwnB (.slice B (M.part q.1.out).length capo)) (allS) (.take 0 (.take 1 (.take 2 (.take 3 (.take 4 (.take 5 (.take 6 (.take 7 (.take 8 (.take 9 (.take 10 (.take 11 (.take 12 (.take 13 (.take 14 (.take 15 (.take 16 (.take 17 (.take 18 (.eff 19 (.take 20 (.last 21)))))))))))))))))))))) mixed (by kernel_rfl) (fun _ _ _ _ _ h => h) (fun w9 l9 => ?_)
          refine xt_v rfl v_move ?_
          refine xt_v rfl (by first | exact v_nilCheckP | exact v_nilCheckF | exact v_nilCheckR (by first | assumption | rfl)) ?_
          refine xt_v rfl (by first | exact v_fieldAddr | exact v_fieldAddrF (by decide) (by omega) | exact v_fieldAddrR (by first | assumption | rfl)) ?_
          refine xt_v rfl (by first | exact v_fieldAddr | exact v_fieldAddrF (by decide) (by omega) | exact v_fieldAddrR (by first | assumption | rfl)) ?_
          refine xt_v rfl (by first | exact v_load | exact v_loadO (by omega) | exact v_loadFf (by omega) | exact v_loadF0 (by omega)) ?_
          refine xt_v rfl (by first | exact v_fieldAddr | exact v_fieldAddrF (by decide) (by omega) | exact v_fieldAddrR (by first | assumption | rfl)) ?_
          refine xt_v rfl (by first | exact v_fieldAddr | exact v_fieldAddrF (by decide) (by omega) | exact v_fieldAddrR (by first | assumption | rfl)) ?_
          refine xt_v rfl (by first | exact v_load | exact v_loadO (by omega) | exact v_loadFf (by omega) | exact v_loadF0 (by omega)) ?_
          refine xt_v rfl v_move ?_
          refine xt_v rfl (by first | exact v_nilCheckP | exact v_nilCheckF | exact v_nilCheckR (by first | assumption | rfl)) ?_
          refine xt_v rfl (by first | exact v_fieldAddr | exact v_fieldAddrF (by decide) (by omega) | exact v_fieldAddrR (by first | assumption | rfl)) ?_
          refine xt_v rfl (by first | exact v_fieldAddr | exact v_fieldAddrF (by decide) (by omega) | exact v_fieldAddrR (by first | assumption | rfl)) ?_
          refine xt_v rfl (by first | exact v_load | exact v_loadO (by omega) | exact v_loadFf (by omega) | exact v_loadF0 (by omega)) ?_
          refine xt_v rfl (by first | exact v_fieldAddr | exact v_fieldAddrF (by decide) (by omega) | exact v_fieldAddrR (by first | assumption | rfl)) ?_
          refine xt_v rfl (by first | exact v_fieldAddr | exact v_fieldAddrF (by decide) (by omega) | exact v_fieldAddrR (by first | assumption | rfl)) ?_
          refine xt_v rfl (by first | exact v_load | exact v_loadO (by omega) | exact v_loadFf (by omega) | exact v_loadF0 (by omega)) ?_
          refine xt_v rfl (v_indexAddr q.1.out.toNat ho0 ho1 rfl) ?_
          refine xt_v rfl (v_loadR (by have := get_app (m := sp) hVo; simpa using this)) ?_
          refine xt_v rfl v_move ?_
          have hge0 : w.heap.size ≤ w9.heap.size := Ge.le
          have hrb19 : rb < w9.heap.size := Has.lt
          refine xt_e rfl (e_append' (own_ext howno lkc) (Nat.zero_le _) hml (itemsC_one _) (by decide) (.inl hA2s) (by omega) (by omega) fun A19 c19 w10 ho19 l19 hn19 => ?_)
          refine xt_v rfl (v_indexAddr q.1.out.toNat ho0 ho1 rfl) ?_
          refine xt_lastS rfl (e_storeB (by simp; omega) fun w11 l21 k21 => ?_)
          have hlp := h.lt pb (.inr (.inl rfl))
          have hn2 : (Value.slice A19 ((M.part q.1.out).length + min most.toNat ((M.part q.1.inp).length - q.2)) c19).ownBlock = (Value.slice B (M.part q.1.out).length capo).ownBlock ∨ ∃ j, (Value.slice A19 ((M.part q.1.out).length + min most.toNat ((M.part q.1.inp).length - q.2)) c19).ownBlock = some j ∧ w.heap.size ≤ j := hn19.imp (fun e => e) (fun e => ⟨_, e, hge0⟩)
          haveI t1 : SubF (OwnB (.slice B (M.part q.1.out).length capo)) (fun j => OwnB (.slice B (M.part q.1.out).length capo) j ∨ OneB pb j) w := ⟨fun _ _ h => .inl h⟩
          haveI t2 : SubF (OneB pb) (fun j => OwnB (.slice B (M.part q.1.out).length capo) j ∨ OneB pb j) w := ⟨fun _ _ h => .inr h⟩
          have hkG : Keep (fun j => OwnB (.slice B (M.part q.1.out).length capo) j ∨ OneB pb j) w w11 := kpc
          have ho3 := own_keep ho19 l21.keep (fun k hob e => by
            have e2 : k = pb := e
            rcases hn2 with h2 | ⟨j, h2, hj⟩
            · exact h.f2 (e2 ▸ hVF k (h2.symm.trans hob).symm)
            · rw [h2] at hob
              cases hob
              omega)
          have hG := h.grow hVo (xs' := M.part q.1.out ++ madeBy q id (M.left q most)) (by rw [itemsC_append]; exact ho3) hkG hbs (by simpa using k21.eq) hn2
          have hdis : ∀ k, MachF b pb mb (vs.set q.1.out.toNat (.slice A19 ((M.part q.1.out).length + min most.toNat ((M.part q.1.inp).length - q.2)) c19)) k → ¬ OneB rb k := by
            intro k hk e
            have e2 : k = rb := e
            subst e2
            have hold : ¬ MachF b pb mb vs k := fun hm => by have := h.lt k hm; omega
            rcases hk with hk | hk | hk | hk
            · exact hold (.inl hk)
            · exact hold (.inr (.inl hk))
            · exact hold (.inr (.inr (.inl hk)))
            · rcases slsF_set hk with hk | hk
              · exact hold (.inr (.inr (.inr hk)))
              · rcases hn19 with h2 | h2
                · exact hold (.inr (.inr (.inr (hVF k (h2.symm.trans hk).symm))))
                · rw [h2] at hk
                  cases hk
                  omega
          refine x_seq ?_
          refine x_regionL ?_
          refine xl_v (by first | exact v_fieldAddr | exact v_fieldAddrF (by decide) (by omega) | exact v_fieldAddrR (by first | assumption | rfl)) ?_
          refine xl_v (by first | exact v_load | exact v_loadO (by omega) | exact v_loadFf (by omega) | exact v_loadF0 (by omega)) ?_
          refine xl_v v_move ?_
          refine xl_v v_len ?_
          refine xl_v (v_add (by omega)) ?_
          refine xl_v (by first | exact v_fieldAddr | exact v_fieldAddrF (by decide) (by omega) | exact v_fieldAddrR (by first | assumption | rfl)) ?_
          refine xl_s (e_store fun w12 l17 k17 => ?_)
          refine xl_nil ?_
          refine x_seq ?_
          refine x_drawL (NoB) (allS) (.take 0 (.take 1 (.take 2 (.take 3 (.take 4 (.take 5 (.last 6))))))) mixed (by kernel_rfl) (fun _ _ _ _ _ h => h) (fun w13 l13 => ?_)
          refine xt_v rfl v_move ?_
          refine xt_v rfl (by first | exact v_nilCheckP | exact v_nilCheckF | exact v_nilCheckR (by first | assumption | rfl)) ?_
          refine xt_v rfl (by first | exact v_fieldAddr | exact v_fieldAddrF (by decide) (by omega) | exact v_fieldAddrR (by first | assumption | rfl)) ?_
          refine xt_v rfl (by first | exact v_load | exact v_loadO (by omega) | exact v_loadFf (by omega) | exact v_loadF0 (by omega)) ?_
          refine xt_v rfl (by first | exact v_load | exact v_loadO (by omega) | exact v_loadFf (by omega) | exact v_loadF0 (by omega)) ?_
          refine xt_v rfl (by first | exact v_loadA | exact v_loadF (by decide) (by omega)) ?_
          have hk18 := hG.1.keep (kpc : Keep (OneB rb) _ w13) hdis
          refine xt_lastS rfl (e_mapUpdate id rfl fun w14 l18 m18 => ?_)
          refine x_seq ?_
          refine x_regionL ?_
          refine xl_v v_move ?_
          refine xl_v v_len ?_
          refine xl_v v_assign ?_
          refine xl_v v_assign ?_
          refine xl_nil ?_
          refine x_ret ?_
          refine fin2 rfl ?_
          have hr := hk18.ruled (rs := aput M.rules id (q.1, q.2 + (M.left q most).length)) l18.keep (by
            have e1 : (q.2 : Int) + ((min most.toNat ((M.part q.1.inp).length - q.2) : Nat) : Int) = ((q.2 + (M.left q most).length : Nat) : Int) := by omega
            have := m18.m
            rw [e1] at this
            rw [rulesV, ← aput_map (fun q : Rule × Nat => Value.agg (rpC q).toArray)]
            exact this)
          haveI s1 : SubF (OwnB (.slice B (M.part q.1.out).length capo)) (MachF b pb mb vs) w := ⟨fun k _ e => .inr (.inr (.inr (hVF k e)))⟩
          haveI s2 : SubF (OneB pb) (MachF b pb mb vs) w := ⟨fun k _ e => .inr (.inl e)⟩
          haveI s3 : SubF (OneB mb) (MachF b pb mb vs) w := ⟨fun k _ e => .inr (.inr (.inl e))⟩
          refine ⟨?_, lkc, _, ?_, hG.2⟩
          · have e1 : M.roundN id most = (M.left q most).length := by simp [Mach.roundN, hq, hn]
            rw [hn, e1, hln]
          · have e1 : M.roundM id most = ⟨M.parts.set q.1.out.toNat (M.part q.1.out ++ madeBy q id (M.left q most)), aput M.rules id (q.1, q.2 + (M.left q most).length)⟩ := by simp [Mach.roundM, hq, hn]
            rw [e1]
            exact hr
end Go.Proofs.Ytbihphclmdokeaa
