/-
  Walks, printed by a program of this workplace (wip/tools/sx.py) off the functions' code and a text of contracts.
-/
import Derived.Test.YtacadajlpmhcfaaD
set_option linter.all false
set_option maxRecDepth 100000
set_option synthInstance.maxSize 100000
set_option synthInstance.maxHeartbeats 400000
namespace Go.Proofs.Ytacadajlpmhcfaa
open Go.Wst
open Go.Wst.Nm
section
variable {b mb : Nat} {w : World}
instance subF_two1 (b mb : Nat) (w : World) : SubF (OneB b) (TwoB b mb) w := ⟨fun _ _ e => .inl e⟩
instance subF_two2 (b mb : Nat) (w : World) : SubF (OneB mb) (TwoB b mb) w := ⟨fun _ _ e => .inr e⟩
instance subS_two1 (b mb : Nat) : SubS (OneB b) (TwoB b mb) := ⟨fun _ e => .inl e⟩
instance subS_two2 (b mb : Nat) : SubS (OneB mb) (TwoB b mb) := ⟨fun _ e => .inr e⟩
instance notS_two (b mb c : Nat) [h : NeB c b] [k : NeB c mb] : NotS (TwoB b mb) c := ⟨fun e => e.elim h.ne k.ne⟩
instance rowOut_two (b mb : Nat) (A : Option Addr) [h : RowOut (OneB b) A] [k : RowOut (OneB mb) A] : RowOut (TwoB b mb) A := ⟨fun a ha e => e.elim (h.out a ha) (k.out a ha)⟩
end
theorem v_congr {P : Program} {r : Option Nat} {N : Nat} {S : Nat → Prop} {op : Op} {ty : TypeId} {τ : Tau} {w : World} {v u : Value} (h : Val P r N S op ty τ w v) (e : v = u) : Val P r N S op ty τ w u := e ▸ h
theorem pure_len (N : NetL) : N.pure.l.length = N.l.length := by simp [NetL.pure]
theorem at_get {l : List (Int × LMsg)} (h : (l.map (·.1)).Nodup) {i : Nat} (hi : i < l.length) : NetL.at_ l l[i].1 = l[i].2 := by
  rw [NetL.at_, akey_nodup' h (List.getElem_mem hi)]
  rfl
theorem pure_keys (N : NetL) : N.pure.l.map (·.1) = N.l.map (·.1) := by simp [NetL.pure]
theorem ok_nodup {N : NetL} (h : N.pure.ok) : (N.l.map (·.1)).Nodup := by rw [← pure_keys]; exact rise_nodup h.rise
theorem put_v {N : NetL} (h : N.pure.ok) (x : LMsg) : aput (netV N.l) (N.came : Int) (.agg (msgC x).toArray) = netV (N.l ++ [((N.came : Int), x)]) := by
  rw [aput_none]
  · simp [netV]
  · rw [List.any_eq_false]
    intro p hp
    obtain ⟨q, hq, rfl⟩ := List.mem_map.1 hp
    have := (h.keys (q.1, q.2.m) (List.mem_map.2 ⟨q, hq, rfl⟩)).2
    have e : N.pure.came = N.came := rfl
    simp only [decide_eq_true_eq]
    simp only at this
    omega
/-- waystation/net.New -/
theorem new_ok (most : Int) (w : World) : Ret Try.prog 9 #[.int .i64 most] w (fun v w' => (if 1 ≤ most ∧ most ≤ 4096 then ∃ b mb, v = .tuple #[.pointer (some ⟨b, 0, none⟩), .int .i64 0] ∧ NetAt w' b mb NoB ⟨most, 0, []⟩ ∧ w.heap.size ≤ b ∧ w.heap.size ≤ mb else v = .tuple #[.pointer none, .int .i64 2]) ∧ Lk w' w NoB) := by
  refine ret_of_x (N := 15) (l := [.int .i64 most]) Try.func9 rfl rfl (Nat.le_of_ble_eq_true rfl) ?_
  refine x_seq ?_
  refine x_regionL ?_
  refine xl_v v_assign ?_
  refine xl_v v_assign ?_
  refine xl_nil ?_
  refine x_seq ?_
  refine x_seq ?_
  refine x_regionL ?_
  refine xl_v v_move ?_
  refine xl_v v_lss ?_
  refine xl_v v_move ?_
  refine xl_split 6 (fun g6 => ?_) (fun g6 => ?_)
  ·
    have hn : ¬ (1 ≤ most ∧ most ≤ 4096) := by simp at g6; omega
    refine xl_gs rfl EvO.eq ?_
    refine xl_gs rfl EvO.eq ?_
    refine xl_v (by first | exact v_pickT | exact v_pickF | exact v_pick) ?_
    refine xl_nil ?_
    refine x_condT ?_
    refine x_seq ?_
    refine x_regionL ?_
    refine xl_v v_assign ?_
    refine xl_v v_assign ?_
    refine xl_nil ?_
    refine x_ret ?_
    refine fin2 rfl ?_
    exact ⟨by rw [if_neg hn], lkc⟩
  ·
    refine xl_gv rfl EvO.eq v_move ?_
    refine xl_gv rfl EvO.eq v_gtr ?_
    refine xl_v (by first | exact v_pickT | exact v_pickF | exact v_pick) ?_
    refine xl_nil ?_
    refine x_condE (fun c1 => ?_) (fun c1 => ?_)
    ·
      have hn : ¬ (1 ≤ most ∧ most ≤ 4096) := by simp at c1; omega
      refine x_seq ?_
      refine x_regionL ?_
      refine xl_v v_assign ?_
      refine xl_v v_assign ?_
      refine xl_nil ?_
      refine x_ret ?_
      refine fin2 rfl ?_
      exact ⟨by rw [if_neg hn], lkc⟩
    ·
      have hn : 1 ≤ most ∧ most ≤ 4096 := by simp at g6 c1; omega
      refine x_skip ?_
      refine x_seq ?_
      refine x_regionL ?_
      refine xl_v v_move ?_
      refine xl_v v_build ?_
      refine xl_e (e_makeMap fun b3 w1 n3 l3 k3 => ?_)
      refine xl_v v_build ?_
      refine xl_e (e_box fun b5 w2 n5 l5 k5 => ?_)
      refine xl_v v_assign ?_
      refine xl_v v_assign ?_
      refine xl_nil ?_
      refine x_ret ?_
      refine fin2 rfl ?_
      refine ⟨?_, lkc⟩
      rw [if_pos hn]
      refine ⟨b5, b3, rfl, ⟨?_, mapB_made _ inferInstance, (by intro p hp; cases hp), NeB.ne, fun h => h, fun h => h, fun _ h => h.elim⟩, by rw [n5.eq]; exact Ge.le, by rw [n3.eq]; exact Ge.le⟩
      simpa using k5.eq
/-- (*waystation/net.Net).Put -/
theorem put_ok (b mb : Nat) (G : Nat → Prop) (N : NetL) (x : LMsg) (w : World) (h : NetAt w b mb G N) (hok : N.pure.ok) (hc : N.came ≤ 100000000) [hr : Row w x.A (bytesC x.m.bytes)] : Ret Try.prog 10 #[.pointer (some ⟨b, 0, none⟩), .agg (msgC x).toArray] w (fun v w' => v = .tuple #[.int .i64 (N.pure.putN x.m), .int .i64 (N.pure.putNo x.m)] ∧ Lk w' w (TwoB b mb) ∧ ∃ (G' : Nat → Prop) (N' : NetL), NetAt w' b mb G' N' ∧ N'.pure = N.pure.putM x.m ∧ Sub G' G w ∧ (∀ k, G k → G' k)) := by
  haveI hb : Blk w b _ := ⟨h.hb⟩
  haveI hm : MapI w mb _ _ _ := ⟨h.hm⟩
  have hlv := netV_len N.l
  have hpl := pure_len N
  have hmm : N.pure.most = N.most := rfl
  haveI : NeB b mb := ⟨h.d⟩
  haveI : NeB mb b := ⟨h.d.symm⟩
  have stay : ∀ w' no, Lk w' w NoB → N.pure.putNo x.m = no → no ≠ 0 → Value.tuple #[.int .i64 0, .int .i64 no] = .tuple #[.int .i64 (N.pure.putN x.m), .int .i64 (N.pure.putNo x.m)] ∧ Lk w' w (TwoB b mb) ∧ ∃ (G' : Nat → Prop) (N' : NetL), NetAt w' b mb G' N' ∧ N'.pure = N.pure.putM x.m ∧ Sub G' G w ∧ (∀ k, G k → G' k) := by
    intro w' no hk hno hne
    refine ⟨by rw [Net.putN, hno, if_neg hne], ⟨hk.keep.mono (fun _ _ h => h.elim)⟩, G, N, h.ext hk.keep, by rw [Net.putM, if_neg (by omega)], Sub.refl _ _, fun _ h => h⟩
  refine ret_of_x (N := 63) (l := [.pointer (some ⟨b, 0, none⟩), .agg (msgC x).toArray]) Try.func10 rfl rfl (Nat.le_of_ble_eq_true rfl) ?_
  refine x_seq ?_
  refine x_regionL ?_
  refine xl_e (e_box fun b1 w1 n1 l1 k1 => ?_)
  refine xl_v v_assign ?_
  refine xl_v v_assign ?_
  refine xl_nil ?_
  refine x_seq ?_
  refine x_block ?_
  refine x_seq ?_
  refine x_regionL ?_
  refine xl_v v_move ?_
  refine xl_call (none_ok _ _ _ _ _) ?_
  rintro _ _ ⟨rfl, rfl⟩
  refine xl_v v_assign ?_
  refine xl_nil ?_
  refine x_condF ?_
  refine x_seq ?_
  refine x_regionL ?_
  refine xl_v (by first | exact v_fieldAddr | exact v_fieldAddrF (by decide) (by omega) | exact v_fieldAddrR (by first | assumption | rfl)) ?_
  refine xl_v (by first | exact v_load | exact v_loadO (by omega) | exact v_loadFf (by omega) | exact v_loadF0 (by omega)) ?_
  refine xl_call (place_ok _ _) ?_
  rintro _ _ ⟨rfl, rfl⟩
  refine xl_v v_not ?_
  refine xl_v v_move ?_
  refine xl_split 14 (fun g14 => ?_) (fun g14 => ?_)
  ·
    refine xl_gs rfl EvO.eq ?_
    refine xl_gs rfl EvO.eq ?_
    refine xl_gs rfl EvO.eq ?_
    refine xl_gs rfl EvO.eq ?_
    refine xl_v (by first | exact v_pickT | exact v_pickF | exact v_pick) ?_
    refine xl_v v_assign ?_
    refine xl_nil ?_
    refine x_condT ?_
    refine x_seq ?_
    refine x_regionL ?_
    refine xl_v v_assign ?_
    refine xl_v v_assign ?_
    refine xl_nil ?_
    refine x_ret ?_
    refine fin2 rfl ?_
    refine stay _ 2 lkc ?_ (by decide)
    rw [Net.putNo, if_neg]
    rintro ⟨h1, h2⟩
    first
      | (simp [h1] at g14; done)
      | (simp [h2] at c2; done)
  ·
    refine xl_gv rfl EvO.eq (by first | exact v_fieldAddr | exact v_fieldAddrF (by decide) (by omega) | exact v_fieldAddrR (by first | assumption | rfl)) ?_
    refine xl_gv rfl EvO.eq (by first | exact v_load | exact v_loadO (by omega) | exact v_loadFf (by omega) | exact v_loadF0 (by omega)) ?_
    refine xl_gcall rfl EvO.eq (place_ok _ _) ?_
    rintro _ _ ⟨rfl, rfl⟩
    refine xl_gv rfl EvO.eq v_not ?_
    refine xl_v (by first | exact v_pickT | exact v_pickF | exact v_pick) ?_
    refine xl_v v_assign ?_
    refine xl_nil ?_
    refine x_condE (fun c2 => ?_) (fun c2 => ?_)
    ·
      refine x_seq ?_
      refine x_regionL ?_
      refine xl_v v_assign ?_
      refine xl_v v_assign ?_
      refine xl_nil ?_
      refine x_ret ?_
      refine fin2 rfl ?_
      refine stay _ 2 lkc ?_ (by decide)
      rw [Net.putNo, if_neg]
      rintro ⟨h1, h2⟩
      first
        | (simp [h1] at g14; done)
        | (simp [h2] at c2; done)
    ·
      have hp1 : placeB x.m.src = true := by simpa using g14
      have hp2 : placeB x.m.dst = true := by simpa using c2
      refine x_seq ?_
      refine x_regionL ?_
      refine xl_v (by first | exact v_fieldAddr | exact v_fieldAddrF (by decide) (by omega) | exact v_fieldAddrR (by first | assumption | rfl)) ?_
      refine xl_v (by first | exact v_load | exact v_loadO (by omega) | exact v_loadFf (by omega) | exact v_loadF0 (by omega)) ?_
      refine xl_v v_len ?_
      refine xl_v v_gtr ?_
      refine xl_v v_assign ?_
      refine xl_nil ?_
      first | refine x_condP (fun c3 => ?_) (fun c3 => ?_) | refine x_condN (fun c3 => ?_) (fun c3 => ?_) | refine x_condE (fun c3 => ?_) (fun c3 => ?_)
      ·
        refine x_seq ?_
        refine x_regionL ?_
        refine xl_v v_assign ?_
        refine xl_v v_assign ?_
        refine xl_nil ?_
        refine x_ret ?_
        refine fin2 rfl ?_
        exact stay _ 3 lkc (by rw [Net.putNo, if_pos ⟨hp1, hp2⟩, if_pos (by omega)]) (by decide)
      ·
        refine x_seq ?_
        refine x_drawL (NoB) (.take 0 (.take 1 (.take 2 (.take 3 (.take 4 (.take 5 (.take 6 (.take 7 (.take 8 (.take 9 (.take 10 (.take 11 .done)))))))))))) mixed (by kernel_rfl) (fun _ _ _ _ _ h => h) (fun w5 l5 => ?_)
        refine xt_v rfl v_move ?_
        refine xt_v rfl (by first | exact v_nilCheckP | exact v_nilCheckF) ?_
        refine xt_v rfl (by first | exact v_fieldAddr | exact v_fieldAddrF (by decide) (by omega) | exact v_fieldAddrR (by first | assumption | rfl)) ?_
        refine xt_v rfl (by first | exact v_load | exact v_loadO (by omega) | exact v_loadFf (by omega) | exact v_loadF0 (by omega)) ?_
        refine xt_v rfl v_lenm ?_
        refine xt_v rfl v_move ?_
        refine xt_v rfl (by first | exact v_nilCheckP | exact v_nilCheckF) ?_
        refine xt_v rfl (by first | exact v_fieldAddr | exact v_fieldAddrF (by decide) (by omega) | exact v_fieldAddrR (by first | assumption | rfl)) ?_
        refine xt_v rfl (by first | exact v_fieldAddr | exact v_fieldAddrF (by decide) (by omega) | exact v_fieldAddrR (by first | assumption | rfl)) ?_
        refine xt_v rfl (by first | exact v_load | exact v_loadO (by omega) | exact v_loadFf (by omega) | exact v_loadF0 (by omega)) ?_
        refine xt_v rfl v_geq ?_
        refine xt_v rfl v_assign ?_
        refine xt_nil ?_
        first | refine x_condP (fun c4 => ?_) (fun c4 => ?_) | refine x_condN (fun c4 => ?_) (fun c4 => ?_) | refine x_condE (fun c4 => ?_) (fun c4 => ?_)
        ·
          refine x_seq ?_
          refine x_regionL ?_
          refine xl_v v_assign ?_
          refine xl_v v_assign ?_
          refine xl_nil ?_
          refine x_ret ?_
          refine fin2 rfl ?_
          exact stay _ 150 lkc (by rw [Net.putNo, if_pos ⟨hp1, hp2⟩, if_neg (by omega), if_pos (by omega)]) (by decide)
        ·
          have hno : N.pure.putNo x.m = 0 := by rw [Net.putNo, if_pos ⟨hp1, hp2⟩, if_neg (by omega), if_neg (by omega)]
          refine x_skip ?_
          refine x_seq ?_
          refine x_drawL (NoB) (.take 0 (.take 1 (.take 2 (.take 3 (.take 4 (.take 5 (.take 6 (.take 7 (.take 8 (.take 9 (.eff 10 (.last 11)))))))))))) mixed (by kernel_rfl) (fun _ _ _ _ _ h => h) (fun w6 l6 => ?_)
          refine xt_v rfl v_move ?_
          refine xt_v rfl (by first | exact v_nilCheckP | exact v_nilCheckF) ?_
          refine xt_v rfl (by first | exact v_fieldAddr | exact v_fieldAddrF (by decide) (by omega) | exact v_fieldAddrR (by first | assumption | rfl)) ?_
          refine xt_v rfl (by first | exact v_load | exact v_loadO (by omega) | exact v_loadFf (by omega) | exact v_loadF0 (by omega)) ?_
          refine xt_v rfl v_move ?_
          refine xt_v rfl (by first | exact v_nilCheckP | exact v_nilCheckF) ?_
          refine xt_v rfl (by first | exact v_fieldAddr | exact v_fieldAddrF (by decide) (by omega) | exact v_fieldAddrR (by first | assumption | rfl)) ?_
          refine xt_v rfl (by first | exact v_fieldAddr | exact v_fieldAddrF (by decide) (by omega) | exact v_fieldAddrR (by first | assumption | rfl)) ?_
          refine xt_v rfl (by first | exact v_load | exact v_loadO (by omega) | exact v_loadFf (by omega) | exact v_loadF0 (by omega)) ?_
          refine xt_v rfl (by first | exact v_loadA | exact v_loadF (by decide) (by omega)) ?_
          refine xt_call rfl (copied_ok x w6 (by omega)) ?_
          rintro _ w7 ⟨⟨A2, c2', rfl, ho⟩, lkc2⟩
          refine ⟨kpc, ?_⟩
          haveI : OwnI w7 _ _ _ _ _ _ _ _ := ⟨ho⟩
          haveI : NewA A2 w6 := newA_of ho (Nat.le_refl _)
          refine xt_lastS rfl (e_mapUpdate (N.came : Int) rfl fun w8 l11 m11 => ?_)
          refine x_seq ?_
          refine x_regionL ?_
          refine xl_v v_move ?_
          refine xl_v (by first | exact v_nilCheckP | exact v_nilCheckF) ?_
          refine xl_v (by first | exact v_fieldAddr | exact v_fieldAddrF (by decide) (by omega) | exact v_fieldAddrR (by first | assumption | rfl)) ?_
          refine xl_v (by first | exact v_fieldAddr | exact v_fieldAddrF (by decide) (by omega) | exact v_fieldAddrR (by first | assumption | rfl)) ?_
          refine xl_v (by first | exact v_load | exact v_loadO (by omega) | exact v_loadFf (by omega) | exact v_loadF0 (by omega)) ?_
          refine xl_v (v_add (by omega)) ?_
          refine xl_v (by first | exact v_nilCheckP | exact v_nilCheckF) ?_
          refine xl_v (by first | exact v_fieldAddr | exact v_fieldAddrF (by decide) (by omega) | exact v_fieldAddrR (by first | assumption | rfl)) ?_
          refine xl_v (by first | exact v_fieldAddr | exact v_fieldAddrF (by decide) (by omega) | exact v_fieldAddrR (by first | assumption | rfl)) ?_
          refine xl_s (e_store fun w9 l9 k9 => ?_)
          refine xl_nil ?_
          refine x_seq ?_
          refine x_regionL ?_
          refine xl_v v_move ?_
          refine xl_v (by first | exact v_nilCheckP | exact v_nilCheckF) ?_
          refine xl_v (by first | exact v_fieldAddr | exact v_fieldAddrF (by decide) (by omega) | exact v_fieldAddrR (by first | assumption | rfl)) ?_
          refine xl_v (by first | exact v_fieldAddr | exact v_fieldAddrF (by decide) (by omega) | exact v_fieldAddrR (by first | assumption | rfl)) ?_
          refine xl_v (by first | exact v_load | exact v_loadO (by omega) | exact v_loadFf (by omega) | exact v_loadF0 (by omega)) ?_
          refine xl_v (v_sub (by omega)) ?_
          refine xl_v v_assign ?_
          refine xl_v v_assign ?_
          refine xl_nil ?_
          refine x_ret ?_
          refine fin2 rfl ?_
          have o2 := (OwnI.own : World.ownsRow w9 _ _ _ (.slice A2 _ c2') _ _)
          have hpm : N.pure.putM x.m = ⟨N.most, N.came + 1, N.pure.l ++ [((N.came : Int), x.m)]⟩ := by rw [Net.putM, if_pos hno]; rfl
          have hbb := (Blk.eq : (w9).heap[b]? = _)
          have hmB := (MapI.m : MapB w9 mb _ _)
          rw [put_v hok ⟨x.m, A2, c2'⟩] at hmB
          have hkp : Keep (TwoB b mb) w w9 := kpc
          have hG : ∀ k, (G k ∨ OwnB (.slice A2 x.m.bytes.length c2') k) → k < (w9).heap.size := by
            rintro k (e | e)
            · exact Nat.lt_of_lt_of_le (h.gl k e) hkp.size
            · exact (ownB_lt o2 k e).2
          have hO : ∀ k, OwnB (.slice A2 x.m.bytes.length c2') k → w.heap.size ≤ k := fun k e => Nat.le_trans Ge.le (ownB_lt o2 k e).1
          have hbl := h.lt b (.inl rfl)
          have hml := h.lt mb (.inr (.inl rfl))
          refine ⟨?_, ⟨hkp⟩, fun k => G k ∨ OwnB (.slice A2 x.m.bytes.length c2') k, ⟨N.most, N.came + 1, N.l ++ [((N.came : Int), ⟨x.m, A2, c2'⟩)]⟩, ⟨?_, hmB, ?_, h.d, ?_, ?_, hG⟩, ?_, ?_, fun k e => .inl e⟩
          · rw [Net.putN, if_pos hno, hno]
            have : (N.came : Int) + 1 - 1 = (N.pure.came : Int) := by show _ = (N.came : Int); omega
            rw [this]
          · rw [hbb]; simp
          · intro p hp
            rcases List.mem_append.1 hp with hp | hp
            · exact ((h.hr p hp).keep hkp (fun k hk e => e.elim (fun e => h.gb (e ▸ hk)) (fun e => h.gm (e ▸ hk)))).mono (fun k e => .inl e)
            · simp only [List.mem_singleton] at hp
              subst hp
              exact (FRow.of_own o2).mono (fun k e => .inr e)
          · exact fun e => e.elim h.gb (fun e => by have := hO b e; omega)
          · exact fun e => e.elim h.gm (fun e => by have := hO mb e; omega)
          · rw [hpm]; simp [NetL.pure]
          · exact fun k e => e.imp id (hO k)
/-- (*waystation/net.Net).Len -/
theorem len_ok (b mb : Nat) (G : Nat → Prop) (N : NetL) (w : World) (h : NetAt w b mb G N) : Ret Try.prog 20 #[.pointer (some ⟨b, 0, none⟩)] w (fun v w' => v = .int .i64 (N.l.length : Int) ∧ Lk w' w NoB) := by
  haveI hb : Blk w b _ := ⟨h.hb⟩
  haveI hm : MapI w mb _ _ _ := ⟨h.hm⟩
  refine ret_of_x (N := 10) (l := [.pointer (some ⟨b, 0, none⟩)]) Try.func20 rfl rfl (Nat.le_of_ble_eq_true rfl) ?_
  refine x_seq ?_
  refine x_regionL ?_
  refine xl_v v_assign ?_
  refine xl_nil ?_
  refine x_seq ?_
  refine x_seq ?_
  refine x_regionL ?_
  refine xl_v v_move ?_
  refine xl_call (none_ok _ _ _ _ _) ?_
  rintro _ _ ⟨rfl, rfl⟩
  refine xl_nil ?_
  refine x_condF ?_
  refine x_skip ?_
  refine x_seq ?_
  refine x_regionL ?_
  refine xl_v v_move ?_
  refine xl_v (by first | exact v_nilCheckP | exact v_nilCheckF) ?_
  refine xl_v (by first | exact v_fieldAddr | exact v_fieldAddrF (by decide) (by omega) | exact v_fieldAddrR (by first | assumption | rfl)) ?_
  refine xl_v (by first | exact v_load | exact v_loadO (by omega) | exact v_loadFf (by omega) | exact v_loadF0 (by omega)) ?_
  refine xl_v v_lenm ?_
  refine xl_v v_assign ?_
  refine xl_nil ?_
  refine x_ret ?_
  refine fin1 rfl ?_
  exact ⟨by rw [netV_len], lkc⟩
/-- (*waystation/net.Net).Came -/
theorem came_ok (b mb : Nat) (G : Nat → Prop) (N : NetL) (w : World) (h : NetAt w b mb G N) : Ret Try.prog 14 #[.pointer (some ⟨b, 0, none⟩)] w (fun v w' => v = .int .i64 (N.came : Int) ∧ Lk w' w NoB) := by
  haveI hb : Blk w b _ := ⟨h.hb⟩
  refine ret_of_x (N := 10) (l := [.pointer (some ⟨b, 0, none⟩)]) Try.func14 rfl rfl (Nat.le_of_ble_eq_true rfl) ?_
  refine x_seq ?_
  refine x_regionL ?_
  refine xl_v v_assign ?_
  refine xl_nil ?_
  refine x_seq ?_
  refine x_seq ?_
  refine x_regionL ?_
  refine xl_v v_move ?_
  refine xl_call (none_ok _ _ _ _ _) ?_
  rintro _ _ ⟨rfl, rfl⟩
  refine xl_nil ?_
  refine x_condF ?_
  refine x_skip ?_
  refine x_seq ?_
  refine x_regionL ?_
  refine xl_v v_move ?_
  refine xl_v (by first | exact v_nilCheckP | exact v_nilCheckF) ?_
  refine xl_v (by first | exact v_fieldAddr | exact v_fieldAddrF (by decide) (by omega) | exact v_fieldAddrR (by first | assumption | rfl)) ?_
  refine xl_v (by first | exact v_fieldAddr | exact v_fieldAddrF (by decide) (by omega) | exact v_fieldAddrR (by first | assumption | rfl)) ?_
  refine xl_v (by first | exact v_load | exact v_loadO (by omega) | exact v_loadFf (by omega) | exact v_loadF0 (by omega)) ?_
  refine xl_v v_assign ?_
  refine xl_nil ?_
  refine x_ret ?_
  refine fin1 rfl ?_
  exact ⟨rfl, lkc⟩
/-- (*waystation/net.Net).picked -/
theorem picked_ok (b mb : Nat) (G : Nat → Prop) (N : NetL) (pick : Int) (f : FuncId) (cl : List Value) (Q : Int → Int → World → Prop) (w : World) [Fun Try.prog f] (h : NetAt w b mb G N) (hok : N.pure.ok) (hp : ∀ i (hi : i < N.l.length), (i : Int) = pickI pick N.l.length → ∀ W, Lk W w NoB → Ret Try.prog f ((.int .i64 N.l[i].1 :: cl) : List Value).toArray W (fun v w' => ∃ a e, v = .tuple #[.int .i64 a, .int .i64 e] ∧ Q a e w')) : Ret Try.prog 33 #[.pointer (some ⟨b, 0, none⟩), .int .i64 pick, .func (.func f) ([] : List Value).toArray cl.toArray] w (fun v w' => ∃ a e, v = .tuple #[.int .i64 a, .int .i64 e] ∧ ((N.l = [] ∧ a = 0 ∧ e = 5 ∧ Lk w' w NoB) ∨ (N.l ≠ [] ∧ Q a e w'))) := by
  haveI hb : Blk w b _ := ⟨h.hb⟩
  haveI hm : MapI w mb _ _ _ := ⟨h.hm⟩
  have hlv := netV_len N.l
  have hmlt := h.hm.lt
  refine ret_of_x (N := 42) (l := [.pointer (some ⟨b, 0, none⟩), .int .i64 pick, .func (.func f) ([] : List Value).toArray cl.toArray]) Try.func33 rfl rfl (Nat.le_of_ble_eq_true rfl) ?_
  refine x_seq ?_
  refine x_regionL ?_
  refine xl_v v_assign ?_
  refine xl_v v_assign ?_
  refine xl_nil ?_
  refine x_seq ?_
  refine x_block ?_
  refine x_seq ?_
  refine x_regionL ?_
  refine xl_v v_move ?_
  refine xl_call (none_ok _ _ _ _ _) ?_
  rintro _ _ ⟨rfl, rfl⟩
  refine xl_v v_assign ?_
  refine xl_nil ?_
  refine x_condF ?_
  refine x_seq ?_
  refine x_regionL ?_
  refine xl_v v_move ?_
  refine xl_v (by first | exact v_nilCheckP | exact v_nilCheckF) ?_
  refine xl_v (by first | exact v_fieldAddr | exact v_fieldAddrF (by decide) (by omega) | exact v_fieldAddrR (by first | assumption | rfl)) ?_
  refine xl_v (by first | exact v_load | exact v_loadO (by omega) | exact v_loadFf (by omega) | exact v_loadF0 (by omega)) ?_
  refine xl_v v_lenm ?_
  refine xl_v v_eql ?_
  refine xl_v v_assign ?_
  refine xl_nil ?_
  first | refine x_condP (fun c2 => ?_) (fun c2 => ?_) | refine x_condN (fun c2 => ?_) (fun c2 => ?_) | refine x_condE (fun c2 => ?_) (fun c2 => ?_)
  ·
    refine x_seq ?_
    refine x_regionL ?_
    refine xl_v v_assign ?_
    refine xl_v v_assign ?_
    refine xl_nil ?_
    refine x_ret ?_
    refine fin2 rfl ?_
    exact ⟨0, 5, rfl, .inl ⟨List.eq_nil_of_length_eq_zero (by omega), rfl, rfl, lkc⟩⟩
  ·
    have hpos : 0 < N.l.length := by omega
    have hfew : N.l.length ≤ 4096 := by
      have h1 := hok.few
      have h2 := hok.most
      rw [pure_len] at h1
      omega
    refine x_skip ?_
    refine x_seq ?_
    refine x_regionL ?_
    refine xl_v v_move ?_
    refine xl_v (by first | exact v_nilCheckP | exact v_nilCheckF) ?_
    refine xl_v (by first | exact v_fieldAddr | exact v_fieldAddrF (by decide) (by omega) | exact v_fieldAddrR (by first | assumption | rfl)) ?_
    refine xl_v (by first | exact v_load | exact v_loadO (by omega) | exact v_loadFf (by omega) | exact v_loadF0 (by omega)) ?_
    refine xl_call (mkeys_ok (some mb) _) ?_
    rintro _ w2 ⟨bk, rfl, kbk, hbk, lkk⟩
    have hmb : MapB w2 mb (Value.int .i64) (netV N.l) := h.hm.keep (kpc : Keep NoB w w2) (fun h => h)
    have hmlt2 : mb < w2.heap.size := hmb.lt
    have hblt : bk < w2.heap.size := Has.lt
    refine xl_call (sorted_ok _ [_] (fun k => k = bk ∨ k = mb) (KeysAl ((netV N.l).map (·.1))) (KeysFin ((netV N.l).map (·.1))) _ (fun W l => mkeysIter bk mb (netV N.l) W (hmb.keep l.keep (fun h => h))) (by rintro k (rfl | rfl); exact hblt; exact hmlt2) (by rintro pre ⟨l, rest, h1, h2⟩; exact ⟨l, h1, by have := h2.length_eq; simp [netV] at this; omega⟩) (by rintro pre ⟨l, h1, h2⟩; exact ⟨l, [], h1, by simpa using h2⟩)) ?_
    rintro _ w3 ⟨ks, A, c, hfin, rfl, ho, lk⟩
    have hperm : ks.mergeSort (fun x y => decide (x ≤ y)) = N.l.map (·.1) := by
      obtain ⟨l, hl1, hl2⟩ := hfin
      have hkl : ks = l := (List.map_inj_right (fun x y h => by simpa using h)).1 hl1
      subst hkl
      rw [netV_keys] at hl2
      rw [sorted_perm hl2]
      exact rise_sorted (by rw [← pure_keys]; exact hok.rise)
    rw [hperm] at ho
    have hidl : ks.length = N.l.length := by have := congrArg List.length hperm; simpa using this
    haveI : OwnI w3 _ _ _ _ _ _ _ _ := ⟨ho⟩
    obtain ⟨hi0, hi1⟩ := pickI_lt pick hpos
    obtain ⟨i, hpi⟩ : ∃ i : Nat, pickI pick N.l.length = (i : Int) := ⟨(pickI pick N.l.length).toNat, by omega⟩
    have hil : i < N.l.length := by omega
    have hpe : (pick.tmod (ks.length : Int) + (ks.length : Int)).tmod (ks.length : Int) = (i : Int) := by rw [hidl]; exact hpi
    have hb1 : -(ks.length : Int) < pick.tmod (ks.length : Int) := Int.lt_tmod_of_pos pick (by omega)
    have hb2 : pick.tmod (ks.length : Int) < ks.length := Int.tmod_lt_of_pos pick (by omega)
    refine xl_v v_assign ?_
    refine xl_nil ?_
    refine x_seq ?_
    refine x_regionL ?_
    refine xl_v v_move ?_
    refine xl_v v_move ?_
    refine xl_v v_move ?_
    refine xl_v v_move ?_
    refine xl_v v_len ?_
    refine xl_v (v_rem (by omega)) ?_
    refine xl_v v_move ?_
    refine xl_v v_len ?_
    refine xl_v (v_add (by omega)) ?_
    refine xl_v v_move ?_
    refine xl_v v_len ?_
    refine xl_v (v_rem (by omega)) ?_
    refine xl_v (v_indexO i hpe (by omega) (by simpa using hil)) ?_
    refine xl_v (v_congr (u := .int .i64 N.l[i].1) (v_loadO (k := i) (by simpa using hil)) (by simp)) ?_
    refine xl_call (hp i hil hpi.symm w3 lkc) ?_
    rintro _ w4 ⟨a, e, rfl, hQ⟩
    refine xl_v v_extract ?_
    refine xl_v v_extract ?_
    refine xl_v v_assign ?_
    refine xl_v v_assign ?_
    refine xl_nil ?_
    refine x_ret ?_
    refine fin2 rfl ?_
    exact ⟨a, e, rfl, .inr ⟨fun e => by rw [e] at hpos; simp at hpos, hQ⟩⟩
end Go.Proofs.Ytacadajlpmhcfaa
