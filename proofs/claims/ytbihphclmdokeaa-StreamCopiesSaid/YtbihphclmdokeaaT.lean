/-
  Walks, printed by a program of this workplace (wip/tools/sx.py) off the functions' code and a text of contracts.
-/
import Derived.Test.YtbihphclmdokeaaS
set_option linter.all false
set_option maxRecDepth 100000
set_option synthInstance.maxSize 100000
set_option synthInstance.maxHeartbeats 400000
namespace Go.Proofs.Ytbihphclmdokeaa
open Go.Wst
open Go.Wst.Sm
/-- What a drain's pass has done so far. -/
def DrE (b pb mb b6 : Nat) (vs : List Value) (M : Mach) (wb : World) : Seen → (Nat → Prop) → World → Prop := fun pre F W =>
  ∃ (ks : List Int) (us : List Value), pre = ks.map (fun k => [Value.int .i64 k]) ∧ MachAt W b pb mb us (M.pass ks).1 ∧ ¬ MachF b pb mb us b6 ∧ W.heap[b6]? = some (.cells #[.int .i64 ((M.pass ks).2 : Int)] 3 (0, 0)) ∧ (∀ k, F k ↔ (k = b6 ∨ MachF b pb mb us k)) ∧ Keep (fun k => k = b6 ∨ MachF b pb mb vs k) wb W ∧ Sub (MachF b pb mb us) (MachF b pb mb vs) wb
theorem drE_stable {b pb mb b6 : Nat} {vs : List Value} {M : Mach} {wb : World} : Stable (DrE b pb mb b6 vs M wb) wb := by
  refine ⟨?_, ?_⟩
  · rintro pre F W ⟨ks, us, _, h1, _, h2, h3, _⟩ k hk
    rcases (h3 k).1 hk with e | e
    · subst e; exact (Array.getElem?_eq_some_iff.1 h2).1
    · exact h1.lt k e
  · rintro pre F W W' S ⟨ks, us, h0, h1, hn, h2, h3, h4, h5⟩ hk hs hnew
    exact ⟨ks, us, h0, h1.keep hk (fun k hk => hs k ((h3 k).2 (.inr hk))), hn, (hk.block b6 (Array.getElem?_eq_some_iff.1 h2).1 (hs b6 ((h3 b6).2 (.inl rfl)))).trans h2, h3, h4.then hk (fun k hlt hS => by have := hnew k hS; omega), h5⟩

/-- (*waystation/stream.Machine).Drain -/
theorem drain_ok (b pb mb : Nat) (vs : List Value) (M : Mach) (rounds : Int) (w : World) (h : MachAt w b pb mb vs M) (hok : M.ok) (hr3 : rounds ≤ 3) : Ret Try.prog 27 #[.pointer (some ⟨b, 0, none⟩), .int .i64 rounds] w (fun v w' => v = .int .i64 ((M.drain rounds.toNat).2 : Int) ∧ Lk w' w (MachF b pb mb vs) ∧ ∃ vs', MachAt w' b pb mb vs' (M.drain rounds.toNat).1 ∧ Sub (MachF b pb mb vs') (MachF b pb mb vs) w) := by
  refine ret_of_x (N := 33) (l := [.pointer (some ⟨b, 0, none⟩), .int .i64 rounds]) Try.func27 rfl rfl (Nat.le_of_ble_eq_true rfl) ?_
  refine x_seq ?_
  refine x_regionL ?_
  refine xl_e (e_box fun b0 w1 n0 l0 k0 => ?_)
  refine xl_v v_assign ?_
  refine xl_nil ?_
  refine x_scope ?_
  refine x_seq ?_
  refine x_regionL ?_
  refine xl_v v_assign ?_
  refine xl_nil ?_
  refine x_seq ?_
  refine x_label ?_
  refine x_seq ?_
  refine x_seq ?_
  refine x_regionL ?_
  refine xl_v v_move ?_
  refine xl_v v_max ?_
  refine xl_v v_move ?_
  refine xl_nil ?_
  refine x_block ?_
  have hmx : max rounds 0 = (rounds.toNat : Int) := by omega
  have hn3 : rounds.toNat ≤ 3 := by omega
  have hb0 : b0 = w.heap.size := n0.eq
  obtain ⟨n, hn⟩ : ∃ n, n = rounds.toNat := ⟨_, rfl⟩
  rw [← hn] at hmx hn3
  refine x_loop (fun m τ ds w' => ∃ (Ds : List Nat) (k all : Nat) (us : List Value) (Mk : Mach), ds = Ds.map markOf ∧ (∀ D ∈ Ds, w'.heap[D]? = some (.deferred (some [])) ∧ w.heap.size ≤ D ∧ ¬ MachF b pb mb us D) ∧ Ds.Nodup ∧ m = n - k ∧ k ≤ n ∧ all ≤ k * 4096000 ∧ M.drain n = ((Mk.drain (n - k)).1, all + (Mk.drain (n - k)).2) ∧ Mk.ok ∧ MachAt w' b pb mb us Mk ∧ Sub (MachF b pb mb us) (MachF b pb mb vs) w ∧ ¬ MachF b pb mb us b0 ∧ w'.heap[b0]? = some (.cells #[.pointer (some ⟨b, 0, none⟩)] 36 (0, 0)) ∧ Ev τ 2 (.pointer (some ⟨b0, 0, none⟩)) ∧ Ev τ 5 (.int .i64 (all : Int)) ∧ Ev τ 11 (.int .i64 (n : Int)) ∧ Ev τ 12 (.int .i64 (k : Int)) ∧ Keep (MachF b pb mb vs) w w') (n) ?start ?round
  case start =>
    refine ⟨[], 0, 0, vs, M, rfl, by simp, by simp, rfl, Nat.zero_le _, Nat.le_refl _, by simp, hok, h.keep (kpc : Keep NoB w w1) (fun _ _ h => h), Sub.refl _ _, fun e => by have := h.lt _ e; omega, Blk.eq, inferInstance, inferInstance, evc (by rw [hmx]), inferInstance, (kpc : Keep NoB w w1).mono (fun _ _ h => h.elim)⟩
  case round =>
    intro m τ2 ds2 w2 hI
    obtain ⟨Ds, k, all, us, Mk, hds, hD, hnd, rfl, hk, hall, hdr, hko, hM, hsub, hb0n, hc0, e2, e5, e11, e12, hkw⟩ := hI
    obtain ⟨spM, hbM, _⟩ := hM.ex
    haveI hb : Blk w2 b _ := ⟨hbM⟩
    haveI hbb0 : Blk w2 b0 _ := ⟨hc0⟩
    refine x_seq ?_
    refine x_regionL ?_
    refine xl_v v_lss ?_
    refine xl_nil ?_
    refine x_seq ?_
    first | refine x_condP (fun c1 => ?_) (fun c1 => ?_) | refine x_condN (fun c1 => ?_) (fun c1 => ?_) | refine x_condE (fun c1 => ?_) (fun c1 => ?_)
    ·
      refine x_skip ?_
      refine x_seq ?_
      refine x_block ?_
      refine x_seq ?_
      refine x_regionL ?_
      refine xl_e (e_alloc fun b6 w3 n6 l6 k6 => ?_)
      refine xl_s (e_store fun w4 l7 k7 => ?_)
      refine xl_nil ?_
      refine x_seq ?_
      refine x_seq ?_
      refine x_regionL ?_
      refine xl_v (by first | exact v_load | exact v_loadO (by omega) | exact v_loadFf (by omega) | exact v_loadF0 (by omega)) ?_
      refine xl_call (ids_ok b _) ?_
      rintro _ w5 ⟨b1, rfl, kb1, hb1, lk1⟩
      refine xl_nil ?_
      refine x_block ?_
      have hb6e : b6 = (w2).heap.size := n6.eq
      have hb6l : b6 < w5.heap.size := Has.lt
      have hBw : w.heap.size ≤ (w2).heap.size := hkw.size
      have hb6F : ¬ MachF b pb mb us b6 := fun e => by have := hM.lt _ e; omega
      have hb0l : b0 < (w2).heap.size := (Array.getElem?_eq_some_iff.1 hc0).1
      have hM1 := hM.keep (kpc : Keep NoB w2 w5) (fun _ _ h => h)
      haveI kb6 : Blk w5 b6 _ := inferInstance
      refine x_range (ps := [16]) (fun _ => False) (IdsAl Mk) (IdsFin Mk) (fun W l => idsIter b1 b pb mb us Mk W (hM1.keep l.keep (fun _ _ h => h)) (len_rules hko)) (fun _ h => h.elim) (fun pre v h => (by obtain ⟨n, h1⟩ := h; obtain ⟨a, b, _, _, h2⟩ := List.map_eq_append_iff.1 h1.symm; obtain ⟨k, c, _, h3, _⟩ := List.map_eq_cons_iff.1 h2; rw [← h3]; rfl)) (DrE b pb mb b6 us Mk w5) (fun _ _ _ _ => False) (fun k => k = b6 ∨ MachF b pb mb us k) (drE_stable) (fun _ => ⟨fun _ _ _ h => h.elim, fun _ _ _ _ _ h => h.elim⟩) (⟨[], us, rfl, hM1, hb6F, Blk.eq, fun _ => Iff.rfl, Keep.refl _ _, Sub.refl _ _⟩) (fun _ _ h => h) (fun v τ => Ev τ 2 (.pointer (some ⟨b0, 0, none⟩)) ∧ Ev τ 6 (.pointer (some ⟨b6, 0, none⟩)) ∧ ∃ x, v = [x] ∧ Ev τ 7 x) ?assign ?body ?normal ?jump
      case assign =>
        intro l6 v6 w6 hv6
        obtain ⟨x, rfl⟩ : ∃ x, v6 = [x] := List.length_eq_one_iff.1 hv6
        simp only [updL]
        refine x_regionL ?_
        refine xl_v v_assign ?_
        refine xl_nil ?_
        exact ⟨rfl, inferInstance, inferInstance, x, rfl, inferInstance⟩
      case body =>
        intro l pre v F w7 τ7 ds7 hal hI hB
        obtain ⟨ks, us2, rfl, hM2, hn6, hc6, hFe, hkw2, hsub2⟩ := hI
        obtain ⟨f2, f6, x, rfl, f7⟩ := hB
        obtain ⟨q, hq⟩ := hal
        obtain ⟨a, bb, hab, h1, h2⟩ := List.map_eq_append_iff.1 hq.symm
        obtain ⟨ik, c, rfl, h3, h4⟩ := List.map_eq_cons_iff.1 h2
        obtain rfl : Value.int .i64 ik = x := by simpa using h3
        have hla : a.length = ks.length := by simpa using congrArg List.length h1
        have hkl : ks.length + 1 ≤ 1000 := by have h5 := congrArg List.length hab; have h6 := hko.ids_len; simp at h5; omega
        obtain ⟨hpo, hpl⟩ := hko.pass ks
        have hrl := hpo.roundN_le ik 4096
        haveI kb0 : Blk w7 b0 _ := ⟨(hkw2.block b0 (Nat.lt_of_lt_of_le hb0l Ge.le) (fun e => e.elim (fun e => by omega) hb0n)).trans Blk.eq⟩
        haveI kb6 : Blk w7 b6 _ := ⟨hc6⟩
        haveI nb6 : NotS (MachF b pb mb us2) b6 := ⟨hn6⟩
        refine x_block ?_
        refine x_seq ?_
        refine x_regionL ?_
        refine xl_v (by first | exact v_load | exact v_loadO (by omega) | exact v_loadFf (by omega) | exact v_loadF0 (by omega)) ?_
        refine xl_v v_move ?_
        refine xl_call (round_ok b pb mb us2 _ ik 4096 w7 hM2 hpo) ?_
        rintro _ w8 ⟨rfl, lkr, us3, hM3, hs3⟩
        refine xl_v v_move ?_
        refine xl_v v_extract ?_
        refine xl_v v_extract ?_
        refine xl_v v_assign ?_
        refine xl_v v_assign ?_
        refine xl_nil ?_
        refine x_regionL ?_
        refine xl_v (by first | exact v_load | exact v_loadO (by omega) | exact v_loadFf (by omega) | exact v_loadF0 (by omega)) ?_
        refine xl_v v_move ?_
        refine xl_v (v_add (by omega)) ?_
        refine xl_s (e_store fun w9 l8 k8 => ?_)
        refine xl_nil ?_
        have hk3 : Keep (OneB b6) _ w9 := l8.keep
        have hb6B : b6 < (w7).heap.size := (Array.getElem?_eq_some_iff.1 hc6).1
        haveI s1 : SubF (MachF b pb mb us2) F w7 := ⟨fun j _ e => (hFe j).2 (.inr e)⟩
        haveI s2 : SubF (OneB b6) F w7 := ⟨fun j _ e => (hFe j).2 (.inl e)⟩
        have hn63 : ¬ MachF b pb mb us3 b6 := fun e => (hs3 b6 e).elim hn6 (fun e => by omega)
        have hkF : Keep F w7 w9 := kpc
        refine ⟨fun k => k = b6 ∨ MachF b pb mb us3 k, ⟨ks ++ [ik], us3, by simp, ?_, hn63, ?_, fun _ => Iff.rfl, ?_, ?_⟩, hkF, ?_⟩
        · rw [Mach.pass_snoc]
          exact hM3.keep hk3 (fun j hj e => by have e' : j = b6 := e; exact hn63 (e' ▸ hj))
        · rw [Mach.pass_snoc]
          simpa using k8.eq
        · refine hkw2.then hkF (fun j hj e => ((hFe j).1 e).imp id (fun e => (hsub2 j e).elim id (fun e => by omega)))
        · intro j hj
          rcases hs3 j hj with e | e
          · exact hsub2 j e
          · exact .inr (Nat.le_trans hkw2.size e)
        · rintro j (e | e)
          · exact .inl ((hFe j).2 (.inl e))
          · exact (hs3 j e).imp (fun e => (hFe j).2 (.inr e)) id
      case normal =>
        intro D10 pre F w10 hfin hI hkF hsF hD10 hge10 hnF10
        obtain ⟨ks, us2, hks, hM2, hn6, hc6, hFe, hkw2, hsub2⟩ := hI
        have hki : ks = Mk.ids := (List.map_inj_right (fun x y h => by simpa using h)).1 (hks.symm.trans hfin)
        subst hki
        obtain ⟨hpo, hpl⟩ := hko.pass Mk.ids
        have hil := hko.ids_len
        obtain ⟨Dk, hDke⟩ : ∃ Dk, Dk = D10 := ⟨_, rfl⟩
        have hDw : w.heap.size ≤ Dk := by have := hge10; have : (w2).heap.size ≤ _ := (Ge.le : (w2).heap.size ≤ w5.heap.size); omega
        have hDk0 : (w10).heap[Dk]? = some (.deferred (some [])) := by rw [hDke]; exact hD10.eq
        have hDF : ¬ MachF b pb mb us2 Dk := fun e => hnF10 ((hFe _).2 (.inr (hDke ▸ e)))
        have hdk : Mk.drain (n - k) = if (Mk.pass Mk.ids).2 = 0 then ((Mk.pass Mk.ids).1, 0) else (((Mk.pass Mk.ids).1.drain (n - k - 1)).1, (Mk.pass Mk.ids).2 + ((Mk.pass Mk.ids).1.drain (n - k - 1)).2) := by
          obtain ⟨j, hj⟩ : ∃ j, n - k = j + 1 := ⟨n - k - 1, by omega⟩
          rw [hj, Nat.add_sub_cancel]
          rfl
        have hkB : Keep (MachF b pb mb us) w2 w10 := (kpc : Keep NoB w2 w5).mono (fun _ _ h => h.elim) |>.then hkw2 (fun k hk e => e.elim (fun e => by omega) id)
        have hkw3 : Keep (MachF b pb mb vs) w w10 := hkw.then hkB (fun k hk e => (hsub k e).elim id (fun e => by omega))
        have hsubz : Sub (MachF b pb mb us2) (MachF b pb mb vs) w := fun j hj => by
          rcases hsub2 j hj with e | e
          · exact hsub j e
          · exact .inr (Nat.le_trans hBw (Nat.le_trans Ge.le e))
        have hDs : ∀ D ∈ Ds, (w10).heap[D]? = some (.deferred (some [])) ∧ w.heap.size ≤ D ∧ ¬ MachF b pb mb us2 D := by
          intro D hDm
          obtain ⟨d1, d2, d3⟩ := hD D hDm
          have hlt := (Array.getElem?_eq_some_iff.1 d1).1
          exact ⟨(hkB.block D hlt d3).trans d1, d2, fun e => (hsub2 D e).elim d3 (fun e => by have : (w2).heap.size ≤ _ := (Ge.le : (w2).heap.size ≤ w5.heap.size); omega)⟩
        have hDDs : ∀ D ∈ Dk :: Ds, (w10).heap[D]? = some (.deferred (some [])) ∧ w.heap.size ≤ D ∧ ¬ MachF b pb mb us2 D := by
          intro D hDm
          rcases List.mem_cons.1 hDm with rfl | hDm
          · exact ⟨hDk0, hDw, hDF⟩
          · exact hDs D hDm
        have hDnew : Dk ∉ Ds := fun hm => by
          obtain ⟨d1, _, _⟩ := hD Dk hm
          have hlt := (Array.getElem?_eq_some_iff.1 d1).1
          have := hge10
          have : (w2).heap.size ≤ _ := (Ge.le : (w2).heap.size ≤ w5.heap.size)
          omega
        have hb0n2 : ¬ MachF b pb mb us2 b0 := fun e => (hsub2 b0 e).elim hb0n (fun e => by have : (w2).heap.size ≤ _ := Nat.le_trans (Ge.le : (w2).heap.size ≤ _) e; omega)
        haveI kb0 : Blk w10 b0 _ := ⟨(hkw2.block b0 (Nat.lt_of_lt_of_le hb0l Ge.le) (fun e => e.elim (fun e => by omega) hb0n)).trans Blk.eq⟩
        haveI kb6 : Blk w10 b6 _ := ⟨hc6⟩
        refine x_seq ?_
        refine x_regionL ?_
        refine xl_v v_move ?_
        refine xl_v (by first | exact v_load | exact v_loadO (by omega) | exact v_loadFf (by omega) | exact v_loadF0 (by omega)) ?_
        refine xl_v (v_add (by omega)) ?_
        refine xl_v v_assign ?_
        refine xl_nil ?_
        refine x_seq ?_
        refine x_regionL ?_
        refine xl_v (by first | exact v_load | exact v_loadO (by omega) | exact v_loadFf (by omega) | exact v_loadF0 (by omega)) ?_
        refine xl_v v_eql ?_
        refine xl_nil ?_
        refine x_condE (fun c2 => ?_) (fun c2 => ?_)
        ·
          obtain ⟨Dz, usz, Mz, allz, hdsz, hDz, hndz, hMz, hsz, hdz, hkz, hvz⟩ : ∃ (Dz : List Nat) (usz : List Value) (Mz : Mach) (allz : Nat), markOf Dk :: ds2 = Dz.map markOf ∧ (∀ D ∈ Dz, (w10).heap[D]? = some (.deferred (some [])) ∧ w.heap.size ≤ D ∧ ¬ MachF b pb mb usz D) ∧ Dz.Nodup ∧ MachAt w10 b pb mb usz Mz ∧ Sub (MachF b pb mb usz) (MachF b pb mb vs) w ∧ M.drain n = (Mz, allz) ∧ Keep (MachF b pb mb vs) w w10 ∧ (all : Int) + ((Mk.pass Mk.ids).2 : Int) = (allz : Int) := ⟨Dk :: Ds, us2, (Mk.pass Mk.ids).1, all, by rw [hds]; rfl, hDDs, List.nodup_cons.2 ⟨hDnew, hnd⟩, hM2, hsubz, by rw [hdr, hdk, if_pos (by simpa using c2)]; rfl, hkw3, by simp at c2; omega⟩
          refine x_exit ?_
          refine x_seq ?_
          refine x_regionL ?_
          refine xl_v v_move ?_
          refine xl_v v_assign ?_
          refine xl_nil ?_
          refine x_ret ?_
          refine finM (rs := [.tmp 4]) rfl Dz (by first | exact hdsz | (rw [← hDke]; exact hdsz)) (fun D h => (hDz D h).1) hndz (fun w11 lm11 => ⟨_, inferInstance, ?_⟩)
          refine ⟨by rw [← hn, hdz, hvz]; rfl, ?_, usz, ?_, hsz⟩
          · exact ⟨hkz.then lm11.keep (fun k hk e => by have := (hDz k e).2.1; omega)⟩
          · rw [← hn, hdz]
            exact hMz.keep lm11.keep (fun k hk e => (hDz k e).2.2 hk)
        ·
          refine x_skip ?_
          refine x_regionL ?_
          refine xl_v (v_add (by omega)) ?_
          refine xl_v v_move ?_
          refine xl_nil ?_
          refine ⟨n - (k + 1), by omega, Dk :: Ds, k + 1, all + (Mk.pass Mk.ids).2, us2, (Mk.pass Mk.ids).1, by rw [hds, ← hDke]; rfl, ?_, ?_, rfl, by omega, by omega, ?_, (hko.pass Mk.ids).1, hM2, ?_, hb0n2, Blk.eq, inferInstance, evc, inferInstance, evc, hkw3⟩
          · intro D hDm
            rcases List.mem_cons.1 hDm with rfl | hDm
            · exact ⟨hDk0, hDw, hDF⟩
            · exact hDs D hDm
          · exact List.nodup_cons.2 ⟨hDnew, hnd⟩
          · rw [hdr, hdk, if_neg (by simpa using c2), show n - k - 1 = n - (k + 1) by omega]
            simp only [Nat.add_assoc]
          · exact hsubz
      case jump =>
        exact fun _ _ _ _ _ h => h.elim
    ·
      obtain ⟨Dz, usz, Mz, allz, hdsz, hDz, hndz, hMz, hsz, hdz, hkz, hvz⟩ : ∃ (Dz : List Nat) (usz : List Value) (Mz : Mach) (allz : Nat), ds2 = Dz.map markOf ∧ (∀ D ∈ Dz, (w2).heap[D]? = some (.deferred (some [])) ∧ w.heap.size ≤ D ∧ ¬ MachF b pb mb usz D) ∧ Dz.Nodup ∧ MachAt w2 b pb mb usz Mz ∧ Sub (MachF b pb mb usz) (MachF b pb mb vs) w ∧ M.drain n = (Mz, allz) ∧ Keep (MachF b pb mb vs) w w2 ∧ (all : Int) = (allz : Int) := ⟨Ds, us, Mk, all, hds, hD, hnd, hM, hsub, hdr.trans (by rw [show n - k = 0 by omega]; simp [Mach.drain]), hkw, rfl⟩
      refine x_exit ?_
      refine x_seq ?_
      refine x_regionL ?_
      refine xl_v v_move ?_
      refine xl_v v_assign ?_
      refine xl_nil ?_
      refine x_ret ?_
      refine finM (rs := [.tmp 4]) rfl Dz (by first | exact hdsz | (rw [← hDke]; exact hdsz)) (fun D h => (hDz D h).1) hndz (fun w12 lm12 => ⟨_, inferInstance, ?_⟩)
      refine ⟨by rw [← hn, hdz, hvz]; rfl, ?_, usz, ?_, hsz⟩
      · exact ⟨hkz.then lm12.keep (fun k hk e => by have := (hDz k e).2.1; omega)⟩
      · rw [← hn, hdz]
        exact hMz.keep lm12.keep (fun k hk e => (hDz k e).2.2 hk)
end Go.Proofs.Ytbihphclmdokeaa
