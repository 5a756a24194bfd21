/-
  Walks, printed by a program of this workplace (wip/tools/sx.py) off the functions' code and a text of contracts.
-/
import Derived.Test.YtacadajlpmhcfaaG
set_option linter.all false
set_option maxRecDepth 100000
set_option synthInstance.maxSize 100000
set_option synthInstance.maxHeartbeats 400000
namespace Go.Proofs.Ytacadajlpmhcfaa
open Go.Wst
open Go.Wst.Nm
theorem aput_new {l : List (Int × LMsg)} {k : Int} (h : k ∉ l.map (·.1)) (x : LMsg) : aput (netV l) k (.agg (msgC x).toArray) = netV (l ++ [(k, x)]) := by
  rw [aput_none]
  · simp [netV]
  · rw [List.any_eq_false]
    intro p hp
    obtain ⟨q, hq, rfl⟩ := List.mem_map.1 hp
    simp only [decide_eq_true_eq]
    exact fun e => h (e ▸ List.mem_map.2 ⟨q, hq, rfl⟩)
/-- A copy under way. -/
structure CopyW (b2 ct m2 base : Nat) (most : Int) (came : Nat) (q : List (Int × LMsg)) (G : Nat → Prop) (W : World) : Prop where
  hb : W.heap[b2]? = some (.cells [.int .i64 most, .int .i64 (came : Int), .map (some m2)].toArray 72 (0, 0))
  hc : W.heap[ct]? = some (.cells #[.pointer (some ⟨b2, 0, none⟩)] 22 (0, 0))
  hm : MapB W m2 (Value.int .i64) (netV q)
  hr : ∀ p ∈ q, FRow W G p.2.A (bytesC p.2.m.bytes)
  gl : ∀ k, G k → base ≤ k ∧ k < W.heap.size
  nb : ¬ G b2
  nc : ¬ G ct
  nm : ¬ G m2
def CopyF (b2 ct m2 : Nat) (G : Nat → Prop) : Nat → Prop := fun k => k = b2 ∨ k = ct ∨ k = m2 ∨ G k
def CopyI (b2 ct m2 base : Nat) (most : Int) (came : Nat) (l : List (Int × Msg)) : Seen → (Nat → Prop) → World → Prop := fun pre F W =>
  ∃ (q : List (Int × LMsg)) (G : Nat → Prop), pre = q.map tellM ∧ q.map pureM = l.take q.length ∧ CopyW b2 ct m2 base most came q G W ∧ (∀ k, F k ↔ CopyF b2 ct m2 G k)
theorem CopyW.lt {b2 ct m2 base : Nat} {most : Int} {came : Nat} {q : List (Int × LMsg)} {G : Nat → Prop} {W : World} (h : CopyW b2 ct m2 base most came q G W) : ∀ k, CopyF b2 ct m2 G k → k < W.heap.size := by
  rintro k (rfl | rfl | rfl | e)
  · exact (Array.getElem?_eq_some_iff.1 h.hb).1
  · exact (Array.getElem?_eq_some_iff.1 h.hc).1
  · exact h.hm.lt
  · exact (h.gl k e).2
theorem CopyW.keep {b2 ct m2 base : Nat} {most : Int} {came : Nat} {q : List (Int × LMsg)} {G S : Nat → Prop} {W W' : World} (h : CopyW b2 ct m2 base most came q G W) (hk : Keep S W W') (hs : ∀ k, CopyF b2 ct m2 G k → ¬ S k) : CopyW b2 ct m2 base most came q G W' :=
  ⟨(hk.block b2 (h.lt b2 (.inl rfl)) (hs _ (.inl rfl))).trans h.hb, (hk.block ct (h.lt ct (.inr (.inl rfl))) (hs _ (.inr (.inl rfl)))).trans h.hc, h.hm.keep hk (hs _ (.inr (.inr (.inl rfl)))), fun p hp => (h.hr p hp).keep hk (fun k hk => hs k (.inr (.inr (.inr hk)))), fun k hk' => ⟨(h.gl k hk').1, Nat.lt_of_lt_of_le (h.gl k hk').2 hk.size⟩, h.nb, h.nc, h.nm⟩
theorem copyI_stable {b2 ct m2 base : Nat} {most : Int} {came : Nat} {l : List (Int × Msg)} {w0 : World} : Stable (CopyI b2 ct m2 base most came l) w0 := by
  refine ⟨?_, ?_⟩
  · rintro pre F W ⟨q, G, _, _, h, hF⟩ k hk
    exact h.lt k ((hF k).1 hk)
  · rintro pre F W W' S ⟨q, G, h1, h2, h, hF⟩ hk hs _
    exact ⟨q, G, h1, h2, h.keep hk (fun k hk => hs k ((hF k).2 hk)), hF⟩
theorem len_bytes {N : NetL} (hok : N.pure.ok) : ∀ p ∈ N.l, p.2.m.bytes.length ≤ 4096 := fun p hp => (hok.good (p.1, p.2.m) (List.mem_map.2 ⟨p, hp, rfl⟩)).2.2
theorem len_few {N : NetL} (hok : N.pure.ok) : N.l.length ≤ 4096 := by
  have h1 := hok.few
  have h2 := hok.most
  rw [pure_len] at h1
  omega
theorem map_pureM (N : NetL) : N.l.map pureM = N.pure.l := rfl
theorem key_new {l : List (Int × Msg)} (hnd : (l.map (·.1)).Nodup) {q : List (Int × LMsg)} (hq : q.map pureM = l.take q.length) (hql : q.length < l.length) : l[q.length].1 ∉ q.map (·.1) := by
  have h1 : q.map (·.1) = (l.take q.length).map (·.1) := by rw [← hq]; simp [pureM]
  rw [h1]
  have h2 : l = l.take q.length ++ l[q.length] :: l.drop (q.length + 1) := by simp
  intro h3
  rw [h2, List.map_append, List.nodup_append] at hnd
  obtain ⟨_, _, h4⟩ := hnd
  have h5 : (l.take q.length).length = q.length := by simp; omega
  exact h4 _ h3 _ (by rw [List.map_cons]; exact List.mem_cons_self) rfl
/-- (*waystation/net.Net).Copy -/
theorem copy_ok (b mb : Nat) (G : Nat → Prop) (N : NetL) (w : World) (h : NetAt w b mb G N) (hok : N.pure.ok) : Ret Try.prog 26 #[.pointer (some ⟨b, 0, none⟩)] w (fun v w' => (∃ b2 m2 G2 N2, v = .pointer (some ⟨b2, 0, none⟩) ∧ NetAt w' b2 m2 G2 N2 ∧ N2.pure = N.pure ∧ ∀ k, NetF b2 m2 G2 k → w.heap.size ≤ k) ∧ Lk w' w NoB) := by
  haveI hb : Blk w b _ := ⟨h.hb⟩
  have hnd : (N.pure.l.map (·.1)).Nodup := rise_nodup hok.rise
  refine ret_of_x (N := 26) (l := [.pointer (some ⟨b, 0, none⟩)]) Try.func26 rfl rfl (Nat.le_of_ble_eq_true rfl) ?_
  refine x_seq ?_
  refine x_regionL ?_
  refine xl_v v_assign ?_
  refine xl_nil ?_
  refine x_seq ?_
  refine x_seq ?_
  refine x_regionL ?_
  refine xl_v v_move ?_
  refine xl_call (none_ok _ _ _ _ _) ?_
  rintro _ _ ⟨rfl, rfl⟩
  refine xl_nil ?_
  refine x_condF ?_
  refine x_skip ?_
  refine x_seq ?_
  refine x_regionL ?_
  refine xl_v v_move ?_
  refine xl_v (by first | exact v_nilCheckP | exact v_nilCheckF) ?_
  refine xl_v (by first | exact v_fieldAddr | exact v_fieldAddrF (by decide) (by omega) | exact v_fieldAddrR (by first | assumption | rfl)) ?_
  refine xl_v (by first | exact v_loadA | exact v_loadF (by decide) (by omega)) ?_
  refine xl_e (e_makeMap fun b3 w2 n3 l3 k3 => ?_)
  refine xl_v v_build ?_
  refine xl_e (e_box fun b5 w3 n5 l5 k5 => ?_)
  refine xl_e (e_alloc fun b6 w4 n6 l6 k6 => ?_)
  refine xl_s (e_store fun w5 l5 k5 => ?_)
  refine xl_nil ?_
  refine x_seq ?_
  refine x_seq ?_
  refine x_regionL ?_
  refine xl_v v_move ?_
  refine xl_call (all_ok b mb G N w5 (h.ext (kpc : Keep NoB w w5))) ?_
  rintro _ w6 ⟨⟨cb, mc, rfl, hcb, hmc, hcbn, hmcn⟩, lka⟩
  haveI : Blk w6 cb _ := ⟨hcb⟩
  have hF0 : ∀ k, CopyF b5 b6 b3 (fun _ => False) k → w.heap.size ≤ k ∧ k < (w5).heap.size := by
    rintro k (rfl | rfl | rfl | e)
    · exact ⟨by rw [n5.eq]; exact Ge.le, Has.lt⟩
    · exact ⟨by rw [n6.eq]; exact Ge.le, Has.lt⟩
    · exact ⟨by rw [n3.eq]; exact Ge.le, Has.lt⟩
    · exact e.elim
  haveI : SubF (CopyF b5 b6 b3 (fun _ => False)) NoB w := ⟨fun k hk e => by have := (hF0 k e).1; omega⟩
  refine xl_nil ?_
  refine x_block ?_
  have hm3 : MapB w6 b3 (Value.int .i64) (netV []) := mapB_made _ inferInstance
  have hsz3 := n3.eq
  have hsz5 := n5.eq
  have hsz6 := n6.eq
  have hg3 : w.heap.size ≤ b3 := by rw [n3.eq]; exact Ge.le
  have hg5 : w.heap.size ≤ b5 := by rw [n5.eq]; exact Ge.le
  have hg6 : w.heap.size ≤ b6 := by rw [n6.eq]; exact Ge.le
  have hN := h.ext (kpc : Keep NoB w w6)
  have hi0 : CopyI b5 b6 b3 w.heap.size N.most N.came N.pure.l [] (CopyF b5 b6 b3 (fun _ => False)) w6 := ⟨[], fun _ => False, rfl, rfl, ⟨Blk.eq, Blk.eq, hm3, (by intro p hp; cases hp), fun k e => e.elim, fun e => e, fun e => e, fun e => e⟩, fun _ => Iff.rfl⟩
  refine x_rangeE (ps := [17, 18]) (fun k => k = cb ∨ k = mc ∨ G k) (AllAl N.pure.l) (AllFin N.pure.l) (MsgE N.pure.l) (msgE_elem) (fun W l => allIter cb mc G N.l W (hmc.keep (kpc : Keep NoB w6 W) (fun h => h)) (fun p hp => (hN.hr p hp).keep (kpc : Keep NoB w6 W) (fun _ _ h => h)) (by rw [← pure_keys]; exact hok.rise) (len_few hok) (len_bytes hok) (fun k hk => Nat.lt_of_lt_of_le (hN.gl k hk) Ge.le)) (by rintro k (rfl | rfl | e); exact Has.lt; exact hmc.lt; exact hN.gl k e) (fun pre v h => tell_len h) (CopyI b5 b6 b3 w.heap.size N.most N.came N.pure.l) (fun _ _ _ _ => False) (CopyF b5 b6 b3 (fun _ => False)) (copyI_stable) (fun _ => ⟨fun _ _ _ h => h.elim, fun _ _ _ _ _ h => h.elim⟩) (hi0) (fun k hk e => by have h1 := hF0 k hk; rcases e with rfl | rfl | e; omega; omega; have := h.gl k e; omega) (fun v τ n W => ∃ (k : Int) (x : LMsg) (c5 : Nat), v = [.int .i64 k, .agg (msgC x).toArray] ∧ Ev τ 3 (.pointer (some ⟨b6, 0, none⟩)) ∧ Ev τ 4 (.int .i64 k) ∧ Ev τ 5 (.pointer (some ⟨c5, 0, none⟩)) ∧ W.heap[c5]? = some (.cells (msgC x).toArray 30 (0, 0)) ∧ n ≤ c5) (by rintro v τ n W1 W2 S ⟨k, x, c5, h1, h2, h3, h4, h5, h6⟩ hk hs; exact ⟨k, x, c5, h1, h2, h3, h4, (hk.block c5 (Array.getElem?_eq_some_iff.1 h5).1 (fun e => by have := hs _ e; omega)).trans h5, h6⟩) ?assign ?body ?normal ?jump
  case assign =>
    intro l7 pre v7 w7 hal hv7
    obtain ⟨k, x, rfl⟩ := tell_last hal
    simp only [updL]
    refine x_seq ?_
    refine x_regionL ?_
    refine xl_v v_assign ?_
    refine xl_nil ?_
    refine x_regionL ?_
    refine xl_e (e_alloc fun c5 w8 n5a l5a k5a => ?_)
    refine xl_s (e_storeA fun w9 l6a k6a => ?_)
    refine xl_nil ?_
    exact ⟨lkc, k, x, c5, rfl, inferInstance, inferInstance, inferInstance, Blk.eq, by rw [n5a.eq]; exact Nat.le_refl _⟩
  case body =>
    intro l pre v F Fv nb w10 τ10 ds10 hal hI hE hdis hnew hlt hnb hnbw hB
    obtain ⟨q, Gq, rfl, hq, hC, hFe⟩ := hI
    obtain ⟨hql, x, rfl, hx, hown, hFv⟩ := next_tell hnd hal hE
    obtain ⟨k, x2, c5, hv, e3, e4, e5, hc5, hnc⟩ := hB
    injection hv with hv1 hv2
    injection hv2 with hv3 _
    injection hv1 with _ hv1
    injection hv3 with hv3
    rw [← hv3] at hc5
    subst hv1
    haveI : Blk w10 b6 _ := ⟨hC.hc⟩
    haveI : Blk w10 b5 _ := ⟨hC.hb⟩
    haveI : MapI w10 b3 _ _ _ := ⟨hC.hm⟩
    haveI : Blk w10 c5 _ := ⟨hc5⟩
    have hCl := hC.lt
    have hfr := FRow.of_own hown
    refine x_block ?_
    refine x_drawL (NoB) (.take 0 (.take 1 (.take 2 (.take 3 (.take 4 (.take 5 (.last 6))))))) mixed (by kernel_rfl) (fun _ _ _ _ _ h => h) (fun w11 l11 => ?_)
    refine xt_v rfl (by first | exact v_load | exact v_loadO (by omega) | exact v_loadFf (by omega) | exact v_loadF0 (by omega)) ?_
    refine xt_v rfl (by first | exact v_nilCheckP | exact v_nilCheckF) ?_
    refine xt_v rfl (by first | exact v_fieldAddr | exact v_fieldAddrF (by decide) (by omega) | exact v_fieldAddrR (by first | assumption | rfl)) ?_
    refine xt_v rfl (by first | exact v_load | exact v_loadO (by omega) | exact v_loadFf (by omega) | exact v_loadF0 (by omega)) ?_
    refine xt_v rfl v_move ?_
    refine xt_v rfl (by first | exact v_loadA | exact v_loadF (by decide) (by omega)) ?_
    refine xt_lastS rfl (e_mapUpdate N.pure.l[q.length].1 rfl fun w12 l11 m11 => ?_)
    have hmB := (MapI.m : MapB w12 b3 _ _)
    rw [aput_new (key_new hnd hq hql) x] at hmB
    have hk3 : Keep (OneB b3) w10 w12 := kpc
    have hcov : ∀ j, (Gq j ∨ Fv j) → ¬ OneB b3 j := by
      rintro j (e | e) e2
      · exact hC.nm (by have e' : j = b3 := e2; rw [← e']; exact e)
      · have e' : j = b3 := e2
        exact hdis j e ((hFe j).2 (.inr (.inr (.inl e'))))
    have hfd : ∀ j, Fv j → ¬ CopyF b5 b6 b3 Gq j := fun j e e2 => hdis j e ((hFe j).2 e2)
    have hFvl : ∀ j, Fv j → w.heap.size ≤ j ∧ j < (w10).heap.size := fun j e => ⟨Nat.le_trans Ge.le (hnew j e), msgE_elem.lt _ _ _ hE j e⟩
    have hszw := hk3.size
    refine ⟨CopyF b5 b6 b3 (fun j => Gq j ∨ Fv j), ⟨q ++ [(N.pure.l[q.length].1, x)], fun j => Gq j ∨ Fv j, by simp, ?_, ⟨?_, ?_, hmB, ?_, ?_, ?_, ?_, ?_⟩, fun _ => Iff.rfl⟩, ?_, ?_⟩
    · rw [List.map_append, hq, List.length_append, List.length_singleton, take_snoc _ _ hql]
      show _ ++ [(N.pure.l[q.length].1, x.m)] = _
      rw [hx]
    · exact (Blk.eq : (w12).heap[b5]? = _)
    · exact (Blk.eq : (w12).heap[b6]? = _)
    · intro p hp
      rcases List.mem_append.1 hp with hp | hp
      · exact ((hC.hr p hp).mono (fun j e => .inl e)).keep hk3 hcov
      · simp only [List.mem_singleton] at hp
        subst hp
        exact (hfr.mono (fun j e => .inr ((hFv j).2 e))).keep hk3 hcov
    · rintro j (e | e)
      · exact ⟨(hC.gl j e).1, Nat.lt_of_lt_of_le (hC.gl j e).2 hszw⟩
      · exact ⟨(hFvl j e).1, Nat.lt_of_lt_of_le (hFvl j e).2 hszw⟩
    · exact fun e => e.elim hC.nb (fun e => hfd _ e (.inl rfl))
    · exact fun e => e.elim hC.nc (fun e => hfd _ e (.inr (.inl rfl)))
    · exact fun e => e.elim hC.nm (fun e => hfd _ e (.inr (.inr (.inl rfl))))
    · exact hk3.mono (fun j _ e => .inl ((hFe j).2 (.inr (.inr (.inl e)))))
    · rintro j (e | e | e | e | e)
      · exact .inl (.inl ((hFe j).2 (.inl e)))
      · exact .inl (.inl ((hFe j).2 (.inr (.inl e))))
      · exact .inl (.inl ((hFe j).2 (.inr (.inr (.inl e)))))
      · exact .inl (.inl ((hFe j).2 (.inr (.inr (.inr e)))))
      · exact .inl (.inr (.inl e))
  case normal =>
    intro D13 pre F w13 hfin hI hkF hsF hD13 hge13 hnF13
    obtain ⟨q, Gq, rfl, hq, hC, hFe⟩ := hI
    have hqn := fin_tell hfin
    haveI : Lk w13 _ (CopyF b5 b6 b3 (fun _ => False)) := ⟨hkF⟩
    haveI : Blk w13 b6 _ := ⟨hC.hc⟩
    have hDw : w.heap.size ≤ D13 := Nat.le_trans Ge.le hge13
    haveI sD : SubF (fun k => k ∈ [D13]) NoB w := ⟨fun k hk e => by simp at e; omega⟩
    refine x_seq ?_
    refine x_regionL ?_
    refine xl_v (by first | exact v_load | exact v_loadO (by omega) | exact v_loadFf (by omega) | exact v_loadF0 (by omega)) ?_
    refine xl_v v_assign ?_
    refine xl_nil ?_
    refine x_ret ?_
    refine finM (rs := [.tmp 2]) rfl [D13] rfl (by simpa using hD13.eq) (by simp) (fun w14 lm14 => ⟨_, inferInstance, ?_⟩)
    have hnD : ∀ k, CopyF b5 b6 b3 Gq k → ¬ k ∈ [D13] := fun k hk e => hnF13 ((hFe _).2 (List.mem_singleton.1 e ▸ hk))
    have hC2 := hC.keep lm14.keep hnD
    have h2 : b3 < b5 := by rw [n5.eq]; exact Has.lt
    have hne : b5 ≠ b3 := by omega
    refine ⟨⟨b5, b3, Gq, ⟨N.most, N.came, q⟩, rfl, ⟨hC2.hb, hC2.hm, hC2.hr, hne, hC2.nb, hC2.nm, fun k hk => (hC2.gl k hk).2⟩, ?_, ?_⟩, lkc⟩
    · show Net.mk N.most N.came (q.map pureM) = _
      rw [hq, hqn, List.take_length]
      rfl
    · rintro k (rfl | rfl | e)
      · exact (hF0 _ (.inl rfl)).1
      · exact (hF0 _ (.inr (.inr (.inl rfl)))).1
      · exact (hC2.gl k e).1
  case jump =>
    exact fun _ _ _ _ _ h => h.elim
end Go.Proofs.Ytacadajlpmhcfaa
