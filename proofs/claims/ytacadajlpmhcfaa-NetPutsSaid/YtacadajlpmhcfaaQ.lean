/-
  Walks, printed by a program of this workplace (wip/tools/sx.py) off the functions' code and a text of contracts.
-/
import Derived.Test.YtacadajlpmhcfaaP
import Derived.Test.YtacadajlpmhcfaaN
set_option linter.all false
set_option maxRecDepth 100000
set_option synthInstance.maxSize 100000
set_option synthInstance.maxHeartbeats 400000
namespace Go.Proofs.Ytacadajlpmhcfaa
open Go.Wst
open Go.Wst.Nm
def IsI (b3 : Nat) (wb : World) : Seen → (Nat → Prop) → World → Prop := fun pre F W =>
  ∃ q : List (Int × LMsg), pre = q.map tellM ∧ W.heap[b3]? = some (.cells #[.int .i64 (q.length : Int)] 3 (0, 0)) ∧ (∀ k, F k ↔ k = b3) ∧ Keep (OneB b3) wb W
theorem isI_stable {b3 : Nat} {wb : World} : Stable (IsI b3 wb) wb := by
  refine ⟨?_, ?_⟩
  · rintro pre F W ⟨q, _, h1, h2, _⟩ k hk
    rw [(h2 k).1 hk]
    exact (Array.getElem?_eq_some_iff.1 h1).1
  · rintro pre F W W' S ⟨q, h0, h1, h2, h3⟩ hk hs hn
    exact ⟨q, h0, (hk.block b3 (Array.getElem?_eq_some_iff.1 h1).1 (hs b3 ((h2 b3).2 rfl))).trans h1, h2, h3.then hk (fun k hlt hS => by have := hn k hS; omega)⟩
theorem setL_bytes (ys : List UInt8) (k : Nat) (x : UInt8) (h : k < ys.length) : setL (bytesC ys) (k * 1) [byteC x] = bytesC (ys.set k x) := setL_map byteC ys k x h
theorem byte_wrap (v : Int) (h : 0 ≤ v) : ∃ x : UInt8, Value.int .u8 (IntKind.wrap .u8 v) = byteC x := by
  refine ⟨UInt8.ofNat v.toNat, ?_⟩
  congr 1
  simp [IntKind.wrap, IntKind.bits, IntKind.signed]
  omega
/-- waystation/waystationlaw05.is -/
theorem is_ok (b mb : Nat) (G : Nat → Prop) (N : NetL) (R : RefL) (F : Nat → Prop) (w : World) (h : NetAt w b mb G N) (hok : N.pure.ok) (hR : RefAt w F R) (hp : N.pure = R.pure) : Ret Try.prog 25 #[.pointer (some ⟨b, 0, none⟩), .agg (refC R).toArray] w (fun v w' => v = .bool true ∧ Lk w' w NoB) := by
  have hnd : (N.pure.l.map (·.1)).Nodup := rise_nodup hok.rise
  have hlen : N.pure.l.length = R.l.length := by rw [hp, ref_len]
  have hfew := len_few hok
  have hpl := pure_len N
  refine ret_of_x (N := 76) (l := [.pointer (some ⟨b, 0, none⟩), .agg (refC R).toArray]) Try.func25 rfl rfl (Nat.le_of_ble_eq_true rfl) ?_
  refine x_seq ?_
  refine x_regionL ?_
  refine xl_e (e_box fun b1 w1 n1 l1 k1 => ?_)
  refine xl_e (e_alloc fun b2 w2 n2 l2 k2 => ?_)
  refine xl_nil ?_
  refine x_seq ?_
  refine x_regionL ?_
  refine xl_e (e_alloc fun b3 w3 n3 l3 k3 => ?_)
  refine xl_s (e_store fun w4 l4 k4 => ?_)
  refine xl_nil ?_
  refine x_seq ?_
  refine x_seq ?_
  refine x_regionL ?_
  refine xl_v v_move ?_
  refine xl_call (all_ok b mb G N w4 (h.ext (kpc : Keep NoB w w4))) ?_
  rintro _ w5 ⟨⟨cb, mc, rfl, hcb, hmc, hcbn, hmcn⟩, lka⟩
  haveI : Blk w5 cb _ := ⟨hcb⟩
  have hb3p : b3 < (w4).heap.size := Has.lt
  have hb3w : w.heap.size ≤ b3 := by rw [n3.eq]; exact Ge.le
  haveI : SubF (OneB b3) NoB w := ⟨fun k hk e => by have e' : k = b3 := e; omega⟩
  refine xl_nil ?_
  refine x_block ?_
  have hN := h.ext (kpc : Keep NoB w w5)
  have hRw := hR.ext (kpc : Keep NoB w w5)
  haveI kb1 : Blk w5 b1 _ := inferInstance
  have hb1l : b1 < (w5).heap.size := Has.lt
  haveI : NeB b1 b3 := inferInstance
  have hb2l : b2 < (w5).heap.size := Has.lt
  obtain ⟨wS, hwS⟩ : ∃ x, x = w5 := ⟨_, rfl⟩
  refine x_rangeE (ps := [11, 12]) (fun k => k = cb ∨ k = mc ∨ G k) (AllAl N.pure.l) (AllFin N.pure.l) (MsgE N.pure.l) (msgE_elem) (fun W l => allIter cb mc G N.l W (hmc.keep (kpc : Keep NoB w5 W) (fun h => h)) (fun p hp => (hN.hr p hp).keep (kpc : Keep NoB w5 W) (fun _ _ h => h)) (by rw [← pure_keys]; exact hok.rise) (len_few hok) (len_bytes hok) (fun k hk => Nat.lt_of_lt_of_le (hN.gl k hk) Ge.le)) (by rintro k (rfl | rfl | e); exact Has.lt; exact hmc.lt; exact hN.gl k e) (fun pre v h => tell_len h) (IsI b3 w5) (fun _ _ _ _ => False) (OneB b3) (isI_stable) (fun _ => ⟨fun _ _ _ h => h.elim, fun _ _ _ _ _ h => h.elim⟩) (⟨[], rfl, Blk.eq, fun _ => Iff.rfl, Keep.refl _ _⟩) (fun k hk e => by have e' : k = b3 := hk; subst e'; rcases e with e | e | e; omega; omega; have := h.gl _ e; omega) (fun v τ n W => ∃ (k : Int) (x : LMsg) (c7 : Nat), v = [.int .i64 k, .agg (msgC x).toArray] ∧ Ev τ 3 (.pointer (some ⟨b1, 0, none⟩)) ∧ Ev τ 5 (.pointer (some ⟨b3, 0, none⟩)) ∧ Ev τ 6 (.int .i64 k) ∧ Ev τ 7 (.pointer (some ⟨c7, 0, none⟩)) ∧ W.heap[c7]? = some (.cells (msgC x).toArray 30 (0, 0)) ∧ n ≤ c7) (by rintro v τ n W1 W2 S ⟨k, x, c7, h1, h2, h3, h4, h5, h6, h7⟩ hk hs; exact ⟨k, x, c7, h1, h2, h3, h4, h5, (hk.block c7 (Array.getElem?_eq_some_iff.1 h6).1 (fun e => by have := hs _ e; omega)).trans h6, h7⟩) ?assign ?body ?normal ?jump
  case assign =>
    intro l6 pre v6 w6 hal hv6
    obtain ⟨k, x, rfl⟩ := tell_last hal
    simp only [updL]
    refine x_seq ?_
    refine x_regionL ?_
    refine xl_v v_assign ?_
    refine xl_nil ?_
    refine x_regionL ?_
    refine xl_e (e_alloc fun c7 w7 n5a l5a k5a => ?_)
    refine xl_s (e_storeA fun w8 l6a k6a => ?_)
    refine xl_nil ?_
    exact ⟨lkc, k, x, c7, rfl, inferInstance, inferInstance, inferInstance, inferInstance, Blk.eq, by rw [n5a.eq]; exact Nat.le_refl _⟩
  case body =>
    intro l pre v F Fv nb w9 τ9 ds9 hal hI hE hdis hnew hlt hnb hnbw hB
    obtain ⟨q, rfl, hb3, hFe, hkw⟩ := hI
    obtain ⟨hql, x, rfl, hx, hown, hFv⟩ := next_tell hnd hal hE
    obtain ⟨k, x2, c7, hv, e3, e5, e6, e7, hc7, hnc⟩ := hB
    have hxlen : x.m.bytes.length ≤ 4096 := by rw [hx]; exact (hok.good _ (List.getElem_mem hql)).2.2
    injection hv with hv1 hv2
    injection hv2 with hv3 _
    injection hv1 with _ hv1
    injection hv3 with hv3
    rw [← hv3] at hc7
    subst hv1
    have hc7' : (w9).heap[c7]? = some (.cells (msgC x).toArray 30 (0, 0)) := hc7
    clear hc7
    haveI lkB : Lk w9 _ (OneB b3) := ⟨hkw⟩
    haveI : Blk w9 b3 _ := ⟨hb3⟩
    haveI : Blk w9 b1 _ := inferInstance
    haveI : Blk w9 c7 _ := ⟨hc7'⟩
    have hRA : R.A.isSome = true := row_some (w := w9) (A := R.A) (cs := R.l.flatMap itemC) ⟨hRw.row.row.keep hkw (fun a ha e => by have e' : a.block = b3 := e; have := hR.lt _ (hR.row.blk a ha); omega)⟩ (by rw [flat_len (sz := 4) (fun _ => rfl)]; omega)
    have hnb3 : ¬ Fv b3 := fun e => hdis b3 e ((hFe b3).2 rfl)
    have hnc7 : ¬ Fv c7 := fun e => by have := hlt c7 (.inr e); omega
    have hRB := hRw.keep hkw (fun j hj e => by have e' : j = b3 := e; have := hR.lt j hj; omega)
    have hqR : q.length < R.l.length := by omega
    haveI : Row w9 R.A (R.l.flatMap itemC) := ⟨hRB.row.row⟩
    haveI : Row w9 R.l[q.length].2.A (bytesC R.l[q.length].2.m.bytes) := ⟨(hRB.items _ (List.getElem_mem hqR)).row⟩
    haveI : OwnI w9 x.A _ _ _ _ _ _ _ := ⟨hown⟩
    have hRg : R.pure.l[q.length]? = some (R.l[q.length].1, R.l[q.length].2.m) := by simp [RefL.pure, hqR]
    have hRe : N.pure.l[q.length] = (R.l[q.length].1, R.l[q.length].2.m) := by
      have h1 : N.pure.l[q.length]? = some (R.l[q.length].1, R.l[q.length].2.m) := by rw [hp]; exact hRg
      rw [List.getElem?_eq_getElem hql] at h1
      exact Option.some.inj h1
    have hxm : x.m = R.l[q.length].2.m := by rw [hx, hRe]
    have hkk : N.pure.l[q.length].1 = R.l[q.length].1 := by rw [hRe]
    have hxl : ∀ a, x.A = some a → a.block < nb := fun a ha => hlt _ (.inr ((hFv _).2 (by rw [ha]; rfl)))
    haveI : RowOut (OneB c7) x.A := ⟨fun a ha e => by have := hxl a ha; have e' : a.block = c7 := e; omega⟩
    refine x_block ?_
    refine x_seq ?_
    refine x_seq ?_
    refine x_drawL (NoB) (.take 0 (.take 1 (.take 2 (.take 3 (.take 4 (.take 5 (.take 6 (.take 7 (.take 8 (.take 9 (.take 10 (.take 11 (.take 12 (.take 13 (.take 14 (.take 15 (.take 16 (.take 17 (.take 18 (.take 19 (.take 20 (.take 21 (.take 22 (.eff 23 (.take 24 (.take 25 .done)))))))))))))))))))))))))) mixed (by kernel_rfl) (fun _ _ _ _ _ h => h) (fun w10 l10 => ?_)
    refine xt_v rfl (by first | exact v_load | exact v_loadO (by omega) | exact v_loadFf (by omega) | exact v_loadF0 (by omega)) ?_
    refine xt_v rfl (by first | exact v_fieldAddr | exact v_fieldAddrF (by decide) (by omega) | exact v_fieldAddrR (by first | assumption | rfl)) ?_
    refine xt_v rfl (by first | exact v_load | exact v_loadO (by omega) | exact v_loadFf (by omega) | exact v_loadF0 (by omega)) ?_
    refine xt_v rfl v_len ?_
    refine xt_v rfl (v_congr (u := .bool false) v_geq (by simp; omega)) ?_
    refine xt_v rfl v_move ?_
    refine xt_gv rfl rfl EvO.eq (by first | exact v_fieldAddr | exact v_fieldAddrF (by decide) (by omega) | exact v_fieldAddrR (by first | assumption | rfl)) ?_
    refine xt_gv rfl rfl EvO.eq (by first | exact v_load | exact v_loadO (by omega) | exact v_loadFf (by omega) | exact v_loadF0 (by omega)) ?_
    refine xt_gv rfl rfl EvO.eq (by first | exact v_load | exact v_loadO (by omega) | exact v_loadFf (by omega) | exact v_loadF0 (by omega)) ?_
    refine xt_gv rfl rfl EvO.eq (v_indexF q.length (by decide) rfl (by omega) hqR) ?_
    refine xt_gv rfl rfl EvO.eq (by first | exact v_fieldAddr | exact v_fieldAddrF (by decide) (by omega) | exact v_fieldAddrR (by first | assumption | rfl)) ?_
    refine xt_gv rfl rfl EvO.eq (v_loadF0 hqR) ?_
    refine xt_gv rfl rfl EvO.eq v_move ?_
    refine xt_gv rfl rfl EvO.eq (v_neqF hkk.symm) ?_
    refine xt_v rfl (by first | exact v_pickT | exact v_pickF | exact v_pick) ?_
    refine xt_v rfl v_move ?_
    refine xt_gv rfl rfl EvO.eq (by first | exact v_loadA | exact v_loadF (by decide) (by omega)) ?_
    refine xt_gv rfl rfl EvO.eq (by first | exact v_fieldAddr | exact v_fieldAddrF (by decide) (by omega) | exact v_fieldAddrR (by first | assumption | rfl)) ?_
    refine xt_gv rfl rfl EvO.eq (by first | exact v_load | exact v_loadO (by omega) | exact v_loadFf (by omega) | exact v_loadF0 (by omega)) ?_
    refine xt_gv rfl rfl EvO.eq (by first | exact v_load | exact v_loadO (by omega) | exact v_loadFf (by omega) | exact v_loadF0 (by omega)) ?_
    refine xt_gv rfl rfl EvO.eq (v_indexF q.length (by decide) rfl (by omega) hqR) ?_
    refine xt_gv rfl rfl EvO.eq (by first | exact v_fieldAddr | exact v_fieldAddrF (by decide) (by omega) | exact v_fieldAddrR (by first | assumption | rfl)) ?_
    refine xt_gv rfl rfl EvO.eq (v_loadRA (vs := msgC R.l[q.length].2) rfl hRA (fun i u hi => by rw [Nat.add_assoc, Nat.add_comm 1 i]; exact flat_get (enc := itemC) (fun _ => rfl) R.l q.length hqR (i + 1) u hi)) ?_
    refine xt_gcall rfl rfl EvO.eq (samemsg2_ok x R.l[q.length].2 w10) ?_
    rintro _ w11 ⟨rfl, lk5⟩
    refine ⟨kpc, ?_⟩
    rw [decide_eq_true hxm]
    refine xt_gv rfl rfl EvO.eq v_not ?_
    refine xt_v rfl (by first | exact v_pickT | exact v_pickF | exact v_pick) ?_
    refine xt_nil ?_
    refine x_condF ?_
    refine x_skip ?_
    refine x_seq ?_
    refine x_seq ?_
    refine x_regionL ?_
    refine xl_v v_assign ?_
    refine xl_nil ?_
    refine x_block ?_
    refine x_loop (fun m τ ds w' => ∃ (k : Nat) (ys : List UInt8), m = x.m.bytes.length - k ∧ k ≤ x.m.bytes.length ∧ ys.length = x.m.bytes.length ∧ w'.ownsRow 0 5 1 (.slice x.A x.m.bytes.length x.c) x.m.bytes.length (bytesC ys) ∧ Keep Fv w9 w' ∧ Ev τ 5 (.pointer (some ⟨b3, 0, none⟩)) ∧ Ev τ 7 (.pointer (some ⟨c7, 0, none⟩)) ∧ Ev τ 8 (.int .i64 (k : Int))) (x.m.bytes.length) ?start ?round
    case start =>
      exact ⟨0, x.m.bytes, rfl, by omega, rfl, own_ext hown lkc, (kpc : Keep NoB w9 w11).mono (fun _ _ h => h.elim), inferInstance, inferInstance, evc⟩
    case round =>
      intro m τ12 ds12 w12 hI
      obtain ⟨k, ys, rfl, hk, hyl, hoy, hkv, f5, f7, f8⟩ := hI
      haveI : Blk w12 c7 _ := ⟨(hkv.block c7 (Array.getElem?_eq_some_iff.1 hc7').1 hnc7).trans hc7'⟩
      haveI : Blk w12 b3 _ := ⟨(hkv.block b3 (Array.getElem?_eq_some_iff.1 hb3).1 hnb3).trans hb3⟩
      haveI : OwnI w12 x.A _ _ _ _ _ _ _ := ⟨hoy⟩
      refine x_seq ?_
      refine x_seq ?_
      refine x_regionL ?_
      refine xl_v v_move ?_
      refine xl_v (by first | exact v_fieldAddr | exact v_fieldAddrF (by decide) (by omega) | exact v_fieldAddrR (by first | assumption | rfl)) ?_
      refine xl_v (by first | exact v_load | exact v_loadO (by omega) | exact v_loadFf (by omega) | exact v_loadF0 (by omega)) ?_
      refine xl_v v_len ?_
      refine xl_v v_lss ?_
      refine xl_nil ?_
      first | refine x_condP (fun c2 => ?_) (fun c2 => ?_) | refine x_condN (fun c2 => ?_) (fun c2 => ?_) | refine x_condE (fun c2 => ?_) (fun c2 => ?_)
      ·
        have hk1 : k < ys.length := by omega
        obtain ⟨z, hz⟩ := byte_wrap ((ys[k].toNat : Int) + 1) (by omega)
        refine x_skip ?_
        refine x_seq ?_
        refine x_block ?_
        refine x_drawL (NoB) (.take 0 (.take 1 (.take 2 (.take 3 (.take 4 (.take 5 (.take 6 (.take 7 (.take 8 (.take 9 (.last 10))))))))))) mixed (by kernel_rfl) (fun _ _ _ _ _ h => h) (fun w13 l13 => ?_)
        refine xt_v rfl (by first | exact v_fieldAddr | exact v_fieldAddrF (by decide) (by omega) | exact v_fieldAddrR (by first | assumption | rfl)) ?_
        refine xt_v rfl (by first | exact v_load | exact v_loadO (by omega) | exact v_loadFf (by omega) | exact v_loadF0 (by omega)) ?_
        refine xt_v rfl v_move ?_
        refine xt_v rfl (by first | exact v_fieldAddr | exact v_fieldAddrF (by decide) (by omega) | exact v_fieldAddrR (by first | assumption | rfl)) ?_
        refine xt_v rfl (by first | exact v_load | exact v_loadO (by omega) | exact v_loadFf (by omega) | exact v_loadF0 (by omega)) ?_
        refine xt_v rfl v_move ?_
        refine xt_v rfl (v_indexO k rfl (by omega) hk1) ?_
        refine xt_v rfl (v_loadO (k := k) hk1) ?_
        refine xt_v rfl v_addw ?_
        refine xt_v rfl (v_indexO k rfl (by omega) hk1) ?_
        have hkv' := hkv.then (lkc : Lk w13 _ NoB).keep (fun _ _ e => e.elim)
        refine xt_lastS rfl (e_storeOwn (own_ext hoy lkc) (by omega) (by decide) fun w14 lz hoz => ?_)
        rw [hz, setL_bytes ys k z hk1] at hoz
        refine x_regionL ?_
        refine xl_v v_move ?_
        refine xl_v (v_add (by omega)) ?_
        refine xl_v v_assign ?_
        refine xl_nil ?_
        refine ⟨_, ?_, k + 1, ys.set k z, rfl, by omega, by simpa using hyl, hoz, hkv'.then lz.keep (fun j _ e => (hFv j).2 e), inferInstance, inferInstance, evc⟩
        omega
      ·
        refine x_exit ?_
        refine x_regionL ?_
        refine xl_v (by first | exact v_load | exact v_loadO (by omega) | exact v_loadFf (by omega) | exact v_loadF0 (by omega)) ?_
        refine xl_v (v_add (by omega)) ?_
        refine xl_s (e_store fun w15 l15 k15 => ?_)
        refine xl_nil ?_
        have hb3n := (Blk.eq : (w15).heap[b3]? = _)
        have hkz : Keep (fun j => Fv j ∨ j = b3) _ w15 := (hkv.mono (fun j _ e => .inl e)).then (kpc : Keep (OneB b3) _ w15) (fun j _ e => .inr e)
        refine ⟨fun j => j = b3, ⟨q ++ [(N.pure.l[q.length].1, x)], by simp, by simpa using hb3n, fun _ => Iff.rfl, hkw.then hkz (fun j hj e => e.elim (fun e => by have := hnew j e; omega) id)⟩, hkz.mono (fun j _ e => e.elim (fun e => .inr (.inl e)) (fun e => .inl ((hFe j).2 e))), fun j e => .inl (.inl ((hFe j).2 e))⟩
  case normal =>
    intro D16 pre F w16 hfin hI hkF hsF hD16 hge16 hnF16
    obtain ⟨q, rfl, hb3, hFe, hkw⟩ := hI
    have hqn := fin_tell hfin
    haveI lkB : Lk w16 _ (OneB b3) := ⟨hkF⟩
    haveI : Blk w16 b3 _ := ⟨hb3⟩
    have hNw' : ∀ W, Lk W w16 NoB → NetAt W b mb G N := fun W l => (hN.keep hkF (fun j hj e => by have e' : j = b3 := e; have := h.lt j hj; omega)).ext l.keep
    have hDw : w.heap.size ≤ D16 := Nat.le_trans Ge.le hge16
    have hDg := hge16
    haveI : NeB D16 b2 := ⟨by omega⟩
    haveI : NotS (fun k => k ∈ [D16]) b2 := ⟨fun e => by have e' := List.mem_singleton.1 e; omega⟩
    haveI sD : SubF (fun k => k ∈ [D16]) NoB w := ⟨fun k hk e => by simp at e; omega⟩
    refine x_seq ?_
    refine x_drawL (NoB) (.take 0 (.take 1 (.take 2 (.take 3 (.take 4 (.take 5 (.take 6 (.take 8 (.eff 7 (.take 9 (.take 10 (.take 11 (.take 12 (.take 14 (.take 15 (.eff 13 (.take 16 (.take 17 (.last 18))))))))))))))))))) mixed (by kernel_rfl) (fun _ _ _ _ _ h => h) (fun w17 l17 => ?_)
    refine xt_v rfl (by first | exact v_load | exact v_loadO (by omega) | exact v_loadFf (by omega) | exact v_loadF0 (by omega)) ?_
    refine xt_v rfl (by first | exact v_fieldAddr | exact v_fieldAddrF (by decide) (by omega) | exact v_fieldAddrR (by first | assumption | rfl)) ?_
    refine xt_v rfl (by first | exact v_load | exact v_loadO (by omega) | exact v_loadFf (by omega) | exact v_loadF0 (by omega)) ?_
    refine xt_v rfl v_len ?_
    refine xt_v rfl (v_congr (u := .bool true) v_eql (by simp; omega)) ?_
    refine xt_v rfl v_move ?_
    refine xt_gv rfl rfl EvO.eq v_move ?_
    refine xt_gv rfl rfl EvO.eq (by first | exact v_load | exact v_loadO (by omega) | exact v_loadFf (by omega) | exact v_loadF0 (by omega)) ?_
    refine xt_gcall rfl rfl EvO.eq (len_ok b mb G N w17 (hNw' _ lkc)) ?_
    rintro _ w18 ⟨rfl, lk6⟩
    refine ⟨kpc, ?_⟩
    refine xt_gv rfl rfl EvO.eq (v_congr (u := .bool true) v_eql (by simp; omega)) ?_
    refine xt_v rfl (by first | exact v_pickT | exact v_pickF | exact v_pick) ?_
    refine xt_v rfl v_move ?_
    refine xt_gv rfl rfl EvO.eq v_move ?_
    refine xt_gv rfl rfl EvO.eq (by first | exact v_fieldAddr | exact v_fieldAddrF (by decide) (by omega) | exact v_fieldAddrR (by first | assumption | rfl)) ?_
    refine xt_gv rfl rfl EvO.eq (by first | exact v_load | exact v_loadO (by omega) | exact v_loadFf (by omega) | exact v_loadF0 (by omega)) ?_
    refine xt_gcall rfl rfl EvO.eq (came_ok b mb G N w18 (hNw' _ lkc)) ?_
    rintro _ w19 ⟨rfl, lk7⟩
    refine ⟨kpc, ?_⟩
    refine xt_gv rfl rfl EvO.eq (v_congr (u := .bool true) v_eql (by rw [show N.came = R.came from congrArg Net.came hp]; simp)) ?_
    refine xt_v rfl (by first | exact v_pickT | exact v_pickF | exact v_pick) ?_
    refine xt_lastS rfl (e_store fun w20 l20 k20 => ?_)
    refine x_ret ?_
    refine finM (rs := [.cell 4 4]) rfl [D16] rfl (by simpa using (Blk.eq : (w20).heap[D16]? = _)) (by simp) (fun w21 lm21 => ⟨_, inferInstance, ?_⟩)
    exact ⟨rfl, lkc⟩
  case jump =>
    exact fun _ _ _ _ _ h => h.elim
end Go.Proofs.Ytacadajlpmhcfaa
