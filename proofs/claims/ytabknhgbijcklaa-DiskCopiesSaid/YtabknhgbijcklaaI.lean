/-
  Walks, printed by a program of this workplace (wip/tools/sx.py) off the functions' code and a text of contracts.
-/
import Derived.Test.YtabknhgbijcklaaH
set_option linter.all false
set_option maxRecDepth 100000
set_option synthInstance.maxSize 100000
set_option synthInstance.maxHeartbeats 400000
namespace Go.Proofs.Ytabknhgbijcklaa
open Go.Wst
open Go.Wst.Dm
def NoE : List Value → (Nat → Prop) → World → Prop := fun _ Fv _ => ∀ k, ¬ Fv k
theorem noE_elem : Elem NoE := ⟨fun _ _ _ h k e => absurd e (h k), fun _ _ _ _ _ h _ _ => h⟩
theorem iterE_of {P : Program} {g : Value} {Own : Nat → Prop} {Al Fin : Seen → Prop} {w : World} (h : IterI P g Own Al Fin w) : IterE P g Own Al Fin NoE w :=
  fun y I J F w0 hy hw0 h0 hF => h y I J F w0 ⟨hy.i, hy.j, fun pre v F W hal hI => (hy.step pre v F NoB W hal hI (fun k h => h) (fun k h => h.elim) (fun k h => h.elim)).mono (by
    rintro r W' ⟨b, F', h1, h2, h3, h4⟩
    exact ⟨b, F', h1, h2, h3.mono (fun k _ e => e.elim id (fun e => e.elim)), fun k e => (h4 k e).imp (fun e => e.elim id (fun e => e.elim)) id⟩)⟩ hw0 h0 hF
theorem alT_last {tl : List (Nat × LThing)} {pre : Seen} {v : List Value} (h : AlT tl (pre ++ [v])) : ∃ h : pre.length < tl.length, v = tellT tl[pre.length] := by
  obtain ⟨h1, h2⟩ := h
  have hl : pre.length < tl.length := by simp at h1; omega
  refine ⟨hl, ?_⟩
  have h3 := congrArg (fun l => l[pre.length]?) h2
  simp [hl] at h3
  exact h3
theorem alT_len {tl : List (Nat × LThing)} {pre : Seen} {v : List Value} (h : AlT tl (pre ++ [v])) : v.length = 2 := by
  obtain ⟨h1, rfl⟩ := alT_last h
  rfl
theorem finT_len {tl : List (Nat × LThing)} {pre : Seen} (h : FinT tl pre) : pre.length = tl.length := by
  rw [h]; simp
abbrev partsT (tl : List (Nat × LThing)) : List Thing := tl.map (fun p => tornT p.2.t p.1)
theorem told_len (ws : List LThing) (k : Nat) (torn : Int) : (told ws k torn).length ≤ ws.length := by
  rw [told, List.length_append, List.length_map, List.length_take]
  by_cases h : k < ws.length
  · have : (lastT ws k torn).length ≤ 1 := by
      rw [lastT, List.getElem?_eq_getElem h]
      dsimp only
      split <;> simp
    omega
  · rw [last_len h]; simp; omega
theorem crash_shape (M : Disk) (keep torn : Int) : (M.crash keep torn).room = M.room ∧ (M.crash keep torn).waits = [] := by
  unfold Disk.crash
  dsimp only
  split
  · exact ⟨rfl, rfl⟩
  · split <;> exact ⟨rfl, rfl⟩
theorem told_pure {M : Disk} {ws : List LThing} {keep torn : Int} (hw : ws.map (·.t) = M.waits) (hr : Rise M.lasts) (hg : Dm.Good M.room M.lasts M.waits) :
    Dm.Good M.room M.lasts (partsT (told ws (pickN keep ws.length) torn)) ∧ (partsT (told ws (pickN keep ws.length) torn)).foldl Dm.done M.lasts = (M.crash keep torn).lasts ∧ ∀ p ∈ told ws (pickN keep ws.length) torn, p.2 ∈ ws ∧ p.1 ≤ p.2.t.bytes.length := by
  have hl : M.waits.length = ws.length := by rw [← hw]; simp
  obtain ⟨kk, hkk⟩ : ∃ kk, kk = pickN keep ws.length := ⟨_, rfl⟩
  have hc : M.crash keep torn = (match M.waits[kk]? with
      | none => ⟨M.room, (M.waits.take kk).foldl Dm.done M.lasts, []⟩
      | some t => if t.what = 0 ∧ 0 < pickN torn t.bytes.length then ⟨M.room, Dm.done ((M.waits.take kk).foldl Dm.done M.lasts) (tornT t (pickN torn t.bytes.length)), []⟩ else ⟨M.room, (M.waits.take kk).foldl Dm.done M.lasts, []⟩) := by
    rw [Disk.crash, hl, ← hkk]
    rfl
  have hwk : M.waits[kk]? = (ws[kk]?).map (·.t) := by rw [← hw, List.getElem?_map]
  have h1 : ((ws.take kk).map (fun x => (putsN x.t, x.t))).map (·.2) = M.waits.take kk := by rw [← hw]; simp [List.map_take, Function.comp_def]
  have h2 : partsT ((ws.take kk).map (fun x => (putsN x.t, x))) = ((ws.take kk).map (fun x => (putsN x.t, x.t))).map (fun p => tornT p.2 p.1) := by simp [partsT, Function.comp_def]
  obtain ⟨g1, g2⟩ := Dm.Good.torn (ts := (ws.take kk).map (fun x => (putsN x.t, x.t))) (h1 ▸ hg.take kk) (by
    rintro p hp h0
    obtain ⟨x, _, rfl⟩ := List.mem_map.1 hp
    show x.t.bytes.length ≤ putsN x.t
    unfold putsN
    rw [if_pos h0]
    exact Nat.le_refl _)
  rw [← h2] at g1 g2
  rw [h1] at g2
  have hmem : ∀ p ∈ (ws.take kk).map (fun x => (putsN x.t, x)), p.2 ∈ ws ∧ p.1 ≤ p.2.t.bytes.length := by
    rintro p hp
    obtain ⟨x, hx, rfl⟩ := List.mem_map.1 hp
    exact ⟨List.mem_of_mem_take hx, putsN_le _⟩
  rw [← hkk]
  cases hx : ws[kk]? with
  | none =>
    have e : told ws kk torn = (ws.take kk).map (fun x => (putsN x.t, x)) := by simp [told, lastT, hx]
    rw [e, hc, hwk, hx]
    exact ⟨g1, g2, hmem⟩
  | some x =>
    obtain ⟨hk1, hxe⟩ := List.getElem?_eq_some_iff.1 hx
    by_cases h0 : 0 < pickN torn (putsN x.t)
    · have hw0 : x.t.what = 0 := by
        apply Decidable.byContradiction
        intro hne
        have := pickN_le torn (putsN x.t)
        unfold putsN at this h0
        rw [if_neg hne] at this h0
        omega
      have hpn : putsN x.t = x.t.bytes.length := by unfold putsN; rw [if_pos hw0]
      have e : told ws kk torn = (ws.take kk).map (fun x => (putsN x.t, x)) ++ [(pickN torn (putsN x.t), x)] := by
        simp [told, lastT, hx, h0]
      have e2 : partsT (told ws kk torn) = partsT ((ws.take kk).map (fun x => (putsN x.t, x))) ++ [tornT x.t (pickN torn x.t.bytes.length)] := by
        rw [e, ← hpn]; simp [partsT]
      have hok : okT M.room ((M.waits.take kk).foldl Dm.done M.lasts) x.t := by
        have := hg.at_ kk (by omega)
        have e3 : M.waits[kk]'(by omega) = x.t := by
          have h5 : M.waits[kk]? = some x.t := by rw [hwk, hx]; rfl
          exact (List.getElem?_eq_some_iff.1 h5).2
        rwa [e3] at this
      rw [e2, hc, hwk, hx]
      refine ⟨Dm.Good.snoc' hr g1 (by rw [g2]; exact okT_torn hok), ?_, ?_⟩
      · rw [List.foldl_append, g2]
        simp only [Option.map_some]
        rw [if_pos ⟨hw0, hpn ▸ h0⟩]
        rfl
      · rw [e]
        intro p hp
        rcases List.mem_append.1 hp with hp | hp
        · exact hmem p hp
        · have e4 : p = (pickN torn (putsN x.t), x) := by simpa using hp
          rw [e4]
          exact ⟨List.mem_of_getElem? hx, by have := pickN_le torn (putsN x.t); have := putsN_le x.t; show pickN torn (putsN x.t) ≤ x.t.bytes.length; omega⟩
    · have e : told ws kk torn = (ws.take kk).map (fun x => (putsN x.t, x)) := by simp [told, lastT, hx, h0]
      rw [e, hc, hwk, hx]
      refine ⟨g1, ?_, hmem⟩
      simp only [Option.map_some]
      rw [if_neg]
      · exact g2
      · rintro ⟨h3, h4⟩
        have hpn : putsN x.t = x.t.bytes.length := by unfold putsN; rw [if_pos h3]
        exact h0 (hpn ▸ h4)
def CrashI (m2 : Nat) (G : Nat → Prop) (L0 : Fs) (tl : List (Nat × LThing)) (wb : World) : Seen → (Nat → Prop) → World → Prop := fun pre F W =>
  ∃ (Gn : Nat → Prop) (l : List (ByteArray × LB)), FilesAt W m2 (fun k => G k ∨ Gn k) l ∧ fsP l = (partsT (tl.take pre.length)).foldl doneM L0 ∧ (∀ k, F k ↔ k = m2 ∨ Gn k) ∧ (∀ k, Gn k → wb.heap.size ≤ k) ∧ Keep (OneB m2) wb W
theorem crashI_stable {m2 : Nat} {G : Nat → Prop} {L0 : Fs} {tl : List (Nat × LThing)} {wb : World} (hG : ∀ k, G k → k < wb.heap.size) : Stable (CrashI m2 G L0 tl wb) wb := by
  refine ⟨?_, ?_⟩
  · rintro pre F W ⟨Gn, l, h1, _, h3, h4, _⟩ k hk
    rcases (h3 k).1 hk with rfl | e
    · exact h1.map.lt
    · exact h1.lt k (.inr e)
  · rintro pre F W W' S ⟨Gn, l, h1, h2, h3, h4, h5⟩ hk hs hn
    refine ⟨Gn, l, h1.keep hk (hs m2 ((h3 m2).2 (.inl rfl))) (fun k e e2 => ?_), h2, h3, h4, h5.then hk (fun k hlt hS => by have := hn k hS; omega)⟩
    rcases e with e | e
    · have := hG k e; have := hn k e2; omega
    · exact hs k ((h3 k).2 (.inr e)) e2

/-- (*waystation/disk.Disk).keeps -/
theorem keeps_ok (d : Nat) (keep torn : Int) (w : World) : Ret Try.prog 52 #[.pointer (some ⟨d, 0, none⟩), .agg #[.int .i64 keep, .int .i64 torn]] w (fun v w' => (∃ cc cd, v = .func (.func 71) ([] : List Value).toArray [Value.pointer (some ⟨cc, 0, none⟩), Value.pointer (some ⟨cd, 0, none⟩)].toArray ∧ w'.heap[cc]? = some (.cells #[.int .i64 keep, .int .i64 torn] 38 (0, 0)) ∧ w'.heap[cd]? = some (.cells #[.pointer (some ⟨d, 0, none⟩)] 24 (0, 0)) ∧ w.heap.size ≤ cc ∧ w.heap.size ≤ cd) ∧ Lk w' w NoB) := by
  refine ret_of_x (N := 6) (l := [.pointer (some ⟨d, 0, none⟩), .agg #[.int .i64 keep, .int .i64 torn]]) Try.func52 rfl rfl (Nat.le_of_ble_eq_true rfl) ?_
  refine x_seq ?_
  refine x_regionL ?_
  refine xl_e (e_box fun b1 w1 n1 l1 k1 => ?_)
  refine xl_e (e_box fun b2 w2 n2 l2 k2 => ?_)
  refine xl_v v_assign ?_
  refine xl_nil ?_
  refine x_seq ?_
  refine x_regionL ?_
  refine xl_v v_makeFunc ?_
  refine xl_v v_assign ?_
  refine xl_nil ?_
  refine x_ret ?_
  refine fin1 rfl ?_
  exact ⟨⟨b2, b1, rfl, Blk.eq, Blk.eq, by rw [n2.eq]; exact Ge.le, by rw [n1.eq]; exact Ge.le⟩, lkc⟩
theorem keepsIter (cc cd d mb ml : Nat) (G : Nat → Prop) (D : LDisk) (keep torn : Int) (w : World) [hbc : Blk w cc (.cells #[.int .i64 keep, .int .i64 torn] 38 (0, 0))] [hbd : Blk w cd (.cells #[.pointer (some ⟨d, 0, none⟩)] 24 (0, 0))] (hD : DiskAt w d mb ml G D) (hfew : D.waits.length ≤ 10000) (hk : In64 keep) (ht : In64 torn) (hlen : ∀ x ∈ D.waits, x.t.bytes.length ≤ 16777216) :
    IterI Try.prog (.func (.func 71) ([] : List Value).toArray [Value.pointer (some ⟨cc, 0, none⟩), Value.pointer (some ⟨cd, 0, none⟩)].toArray) (fun k => k = cc ∨ k = cd ∨ DiskF d mb ml D.A G k) (AlT (told D.waits (pickN keep D.waits.length) torn)) (FinT (told D.waits (pickN keep D.waits.length) torn)) w :=
  fun y I J F w0 hy hw0 h0 hF => CallV.of_ret (keeps1_ok y cc cd d mb ml G D keep torn I J F w hD hfew hk ht hlen w0 hy hw0 h0 hF)

/-- (*waystation/disk.Disk).Crash -/
theorem crash_ok (P R : Nat → Prop) (d : Nat) (M : Disk) (keep torn : Int) (w : World) (h : DiskW P R d M w) (hk : In64 keep) (ht : In64 torn) : Ret Try.prog 23 #[.pointer (some ⟨d, 0, none⟩), .agg #[.int .i64 keep, .int .i64 torn]] w (fun v w' => (∃ x, v = .tuple #[.pointer (some ⟨x, 0, none⟩), .int .i64 0] ∧ DiskW P (fun k => k < w.heap.size) x (M.crash keep torn) w' ∧ w.heap.size ≤ x) ∧ Lk w' w NoB) := by
  obtain ⟨mb, ml, G, D, hD, hS, hP, hR⟩ := h
  haveI hb : Blk w d _ := ⟨hD.hb⟩
  have hwl : D.waits.length = M.waits.length := by rw [← hS.waits]; simp
  have hfew := hS.few
  have hlens : ∀ x ∈ D.waits, x.t.bytes.length ≤ 16777216 := fun x hx => hS.lens x.t (by rw [← hS.waits]; exact List.mem_map.2 ⟨x, hx, rfl⟩)
  obtain ⟨hgood, hfold, htl⟩ := told_pure (keep := keep) (torn := torn) hS.waits hS.ok.rise hS.ok.good
  obtain ⟨tl, htld⟩ : ∃ tl, tl = told D.waits (pickN keep D.waits.length) torn := ⟨_, rfl⟩
  rw [← htld] at hgood hfold htl
  have hroom := hS.room
  refine ret_of_x (N := 35) (l := [.pointer (some ⟨d, 0, none⟩), .agg #[.int .i64 keep, .int .i64 torn]]) Try.func23 rfl rfl (Nat.le_of_ble_eq_true rfl) ?_
  refine x_seq ?_
  refine x_regionL ?_
  refine xl_e (e_box fun b1 w1 n1 l1 k1 => ?_)
  refine xl_v v_assign ?_
  refine xl_v v_assign ?_
  refine xl_nil ?_
  refine x_seq ?_
  refine x_seq ?_
  refine x_regionL ?_
  refine xl_v v_move ?_
  refine xl_call (none_ok d mb ml G D M w1 (hD.ext (kpc : Keep NoB w w1)) hS) ?_
  rintro _ _ ⟨rfl, rfl⟩
  refine xl_nil ?_
  refine x_condF ?_
  refine x_skip ?_
  refine x_seq ?_
  refine x_regionL ?_
  refine xl_v v_move ?_
  refine xl_v (by first | exact v_nilCheckP | exact v_nilCheckF) ?_
  refine xl_v (by first | exact v_fieldAddr | exact v_fieldAddrF (by decide) (by omega) | exact v_fieldAddrR (by first | assumption | rfl)) ?_
  refine xl_v (by first | exact v_loadA | exact v_loadF (by decide) (by omega)) ?_
  refine xl_call (copied_ok ml G D.lasts w1 (hD.las.ext (kpc : Keep NoB w w1))) ?_
  rintro _ w3 ⟨⟨m2, rfl, hF2, hg2⟩, lk1⟩
  have hgp := (Ge.le : w.heap.size ≤ (w1).heap.size)
  have hm2l := hF2.map.lt
  refine xl_e (e_alloc fun b6 w4 n6 l6 k6 => ?_)
  refine xl_s (e_storeA fun w5 l5 k5 => ?_)
  refine xl_nil ?_
  refine x_seq ?_
  refine x_seq ?_
  refine x_regionL ?_
  refine xl_v v_move ?_
  refine xl_v (by first | exact v_loadA | exact v_loadF (by decide) (by omega)) ?_
  refine xl_call (keeps_ok d keep torn w5) ?_
  rintro _ w6 ⟨⟨cc, cd, rfl, hcc, hcd, hgc, hgd⟩, lk2⟩
  haveI : Blk w6 cc _ := ⟨hcc⟩
  haveI : Blk w6 cd _ := ⟨hcd⟩
  have hm2p : m2 < (w5).heap.size := Nat.lt_of_lt_of_le hm2l Ge.le
  have hb6p : b6 < (w5).heap.size := Has.lt
  refine xl_nil ?_
  refine x_block ?_
  have hDw := hD.ext (kpc : Keep NoB w w6)
  have hFw := hF2.keep (kpc : Keep (OneB b6) _ w6) (fun e => by have e' : m2 = b6 := e; have := n6.eq; omega) (fun k e e2 => by have := hD.cur.lt k e; have e' : k = b6 := e2; have := n6.eq; have := lk1.keep.size; omega)
  haveI kb6 : Blk w6 b6 _ := inferInstance
  have hwE := (Ge.le : w.heap.size ≤ (w6).heap.size)
  have hb6l : b6 < (w6).heap.size := Has.lt
  have hm2w := hFw.map.lt
  have hdl := hD.lt d (.inl (.inl rfl))
  haveI : NeB d m2 := ⟨by omega⟩
  haveI kbd : Blk w6 d _ := inferInstance
  haveI : NeB b6 m2 := ⟨by have := n6.eq; omega⟩
  have hG2 : ∀ k, G k → k < w.heap.size := hD.cur.lt
  obtain ⟨wS, hwS⟩ : ∃ x, x = w6 := ⟨_, rfl⟩
  refine x_rangeE (ps := [19, 20]) (fun k => k = cc ∨ k = cd ∨ DiskF d mb ml D.A G k) (AlT tl) (FinT tl) (NoE) (noE_elem) (fun W l => iterE_of (htld ▸ keepsIter cc cd d mb ml G D keep torn W (hDw.ext (kpc : Keep NoB w6 W)) (by omega) hk ht hlens)) (by rintro k (rfl | rfl | e); exact Has.lt; exact Has.lt; exact hDw.lt k e) (fun pre v h => alT_len h) (CrashI m2 G (fsP D.lasts) tl w6) (fun _ _ _ _ => False) (OneB m2) (crashI_stable (fun k e => hDw.cur.lt k e)) (fun _ => ⟨fun _ _ _ h => h.elim, fun _ _ _ _ _ h => h.elim⟩) (⟨NoB, D.lasts, hFw.mono (fun k e => .inl e) (fun k e => e.elim (fun e => hFw.lt k e) (fun e => e.elim)) (fun e => e.elim hFw.out (fun e => e)), rfl, fun k => ⟨fun e => .inl e, fun e => e.elim id (fun e => e.elim)⟩, fun k e => e.elim, Keep.refl _ _⟩) (fun k hk e => by have e' : k = m2 := hk; subst e'; rcases e with e | e | e; omega; omega; have := hD.lt _ e; omega) (fun v τ n W => ∃ (p : Nat × LThing) (c8 : Nat), v = tellT p ∧ Ev τ 6 (.pointer (some ⟨b6, 0, none⟩)) ∧ Ev τ 7 (.int .i64 (p.1 : Int)) ∧ Ev τ 8 (.pointer (some ⟨c8, 0, none⟩)) ∧ W.heap[c8]? = some (.cells (thingC p.2).toArray 88 (0, 0)) ∧ n ≤ c8) (by rintro v τ n W1 W2 S ⟨p, c8, h1, h2, h3, h4, h5, h6⟩ hk hs; exact ⟨p, c8, h1, h2, h3, h4, (hk.block c8 (Array.getElem?_eq_some_iff.1 h5).1 (fun e => by have := hs _ e; omega)).trans h5, h6⟩) ?assign ?body ?normal ?jump
  case assign =>
    intro l7 pre v7 w7 hal hv7
    obtain ⟨hj, rfl⟩ := alT_last hal
    simp only [updL, tellT]
    refine x_seq ?_
    refine x_regionL ?_
    refine xl_v v_assign ?_
    refine xl_nil ?_
    refine x_regionL ?_
    refine xl_e (e_alloc fun c8 w8 n8 l8 k8 => ?_)
    refine xl_s (e_storeA fun w9 l9 k9 => ?_)
    refine xl_nil ?_
    exact ⟨lkc, tl[pre.length], c8, rfl, inferInstance, inferInstance, inferInstance, Blk.eq, by rw [n8.eq]; exact Nat.le_refl _⟩
  case body =>
    intro l pre v F Fv nb w10 τ10 ds10 hal hI hE hdis hnew hlt hnb hnbw hB
    obtain ⟨Gn, l, hFl, hfl, hFe, hGn, hkw⟩ := hI
    obtain ⟨hj, rfl⟩ := alT_last hal
    obtain ⟨p, c8, hv, e6, e7, e8, hc8, hnc⟩ := hB
    obtain ⟨q, hq⟩ : ∃ q, q = tl[pre.length] := ⟨_, rfl⟩
    rw [← hq] at hv
    have hv' := hv
    injection hv with hv1 hv2
    injection hv2 with hv3 _
    injection hv1 with _ hv1
    injection hv3 with hv3
    rw [← hv3] at hc8
    rw [← hv1] at e7
    obtain ⟨hqw, hqn⟩ := htl q (hq ▸ List.getElem_mem hj)
    haveI lkB : Lk w10 _ (OneB m2) := ⟨hkw⟩
    haveI : Blk w10 b6 _ := inferInstance
    haveI : Blk w10 c8 _ := ⟨hc8⟩
    have hact := hDw.acts q.2 hqw
    have htake : partsT (tl.take (pre.length + 1)) = partsT (tl.take pre.length) ++ [tornT q.2.t q.1] := by
      rw [take_snoc _ _ hj, hq]
      simp only [partsT, List.map_append, List.map_cons, List.map_nil]
    have hgk := hgood.take pre.length
    have hal2 : Dm.Alike (fsP l) ((partsT (tl.take pre.length)).foldl Dm.done M.lasts) := by
      rw [hfl]
      have e : partsT (tl.take pre.length) = (partsT tl).take pre.length := by simp [partsT, List.map_take]
      rw [e]
      exact hS.las.fold hgk
    have hokq : okT M.room ((partsT (tl.take pre.length)).foldl Dm.done M.lasts) (tornT q.2.t q.1) := by
      have h9 := hgood.at_ pre.length (by simpa [partsT] using hj)
      have e : (partsT tl).take pre.length = partsT (tl.take pre.length) := by simp [partsT, List.map_take]
      have e2 : (partsT tl)[pre.length]'(by simpa [partsT] using hj) = tornT q.2.t q.1 := by simp [partsT, hq]
      rwa [e, e2] at h9
    have hul : usedB (fsP l) ≤ 16777216 := by
      have h9 := hal2.used
      have e : partsT (tl.take pre.length) = (partsT tl).take pre.length := by simp [partsT, List.map_take]
      have h10 := (hgood.take pre.length).fold
      rw [← e] at h10
      have := hS.ok.most
      omega
    have hpreq : q.2.t.what = 1 → ∃ b, akey (fsP l) q.2.t.name = some b ∧ q.2.t.n.toNat ≤ b.length := by
      intro h1
      rw [hal2.eq]
      rcases hokq.2 with ⟨e, _⟩ | ⟨_, b, hb, h2, h3⟩ | ⟨e, _⟩
      · have e' : q.2.t.what = 0 := e; omega
      · exact ⟨b, hb, by have e' : (tornT q.2.t q.1).n = q.2.t.n := rfl; omega⟩
      · have e' : q.2.t.what = 2 := e; omega
    have hGm : ∀ k, G k → ¬ OneB m2 k := fun k e e2 => by have e' : k = m2 := e2; have := hG2 k e; omega
    refine x_block ?_
    refine x_regionL ?_
    refine xl_v (by first | exact v_fieldAddr | exact v_fieldAddrF (by decide) (by omega) | exact v_fieldAddrR (by first | assumption | rfl)) ?_
    refine xl_v (by first | exact v_load | exact v_loadO (by omega) | exact v_loadFf (by omega) | exact v_loadF0 (by omega)) ?_
    refine xl_v (by first | exact v_loadA | exact v_loadF (by decide) (by omega)) ?_
    refine xl_v v_move ?_
    refine xl_callv (hact.2 w10 (OneB m2) (hkw.then (kpc : Keep NoB w10 w10) (fun _ _ h => h.elim)) hGm m2 (fun k => G k ∨ Gn k) l q.1 (hFl.ext (kpc : Keep NoB w10 w10)) (fun e => hFl.out (.inl e)) hpreq hqn (hlens q.2 hqw) hul) ?_
    rintro _ w11 ⟨rfl, G1, l1, hF1, hl1, hG1, lk4⟩
    refine xl_nil ?_
    refine ⟨fun j => j = m2 ∨ (Gn j ∨ ((w10).heap.size ≤ j ∧ G1 j)), ⟨fun j => Gn j ∨ ((w10).heap.size ≤ j ∧ G1 j), l1, ?_, ?_, fun _ => Iff.rfl, ?_, ?_⟩, ?_, ?_⟩
    · refine hF1.mono (fun j e => ?_) (fun j e => ?_) ?_
      · rcases hG1 j e with (e2 | e2) | e2
        · exact .inl e2
        · exact .inr (.inl e2)
        · exact .inr (.inr ⟨e2, e⟩)
      · rcases e with e | e | ⟨_, e⟩
        · exact Nat.lt_of_lt_of_le (hG2 j e) (Nat.le_trans hwE (Nat.le_trans hkw.size Ge.le))
        · exact Nat.lt_of_lt_of_le (hFl.lt j (.inr e)) Ge.le
        · exact hF1.lt j e
      · rintro (e | e | ⟨_, e⟩)
        · exact hFl.out (.inl e)
        · exact hFl.out (.inr e)
        · exact hF1.out e
    · rw [List.length_append, List.length_singleton, htake, List.foldl_append, ← hfl]
      exact hl1
    · rintro j (e | ⟨e, _⟩)
      · exact hGn j e
      · have := hkw.size
        omega
    · exact hkw.then (kpc : Keep (OneB m2) w10 w11) (fun j hj e => e)
    · exact (kpc : Keep (OneB m2) w10 w11).mono (fun j _ e => .inl ((hFe j).2 (.inl e)))
    · rintro j (e | e | ⟨e, _⟩)
      · exact .inl (.inl ((hFe j).2 (.inl e)))
      · exact .inl (.inl ((hFe j).2 (.inr e)))
      · exact .inr (by omega)
  case normal =>
    intro D12 pre F w12 hfin hI hkF hsF hD12 hge12 hnF12
    obtain ⟨Gn, l, hFl, hfl, hFe, hGn, hkw⟩ := hI
    have hjn := finT_len hfin
    rw [hjn, List.take_of_length_le (Nat.le_refl _)] at hfl
    haveI lkB : Lk w12 _ (OneB m2) := ⟨hkF⟩
    haveI : Blk w12 b6 _ := inferInstance
    haveI sM : SubF (OneB m2) NoB w := ⟨fun k hk e => by have e' : k = m2 := e; omega⟩
    have hDg := hge12
    have hDn := hnF12
    have hDl : D12 < (w12).heap.size := Has.lt
    have hDw2 : w.heap.size ≤ D12 := Nat.le_trans hwE hDg
    haveI sD : SubF (fun k => k ∈ [D12]) NoB w := ⟨fun k hk e => by simp at e; omega⟩
    have hDm : D12 ≠ m2 := fun e => hDn ((hFe _).2 (.inl e))
    have hDG : ∀ k, (G k ∨ Gn k) → k ≠ D12 := fun k e e2 => by
      subst e2
      rcases e with e | e
      · have := hG2 _ e; omega
      · exact hDn ((hFe _).2 (.inr e))
    refine x_seq ?_
    refine x_drawL (NoB) (.take 0 (.take 1 (.take 3 (.take 4 (.take 5 (.take 6 (.eff 2 (.take 7 (.eff 8 (.take 9 (.take 10 .done))))))))))) mixed (by kernel_rfl) (fun _ _ _ _ _ h => h) (fun w13 l13 => ?_)
    refine xt_v rfl (by first | exact v_loadA | exact v_loadF (by decide) (by omega)) ?_
    refine xt_v rfl (by first | exact v_loadA | exact v_loadF (by decide) (by omega)) ?_
    refine xt_v rfl v_move ?_
    refine xt_v rfl (by first | exact v_nilCheckP | exact v_nilCheckF) ?_
    refine xt_v rfl (by first | exact v_fieldAddr | exact v_fieldAddrF (by decide) (by omega) | exact v_fieldAddrR (by first | assumption | rfl)) ?_
    refine xt_v rfl (by first | exact v_load | exact v_loadO (by omega) | exact v_loadFf (by omega) | exact v_loadF0 (by omega)) ?_
    refine xt_call rfl (copied_ok m2 (fun k => G k ∨ Gn k) l w13 (hFl.ext (kpc : Keep NoB _ w13))) ?_
    rintro _ w14 ⟨⟨m3, rfl, hF3, hg3⟩, lk5⟩
    refine ⟨kpc, ?_⟩
    have hm3l := hF3.map.lt
    have hDp : D12 < (w13).heap.size := Has.lt
    have hm2p3 : m2 < (w13).heap.size := Nat.lt_of_lt_of_le hFl.map.lt Ge.le
    have hszp := (Ge.le : w.heap.size ≤ (w13).heap.size)
    have hs12 : ∀ k, (G k ∨ Gn k) → k < (w13).heap.size := fun k e => Nat.lt_of_lt_of_le (hFl.lt k e) Ge.le
    refine xt_v rfl v_build ?_
    refine xt_e rfl (e_box fun x w15 nx lx kx => ?_)
    have hx3 : m3 < x := by rw [nx.eq]; exact Nat.lt_of_lt_of_le hm3l Ge.le
    haveI : NotS (fun k => k ∈ [D12]) x := ⟨fun e => by have e' := List.mem_singleton.1 e; omega⟩
    refine xt_v rfl v_assign ?_
    refine xt_v rfl v_assign ?_
    refine xt_nil ?_
    refine x_ret ?_
    refine finM (rs := [.tmp 4, .tmp 5]) rfl [D12] rfl (by simpa using (Blk.eq : (w15).heap[D12]? = _)) (by simp) (fun w16 lm16 => ⟨_, inferInstance, ?_⟩)
    obtain ⟨hc1, hc2⟩ := crash_shape M keep torn
    have hff : (M.crash keep torn).files = (M.crash keep torn).lasts := by rw [Disk.files, hc2]; rfl
    have hali : Dm.Alike (fsP l) (M.crash keep torn).lasts := by
      rw [hfl, ← hfold]
      exact hS.las.fold hgood
    have hnD : ∀ k, k ≠ D12 → ¬ (k ∈ [D12]) := fun k hk e => hk (List.mem_singleton.1 e)
    have hAt : DiskAt w16 x m2 m3 (fun k => G k ∨ Gn k) ⟨D.room, l, l, [], none, 0⟩ := ⟨by simpa using (Blk.eq : (w16).heap[x]? = _), hFl.keep (kpc : Keep (fun k => k ∈ [D12]) _ w16) (hnD _ (fun e => hDm e.symm)) (fun k e => hnD k (hDG k e)), hF3.keep (kpc : Keep (fun k => k ∈ [D12]) _ w16) (hnD _ (by omega)) (fun k e => hnD k (hDG k e)), World.ownsRow_nil _ _ _ _, nofun, by omega, by omega, by omega, fun e => by rcases e with e | e; have := hG2 _ e; omega; have := hs12 _ (.inr e); omega, nofun⟩
    refine ⟨⟨x, by simp [outV], ⟨m2, m3, _, _, hAt, ⟨hroom.trans hc1.symm, by rw [hc2]; rfl, by rw [hff]; exact hali, hali, hS.ok.crash keep torn, ?_, by rw [hc2]; nofun⟩, fun k e => ?_, fun k e => ?_⟩, by omega⟩, lkc⟩
    · rw [hc2, ← hfold]
      have h1 := fold_len (partsT tl) M.lasts
      have h2 : (partsT tl).length ≤ M.waits.length := by
        have := told_len D.waits (pickN keep D.waits.length) torn
        rw [← htld] at this
        simp [partsT]
        omega
      simp only [List.length_nil]
      omega
    · obtain ⟨q1, q2⟩ := hP k e
      refine ⟨Nat.lt_of_lt_of_le q1 Ge.le, ?_⟩
      rintro ((e2 | e2 | e2 | ⟨a, ha, _⟩) | e2 | e2)
      · omega
      · omega
      · omega
      · cases ha
      · exact q2 (.inr e2)
      · have := hGn k e2; omega
    · refine ⟨Nat.lt_of_lt_of_le e Ge.le, ?_⟩
      rintro (e2 | e2 | e2 | ⟨a, ha, _⟩)
      · omega
      · omega
      · omega
      · cases ha
  case jump =>
    exact fun _ _ _ _ _ h => h.elim
end Go.Proofs.Ytabknhgbijcklaa
