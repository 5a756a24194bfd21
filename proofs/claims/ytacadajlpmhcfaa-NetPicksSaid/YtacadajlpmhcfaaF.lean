/-
  Walks, printed by a program of this workplace (wip/tools/sx.py) off the functions' code and a text of contracts.
-/
import Derived.Test.YtacadajlpmhcfaaE
set_option linter.all false
set_option maxRecDepth 100000
set_option synthInstance.maxSize 100000
set_option synthInstance.maxHeartbeats 400000
namespace Go.Proofs.Ytacadajlpmhcfaa
open Go.Wst
open Go.Wst.Nm
theorem pure_get (N : NetL) {i : Nat} (hi : i < N.l.length) : N.pure.l[i]? = some (N.l[i].1, N.l[i].2.m) := by simp [NetL.pure, hi]
theorem at_i {N : NetL} {pick : Int} {i : Nat} (hpi : (i : Int) = pickI pick N.l.length) : N.pure.at_ pick = i := by
  rw [Net.at_, pure_len, ← hpi]; rfl
theorem peek_i {N : NetL} {pick : Int} {i : Nat} (hi : i < N.l.length) (hpi : (i : Int) = pickI pick N.l.length) : N.pure.peek pick = (N.l[i].2.m, N.l[i].1, 0) := by
  rw [Net.peek, at_i hpi, pure_get N hi]
theorem peek_nil {N : NetL} (pick : Int) (h : N.l = []) : N.pure.peek pick = (zeroMsg, 0, 5) := by
  rw [Net.peek]; simp [NetL.pure, h]
theorem pure_nil {N : NetL} : N.pure.l = [] ↔ N.l = [] := by simp [NetL.pure]
theorem take_i {N : NetL} {pick : Int} {i : Nat} (hi : i < N.l.length) (hpi : (i : Int) = pickI pick N.l.length) : N.pure.takeM pick = N.pure.without i := by
  rw [Net.takeM, at_i hpi, if_neg]
  rw [pure_nil]; intro e; rw [e] at hi; simp at hi
theorem take_nil {N : NetL} (pick : Int) (h : N.l = []) : N.pure.takeM pick = N.pure := by rw [Net.takeM, if_pos (pure_nil.2 h)]
def _root_.Go.Wst.Nm.NetL.without (N : NetL) (i : Nat) : NetL := ⟨N.most, N.came, N.l.eraseIdx i⟩
theorem erase_map {α β : Type} (f : α → β) (l : List α) (i : Nat) : (l.eraseIdx i).map f = (l.map f).eraseIdx i := by
  induction l generalizing i with
  | nil => rfl
  | cons a l ih => cases i <;> simp [ih]
theorem without_pure (N : NetL) (i : Nat) : (N.without i).pure = N.pure.without i := by
  simp [NetL.pure, NetL.without, Net.without, erase_map]
theorem adel_i {l : List (Int × LMsg)} (h : (l.map (·.1)).Nodup) {i : Nat} (hi : i < l.length) : adel (netV l) l[i].1 = netV (l.eraseIdx i) := by
  induction l generalizing i with
  | nil => simp at hi
  | cons p l ih =>
    simp only [List.map_cons, List.nodup_cons] at h
    cases i with
    | zero =>
      simp only [List.getElem_cons_zero, List.eraseIdx_cons_zero, netV, List.map_cons, adel, List.filter_cons, decide_true, Bool.not_true]
      simp only [Bool.false_eq_true, if_false]
      rw [List.filter_eq_self]
      intro q hq
      obtain ⟨r, hr, rfl⟩ := List.mem_map.1 hq
      have : r.1 ≠ p.1 := fun e => h.1 (e ▸ List.mem_map.2 ⟨r, hr, rfl⟩)
      simp [this]
    | succ i =>
      have hi2 : i < l.length := by simpa using hi
      have hne : p.1 ≠ l[i].1 := fun e => h.1 (e ▸ List.mem_map.2 ⟨l[i], List.getElem_mem hi2, rfl⟩)
      have := ih h.2 hi2
      unfold adel netV at *
      simp only [List.getElem_cons_succ, List.eraseIdx_cons_succ, List.map_cons, List.filter_cons, hne, decide_false, Bool.not_false, if_true, this]
theorem NetAt.del {w w' : World} {b mb : Nat} {G : Nat → Prop} {N : NetL} (h : NetAt w b mb G N) (hok : N.pure.ok) {i : Nat} (hi : i < N.l.length) (hk : Keep (OneB mb) w w') (hm : MapB w' mb (Value.int .i64) (adel (netV N.l) N.l[i].1)) : NetAt w' b mb G (N.without i) :=
  ⟨(hk.block b (h.lt b (.inl rfl)) (fun e => h.d e)).trans h.hb, by rw [adel_i (ok_nodup hok) hi] at hm; exact hm, fun p hp => (h.hr p (List.mem_of_mem_eraseIdx hp)).keep hk (fun k hk e => h.gm (by have e' : k = mb := e; rw [← e']; exact hk)), h.d, h.gb, h.gm, fun k hk' => Nat.lt_of_lt_of_le (h.gl k hk') hk.size⟩
theorem netV_at {N : NetL} (hok : N.pure.ok) {i : Nat} (hi : i < N.l.length) : (akey (netV N.l) N.l[i].1).getD (.agg #[.int .i64 0, .int .i64 0, .slice none 0 0]) = .agg (msgC N.l[i].2).toArray := by
  rw [(netV_get _ _).1, at_get (ok_nodup hok) hi]
theorem len_i {N : NetL} (hok : N.pure.ok) {i : Nat} (hi : i < N.l.length) : N.l[i].2.m.bytes.length ≤ 4096 :=
  (hok.good (N.l[i].1, N.l[i].2.m) (List.mem_of_getElem? (pure_get N hi))).2.2
/-- (*waystation/net.Net).Peek$1 -/
theorem peek1_ok (b mb bb cb : Nat) (G : Nat → Prop) (N : NetL) (i : Nat) (hi : i < N.l.length) (x y z : Value) (w : World) (h : NetAt w b mb G N) (hok : N.pure.ok) (hc : ∀ k, NetF b mb G k → k ≠ cb) [NeB bb cb] [Blk w bb (.cells #[.pointer (some ⟨b, 0, none⟩)] 22 (0, 0))] [Blk w cb (.cells [x, y, z].toArray 30 (0, 0))] : Ret Try.prog 35 #[.int .i64 N.l[i].1, .pointer (some ⟨bb, 0, none⟩), .pointer (some ⟨cb, 0, none⟩)] w (fun v w' => v = .tuple #[.int .i64 N.l[i].1, .int .i64 0] ∧ (∃ A' c', w'.heap[cb]? = some (.cells (msgC ⟨N.l[i].2.m, A', c'⟩).toArray 30 (0, 0)) ∧ w'.ownsRow w.heap.size 5 1 (.slice A' N.l[i].2.m.bytes.length c') N.l[i].2.m.bytes.length (bytesC N.l[i].2.m.bytes)) ∧ Lk w' w (OneB cb)) := by
  haveI hb : Blk w b _ := ⟨h.hb⟩
  haveI hm : MapI w mb _ _ _ := ⟨h.hm⟩
  haveI : NeB b cb := ⟨hc b (.inl rfl)⟩
  haveI : NeB mb cb := ⟨hc mb (.inr (.inl rfl))⟩
  have hrow := h.hr N.l[i] (List.getElem_mem hi)
  haveI : Row w N.l[i].2.A (bytesC N.l[i].2.m.bytes) := ⟨hrow.row⟩
  have hlen := len_i hok hi
  refine ret_of_x (N := 14) (l := [.int .i64 N.l[i].1, .pointer (some ⟨bb, 0, none⟩), .pointer (some ⟨cb, 0, none⟩)]) Try.func35 rfl rfl (Nat.le_of_ble_eq_true rfl) ?_
  refine x_seq ?_
  refine x_regionL ?_
  refine xl_v v_assign ?_
  refine xl_v v_assign ?_
  refine xl_nil ?_
  refine x_seq ?_
  refine x_regionL ?_
  refine xl_v (by first | exact v_load | exact v_loadO (by omega) | exact v_loadFf (by omega) | exact v_loadF0 (by omega)) ?_
  refine xl_v (by first | exact v_nilCheckP | exact v_nilCheckF) ?_
  refine xl_v (by first | exact v_fieldAddr | exact v_fieldAddrF (by decide) (by omega) | exact v_fieldAddrR (by first | assumption | rfl)) ?_
  refine xl_v (by first | exact v_load | exact v_loadO (by omega) | exact v_loadFf (by omega) | exact v_loadF0 (by omega)) ?_
  refine xl_v v_move ?_
  refine xl_v (v_lookup1v N.l[i].1 (.agg (msgC N.l[i].2).toArray) rfl (netV_at hok hi)) ?_
  refine xl_call (copied_ok N.l[i].2 w (by omega)) ?_
  rintro _ w1 ⟨⟨A2, c2, rfl, ho⟩, lk⟩
  haveI : OwnI w1 _ _ _ _ _ _ _ _ := ⟨ho⟩
  haveI : NewA A2 w := newA_of ho (Nat.le_refl _)
  refine xl_s (e_storeA fun w2 l2 k2 => ?_)
  refine xl_nil ?_
  refine x_seq ?_
  refine x_regionL ?_
  refine xl_v v_move ?_
  refine xl_v v_assign ?_
  refine xl_v v_assign ?_
  refine xl_nil ?_
  refine x_ret ?_
  refine fin2 rfl ?_
  exact ⟨rfl, ⟨A2, c2, (Blk.eq : (w2).heap[cb]? = _), own_mono (OwnI.own : World.ownsRow w2 _ _ _ (.slice A2 _ c2) _ _) Ge.le⟩, lkc⟩
/-- (*waystation/net.Net).Peek -/
theorem peek_ok (b mb : Nat) (G : Nat → Prop) (N : NetL) (pick : Int) (w : World) (h : NetAt w b mb G N) (hok : N.pure.ok) : Ret Try.prog 17 #[.pointer (some ⟨b, 0, none⟩), .int .i64 pick] w (fun v w' => (∃ A' c', v = .tuple #[.agg (msgC ⟨(N.pure.peek pick).1, A', c'⟩).toArray, .int .i64 (N.pure.peek pick).2.1, .int .i64 (N.pure.peek pick).2.2] ∧ w'.ownsRow w.heap.size 5 1 (.slice A' (N.pure.peek pick).1.bytes.length c') (N.pure.peek pick).1.bytes.length (bytesC (N.pure.peek pick).1.bytes)) ∧ Lk w' w NoB) := by
  haveI hb : Blk w b _ := ⟨h.hb⟩
  refine ret_of_x (N := 14) (l := [.pointer (some ⟨b, 0, none⟩), .int .i64 pick]) Try.func17 rfl rfl (Nat.le_of_ble_eq_true rfl) ?_
  refine x_seq ?_
  refine x_regionL ?_
  refine xl_e (e_box fun b1 w1 n1 l1 k1 => ?_)
  refine xl_e (e_alloc fun b2 w2 n2 l2 k2 => ?_)
  refine xl_v v_assign ?_
  refine xl_v v_assign ?_
  refine xl_nil ?_
  refine x_seq ?_
  refine x_regionL ?_
  refine xl_v (by first | exact v_load | exact v_loadO (by omega) | exact v_loadFf (by omega) | exact v_loadF0 (by omega)) ?_
  refine xl_v v_move ?_
  refine xl_v v_makeFunc ?_
  refine xl_call (picked_ok b mb G N pick _ [.pointer (some ⟨b1, 0, none⟩), .pointer (some ⟨b2, 0, none⟩)] (fun a e W => (a = (N.pure.peek pick).2.1 ∧ e = (N.pure.peek pick).2.2) ∧ (∃ A' c', W.heap[b2]? = some (.cells (msgC ⟨(N.pure.peek pick).1, A', c'⟩).toArray 30 (0, 0)) ∧ W.ownsRow w.heap.size 5 1 (.slice A' (N.pure.peek pick).1.bytes.length c') (N.pure.peek pick).1.bytes.length (bytesC (N.pure.peek pick).1.bytes)) ∧ Lk W w2 (OneB b2)) _ (h.ext (kpc : Keep NoB w w2)) hok (fun i hi hpi W l => Calls.mono (peek1_ok b mb b1 b2 G N i hi _ _ _ W (h.ext (kpc : Keep NoB w W)) hok (fun k hk e => by have h1 := h.lt k hk; have h2 := n1.eq; have h3 := n2.eq; have h4 := (Ge.le : w.heap.size ≤ (w1).heap.size); omega)) (by
        rintro _ w' ⟨v, rfl, rfl, ⟨A2, c2, hcb, ho⟩, lk2⟩
        refine ⟨_, rfl, _, _, rfl, ?_⟩
        rw [peek_i hi hpi]
        exact ⟨⟨rfl, rfl⟩, ⟨A2, c2, hcb, own_mono ho Ge.le⟩, lkc⟩))) ?_
  rintro _ w3 ⟨a, e, rfl, hQ⟩
  obtain ⟨⟨rfl, rfl⟩, ⟨A2, c2, hcb, ho⟩, lkq⟩ : (a = (N.pure.peek pick).2.1 ∧ e = (N.pure.peek pick).2.2) ∧ (∃ A' c', (w3).heap[b2]? = some (.cells (msgC ⟨(N.pure.peek pick).1, A', c'⟩).toArray 30 (0, 0)) ∧ (w3).ownsRow w.heap.size 5 1 (.slice A' (N.pure.peek pick).1.bytes.length c') (N.pure.peek pick).1.bytes.length (bytesC (N.pure.peek pick).1.bytes)) ∧ Lk w3 w2 (OneB b2) := by
    rcases hQ with ⟨hnil, rfl, rfl, lkn⟩ | ⟨_, hQ⟩
    · rw [peek_nil pick hnil]
      exact ⟨⟨rfl, rfl⟩, ⟨none, 0, (Blk.eq : (w3).heap[b2]? = _), World.ownsRow_nil _ _ _ _⟩, lkc⟩
    · exact hQ
  haveI : Blk w3 b2 _ := ⟨hcb⟩
  refine xl_v v_move ?_
  refine xl_v v_extract ?_
  refine xl_v v_extract ?_
  refine xl_v v_assign ?_
  refine xl_v v_assign ?_
  refine xl_nil ?_
  refine x_ret ?_
  refine finR (rs := [.cell 4 30, .tmp 5, .tmp 6]) rfl ?_
  exact ⟨⟨A2, c2, rfl, ho⟩, lkc⟩
/-- (*waystation/net.Net).Take -/
theorem take_ok (b mb : Nat) (G : Nat → Prop) (N : NetL) (pick : Int) (w : World) (h : NetAt w b mb G N) (hok : N.pure.ok) : Ret Try.prog 13 #[.pointer (some ⟨b, 0, none⟩), .int .i64 pick] w (fun v w' => (∃ A' c', v = .tuple #[.agg (msgC ⟨(N.pure.peek pick).1, A', c'⟩).toArray, .int .i64 (N.pure.peek pick).2.1, .int .i64 (N.pure.peek pick).2.2] ∧ w'.ownsRow w.heap.size 5 1 (.slice A' (N.pure.peek pick).1.bytes.length c') (N.pure.peek pick).1.bytes.length (bytesC (N.pure.peek pick).1.bytes)) ∧ (∃ N', NetAt w' b mb G N' ∧ N'.pure = N.pure.takeM pick) ∧ Lk w' w (TwoB b mb)) := by
  haveI hb : Blk w b _ := ⟨h.hb⟩
  haveI hm : MapI w mb _ _ _ := ⟨h.hm⟩
  haveI : NeB b mb := ⟨h.d⟩
  haveI : NeB mb b := ⟨h.d.symm⟩
  have hmlt := h.lt mb (.inr (.inl rfl))
  refine ret_of_x (N := 27) (l := [.pointer (some ⟨b, 0, none⟩), .int .i64 pick]) Try.func13 rfl rfl (Nat.le_of_ble_eq_true rfl) ?_
  refine x_seq ?_
  refine x_regionL ?_
  refine xl_e (e_alloc fun b1 w1 n1 l1 k1 => ?_)
  refine xl_v v_assign ?_
  refine xl_v v_assign ?_
  refine xl_nil ?_
  refine x_seq ?_
  refine x_regionL ?_
  refine xl_v v_move ?_
  refine xl_v v_move ?_
  refine xl_call (peek_ok b mb G N pick _ (h.ext (kpc : Keep NoB w w1)) hok) ?_
  rintro _ w2 ⟨⟨A2, c2, rfl, ho⟩, lk⟩
  haveI : OwnI w2 _ _ _ _ _ _ _ _ := ⟨ho⟩
  haveI : NewA A2 w1 := newA_of ho (Nat.le_refl _)
  refine xl_v v_move ?_
  refine xl_v v_extract ?_
  refine xl_v v_extract ?_
  refine xl_v v_extract ?_
  refine xl_e (e_alloc fun b3 w3 n3 l3 k3 => ?_)
  refine xl_s (e_storeA fun w4 l4 k4 => ?_)
  refine xl_v v_assign ?_
  refine xl_v v_assign ?_
  refine xl_nil ?_
  refine x_seq ?_
  refine x_seq ?_
  refine x_regionL ?_
  refine xl_v v_move ?_
  refine xl_v v_eql ?_
  refine xl_nil ?_
  first | refine x_condP (fun c1 => ?_) (fun c1 => ?_) | refine x_condN (fun c1 => ?_) (fun c1 => ?_) | refine x_condE (fun c1 => ?_) (fun c1 => ?_)
  ·
    obtain ⟨i, hi, hpi⟩ : ∃ i, ∃ hi : i < N.l.length, (i : Int) = pickI pick N.l.length := by
      have hpos : 0 < N.l.length := Nat.pos_of_ne_zero (fun e => by
        rw [peek_nil pick (List.eq_nil_of_length_eq_zero e)] at c1
        simp at c1)
      obtain ⟨h0, h1⟩ := pickI_lt pick hpos
      exact ⟨(pickI pick N.l.length).toNat, by omega, by omega⟩
    refine x_regionL ?_
    refine xl_v v_move ?_
    refine xl_v (by first | exact v_nilCheckP | exact v_nilCheckF) ?_
    refine xl_v (by first | exact v_fieldAddr | exact v_fieldAddrF (by decide) (by omega) | exact v_fieldAddrR (by first | assumption | rfl)) ?_
    refine xl_v (by first | exact v_load | exact v_loadO (by omega) | exact v_loadFf (by omega) | exact v_loadF0 (by omega)) ?_
    refine xl_v v_move ?_
    refine xl_e0 (e_delete N.l[i].1 (by rw [peek_i hi hpi]) fun w5 l6 m6 => ?_)
    refine xl_nil ?_
    refine x_seq ?_
    refine x_regionL ?_
    refine xl_v (by first | exact v_loadA | exact v_loadF (by decide) (by omega)) ?_
    refine xl_v v_move ?_
    refine xl_v v_move ?_
    refine xl_s (e_storeA fun w6 l6 k6 => ?_)
    refine xl_v v_assign ?_
    refine xl_v v_assign ?_
    refine xl_nil ?_
    refine x_ret ?_
    refine finR (rs := [.cell 4 30, .tmp 5, .tmp 6]) rfl ?_
    refine ⟨⟨A2, c2, rfl, own_mono (OwnI.own : World.ownsRow w6 _ _ _ (.slice A2 _ c2) _ _) Ge.le⟩, ?_, lkc⟩
    first
      | exact ⟨N.without i, h.del hok hi (kpc : Keep (OneB mb) w w6) (MapI.m : MapB w6 mb _ _), by rw [without_pure, take_i hi hpi]⟩
      | refine ⟨N, h.ext (kpc : Keep NoB w w6), ?_⟩
        by_cases e : N.l = []
        · rw [take_nil pick e]
        · exfalso
          obtain ⟨h0, h1⟩ := pickI_lt pick (List.length_pos_iff.2 e)
          exact c1 (by rw [peek_i (N := N) (pick := pick) (i := (pickI pick N.l.length).toNat) (by omega) (by omega)])
  ·
    refine x_skip ?_
    refine x_seq ?_
    refine x_regionL ?_
    refine xl_v (by first | exact v_loadA | exact v_loadF (by decide) (by omega)) ?_
    refine xl_v v_move ?_
    refine xl_v v_move ?_
    refine xl_s (e_storeA fun w7 l7 k7 => ?_)
    refine xl_v v_assign ?_
    refine xl_v v_assign ?_
    refine xl_nil ?_
    refine x_ret ?_
    refine finR (rs := [.cell 4 30, .tmp 5, .tmp 6]) rfl ?_
    refine ⟨⟨A2, c2, rfl, own_mono (OwnI.own : World.ownsRow w7 _ _ _ (.slice A2 _ c2) _ _) Ge.le⟩, ?_, lkc⟩
    first
      | exact ⟨N.without i, h.del hok hi (kpc : Keep (OneB mb) w w7) (MapI.m : MapB w7 mb _ _), by rw [without_pure, take_i hi hpi]⟩
      | refine ⟨N, h.ext (kpc : Keep NoB w w7), ?_⟩
        by_cases e : N.l = []
        · rw [take_nil pick e]
        · exfalso
          obtain ⟨h0, h1⟩ := pickI_lt pick (List.length_pos_iff.2 e)
          exact c1 (by rw [peek_i (N := N) (pick := pick) (i := (pickI pick N.l.length).toNat) (by omega) (by omega)])
/-- (*waystation/net.Net).Drop$1 -/
theorem drop1_ok (b mb bb : Nat) (G : Nat → Prop) (N : NetL) (i : Nat) (hi : i < N.l.length) (w : World) (h : NetAt w b mb G N) (hok : N.pure.ok) [Blk w bb (.cells #[.pointer (some ⟨b, 0, none⟩)] 22 (0, 0))] : Ret Try.prog 36 #[.int .i64 N.l[i].1, .pointer (some ⟨bb, 0, none⟩)] w (fun v w' => v = .tuple #[.int .i64 N.l[i].1, .int .i64 0] ∧ NetAt w' b mb G (N.without i) ∧ Lk w' w (TwoB b mb)) := by
  haveI hb : Blk w b _ := ⟨h.hb⟩
  haveI hm : MapI w mb _ _ _ := ⟨h.hm⟩
  refine ret_of_x (N := 11) (l := [.int .i64 N.l[i].1, .pointer (some ⟨bb, 0, none⟩)]) Try.func36 rfl rfl (Nat.le_of_ble_eq_true rfl) ?_
  refine x_seq ?_
  refine x_regionL ?_
  refine xl_v v_assign ?_
  refine xl_v v_assign ?_
  refine xl_nil ?_
  refine x_seq ?_
  refine x_regionL ?_
  refine xl_v (by first | exact v_load | exact v_loadO (by omega) | exact v_loadFf (by omega) | exact v_loadF0 (by omega)) ?_
  refine xl_v (by first | exact v_nilCheckP | exact v_nilCheckF) ?_
  refine xl_v (by first | exact v_fieldAddr | exact v_fieldAddrF (by decide) (by omega) | exact v_fieldAddrR (by first | assumption | rfl)) ?_
  refine xl_v (by first | exact v_load | exact v_loadO (by omega) | exact v_loadFf (by omega) | exact v_loadF0 (by omega)) ?_
  refine xl_v v_move ?_
  refine xl_e0 (e_delete N.l[i].1 rfl fun w1 l6 m6 => ?_)
  refine xl_nil ?_
  refine x_seq ?_
  refine x_regionL ?_
  refine xl_v v_move ?_
  refine xl_v v_assign ?_
  refine xl_v v_assign ?_
  refine xl_nil ?_
  refine x_ret ?_
  refine fin2 rfl ?_
  exact ⟨rfl, h.del hok hi (kpc : Keep (OneB mb) w w1) (MapI.m : MapB w1 mb _ _), lkc⟩
/-- (*waystation/net.Net).Drop -/
theorem drop_ok (b mb : Nat) (G : Nat → Prop) (N : NetL) (pick : Int) (w : World) (h : NetAt w b mb G N) (hok : N.pure.ok) : Ret Try.prog 18 #[.pointer (some ⟨b, 0, none⟩), .int .i64 pick] w (fun v w' => v = .tuple #[.int .i64 (N.pure.peek pick).2.1, .int .i64 (N.pure.peek pick).2.2] ∧ (∃ N', NetAt w' b mb G N' ∧ N'.pure = N.pure.takeM pick) ∧ Lk w' w (TwoB b mb)) := by
  refine ret_of_x (N := 12) (l := [.pointer (some ⟨b, 0, none⟩), .int .i64 pick]) Try.func18 rfl rfl (Nat.le_of_ble_eq_true rfl) ?_
  refine x_seq ?_
  refine x_regionL ?_
  refine xl_e (e_box fun b1 w1 n1 l1 k1 => ?_)
  refine xl_v v_assign ?_
  refine xl_v v_assign ?_
  refine xl_nil ?_
  refine x_seq ?_
  refine x_regionL ?_
  refine xl_v (by first | exact v_load | exact v_loadO (by omega) | exact v_loadFf (by omega) | exact v_loadF0 (by omega)) ?_
  refine xl_v v_move ?_
  refine xl_v v_makeFunc ?_
  refine xl_call (picked_ok b mb G N pick _ [.pointer (some ⟨b1, 0, none⟩)] (fun a e W => (a = (N.pure.peek pick).2.1 ∧ e = (N.pure.peek pick).2.2) ∧ (∃ N', NetAt W b mb G N' ∧ N'.pure = N.pure.takeM pick) ∧ Lk W w1 (TwoB b mb)) _ (h.ext (kpc : Keep NoB w w1)) hok (fun i hi hpi W l => Ret.mono (drop1_ok b mb b1 G N i hi W (h.ext (kpc : Keep NoB w W)) hok) (by
        rintro _ w' ⟨rfl, hn, lk2⟩
        refine ⟨_, _, rfl, ?_⟩
        rw [peek_i hi hpi]
        exact ⟨⟨rfl, rfl⟩, ⟨_, hn, by rw [without_pure, take_i hi hpi]⟩, lkc⟩))) ?_
  rintro _ w2 ⟨a, e, rfl, hQ⟩
  obtain ⟨⟨rfl, rfl⟩, hN, lkq⟩ : (a = (N.pure.peek pick).2.1 ∧ e = (N.pure.peek pick).2.2) ∧ (∃ N', NetAt w2 b mb G N' ∧ N'.pure = N.pure.takeM pick) ∧ Lk w2 w1 (TwoB b mb) := by
    rcases hQ with ⟨hnil, rfl, rfl, lkn⟩ | ⟨_, hQ⟩
    · rw [peek_nil pick hnil]
      exact ⟨⟨rfl, rfl⟩, ⟨N, h.ext (kpc : Keep NoB w w2), by rw [take_nil pick hnil]⟩, lkc⟩
    · exact hQ
  refine xl_v v_extract ?_
  refine xl_v v_extract ?_
  refine xl_v v_assign ?_
  refine xl_v v_assign ?_
  refine xl_nil ?_
  refine x_ret ?_
  refine fin2 rfl ?_
  exact ⟨rfl, hN, lkc⟩
/-- (*waystation/net.Net).Dup$1 -/
theorem dup1_ok (b mb bb : Nat) (G : Nat → Prop) (N : NetL) (i : Nat) (hi : i < N.l.length) (w : World) (h : NetAt w b mb G N) (hok : N.pure.ok) (hcm : N.came ≤ 100000000) (hbb : ∀ k, NetF b mb G k → k ≠ bb) [Blk w bb (.cells #[.pointer (some ⟨b, 0, none⟩)] 22 (0, 0))] : Ret Try.prog 34 #[.int .i64 N.l[i].1, .pointer (some ⟨bb, 0, none⟩)] w (fun v w' => v = .tuple #[.int .i64 (N.pure.putN N.l[i].2.m), .int .i64 (N.pure.putNo N.l[i].2.m)] ∧ (∃ (G' : Nat → Prop) (N' : NetL), NetAt w' b mb G' N' ∧ N'.pure = N.pure.putM N.l[i].2.m ∧ Sub G' G w ∧ (∀ k, G k → G' k)) ∧ Lk w' w (TwoB b mb)) := by
  haveI hb : Blk w b _ := ⟨h.hb⟩
  haveI hm : MapI w mb _ _ _ := ⟨h.hm⟩
  haveI : NeB bb b := ⟨(hbb b (.inl rfl)).symm⟩
  haveI : NeB bb mb := ⟨(hbb mb (.inr (.inl rfl))).symm⟩
  have hrow := h.hr N.l[i] (List.getElem_mem hi)
  haveI : Row w N.l[i].2.A (bytesC N.l[i].2.m.bytes) := ⟨hrow.row⟩
  refine ret_of_x (N := 15) (l := [.int .i64 N.l[i].1, .pointer (some ⟨bb, 0, none⟩)]) Try.func34 rfl rfl (Nat.le_of_ble_eq_true rfl) ?_
  refine x_seq ?_
  refine x_regionL ?_
  refine xl_v v_assign ?_
  refine xl_v v_assign ?_
  refine xl_nil ?_
  refine x_seq ?_
  refine x_drawL (TwoB b mb) (.take 0 (.take 1 (.take 2 (.take 3 (.take 5 (.eff 4 (.eff 6 (.eff 7 (.take 8 (.take 9 (.take 10 (.take 11 .done)))))))))))) mixed (by kernel_rfl) (fun _ _ _ _ _ h => h) (fun w1 l1 => ?_)
  refine xt_v rfl (by first | exact v_load | exact v_loadO (by omega) | exact v_loadFf (by omega) | exact v_loadF0 (by omega)) ?_
  refine xt_v rfl (by first | exact v_load | exact v_loadO (by omega) | exact v_loadFf (by omega) | exact v_loadF0 (by omega)) ?_
  refine xt_v rfl (by first | exact v_nilCheckP | exact v_nilCheckF) ?_
  refine xt_v rfl (by first | exact v_fieldAddr | exact v_fieldAddrF (by decide) (by omega) | exact v_fieldAddrR (by first | assumption | rfl)) ?_
  refine xt_v rfl v_move ?_
  refine xt_e rfl (e_v (v_load (r := none)) ?_)
  refine xt_e rfl (e_v (v_lookup1v (r := none) N.l[i].1 (.agg (msgC N.l[i].2).toArray) rfl (netV_at hok hi)) ?_)
  refine xt_call rfl (put_ok b mb G N N.l[i].2 w1 (h.ext (kpc : Keep NoB w w1)) hok hcm) ?_
  rintro _ w2 ⟨rfl, lk, G', N', hn, hp, hs, hg⟩
  refine ⟨lk.keep, ?_⟩
  refine xt_v rfl v_extract ?_
  refine xt_v rfl v_extract ?_
  refine xt_v rfl v_assign ?_
  refine xt_v rfl v_assign ?_
  refine xt_nil ?_
  refine x_ret ?_
  refine fin2 rfl ?_
  exact ⟨rfl, ⟨G', N', hn.ext kpc, hp, (fun k hk => (hs k hk).imp id (fun h => Nat.le_trans Ge.le h)), hg⟩, lkc⟩
/-- (*waystation/net.Net).Dup -/
theorem dup_ok (b mb : Nat) (G : Nat → Prop) (N : NetL) (pick : Int) (w : World) (h : NetAt w b mb G N) (hok : N.pure.ok) (hcm : N.came ≤ 100000000) : Ret Try.prog 12 #[.pointer (some ⟨b, 0, none⟩), .int .i64 pick] w (fun v w' => v = .tuple #[.int .i64 (N.pure.dupN pick), .int .i64 (N.pure.dupNo pick)] ∧ (∃ (G' : Nat → Prop) (N' : NetL), NetAt w' b mb G' N' ∧ N'.pure = N.pure.dupM pick ∧ Sub G' G w ∧ (∀ k, G k → G' k)) ∧ Lk w' w (TwoB b mb)) := by
  refine ret_of_x (N := 12) (l := [.pointer (some ⟨b, 0, none⟩), .int .i64 pick]) Try.func12 rfl rfl (Nat.le_of_ble_eq_true rfl) ?_
  refine x_seq ?_
  refine x_regionL ?_
  refine xl_e (e_box fun b1 w1 n1 l1 k1 => ?_)
  refine xl_v v_assign ?_
  refine xl_v v_assign ?_
  refine xl_nil ?_
  refine x_seq ?_
  refine x_regionL ?_
  refine xl_v (by first | exact v_load | exact v_loadO (by omega) | exact v_loadFf (by omega) | exact v_loadF0 (by omega)) ?_
  refine xl_v v_move ?_
  refine xl_v v_makeFunc ?_
  refine xl_call (picked_ok b mb G N pick _ [.pointer (some ⟨b1, 0, none⟩)] (fun a e W => (a = N.pure.dupN pick ∧ e = N.pure.dupNo pick) ∧ (∃ (G' : Nat → Prop) (N' : NetL), NetAt W b mb G' N' ∧ N'.pure = N.pure.dupM pick ∧ Sub G' G w ∧ (∀ k, G k → G' k)) ∧ Lk W w1 (TwoB b mb)) _ (h.ext (kpc : Keep NoB w w1)) hok (fun i hi hpi W l => Ret.mono (dup1_ok b mb b1 G N i hi W (h.ext (kpc : Keep NoB w W)) hok hcm (fun k hk e => by have h1 := h.lt k hk; have h2 := n1.eq; omega)) (by
        rintro _ w' ⟨rfl, ⟨G', N', hn, hp, hs, hg⟩, lk2⟩
        refine ⟨_, _, rfl, ?_⟩
        have hne : ¬ N.pure.l = [] := by rw [pure_nil]; intro e; rw [e] at hi; simp at hi
        rw [Net.dupN, Net.dupNo, Net.dupM, if_neg hne, if_neg hne, if_neg hne, peek_i hi hpi]
        exact ⟨⟨rfl, rfl⟩, ⟨G', N', hn, hp, fun k hk => (hs k hk).imp id (fun h => Nat.le_trans Ge.le h), hg⟩, lkc⟩))) ?_
  rintro _ w2 ⟨a, e, rfl, hQ⟩
  obtain ⟨⟨rfl, rfl⟩, hN, lkq⟩ : (a = N.pure.dupN pick ∧ e = N.pure.dupNo pick) ∧ (∃ (G' : Nat → Prop) (N' : NetL), NetAt w2 b mb G' N' ∧ N'.pure = N.pure.dupM pick ∧ Sub G' G w ∧ (∀ k, G k → G' k)) ∧ Lk w2 w1 (TwoB b mb) := by
    rcases hQ with ⟨hnil, rfl, rfl, lkn⟩ | ⟨_, hQ⟩
    · rw [Net.dupN, Net.dupNo, Net.dupM, if_pos (pure_nil.2 hnil), if_pos (pure_nil.2 hnil), if_pos (pure_nil.2 hnil)]
      exact ⟨⟨rfl, rfl⟩, ⟨G, N, h.ext (kpc : Keep NoB w w2), rfl, Sub.refl _ _, fun _ h => h⟩, lkc⟩
    · exact hQ
  refine xl_v v_extract ?_
  refine xl_v v_extract ?_
  refine xl_v v_assign ?_
  refine xl_v v_assign ?_
  refine xl_nil ?_
  refine x_ret ?_
  refine fin2 rfl ?_
  exact ⟨rfl, hN, lkc⟩
end Go.Proofs.Ytacadajlpmhcfaa
