/-
  Walks, printed by a program of this workplace (wip/tools/sx.py) off the functions' code and a text of contracts.
-/
import Derived.Test.YtabknhgbijcklaaU
set_option linter.all false
set_option maxRecDepth 100000
set_option synthInstance.maxSize 100000
set_option synthInstance.maxHeartbeats 400000
namespace Go.Proofs.Ytabknhgbijcklaa
open Go.Wst
open Go.Wst.Dm
theorem setL_map {α : Type} (enc : α → Value) (xs : List α) (k : Nat) (x : α) (h : k < xs.length) : setL (xs.map enc) (k * 1) [enc x] = (xs.set k x).map enc := by
  have := flat_set (enc := fun a => [enc a]) (fun _ => rfl) xs k x h
  have e : ∀ l : List α, l.flatMap (fun a => [enc a]) = l.map enc := fun l => by induction l with
    | nil => rfl
    | cons a l ih => rw [List.flatMap_cons, ih]; rfl
  rw [e, e] at this
  exact this
theorem setL_bytes (ys : List UInt8) (k : Nat) (x : UInt8) (h : k < ys.length) : setL (bytesC ys) (k * 1) [byteC x] = bytesC (ys.set k x) := setL_map byteC ys k x h
theorem byte_wrap (v : Int) (h : 0 ≤ v) : ∃ x : UInt8, Value.int .u8 (IntKind.wrap .u8 v) = byteC x := by
  refine ⟨UInt8.ofNat v.toNat, ?_⟩
  congr 1
  simp [IntKind.wrap, IntKind.bits, IntKind.signed]
  omega
/-- Of a row of the call's own, the first part. -/
theorem own_front {w : World} {base n m c : Nat} {e : TypeId} {A : Option Addr} {xs ys : List Value} (h : w.ownsRow base e 1 (.slice A n c) n (xs ++ ys)) (hm : xs.length = m) (hpos : A.isSome = true) : w.ownsRow base e 1 (.slice A m c) m xs := by
  have hl := h.1
  rcases h.2 with ⟨h1, h2⟩ | ⟨g, cap, cur, h1, h2, h3, h4, h5, h6, h7⟩
  · cases h1; cases hpos
  · cases h1
    refine ⟨by omega, .inr ⟨g, c, cur, rfl, h2, h3, by simp at hl; omega, h5, h6, ?_⟩⟩
    have h8 := congrArg (List.take m) h7
    rw [List.take_take, List.take_left' hm] at h8
    rw [← h8]
    congr 1
    simp at hl
    omega
/-- What Q names, and what came since. -/
def wide (Q : Nat → Prop) (w W : World) : Nat → Prop := fun k => Q k ∨ (w.heap.size ≤ k ∧ k < W.heap.size)
instance notS_wide (Q : Nat → Prop) (w w1 W : World) (b : Nat) [n : New b w1] [g : Ge w1 w] [h : Has W b] : NotS (NotP (wide Q w W)) b := ⟨fun e => e (.inr ⟨by have := n.eq; have := g.le; omega, h.lt⟩)⟩
instance rowOut_wide (Q : Nat → Prop) (w w1 W : World) (A : Option Addr) [n : NewA A w1] [g : Ge w1 w] [h : OldA W A] : RowOut (NotP (wide Q w W)) A := ⟨fun a ha e => e (.inr ⟨by have := n.le a ha; have := g.le; omega, h.lt a ha⟩)⟩
instance subF_wide (R F : Nat → Prop) (w W w0 : World) : SubF (NotP (wide (fun k => R k ∨ F k) w W)) (NotP R) w0 := ⟨fun k _ e e2 => e (.inl (.inl e2))⟩
/-- A disk and the document's where they lie, alike; what P names is apart from both, what R names the disk does not write. -/
structure PairD (P R : Nat → Prop) (d : Nat) (M : Disk) (Rf : LRef) (W : World) : Prop where
  pure : RefS Rf M
  ex : ∃ F, DiskW P (fun k => R k ∨ F k) d M W ∧ RefAt W F Rf ∧ ∀ k, F k → ¬ P k
theorem DiskW.wide {P Q : Nat → Prop} {d : Nat} {M : Disk} {w W : World} (h : DiskW P Q d M w) (hk : Keep NoB w W) : DiskW (wide P w W) (wide Q w W) d M W :=
  h.keep hk (fun _ _ h => h.elim) (fun k e => by
    rcases e with e | e
    · exact ⟨Nat.lt_of_lt_of_le (h.lt.1 k e) hk.size, .inl e⟩
    · exact ⟨e.2, .inr e.1⟩) (fun k e => by
    rcases e with e | e
    · exact ⟨Nat.lt_of_lt_of_le (h.lt.2 k e) hk.size, .inl e⟩
    · exact ⟨e.2, .inr e.1⟩)
theorem PairD.keep {P R : Nat → Prop} {d : Nat} {M : Disk} {Rf : LRef} {W W' : World} {S : Nat → Prop} (h : PairD P R d M Rf W) (hk : Keep S W W') (hs : ∀ k, k < W.heap.size → S k → P k) {P' R' : Nat → Prop} (hP : ∀ k, P' k → k < W'.heap.size ∧ (P k ∨ W.heap.size ≤ k)) (hR : ∀ k, R' k → k < W'.heap.size ∧ (R k ∨ W.heap.size ≤ k)) : PairD P' R' d M Rf W' := by
  obtain ⟨F, h1, h2, h3⟩ := h.ex
  refine ⟨h.pure, F, h1.keep hk hs hP (fun k e => ?_), h2.keep hk (fun k e e2 => h3 k e (hs k (h2.lt k e) e2)), fun k e e2 => ?_⟩
  · rcases e with e | e
    · obtain ⟨q1, q2⟩ := hR k e
      exact ⟨q1, q2.imp .inl id⟩
    · exact ⟨Nat.lt_of_lt_of_le (h2.lt k e) hk.size, .inl (.inr e)⟩
  · obtain ⟨q1, q2⟩ := hP k e2
    rcases q2 with q2 | q2
    · exact h3 k e q2
    · have := h2.lt k e; omega
theorem PairD.lt {P R : Nat → Prop} {d : Nat} {M : Disk} {Rf : LRef} {W : World} (h : PairD P R d M Rf W) : (∀ k, P k → k < W.heap.size) ∧ ∀ k, R k → k < W.heap.size := by
  obtain ⟨F, h1, h2, h3⟩ := h.ex
  exact ⟨h1.lt.1, fun k e => h1.lt.2 k (.inl e)⟩
theorem PairD.cell {P R : Nat → Prop} {d : Nat} {M : Disk} {Rf : LRef} {W W' : World} {S : Nat → Prop} (h : PairD P R d M Rf W) (hk : Keep S W W') (hs : ∀ k, k < W.heap.size → S k → P k) : PairD P R d M Rf W' :=
  h.keep hk hs (fun k e => ⟨Nat.lt_of_lt_of_le (h.lt.1 k e) hk.size, .inl e⟩) (fun k e => ⟨Nat.lt_of_lt_of_le (h.lt.2 k e) hk.size, .inl e⟩)
theorem PairD.ext {P R : Nat → Prop} {d : Nat} {M : Disk} {Rf : LRef} {W W' : World} (h : PairD P R d M Rf W) (hk : Keep NoB W W') : PairD P R d M Rf W' := h.cell hk (fun _ _ h => h.elim)
/-- What a thing leaves of both. -/
theorem PairD.made {P R F F' S : Nat → Prop} {d : Nat} {M M' : Disk} {Rf' : LRef} {w w4 Wp Wp2 Wq We : World} (hD : DiskW P (fun k => R k ∨ F k) d M w) (hRl : ∀ k, F k → k < w.heap.size ∧ ¬ P k) (hp : RefS Rf' M') (hD2 : DiskW (wide P w Wp) (wide (fun k => R k ∨ F k) w Wp) d M' Wq) (hR : RefAt Wp F' Rf') (hF' : ∀ k, F' k → F k ∨ w4.heap.size ≤ k ∨ (R k ∧ ¬ P k)) (hw4 : w.heap.size ≤ w4.heap.size) (hk2 : Keep NoB Wp Wp2) (lk : Lk Wq Wp2 (NotP (wide (fun k => R k ∨ F k) w Wp))) (hk : Keep S Wq We) (hS : ∀ k, S k → w.heap.size ≤ k ∧ k < w4.heap.size) (hwp : w4.heap.size ≤ Wp.heap.size) : PairD P R d M' Rf' We := by
  have hl := hD.lt
  have hR2 : ∀ k, F' k → wide (fun k => R k ∨ F k) w Wp k := fun k e => by
    rcases hF' k e with e2 | e2 | e2
    · exact .inl (.inr e2)
    · exact .inr ⟨by omega, hR.lt k e⟩
    · exact .inl (.inl e2.1)
  refine ⟨hp, F', hD2.keep hk (fun k hk e => .inr ⟨(hS k e).1, by have := (hS k e).2; omega⟩) (fun k e => ?_) (fun k e => ?_), ?_, ?_⟩
  · exact ⟨Nat.lt_of_lt_of_le (hD2.lt.1 k (.inl e)) hk.size, .inl (.inl e)⟩
  · rcases e with e | e
    · exact ⟨Nat.lt_of_lt_of_le (hD2.lt.2 k (.inl (.inl e))) hk.size, .inl (.inl (.inl e))⟩
    · exact ⟨Nat.lt_of_lt_of_le (hD2.lt.2 k (hR2 k e)) hk.size, .inl (hR2 k e)⟩
  · refine ((hR.ext hk2).keep lk.keep (fun k e e2 => e2 (hR2 k e))).keep hk (fun k e e2 => ?_)
    obtain ⟨q1, q2⟩ := hS k e2
    rcases hF' k e with e3 | e3 | e3
    · have := (hRl k e3).1; omega
    · omega
    · have := hl.2 k (.inl e3.1); omega
  · intro k e e2
    have := hl.1 k e2
    rcases hF' k e with e3 | e3 | e3
    · exact (hRl k e3).2 e2
    · omega
    · exact e3.2 e2
theorem thing_eq {t : Thing} {i : Int} (h : t.what = i) : t = ⟨i, t.name, t.bytes, t.n⟩ := by rw [← h]
theorem step_do {M : Disk} {t : Thing} (h : okWhat t) : M.step t = M.does t := by
  rw [Disk.step, if_pos]
  exact h
theorem step_flush {M : Disk} {t : Thing} (h : ¬ (t.what = 0 ∨ t.what = 1 ∨ t.what = 2)) : M.step t = M.flush := by
  rw [Disk.step, if_neg h]
set_option maxHeartbeats 1000000 in
/-- waystation/waystationlaw03.act -/
theorem act_ok (P R : Nat → Prop) (d : Nat) (M : Disk) (Rf : LRef) (x : LT) (w : World) (h : PairD P R d M Rf w) (hfew : M.lasts.length + M.waits.length + 1 ≤ 10000) (hx : RowP w x.A (bytesC x.t.bytes)) (hxc : x.t.bytes.length ≤ x.c) (hb : x.t.bytes.length ≤ 1000000) (hnm : x.t.name.size ≤ 1000000000) (hn : In64 x.t.n) (hxR : x.t.bytes ≠ [] → ∀ a, x.A = some a → R a.block ∧ ¬ P a.block) : Ret Try.prog 34 #[.pointer (some ⟨d, 0, none⟩), .agg (refC Rf).toArray, .agg (thC x).toArray] w (fun v w' => (∃ Rf', v = .tuple #[.agg (refC Rf').toArray, .bool true] ∧ PairD P R d (M.step x.t) Rf' w') ∧ Lk w' w (NotP R)) := by
  obtain ⟨F, hD, hR, hFP⟩ := h.ex
  have hs := h.pure
  haveI hrB : RowB w Rf.B w (Rf.waits.flatMap thC) := rowB_of hR.row.row
  haveI hrx : RowB w x.A w (bytesC x.t.bytes) := rowB_of hx
  have hFl : ∀ k, F k → k < w.heap.size ∧ ¬ P k := fun k e => ⟨hR.lt k e, hFP k e⟩
  refine ret_of_x (N := 123) (l := [.pointer (some ⟨d, 0, none⟩), .agg (refC Rf).toArray, .agg (thC x).toArray]) Try.func34 rfl rfl (Nat.le_of_ble_eq_true rfl) ?_
  refine x_seq ?_
  refine x_regionL ?_
  refine xl_e (e_box fun b1 w1 n1 l1 k1 => ?_)
  refine xl_e (e_box fun b2 w2 n2 l2 k2 => ?_)
  refine xl_e (e_alloc fun b3 w3 n3 l3 k3 => ?_)
  refine xl_v v_assign ?_
  refine xl_nil ?_
  refine x_seq ?_
  refine x_seq ?_
  refine x_regionL ?_
  refine xl_v (by first | exact v_fieldAddr | exact v_fieldAddrF (by decide) (by omega) | exact v_fieldAddrR (by first | assumption | rfl)) ?_
  refine xl_v (by first | exact v_load | exact v_loadO (by omega) | exact v_loadFf (by omega) | exact v_loadF0 (by omega)) ?_
  refine xl_nil ?_
  refine x_block ?_
  refine x_seq ?_
  refine x_regionL ?_
  refine xl_v v_eql ?_
  refine xl_v v_assign ?_
  refine xl_nil ?_
  first | refine x_condP (fun c1 => ?_) (fun c1 => ?_) | refine x_condN (fun c1 => ?_) (fun c1 => ?_) | refine x_condE (fun c1 => ?_) (fun c1 => ?_)
  ·
    have hw0 : x.t.what = 0 := by simpa using c1
    have hT := thing_eq hw0
    refine x_seq ?_
    refine x_drawL (NewS w3) (.take 1 (.take 2 (.take 6 (.take 7 (.take 8 (.fork 0 (.fork 3 (.eff 4 (.eff 5 (.take 9 (.take 10 .done)))) 4 (.eff 3 (.eff 5 (.take 9 (.take 10 .done))))) 4 (.eff 0 (.eff 3 (.eff 5 (.take 9 (.take 10 .done))))))))))) mixed (by kernel_rfl) (fun _ _ _ _ _ h => h) (fun w4 l4 => ?_)
    refine xt_v rfl (by first | exact v_fieldAddr | exact v_fieldAddrF (by decide) (by omega) | exact v_fieldAddrR (by first | assumption | rfl)) ?_
    refine xt_v rfl (by first | exact v_load | exact v_loadO (by omega) | exact v_loadFf (by omega) | exact v_loadF0 (by omega)) ?_
    refine xt_v rfl (by first | exact v_fieldAddr | exact v_fieldAddrF (by decide) (by omega) | exact v_fieldAddrR (by first | assumption | rfl)) ?_
    refine xt_v rfl (by first | exact v_load | exact v_loadO (by omega) | exact v_loadFf (by omega) | exact v_loadF0 (by omega)) ?_
    refine xt_v rfl v_len ?_
    refine xt_fork ?_ ?_
    ·
      refine xt_e rfl (e_buildSlice0 fun b5 w5 n5 l5 k5 => ?_)
      refine xt_fork ?_ ?_
      ·
        refine xt_e rfl (e_appE (by simp) (by decide) (by omega) (by omega) fun Ab cb w6 ob lb ab fb => ?_)
        refine xt_e rfl (e_buildSlice1 rfl fun b7 w7 n7 l7 k7 => ?_)
        refine xt_e rfl (e_app (by simp) (by decide) (by omega) (by omega) Ge.le fun A8 c8 w8 oc lc ac fc => ?_)
        have hc8 := own_cap (OwnI.own : World.ownsRow w8 _ _ _ (.slice A8 _ c8) _ _)
        have hg8 : ∀ a, A8 = some a → w.heap.size ≤ a.block := fun a ha => Nat.le_trans Ge.le (ac.le a ha)
        refine xt_v rfl (v_sliceH x.t.bytes.length rfl (by omega)) ?_
        refine xt_v rfl v_assign ?_
        refine xt_nil ?_
        refine x_seq ?_
        refine x_regionL ?_
        refine xl_v (by first | exact v_loadA | exact v_loadF (by decide) (by omega)) ?_
        refine xl_v (by first | exact v_loadA | exact v_loadF (by decide) (by omega)) ?_
        have h8l : ∀ a, A8 = some a → a.block < (w8).heap.size := fun a ha => (own_blk (OwnI.own : World.ownsRow w8 _ _ _ (.slice A8 _ c8) _ _) a ha).2
        have hb3 : w.heap.size ≤ b3 ∧ b3 < (w8).heap.size := ⟨by rw [n3.eq]; exact Ge.le, Has.lt⟩
        have hwg4 := (Ge.le : w.heap.size ≤ (w8).heap.size)
        refine xl_call (refdo_ok Rf M F x w8 (hR.ext (kpc : Keep NoB w w8)) hs hfew (hx.keep (kpc : Keep NoB w w8) (fun _ _ h => h)) hxc (by omega) (.inl hw0) hnm hn) ?_
        rintro _ w9 ⟨⟨Rf', F', rfl, hs', hR', hF'⟩, lk4⟩
        have hsz4 := lk4.keep.size
        refine xl_v v_move ?_
        refine xl_v v_extract ?_
        refine xl_v v_extract ?_
        refine xl_e (e_alloc fun b9 w10 n9 l9 k9 => ?_)
        haveI : NotS (OwnB (.slice A8 x.t.bytes.length c8)) b9 := ⟨fun e => by obtain ⟨a, ha, e2⟩ := ownB_ex e; have := h8l a ha; have := n9.eq; omega⟩
        refine xl_s (e_storeA fun w11 l11 k11 => ?_)
        refine xl_v v_assign ?_
        refine xl_nil ?_
        refine x_seq ?_
        refine x_regionL ?_
        refine xl_v v_move ?_
        refine xl_v (by first | exact v_fieldAddr | exact v_fieldAddrF (by decide) (by omega) | exact v_fieldAddrR (by first | assumption | rfl)) ?_
        refine xl_v (by first | exact v_load | exact v_loadO (by omega) | exact v_loadFf (by omega) | exact v_loadF0 (by omega)) ?_
        refine xl_v v_move ?_
        have h8o := (OwnI.own : World.ownsRow w11 _ _ _ (.slice A8 _ c8) _ _)
        have h8s : A8.isSome = true := row_some (inferInstance : Row w11 A8 (bytesC x.t.bytes ++ [.int .u8 77])) (by simp)
        have h8f := own_front h8o (m := x.t.bytes.length) (by simp) h8s
        have hRp := hR'.ext (kpc : Keep NoB _ w11)
        have hgp5 : (w11).heap.size = (w11).heap.size := rfl
        refine xl_call ((haveI : Row w11 A8 (bytesC x.t.bytes) := ⟨(FRow.of_own h8f).row⟩; put_ok (wide P w w11) (wide (fun k => R k ∨ F k) w w11) d M x.t.name A8 c8 x.t.bytes x.t.n w11 (hD.wide (kpc : Keep NoB w w11)) (by omega) hfew)) ?_
        rintro _ w12 ⟨rfl, hD2, lk5⟩
        rw [← hT] at hD2 ⊢
        have hg45 := (Ge.le : (w11).heap.size ≤ (w11).heap.size)
        refine xl_v v_assign ?_
        refine xl_nil ?_
        refine x_seq ?_
        have h8w := own_front (OwnI.own : World.ownsRow w12 _ _ _ (.slice A8 _ c8) _ _) (m := x.t.bytes.length) (by simp) h8s
        have h8wP := (FRow.of_own h8w).row
        haveI hxw : Row w12 x.A (bytesC x.t.bytes) := ⟨by
          by_cases hn0 : x.t.bytes = []
          · rw [hn0]; exact fun j v h => by simp [bytesC] at h
          · exact hx.keep (lkc : Lk w12 w (NotP R)).keep (fun a ha e => e (hxR hn0 a ha).1)⟩
        refine x_regionL ?_
        refine xl_v v_move ?_
        refine xl_v (v_bytesStr (xs := x.t.bytes) (hr := ⟨h8wP⟩) rfl) ?_
        refine xl_v (by first | exact v_fieldAddr | exact v_fieldAddrF (by decide) (by omega) | exact v_fieldAddrR (by first | assumption | rfl)) ?_
        refine xl_v (by first | exact v_load | exact v_loadO (by omega) | exact v_loadFf (by omega) | exact v_loadF0 (by omega)) ?_
        refine xl_v (v_bytesStr (xs := x.t.bytes) rfl) ?_
        refine xl_v (v_congr (u := .bool true) v_seql (by simp)) ?_
        refine xl_v v_move ?_
        refine xl_gv rfl EvO.eq v_move ?_
        refine xl_gv rfl EvO.eq v_move ?_
        refine xl_gv rfl EvO.eq v_len ?_
        refine xl_gv rfl EvO.eq (v_add (by omega)) ?_
        refine xl_gv rfl EvO.eq (v_sliceH (x.t.bytes.length + 1) (by omega) (by omega)) ?_
        refine xl_gv rfl EvO.eq v_move ?_
        refine xl_gv rfl EvO.eq v_len ?_
        refine xl_gv rfl EvO.eq (v_indexAddr x.t.bytes.length rfl (by omega) h8s) ?_
        refine xl_gv rfl EvO.eq (v_loadR (v := .int .u8 77) (by simp)) ?_
        refine xl_gv rfl EvO.eq (v_congr (u := .bool true) v_eql (by simp)) ?_
        refine xl_v (by first | exact v_pickT | exact v_pickF | exact v_pick) ?_
        refine xl_v v_assign ?_
        refine xl_nil ?_
        refine x_seq ?_
        refine x_seq ?_
        refine x_regionL ?_
        refine xl_v v_assign ?_
        refine xl_nil ?_
        refine x_block ?_
        have h8l1 := own_mono (own_front (OwnI.own : World.ownsRow w12 _ _ _ (.slice A8 _ c8) _ _) (m := x.t.bytes.length) (by simp) h8s) (Nat.zero_le _)
        refine x_loop (fun m τ ds w' => ds = [] ∧ ∃ (k : Nat) (ys : List UInt8), m = x.t.bytes.length - k ∧ k ≤ x.t.bytes.length ∧ ys.length = x.t.bytes.length ∧ w'.ownsRow 0 5 1 (.slice A8 x.t.bytes.length c8) x.t.bytes.length (bytesC ys) ∧ Ev τ 6 (.pointer (some ⟨b3, 0, none⟩)) ∧ Ev τ 8 (.slice A8 x.t.bytes.length c8) ∧ Ev τ 9 (.pointer (some ⟨b9, 0, none⟩)) ∧ Ev τ 10 (.int .i64 (M.doNo x.t)) ∧ Ev τ 11 (.int .i64 (M.doNo x.t)) ∧ Ev τ 12 (.bool true) ∧ Ev τ 13 (.int .i64 (k : Int)) ∧ Lk w' w12 (OwnB (.slice A8 x.t.bytes.length c8))) (x.t.bytes.length) ?start ?round
        case start =>
          exact ⟨rfl, 0, x.t.bytes, rfl, by omega, rfl, h8l1, inferInstance, inferInstance, inferInstance, inferInstance, inferInstance, inferInstance, evc, lkc⟩
        case round =>
          intro m τ13 ds13 w13 hI
          obtain ⟨rfl, k, ys, rfl, hk, hyl, hoy, e6, e8, e9, e10, e11, e12, e13, lk⟩ := hI
          haveI : OwnI w13 A8 _ _ _ _ _ _ _ := ⟨hoy⟩
          refine x_seq ?_
          refine x_seq ?_
          refine x_regionL ?_
          refine xl_v v_move ?_
          refine xl_v v_move ?_
          refine xl_v v_len ?_
          refine xl_v v_lss ?_
          refine xl_nil ?_
          first | refine x_condP (fun c2 => ?_) (fun c2 => ?_) | refine x_condN (fun c2 => ?_) (fun c2 => ?_) | refine x_condE (fun c2 => ?_) (fun c2 => ?_)
          ·
            have hk1 : k < ys.length := by omega
            obtain ⟨z, hz⟩ := byte_wrap ((ys[k].toNat : Int) + 1) (by omega)
            refine x_skip ?_
            refine x_seq ?_
            refine x_block ?_
            refine x_regionL ?_
            refine xl_v v_move ?_
            refine xl_v v_move ?_
            refine xl_v v_move ?_
            refine xl_v v_move ?_
            refine xl_v (v_indexO k rfl (by omega) hk1) ?_
            refine xl_v (v_loadO (k := k) hk1) ?_
            refine xl_v v_addw ?_
            refine xl_v (v_indexO k rfl (by omega) hk1) ?_
            refine xl_s (e_storeOwn (own_ext hoy lkc) (by omega) (by decide) fun w14 lz hoz => ?_)
            rw [hz, setL_bytes ys k z hk1] at hoz
            refine xl_nil ?_
            refine x_regionL ?_
            refine xl_v v_move ?_
            refine xl_v (v_add (by omega)) ?_
            refine xl_v v_assign ?_
            refine xl_nil ?_
            refine ⟨_, ?_, rfl, k + 1, ys.set k z, rfl, by omega, by simpa using hyl, own_ext hoz lkc, inferInstance, inferInstance, inferInstance, inferInstance, inferInstance, inferInstance, evc, lkc⟩
            omega
          ·
            refine x_exit ?_
            refine x_seq ?_
            refine x_drawL (OneB b3) (.take 0 (.take 1 (.take 3 (.eff 2 (.take 4 (.take 5 (.take 6 (.take 7 (.eff 8 (.take 9 .done)))))))))) mixed (by kernel_rfl) (fun _ _ _ _ _ h => h) (fun w15 l15 => ?_)
            refine xt_v rfl (by first | exact v_loadA | exact v_loadF (by decide) (by omega)) ?_
            refine xt_v rfl v_move ?_
            refine xt_v rfl v_move ?_
            refine xt_call rfl (num_ok _ _) ?_
            rintro _ _ ⟨rfl, rfl⟩
            refine ⟨kpc, ?_⟩
            refine xt_v rfl (v_congr (u := .bool true) v_eql (by simp)) ?_
            refine xt_v rfl v_move ?_
            refine xt_gv rfl rfl EvO.eq v_move ?_
            refine xt_v rfl (by first | exact v_pickT | exact v_pickF | exact v_pick) ?_
            refine xt_s rfl (e_storeA fun w17 l17 k17 => ?_)
            refine xt_v rfl v_assign ?_
            refine xt_nil ?_
            refine x_ret ?_
            refine finR (rs := [.cell 6 54, .tmp 7]) rfl ?_
            have hend := PairD.made hD hFl hs' hD2 hRp (fun k e => (hF' k e).imp id (Or.imp id (fun ⟨hn, a, ha, e⟩ => e ▸ hxR hn a ha))) hwg4 kpc lk5 (kpc : Keep (fun k => OwnB (.slice A8 x.t.bytes.length c8) k ∨ OneB b3 k) _ w17) (by
              rintro k (e | e)
              · obtain ⟨a, ha, e2⟩ := ownB_ex e
                have := hg8 a ha; have := h8l a ha; omega
              · have e' : k = b3 := e
                omega) Ge.le
            exact ⟨⟨Rf', by simp [outV], by rw [step_do (.inl hw0)]; exact hend⟩, lkc⟩
      ·
        refine xt_e rfl (e_buildSlice1 rfl fun b18 w18 n18 l18 k18 => ?_)
        refine xt_e rfl (e_appE (by simp) (by decide) (by omega) (by omega) fun Ab cb w19 ob lb ab fb => ?_)
        refine xt_e rfl (e_app (by simp) (by decide) (by omega) (by omega) Ge.le fun A8 c8 w20 oc lc ac fc => ?_)
        have hc8 := own_cap (OwnI.own : World.ownsRow w20 _ _ _ (.slice A8 _ c8) _ _)
        have hg8 : ∀ a, A8 = some a → w.heap.size ≤ a.block := fun a ha => Nat.le_trans Ge.le (ac.le a ha)
        refine xt_v rfl (v_sliceH x.t.bytes.length rfl (by omega)) ?_
        refine xt_v rfl v_assign ?_
        refine xt_nil ?_
        refine x_seq ?_
        refine x_regionL ?_
        refine xl_v (by first | exact v_loadA | exact v_loadF (by decide) (by omega)) ?_
        refine xl_v (by first | exact v_loadA | exact v_loadF (by decide) (by omega)) ?_
        have h8l : ∀ a, A8 = some a → a.block < (w20).heap.size := fun a ha => (own_blk (OwnI.own : World.ownsRow w20 _ _ _ (.slice A8 _ c8) _ _) a ha).2
        have hb3 : w.heap.size ≤ b3 ∧ b3 < (w20).heap.size := ⟨by rw [n3.eq]; exact Ge.le, Has.lt⟩
        have hwg4 := (Ge.le : w.heap.size ≤ (w20).heap.size)
        refine xl_call (refdo_ok Rf M F x w20 (hR.ext (kpc : Keep NoB w w20)) hs hfew (hx.keep (kpc : Keep NoB w w20) (fun _ _ h => h)) hxc (by omega) (.inl hw0) hnm hn) ?_
        rintro _ w21 ⟨⟨Rf', F', rfl, hs', hR', hF'⟩, lk4⟩
        have hsz4 := lk4.keep.size
        refine xl_v v_move ?_
        refine xl_v v_extract ?_
        refine xl_v v_extract ?_
        refine xl_e (e_alloc fun b9 w22 n9 l9 k9 => ?_)
        haveI : NotS (OwnB (.slice A8 x.t.bytes.length c8)) b9 := ⟨fun e => by obtain ⟨a, ha, e2⟩ := ownB_ex e; have := h8l a ha; have := n9.eq; omega⟩
        refine xl_s (e_storeA fun w23 l23 k23 => ?_)
        refine xl_v v_assign ?_
        refine xl_nil ?_
        refine x_seq ?_
        refine x_regionL ?_
        refine xl_v v_move ?_
        refine xl_v (by first | exact v_fieldAddr | exact v_fieldAddrF (by decide) (by omega) | exact v_fieldAddrR (by first | assumption | rfl)) ?_
        refine xl_v (by first | exact v_load | exact v_loadO (by omega) | exact v_loadFf (by omega) | exact v_loadF0 (by omega)) ?_
        refine xl_v v_move ?_
        have h8o := (OwnI.own : World.ownsRow w23 _ _ _ (.slice A8 _ c8) _ _)
        have h8s : A8.isSome = true := row_some (inferInstance : Row w23 A8 (bytesC x.t.bytes ++ [.int .u8 77])) (by simp)
        have h8f := own_front h8o (m := x.t.bytes.length) (by simp) h8s
        have hRp := hR'.ext (kpc : Keep NoB _ w23)
        have hgp5 : (w23).heap.size = (w23).heap.size := rfl
        refine xl_call ((haveI : Row w23 A8 (bytesC x.t.bytes) := ⟨(FRow.of_own h8f).row⟩; put_ok (wide P w w23) (wide (fun k => R k ∨ F k) w w23) d M x.t.name A8 c8 x.t.bytes x.t.n w23 (hD.wide (kpc : Keep NoB w w23)) (by omega) hfew)) ?_
        rintro _ w24 ⟨rfl, hD2, lk5⟩
        rw [← hT] at hD2 ⊢
        have hg45 := (Ge.le : (w23).heap.size ≤ (w23).heap.size)
        refine xl_v v_assign ?_
        refine xl_nil ?_
        refine x_seq ?_
        have h8w := own_front (OwnI.own : World.ownsRow w24 _ _ _ (.slice A8 _ c8) _ _) (m := x.t.bytes.length) (by simp) h8s
        have h8wP := (FRow.of_own h8w).row
        haveI hxw : Row w24 x.A (bytesC x.t.bytes) := ⟨by
          by_cases hn0 : x.t.bytes = []
          · rw [hn0]; exact fun j v h => by simp [bytesC] at h
          · exact hx.keep (lkc : Lk w24 w (NotP R)).keep (fun a ha e => e (hxR hn0 a ha).1)⟩
        refine x_regionL ?_
        refine xl_v v_move ?_
        refine xl_v (v_bytesStr (xs := x.t.bytes) (hr := ⟨h8wP⟩) rfl) ?_
        refine xl_v (by first | exact v_fieldAddr | exact v_fieldAddrF (by decide) (by omega) | exact v_fieldAddrR (by first | assumption | rfl)) ?_
        refine xl_v (by first | exact v_load | exact v_loadO (by omega) | exact v_loadFf (by omega) | exact v_loadF0 (by omega)) ?_
        refine xl_v (v_bytesStr (xs := x.t.bytes) rfl) ?_
        refine xl_v (v_congr (u := .bool true) v_seql (by simp)) ?_
        refine xl_v v_move ?_
        refine xl_gv rfl EvO.eq v_move ?_
        refine xl_gv rfl EvO.eq v_move ?_
        refine xl_gv rfl EvO.eq v_len ?_
        refine xl_gv rfl EvO.eq (v_add (by omega)) ?_
        refine xl_gv rfl EvO.eq (v_sliceH (x.t.bytes.length + 1) (by omega) (by omega)) ?_
        refine xl_gv rfl EvO.eq v_move ?_
        refine xl_gv rfl EvO.eq v_len ?_
        refine xl_gv rfl EvO.eq (v_indexAddr x.t.bytes.length rfl (by omega) h8s) ?_
        refine xl_gv rfl EvO.eq (v_loadR (v := .int .u8 77) (by simp)) ?_
        refine xl_gv rfl EvO.eq (v_congr (u := .bool true) v_eql (by simp)) ?_
        refine xl_v (by first | exact v_pickT | exact v_pickF | exact v_pick) ?_
        refine xl_v v_assign ?_
        refine xl_nil ?_
        refine x_seq ?_
        refine x_seq ?_
        refine x_regionL ?_
        refine xl_v v_assign ?_
        refine xl_nil ?_
        refine x_block ?_
        have h8l1 := own_mono (own_front (OwnI.own : World.ownsRow w24 _ _ _ (.slice A8 _ c8) _ _) (m := x.t.bytes.length) (by simp) h8s) (Nat.zero_le _)
        refine x_loop (fun m τ ds w' => ds = [] ∧ ∃ (k : Nat) (ys : List UInt8), m = x.t.bytes.length - k ∧ k ≤ x.t.bytes.length ∧ ys.length = x.t.bytes.length ∧ w'.ownsRow 0 5 1 (.slice A8 x.t.bytes.length c8) x.t.bytes.length (bytesC ys) ∧ Ev τ 6 (.pointer (some ⟨b3, 0, none⟩)) ∧ Ev τ 8 (.slice A8 x.t.bytes.length c8) ∧ Ev τ 9 (.pointer (some ⟨b9, 0, none⟩)) ∧ Ev τ 10 (.int .i64 (M.doNo x.t)) ∧ Ev τ 11 (.int .i64 (M.doNo x.t)) ∧ Ev τ 12 (.bool true) ∧ Ev τ 13 (.int .i64 (k : Int)) ∧ Lk w' w24 (OwnB (.slice A8 x.t.bytes.length c8))) (x.t.bytes.length) ?start ?round
        case start =>
          exact ⟨rfl, 0, x.t.bytes, rfl, by omega, rfl, h8l1, inferInstance, inferInstance, inferInstance, inferInstance, inferInstance, inferInstance, evc, lkc⟩
        case round =>
          intro m τ25 ds25 w25 hI
          obtain ⟨rfl, k, ys, rfl, hk, hyl, hoy, e6, e8, e9, e10, e11, e12, e13, lk⟩ := hI
          haveI : OwnI w25 A8 _ _ _ _ _ _ _ := ⟨hoy⟩
          refine x_seq ?_
          refine x_seq ?_
          refine x_regionL ?_
          refine xl_v v_move ?_
          refine xl_v v_move ?_
          refine xl_v v_len ?_
          refine xl_v v_lss ?_
          refine xl_nil ?_
          first | refine x_condP (fun c2 => ?_) (fun c2 => ?_) | refine x_condN (fun c2 => ?_) (fun c2 => ?_) | refine x_condE (fun c2 => ?_) (fun c2 => ?_)
          ·
            have hk1 : k < ys.length := by omega
            obtain ⟨z, hz⟩ := byte_wrap ((ys[k].toNat : Int) + 1) (by omega)
            refine x_skip ?_
            refine x_seq ?_
            refine x_block ?_
            refine x_regionL ?_
            refine xl_v v_move ?_
            refine xl_v v_move ?_
            refine xl_v v_move ?_
            refine xl_v v_move ?_
            refine xl_v (v_indexO k rfl (by omega) hk1) ?_
            refine xl_v (v_loadO (k := k) hk1) ?_
            refine xl_v v_addw ?_
            refine xl_v (v_indexO k rfl (by omega) hk1) ?_
            refine xl_s (e_storeOwn (own_ext hoy lkc) (by omega) (by decide) fun w26 lz hoz => ?_)
            rw [hz, setL_bytes ys k z hk1] at hoz
            refine xl_nil ?_
            refine x_regionL ?_
            refine xl_v v_move ?_
            refine xl_v (v_add (by omega)) ?_
            refine xl_v v_assign ?_
            refine xl_nil ?_
            refine ⟨_, ?_, rfl, k + 1, ys.set k z, rfl, by omega, by simpa using hyl, own_ext hoz lkc, inferInstance, inferInstance, inferInstance, inferInstance, inferInstance, inferInstance, evc, lkc⟩
            omega
          ·
            refine x_exit ?_
            refine x_seq ?_
            refine x_drawL (OneB b3) (.take 0 (.take 1 (.take 3 (.eff 2 (.take 4 (.take 5 (.take 6 (.take 7 (.eff 8 (.take 9 .done)))))))))) mixed (by kernel_rfl) (fun _ _ _ _ _ h => h) (fun w27 l27 => ?_)
            refine xt_v rfl (by first | exact v_loadA | exact v_loadF (by decide) (by omega)) ?_
            refine xt_v rfl v_move ?_
            refine xt_v rfl v_move ?_
            refine xt_call rfl (num_ok _ _) ?_
            rintro _ _ ⟨rfl, rfl⟩
            refine ⟨kpc, ?_⟩
            refine xt_v rfl (v_congr (u := .bool true) v_eql (by simp)) ?_
            refine xt_v rfl v_move ?_
            refine xt_gv rfl rfl EvO.eq v_move ?_
            refine xt_v rfl (by first | exact v_pickT | exact v_pickF | exact v_pick) ?_
            refine xt_s rfl (e_storeA fun w29 l29 k29 => ?_)
            refine xt_v rfl v_assign ?_
            refine xt_nil ?_
            refine x_ret ?_
            refine finR (rs := [.cell 6 54, .tmp 7]) rfl ?_
            have hend := PairD.made hD hFl hs' hD2 hRp (fun k e => (hF' k e).imp id (Or.imp id (fun ⟨hn, a, ha, e⟩ => e ▸ hxR hn a ha))) hwg4 kpc lk5 (kpc : Keep (fun k => OwnB (.slice A8 x.t.bytes.length c8) k ∨ OneB b3 k) _ w29) (by
              rintro k (e | e)
              · obtain ⟨a, ha, e2⟩ := ownB_ex e
                have := hg8 a ha; have := h8l a ha; omega
              · have e' : k = b3 := e
                omega) Ge.le
            exact ⟨⟨Rf', by simp [outV], by rw [step_do (.inl hw0)]; exact hend⟩, lkc⟩
    ·
      refine xt_e rfl (e_buildSlice1 rfl fun b30 w30 n30 l30 k30 => ?_)
      refine xt_e rfl (e_buildSlice0 fun b31 w31 n31 l31 k31 => ?_)
      refine xt_e rfl (e_appE (by simp) (by decide) (by omega) (by omega) fun Ab cb w32 ob lb ab fb => ?_)
      refine xt_e rfl (e_app (by simp) (by decide) (by omega) (by omega) Ge.le fun A8 c8 w33 oc lc ac fc => ?_)
      have hc8 := own_cap (OwnI.own : World.ownsRow w33 _ _ _ (.slice A8 _ c8) _ _)
      have hg8 : ∀ a, A8 = some a → w.heap.size ≤ a.block := fun a ha => Nat.le_trans Ge.le (ac.le a ha)
      refine xt_v rfl (v_sliceH x.t.bytes.length rfl (by omega)) ?_
      refine xt_v rfl v_assign ?_
      refine xt_nil ?_
      refine x_seq ?_
      refine x_regionL ?_
      refine xl_v (by first | exact v_loadA | exact v_loadF (by decide) (by omega)) ?_
      refine xl_v (by first | exact v_loadA | exact v_loadF (by decide) (by omega)) ?_
      have h8l : ∀ a, A8 = some a → a.block < (w33).heap.size := fun a ha => (own_blk (OwnI.own : World.ownsRow w33 _ _ _ (.slice A8 _ c8) _ _) a ha).2
      have hb3 : w.heap.size ≤ b3 ∧ b3 < (w33).heap.size := ⟨by rw [n3.eq]; exact Ge.le, Has.lt⟩
      have hwg4 := (Ge.le : w.heap.size ≤ (w33).heap.size)
      refine xl_call (refdo_ok Rf M F x w33 (hR.ext (kpc : Keep NoB w w33)) hs hfew (hx.keep (kpc : Keep NoB w w33) (fun _ _ h => h)) hxc (by omega) (.inl hw0) hnm hn) ?_
      rintro _ w34 ⟨⟨Rf', F', rfl, hs', hR', hF'⟩, lk4⟩
      have hsz4 := lk4.keep.size
      refine xl_v v_move ?_
      refine xl_v v_extract ?_
      refine xl_v v_extract ?_
      refine xl_e (e_alloc fun b9 w35 n9 l9 k9 => ?_)
      haveI : NotS (OwnB (.slice A8 x.t.bytes.length c8)) b9 := ⟨fun e => by obtain ⟨a, ha, e2⟩ := ownB_ex e; have := h8l a ha; have := n9.eq; omega⟩
      refine xl_s (e_storeA fun w36 l36 k36 => ?_)
      refine xl_v v_assign ?_
      refine xl_nil ?_
      refine x_seq ?_
      refine x_regionL ?_
      refine xl_v v_move ?_
      refine xl_v (by first | exact v_fieldAddr | exact v_fieldAddrF (by decide) (by omega) | exact v_fieldAddrR (by first | assumption | rfl)) ?_
      refine xl_v (by first | exact v_load | exact v_loadO (by omega) | exact v_loadFf (by omega) | exact v_loadF0 (by omega)) ?_
      refine xl_v v_move ?_
      have h8o := (OwnI.own : World.ownsRow w36 _ _ _ (.slice A8 _ c8) _ _)
      have h8s : A8.isSome = true := row_some (inferInstance : Row w36 A8 (bytesC x.t.bytes ++ [.int .u8 77])) (by simp)
      have h8f := own_front h8o (m := x.t.bytes.length) (by simp) h8s
      have hRp := hR'.ext (kpc : Keep NoB _ w36)
      have hgp5 : (w36).heap.size = (w36).heap.size := rfl
      refine xl_call ((haveI : Row w36 A8 (bytesC x.t.bytes) := ⟨(FRow.of_own h8f).row⟩; put_ok (wide P w w36) (wide (fun k => R k ∨ F k) w w36) d M x.t.name A8 c8 x.t.bytes x.t.n w36 (hD.wide (kpc : Keep NoB w w36)) (by omega) hfew)) ?_
      rintro _ w37 ⟨rfl, hD2, lk5⟩
      rw [← hT] at hD2 ⊢
      have hg45 := (Ge.le : (w36).heap.size ≤ (w36).heap.size)
      refine xl_v v_assign ?_
      refine xl_nil ?_
      refine x_seq ?_
      have h8w := own_front (OwnI.own : World.ownsRow w37 _ _ _ (.slice A8 _ c8) _ _) (m := x.t.bytes.length) (by simp) h8s
      have h8wP := (FRow.of_own h8w).row
      haveI hxw : Row w37 x.A (bytesC x.t.bytes) := ⟨by
        by_cases hn0 : x.t.bytes = []
        · rw [hn0]; exact fun j v h => by simp [bytesC] at h
        · exact hx.keep (lkc : Lk w37 w (NotP R)).keep (fun a ha e => e (hxR hn0 a ha).1)⟩
      refine x_regionL ?_
      refine xl_v v_move ?_
      refine xl_v (v_bytesStr (xs := x.t.bytes) (hr := ⟨h8wP⟩) rfl) ?_
      refine xl_v (by first | exact v_fieldAddr | exact v_fieldAddrF (by decide) (by omega) | exact v_fieldAddrR (by first | assumption | rfl)) ?_
      refine xl_v (by first | exact v_load | exact v_loadO (by omega) | exact v_loadFf (by omega) | exact v_loadF0 (by omega)) ?_
      refine xl_v (v_bytesStr (xs := x.t.bytes) rfl) ?_
      refine xl_v (v_congr (u := .bool true) v_seql (by simp)) ?_
      refine xl_v v_move ?_
      refine xl_gv rfl EvO.eq v_move ?_
      refine xl_gv rfl EvO.eq v_move ?_
      refine xl_gv rfl EvO.eq v_len ?_
      refine xl_gv rfl EvO.eq (v_add (by omega)) ?_
      refine xl_gv rfl EvO.eq (v_sliceH (x.t.bytes.length + 1) (by omega) (by omega)) ?_
      refine xl_gv rfl EvO.eq v_move ?_
      refine xl_gv rfl EvO.eq v_len ?_
      refine xl_gv rfl EvO.eq (v_indexAddr x.t.bytes.length rfl (by omega) h8s) ?_
      refine xl_gv rfl EvO.eq (v_loadR (v := .int .u8 77) (by simp)) ?_
      refine xl_gv rfl EvO.eq (v_congr (u := .bool true) v_eql (by simp)) ?_
      refine xl_v (by first | exact v_pickT | exact v_pickF | exact v_pick) ?_
      refine xl_v v_assign ?_
      refine xl_nil ?_
      refine x_seq ?_
      refine x_seq ?_
      refine x_regionL ?_
      refine xl_v v_assign ?_
      refine xl_nil ?_
      refine x_block ?_
      have h8l1 := own_mono (own_front (OwnI.own : World.ownsRow w37 _ _ _ (.slice A8 _ c8) _ _) (m := x.t.bytes.length) (by simp) h8s) (Nat.zero_le _)
      refine x_loop (fun m τ ds w' => ds = [] ∧ ∃ (k : Nat) (ys : List UInt8), m = x.t.bytes.length - k ∧ k ≤ x.t.bytes.length ∧ ys.length = x.t.bytes.length ∧ w'.ownsRow 0 5 1 (.slice A8 x.t.bytes.length c8) x.t.bytes.length (bytesC ys) ∧ Ev τ 6 (.pointer (some ⟨b3, 0, none⟩)) ∧ Ev τ 8 (.slice A8 x.t.bytes.length c8) ∧ Ev τ 9 (.pointer (some ⟨b9, 0, none⟩)) ∧ Ev τ 10 (.int .i64 (M.doNo x.t)) ∧ Ev τ 11 (.int .i64 (M.doNo x.t)) ∧ Ev τ 12 (.bool true) ∧ Ev τ 13 (.int .i64 (k : Int)) ∧ Lk w' w37 (OwnB (.slice A8 x.t.bytes.length c8))) (x.t.bytes.length) ?start ?round
      case start =>
        exact ⟨rfl, 0, x.t.bytes, rfl, by omega, rfl, h8l1, inferInstance, inferInstance, inferInstance, inferInstance, inferInstance, inferInstance, evc, lkc⟩
      case round =>
        intro m τ38 ds38 w38 hI
        obtain ⟨rfl, k, ys, rfl, hk, hyl, hoy, e6, e8, e9, e10, e11, e12, e13, lk⟩ := hI
        haveI : OwnI w38 A8 _ _ _ _ _ _ _ := ⟨hoy⟩
        refine x_seq ?_
        refine x_seq ?_
        refine x_regionL ?_
        refine xl_v v_move ?_
        refine xl_v v_move ?_
        refine xl_v v_len ?_
        refine xl_v v_lss ?_
        refine xl_nil ?_
        first | refine x_condP (fun c2 => ?_) (fun c2 => ?_) | refine x_condN (fun c2 => ?_) (fun c2 => ?_) | refine x_condE (fun c2 => ?_) (fun c2 => ?_)
        ·
          have hk1 : k < ys.length := by omega
          obtain ⟨z, hz⟩ := byte_wrap ((ys[k].toNat : Int) + 1) (by omega)
          refine x_skip ?_
          refine x_seq ?_
          refine x_block ?_
          refine x_regionL ?_
          refine xl_v v_move ?_
          refine xl_v v_move ?_
          refine xl_v v_move ?_
          refine xl_v v_move ?_
          refine xl_v (v_indexO k rfl (by omega) hk1) ?_
          refine xl_v (v_loadO (k := k) hk1) ?_
          refine xl_v v_addw ?_
          refine xl_v (v_indexO k rfl (by omega) hk1) ?_
          refine xl_s (e_storeOwn (own_ext hoy lkc) (by omega) (by decide) fun w39 lz hoz => ?_)
          rw [hz, setL_bytes ys k z hk1] at hoz
          refine xl_nil ?_
          refine x_regionL ?_
          refine xl_v v_move ?_
          refine xl_v (v_add (by omega)) ?_
          refine xl_v v_assign ?_
          refine xl_nil ?_
          refine ⟨_, ?_, rfl, k + 1, ys.set k z, rfl, by omega, by simpa using hyl, own_ext hoz lkc, inferInstance, inferInstance, inferInstance, inferInstance, inferInstance, inferInstance, evc, lkc⟩
          omega
        ·
          refine x_exit ?_
          refine x_seq ?_
          refine x_drawL (OneB b3) (.take 0 (.take 1 (.take 3 (.eff 2 (.take 4 (.take 5 (.take 6 (.take 7 (.eff 8 (.take 9 .done)))))))))) mixed (by kernel_rfl) (fun _ _ _ _ _ h => h) (fun w40 l40 => ?_)
          refine xt_v rfl (by first | exact v_loadA | exact v_loadF (by decide) (by omega)) ?_
          refine xt_v rfl v_move ?_
          refine xt_v rfl v_move ?_
          refine xt_call rfl (num_ok _ _) ?_
          rintro _ _ ⟨rfl, rfl⟩
          refine ⟨kpc, ?_⟩
          refine xt_v rfl (v_congr (u := .bool true) v_eql (by simp)) ?_
          refine xt_v rfl v_move ?_
          refine xt_gv rfl rfl EvO.eq v_move ?_
          refine xt_v rfl (by first | exact v_pickT | exact v_pickF | exact v_pick) ?_
          refine xt_s rfl (e_storeA fun w42 l42 k42 => ?_)
          refine xt_v rfl v_assign ?_
          refine xt_nil ?_
          refine x_ret ?_
          refine finR (rs := [.cell 6 54, .tmp 7]) rfl ?_
          have hend := PairD.made hD hFl hs' hD2 hRp (fun k e => (hF' k e).imp id (Or.imp id (fun ⟨hn, a, ha, e⟩ => e ▸ hxR hn a ha))) hwg4 kpc lk5 (kpc : Keep (fun k => OwnB (.slice A8 x.t.bytes.length c8) k ∨ OneB b3 k) _ w42) (by
            rintro k (e | e)
            · obtain ⟨a, ha, e2⟩ := ownB_ex e
              have := hg8 a ha; have := h8l a ha; omega
            · have e' : k = b3 := e
              omega) Ge.le
          exact ⟨⟨Rf', by simp [outV], by rw [step_do (.inl hw0)]; exact hend⟩, lkc⟩
  ·
    refine x_seq ?_
    refine x_regionL ?_
    refine xl_v v_eql ?_
    refine xl_v v_assign ?_
    refine xl_nil ?_
    first | refine x_condP (fun c3 => ?_) (fun c3 => ?_) | refine x_condN (fun c3 => ?_) (fun c3 => ?_) | refine x_condE (fun c3 => ?_) (fun c3 => ?_)
    ·
      have hw1 : x.t.what = 1 := by simpa using c3
      have hT := thing_eq hw1
      refine x_seq ?_
      refine x_regionL ?_
      refine xl_v (by first | exact v_loadA | exact v_loadF (by decide) (by omega)) ?_
      refine xl_v (by first | exact v_loadA | exact v_loadF (by decide) (by omega)) ?_
      have hb3 : w.heap.size ≤ b3 ∧ b3 < (w3).heap.size := ⟨by rw [n3.eq]; exact Ge.le, Has.lt⟩
      have hwg4 := (Ge.le : w.heap.size ≤ (w3).heap.size)
      refine xl_call (refdo_ok Rf M F x w3 (hR.ext (kpc : Keep NoB w w3)) hs hfew (hx.keep (kpc : Keep NoB w w3) (fun _ _ h => h)) hxc (by omega) (.inr (.inl hw1)) hnm hn) ?_
      rintro _ w43 ⟨⟨Rf', F', rfl, hs', hR', hF'⟩, lk4⟩
      refine xl_v v_move ?_
      refine xl_v v_extract ?_
      refine xl_v v_extract ?_
      refine xl_e (e_alloc fun b44 w44 n44 l44 k44 => ?_)
      refine xl_s (e_storeA fun w45 l45 k45 => ?_)
      refine xl_v v_assign ?_
      refine xl_nil ?_
      refine x_seq ?_
      have hDw := hD.wide (kpc : Keep NoB w w45)
      have hRp := hR'.ext (kpc : Keep NoB _ w45)
      refine x_drawL (fun k => NotP (wide (fun k => R k ∨ F k) w w45) k ∨ OneB b3 k) (.take 0 (.take 1 (.take 2 (.take 3 (.take 4 (.take 5 (.take 8 (.eff 6 (.eff 7 (.take 9 (.eff 10 (.take 11 .done)))))))))))) mixed (by kernel_rfl) (fun _ _ _ _ _ h => h) (fun w46 l46 => ?_)
      refine xt_v rfl (by first | exact v_loadA | exact v_loadF (by decide) (by omega)) ?_
      refine xt_v rfl v_move ?_
      refine xt_v rfl (by first | exact v_fieldAddr | exact v_fieldAddrF (by decide) (by omega) | exact v_fieldAddrR (by first | assumption | rfl)) ?_
      refine xt_v rfl (by first | exact v_load | exact v_loadO (by omega) | exact v_loadFf (by omega) | exact v_loadF0 (by omega)) ?_
      refine xt_v rfl (by first | exact v_fieldAddr | exact v_fieldAddrF (by decide) (by omega) | exact v_fieldAddrR (by first | assumption | rfl)) ?_
      refine xt_v rfl (by first | exact v_load | exact v_loadO (by omega) | exact v_loadFf (by omega) | exact v_loadF0 (by omega)) ?_
      refine xt_v rfl v_move ?_
      refine xt_call rfl (cut_ok _ _ d M x.t.name x.t.n x.t.bytes w46 (hDw.ext (kpc : Keep NoB _ w46)) (by omega) hfew) ?_
      rintro _ w47 ⟨rfl, hD2, lk5⟩
      refine ⟨kpc, ?_⟩
      rw [← hT] at hD2 ⊢
      refine xt_call rfl (num_ok _ _) ?_
      rintro _ _ ⟨rfl, rfl⟩
      refine ⟨kpc, ?_⟩
      refine xt_v rfl (v_congr (u := .bool true) v_eql (by simp)) ?_
      refine xt_s rfl (e_storeA fun w49 l49 k49 => ?_)
      refine xt_v rfl v_assign ?_
      refine xt_nil ?_
      refine x_ret ?_
      refine finR (rs := [.cell 6 54, .tmp 7]) rfl ?_
      have hend := PairD.made hD hFl hs' hD2 hRp (fun k e => (hF' k e).imp id (Or.imp id (fun ⟨hn, a, ha, e⟩ => e ▸ hxR hn a ha))) hwg4 kpc lk5 (kpc : Keep (OneB b3) _ w49) (by
        rintro k e
        have e' : k = b3 := e
        omega) Ge.le
      exact ⟨⟨Rf', by simp [outV], by rw [step_do (.inr (.inl hw1))]; exact hend⟩, lkc⟩
    ·
      refine x_seq ?_
      refine x_regionL ?_
      refine xl_v v_eql ?_
      refine xl_v v_assign ?_
      refine xl_nil ?_
      first | refine x_condP (fun c4 => ?_) (fun c4 => ?_) | refine x_condN (fun c4 => ?_) (fun c4 => ?_) | refine x_condE (fun c4 => ?_) (fun c4 => ?_)
      ·
        have hw2 : x.t.what = 2 := by simpa using c4
        have hT := thing_eq hw2
        refine x_seq ?_
        refine x_regionL ?_
        refine xl_v (by first | exact v_loadA | exact v_loadF (by decide) (by omega)) ?_
        refine xl_v (by first | exact v_loadA | exact v_loadF (by decide) (by omega)) ?_
        have hb3 : w.heap.size ≤ b3 ∧ b3 < (w3).heap.size := ⟨by rw [n3.eq]; exact Ge.le, Has.lt⟩
        have hwg4 := (Ge.le : w.heap.size ≤ (w3).heap.size)
        refine xl_call (refdo_ok Rf M F x w3 (hR.ext (kpc : Keep NoB w w3)) hs hfew (hx.keep (kpc : Keep NoB w w3) (fun _ _ h => h)) hxc (by omega) (.inr (.inr hw2)) hnm hn) ?_
        rintro _ w50 ⟨⟨Rf', F', rfl, hs', hR', hF'⟩, lk4⟩
        refine xl_v v_move ?_
        refine xl_v v_extract ?_
        refine xl_v v_extract ?_
        refine xl_e (e_alloc fun b51 w51 n51 l51 k51 => ?_)
        refine xl_s (e_storeA fun w52 l52 k52 => ?_)
        refine xl_v v_assign ?_
        refine xl_nil ?_
        refine x_seq ?_
        have hDw := hD.wide (kpc : Keep NoB w w52)
        have hRp := hR'.ext (kpc : Keep NoB _ w52)
        refine x_drawL (fun k => NotP (wide (fun k => R k ∨ F k) w w52) k ∨ OneB b3 k) (.take 0 (.take 1 (.take 2 (.take 3 (.take 6 (.eff 4 (.eff 5 (.take 7 (.eff 8 (.take 9 .done)))))))))) mixed (by kernel_rfl) (fun _ _ _ _ _ h => h) (fun w53 l53 => ?_)
        refine xt_v rfl (by first | exact v_loadA | exact v_loadF (by decide) (by omega)) ?_
        refine xt_v rfl v_move ?_
        refine xt_v rfl (by first | exact v_fieldAddr | exact v_fieldAddrF (by decide) (by omega) | exact v_fieldAddrR (by first | assumption | rfl)) ?_
        refine xt_v rfl (by first | exact v_load | exact v_loadO (by omega) | exact v_loadFf (by omega) | exact v_loadF0 (by omega)) ?_
        refine xt_v rfl v_move ?_
        refine xt_call rfl (remove_ok _ _ d M x.t.name x.t.n x.t.bytes w53 (hDw.ext (kpc : Keep NoB _ w53)) (by omega) hfew) ?_
        rintro _ w54 ⟨rfl, hD2, lk5⟩
        refine ⟨kpc, ?_⟩
        rw [← hT] at hD2 ⊢
        refine xt_call rfl (num_ok _ _) ?_
        rintro _ _ ⟨rfl, rfl⟩
        refine ⟨kpc, ?_⟩
        refine xt_v rfl (v_congr (u := .bool true) v_eql (by simp)) ?_
        refine xt_s rfl (e_storeA fun w56 l56 k56 => ?_)
        refine xt_v rfl v_assign ?_
        refine xt_nil ?_
        refine x_ret ?_
        refine finR (rs := [.cell 6 54, .tmp 7]) rfl ?_
        have hend := PairD.made hD hFl hs' hD2 hRp (fun k e => (hF' k e).imp id (Or.imp id (fun ⟨hn, a, ha, e⟩ => e ▸ hxR hn a ha))) hwg4 kpc lk5 (kpc : Keep (OneB b3) _ w56) (by
          rintro k e
          have e' : k = b3 := e
          omega) Ge.le
        exact ⟨⟨Rf', by simp [outV], by rw [step_do (.inr (.inr hw2))]; exact hend⟩, lkc⟩
      ·
        refine x_skip ?_
        refine x_seq ?_
        have hb3 : w.heap.size ≤ b3 ∧ b3 < (w3).heap.size := ⟨by rw [n3.eq]; exact Ge.le, Has.lt⟩
        have hwg4 := (Ge.le : w.heap.size ≤ (w3).heap.size)
        refine x_regionL ?_
        refine xl_v (by first | exact v_loadA | exact v_loadF (by decide) (by omega)) ?_
        refine xl_call (refflush_ok Rf M F w3 (hR.ext (kpc : Keep NoB w w3)) hs) ?_
        rintro _ w57 ⟨⟨Rf', F', rfl, hs', hR', hF'⟩, lk4⟩
        refine xl_v v_move ?_
        have hRp := hR'.ext (kpc : Keep NoB _ w57)
        refine xl_call (flush_ok (wide P w w57) (wide (fun k => R k ∨ F k) w w57) d M w57 (hD.wide (kpc : Keep NoB w w57))) ?_
        rintro _ w58 ⟨rfl, hD2, lk5⟩
        refine xl_call (num_ok _ _) ?_
        rintro _ _ ⟨rfl, rfl⟩
        refine xl_v (v_congr (u := .bool true) v_eql (by simp)) ?_
        refine xl_s (e_storeA fun w60 l60 k60 => ?_)
        refine xl_v v_assign ?_
        refine xl_nil ?_
        refine x_ret ?_
        refine finR (rs := [.cell 6 54, .tmp 7]) rfl ?_
        have hend := PairD.made hD hFl hs' hD2 hRp (fun k e => (hF' k e).imp id .inl) hwg4 kpc lk5 (kpc : Keep (OneB b3) _ w60) (by
          rintro k e
          have e' : k = b3 := e
          omega) Ge.le
        exact ⟨⟨Rf', by simp [outV], by rw [step_flush (by omega)]; exact hend⟩, lkc⟩
end Go.Proofs.Ytabknhgbijcklaa
