/-
 Walks, printed by a program of this workplace (wip/tools/sx.py) off the functions' code and a text of contracts.
-/
import Derived.Test.YtljdkelgapndgaaGreatJ8
set_option linter.all false
set_option maxRecDepth 100000
set_option synthInstance.maxSize 100000
set_option synthInstance.maxHeartbeats 400000
namespace Go.Proofs.YtljdkelgapndgaaGreat
open Go.Wst
open Go.Wst.Qm
def zeroAn : LAn := ⟨⟨0, 0, 0, 0, [], [], [], []⟩, none, 0, none, 0, none, 0, none, 0⟩

theorem nodeE_ok (q : Nat) (D : LQu) (n : Int) (w : World) [Blk w q (.cells (quC D).toArray 71 (0, 0))] (hA : D.NA.isSome = true) (hn : ¬ (0 ≤ n ∧ n < D.ns.length)) : Ret Tryz.prog 9 #[.pointer (some ⟨q, 0, none⟩), .int .i64 n] w (fun v w' => v = .tuple #[.agg (anC zeroAn).toArray, .int .i64 2] ∧ Lk w' w NoB) := by
 refine ret_of_x (N := 83) (l := [.pointer (some ⟨q, 0, none⟩), .int .i64 n]) Tryz.func9 rfl rfl (Nat.le_of_ble_eq_true rfl) ?_
 refine x_seq ?_
 refine x_regionL ?_
 refine xl_e (e_alloc fun b1 w1 n1 l1 k1 => ?_)
 refine xl_v v_assign ?_
 refine xl_nil ?_
 refine x_seq ?_
 refine x_block ?_
 refine x_seq ?_
 refine x_regionL ?_
 refine xl_v v_move ?_
 refine xl_v (by first | exact v_eql_pointerS | exact v_eql_pointerN) ?_
 refine xl_v v_move ?_
 refine xl_gv rfl EvO.eq v_move ?_
 refine xl_gNc rfl EvO.eq ?_
 refine xl_gFb rfl EvO.eq ?_
 refine xl_gLc rfl EvO.eq ?_
 refine xl_gv rfl EvO.eq (v_congr (u := .bool false) v_eql_slice (by rw [Option.isNone_eq_false_iff.2 hA])) ?_
 refine xl_Pk ?_
 refine xl_v v_assign ?_
 refine xl_nil ?_
 refine x_condF ?_
 refine x_seq ?_
 refine x_regionL ?_
 refine xl_v v_move ?_
 refine xl_v v_move ?_
 refine xl_call (has_ok q D n w1) ?_
 rintro _ w2 ⟨rfl, lk2⟩
 refine xl_v (v_congr (u := .bool true) v_not (by rw [decide_eq_false hn]; rfl)) ?_
 refine xl_v v_assign ?_
 refine xl_nil ?_
 refine x_condT ?_
 refine x_seq ?_
 refine x_regionL ?_
 refine xl_v v_build ?_
 refine xl_s (e_storeA fun w3 l3 k3 => ?_)
 refine xl_v v_assign ?_
 refine xl_nil ?_
 refine x_ret ?_
 refine finR (rs := [.cell 4 41, .tmp 5]) rfl ?_
 exact ⟨rfl, lkc⟩

theorem nodeN_ok (n : Int) (w : World) : Ret Tryz.prog 9 #[.pointer none, .int .i64 n] w (fun v w' => v = .tuple #[.agg (anC zeroAn).toArray, .int .i64 1] ∧ Lk w' w NoB) := by
 refine ret_of_x (N := 83) (l := [.pointer none, .int .i64 n]) Tryz.func9 rfl rfl (Nat.le_of_ble_eq_true rfl) ?_
 refine x_seq ?_
 refine x_regionL ?_
 refine xl_e (e_alloc fun b1 w1 n1 l1 k1 => ?_)
 refine xl_v v_assign ?_
 refine xl_nil ?_
 refine x_seq ?_
 refine x_block ?_
 refine x_seq ?_
 refine x_regionL ?_
 refine xl_v v_move ?_
 refine xl_v (by first | exact v_eql_pointerS | exact v_eql_pointerN) ?_
 refine xl_v v_move ?_
 refine xl_gs rfl EvO.eq ?_
 refine xl_gs rfl EvO.eq ?_
 refine xl_gs rfl EvO.eq ?_
 refine xl_gs rfl EvO.eq ?_
 refine xl_gs rfl EvO.eq ?_
 refine xl_Pk ?_
 refine xl_v v_assign ?_
 refine xl_nil ?_
 refine x_condT ?_
 refine x_seq ?_
 refine x_regionL ?_
 refine xl_v v_build ?_
 refine xl_s (e_storeA fun w2 l2 k2 => ?_)
 refine xl_v v_assign ?_
 refine xl_nil ?_
 refine x_ret ?_
 refine finR (rs := [.cell 4 41, .tmp 5]) rfl ?_
 exact ⟨rfl, lkc⟩

theorem nodes_ok (q : Nat) (D : LQu) (w : World) [Blk w q (.cells (quC D).toArray 71 (0, 0))] : Ret Tryz.prog 20 #[.pointer (some ⟨q, 0, none⟩)] w (fun v w' => v = .int .i64 D.ns.length ∧ Lk w' w NoB) := by
 refine ret_of_x (N := 10) (l := [.pointer (some ⟨q, 0, none⟩)]) Tryz.func20 rfl rfl (Nat.le_of_ble_eq_true rfl) ?_
 refine x_seq ?_
 refine x_regionL ?_
 refine xl_v v_assign ?_
 refine xl_nil ?_
 refine x_seq ?_
 refine x_seq ?_
 refine x_regionL ?_
 refine xl_v v_move ?_
 refine xl_v (by first | exact v_eql_pointerS | exact v_eql_pointerN) ?_
 refine xl_nil ?_
 refine x_condF ?_
 refine x_skip ?_
 refine x_seq ?_
 refine x_regionL ?_
 refine xl_v v_move ?_
 refine xl_Nc ?_
 refine xl_Fb ?_
 refine xl_Lc ?_
 refine xl_v v_len ?_
 refine xl_v v_assign ?_
 refine xl_nil ?_
 refine x_ret ?_
 refine fin1 rfl ?_
 exact ⟨rfl, lkc⟩

theorem nodesN_ok (w : World) : Ret Tryz.prog 20 #[.pointer none] w (fun v w' => v = .int .i64 0 ∧ Lk w' w NoB) := by
 refine ret_of_x (N := 10) (l := [.pointer none]) Tryz.func20 rfl rfl (Nat.le_of_ble_eq_true rfl) ?_
 refine x_seq ?_
 refine x_regionL ?_
 refine xl_v v_assign ?_
 refine xl_nil ?_
 refine x_seq ?_
 refine x_seq ?_
 refine x_regionL ?_
 refine xl_v v_move ?_
 refine xl_v (by first | exact v_eql_pointerS | exact v_eql_pointerN) ?_
 refine xl_nil ?_
 refine x_condT ?_
 refine x_seq ?_
 refine x_regionL ?_
 refine xl_v v_assign ?_
 refine xl_nil ?_
 refine x_ret ?_
 refine fin1 rfl ?_
 exact ⟨rfl, lkc⟩
theorem committed_snoc (l : List Nd) (x : Nd) (out : List Cmd) : (l ++ [x]).foldl (fun out x => if (out.length : Int) < x.commit then x.log.take x.commit.toNat else out) out = (if ((l.foldl (fun out x => if (out.length : Int) < x.commit then x.log.take x.commit.toNat else out) out).length : Int) < x.commit then x.log.take x.commit.toNat else l.foldl (fun out x => if (out.length : Int) < x.commit then x.log.take x.commit.toNat else out) out) := by
 rw [List.foldl_append]; rfl
def outTo (l : List LNd) (k : Nat) : List Cmd := ((l.take k).map (·.x)).foldl (fun out x => if (out.length : Int) < x.commit then x.log.take x.commit.toNat else out) []
theorem outTo_snoc {l : List LNd} {k : Nat} (h : k < l.length) : outTo l (k + 1) = if ((outTo l k).length : Int) < l[k].x.commit then l[k].x.log.take l[k].x.commit.toNat else outTo l k := by
 unfold outTo
 rw [take_snoc l k h, List.map_append, List.map_cons, List.map_nil, committed_snoc]

theorem committed_ok (q : Nat) (D : LQu) (F : Nat → Prop) (w : World) (h : QuAt w F q D) (hok : ∀ y ∈ D.ns, y.x.Ok D.ns.length) (hn5 : D.ns.length ≤ 5) : Ret Tryz.prog 18 #[.pointer (some ⟨q, 0, none⟩)] w (fun v w' => (∃ A' c', v = .slice A' D.pure.committed.length c' ∧ w'.ownsRow w.heap.size 46 2 v D.pure.committed.length (cmdsC D.pure.committed) ∧ D.pure.committed.length ≤ 256) ∧ Lk w' w NoB) := by
 haveI hb : Blk w q _ := ⟨h.hb⟩
 haveI hN : OwnI w D.NA D.ns.length D.nc 0 69 20 D.ns.length (D.ns.flatMap ndC) := ⟨h.nodes⟩
 refine ret_of_x (N := 31) (l := [.pointer (some ⟨q, 0, none⟩)]) Tryz.func18 rfl rfl (Nat.le_of_ble_eq_true rfl) ?_
 refine x_seq ?_
 refine x_regionL ?_
 refine xl_v v_assign ?_
 refine xl_nil ?_
 refine x_seq ?_
 refine x_seq ?_
 refine x_regionL ?_
 refine xl_v v_move ?_
 refine xl_v (by first | exact v_eql_pointerS | exact v_eql_pointerN) ?_
 refine xl_nil ?_
 refine x_condF ?_
 refine x_skip ?_
 refine x_seq ?_
 refine x_regionL ?_
 refine xl_v v_assign ?_
 refine xl_nil ?_
 refine x_seq ?_
 refine x_seq ?_
 refine x_regionL ?_
 refine xl_v v_move ?_
 refine xl_Nc ?_
 refine xl_Fb ?_
 refine xl_Lc ?_
 refine xl_v v_len ?_
 refine xl_v v_move ?_
 refine xl_nil ?_
 refine x_block ?_
 refine x_loop (fun m τ ds w' => ds = [] ∧ ∃ (k : Nat) (B : Option Addr) (bc : Nat), m = D.ns.length - k ∧ k ≤ D.ns.length ∧ FRow w' F B (cmdsC (outTo D.ns k)) ∧ (outTo D.ns k).length ≤ 256 ∧ Ev τ 3 (.slice B (outTo D.ns k).length bc) ∧ Ev τ 11 (.slice D.NA D.ns.length D.nc) ∧ Ev τ 12 (.int .i64 (D.ns.length : Int)) ∧ Ev τ 13 (.int .i64 (k : Int)) ∧ Lk w' w NoB) (D.ns.length) ?start ?round
 case start =>
  exact ⟨rfl, 0, none, 0, rfl, Nat.zero_le _, FRow.nil _ _, Nat.zero_le _, evc, inferInstance, inferInstance, evc, lkc⟩
 case round =>
  intro m τ1 ds1 w1 hI
  obtain ⟨rfl, k, B, bc, rfl, hk, hrB, hlB, e3, e11, e12, e13, lk⟩ := hI
  refine x_seq ?_
  refine x_regionL ?_
  refine xl_v v_lss ?_
  refine xl_nil ?_
  refine x_seq ?_
  first | refine x_condP (fun c2 => ?_) (fun c2 => ?_) | refine x_condN (fun c2 => ?_) (fun c2 => ?_) | refine x_condE (fun c2 => ?_) (fun c2 => ?_)
  ·
   have hk1 : k < D.ns.length := by omega
   have hmem : D.ns[k] ∈ D.ns := List.getElem_mem hk1
   have hyok := hok _ hmem
   have hlc := h.lc _ hmem
   obtain ⟨cn, hcn0⟩ : ∃ cn : Nat, D.ns[k].x.commit = (cn : Int) := ⟨D.ns[k].x.commit.toNat, by have := hyok.c0; omega⟩
   have hcn : D.ns[k].x.commit.toNat = cn := by omega
   have hcl : cn ≤ D.ns[k].x.log.length := by have := hyok.c1; omega
   refine x_skip ?_
   refine x_seq ?_
   refine x_block ?_
   refine x_seq ?_
   refine x_regionL ?_
   refine xl_v (v_indexF k (by decide) rfl (by omega) hk1) ?_
   refine xl_v (v_loadF (k := k) (by decide) hk1) ?_
   refine xl_e (e_alloc fun b5 w2 n5 l5 k5 => ?_)
   refine xl_s (e_storeA fun w3 l3 k3 => ?_)
   refine xl_nil ?_
   refine x_seq ?_
   refine x_regionL ?_
   refine xl_Fb ?_
   refine xl_Lc ?_
   refine xl_v v_move ?_
   refine xl_v v_len ?_
   refine xl_v v_gtr ?_
   refine xl_nil ?_
   first | refine x_condP (fun c3 => ?_) (fun c3 => ?_) | refine x_condN (fun c3 => ?_) (fun c3 => ?_) | refine x_condE (fun c3 => ?_) (fun c3 => ?_)
   ·
    refine x_regionL ?_
    refine xl_Fb ?_
    refine xl_Fb ?_
    refine xl_Lc ?_
    refine xl_Fb ?_
    refine xl_Lc ?_
    refine xl_v (v_sliceH cn hcn0 (by omega)) ?_
    refine xl_v v_assign ?_
    refine xl_nil ?_
    refine x_regionL ?_
    refine xl_v (v_add (by omega)) ?_
    refine xl_v v_move ?_
    refine xl_nil ?_
    first
    | refine ⟨_, ?_, rfl, k + 1, D.ns[k].A, D.ns[k].c, rfl, by omega, ?_, ?_, ?_, inferInstance, inferInstance, evc, lkc⟩
      ·omega
      ·rw [outTo_snoc hk1, if_pos c3, hcn]
       exact ((h.logs D.ns[k] hmem).keep (kpc : Keep NoB w w3) (fun _ _ h => h)).take cn
      ·rw [outTo_snoc hk1, if_pos c3, List.length_take]; have := hyok.ll; omega
      ·refine evc ?_
       rw [outTo_snoc hk1, if_pos c3, hcn]
       show Value.slice _ cn _ = Value.slice _ (List.take cn D.ns[k].x.log).length _
       rw [List.length_take, Nat.min_eq_left (by omega)]
    | refine ⟨_, ?_, rfl, k + 1, B, bc, rfl, by omega, ?_, ?_, ?_, inferInstance, inferInstance, evc, lkc⟩
      ·omega
      ·rw [outTo_snoc hk1, if_neg c3]
       exact hrB.keep (kpc : Keep NoB w1 w3) (fun _ _ h => h)
      ·rw [outTo_snoc hk1, if_neg c3]; exact hlB
      ·rw [outTo_snoc hk1, if_neg c3]; infer_instance
   ·
    refine x_skip ?_
    refine x_regionL ?_
    refine xl_v (v_add (by omega)) ?_
    refine xl_v v_move ?_
    refine xl_nil ?_
    first
    | refine ⟨_, ?_, rfl, k + 1, D.ns[k].A, D.ns[k].c, rfl, by omega, ?_, ?_, ?_, inferInstance, inferInstance, evc, lkc⟩
      ·omega
      ·rw [outTo_snoc hk1, if_pos c3, hcn]
       exact ((h.logs D.ns[k] hmem).keep (kpc : Keep NoB w w3) (fun _ _ h => h)).take cn
      ·rw [outTo_snoc hk1, if_pos c3, List.length_take]; have := hyok.ll; omega
      ·refine evc ?_
       rw [outTo_snoc hk1, if_pos c3, hcn]
       show Value.slice _ cn _ = Value.slice _ (List.take cn D.ns[k].x.log).length _
       rw [List.length_take, Nat.min_eq_left (by omega)]
    | refine ⟨_, ?_, rfl, k + 1, B, bc, rfl, by omega, ?_, ?_, ?_, inferInstance, inferInstance, evc, lkc⟩
      ·omega
      ·rw [outTo_snoc hk1, if_neg c3]
       exact hrB.keep (kpc : Keep NoB w1 w3) (fun _ _ h => h)
      ·rw [outTo_snoc hk1, if_neg c3]; exact hlB
      ·rw [outTo_snoc hk1, if_neg c3]; infer_instance
  ·
   refine x_exit ?_
   refine x_seq ?_
   have hkn : k = D.ns.length := by omega
   have hout : outTo D.ns k = D.pure.committed := by unfold outTo; rw [hkn, List.take_length]; rfl
   rw [hout] at hrB hlB e3
   haveI hrB2 : Row w1 B (cmdsC D.pure.committed) := ⟨hrB.row⟩
   refine x_regionL ?_
   refine xl_v v_move ?_
   refine xl_call (cloneC_ok B D.pure.committed.length bc (cmdsC D.pure.committed) w1 (cmds_len _) (by omega) (cmds_one _) (by
       rcases Nat.eq_zero_or_pos D.pure.committed.length with e | e
       ·exact .inr e
       ·exact .inl (row_isSome hrB2 e))) ?_
   rintro _ w4 ⟨⟨A9, c9, rfl, ho9⟩, lk9⟩
   refine xl_v v_assign ?_
   refine xl_nil ?_
   refine x_ret ?_
   refine fin1 rfl ?_
   exact ⟨⟨A9, c9, rfl, own_mono (own_ext ho9 lkc) Ge.le, hlB⟩, lkc⟩

theorem committedN_ok (w : World) : Ret Tryz.prog 18 #[.pointer none] w (fun v w' => v = .slice none 0 0 ∧ Lk w' w NoB) := by
 refine ret_of_x (N := 31) (l := [.pointer none]) Tryz.func18 rfl rfl (Nat.le_of_ble_eq_true rfl) ?_
 refine x_seq ?_
 refine x_regionL ?_
 refine xl_v v_assign ?_
 refine xl_nil ?_
 refine x_seq ?_
 refine x_seq ?_
 refine x_regionL ?_
 refine xl_v v_move ?_
 refine xl_v (by first | exact v_eql_pointerS | exact v_eql_pointerN) ?_
 refine xl_nil ?_
 refine x_condT ?_
 refine x_seq ?_
 refine x_regionL ?_
 refine xl_v v_assign ?_
 refine xl_nil ?_
 refine x_ret ?_
 refine fin1 rfl ?_
 exact ⟨rfl, lkc⟩

theorem bagN_ok (w : World) : Ret Tryz.prog 43 #[.pointer none] w (fun v w' => v = .slice none 0 0 ∧ Lk w' w NoB) := by
 refine ret_of_x (N := 29) (l := [.pointer none]) Tryz.func43 rfl rfl (Nat.le_of_ble_eq_true rfl) ?_
 refine x_seq ?_
 refine x_regionL ?_
 refine xl_v v_assign ?_
 refine xl_nil ?_
 refine x_seq ?_
 refine x_seq ?_
 refine x_regionL ?_
 refine xl_v v_move ?_
 refine xl_v (by first | exact v_eql_pointerS | exact v_eql_pointerN) ?_
 refine xl_nil ?_
 refine x_condT ?_
 refine x_seq ?_
 refine x_regionL ?_
 refine xl_v v_assign ?_
 refine xl_nil ?_
 refine x_ret ?_
 refine fin1 rfl ?_
 exact ⟨rfl, lkc⟩
end Go.Proofs.YtljdkelgapndgaaGreat
set_option linter.all false
set_option maxRecDepth 100000
set_option synthInstance.maxSize 100000
set_option synthInstance.maxHeartbeats 400000
namespace Go.Proofs.YtljdkelgapndgaaGreat
open Go.Wst
open Go.Wst.Qm
structure BagAt (W : World) (A : Option Addr) (bs : List LBl) : Prop where
 row : RowP W A (bs.flatMap blC)
 cmds : ∀ y ∈ bs, RowP W y.A (cmdsC y.m.cmds)

theorem bag_ok (q : Nat) (D : LQu) (F : Nat → Prop) (w : World) (h : QuAt w F q D) (hb256 : D.bs.length ≤ 256) (hcl : ∀ y ∈ D.bs, y.m.cmds.length ≤ 4) : Ret Tryz.prog 43 #[.pointer (some ⟨q, 0, none⟩)] w (fun v w' => (∃ A' c' bs, v = .slice A' D.bs.length c' ∧ bs.map (fun y : LBl => y.m) = D.bs.map (fun y : LBl => y.m) ∧ BagAt w' A' bs) ∧ Lk w' w NoB) := by
 haveI hb : Blk w q _ := ⟨h.hb⟩
 haveI hB : OwnI w D.BA D.bs.length D.bc 0 75 12 D.bs.length (D.bs.flatMap blC) := ⟨h.bag⟩
 refine ret_of_x (N := 29) (l := [.pointer (some ⟨q, 0, none⟩)]) Tryz.func43 rfl rfl (Nat.le_of_ble_eq_true rfl) ?_
 refine x_seq ?_
 refine x_regionL ?_
 refine xl_v v_assign ?_
 refine xl_nil ?_
 refine x_seq ?_
 refine x_seq ?_
 refine x_regionL ?_
 refine xl_v v_move ?_
 refine xl_v (by first | exact v_eql_pointerS | exact v_eql_pointerN) ?_
 refine xl_nil ?_
 refine x_condF ?_
 refine x_skip ?_
 refine x_seq ?_
 refine x_regionL ?_
 refine xl_v v_move ?_
 refine xl_Nc ?_
 refine xl_Fb ?_
 refine xl_Lc ?_
 refine xl_call (cloneB_ok D.BA D.bs.length D.bc (D.bs.flatMap blC) w (by rw [flat_len (sz := 12) (fun _ => rfl)]) (by omega) Cell1L.eq (by
     rcases Nat.eq_zero_or_pos D.bs.length with e | e
     ·exact .inr e
     ·exact .inl (row_some (w := w) (A := D.BA) (cs := D.bs.flatMap blC) inferInstance (by rw [flat_len (sz := 12) (fun _ => rfl)]; omega)))) ?_
 rintro _ w1 ⟨⟨A3, c3, rfl, ho3⟩, lk3⟩
 refine xl_v v_assign ?_
 refine xl_nil ?_
 refine x_seq ?_
 refine x_seq ?_
 refine x_regionL ?_
 refine xl_v v_move ?_
 refine xl_v v_len ?_
 refine xl_v v_move ?_
 refine xl_nil ?_
 refine x_block ?_
 have ho3' := own_mono (own_ext ho3 (lkc : Lk w1 _ NoB)) (Ge.le : w.heap.size ≤ _)
 refine x_loop (fun m τ ds w' => ds = [] ∧ ∃ (k : Nat) (ys : List LBl), m = D.bs.length - k ∧ k ≤ D.bs.length ∧ w'.ownsRow w.heap.size 75 12 (.slice A3 D.bs.length c3) D.bs.length (ys.flatMap blC) ∧ ys.map (fun y : LBl => y.m) = D.bs.map (fun y : LBl => y.m) ∧ (∀ y ∈ ys, RowP w' y.A (cmdsC y.m.cmds) ∧ ∀ a, y.A = some a → blkA A3 ≠ some a.block) ∧ Ev τ 3 (.slice A3 D.bs.length c3) ∧ Ev τ 13 (.int .i64 (D.bs.length : Int)) ∧ Ev τ 14 (.int .i64 (k : Int)) ∧ Lk w' w NoB) (D.bs.length) ?start ?round
 case start =>
  refine ⟨rfl, 0, D.bs, rfl, Nat.zero_le _, ho3', rfl, fun y hy => ⟨((h.cmds y hy).keep (kpc : Keep NoB w w1) (fun _ _ h => h)).row, fun a ha e => ?_⟩, inferInstance, evc, evc, lkc⟩
  have h1 := h.fl _ ((h.cmds y hy).blk a ha)
  have h2 := (own_blk ho3' e).1
  omega
 case round =>
  intro m τ2 ds2 w2 hI
  obtain ⟨rfl, k, ys, rfl, hk, ho, hym, hys, e3, e13, e14, lk⟩ := hI
  have hyl : ys.length = D.bs.length := by have := congrArg List.length hym; simpa using this
  refine x_seq ?_
  refine x_regionL ?_
  refine xl_v v_lss ?_
  refine xl_nil ?_
  refine x_seq ?_
  first | refine x_condP (fun c2 => ?_) (fun c2 => ?_) | refine x_condN (fun c2 => ?_) (fun c2 => ?_) | refine x_condE (fun c2 => ?_) (fun c2 => ?_)
  ·
   have hk1 : k < ys.length := by omega
   have hA3 : A3.isSome = true := by
    cases hA : A3 with
    | none => rw [hA] at ho; rcases ho.2 with ⟨_, e⟩ | ⟨g, _, _, e, _⟩; omega; cases e
    | some a => rfl
   haveI o3 : OwnI w2 A3 D.bs.length c3 w.heap.size 75 12 D.bs.length ((ys.set k ys[k]).flatMap blC) := ⟨by rw [List.set_getElem_self]; exact ho⟩
   haveI li : LtI k ys.length := ⟨hk1⟩
   have hkl : k < (ys.set k ys[k]).length := by simpa using hk1
   haveI sA3 : ∀ (S : Nat → Prop), SubF (OwnB (.slice A3 D.bs.length c3)) S w := fun S => ⟨fun j hj e => by have := (own_blk ho (ownB_blk.1 e)).1; omega⟩
   haveI hrk : Row w2 ys[k].A (cmdsC ys[k].m.cmds) := ⟨(hys ys[k] (List.getElem_mem hk1)).1⟩
   have hck : ys[k].m.cmds.length ≤ 4 := by
    have e1 : ys[k].m ∈ D.bs.map (fun y : LBl => y.m) := by rw [← hym]; exact List.mem_map_of_mem (List.getElem_mem hk1)
    obtain ⟨y, hy, e2⟩ := List.mem_map.1 e1
    rw [← e2]; exact hcl y hy
   refine x_skip ?_
   refine x_seq ?_
   refine x_block ?_
   refine x_seq ?_
   refine x_regionL ?_
   refine xl_v v_move ?_
   refine xl_v v_assign ?_
   refine xl_nil ?_
   refine x_regionL ?_
   refine xl_v v_move ?_
   refine xl_v v_move ?_
   refine xl_v v_move ?_
   refine xl_v v_move ?_
   refine xl_v (v_indexF k (by decide) rfl (by omega) hkl) ?_
   refine xl_Fb ?_
   refine xl_Lc ?_
   refine xl_call (cloneC_ok ys[k].A ys[k].m.cmds.length ys[k].c (cmdsC ys[k].m.cmds) w2 (cmds_len _) (by omega) (cmds_one _) (by
       rcases Nat.eq_zero_or_pos ys[k].m.cmds.length with e | e
       ·exact .inr e
       ·exact .inl (row_isSome hrk e))) ?_
   rintro _ w3 ⟨⟨A9, c9, rfl, ho9⟩, lk9⟩
   haveI o9 : OwnI w3 A9 _ _ _ _ _ _ _ := ⟨ho9⟩
   haveI na9 : NewA A9 _ := newA_of ho9 (Nat.le_refl _)
   refine xl_v (v_indexF k (by decide) rfl (by omega) hkl) ?_
   refine xl_Fb ?_
   refine xl_s (e_storeC k 11 { ys[k] with A := A9, c := c9 } fun w4 l10 o10 => ?_)
   refine xl_nil ?_
   refine x_regionL ?_
   refine xl_v (v_add (by omega)) ?_
   refine xl_v v_move ?_
   refine xl_nil ?_
   refine ⟨_, ?_, rfl, k + 1, ys.set k { ys[k] with A := A9, c := c9 }, rfl, by omega, ?_, ?_, ?_, inferInstance, inferInstance, evc, lkc⟩
   ·omega
   ·exact own_ext o10.own lkc
   ·rw [List.map_set, ← hym]
    have e1 : (ys.map (fun y : LBl => y.m))[k]? = some ys[k].m := by simp [hk1]
    rw [set_self e1]
   ·intro y hy
    rcases mem_set hy with e | e
    ·rw [e]
     refine ⟨Row.row (w := w4) (A := A9), fun a ha e2 => ?_⟩
     have h1 := (own_blk ho9 (blkA_some ha)).1
     have h2 := (own_blk ho e2).2
     have h3 : (w2).heap.size ≤ a.block := Nat.le_trans Ge.le h1
     omega
    ·obtain ⟨h1, h2⟩ := hys y e
     exact ⟨(h1.keep (kpc : Keep (OwnB (.slice A3 D.bs.length c3)) w2 w4) (fun a ha e2 => h2 a ha (ownB_blk.1 e2))), h2⟩
  ·
   refine x_exit ?_
   refine x_seq ?_
   refine x_regionL ?_
   refine xl_v v_move ?_
   refine xl_v v_assign ?_
   refine xl_nil ?_
   refine x_ret ?_
   refine fin1 rfl ?_
   obtain ⟨_, _, e9, _, _, hr9⟩ := ownsRow_form ho
   cases e9
   exact ⟨⟨A3, c3, ys, rfl, hym, hr9.keep (kpc : Keep NoB _ w2) (fun _ _ h => h), fun y hy => ((hys y hy).1.keep (kpc : Keep NoB _ w2) (fun _ _ h => h))⟩, lkc⟩

theorem copy_ok (q : Nat) (D : LQu) (F : Nat → Prop) (w : World) (h : QuAt w F q D) (hpos : 0 < D.ns.length) (hn5 : D.ns.length ≤ 5) (hb256 : D.bs.length ≤ 256) : Ret Tryz.prog 7 #[.pointer (some ⟨q, 0, none⟩)] w (fun v w' => (∃ c D2, v = .pointer (some ⟨c, 0, none⟩) ∧ QuAt w' F c D2 ∧ D2.pure = D.pure ∧ ∀ k, QuB c D2 k → w.heap.size ≤ k) ∧ Lk w' w NoB) := by
 haveI hb : Blk w q _ := ⟨h.hb⟩
 haveI hN : OwnI w D.NA D.ns.length D.nc 0 69 20 D.ns.length (D.ns.flatMap ndC) := ⟨h.nodes⟩
 haveI hB : OwnI w D.BA D.bs.length D.bc 0 75 12 D.bs.length (D.bs.flatMap blC) := ⟨h.bag⟩
 refine ret_of_x (N := 18) (l := [.pointer (some ⟨q, 0, none⟩)]) Tryz.func7 rfl rfl (Nat.le_of_ble_eq_true rfl) ?_
 refine x_seq ?_
 refine x_regionL ?_
 refine xl_v v_assign ?_
 refine xl_nil ?_
 refine x_seq ?_
 refine x_seq ?_
 refine x_regionL ?_
 refine xl_v v_move ?_
 refine xl_call (nodes_ok q D w) ?_
 rintro _ w1 ⟨rfl, lk1⟩
 refine xl_v (v_eqlF (by omega)) ?_
 refine xl_nil ?_
 refine x_condF ?_
 refine x_skip ?_
 refine x_seq ?_
 refine x_drawL (NoB) (allS) (.take 0 (.take 1 (.take 2 (.take 3 (.take 5 (.take 6 (.take 7 (.take 8 (.eff 4 (.eff 9 (.take 10 (.eff 11 (.take 12 .done))))))))))))) mixed (by kernel_rfl) (fun _ _ _ _ _ h => h) (fun w2 l2 => ?_)
 refine xt_v rfl v_move ?_
 refine xt_Nc rfl ?_
 refine xt_Fb rfl ?_
 refine xt_Lc rfl ?_
 refine xt_v rfl v_move ?_
 refine xt_Nc rfl ?_
 refine xt_Fb rfl ?_
 refine xt_Lc rfl ?_
 refine xt_call rfl (cloneN_ok D.NA D.ns.length D.nc (D.ns.flatMap ndC) w2 (by rw [flat_len (sz := 20) (fun _ => rfl)]) (by omega) Cell1L.eq (.inl h.n1)) ?_
 rintro _ w3 ⟨⟨A1, c1', rfl, ho1⟩, lk4⟩
 refine ⟨kpc, ?_⟩
 haveI o1 : OwnI w3 A1 _ _ _ _ _ _ _ := ⟨ho1⟩
 haveI na1 : NewA A1 _ := newA_of ho1 (Nat.le_refl _)
 refine xt_call rfl (cloneB_ok D.BA D.bs.length D.bc (D.bs.flatMap blC) w3 (by rw [flat_len (sz := 12) (fun _ => rfl)]) (by omega) Cell1L.eq (by
     rcases Nat.eq_zero_or_pos D.bs.length with e | e
     ·exact .inr e
     ·exact .inl (row_some (w := w3) (A := D.BA) (cs := D.bs.flatMap blC) inferInstance (by rw [flat_len (sz := 12) (fun _ => rfl)]; omega)))) ?_
 rintro _ w4 ⟨⟨A2, c2', rfl, ho2⟩, lk9⟩
 refine ⟨kpc, ?_⟩
 haveI o2 : OwnI w4 A2 _ _ _ _ _ _ _ := ⟨ho2⟩
 haveI na2 : NewA A2 _ := newA_of ho2 (Nat.le_refl _)
 refine xt_v rfl v_build ?_
 refine xt_e rfl (e_box fun b w5 nb lb kb => ?_)
 refine xt_v rfl v_assign ?_
 refine xt_nil ?_
 refine x_ret ?_
 refine fin1 rfl ?_
 have hap : ApA A1 A2 := inferInstance
 have h1 : ∀ k, blkA A1 = some k → w.heap.size ≤ k := fun k e => Nat.le_trans Ge.le (own_blk ho1 e).1
 have h2 : ∀ k, blkA A2 = some k → w.heap.size ≤ k := fun k e => Nat.le_trans Ge.le (own_blk ho2 e).1
 have hbw : w.heap.size ≤ b := by rw [nb.eq]; exact Ge.le
 have hA1 : A1.isSome = true := row_some (w := w5) (A := A1) (cs := D.ns.flatMap ndC) inferInstance (by rw [flat_len (sz := 20) (fun _ => rfl)]; omega)
 have hnew : ∀ k, QuB b { D with NA := A1, nc := c1', BA := A2, bc := c2' } k → w.heap.size ≤ k := by
  rintro k (e | e | e)
  ·rw [e]; exact hbw
  ·exact h1 k e
  ·exact h2 k e
 refine ⟨⟨b, { D with NA := A1, nc := c1', BA := A2, bc := c2' }, rfl, ⟨Blk.eq, own_mono (OwnI.own (w := w5) (A := A1)) (Nat.zero_le _), own_mono (OwnI.own (w := w5) (A := A2)) (Nat.zero_le _), fun y hy => (h.logs y hy).keep (kpc : Keep NoB w w5) (fun _ _ h => h), h.lc, fun y hy => (h.cmds y hy).keep (kpc : Keep NoB w w5) (fun _ _ h => h), h.mc, fun k e => Nat.lt_of_lt_of_le (h.fl k e) Ge.le, fun k e e2 => ?_, hA1, inferInstance, inferInstance, hap⟩, rfl, hnew⟩, lkc⟩
 have := h.fl k e
 have := hnew k e2
 omega

theorem copyN_ok (w : World) : Ret Tryz.prog 7 #[.pointer none] w (fun v w' => v = .pointer none ∧ Lk w' w NoB) := by
 refine ret_of_x (N := 18) (l := [.pointer none]) Tryz.func7 rfl rfl (Nat.le_of_ble_eq_true rfl) ?_
 refine x_seq ?_
 refine x_regionL ?_
 refine xl_v v_assign ?_
 refine xl_nil ?_
 refine x_seq ?_
 refine x_seq ?_
 refine x_regionL ?_
 refine xl_v v_move ?_
 refine xl_call (nodesN_ok w) ?_
 rintro _ w1 ⟨rfl, lk1⟩
 refine xl_v (v_eqlT rfl) ?_
 refine xl_nil ?_
 refine x_condT ?_
 refine x_seq ?_
 refine x_regionL ?_
 refine xl_v v_assign ?_
 refine xl_nil ?_
 refine x_ret ?_
 refine fin1 rfl ?_
 exact ⟨rfl, lkc⟩
end Go.Proofs.YtljdkelgapndgaaGreat
set_option linter.all false
set_option maxRecDepth 100000
set_option synthInstance.maxSize 100000
set_option synthInstance.maxHeartbeats 400000
namespace Go.Proofs.YtljdkelgapndgaaGreat
open Go.Wst
open Go.Wst.Qm
theorem flat_setMany {α : Type} {enc : α → List Value} {sz : Nat} (hsz : ∀ x, (enc x).length = sz) (xs zs : List α) (k : Nat) (hk : k ≤ xs.length) : setL (xs.flatMap enc) (k * sz) (zs.flatMap enc) = (xs.take k ++ zs ++ xs.drop (k + zs.length)).flatMap enc := by
 unfold setL
 rw [← flat_take hsz, flat_len hsz, ← Nat.add_mul, ← flat_drop hsz, List.flatMap_append, List.flatMap_append]
def newN : LNd := ⟨Nd.new, none, 0⟩
def zeroN : LNd := ⟨⟨0, 0, [], 0, 0, falses, zeros, zeros⟩, none, 0⟩
def fillN (m n : Nat) : List LNd := List.replicate m newN ++ List.replicate (n - m) zeroN
theorem fill_more {m d n : Nat} (h : m + d ≤ n) : (fillN m n).take m ++ List.replicate d newN ++ (fillN m n).drop (m + d) = fillN (m + d) n := by
 unfold fillN
 have h1 : (List.replicate m newN ++ List.replicate (n - m) zeroN).take m = List.replicate m newN := by
  rw [List.take_append_of_le_length (by simp), List.take_of_length_le (by simp)]
 have h2 : (List.replicate m newN ++ List.replicate (n - m) zeroN).drop (m + d) = List.replicate (n - (m + d)) zeroN := by
  rw [List.drop_append, List.drop_of_length_le (by simp), List.nil_append, List.length_replicate, List.drop_replicate]
  congr 1
  omega
 rw [h1, h2, List.replicate_append_replicate]
theorem fill_len {m n : Nat} (h : m ≤ n) : (fillN m n).length = n := by unfold fillN; simp; omega
theorem fill_take {m d n : Nat} (h : d ≤ m) : (fillN m n).take d = List.replicate d newN := by
 unfold fillN
 rw [List.take_append_of_le_length (by simp; omega), List.take_replicate]
 congr 1
 omega
theorem fill_all (n : Nat) : fillN n n = List.replicate n newN := by unfold fillN; simp
theorem mul_ok (n : Nat) (w : World) (hn : n ≤ 1000) : Ret Tryz.prog 66 #[.int .u64 ((1 : Nat) : Int), .int .u64 (n : Int)] w (fun v w' => v = .tuple #[.int .u64 0, .int .u64 (n : Int)] ∧ Lk w' w NoB) := by
 refine Calls.mono (Tryz.bits_Mul 1 n (by omega) (by omega) w) ?_
 rintro e w' ⟨rfl, rfl⟩
 refine ⟨_, rfl, ?_, ⟨Keep.refl _ _⟩⟩
 have h1 : 1 * n / 18446744073709551616 = 0 := Nat.div_eq_of_lt (by omega)
 have h2 : 1 * n % 18446744073709551616 = n := by rw [Nat.mod_eq_of_lt (by omega), Nat.one_mul]
 rw [h1, h2]
 rfl
theorem min_id {a b : Nat} : (Nat.min a b) = min a b := rfl

theorem repeat_ok (A : Option Addr) (n : Nat) (w : World) [hr : Row w A ([newN].flatMap ndC)] (hA : A.isSome = true) (hn : 1 ≤ n ∧ n ≤ 5) : Ret Tryz.prog 46 #[.slice A 1 1, .int .i64 (n : Int)] w (fun v w' => (∃ A', v = .slice A' n n ∧ w'.ownsRow w.heap.size 69 20 v n ((List.replicate n newN).flatMap ndC)) ∧ Lk w' w NoB) := by
 refine ret_of_x (N := 48) (l := [.slice A 1 1, .int .i64 (n : Int)]) Tryz.func46 rfl rfl (Nat.le_of_ble_eq_true rfl) ?_
 refine x_seq ?_
 refine x_regionL ?_
 refine xl_v v_assign ?_
 refine xl_nil ?_
 refine x_seq ?_
 refine x_seq ?_
 refine x_regionL ?_
 refine xl_v v_move ?_
 refine xl_v v_lss ?_
 refine xl_nil ?_
 first | refine x_condP (fun c1 => ?_) (fun c1 => ?_) | refine x_condN (fun c1 => ?_) (fun c1 => ?_) | refine x_condE (fun c1 => ?_) (fun c1 => ?_)
 ·
  omega
 ·
  refine x_skip ?_
  refine x_seq ?_
  refine x_regionL ?_
  refine xl_v v_move ?_
  refine xl_v v_len ?_
  refine xl_v (v_congr (u := .int .u64 ((1 : Nat) : Int)) v_convert rfl) ?_
  refine xl_v v_move ?_
  refine xl_v (v_congr (u := .int .u64 (n : Int)) v_convert (congrArg (Value.int .u64) (by rw [IntKind.wrap_u64]; omega))) ?_
  refine xl_call (mul_ok n w (by omega)) ?_
  rintro _ w1 ⟨rfl, lk5⟩
  refine xl_v v_move ?_
  refine xl_v v_extract ?_
  refine xl_v v_extract ?_
  refine xl_v v_assign ?_
  refine xl_v v_assign ?_
  refine xl_nil ?_
  refine x_seq ?_
  refine x_seq ?_
  refine x_regionL ?_
  refine xl_v v_move ?_
  refine xl_v (v_congr (u := .bool false) v_gtr rfl) ?_
  refine xl_v v_move ?_
  refine xl_gv rfl EvO.eq v_move ?_
  refine xl_gv rfl EvO.eq (v_congr (u := .bool false) v_gtr (congrArg Value.bool (decide_eq_false (by omega)))) ?_
  refine xl_Pk ?_
  refine xl_nil ?_
  refine x_condF ?_
  refine x_skip ?_
  refine x_seq ?_
  refine x_regionL ?_
  refine xl_v v_move ?_
  refine xl_v (v_congr (u := .int .i64 (n : Int)) v_convert (congrArg (Value.int .i64) (wrap_in (by omega) (by omega)))) ?_
  refine xl_e (e_makeSliceM (enc := ndC) n n zeroN (by decide) rfl rfl rfl (Nat.le_refl _) (by omega) (by omega) fun g w2 ng lg kg => ?_)
  refine xl_v v_assign ?_
  refine xl_nil ?_
  refine x_seq ?_
  refine x_regionL ?_
  refine xl_v v_move ?_
  refine xl_v v_move ?_
  have ho0 : World.ownsRow w2 w.heap.size 69 20 (.slice (some ⟨g, 0, none⟩) n n) n ((List.replicate n zeroN).flatMap ndC) := ownsRow_blk (by rw [ng.eq]; exact Ge.le) kg.eq (by rw [flat_len (sz := 20) (fun _ => rfl), List.length_replicate]) (by omega)
  refine xl_e (e_copy (i := 0) ho0 (by simp [Addr.add]) (by rw [min_id, Nat.min_eq_left hn.1]; rfl) (Cell1L.eq (vs := [newN].flatMap ndC)) rfl hA (by rw [min_id]; omega) fun w3 l2 ho2 => ?_)
  have hset : setL ((List.replicate n zeroN).flatMap ndC) (0 * 20) ([newN].flatMap ndC) = (fillN 1 n).flatMap ndC := by
   rw [flat_setMany (enc := ndC) (sz := 20) (fun _ => rfl) _ _ 0 (Nat.zero_le _)]
   have h0 : List.replicate n zeroN = fillN 0 n := by unfold fillN; simp
   rw [h0]
   exact congrArg (fun l : List LNd => l.flatMap ndC) (fill_more (m := 0) (d := 1) (n := n) (by omega))
  rw [hset] at ho2
  haveI sg : ∀ (S : Nat → Prop), SubF (OwnB (.slice (some ⟨g, 0, none⟩) n n)) S w := fun S => ⟨fun j hj e => by have := (own_blk ho0 (ownB_blk.1 e)).1; omega⟩
  refine xl_v v_assign ?_
  refine xl_nil ?_
  refine x_seq ?_
  refine x_block ?_
  refine x_loop (fun m' τ ds w' => ds = [] ∧ ∃ m : Nat, m' = n - m ∧ 1 ≤ m ∧ m ≤ n ∧ w'.ownsRow w.heap.size 69 20 (.slice (some ⟨g, 0, none⟩) n n) n ((fillN m n).flatMap ndC) ∧ Ev τ 7 (.slice (some ⟨g, 0, none⟩) n n) ∧ Ev τ 8 (.int .i64 (m : Int)) ∧ Lk w' w NoB) (n - 1) ?start ?round
  case start =>
   exact ⟨rfl, 1, rfl, Nat.le_refl _, hn.1, own_ext ho2 lkc, inferInstance, evc (congrArg (Value.int .i64) (by rw [min_id, Nat.min_eq_left hn.1])), lkc⟩
  case round =>
   intro m τ4 ds4 w4 hI
   obtain ⟨rfl, m, rfl, hm1, hmn, ho, e7, e8, lk⟩ := hI
   haveI oG : OwnI w4 (some ⟨g, 0, none⟩) _ _ _ _ _ _ _ := ⟨ho⟩
   refine x_seq ?_
   refine x_seq ?_
   refine x_regionL ?_
   refine xl_v v_move ?_
   refine xl_v v_move ?_
   refine xl_v v_len ?_
   refine xl_v v_lss ?_
   refine xl_nil ?_
   first | refine x_condP (fun c3 => ?_) (fun c3 => ?_) | refine x_condN (fun c3 => ?_) (fun c3 => ?_) | refine x_condE (fun c3 => ?_) (fun c3 => ?_)
   ·
    refine x_skip ?_
    refine x_block ?_
    refine x_drawL (NoB) (allS) (.takeA 0 (.take 1 (.take 2 (.take 3 (.take 4 (.take 5 (.take 6 (.free 7 (.take 8 (.take 9 .done)))))))))) mixed (by kernel_rfl) (fun _ _ _ _ _ h => h) (fun w5 l5 => ?_)
    refine xt_av rfl v_move ?_
    refine xt_v rfl v_move ?_
    refine xt_v rfl v_move ?_
    refine xt_v rfl (v_congr (u := .slice ((some (⟨g, 0, none⟩ : Addr)).map (·.add (m * 20))) (n - m) (n - m)) (v_sliceL m rfl (by omega)) (by rw [if_neg (by omega)])) ?_
    refine xt_v rfl v_move ?_
    refine xt_v rfl v_move ?_
    refine xt_v rfl (v_sliceH m rfl (by omega)) ?_
    haveI hrs : Row w5 (some ⟨g, 0, none⟩) ((List.replicate (min m (n - m)) newN).flatMap ndC) := ⟨by
     have h1 := row_take (Row.row (w := w5) (A := some ⟨g, 0, none⟩) (cs := (fillN m n).flatMap ndC)) (min m (n - m) * 20)
     rw [← flat_take (enc := ndC) (sz := 20) (fun _ => rfl), fill_take (by omega)] at h1
     exact h1⟩
    refine xt_fe rfl (e_copy (i := m) (A := some ⟨g, 0, none⟩) (cs := (List.replicate (min m (n - m)) newN).flatMap ndC) (xs := (fillN m n).flatMap ndC) (own_ext ho lkc) rfl (by rw [flat_len (enc := ndC) (sz := 20) (fun _ => rfl), List.length_replicate, min_id]) Cell1L.eq rfl rfl (by rw [min_id]; omega) fun w6 l7 ho7 => ?_)
    have hset : setL ((fillN m n).flatMap ndC) (m * 20) ((List.replicate (min m (n - m)) newN).flatMap ndC) = (fillN (m + min m (n - m)) n).flatMap ndC := by
     rw [flat_setMany (enc := ndC) (sz := 20) (fun _ => rfl) _ _ m (by rw [fill_len hmn]; exact hmn), List.length_replicate]
     exact congrArg (fun l : List LNd => l.flatMap ndC) (fill_more (by omega))
    rw [hset] at ho7
    refine xt_v rfl (v_congr (u := .int .i64 ((m + min m (n - m) : Nat) : Int)) (v_add (by rw [min_id]; omega)) (congrArg (Value.int .i64) (by rw [min_id]; omega))) ?_
    refine xt_v rfl v_assign ?_
    refine xt_nil ?_
    refine ⟨_, ?_, rfl, m + min m (n - m), rfl, by omega, by omega, own_ext ho7 lkc, inferInstance, evc, lkc⟩
    omega
   ·
    refine x_exit ?_
    refine x_seq ?_
    refine x_regionL ?_
    refine xl_v v_move ?_
    refine xl_v v_assign ?_
    refine xl_nil ?_
    refine x_ret ?_
    refine fin1 rfl ?_
    have hmn2 : m = n := by omega
    subst hmn2
    rw [fill_all] at ho
    exact ⟨⟨_, rfl, own_ext ho lkc⟩, lkc⟩
theorem newC : [newN].flatMap ndC = [.int .i64 0, .int .i64 (-1), .slice none 0 0, .int .i64 1, .int .i64 0, .bool false, .bool false, .bool false, .bool false, .bool false, .int .i64 0, .int .i64 0, .int .i64 0, .int .i64 0, .int .i64 0, .int .i64 0, .int .i64 0, .int .i64 0, .int .i64 0, .int .i64 0] := rfl

theorem new_ok (n : Int) (w : World) : Ret Tryz.prog 14 #[.int .i64 n] w (fun v w' => ((n = 1 ∨ n = 3 ∨ n = 5) ∧ (∃ (q : Nat) (D : LQu), v = .tuple #[.pointer (some ⟨q, 0, none⟩), .int .i64 0] ∧ QuAt w' (fun _ => False) q D ∧ D.pure = Qu.new n.toNat ∧ ∀ k, QuB q D k → w.heap.size ≤ k) ∨ ¬ (n = 1 ∨ n = 3 ∨ n = 5) ∧ v = .tuple #[.pointer none, .int .i64 2]) ∧ Lk w' w NoB) := by
 refine ret_of_x (N := 21) (l := [.int .i64 n]) Tryz.func14 rfl rfl (Nat.le_of_ble_eq_true rfl) ?_
 refine x_seq ?_
 refine x_regionL ?_
 refine xl_v v_assign ?_
 refine xl_v v_assign ?_
 refine xl_nil ?_
 refine x_seq ?_
 refine x_seq ?_
 refine x_regionL ?_
 refine xl_v v_move ?_
 refine xl_v v_neq ?_
 refine xl_v v_move ?_
 refine xl_split 6 (fun g6 => ?_) (fun g6 => ?_)
 ·
  refine xl_gv rfl EvO.eq v_move ?_
  refine xl_gv rfl EvO.eq v_neq ?_
  refine xl_Pk ?_
  refine xl_v v_move ?_
  refine xl_split 10 (fun g10 => ?_) (fun g10 => ?_)
  ·
   refine xl_gv rfl EvO.eq v_move ?_
   refine xl_gv rfl EvO.eq v_neq ?_
   refine xl_Pk ?_
   refine xl_nil ?_
   refine x_condE (fun c1 => ?_) (fun c1 => ?_)
   ·
    refine x_seq ?_
    refine x_regionL ?_
    refine xl_v v_assign ?_
    refine xl_v v_assign ?_
    refine xl_nil ?_
    refine x_ret ?_
    refine fin2 rfl ?_
    refine ⟨.inr ⟨?_, rfl⟩, lkc⟩
    first
     | (simp at g6 g10 c1; omega)
     | (simp at g6 c1; omega)
   ·
    refine x_skip ?_
    refine x_seq ?_
    have hn : n = 1 ∨ n = 3 ∨ n = 5 := by
     first
      | (simp at g6 g10 c1; omega)
      | (simp at g6 g10; omega)
      | (simp at g6; omega)
    obtain ⟨m, rfl⟩ : ∃ m : Nat, n = (m : Int) := ⟨n.toNat, by omega⟩
    refine x_regionL ?_
    refine xl_v v_build ?_
    refine xl_v v_build ?_
    refine xl_e (e_buildSlice1 rfl fun b2 w1 n2 l2 k2 => ?_)
    refine xl_v v_move ?_
    haveI hr2 : Row w1 (some ⟨b2, 0, none⟩) ([newN].flatMap ndC) := ⟨by rw [newC]; exact row_blk k2.eq⟩
    refine xl_call (repeat_ok (some ⟨b2, 0, none⟩) m w1 rfl (by omega)) ?_
    rintro _ w2 ⟨⟨A4, rfl, ho4⟩, lk4⟩
    haveI o4 : OwnI w2 A4 _ _ _ _ _ _ _ := ⟨ho4⟩
    refine xl_v v_build ?_
    refine xl_e (e_box fun b6 w3 n6 l6 k6 => ?_)
    refine xl_v v_assign ?_
    refine xl_v v_assign ?_
    refine xl_nil ?_
    refine x_ret ?_
    refine fin2 rfl ?_
    refine ⟨.inl ⟨hn, b6, ⟨List.replicate m newN, A4, m, [], none, 0⟩, rfl, ⟨?_, ?_, World.ownsRow_nil _ _ _ _, fun y hy => ?_, fun y hy => ?_, fun y hy => absurd hy List.not_mem_nil, fun y hy => absurd hy List.not_mem_nil, fun k e => False.elim e, fun k e => False.elim e, ?_, inferInstance, ⟨fun a ha => by cases ha⟩, inferInstance⟩, ?_, ?_⟩, lkc⟩
    ·have := k6.eq
     simpa [quC] using this
    ·have := own_mono (OwnI.own (w := w3) (A := A4)) (Nat.zero_le _)
     simpa using this
    ·rw [List.eq_of_mem_replicate hy]; exact FRow.nil _ _
    ·rw [List.eq_of_mem_replicate hy]; exact Nat.le_refl _
    ·exact row_some (w := w3) (A := A4) (cs := (List.replicate m newN).flatMap ndC) inferInstance (by rw [flat_len (sz := 20) (fun _ => rfl)]; simp; omega)
    ·simp [LQu.pure, Qu.new, newN]
    ·rintro k (e | e | e)
     ·rw [e, n6.eq]; exact Ge.le
     ·exact Nat.le_trans Ge.le (own_blk ho4 e).1
     ·cases e
  ·
   refine xl_gs rfl EvO.eq ?_
   refine xl_gs rfl EvO.eq ?_
   refine xl_Pk ?_
   refine xl_nil ?_
   refine x_condF ?_
   refine x_skip ?_
   refine x_seq ?_
   have hn : n = 1 ∨ n = 3 ∨ n = 5 := by
    first
     | (simp at g6 g10 c1; omega)
     | (simp at g6 g10; omega)
     | (simp at g6; omega)
   obtain ⟨m, rfl⟩ : ∃ m : Nat, n = (m : Int) := ⟨n.toNat, by omega⟩
   refine x_regionL ?_
   refine xl_v v_build ?_
   refine xl_v v_build ?_
   refine xl_e (e_buildSlice1 rfl fun b2 w4 n2 l2 k2 => ?_)
   refine xl_v v_move ?_
   haveI hr2 : Row w4 (some ⟨b2, 0, none⟩) ([newN].flatMap ndC) := ⟨by rw [newC]; exact row_blk k2.eq⟩
   refine xl_call (repeat_ok (some ⟨b2, 0, none⟩) m w4 rfl (by omega)) ?_
   rintro _ w5 ⟨⟨A4, rfl, ho4⟩, lk4⟩
   haveI o4 : OwnI w5 A4 _ _ _ _ _ _ _ := ⟨ho4⟩
   refine xl_v v_build ?_
   refine xl_e (e_box fun b6 w6 n6 l6 k6 => ?_)
   refine xl_v v_assign ?_
   refine xl_v v_assign ?_
   refine xl_nil ?_
   refine x_ret ?_
   refine fin2 rfl ?_
   refine ⟨.inl ⟨hn, b6, ⟨List.replicate m newN, A4, m, [], none, 0⟩, rfl, ⟨?_, ?_, World.ownsRow_nil _ _ _ _, fun y hy => ?_, fun y hy => ?_, fun y hy => absurd hy List.not_mem_nil, fun y hy => absurd hy List.not_mem_nil, fun k e => False.elim e, fun k e => False.elim e, ?_, inferInstance, ⟨fun a ha => by cases ha⟩, inferInstance⟩, ?_, ?_⟩, lkc⟩
   ·have := k6.eq
    simpa [quC] using this
   ·have := own_mono (OwnI.own (w := w6) (A := A4)) (Nat.zero_le _)
    simpa using this
   ·rw [List.eq_of_mem_replicate hy]; exact FRow.nil _ _
   ·rw [List.eq_of_mem_replicate hy]; exact Nat.le_refl _
   ·exact row_some (w := w6) (A := A4) (cs := (List.replicate m newN).flatMap ndC) inferInstance (by rw [flat_len (sz := 20) (fun _ => rfl)]; simp; omega)
   ·simp [LQu.pure, Qu.new, newN]
   ·rintro k (e | e | e)
    ·rw [e, n6.eq]; exact Ge.le
    ·exact Nat.le_trans Ge.le (own_blk ho4 e).1
    ·cases e
 ·
  refine xl_gs rfl EvO.eq ?_
  refine xl_gs rfl EvO.eq ?_
  refine xl_Pk ?_
  refine xl_v v_move ?_
  refine xl_gs rfl EvO.eq ?_
  refine xl_gs rfl EvO.eq ?_
  refine xl_Pk ?_
  refine xl_nil ?_
  refine x_condF ?_
  refine x_skip ?_
  refine x_seq ?_
  have hn : n = 1 ∨ n = 3 ∨ n = 5 := by
   first
    | (simp at g6 g10 c1; omega)
    | (simp at g6 g10; omega)
    | (simp at g6; omega)
  obtain ⟨m, rfl⟩ : ∃ m : Nat, n = (m : Int) := ⟨n.toNat, by omega⟩
  refine x_regionL ?_
  refine xl_v v_build ?_
  refine xl_v v_build ?_
  refine xl_e (e_buildSlice1 rfl fun b2 w7 n2 l2 k2 => ?_)
  refine xl_v v_move ?_
  haveI hr2 : Row w7 (some ⟨b2, 0, none⟩) ([newN].flatMap ndC) := ⟨by rw [newC]; exact row_blk k2.eq⟩
  refine xl_call (repeat_ok (some ⟨b2, 0, none⟩) m w7 rfl (by omega)) ?_
  rintro _ w8 ⟨⟨A4, rfl, ho4⟩, lk4⟩
  haveI o4 : OwnI w8 A4 _ _ _ _ _ _ _ := ⟨ho4⟩
  refine xl_v v_build ?_
  refine xl_e (e_box fun b6 w9 n6 l6 k6 => ?_)
  refine xl_v v_assign ?_
  refine xl_v v_assign ?_
  refine xl_nil ?_
  refine x_ret ?_
  refine fin2 rfl ?_
  refine ⟨.inl ⟨hn, b6, ⟨List.replicate m newN, A4, m, [], none, 0⟩, rfl, ⟨?_, ?_, World.ownsRow_nil _ _ _ _, fun y hy => ?_, fun y hy => ?_, fun y hy => absurd hy List.not_mem_nil, fun y hy => absurd hy List.not_mem_nil, fun k e => False.elim e, fun k e => False.elim e, ?_, inferInstance, ⟨fun a ha => by cases ha⟩, inferInstance⟩, ?_, ?_⟩, lkc⟩
  ·have := k6.eq
   simpa [quC] using this
  ·have := own_mono (OwnI.own (w := w9) (A := A4)) (Nat.zero_le _)
   simpa using this
  ·rw [List.eq_of_mem_replicate hy]; exact FRow.nil _ _
  ·rw [List.eq_of_mem_replicate hy]; exact Nat.le_refl _
  ·exact row_some (w := w9) (A := A4) (cs := (List.replicate m newN).flatMap ndC) inferInstance (by rw [flat_len (sz := 20) (fun _ => rfl)]; simp; omega)
  ·simp [LQu.pure, Qu.new, newN]
  ·rintro k (e | e | e)
   ·rw [e, n6.eq]; exact Ge.le
   ·exact Nat.le_trans Ge.le (own_blk ho4 e).1
   ·cases e

theorem same00_ok (w : World) : Ret Tryz.prog 8 #[.pointer none, .pointer none] w (fun v w' => v = .bool true ∧ Lk w' w NoB) := by
 refine ret_of_x (N := 42) (l := [.pointer none, .pointer none]) Tryz.func8 rfl rfl (Nat.le_of_ble_eq_true rfl) ?_
 refine x_seq ?_
 refine x_regionL ?_
 refine xl_v v_assign ?_
 refine xl_nil ?_
 refine x_seq ?_
 refine x_seq ?_
 refine x_regionL ?_
 refine xl_v v_move ?_
 refine xl_call (nodesN_ok w) ?_
 rintro _ w1 ⟨rfl, lk1⟩
 refine xl_v (v_eqlT rfl) ?_
 refine xl_v v_move ?_
 refine xl_gs rfl EvO.eq ?_
 refine xl_gs rfl EvO.eq ?_
 refine xl_gs rfl EvO.eq ?_
 refine xl_Pk ?_
 refine xl_nil ?_
 refine x_condT ?_
 refine x_seq ?_
 refine x_regionL ?_
 refine xl_v v_move ?_
 refine xl_call (nodesN_ok w1) ?_
 rintro _ w2 ⟨rfl, lk2⟩
 refine xl_v v_move ?_
 refine xl_call (nodesN_ok w2) ?_
 rintro _ w3 ⟨rfl, lk3⟩
 refine xl_v v_eql ?_
 refine xl_v v_assign ?_
 refine xl_nil ?_
 refine x_ret ?_
 refine fin1 rfl ?_
 exact ⟨rfl, lkc⟩

theorem same10_ok (q : Nat) (D : LQu) (w : World) [Blk w q (.cells (quC D).toArray 71 (0, 0))] (hpos : 0 < D.ns.length) : Ret Tryz.prog 8 #[.pointer (some ⟨q, 0, none⟩), .pointer none] w (fun v w' => v = .bool false ∧ Lk w' w NoB) := by
 refine ret_of_x (N := 42) (l := [.pointer (some ⟨q, 0, none⟩), .pointer none]) Tryz.func8 rfl rfl (Nat.le_of_ble_eq_true rfl) ?_
 refine x_seq ?_
 refine x_regionL ?_
 refine xl_v v_assign ?_
 refine xl_nil ?_
 refine x_seq ?_
 refine x_seq ?_
 refine x_regionL ?_
 refine xl_v v_move ?_
 refine xl_call (nodes_ok q D w) ?_
 rintro _ w1 ⟨rfl, lk1⟩
 refine xl_v (v_eqlF (by omega)) ?_
 refine xl_v v_move ?_
 refine xl_gv rfl EvO.eq v_move ?_
 refine xl_gcall rfl EvO.eq (nodesN_ok w1) ?_
 rintro _ w2 ⟨rfl, lk5⟩
 refine xl_gv rfl EvO.eq (v_eqlT rfl) ?_
 refine xl_Pk ?_
 refine xl_nil ?_
 refine x_condT ?_
 refine x_seq ?_
 refine x_regionL ?_
 refine xl_v v_move ?_
 refine xl_call (nodes_ok q D w2) ?_
 rintro _ w3 ⟨rfl, lk2⟩
 refine xl_v v_move ?_
 refine xl_call (nodesN_ok w3) ?_
 rintro _ w4 ⟨rfl, lk3⟩
 refine xl_v v_eql ?_
 refine xl_v v_assign ?_
 refine xl_nil ?_
 refine x_ret ?_
 refine fin1 rfl ?_
 exact ⟨congrArg Value.bool (decide_eq_false (by omega)), lkc⟩

theorem same01_ok (q : Nat) (D : LQu) (w : World) [Blk w q (.cells (quC D).toArray 71 (0, 0))] (hpos : 0 < D.ns.length) : Ret Tryz.prog 8 #[.pointer none, .pointer (some ⟨q, 0, none⟩)] w (fun v w' => v = .bool false ∧ Lk w' w NoB) := by
 refine ret_of_x (N := 42) (l := [.pointer none, .pointer (some ⟨q, 0, none⟩)]) Tryz.func8 rfl rfl (Nat.le_of_ble_eq_true rfl) ?_
 refine x_seq ?_
 refine x_regionL ?_
 refine xl_v v_assign ?_
 refine xl_nil ?_
 refine x_seq ?_
 refine x_seq ?_
 refine x_regionL ?_
 refine xl_v v_move ?_
 refine xl_call (nodesN_ok w) ?_
 rintro _ w1 ⟨rfl, lk1⟩
 refine xl_v (v_eqlT rfl) ?_
 refine xl_v v_move ?_
 refine xl_gs rfl EvO.eq ?_
 refine xl_gs rfl EvO.eq ?_
 refine xl_gs rfl EvO.eq ?_
 refine xl_Pk ?_
 refine xl_nil ?_
 refine x_condT ?_
 refine x_seq ?_
 refine x_regionL ?_
 refine xl_v v_move ?_
 refine xl_call (nodesN_ok w1) ?_
 rintro _ w2 ⟨rfl, lk2⟩
 refine xl_v v_move ?_
 refine xl_call (nodes_ok q D w2) ?_
 rintro _ w3 ⟨rfl, lk3⟩
 refine xl_v v_eql ?_
 refine xl_v v_assign ?_
 refine xl_nil ?_
 refine x_ret ?_
 refine fin1 rfl ?_
 exact ⟨congrArg Value.bool (decide_eq_false (by omega)), lkc⟩
end Go.Proofs.YtljdkelgapndgaaGreat
set_option linter.all false
set_option maxRecDepth 100000
set_option synthInstance.maxSize 100000
set_option synthInstance.maxHeartbeats 400000
namespace Go.Proofs.YtljdkelgapndgaaGreat
open Go.Wst
open Go.Wst.Qm
structure LDq where
 ns : List LAn
 NA : Option Addr
 nc : Nat
 bs : List LBl
 BA : Option Addr
 bc : Nat
def LDq.pure (R : LDq) : Dq := ⟨R.ns.map (·.x), R.bs.map (·.m)⟩
abbrev dqC (R : LDq) : List Value := [.slice R.NA R.ns.length R.nc, .slice R.BA R.bs.length R.bc]
def InP (P : Nat → Prop) (W : World) : Nat → Prop := fun k => P k ∧ k < W.heap.size
structure RowsAn (W : World) (P : Nat → Prop) (z : LAn) : Prop where
 log : FRow W (InP P W) z.LA (cmdsC z.x.log)
 votes : FRow W (InP P W) z.VA (ints z.x.votes)
 next : FRow W (InP P W) z.XA (ints z.x.next)
 mat : FRow W (InP P W) z.MA (ints z.x.mat)
 lc : z.x.log.length ≤ z.lc
structure RefAt (W : World) (P : Nat → Prop) (R : LDq) : Prop where
 nodes : FRow W (InP P W) R.NA (R.ns.flatMap anC)
 bag : FRow W (InP P W) R.BA (R.bs.flatMap blC)
 rows : ∀ z ∈ R.ns, RowsAn W P z
 cmds : ∀ b ∈ R.bs, FRow W (InP P W) b.A (cmdsC b.m.cmds)
section
variable {W W' : World} {P P' S : Nat → Prop} {R : LDq} {z : LAn}
theorem frow_keep {A : Option Addr} {cs : List Value} (h : FRow W (InP P W) A cs) (hk : Keep S W W') (hs : ∀ k, P k → k < W.heap.size → ¬ S k) : FRow W' (InP P W') A cs := (h.keep hk (fun k e => hs k e.1 e.2)).mono (fun k e => ⟨e.1, Nat.lt_of_lt_of_le e.2 hk.size⟩)
theorem frow_ext {A : Option Addr} {cs : List Value} (h : FRow W (InP P W) A cs) (hk : Keep NoB W W') : FRow W' (InP P W') A cs := frow_keep h hk (fun _ _ _ h => h)
theorem frow_new {w : World} {base n m c sz : Nat} {e : TypeId} {A : Option Addr} {xs : List Value} (h : W.ownsRow base e sz (.slice A m c) n xs) (hb : w.heap.size ≤ base) (hP : ∀ k, w.heap.size ≤ k → P k) : FRow W (InP P W) A xs :=
 (FRow.of_own h).mono (fun k e => ⟨hP k (Nat.le_trans hb (own_blk h (ownB_blk.1 e)).1), (own_blk h (ownB_blk.1 e)).2⟩)
theorem RowsAn.keep (h : RowsAn W P z) (hk : Keep S W W') (hs : ∀ k, P k → k < W.heap.size → ¬ S k) : RowsAn W' P z := ⟨frow_keep h.log hk hs, frow_keep h.votes hk hs, frow_keep h.next hk hs, frow_keep h.mat hk hs, h.lc⟩
theorem RowsAn.ext (h : RowsAn W P z) (hk : Keep NoB W W') : RowsAn W' P z := h.keep hk (fun _ _ _ h => h)
theorem RefAt.keep (h : RefAt W P R) (hk : Keep S W W') (hs : ∀ k, P k → k < W.heap.size → ¬ S k) : RefAt W' P R := ⟨frow_keep h.nodes hk hs, frow_keep h.bag hk hs, fun z hz => (h.rows z hz).keep hk hs, fun b hb => frow_keep (h.cmds b hb) hk hs⟩
theorem RefAt.ext (h : RefAt W P R) (hk : Keep NoB W W') : RefAt W' P R := h.keep hk (fun _ _ _ h => h)
theorem RowsAn.wide (h : RowsAn W P z) (hp : ∀ k, k < W.heap.size → P k → P' k) : RowsAn W P' z :=
 ⟨h.log.mono (fun k e => ⟨hp k e.2 e.1, e.2⟩), h.votes.mono (fun k e => ⟨hp k e.2 e.1, e.2⟩), h.next.mono (fun k e => ⟨hp k e.2 e.1, e.2⟩), h.mat.mono (fun k e => ⟨hp k e.2 e.1, e.2⟩), h.lc⟩
theorem RefAt.wide (h : RefAt W P R) (hp : ∀ k, k < W.heap.size → P k → P' k) : RefAt W P' R :=
 ⟨h.nodes.mono (fun k e => ⟨hp k e.2 e.1, e.2⟩), h.bag.mono (fun k e => ⟨hp k e.2 e.1, e.2⟩), fun z hz => (h.rows z hz).wide hp, fun b hb => (h.cmds b hb).mono (fun k e => ⟨hp k e.2 e.1, e.2⟩)⟩
end
def Mid (P : Nat → Prop) (a b : Nat) : Nat → Prop := fun k => P k ∧ (k < a ∨ b ≤ k)
theorem midP {P : Nat → Prop} {a b n : Nat} (hP : ∀ k, a ≤ k → P k) (h1 : a ≤ b) (h2 : b ≤ n) : ∀ k, n ≤ k → Mid P a b k := fun k e => ⟨hP k (by omega), .inr (by omega)⟩
section
variable {W W' : World} {P : Nat → Prop} {R : LDq} {z : LAn} {a b c : Nat}
theorem RefAt.mid (h : RefAt W P R) (b : Nat) : RefAt W (Mid P W.heap.size b) R := h.wide (fun _ hl e => ⟨e, .inl hl⟩)
theorem RowsAn.mid (h : RowsAn W P z) (b : Nat) : RowsAn W (Mid P W.heap.size b) z := h.wide (fun _ hl e => ⟨e, .inl hl⟩)
theorem frow_mid {A : Option Addr} {cs : List Value} (h : FRow W (InP P W) A cs) (b : Nat) : FRow W (InP (Mid P W.heap.size b) W) A cs := h.mono (fun _ e => ⟨⟨e.1, .inl e.2⟩, e.2⟩)
theorem RefAt.box (h : RefAt W (Mid P a b) R) (hk : Keep (OneB c) W W') (hc : a ≤ c ∧ c < b) : RefAt W' P R :=
 (h.keep hk (fun k e _ e2 => by have e3 : k = c := e2; have := e.2; omega)).wide (fun _ _ e => e.1)
end
theorem pureD_len (R : LDq) : R.pure.nodes.length = R.ns.length := by simp [LDq.pure]
theorem pureD_node {R : LDq} {i : Nat} {z : LAn} (hz : R.ns[i]? = some z) : R.pure.node (i : Int) = z.x := by
 simp [Dq.node, LDq.pure, List.getD_eq_getElem?_getD, hz]
theorem len_mapset {l : List LAn} {i : Nat} {z : LAn} : (l.set i z).length = l.length := List.length_set
theorem pureD_setN {R : LDq} {i : Nat} {z : LAn} {A : Option Addr} {c : Nat} : LDq.pure { R with ns := R.ns.set i z, NA := A, nc := c } = R.pure.setN i z.x := by simp [LDq.pure, Dq.setN, List.map_set]
def RMade (P : Nat → Prop) (W : World) (M : Dq) (R : LDq) : Prop := R.pure = M ∧ RefAt W P R

theorem withD_ok (P : Nat → Prop) (R : LDq) (i : Nat) (z : LAn) (w : World) (hP : ∀ k, w.heap.size ≤ k → P k) (h : RefAt w P R) (hz : RowsAn w P z) (hi : i < R.ns.length) (hn : R.ns.length ≤ 5) : Ret Tryz.prog 34 #[.agg (dqC R).toArray, .int .i64 (i : Int), .agg (anC z).toArray] w (fun v w' => (∃ R', v = .agg (dqC R').toArray ∧ RMade P w' (R.pure.setN i z.x) R' ∧ R'.ns = R.ns.set i z) ∧ Lk w' w NoB) := by
 haveI hrb : RowB w R.NA w (R.ns.flatMap anC) := rowB_of h.nodes.row
 refine ret_of_x (N := 19) (l := [.agg (dqC R).toArray, .int .i64 (i : Int), .agg (anC z).toArray]) Tryz.func34 rfl rfl (Nat.le_of_ble_eq_true rfl) ?_
 refine x_seq ?_
 refine x_regionL ?_
 refine xl_e (e_box fun b1 w1 n1 l1 k1 => ?_)
 refine xl_e (e_box fun b2 w2 n2 l2 k2 => ?_)
 refine xl_e (e_alloc fun b3 w3 n3 l3 k3 => ?_)
 refine xl_nil ?_
 refine x_seq ?_
 refine x_regionL ?_
 refine xl_e (e_buildSlice0 fun b4 w4 n4 l4 k4 => ?_)
 refine xl_Fb ?_
 refine xl_Lc ?_
 refine xl_e (e_appE (by omega) (by decide) (by omega) (by omega) fun Aa ca w5 oa la aa fa => ?_)
 refine xl_v v_assign ?_
 refine xl_nil ?_
 refine x_seq ?_
 refine x_regionL ?_
 refine xl_v v_move ?_
 refine xl_v v_move ?_
 refine xl_Lb ?_
 refine xl_v (v_indexF i (by decide) rfl (by omega) hi) ?_
 refine xl_s (e_storeOwn OwnI.own (by omega) (by decide) fun w6 l6 ho6 => ?_)
 rw [flat_set (enc := anC) (sz := 8) (fun _ => rfl) R.ns i z (by omega)] at ho6
 haveI o6 : OwnI w6 Aa _ _ _ _ _ _ _ := ⟨ho6⟩
 refine xl_nil ?_
 refine x_seq ?_
 refine x_regionL ?_
 refine xl_v v_move ?_
 refine xl_Fb ?_
 refine xl_s (e_store fun w7 l7 k7 => ?_)
 refine xl_nil ?_
 refine x_seq ?_
 refine x_regionL ?_
 refine xl_Lb ?_
 refine xl_s (e_storeA fun w8 l8 k8 => ?_)
 refine xl_nil ?_
 refine x_ret ?_
 refine finR (rs := [.cell 6 32]) rfl ?_
 have o7 := (OwnI.own : World.ownsRow w8 _ _ _ (.slice Aa _ ca) _ _)
 have hk : Keep NoB w w8 := kpc
 refine ⟨⟨{ R with ns := R.ns.set i z, NA := Aa, nc := ca }, by simp [outV, dqC], ⟨pureD_setN, ⟨frow_new o7 Ge.le hP, frow_ext h.bag hk, fun y hy => ?_, fun b hb => frow_ext (h.cmds b hb) hk⟩⟩, rfl⟩, lkc⟩
 rcases mem_set hy with e | e
 ·rw [e]; exact hz.ext hk
 ·exact (h.rows y e).ext hk

theorem sendD_ok (P : Nat → Prop) (R : LDq) (m : LBl) (w : World) (hP : ∀ k, w.heap.size ≤ k → P k) (h : RefAt w P R) (hm : FRow w (InP P w) m.A (cmdsC m.m.cmds)) (hn : R.bs.length ≤ 256) : Ret Tryz.prog 48 #[.agg (dqC R).toArray, .agg (blC m).toArray] w (fun v w' => (∃ R', v = .agg (dqC R').toArray ∧ RMade P w' (R.pure.send m.m) R' ∧ R'.ns = R.ns) ∧ Lk w' w NoB) := by
 haveI hrb : RowB w R.BA w (R.bs.flatMap blC) := rowB_of h.bag.row
 haveI holdB : OldA w R.BA := ⟨fun a ha => (h.bag.blk a ha).2⟩
 refine ret_of_x (N := 19) (l := [.agg (dqC R).toArray, .agg (blC m).toArray]) Tryz.func48 rfl rfl (Nat.le_of_ble_eq_true rfl) ?_
 refine x_seq ?_
 refine x_regionL ?_
 refine xl_e (e_box fun b1 w1 n1 l1 k1 => ?_)
 refine xl_e (e_box fun b2 w2 n2 l2 k2 => ?_)
 refine xl_e (e_alloc fun b3 w3 n3 l3 k3 => ?_)
 refine xl_nil ?_
 refine x_seq ?_
 refine x_seq ?_
 refine x_regionL ?_
 refine xl_Fb ?_
 refine xl_Lc ?_
 refine xl_v v_len ?_
 refine xl_v v_geq ?_
 refine xl_nil ?_
 first | refine x_condP (fun c1 => ?_) (fun c1 => ?_) | refine x_condN (fun c1 => ?_) (fun c1 => ?_) | refine x_condE (fun c1 => ?_) (fun c1 => ?_)
 ·
  refine x_seq ?_
  refine x_regionL ?_
  refine xl_Lb ?_
  refine xl_s (e_storeA fun w4 l4 k4 => ?_)
  refine xl_nil ?_
  refine x_ret ?_
  refine finR (rs := [.cell 4 32]) rfl ?_
  refine ⟨⟨R, by simp [outV, dqC], ⟨?_, h.ext kpc⟩, rfl⟩, lkc⟩
  unfold Dq.send LDq.pure
  rw [if_pos (by simp only [List.length_map]; omega)]
 ·
  refine x_skip ?_
  refine x_seq ?_
  refine x_drawL (NewS w3) (allS) (.take 1 (.take 2 (.take 4 (.fork 0 (.fork 3 (.eff 5 (.eff 6 (.take 7 (.last 8)))) 5 (.eff 3 (.eff 6 (.take 7 (.last 8))))) 5 (.eff 0 (.eff 3 (.eff 6 (.take 7 (.last 8))))))))) mixed (by kernel_rfl) (fun _ _ _ _ _ h => h) (fun w5 l5 => ?_)
  refine xt_Fb rfl ?_
  refine xt_Lc rfl ?_
  refine xt_Lb rfl ?_
  refine xt_fork ?_ ?_
  ·
   refine xt_e rfl (e_buildSlice0 fun b6 w6 n6 l6 k6 => ?_)
   refine xt_fork ?_ ?_
   ·
    refine xt_e rfl (e_appE (by omega) (by decide) (by omega) (by omega) fun Aa ca w7 oa la aa fa => ?_)
    refine xt_e rfl (e_buildSlice1 rfl fun b5 w8 n5 l5 k5 => ?_)
    refine xt_e rfl (e_app (by omega) (by decide) (by omega) (by omega) Ge.le fun Ab cb w9 ob lb ab fb => ?_)
    refine xt_Fb rfl ?_
    refine xt_lastS rfl (e_store fun w10 l8 k8 => ?_)
    refine x_seq ?_
    refine x_regionL ?_
    refine xl_Lb ?_
    refine xl_s (e_storeA fun w11 l11 k11 => ?_)
    refine xl_nil ?_
    refine x_ret ?_
    refine finR (rs := [.cell 4 32]) rfl ?_
    have o7 := (OwnI.own : World.ownsRow w11 _ _ _ (.slice Ab _ cb) _ _)
    have hk : Keep NoB w w11 := kpc
    refine ⟨⟨{ R with bs := R.bs ++ [m], BA := Ab, bc := cb }, by simp [outV, dqC], ⟨?_, ⟨frow_ext h.nodes hk, ?_, fun y hy => (h.rows y hy).ext hk, fun b hb => ?_⟩⟩, rfl⟩, lkc⟩
    ·unfold Dq.send LDq.pure
     rw [if_neg (by simp only [List.length_map]; omega)]
     simp
    ·have := frow_new o7 Ge.le hP
     simpa using this
    ·rcases List.mem_append.1 hb with e | e
     ·exact frow_ext (h.cmds b e) hk
     ·rw [List.mem_singleton.1 e]; exact frow_ext hm hk
   ·
    refine xt_e rfl (e_buildSlice1 rfl fun b5 w12 n5 l5 k5 => ?_)
    refine xt_e rfl (e_appE (by omega) (by decide) (by omega) (by omega) fun Aa ca w13 oa la aa fa => ?_)
    refine xt_e rfl (e_app (by omega) (by decide) (by omega) (by omega) Ge.le fun Ab cb w14 ob lb ab fb => ?_)
    refine xt_Fb rfl ?_
    refine xt_lastS rfl (e_store fun w15 l8 k8 => ?_)
    refine x_seq ?_
    refine x_regionL ?_
    refine xl_Lb ?_
    refine xl_s (e_storeA fun w16 l16 k16 => ?_)
    refine xl_nil ?_
    refine x_ret ?_
    refine finR (rs := [.cell 4 32]) rfl ?_
    have o7 := (OwnI.own : World.ownsRow w16 _ _ _ (.slice Ab _ cb) _ _)
    have hk : Keep NoB w w16 := kpc
    refine ⟨⟨{ R with bs := R.bs ++ [m], BA := Ab, bc := cb }, by simp [outV, dqC], ⟨?_, ⟨frow_ext h.nodes hk, ?_, fun y hy => (h.rows y hy).ext hk, fun b hb => ?_⟩⟩, rfl⟩, lkc⟩
    ·unfold Dq.send LDq.pure
     rw [if_neg (by simp only [List.length_map]; omega)]
     simp
    ·have := frow_new o7 Ge.le hP
     simpa using this
    ·rcases List.mem_append.1 hb with e | e
     ·exact frow_ext (h.cmds b e) hk
     ·rw [List.mem_singleton.1 e]; exact frow_ext hm hk
  ·
   refine xt_e rfl (e_buildSlice1 rfl fun b5 w17 n5 l5 k5 => ?_)
   refine xt_e rfl (e_buildSlice0 fun b18 w18 n18 l18 k18 => ?_)
   refine xt_e rfl (e_appE (by omega) (by decide) (by omega) (by omega) fun Aa ca w19 oa la aa fa => ?_)
   refine xt_e rfl (e_app (by omega) (by decide) (by omega) (by omega) Ge.le fun Ab cb w20 ob lb ab fb => ?_)
   refine xt_Fb rfl ?_
   refine xt_lastS rfl (e_store fun w21 l8 k8 => ?_)
   refine x_seq ?_
   refine x_regionL ?_
   refine xl_Lb ?_
   refine xl_s (e_storeA fun w22 l22 k22 => ?_)
   refine xl_nil ?_
   refine x_ret ?_
   refine finR (rs := [.cell 4 32]) rfl ?_
   have o7 := (OwnI.own : World.ownsRow w22 _ _ _ (.slice Ab _ cb) _ _)
   have hk : Keep NoB w w22 := kpc
   refine ⟨⟨{ R with bs := R.bs ++ [m], BA := Ab, bc := cb }, by simp [outV, dqC], ⟨?_, ⟨frow_ext h.nodes hk, ?_, fun y hy => (h.rows y hy).ext hk, fun b hb => ?_⟩⟩, rfl⟩, lkc⟩
   ·unfold Dq.send LDq.pure
    rw [if_neg (by simp only [List.length_map]; omega)]
    simp
   ·have := frow_new o7 Ge.le hP
    simpa using this
   ·rcases List.mem_append.1 hb with e | e
    ·exact frow_ext (h.cmds b e) hk
    ·rw [List.mem_singleton.1 e]; exact frow_ext hm hk

theorem termD_ok (A : Option Addr) (n c : Nat) (l : List Cmd) (w : World) [Row w A (cmdsC l)] (hl : l.length = n) (hn : n ≤ 1000) : Ret Tryz.prog 49 #[.slice A n c] w (fun v w' => v = .int .i64 (ofT l) ∧ Lk w' w NoB) := by
 refine ret_of_x (N := 13) (l := [.slice A n c]) Tryz.func49 rfl rfl (Nat.le_of_ble_eq_true rfl) ?_
 refine x_seq ?_
 refine x_regionL ?_
 refine xl_v v_assign ?_
 refine xl_nil ?_
 refine x_seq ?_
 refine x_seq ?_
 refine x_regionL ?_
 refine xl_v v_move ?_
 refine xl_v v_len ?_
 refine xl_v v_eql ?_
 refine xl_nil ?_
 first | refine x_condP (fun c1 => ?_) (fun c1 => ?_) | refine x_condN (fun c1 => ?_) (fun c1 => ?_) | refine x_condE (fun c1 => ?_) (fun c1 => ?_)
 ·
  refine x_seq ?_
  refine x_regionL ?_
  refine xl_v v_assign ?_
  refine xl_nil ?_
  refine x_ret ?_
  refine fin1 rfl ?_
  obtain rfl : l = [] := List.eq_nil_of_length_eq_zero (by omega)
  exact ⟨rfl, lkc⟩
 ·
  obtain ⟨k, hk⟩ : ∃ k, k + 1 = l.length := ⟨n - 1, by omega⟩
  refine x_skip ?_
  refine x_seq ?_
  refine x_regionL ?_
  refine xl_v v_move ?_
  refine xl_v v_move ?_
  refine xl_v v_len ?_
  refine xl_v (v_sub (by omega)) ?_
  refine xl_v (v_indexF k (by decide) (by omega) (by omega) (by omega)) ?_
  refine xl_Fb ?_
  refine xl_Lc ?_
  refine xl_v v_assign ?_
  refine xl_nil ?_
  refine x_ret ?_
  refine fin1 rfl ?_
  exact ⟨by rw [ofT_get hk], lkc⟩

theorem mostD_ok (R : LDq) (w : World) (hn : R.ns.length ≤ 5) : Ret Tryz.prog 67 #[.agg (dqC R).toArray] w (fun v w' => v = .int .i64 ((R.ns.length / 2 + 1 : Nat) : Int) ∧ Lk w' w NoB) := by
 refine ret_of_x (N := 8) (l := [.agg (dqC R).toArray]) Tryz.func67 rfl rfl (Nat.le_of_ble_eq_true rfl) ?_
 refine x_seq ?_
 refine x_regionL ?_
 refine xl_e (e_box fun b1 w1 n1 l1 k1 => ?_)
 refine xl_v v_assign ?_
 refine xl_nil ?_
 refine x_seq ?_
 refine x_regionL ?_
 refine xl_Fb ?_
 refine xl_Lc ?_
 refine xl_v v_len ?_
 refine xl_v (v_congr (u := .int .i64 ((R.ns.length / 2 : Nat) : Int)) (v_quo (by omega)) (congrArg (Value.int .i64) (half_eq rfl (by omega)))) ?_
 refine xl_v (v_congr (u := .int .i64 ((R.ns.length / 2 + 1 : Nat) : Int)) (v_add (by omega)) rfl) ?_
 refine xl_v v_assign ?_
 refine xl_nil ?_
 refine x_ret ?_
 refine fin1 rfl ?_
 exact ⟨rfl, lkc⟩

theorem setD_ok (A : Option Addr) (n c : Nat) (l : List Int) (i : Nat) (x : Int) (w : World) [hr : Row w A (ints l)] (hl : l.length = n) (hi : i < n) (hn : n ≤ 1000) : Ret Tryz.prog 50 #[.slice A n c, .int .i64 (i : Int), .int .i64 x] w (fun v w' => (∃ A' c', v = .slice A' n c' ∧ w'.ownsRow w.heap.size 3 1 v n (ints (l.set i x))) ∧ Lk w' w NoB) := by
 haveI hrb : RowB w A w (ints l) := rowB_of hr.row
 refine ret_of_x (N := 16) (l := [.slice A n c, .int .i64 (i : Int), .int .i64 x]) Tryz.func50 rfl rfl (Nat.le_of_ble_eq_true rfl) ?_
 refine x_seq ?_
 refine x_regionL ?_
 refine xl_v v_assign ?_
 refine xl_nil ?_
 refine x_seq ?_
 refine x_regionL ?_
 refine xl_e (e_buildSlice0 fun b1 w1 n1 l1 k1 => ?_)
 refine xl_v v_move ?_
 refine xl_e (e_appE (by omega) (by decide) (by omega) (by omega) fun Aa ca w2 oa la aa fa => ?_)
 refine xl_v v_assign ?_
 refine xl_nil ?_
 refine x_seq ?_
 refine x_regionL ?_
 refine xl_v v_move ?_
 refine xl_v v_move ?_
 refine xl_v v_move ?_
 refine xl_v (v_indexO i rfl (by omega) (by omega)) ?_
 refine xl_s (e_storeOwn OwnI.own (by omega) (by decide) fun w3 l6 ho6 => ?_)
 have hsl : setL (ints l) (i * 1) [.int .i64 x] = ints (l.set i x) := setL_map (Value.int .i64) l i x (by omega)
 rw [hsl] at ho6
 haveI o6 : OwnI w3 Aa _ _ _ _ _ _ _ := ⟨ho6⟩
 refine xl_nil ?_
 refine x_seq ?_
 refine x_regionL ?_
 refine xl_v v_move ?_
 refine xl_v v_assign ?_
 refine xl_nil ?_
 refine x_ret ?_
 refine fin1 rfl ?_
 exact ⟨⟨Aa, ca, rfl, own_mono (OwnI.own (w := w3) (A := Aa)) Ge.le⟩, lkc⟩
def LAn.voter (z : LAn) (t : Int) : LAn := ⟨z.x.voter t, z.LA, z.lc, none, 0, none, 0, none, 0⟩

theorem voterD_ok (z : LAn) (t : Int) (w : World) : Ret Tryz.prog 33 #[.agg (anC z).toArray, .int .i64 t] w (fun v w' => v = .agg (anC (z.voter t)).toArray ∧ Lk w' w NoB) := by
 refine ret_of_x (N := 17) (l := [.agg (anC z).toArray, .int .i64 t]) Tryz.func33 rfl rfl (Nat.le_of_ble_eq_true rfl) ?_
 refine x_seq ?_
 refine x_regionL ?_
 refine xl_e (e_box fun b1 w1 n1 l1 k1 => ?_)
 refine xl_e (e_alloc fun b2 w2 n2 l2 k2 => ?_)
 refine xl_nil ?_
 refine x_seq ?_
 refine x_seq ?_
 refine x_regionL ?_
 refine xl_v v_move ?_
 refine xl_Fb ?_
 refine xl_Lc ?_
 refine xl_v v_gtr ?_
 refine xl_nil ?_
 first | refine x_condP (fun c1 => ?_) (fun c1 => ?_) | refine x_condN (fun c1 => ?_) (fun c1 => ?_) | refine x_condE (fun c1 => ?_) (fun c1 => ?_)
 ·
  refine x_regionL ?_
  refine xl_v v_move ?_
  refine xl_Fb ?_
  refine xl_s (e_store fun w3 l3 k3 => ?_)
  refine xl_Fb ?_
  refine xl_s (e_store fun w4 l4 k4 => ?_)
  refine xl_nil ?_
  refine x_seq ?_
  refine x_regionL ?_
  refine xl_Fb ?_
  refine xl_s (e_store fun w5 l5 k5 => ?_)
  refine xl_Fb ?_
  refine xl_s (e_store fun w6 l6 k6 => ?_)
  refine xl_Fb ?_
  refine xl_s (e_store fun w7 l7 k7 => ?_)
  refine xl_Fb ?_
  refine xl_s (e_store fun w8 l8 k8 => ?_)
  refine xl_nil ?_
  refine x_seq ?_
  refine x_regionL ?_
  refine xl_Lb ?_
  refine xl_s (e_storeA fun w9 l9 k9 => ?_)
  refine xl_nil ?_
  refine x_ret ?_
  refine finR (rs := [.cell 4 41]) rfl ?_
  refine ⟨?_, lkc⟩
  first
   | (have e : anC (z.voter t) = [.int .i64 1, .int .i64 t, .int .i64 (-1), .int .i64 z.x.commit, .slice z.LA z.x.log.length z.lc, .slice none 0 0, .slice none 0 0, .slice none 0 0] := by simp [anC, LAn.voter, An.voter, if_pos c1]
      rw [e]; rfl)
   | (have e : anC (z.voter t) = [.int .i64 1, .int .i64 z.x.term, .int .i64 z.x.vote, .int .i64 z.x.commit, .slice z.LA z.x.log.length z.lc, .slice none 0 0, .slice none 0 0, .slice none 0 0] := by simp [anC, LAn.voter, An.voter, if_neg c1]
      rw [e]; rfl)
 ·
  refine x_skip ?_
  refine x_seq ?_
  refine x_regionL ?_
  refine xl_Fb ?_
  refine xl_s (e_store fun w10 l10 k10 => ?_)
  refine xl_Fb ?_
  refine xl_s (e_store fun w11 l11 k11 => ?_)
  refine xl_Fb ?_
  refine xl_s (e_store fun w12 l12 k12 => ?_)
  refine xl_Fb ?_
  refine xl_s (e_store fun w13 l13 k13 => ?_)
  refine xl_nil ?_
  refine x_seq ?_
  refine x_regionL ?_
  refine xl_Lb ?_
  refine xl_s (e_storeA fun w14 l14 k14 => ?_)
  refine xl_nil ?_
  refine x_ret ?_
  refine finR (rs := [.cell 4 41]) rfl ?_
  refine ⟨?_, lkc⟩
  first
   | (have e : anC (z.voter t) = [.int .i64 1, .int .i64 t, .int .i64 (-1), .int .i64 z.x.commit, .slice z.LA z.x.log.length z.lc, .slice none 0 0, .slice none 0 0, .slice none 0 0] := by simp [anC, LAn.voter, An.voter, if_pos c1]
      rw [e]; rfl)
   | (have e : anC (z.voter t) = [.int .i64 1, .int .i64 z.x.term, .int .i64 z.x.vote, .int .i64 z.x.commit, .slice z.LA z.x.log.length z.lc, .slice none 0 0, .slice none 0 0, .slice none 0 0] := by simp [anC, LAn.voter, An.voter, if_neg c1]
      rw [e]; rfl)
end Go.Proofs.YtljdkelgapndgaaGreat
