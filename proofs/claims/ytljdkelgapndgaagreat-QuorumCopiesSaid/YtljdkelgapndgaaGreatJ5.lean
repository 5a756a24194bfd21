/-
 Walks, printed by a program of this workplace (wip/tools/sx.py) off the functions' code and a text of contracts.
-/
import Derived.Test.YtljdkelgapndgaaGreatJ4
set_option linter.all false
set_option maxRecDepth 100000
set_option synthInstance.maxSize 100000
set_option synthInstance.maxHeartbeats 400000
namespace Go.Proofs.YtljdkelgapndgaaGreat
open Go.Wst
open Go.Wst.Qm
theorem votesC_get {l : List Bool} {k : Nat} (h : k < 5) : [Value.bool (l.getD 0 false), .bool (l.getD 1 false), .bool (l.getD 2 false), .bool (l.getD 3 false), .bool (l.getD 4 false)][k]? = some (.bool (l.getD k false)) := by
 match k, h with
 | 0, _ => rfl
 | 1, _ => rfl
 | 2, _ => rfl
 | 3, _ => rfl
 | 4, _ => rfl
theorem nextC_get {y : LNd} {k : Nat} (h : k < 5) : (ndC y)[10 + k]? = some (.int .i64 (y.x.next.getD k 0)) := by
 match k, h with
 | 0, _ => rfl
 | 1, _ => rfl
 | 2, _ => rfl
 | 3, _ => rfl
 | 4, _ => rfl
theorem matC_get {y : LNd} {k : Nat} (h : k < 5) : (ndC y)[15 + k]? = some (.int .i64 (y.x.mat.getD k 0)) := by
 match k, h with
 | 0, _ => rfl
 | 1, _ => rfl
 | 2, _ => rfl
 | 3, _ => rfl
 | 4, _ => rfl
theorem setL_votes {y : LNd} {k : Nat} (h : k < 5) (hl : y.x.votes.length = 5) (v : Bool) : setL (ndC y) (5 + k) [.bool v] = ndC { y with x := { y.x with votes := y.x.votes.set k v } } := by
 obtain ⟨x, A, c⟩ := y
 obtain ⟨t, vo, lo, ro, co, vs, ne, ma⟩ := x
 obtain ⟨a, b, c', d, e, rfl⟩ := five (l := vs) hl
 match k, h with
 | 0, _ => rfl
 | 1, _ => rfl
 | 2, _ => rfl
 | 3, _ => rfl
 | 4, _ => rfl
theorem setL_next {y : LNd} {k : Nat} (h : k < 5) (hl : y.x.next.length = 5) (v : Int) : setL (ndC y) (10 + k) [.int .i64 v] = ndC { y with x := { y.x with next := y.x.next.set k v } } := by
 obtain ⟨x, A, c⟩ := y
 obtain ⟨t, vo, lo, ro, co, vs, ne, ma⟩ := x
 obtain ⟨a, b, c', d, e, rfl⟩ := five (l := ne) hl
 match k, h with
 | 0, _ => rfl
 | 1, _ => rfl
 | 2, _ => rfl
 | 3, _ => rfl
 | 4, _ => rfl
theorem setL_mat {y : LNd} {k : Nat} (h : k < 5) (hl : y.x.mat.length = 5) (v : Int) : setL (ndC y) (15 + k) [.int .i64 v] = ndC { y with x := { y.x with mat := y.x.mat.set k v } } := by
 obtain ⟨x, A, c⟩ := y
 obtain ⟨t, vo, lo, ro, co, vs, ne, ma⟩ := x
 obtain ⟨a, b, c', d, e, rfl⟩ := five (l := ma) hl
 match k, h with
 | 0, _ => rfl
 | 1, _ => rfl
 | 2, _ => rfl
 | 3, _ => rfl
 | 4, _ => rfl
theorem mat_drop (y : LNd) (hl : y.x.mat.length = 5) : (ndC y).drop 15 = ints y.x.mat := by
 obtain ⟨x, A, c⟩ := y
 obtain ⟨t, vo, lo, ro, co, vs, ne, ma⟩ := x
 obtain ⟨a, b, c', d, e, rfl⟩ := five (l := ma) hl
 rfl
theorem mat_row {w : World} {A : Option Addr} {j n : Nat} {y : LNd} (h : AtC w A j (ndC y)) (hl : y.x.mat.length = 5) : Row w (A.map (·.add (j + 15))) (ints (y.x.mat.take n)) := ⟨by
 rw [rowP_add]
 intro o v hv
 have h1 := rowP_add.1 h.row (15 + o) v (by
  rw [← List.getElem?_drop, mat_drop y hl]
  unfold ints at hv ⊢
  rw [List.map_take, List.getElem?_take] at hv
  split at hv
  ·exact hv
  ·cases hv)
 obtain ⟨a, ha, hc⟩ := h1
 exact ⟨a, ha, by rw [← hc]; congr 2; omega⟩⟩
abbrev shA (A : Option Addr) (j : Nat) : Option Addr := A.map (·.add j)
theorem set_self {α : Type} {l : List α} {i : Nat} {y : α} (h : l[i]? = some y) : l.set i y = l := by
 obtain ⟨h1, rfl⟩ := List.getElem?_eq_some_iff.1 h
 exact List.set_getElem_self h1
theorem blkA_add (A : Option Addr) (j : Nat) : blkA (A.map (·.add j)) = blkA A := by
 cases A with
 | none => rfl
 | some a => simp [blkA, block_add]
def LQu.setN (D : LQu) (i : Nat) (y : LNd) : LQu := { D with ns := D.ns.set i y }
def LNd.commits (y : LNd) (cnt : Nat) : LNd := { y with x := y.x.commits cnt }
def LNd.leads (y : LNd) (cnt n : Nat) : LNd := { y with x := y.x.leads cnt n }
theorem QuAt.setI {W W' : World} {F : Nat → Prop} {q : Nat} {D : LQu} (h : QuAt W F q D) {i : Nat} {y y0 : LNd} (hk : Keep (OwnB (.slice D.NA D.ns.length D.nc)) W W') (hrow : OwnI W' D.NA D.ns.length D.nc 0 69 20 D.ns.length ((D.ns.set i y).flatMap ndC)) (h0 : y0 ∈ D.ns) (hA : y.A = y0.A) (hl : y.x.log = y0.x.log) (hc : y.c = y0.c) : QuAt W' F q (D.setN i y) :=
 h.setN hk (fun k _ e => ownB_blk.1 e) hrow.own (by rw [hA, hl]; exact (h.logs y0 h0).keep hk (fun k e e2 => h.fq k e (.inr (.inl (ownB_blk.1 e2))))) (by rw [hl, hc]; exact h.lc y0 h0)
theorem commits_yes {x : Nd} {cnt : Nat} {k : Int} (hk : majority (x.mat.take cnt) = k) (h1 : x.commit < k) (h2 : (x.log.map (·.term))[(k - 1).toNat]? = some x.term) : x.commits cnt = { x with commit := k } := by
 subst hk
 unfold Nd.commits
 simp only [if_pos (And.intro h1 h2 : x.commit < majority (x.mat.take cnt) ∧ (x.log.map (·.term))[(majority (x.mat.take cnt) - 1).toNat]? = some x.term)]
theorem commits_no {x : Nd} {cnt : Nat} {k : Int} (hk : majority (x.mat.take cnt) = k) (h : ¬ (x.commit < k ∧ (x.log.map (·.term))[(k - 1).toNat]? = some x.term)) : x.commits cnt = x := by
 subst hk
 unfold Nd.commits
 simp only [if_neg h]

theorem commits_ok (q : Nat) (D : LQu) (F : Nat → Prop) (i : Nat) (y : LNd) (w : World) (h : QuAt w F q D) (hy : D.ns[i]? = some y) (hn5 : D.ns.length ≤ 5) (hodd : D.ns.length % 2 = 1) (hml : y.x.mat.length = 5) (hc0 : 0 ≤ y.x.commit) (hmb : ∀ a ∈ y.x.mat, a ≤ y.x.log.length) (hll : y.x.log.length ≤ 256) : Ret Tryz.prog 62 #[.pointer (some ⟨q, 0, none⟩), .int .i64 (i : Int)] w (fun v w' => v = .tuple #[] ∧ QuAt w' F q (D.setN i (y.commits D.ns.length)) ∧ Lk w' w (OwnB (.slice D.NA D.ns.length D.nc))) := by
 haveI hb : Blk w q _ := ⟨h.hb⟩
 have hi : i < D.ns.length := (List.getElem?_eq_some_iff.1 hy).1
 haveI li : LtI i D.ns.length := ⟨hi⟩
 have hA := h.n1
 have hym : y ∈ D.ns := List.mem_of_getElem? hy
 haveI hN : OwnI w D.NA D.ns.length D.nc 0 69 20 D.ns.length ((D.ns.set i y).flatMap ndC) := ⟨by rw [set_self hy]; exact h.nodes⟩
 haveI hrl : Row w y.A (cmdsC y.x.log) := ⟨(h.logs y hym).row⟩
 haveI hro : ∀ n c, RowOut (OwnB (.slice D.NA n c)) y.A := fun n c => (h.logs y hym).out (fun k e e2 => h.fq k e (.inr (.inl (ownB_blk.1 e2))))
 haveI hqn := h.qn
 have hil : i < (D.ns.set i y).length := by simpa using hi
 refine ret_of_x (N := 50) (l := [.pointer (some ⟨q, 0, none⟩), .int .i64 (i : Int)]) Tryz.func62 rfl rfl (Nat.le_of_ble_eq_true rfl) ?_
 refine x_seq ?_
 refine x_regionL ?_
 refine xl_v v_move ?_
 refine xl_Nc ?_
 refine xl_Fb ?_
 refine xl_Lc ?_
 refine xl_v v_move ?_
 refine xl_v (v_indexF i (by decide) rfl (by omega) hil) ?_
 refine xl_v v_assign ?_
 refine xl_nil ?_
 refine x_seq ?_
 refine x_drawL (NoB) (allS) (.take 0 (.take 1 (.take 2 (.take 3 (.take 4 (.take 5 (.take 6 (.take 7 (.take 8 (.eff 9 (.take 10 .done))))))))))) mixed (by kernel_rfl) (fun _ _ _ _ _ h => h) (fun w1 l1 => ?_)
 refine xt_v rfl v_move ?_
 refine xt_Nc rfl ?_
 refine xt_Fb rfl ?_
 refine xt_v rfl v_move ?_
 refine xt_Nc rfl ?_
 refine xt_Fb rfl ?_
 refine xt_Lc rfl ?_
 refine xt_v rfl v_len ?_
 refine xt_v rfl (v_sliceArr D.ns.length rfl (by omega) hA) ?_
 haveI hmr : Row w1 (shA D.NA (i * 20 + 15)) (ints (y.x.mat.take D.ns.length)) := mat_row inferInstance hml
 refine xt_call rfl (majority_ok (shA D.NA (i * 20 + 15)) D.ns.length 5 (y.x.mat.take D.ns.length) w1 (by simpa using hA) (fun k e => Nat.lt_of_lt_of_le (own_blk h.nodes (by rw [← blkA_add]; exact e)).2 Ge.le) (by rw [List.length_take]; omega) (by omega)) ?_
 rintro _ w2 ⟨rfl, lk9⟩
 refine ⟨kpc, ?_⟩
 refine xt_v rfl v_assign ?_
 refine xt_nil ?_
 obtain ⟨K, hK⟩ : ∃ K, majority (y.x.mat.take D.ns.length) = K := ⟨_, rfl⟩
 have hKm : K ≤ y.x.log.length := by
  have h1 := majority_mem (l := y.x.mat.take D.ns.length) (by rw [List.length_take, hml]; omega)
  rw [hK] at h1
  exact hmb K (List.mem_of_mem_take h1)
 rw [hK]
 refine x_seq ?_
 refine x_drawL (NoB) (allS) (.take 0 (.take 1 (.take 2 (.take 3 (.take 4 (.take 5 (.take 6 (.take 7 (.take 8 (.take 9 (.take 10 (.take 11 (.take 12 (.take 13 (.take 14 (.take 15 (.take 16 (.take 17 (.take 18 (.take 19 (.take 20 (.take 21 (.take 22 (.take 23 .done)))))))))))))))))))))))) mixed (by kernel_rfl) (fun _ _ _ _ _ h => h) (fun w3 l3 => ?_)
 refine xt_v rfl v_move ?_
 refine xt_v rfl v_move ?_
 refine xt_Nc rfl ?_
 refine xt_Fb rfl ?_
 refine xt_Lc rfl ?_
 refine xt_v rfl v_gtr ?_
 refine xt_v rfl v_move ?_
 refine xt_split 28 (fun g28 => ?_) (fun g28 => ?_)
 ·
  have hlt : y.x.commit < K := of_decide_eq_true g28
  obtain ⟨kk, hkk⟩ : ∃ kk : Nat, K - 1 = kk := ⟨(K - 1).toNat, by omega⟩
  have hkl : kk < y.x.log.length := by omega
  refine xt_gv rfl rfl EvO.eq v_move ?_
  refine xt_gNc rfl rfl EvO.eq ?_
  refine xt_gFb rfl rfl EvO.eq ?_
  refine xt_gFb rfl rfl EvO.eq ?_
  refine xt_gLc rfl rfl EvO.eq ?_
  refine xt_gv rfl rfl EvO.eq v_move ?_
  refine xt_gv rfl rfl EvO.eq (v_sub (by omega)) ?_
  refine xt_gv rfl rfl EvO.eq (v_indexF kk (by decide) hkk (by omega) hkl) ?_
  refine xt_gFb rfl rfl EvO.eq ?_
  refine xt_gLc rfl rfl EvO.eq ?_
  refine xt_gv rfl rfl EvO.eq v_move ?_
  refine xt_gNc rfl rfl EvO.eq ?_
  refine xt_gFb rfl rfl EvO.eq ?_
  refine xt_gFb rfl rfl EvO.eq ?_
  refine xt_gLc rfl rfl EvO.eq ?_
  refine xt_gv rfl rfl EvO.eq v_eql ?_
  refine xt_Pk rfl ?_
  refine xt_nil ?_
  first | refine x_condP (fun c1 => ?_) (fun c1 => ?_) | refine x_condN (fun c1 => ?_) (fun c1 => ?_) | refine x_condE (fun c1 => ?_) (fun c1 => ?_)
  ·
   have hyes : y.x.commits D.ns.length = { y.x with commit := K } := commits_yes hK hlt (by rw [hkk]; simp [hkl]; simpa using c1)
   refine x_regionL ?_
   refine xl_v v_move ?_
   refine xl_v v_move ?_
   refine xl_Nc ?_
   refine xl_Fb ?_
   refine xl_s (e_storeC i 4 { y with x := { y.x with commit := K } } fun w4 l4 o4 => ?_)
   refine xl_nil ?_
   refine fin0 rfl ?_
   first
   | exact ⟨rfl, h.setI kpc (by rw [LNd.commits, hyes]; exact o4) hym rfl (by rw [LNd.commits, hyes]) rfl, lkc⟩
   | exact ⟨rfl, h.setI kpc (by rw [LNd.commits, hn1]; exact OwnI.own |> OwnI.mk) hym rfl (by rw [LNd.commits, hn1]) rfl, lkc⟩
   | (have hn2 : y.x.commits D.ns.length = y.x := commits_no hK (fun e => hno e.1)
      exact ⟨rfl, h.setI kpc (by rw [LNd.commits, hn2]; exact OwnI.mk OwnI.own) hym rfl (by rw [LNd.commits, hn2]) rfl, lkc⟩)
  ·
   have hn1 : y.x.commits D.ns.length = y.x := commits_no hK (fun e => c1 (by have h2 := e.2; rw [hkk] at h2; simpa [hkl] using h2))
   refine x_skip ?_
   refine fin0 rfl ?_
   first
   | exact ⟨rfl, h.setI kpc (by rw [LNd.commits, hyes]; exact o4) hym rfl (by rw [LNd.commits, hyes]) rfl, lkc⟩
   | exact ⟨rfl, h.setI kpc (by rw [LNd.commits, hn1]; exact OwnI.own |> OwnI.mk) hym rfl (by rw [LNd.commits, hn1]) rfl, lkc⟩
   | (have hn2 : y.x.commits D.ns.length = y.x := commits_no hK (fun e => hno e.1)
      exact ⟨rfl, h.setI kpc (by rw [LNd.commits, hn2]; exact OwnI.mk OwnI.own) hym rfl (by rw [LNd.commits, hn2]) rfl, lkc⟩)
 ·
  have hno : ¬ y.x.commit < K := of_decide_eq_false g28
  refine xt_gs rfl rfl EvO.eq ?_
  refine xt_gs rfl rfl EvO.eq ?_
  refine xt_gs rfl rfl EvO.eq ?_
  refine xt_gs rfl rfl EvO.eq ?_
  refine xt_gs rfl rfl EvO.eq ?_
  refine xt_gs rfl rfl EvO.eq ?_
  refine xt_gs rfl rfl EvO.eq ?_
  refine xt_gs rfl rfl EvO.eq ?_
  refine xt_gs rfl rfl EvO.eq ?_
  refine xt_gs rfl rfl EvO.eq ?_
  refine xt_gs rfl rfl EvO.eq ?_
  refine xt_gs rfl rfl EvO.eq ?_
  refine xt_gs rfl rfl EvO.eq ?_
  refine xt_gs rfl rfl EvO.eq ?_
  refine xt_gs rfl rfl EvO.eq ?_
  refine xt_gs rfl rfl EvO.eq ?_
  refine xt_Pk rfl ?_
  refine xt_nil ?_
  refine x_condF ?_
  refine x_skip ?_
  refine fin0 rfl ?_
  first
  | exact ⟨rfl, h.setI kpc (by rw [LNd.commits, hyes]; exact o4) hym rfl (by rw [LNd.commits, hyes]) rfl, lkc⟩
  | exact ⟨rfl, h.setI kpc (by rw [LNd.commits, hn1]; exact OwnI.own |> OwnI.mk) hym rfl (by rw [LNd.commits, hn1]) rfl, lkc⟩
  | (have hn2 : y.x.commits D.ns.length = y.x := commits_no hK (fun e => hno e.1)
     exact ⟨rfl, h.setI kpc (by rw [LNd.commits, hn2]; exact OwnI.mk OwnI.own) hym rfl (by rw [LNd.commits, hn2]) rfl, lkc⟩)
end Go.Proofs.YtljdkelgapndgaaGreat
set_option linter.all false
set_option maxRecDepth 100000
set_option synthInstance.maxSize 100000
set_option synthInstance.maxHeartbeats 400000
namespace Go.Proofs.YtljdkelgapndgaaGreat
open Go.Wst
open Go.Wst.Qm
theorem count_snoc {l : List Bool} {k : Nat} (h : k < l.length) : (l.take (k + 1)).count true = (l.take k).count true + (if l.getD k false = true then 1 else 0) := by
 rw [take_snoc l k h, List.count_append, List.getD_eq_getElem?_getD, List.getElem?_eq_getElem h]
 cases l[k] <;> simp
theorem next_snoc {l : List Int} {j : Nat} (v : Int) (h : j < l.length) : (List.replicate j v ++ l.drop j).set j v = List.replicate (j + 1) v ++ l.drop (j + 1) := by
 rw [List.set_append_right _ _ (by simp), List.length_replicate, Nat.sub_self, List.drop_eq_getElem_cons h, List.set_cons_zero, List.replicate_succ']
 simp
theorem leads_yes {x : Nd} {cnt n : Nat} (h1 : x.role = 2) (h2 : cnt / 2 < x.votes.count true) : x.leads cnt n = { x with role := 3, votes := falses, next := List.replicate cnt (x.log.length : Int) ++ x.next.drop cnt, mat := x.mat.set n x.log.length } := by
 unfold Nd.leads
 rw [if_neg (by omega)]
theorem leads_no {x : Nd} {cnt n : Nat} (h : x.role ≠ 2 ∨ x.votes.count true ≤ cnt / 2) : x.leads cnt n = x := if_pos h

theorem leads_ok (q : Nat) (D : LQu) (F : Nat → Prop) (i : Nat) (y : LNd) (w : World) (h : QuAt w F q D) (hy : D.ns[i]? = some y) (hn5 : D.ns.length ≤ 5) (hvl : y.x.votes.length = 5) (hnl : y.x.next.length = 5) (hml : y.x.mat.length = 5) (hll : y.x.log.length ≤ 256) : Ret Tryz.prog 57 #[.pointer (some ⟨q, 0, none⟩), .int .i64 (i : Int)] w (fun v w' => v = .tuple #[] ∧ QuAt w' F q (D.setN i (y.leads D.ns.length i)) ∧ Lk w' w (OwnB (.slice D.NA D.ns.length D.nc))) := by
 haveI hb : Blk w q _ := ⟨h.hb⟩
 have hi : i < D.ns.length := (List.getElem?_eq_some_iff.1 hy).1
 haveI li : LtI i D.ns.length := ⟨hi⟩
 have hA := h.n1
 have hym : y ∈ D.ns := List.mem_of_getElem? hy
 haveI hN : OwnI w D.NA D.ns.length D.nc 0 69 20 D.ns.length ((D.ns.set i y).flatMap ndC) := ⟨by rw [set_self hy]; exact h.nodes⟩
 haveI hrl : Row w y.A (cmdsC y.x.log) := ⟨(h.logs y hym).row⟩
 haveI hro : ∀ n c, RowOut (OwnB (.slice D.NA n c)) y.A := fun n c => (h.logs y hym).out (fun k e e2 => h.fq k e (.inr (.inl (ownB_blk.1 e2))))
 haveI hqn := h.qn
 have hil : i < (D.ns.set i y).length := by simpa using hi
 refine ret_of_x (N := 79) (l := [.pointer (some ⟨q, 0, none⟩), .int .i64 (i : Int)]) Tryz.func57 rfl rfl (Nat.le_of_ble_eq_true rfl) ?_
 refine x_seq ?_
 refine x_regionL ?_
 refine xl_v v_move ?_
 refine xl_Nc ?_
 refine xl_Fb ?_
 refine xl_Lc ?_
 refine xl_v v_move ?_
 refine xl_v (v_indexF i (by decide) rfl (by omega) hil) ?_
 refine xl_v v_assign ?_
 refine xl_nil ?_
 refine x_seq ?_
 refine x_regionL ?_
 refine xl_v v_assign ?_
 refine xl_nil ?_
 refine x_seq ?_
 refine x_seq ?_
 refine x_regionL ?_
 refine xl_v v_move ?_
 refine xl_Nc ?_
 refine xl_Fb ?_
 refine xl_Lb ?_
 refine xl_v v_move ?_
 refine xl_nil ?_
 refine x_block ?_
 refine x_loop (fun m τ ds w' => ds = [] ∧ ∃ k : Nat, m = 5 - k ∧ k ≤ 5 ∧ Ev τ 0 (.pointer (some ⟨q, 0, none⟩)) ∧ Ev τ 1 (.int .i64 (i : Int)) ∧ Ev τ 4 (padd D.NA (i * 20)) ∧ Ev τ 5 (.int .i64 ((y.x.votes.take k).count true : Int)) ∧ Ev τ 18 (.agg [Value.bool (y.x.votes.getD 0 false), .bool (y.x.votes.getD 1 false), .bool (y.x.votes.getD 2 false), .bool (y.x.votes.getD 3 false), .bool (y.x.votes.getD 4 false)].toArray) ∧ Ev τ 19 (.int .i64 (k : Int)) ∧ Lk w' w NoB) (5) ?start ?round
 case start =>
  exact ⟨rfl, 0, rfl, Nat.zero_le _, inferInstance, inferInstance, inferInstance, evc, inferInstance, evc, lkc⟩
 case round =>
  intro m τ1 ds1 w1 hI
  obtain ⟨rfl, k, rfl, hk, e0, e1, e4, e5, e18, e19, lk⟩ := hI
  have hck : (y.x.votes.take k).count true ≤ 5 := Nat.le_trans List.count_le_length (by rw [List.length_take]; omega)
  refine x_seq ?_
  refine x_regionL ?_
  refine xl_v v_lss ?_
  refine xl_nil ?_
  refine x_seq ?_
  first | refine x_condP (fun c1 => ?_) (fun c1 => ?_) | refine x_condN (fun c1 => ?_) (fun c1 => ?_) | refine x_condE (fun c1 => ?_) (fun c1 => ?_)
  ·
   refine x_skip ?_
   refine x_seq ?_
   refine x_block ?_
   refine x_seq ?_
   refine x_regionL ?_
   refine xl_v (v_indexG k rfl (by omega) (votesC_get (by omega))) ?_
   refine xl_v v_assign ?_
   refine xl_nil ?_
   refine x_seq ?_
   refine x_regionL ?_
   refine xl_v v_move ?_
   refine xl_nil ?_
   refine x_condE (fun c2 => ?_) (fun c2 => ?_)
   ·
    refine x_regionL ?_
    refine xl_v v_move ?_
    refine xl_v (v_add (by omega)) ?_
    refine xl_v v_assign ?_
    refine xl_nil ?_
    refine x_regionL ?_
    refine xl_v (v_add (by omega)) ?_
    refine xl_v v_move ?_
    refine xl_nil ?_
    refine ⟨_, ?_, rfl, k + 1, rfl, by omega, inferInstance, inferInstance, inferInstance, evc (congrArg (Value.int .i64) (by rw [count_snoc (by omega)]; first | (rw [if_pos c2]; omega) | (rw [if_neg (by simpa using c2)]; omega))), inferInstance, evc, lkc⟩
    omega
   ·
    refine x_skip ?_
    refine x_regionL ?_
    refine xl_v (v_add (by omega)) ?_
    refine xl_v v_move ?_
    refine xl_nil ?_
    refine ⟨_, ?_, rfl, k + 1, rfl, by omega, inferInstance, inferInstance, inferInstance, evc (congrArg (Value.int .i64) (by rw [count_snoc (by omega)]; first | (rw [if_pos c2]; omega) | (rw [if_neg (by simpa using c2)]; omega))), inferInstance, evc, lkc⟩
    omega
  ·
   refine x_exit ?_
   refine x_seq ?_
   refine x_seq ?_
   have hk5 : k = 5 := by omega
   have hct : (y.x.votes.take k).count true = y.x.votes.count true := by rw [List.take_of_length_le (by omega)]
   refine x_regionL ?_
   refine xl_v v_move ?_
   refine xl_Nc ?_
   refine xl_Fb ?_
   refine xl_Lc ?_
   refine xl_v v_neq ?_
   refine xl_v v_move ?_
   refine xl_split 31 (fun g31 => ?_) (fun g31 => ?_)
   ·
    refine xl_gs rfl EvO.eq ?_
    refine xl_gs rfl EvO.eq ?_
    refine xl_gs rfl EvO.eq ?_
    refine xl_gs rfl EvO.eq ?_
    refine xl_gs rfl EvO.eq ?_
    refine xl_gs rfl EvO.eq ?_
    refine xl_gs rfl EvO.eq ?_
    refine xl_gs rfl EvO.eq ?_
    refine xl_Pk ?_
    refine xl_nil ?_
    refine x_condT ?_
    refine x_ret ?_
    refine fin0r rfl ?_
    have hno : y.x.leads D.ns.length i = y.x := leads_no (by
     first
      | exact .inl (by simpa using g31)
      | exact .inr (by simp at c3; omega))
    exact ⟨rfl, h.setI kpc (by rw [LNd.leads, hno]; exact OwnI.mk OwnI.own) hym rfl (by rw [LNd.leads, hno]) rfl, lkc⟩
   ·
    refine xl_gv rfl EvO.eq v_move ?_
    refine xl_gv rfl EvO.eq v_move ?_
    refine xl_gNc rfl EvO.eq ?_
    refine xl_gFb rfl EvO.eq ?_
    refine xl_gLc rfl EvO.eq ?_
    refine xl_gv rfl EvO.eq v_len ?_
    refine xl_gv rfl EvO.eq (v_congr (u := .int .i64 ((D.ns.length / 2 : Nat) : Int)) (v_quo (by omega)) (congrArg (Value.int .i64) (half_eq rfl (by omega)))) ?_
    refine xl_gv rfl EvO.eq v_leq ?_
    refine xl_Pk ?_
    refine xl_nil ?_
    refine x_condE (fun c3 => ?_) (fun c3 => ?_)
    ·
     refine x_ret ?_
     refine fin0r rfl ?_
     have hno : y.x.leads D.ns.length i = y.x := leads_no (by
      first
       | exact .inl (by simpa using g31)
       | exact .inr (by simp at c3; omega))
     exact ⟨rfl, h.setI kpc (by rw [LNd.leads, hno]; exact OwnI.mk OwnI.own) hym rfl (by rw [LNd.leads, hno]) rfl, lkc⟩
    ·
     have hyes := leads_yes (x := y.x) (cnt := D.ns.length) (n := i) (by
      first
       | (exfalso; simp at c3; done)
       | simpa using g31) (by simp at c3; omega)
     refine x_skip ?_
     refine x_seq ?_
     refine x_regionL ?_
     refine xl_v v_move ?_
     refine xl_v v_move ?_
     refine xl_v (v_buildA) ?_
     refine xl_Nc ?_
     refine xl_Fb ?_
     refine xl_s (e_storeC i 3 { y with x := { y.x with role := 3 } } fun w2 l5 o5 => ?_)
     refine xl_Nc ?_
     refine xl_Fb ?_
     refine xl_s (e_storeC i 5 { y with x := { y.x with role := 3, votes := falses } } fun w3 l8 o8 => ?_)
     refine xl_nil ?_
     refine x_seq ?_
     refine x_seq ?_
     refine x_regionL ?_
     refine xl_v v_move ?_
     refine xl_Nc ?_
     refine xl_Fb ?_
     refine xl_Lc ?_
     refine xl_v v_len ?_
     refine xl_v v_move ?_
     refine xl_nil ?_
     refine x_block ?_
     refine x_loop (fun m τ ds w' => ds = [] ∧ ∃ k : Nat, m = D.ns.length - k ∧ k ≤ D.ns.length ∧ Ev τ 1 (.int .i64 (i : Int)) ∧ Ev τ 4 (padd D.NA (i * 20)) ∧ Ev τ 52 (.int .i64 (D.ns.length : Int)) ∧ Ev τ 53 (.int .i64 (k : Int)) ∧ OwnI w' D.NA D.ns.length D.nc 0 69 20 D.ns.length ((D.ns.set i { y with x := { y.x with role := 3, votes := falses, next := List.replicate k (y.x.log.length : Int) ++ y.x.next.drop k } }).flatMap ndC) ∧ Lk w' w (OwnB (.slice D.NA D.ns.length D.nc))) (D.ns.length) ?start ?round
     case start =>
      exact ⟨rfl, 0, rfl, Nat.zero_le _, inferInstance, inferInstance, inferInstance, evc, OwnI.mk OwnI.own, lkc⟩
     case round =>
      intro m τ4 ds4 w4 hI
      obtain ⟨rfl, k, rfl, hk, e1, e4, e52, e53, oN, lk⟩ := hI
      refine x_seq ?_
      refine x_regionL ?_
      refine xl_v v_lss ?_
      refine xl_nil ?_
      refine x_seq ?_
      first | refine x_condP (fun c4 => ?_) (fun c4 => ?_) | refine x_condN (fun c4 => ?_) (fun c4 => ?_) | refine x_condE (fun c4 => ?_) (fun c4 => ?_)
      ·
       refine x_skip ?_
       refine x_seq ?_
       refine x_block ?_
       refine x_seq ?_
       refine x_regionL ?_
       refine xl_v v_move ?_
       refine xl_v v_assign ?_
       refine xl_nil ?_
       refine x_drawL (NoB) (allS) (.take 0 (.take 1 (.take 2 (.take 3 (.take 4 (.take 5 (.take 6 (.take 7 (.take 8 (.take 9 (.take 10 (.free 11 .done)))))))))))) mixed (by kernel_rfl) (fun _ _ _ _ _ h => h) (fun w5 l5 => ?_)
       refine xt_v rfl v_move ?_
       refine xt_v rfl v_move ?_
       refine xt_v rfl v_move ?_
       refine xt_Nc rfl ?_
       refine xt_Fb rfl ?_
       refine xt_Fb rfl ?_
       refine xt_Lc rfl ?_
       refine xt_v rfl v_len ?_
       refine xt_Nc rfl ?_
       refine xt_Fb rfl ?_
       refine xt_v rfl (v_indexAA rfl (by omega) (by decide) hA) ?_
       refine xt_fs rfl (e_storeC i (10 + k) { y with x := { y.x with role := 3, votes := falses, next := (List.replicate k (y.x.log.length : Int) ++ y.x.next.drop k).set k y.x.log.length } } (ho := by simp; omega) (hu := setL_next (k := k) (by omega) (by simp; omega) _) fun w6 l11 o11 => ?_)
       refine xt_nil ?_
       refine x_regionL ?_
       refine xl_v (v_add (by omega)) ?_
       refine xl_v v_move ?_
       refine xl_nil ?_
       refine ⟨_, ?_, rfl, k + 1, rfl, by omega, inferInstance, inferInstance, inferInstance, evc, by rw [← next_snoc _ (by omega)]; exact o11, lkc⟩
       omega
      ·
       refine x_exit ?_
       have hkn : k = D.ns.length := by omega
       refine x_drawL (NoB) (allS) (.take 0 (.take 1 (.take 2 (.take 3 (.take 4 (.take 5 (.take 6 (.take 7 (.take 8 (.take 9 (.take 10 (.free 11 .done)))))))))))) mixed (by kernel_rfl) (fun _ _ _ _ _ h => h) (fun w7 l7 => ?_)
       refine xt_v rfl v_move ?_
       refine xt_v rfl v_move ?_
       refine xt_v rfl v_move ?_
       refine xt_Nc rfl ?_
       refine xt_Fb rfl ?_
       refine xt_Fb rfl ?_
       refine xt_Lc rfl ?_
       refine xt_v rfl v_len ?_
       refine xt_Nc rfl ?_
       refine xt_Fb rfl ?_
       refine xt_v rfl (v_indexAA rfl (by omega) (by decide) hA) ?_
       refine xt_fs rfl (e_storeC i (15 + i) { y with x := { y.x with role := 3, votes := falses, next := List.replicate k (y.x.log.length : Int) ++ y.x.next.drop k, mat := y.x.mat.set i y.x.log.length } } (ho := by simp; omega) (hu := setL_mat (k := i) (by omega) (by exact hml) _) fun w8 l11 o11 => ?_)
       refine xt_nil ?_
       refine fin0 rfl ?_
       subst hkn
       exact ⟨rfl, h.setI kpc (by rw [LNd.leads, hyes]; exact o11) hym rfl (by rw [LNd.leads, hyes]) rfl, lkc⟩
end Go.Proofs.YtljdkelgapndgaaGreat
set_option linter.all false
set_option maxRecDepth 100000
set_option synthInstance.maxSize 100000
set_option synthInstance.maxHeartbeats 400000
namespace Go.Proofs.YtljdkelgapndgaaGreat
open Go.Wst
open Go.Wst.Qm
def QMade (q : Nat) (F : Nat → Prop) (D : LQu) (w : World) (M : Qu) (w' : World) : Prop := ∃ (D' : LQu) (F' : Nat → Prop), QuAt w' F' q D' ∧ D'.pure = M ∧ Sub F' F w ∧ ∀ k, QuB q D' k → QuB q D k ∨ w.heap.size ≤ k
theorem pure_setN (D : LQu) (i : Nat) (y : LNd) : (D.setN i y).pure = D.pure.setN i y.x := by simp [LQu.pure, LQu.setN, Qu.setN, List.map_set]
theorem pure_sent (D : LQu) (m : LBl) (BA : Option Addr) (bc : Nat) : LQu.pure { D with bs := sentB D m, BA := BA, bc := bc } = D.pure.send m.m := by
 unfold sentB Qu.send LQu.pure
 simp only [List.length_map]
 split <;> simp
theorem pure_len (D : LQu) : D.pure.nodes.length = D.ns.length := by simp [LQu.pure]
theorem pure_node {D : LQu} {i : Nat} {y : LNd} (hy : D.ns[i]? = some y) : D.pure.node (i : Int) = y.x := by
 simp [Qu.node, LQu.pure, List.getD_eq_getElem?_getD, hy]
theorem len_setNL (D : LQu) (i : Nat) (y : LNd) : (D.setN i y).ns.length = D.ns.length := by simp [LQu.setN]
theorem quB_sent {q : Nat} {D : LQu} {bs : List LBl} {BA : Option Addr} {bc n : Nat} (h : blkA BA = blkA D.BA ∨ ∀ k, blkA BA = some k → n ≤ k) : ∀ k, QuB q { D with bs := bs, BA := BA, bc := bc } k → QuB q D k ∨ n ≤ k := by
 rintro k (e | e | e)
 ·exact .inl (.inl e)
 ·exact .inl (.inr (.inl e))
 ·rcases h with h | h
  ·exact .inl (.inr (.inr (h ▸ e)))
  ·exact .inr (h k e)
instance subF_nq (q : Nat) (D : LQu) (n c : Nat) (w : World) : SubF (OwnB (.slice D.NA n c)) (QuB q D) w := ⟨fun k _ e => .inr (.inl (ownB_blk.1 e))⟩
instance subF_bq (q : Nat) (D : LQu) (n c : Nat) (w : World) : SubF (OwnB (.slice D.BA n c)) (QuB q D) w := ⟨fun k _ e => .inr (.inr (ownB_blk.1 e))⟩
instance subF_qq (q : Nat) (D : LQu) (w : World) : SubF (OneB q) (QuB q D) w := ⟨fun k _ e => .inl e⟩
instance subF_sq (q i : Nat) (D : LQu) (y : LNd) (w : World) : SubF (QuB q (D.setN i y)) (QuB q D) w := ⟨fun k _ e => e⟩
structure MsgAt (w : World) (F : Nat → Prop) (D : LQu) (i : Nat) (m : LBl) : Prop where
 to : m.m.to = (i : Int)
 f : 0 ≤ m.m.frm ∧ m.m.frm < D.ns.length
 row : FRow w F m.A (cmdsC m.m.cmds)
 c : m.m.cmds.length ≤ m.c
 len : m.m.cmds.length ≤ 1000
theorem behind_eq (x : Nd) (m : Bl) : decide ((if cmpI m.lastT (ofT x.log) = 0 then cmpI m.last x.log.length else cmpI m.lastT (ofT x.log)) < 0) = x.behind m := by
 unfold Nd.behind cmpI
 rw [decide_eq_decide]
 constructor
 ·intro h
  split at h <;> (try split at h) <;> (try split at h) <;> omega
 ·intro h
  split <;> (try split) <;> (try split) <;> omega
def Nd.asked (x : Nd) (m : Bl) : Nd := if x.gives m then { x with vote := m.frm } else x

theorem asked_ok (q : Nat) (D : LQu) (F : Nat → Prop) (i : Nat) (y : LNd) (m : LBl) (w : World) (h : QuAt w F q D) (hy : D.ns[i]? = some y) (hm : MsgAt w F D i m) (hll : y.x.log.length ≤ 256) : Ret Tryz.prog 71 #[.pointer (some ⟨q, 0, none⟩), padd D.NA (i * 20), .agg (blC m).toArray] w (fun v w' => v = .tuple #[] ∧ QMade q F D w (D.pure.asked m.m y.x) w' ∧ Lk w' w (QuB q D)) := by
 haveI hb : Blk w q _ := ⟨h.hb⟩
 have hi : i < D.ns.length := (List.getElem?_eq_some_iff.1 hy).1
 haveI li : LtI i D.ns.length := ⟨hi⟩
 have hA := h.n1
 have hym : y ∈ D.ns := List.mem_of_getElem? hy
 haveI hN : OwnI w D.NA D.ns.length D.nc 0 69 20 D.ns.length ((D.ns.set i y).flatMap ndC) := ⟨by rw [set_self hy]; exact h.nodes⟩
 haveI hrl : Row w y.A (cmdsC y.x.log) := ⟨(h.logs y hym).row⟩
 haveI hro : ∀ n c, RowOut (OwnB (.slice D.NA n c)) y.A := fun n c => (h.logs y hym).out (fun k e e2 => h.fq k e (.inr (.inl (ownB_blk.1 e2))))
 haveI hqn := h.qn
 have hil : i < (D.ns.set i y).length := by simpa using hi
 refine ret_of_x (N := 79) (l := [.pointer (some ⟨q, 0, none⟩), padd D.NA (i * 20), .agg (blC m).toArray]) Tryz.func71 rfl rfl (Nat.le_of_ble_eq_true rfl) ?_
 refine x_seq ?_
 refine x_regionL ?_
 refine xl_e (e_box fun b1 w1 n1 l1 k1 => ?_)
 refine xl_nil ?_
 refine x_seq ?_
 refine x_drawL (NoB) (allS) (.take 0 (.take 1 (.take 2 (.take 3 (.take 4 (.take 5 (.take 6 (.take 9 (.take 10 (.take 11 (.take 12 (.take 13 (.take 14 (.take 15 (.take 16 (.eff 7 (.eff 8 (.eff 17 (.eff 18 (.eff 19 (.take 20 (.take 21 .done)))))))))))))))))))))) mixed (by kernel_rfl) (fun _ _ _ _ _ h => h) (fun w2 l2 => ?_)
 refine xt_Fb rfl ?_
 refine xt_Lc rfl ?_
 refine xt_v rfl v_move ?_
 refine xt_Nc rfl ?_
 refine xt_Fb rfl ?_
 refine xt_Fb rfl ?_
 refine xt_Lc rfl ?_
 refine xt_Fb rfl ?_
 refine xt_Lc rfl ?_
 refine xt_v rfl v_move ?_
 refine xt_Nc rfl ?_
 refine xt_Fb rfl ?_
 refine xt_Fb rfl ?_
 refine xt_Lc rfl ?_
 refine xt_v rfl v_len ?_
 refine xt_call rfl (of_ok y.A y.x.log.length y.c y.x.log w2 rfl (by omega)) ?_
 rintro _ w3 ⟨rfl, lk7⟩
 refine ⟨kpc, ?_⟩
 refine xt_call rfl (compare64_ok m.m.lastT (ofT y.x.log) w3) ?_
 rintro _ w4 ⟨rfl, lk8⟩
 refine ⟨kpc, ?_⟩
 refine xt_call rfl (compare_ok m.m.last y.x.log.length w4) ?_
 rintro _ w5 ⟨rfl, lk17⟩
 refine ⟨kpc, ?_⟩
 refine xt_e rfl (e_buildSliceN rfl fun b18 w6 n18 l18 k18 => ?_)
 haveI hr18 : Row w6 (some ⟨b18, 0, none⟩) (ints [cmpI m.m.lastT (ofT y.x.log), cmpI m.m.last y.x.log.length]) := ⟨row_blk k18.eq⟩
 refine xt_call rfl (or2_ok (some ⟨b18, 0, none⟩) 2 (cmpI m.m.lastT (ofT y.x.log)) (cmpI m.m.last y.x.log.length) w6) ?_
 rintro _ w7 ⟨rfl, lk19⟩
 refine ⟨kpc, ?_⟩
 refine xt_v rfl (v_congr (u := .bool (y.x.behind m.m)) v_lss (congrArg Value.bool (behind_eq y.x m.m))) ?_
 refine xt_v rfl v_assign ?_
 refine xt_nil ?_
 refine x_seq ?_
 refine x_drawL (NoB) (allS) (.take 0 (.take 1 (.take 2 (.take 3 (.take 4 (.take 5 (.take 6 (.take 7 (.take 8 (.take 9 (.take 10 (.take 11 (.take 12 (.take 13 (.take 14 (.take 15 (.take 16 (.take 17 (.take 18 (.take 19 (.take 20 (.take 21 (.take 22 (.take 23 (.take 24 (.take 25 (.take 26 (.take 27 (.take 28 (.take 29 (.take 30 .done))))))))))))))))))))))))))))))) mixed (by kernel_rfl) (fun _ _ _ _ _ h => h) (fun w8 l8 => ?_)
 refine xt_Fb rfl ?_
 refine xt_Lc rfl ?_
 refine xt_v rfl v_move ?_
 refine xt_Nc rfl ?_
 refine xt_Fb rfl ?_
 refine xt_Fb rfl ?_
 refine xt_Lc rfl ?_
 refine xt_v rfl v_eql ?_
 refine xt_v rfl v_move ?_
 refine xt_split 37 (fun g37 => ?_) (fun g37 => ?_)
 ·
  refine xt_gv rfl rfl EvO.eq v_move ?_
  refine xt_gNc rfl rfl EvO.eq ?_
  refine xt_gFb rfl rfl EvO.eq ?_
  refine xt_gFb rfl rfl EvO.eq ?_
  refine xt_gLc rfl rfl EvO.eq ?_
  refine xt_gv rfl rfl EvO.eq v_eql ?_
  refine xt_gv rfl rfl EvO.eq v_move ?_
  refine xt_split 44 (fun g44 => ?_) (fun g44 => ?_)
  ·
   refine xt_gs rfl rfl EvO.eq ?_
   refine xt_gs rfl rfl EvO.eq ?_
   refine xt_gs rfl rfl EvO.eq ?_
   refine xt_gs rfl rfl EvO.eq ?_
   refine xt_gs rfl rfl EvO.eq ?_
   refine xt_gs rfl rfl EvO.eq ?_
   refine xt_gs rfl rfl EvO.eq ?_
   refine xt_gs rfl rfl EvO.eq ?_
   refine xt_gPk rfl rfl EvO.eq ?_
   refine xt_Pk rfl ?_
   refine xt_v rfl v_move ?_
   refine xt_gv rfl rfl EvO.eq v_move ?_
   refine xt_gv rfl rfl EvO.eq v_not ?_
   refine xt_Pk rfl ?_
   refine xt_v rfl v_assign ?_
   refine xt_nil ?_
   refine x_seq ?_
   refine x_seq ?_
   refine x_regionL ?_
   refine xl_v v_move ?_
   refine xl_nil ?_
   refine x_condE (fun c1 => ?_) (fun c1 => ?_)
   ·
    refine x_regionL ?_
    refine xl_v v_move ?_
    refine xl_Fb ?_
    refine xl_Lc ?_
    refine xl_Nc ?_
    refine xl_Fb ?_
    refine xl_Fb ?_
    refine xl_s (e_storeC i 1 { y with x := { y.x with vote := m.m.frm } } fun w9 l6 o6 => ?_)
    refine xl_nil ?_
    have hcase : (y.x.gives m.m = true ∧ OwnI w9 D.NA D.ns.length D.nc 0 69 20 D.ns.length ((D.ns.set i { y with x := { y.x with vote := m.m.frm } }).flatMap ndC)) ∨ (y.x.gives m.m = false ∧ OwnI w9 D.NA D.ns.length D.nc 0 69 20 D.ns.length ((D.ns.set i y).flatMap ndC)) := by
     first
      | (refine .inl ⟨?_, o6⟩; simp at g37 g44 c1; simp [Nd.gives, g37, g44, c1]; done)
      | (refine .inl ⟨?_, o6⟩; simp at g37 g44 g55 c1; simp [Nd.gives, g37, g44, g55, c1]; done)
      | (refine .inr ⟨?_, OwnI.mk OwnI.own⟩; simp at g37 g44 c1; simp [Nd.gives, g37, g44, c1]; done)
      | (refine .inr ⟨?_, OwnI.mk OwnI.own⟩; simp at g37 g44 g55 c1; simp [Nd.gives, g37, g44, g55, c1]; done)
      | (refine .inr ⟨?_, OwnI.mk OwnI.own⟩; simp at g37 g44 g55; simp [Nd.gives, g37, g44, g55]; done)
      | (refine .inr ⟨?_, OwnI.mk OwnI.own⟩; simp at g37; simp [Nd.gives, g37]; done)
    obtain ⟨z, hz, oz⟩ : ∃ z : LNd, z = { y with x := Nd.asked y.x m.m } ∧ OwnI w9 D.NA D.ns.length D.nc 0 69 20 D.ns.length ((D.ns.set i z).flatMap ndC) := by
     rcases hcase with ⟨e1, e2⟩ | ⟨e1, e2⟩
     ·exact ⟨_, rfl, by rw [Nd.asked, if_pos e1]; exact e2⟩
     ·exact ⟨_, rfl, by rw [Nd.asked, if_neg (by rw [e1]; decide)]; exact e2⟩
    have hzt : z.x.term = y.x.term := by rw [hz, Nd.asked]; split <;> rfl
    have hQ : QuAt w9 F q (D.setN i z) := h.setI kpc oz hym (by rw [hz]) (by rw [hz, Nd.asked]; split <;> rfl) (by rw [hz])
    refine x_drawL (NoB) (allS) (.take 0 (.take 1 (.take 2 (.take 3 (.take 4 (.take 5 (.take 6 (.take 7 (.take 8 (.take 9 (.take 10 (.take 11 (.free 12 .done))))))))))))) mixed (by kernel_rfl) (fun _ _ _ _ _ h => h) (fun w10 l10 => ?_)
    refine xt_v rfl v_move ?_
    refine xt_Fb rfl ?_
    refine xt_Lc rfl ?_
    refine xt_Fb rfl ?_
    refine xt_Lc rfl ?_
    refine xt_v rfl v_move ?_
    refine xt_Nc rfl ?_
    refine xt_Fb rfl ?_
    refine xt_Fb rfl ?_
    refine xt_Lc rfl ?_
    refine xt_v rfl (v_congr (u := .bool (y.x.gives m.m)) v_move (congrArg Value.bool (by
        first
         | (simp at g37 g44 c1; simp [Nd.gives, g37, g44, c1]; done)
         | (simp at g37 g44 g55 c1; simp [Nd.gives, g37, g44, g55, c1]; done)
         | (simp at g37 g44 g55; simp [Nd.gives, g37, g44, g55]; done)
         | (simp at g37; simp [Nd.gives, g37]; done)))) ?_
    refine xt_v rfl v_build ?_
    refine xt_fcall rfl (send_ok q (D.setN i z) F ⟨{ Bl.zero with kind := 2, frm := m.m.to, to := m.m.frm, term := z.x.term, ok := y.x.gives m.m }, none, 0⟩ w10 (hQ.ext kpc) (FRow.nil _ _) (Nat.le_refl _)) ?_
    rintro _ w11 ⟨⟨BA, bc, rfl, hQ2, hBA⟩, lk12⟩
    refine ⟨kpa, ?_⟩
    refine xt_nil ?_
    refine fin0 rfl ?_
    have hB2 : blkA BA = blkA (D.setN i z).BA ∨ ∀ k, blkA BA = some k → w.heap.size ≤ k := hBA.imp id (fun h k e => Nat.le_trans Ge.le (h k e))
    refine ⟨rfl, ⟨_, F, hQ2, ?_, Sub.refl _ _, quB_sent (D := D.setN i z) hB2⟩, lkc⟩
    rw [pure_sent, pure_setN, hzt, hz]
    unfold Qu.asked Nd.asked
    rw [hm.to]
    rfl
   ·
    refine x_skip ?_
    have hcase : (y.x.gives m.m = true ∧ OwnI w8 D.NA D.ns.length D.nc 0 69 20 D.ns.length ((D.ns.set i { y with x := { y.x with vote := m.m.frm } }).flatMap ndC)) ∨ (y.x.gives m.m = false ∧ OwnI w8 D.NA D.ns.length D.nc 0 69 20 D.ns.length ((D.ns.set i y).flatMap ndC)) := by
     first
      | (refine .inl ⟨?_, o6⟩; simp at g37 g44 c1; simp [Nd.gives, g37, g44, c1]; done)
      | (refine .inl ⟨?_, o6⟩; simp at g37 g44 g55 c1; simp [Nd.gives, g37, g44, g55, c1]; done)
      | (refine .inr ⟨?_, OwnI.mk OwnI.own⟩; simp at g37 g44 c1; simp [Nd.gives, g37, g44, c1]; done)
      | (refine .inr ⟨?_, OwnI.mk OwnI.own⟩; simp at g37 g44 g55 c1; simp [Nd.gives, g37, g44, g55, c1]; done)
      | (refine .inr ⟨?_, OwnI.mk OwnI.own⟩; simp at g37 g44 g55; simp [Nd.gives, g37, g44, g55]; done)
      | (refine .inr ⟨?_, OwnI.mk OwnI.own⟩; simp at g37; simp [Nd.gives, g37]; done)
    obtain ⟨z, hz, oz⟩ : ∃ z : LNd, z = { y with x := Nd.asked y.x m.m } ∧ OwnI w8 D.NA D.ns.length D.nc 0 69 20 D.ns.length ((D.ns.set i z).flatMap ndC) := by
     rcases hcase with ⟨e1, e2⟩ | ⟨e1, e2⟩
     ·exact ⟨_, rfl, by rw [Nd.asked, if_pos e1]; exact e2⟩
     ·exact ⟨_, rfl, by rw [Nd.asked, if_neg (by rw [e1]; decide)]; exact e2⟩
    have hzt : z.x.term = y.x.term := by rw [hz, Nd.asked]; split <;> rfl
    have hQ : QuAt w8 F q (D.setN i z) := h.setI kpc oz hym (by rw [hz]) (by rw [hz, Nd.asked]; split <;> rfl) (by rw [hz])
    refine x_drawL (NoB) (allS) (.take 0 (.take 1 (.take 2 (.take 3 (.take 4 (.take 5 (.take 6 (.take 7 (.take 8 (.take 9 (.take 10 (.take 11 (.free 12 .done))))))))))))) mixed (by kernel_rfl) (fun _ _ _ _ _ h => h) (fun w12 l12 => ?_)
    refine xt_v rfl v_move ?_
    refine xt_Fb rfl ?_
    refine xt_Lc rfl ?_
    refine xt_Fb rfl ?_
    refine xt_Lc rfl ?_
    refine xt_v rfl v_move ?_
    refine xt_Nc rfl ?_
    refine xt_Fb rfl ?_
    refine xt_Fb rfl ?_
    refine xt_Lc rfl ?_
    refine xt_v rfl (v_congr (u := .bool (y.x.gives m.m)) v_move (congrArg Value.bool (by
        first
         | (simp at g37 g44 c1; simp [Nd.gives, g37, g44, c1]; done)
         | (simp at g37 g44 g55 c1; simp [Nd.gives, g37, g44, g55, c1]; done)
         | (simp at g37 g44 g55; simp [Nd.gives, g37, g44, g55]; done)
         | (simp at g37; simp [Nd.gives, g37]; done)))) ?_
    refine xt_v rfl v_build ?_
    refine xt_fcall rfl (send_ok q (D.setN i z) F ⟨{ Bl.zero with kind := 2, frm := m.m.to, to := m.m.frm, term := z.x.term, ok := y.x.gives m.m }, none, 0⟩ w12 (hQ.ext kpc) (FRow.nil _ _) (Nat.le_refl _)) ?_
    rintro _ w13 ⟨⟨BA, bc, rfl, hQ2, hBA⟩, lk12⟩
    refine ⟨kpa, ?_⟩
    refine xt_nil ?_
    refine fin0 rfl ?_
    have hB2 : blkA BA = blkA (D.setN i z).BA ∨ ∀ k, blkA BA = some k → w.heap.size ≤ k := hBA.imp id (fun h k e => Nat.le_trans Ge.le (h k e))
    refine ⟨rfl, ⟨_, F, hQ2, ?_, Sub.refl _ _, quB_sent (D := D.setN i z) hB2⟩, lkc⟩
    rw [pure_sent, pure_setN, hzt, hz]
    unfold Qu.asked Nd.asked
    rw [hm.to]
    rfl
  ·
   refine xt_gv rfl rfl EvO.eq v_move ?_
   refine xt_gNc rfl rfl EvO.eq ?_
   refine xt_gFb rfl rfl EvO.eq ?_
   refine xt_gFb rfl rfl EvO.eq ?_
   refine xt_gLc rfl rfl EvO.eq ?_
   refine xt_gFb rfl rfl EvO.eq ?_
   refine xt_gLc rfl rfl EvO.eq ?_
   refine xt_gv rfl rfl EvO.eq v_eql ?_
   refine xt_gPk rfl rfl EvO.eq ?_
   refine xt_Pk rfl ?_
   refine xt_v rfl v_move ?_
   refine xt_split 55 (fun g55 => ?_) (fun g55 => ?_)
   ·
    refine xt_gv rfl rfl EvO.eq v_move ?_
    refine xt_gv rfl rfl EvO.eq v_not ?_
    refine xt_Pk rfl ?_
    refine xt_v rfl v_assign ?_
    refine xt_nil ?_
    refine x_seq ?_
    refine x_seq ?_
    refine x_regionL ?_
    refine xl_v v_move ?_
    refine xl_nil ?_
    refine x_condE (fun c1 => ?_) (fun c1 => ?_)
    ·
     refine x_regionL ?_
     refine xl_v v_move ?_
     refine xl_Fb ?_
     refine xl_Lc ?_
     refine xl_Nc ?_
     refine xl_Fb ?_
     refine xl_Fb ?_
     refine xl_s (e_storeC i 1 { y with x := { y.x with vote := m.m.frm } } fun w14 l6 o6 => ?_)
     refine xl_nil ?_
     have hcase : (y.x.gives m.m = true ∧ OwnI w14 D.NA D.ns.length D.nc 0 69 20 D.ns.length ((D.ns.set i { y with x := { y.x with vote := m.m.frm } }).flatMap ndC)) ∨ (y.x.gives m.m = false ∧ OwnI w14 D.NA D.ns.length D.nc 0 69 20 D.ns.length ((D.ns.set i y).flatMap ndC)) := by
      first
       | (refine .inl ⟨?_, o6⟩; simp at g37 g44 c1; simp [Nd.gives, g37, g44, c1]; done)
       | (refine .inl ⟨?_, o6⟩; simp at g37 g44 g55 c1; simp [Nd.gives, g37, g44, g55, c1]; done)
       | (refine .inr ⟨?_, OwnI.mk OwnI.own⟩; simp at g37 g44 c1; simp [Nd.gives, g37, g44, c1]; done)
       | (refine .inr ⟨?_, OwnI.mk OwnI.own⟩; simp at g37 g44 g55 c1; simp [Nd.gives, g37, g44, g55, c1]; done)
       | (refine .inr ⟨?_, OwnI.mk OwnI.own⟩; simp at g37 g44 g55; simp [Nd.gives, g37, g44, g55]; done)
       | (refine .inr ⟨?_, OwnI.mk OwnI.own⟩; simp at g37; simp [Nd.gives, g37]; done)
     obtain ⟨z, hz, oz⟩ : ∃ z : LNd, z = { y with x := Nd.asked y.x m.m } ∧ OwnI w14 D.NA D.ns.length D.nc 0 69 20 D.ns.length ((D.ns.set i z).flatMap ndC) := by
      rcases hcase with ⟨e1, e2⟩ | ⟨e1, e2⟩
      ·exact ⟨_, rfl, by rw [Nd.asked, if_pos e1]; exact e2⟩
      ·exact ⟨_, rfl, by rw [Nd.asked, if_neg (by rw [e1]; decide)]; exact e2⟩
     have hzt : z.x.term = y.x.term := by rw [hz, Nd.asked]; split <;> rfl
     have hQ : QuAt w14 F q (D.setN i z) := h.setI kpc oz hym (by rw [hz]) (by rw [hz, Nd.asked]; split <;> rfl) (by rw [hz])
     refine x_drawL (NoB) (allS) (.take 0 (.take 1 (.take 2 (.take 3 (.take 4 (.take 5 (.take 6 (.take 7 (.take 8 (.take 9 (.take 10 (.take 11 (.free 12 .done))))))))))))) mixed (by kernel_rfl) (fun _ _ _ _ _ h => h) (fun w15 l15 => ?_)
     refine xt_v rfl v_move ?_
     refine xt_Fb rfl ?_
     refine xt_Lc rfl ?_
     refine xt_Fb rfl ?_
     refine xt_Lc rfl ?_
     refine xt_v rfl v_move ?_
     refine xt_Nc rfl ?_
     refine xt_Fb rfl ?_
     refine xt_Fb rfl ?_
     refine xt_Lc rfl ?_
     refine xt_v rfl (v_congr (u := .bool (y.x.gives m.m)) v_move (congrArg Value.bool (by
         first
          | (simp at g37 g44 c1; simp [Nd.gives, g37, g44, c1]; done)
          | (simp at g37 g44 g55 c1; simp [Nd.gives, g37, g44, g55, c1]; done)
          | (simp at g37 g44 g55; simp [Nd.gives, g37, g44, g55]; done)
          | (simp at g37; simp [Nd.gives, g37]; done)))) ?_
     refine xt_v rfl v_build ?_
     refine xt_fcall rfl (send_ok q (D.setN i z) F ⟨{ Bl.zero with kind := 2, frm := m.m.to, to := m.m.frm, term := z.x.term, ok := y.x.gives m.m }, none, 0⟩ w15 (hQ.ext kpc) (FRow.nil _ _) (Nat.le_refl _)) ?_
     rintro _ w16 ⟨⟨BA, bc, rfl, hQ2, hBA⟩, lk12⟩
     refine ⟨kpa, ?_⟩
     refine xt_nil ?_
     refine fin0 rfl ?_
     have hB2 : blkA BA = blkA (D.setN i z).BA ∨ ∀ k, blkA BA = some k → w.heap.size ≤ k := hBA.imp id (fun h k e => Nat.le_trans Ge.le (h k e))
     refine ⟨rfl, ⟨_, F, hQ2, ?_, Sub.refl _ _, quB_sent (D := D.setN i z) hB2⟩, lkc⟩
     rw [pure_sent, pure_setN, hzt, hz]
     unfold Qu.asked Nd.asked
     rw [hm.to]
     rfl
    ·
     refine x_skip ?_
     have hcase : (y.x.gives m.m = true ∧ OwnI w8 D.NA D.ns.length D.nc 0 69 20 D.ns.length ((D.ns.set i { y with x := { y.x with vote := m.m.frm } }).flatMap ndC)) ∨ (y.x.gives m.m = false ∧ OwnI w8 D.NA D.ns.length D.nc 0 69 20 D.ns.length ((D.ns.set i y).flatMap ndC)) := by
      first
       | (refine .inl ⟨?_, o6⟩; simp at g37 g44 c1; simp [Nd.gives, g37, g44, c1]; done)
       | (refine .inl ⟨?_, o6⟩; simp at g37 g44 g55 c1; simp [Nd.gives, g37, g44, g55, c1]; done)
       | (refine .inr ⟨?_, OwnI.mk OwnI.own⟩; simp at g37 g44 c1; simp [Nd.gives, g37, g44, c1]; done)
       | (refine .inr ⟨?_, OwnI.mk OwnI.own⟩; simp at g37 g44 g55 c1; simp [Nd.gives, g37, g44, g55, c1]; done)
       | (refine .inr ⟨?_, OwnI.mk OwnI.own⟩; simp at g37 g44 g55; simp [Nd.gives, g37, g44, g55]; done)
       | (refine .inr ⟨?_, OwnI.mk OwnI.own⟩; simp at g37; simp [Nd.gives, g37]; done)
     obtain ⟨z, hz, oz⟩ : ∃ z : LNd, z = { y with x := Nd.asked y.x m.m } ∧ OwnI w8 D.NA D.ns.length D.nc 0 69 20 D.ns.length ((D.ns.set i z).flatMap ndC) := by
      rcases hcase with ⟨e1, e2⟩ | ⟨e1, e2⟩
      ·exact ⟨_, rfl, by rw [Nd.asked, if_pos e1]; exact e2⟩
      ·exact ⟨_, rfl, by rw [Nd.asked, if_neg (by rw [e1]; decide)]; exact e2⟩
     have hzt : z.x.term = y.x.term := by rw [hz, Nd.asked]; split <;> rfl
     have hQ : QuAt w8 F q (D.setN i z) := h.setI kpc oz hym (by rw [hz]) (by rw [hz, Nd.asked]; split <;> rfl) (by rw [hz])
     refine x_drawL (NoB) (allS) (.take 0 (.take 1 (.take 2 (.take 3 (.take 4 (.take 5 (.take 6 (.take 7 (.take 8 (.take 9 (.take 10 (.take 11 (.free 12 .done))))))))))))) mixed (by kernel_rfl) (fun _ _ _ _ _ h => h) (fun w17 l17 => ?_)
     refine xt_v rfl v_move ?_
     refine xt_Fb rfl ?_
     refine xt_Lc rfl ?_
     refine xt_Fb rfl ?_
     refine xt_Lc rfl ?_
     refine xt_v rfl v_move ?_
     refine xt_Nc rfl ?_
     refine xt_Fb rfl ?_
     refine xt_Fb rfl ?_
     refine xt_Lc rfl ?_
     refine xt_v rfl (v_congr (u := .bool (y.x.gives m.m)) v_move (congrArg Value.bool (by
         first
          | (simp at g37 g44 c1; simp [Nd.gives, g37, g44, c1]; done)
          | (simp at g37 g44 g55 c1; simp [Nd.gives, g37, g44, g55, c1]; done)
          | (simp at g37 g44 g55; simp [Nd.gives, g37, g44, g55]; done)
          | (simp at g37; simp [Nd.gives, g37]; done)))) ?_
     refine xt_v rfl v_build ?_
     refine xt_fcall rfl (send_ok q (D.setN i z) F ⟨{ Bl.zero with kind := 2, frm := m.m.to, to := m.m.frm, term := z.x.term, ok := y.x.gives m.m }, none, 0⟩ w17 (hQ.ext kpc) (FRow.nil _ _) (Nat.le_refl _)) ?_
     rintro _ w18 ⟨⟨BA, bc, rfl, hQ2, hBA⟩, lk12⟩
     refine ⟨kpa, ?_⟩
     refine xt_nil ?_
     refine fin0 rfl ?_
     have hB2 : blkA BA = blkA (D.setN i z).BA ∨ ∀ k, blkA BA = some k → w.heap.size ≤ k := hBA.imp id (fun h k e => Nat.le_trans Ge.le (h k e))
     refine ⟨rfl, ⟨_, F, hQ2, ?_, Sub.refl _ _, quB_sent (D := D.setN i z) hB2⟩, lkc⟩
     rw [pure_sent, pure_setN, hzt, hz]
     unfold Qu.asked Nd.asked
     rw [hm.to]
     rfl
   ·
    refine xt_gs rfl rfl EvO.eq ?_
    refine xt_gs rfl rfl EvO.eq ?_
    refine xt_Pk rfl ?_
    refine xt_v rfl v_assign ?_
    refine xt_nil ?_
    refine x_seq ?_
    refine x_seq ?_
    refine x_regionL ?_
    refine xl_v v_move ?_
    refine xl_nil ?_
    refine x_condF ?_
    refine x_skip ?_
    have hcase : (y.x.gives m.m = true ∧ OwnI w8 D.NA D.ns.length D.nc 0 69 20 D.ns.length ((D.ns.set i { y with x := { y.x with vote := m.m.frm } }).flatMap ndC)) ∨ (y.x.gives m.m = false ∧ OwnI w8 D.NA D.ns.length D.nc 0 69 20 D.ns.length ((D.ns.set i y).flatMap ndC)) := by
     first
      | (refine .inl ⟨?_, o6⟩; simp at g37 g44 c1; simp [Nd.gives, g37, g44, c1]; done)
      | (refine .inl ⟨?_, o6⟩; simp at g37 g44 g55 c1; simp [Nd.gives, g37, g44, g55, c1]; done)
      | (refine .inr ⟨?_, OwnI.mk OwnI.own⟩; simp at g37 g44 c1; simp [Nd.gives, g37, g44, c1]; done)
      | (refine .inr ⟨?_, OwnI.mk OwnI.own⟩; simp at g37 g44 g55 c1; simp [Nd.gives, g37, g44, g55, c1]; done)
      | (refine .inr ⟨?_, OwnI.mk OwnI.own⟩; simp at g37 g44 g55; simp [Nd.gives, g37, g44, g55]; done)
      | (refine .inr ⟨?_, OwnI.mk OwnI.own⟩; simp at g37; simp [Nd.gives, g37]; done)
    obtain ⟨z, hz, oz⟩ : ∃ z : LNd, z = { y with x := Nd.asked y.x m.m } ∧ OwnI w8 D.NA D.ns.length D.nc 0 69 20 D.ns.length ((D.ns.set i z).flatMap ndC) := by
     rcases hcase with ⟨e1, e2⟩ | ⟨e1, e2⟩
     ·exact ⟨_, rfl, by rw [Nd.asked, if_pos e1]; exact e2⟩
     ·exact ⟨_, rfl, by rw [Nd.asked, if_neg (by rw [e1]; decide)]; exact e2⟩
    have hzt : z.x.term = y.x.term := by rw [hz, Nd.asked]; split <;> rfl
    have hQ : QuAt w8 F q (D.setN i z) := h.setI kpc oz hym (by rw [hz]) (by rw [hz, Nd.asked]; split <;> rfl) (by rw [hz])
    refine x_drawL (NoB) (allS) (.take 0 (.take 1 (.take 2 (.take 3 (.take 4 (.take 5 (.take 6 (.take 7 (.take 8 (.take 9 (.take 10 (.take 11 (.free 12 .done))))))))))))) mixed (by kernel_rfl) (fun _ _ _ _ _ h => h) (fun w19 l19 => ?_)
    refine xt_v rfl v_move ?_
    refine xt_Fb rfl ?_
    refine xt_Lc rfl ?_
    refine xt_Fb rfl ?_
    refine xt_Lc rfl ?_
    refine xt_v rfl v_move ?_
    refine xt_Nc rfl ?_
    refine xt_Fb rfl ?_
    refine xt_Fb rfl ?_
    refine xt_Lc rfl ?_
    refine xt_v rfl (v_congr (u := .bool (y.x.gives m.m)) v_move (congrArg Value.bool (by
        first
         | (simp at g37 g44 c1; simp [Nd.gives, g37, g44, c1]; done)
         | (simp at g37 g44 g55 c1; simp [Nd.gives, g37, g44, g55, c1]; done)
         | (simp at g37 g44 g55; simp [Nd.gives, g37, g44, g55]; done)
         | (simp at g37; simp [Nd.gives, g37]; done)))) ?_
    refine xt_v rfl v_build ?_
    refine xt_fcall rfl (send_ok q (D.setN i z) F ⟨{ Bl.zero with kind := 2, frm := m.m.to, to := m.m.frm, term := z.x.term, ok := y.x.gives m.m }, none, 0⟩ w19 (hQ.ext kpc) (FRow.nil _ _) (Nat.le_refl _)) ?_
    rintro _ w20 ⟨⟨BA, bc, rfl, hQ2, hBA⟩, lk12⟩
    refine ⟨kpa, ?_⟩
    refine xt_nil ?_
    refine fin0 rfl ?_
    have hB2 : blkA BA = blkA (D.setN i z).BA ∨ ∀ k, blkA BA = some k → w.heap.size ≤ k := hBA.imp id (fun h k e => Nat.le_trans Ge.le (h k e))
    refine ⟨rfl, ⟨_, F, hQ2, ?_, Sub.refl _ _, quB_sent (D := D.setN i z) hB2⟩, lkc⟩
    rw [pure_sent, pure_setN, hzt, hz]
    unfold Qu.asked Nd.asked
    rw [hm.to]
    rfl
 ·
  refine xt_gs rfl rfl EvO.eq ?_
  refine xt_gs rfl rfl EvO.eq ?_
  refine xt_gs rfl rfl EvO.eq ?_
  refine xt_gs rfl rfl EvO.eq ?_
  refine xt_gs rfl rfl EvO.eq ?_
  refine xt_gs rfl rfl EvO.eq ?_
  refine xt_gs rfl rfl EvO.eq ?_
  refine xt_gu rfl rfl EvO.eq ?_
  refine xt_gu rfl rfl EvO.eq ?_
  refine xt_gu rfl rfl EvO.eq ?_
  refine xt_gu rfl rfl EvO.eq ?_
  refine xt_gu rfl rfl EvO.eq ?_
  refine xt_gu rfl rfl EvO.eq ?_
  refine xt_gu rfl rfl EvO.eq ?_
  refine xt_gu rfl rfl EvO.eq ?_
  refine xt_gs rfl rfl EvO.eq ?_
  refine xt_Pk rfl ?_
  refine xt_v rfl v_move ?_
  refine xt_gs rfl rfl EvO.eq ?_
  refine xt_gs rfl rfl EvO.eq ?_
  refine xt_Pk rfl ?_
  refine xt_v rfl v_assign ?_
  refine xt_nil ?_
  refine x_seq ?_
  refine x_seq ?_
  refine x_regionL ?_
  refine xl_v v_move ?_
  refine xl_nil ?_
  refine x_condF ?_
  refine x_skip ?_
  have hcase : (y.x.gives m.m = true ∧ OwnI w8 D.NA D.ns.length D.nc 0 69 20 D.ns.length ((D.ns.set i { y with x := { y.x with vote := m.m.frm } }).flatMap ndC)) ∨ (y.x.gives m.m = false ∧ OwnI w8 D.NA D.ns.length D.nc 0 69 20 D.ns.length ((D.ns.set i y).flatMap ndC)) := by
   first
    | (refine .inl ⟨?_, o6⟩; simp at g37 g44 c1; simp [Nd.gives, g37, g44, c1]; done)
    | (refine .inl ⟨?_, o6⟩; simp at g37 g44 g55 c1; simp [Nd.gives, g37, g44, g55, c1]; done)
    | (refine .inr ⟨?_, OwnI.mk OwnI.own⟩; simp at g37 g44 c1; simp [Nd.gives, g37, g44, c1]; done)
    | (refine .inr ⟨?_, OwnI.mk OwnI.own⟩; simp at g37 g44 g55 c1; simp [Nd.gives, g37, g44, g55, c1]; done)
    | (refine .inr ⟨?_, OwnI.mk OwnI.own⟩; simp at g37 g44 g55; simp [Nd.gives, g37, g44, g55]; done)
    | (refine .inr ⟨?_, OwnI.mk OwnI.own⟩; simp at g37; simp [Nd.gives, g37]; done)
  obtain ⟨z, hz, oz⟩ : ∃ z : LNd, z = { y with x := Nd.asked y.x m.m } ∧ OwnI w8 D.NA D.ns.length D.nc 0 69 20 D.ns.length ((D.ns.set i z).flatMap ndC) := by
   rcases hcase with ⟨e1, e2⟩ | ⟨e1, e2⟩
   ·exact ⟨_, rfl, by rw [Nd.asked, if_pos e1]; exact e2⟩
   ·exact ⟨_, rfl, by rw [Nd.asked, if_neg (by rw [e1]; decide)]; exact e2⟩
  have hzt : z.x.term = y.x.term := by rw [hz, Nd.asked]; split <;> rfl
  have hQ : QuAt w8 F q (D.setN i z) := h.setI kpc oz hym (by rw [hz]) (by rw [hz, Nd.asked]; split <;> rfl) (by rw [hz])
  refine x_drawL (NoB) (allS) (.take 0 (.take 1 (.take 2 (.take 3 (.take 4 (.take 5 (.take 6 (.take 7 (.take 8 (.take 9 (.take 10 (.take 11 (.free 12 .done))))))))))))) mixed (by kernel_rfl) (fun _ _ _ _ _ h => h) (fun w21 l21 => ?_)
  refine xt_v rfl v_move ?_
  refine xt_Fb rfl ?_
  refine xt_Lc rfl ?_
  refine xt_Fb rfl ?_
  refine xt_Lc rfl ?_
  refine xt_v rfl v_move ?_
  refine xt_Nc rfl ?_
  refine xt_Fb rfl ?_
  refine xt_Fb rfl ?_
  refine xt_Lc rfl ?_
  refine xt_v rfl (v_congr (u := .bool (y.x.gives m.m)) v_move (congrArg Value.bool (by
      first
       | (simp at g37 g44 c1; simp [Nd.gives, g37, g44, c1]; done)
       | (simp at g37 g44 g55 c1; simp [Nd.gives, g37, g44, g55, c1]; done)
       | (simp at g37 g44 g55; simp [Nd.gives, g37, g44, g55]; done)
       | (simp at g37; simp [Nd.gives, g37]; done)))) ?_
  refine xt_v rfl v_build ?_
  refine xt_fcall rfl (send_ok q (D.setN i z) F ⟨{ Bl.zero with kind := 2, frm := m.m.to, to := m.m.frm, term := z.x.term, ok := y.x.gives m.m }, none, 0⟩ w21 (hQ.ext kpc) (FRow.nil _ _) (Nat.le_refl _)) ?_
  rintro _ w22 ⟨⟨BA, bc, rfl, hQ2, hBA⟩, lk12⟩
  refine ⟨kpa, ?_⟩
  refine xt_nil ?_
  refine fin0 rfl ?_
  have hB2 : blkA BA = blkA (D.setN i z).BA ∨ ∀ k, blkA BA = some k → w.heap.size ≤ k := hBA.imp id (fun h k e => Nat.le_trans Ge.le (h k e))
  refine ⟨rfl, ⟨_, F, hQ2, ?_, Sub.refl _ _, quB_sent (D := D.setN i z) hB2⟩, lkc⟩
  rw [pure_sent, pure_setN, hzt, hz]
  unfold Qu.asked Nd.asked
  rw [hm.to]
  rfl
end Go.Proofs.YtljdkelgapndgaaGreat
set_option linter.all false
set_option maxRecDepth 100000
set_option synthInstance.maxSize 100000
set_option synthInstance.maxHeartbeats 400000
namespace Go.Proofs.YtljdkelgapndgaaGreat
open Go.Wst
open Go.Wst.Qm
theorem setN_setNL (D : LQu) (i : Nat) (a b : LNd) : (D.setN i a).setN i b = D.setN i b := by simp [LQu.setN, List.set_set]
theorem get_setNL {D : LQu} {i : Nat} {y : LNd} (hi : i < D.ns.length) : (D.setN i y).ns[i]? = some y := by simp [LQu.setN, hi]
theorem MsgAt.nat {w : World} {F : Nat → Prop} {D : LQu} {i : Nat} {m : LBl} (h : MsgAt w F D i m) : ∃ f : Nat, m.m.frm = (f : Int) ∧ f < D.ns.length := ⟨m.m.frm.toNat, by have := h.f.1; omega, by have := h.f.1; have := h.f.2; omega⟩
theorem QMade.stay {q : Nat} {F : Nat → Prop} {D : LQu} {w w' : World} {M : Qu} (h : QuAt w F q D) (hk : Keep NoB w w') (he : M = D.pure) : QMade q F D w M w' := ⟨D, F, h.ext hk, he.symm, Sub.refl _ _, fun k e => .inl e⟩
theorem QMade.set {q : Nat} {F : Nat → Prop} {D : LQu} {w w' : World} {M : Qu} {i : Nat} {y : LNd} (h : QuAt w' F q (D.setN i y)) (he : M = D.pure.setN i y.x) : QMade q F D w M w' := ⟨_, F, h, by rw [pure_setN, he], Sub.refl _ _, fun k e => .inl e⟩

theorem voted_ok (q : Nat) (D : LQu) (F : Nat → Prop) (i : Nat) (y : LNd) (m : LBl) (w : World) (h : QuAt w F q D) (hy : D.ns[i]? = some y) (hm : MsgAt w F D i m) (hn5 : D.ns.length ≤ 5) (hvl : y.x.votes.length = 5) (hnl : y.x.next.length = 5) (hml : y.x.mat.length = 5) (hll : y.x.log.length ≤ 256) : Ret Tryz.prog 75 #[.pointer (some ⟨q, 0, none⟩), padd D.NA (i * 20), .agg (blC m).toArray] w (fun v w' => v = .tuple #[] ∧ QMade q F D w (D.pure.voted m.m y.x) w' ∧ Lk w' w (QuB q D)) := by
 haveI hb : Blk w q _ := ⟨h.hb⟩
 have hi : i < D.ns.length := (List.getElem?_eq_some_iff.1 hy).1
 haveI li : LtI i D.ns.length := ⟨hi⟩
 have hA := h.n1
 have hym : y ∈ D.ns := List.mem_of_getElem? hy
 haveI hN : OwnI w D.NA D.ns.length D.nc 0 69 20 D.ns.length ((D.ns.set i y).flatMap ndC) := ⟨by rw [set_self hy]; exact h.nodes⟩
 haveI hrl : Row w y.A (cmdsC y.x.log) := ⟨(h.logs y hym).row⟩
 haveI hro : ∀ n c, RowOut (OwnB (.slice D.NA n c)) y.A := fun n c => (h.logs y hym).out (fun k e e2 => h.fq k e (.inr (.inl (ownB_blk.1 e2))))
 haveI hqn := h.qn
 have hil : i < (D.ns.set i y).length := by simpa using hi
 refine ret_of_x (N := 35) (l := [.pointer (some ⟨q, 0, none⟩), padd D.NA (i * 20), .agg (blC m).toArray]) Tryz.func75 rfl rfl (Nat.le_of_ble_eq_true rfl) ?_
 refine x_seq ?_
 refine x_regionL ?_
 refine xl_e (e_box fun b1 w1 n1 l1 k1 => ?_)
 refine xl_nil ?_
 refine x_seq ?_
 refine x_drawL (NoB) (allS) (.take 0 (.take 1 (.take 2 (.take 3 (.take 4 (.take 5 (.take 6 (.take 7 (.take 8 (.take 9 (.take 10 (.take 11 (.take 12 (.take 13 (.take 14 (.take 15 (.take 16 (.take 17 (.take 18 .done))))))))))))))))))) mixed (by kernel_rfl) (fun _ _ _ _ _ h => h) (fun w2 l2 => ?_)
 refine xt_v rfl v_move ?_
 refine xt_Nc rfl ?_
 refine xt_Fb rfl ?_
 refine xt_Lc rfl ?_
 refine xt_v rfl v_eql ?_
 refine xt_v rfl v_move ?_
 refine xt_split 11 (fun g11 => ?_) (fun g11 => ?_)
 ·
  refine xt_gFb rfl rfl EvO.eq ?_
  refine xt_gLc rfl rfl EvO.eq ?_
  refine xt_gv rfl rfl EvO.eq v_move ?_
  refine xt_gNc rfl rfl EvO.eq ?_
  refine xt_gFb rfl rfl EvO.eq ?_
  refine xt_gFb rfl rfl EvO.eq ?_
  refine xt_gLc rfl rfl EvO.eq ?_
  refine xt_gv rfl rfl EvO.eq v_eql ?_
  refine xt_Pk rfl ?_
  refine xt_v rfl v_move ?_
  refine xt_split 21 (fun g21 => ?_) (fun g21 => ?_)
  ·
   refine xt_gFb rfl rfl EvO.eq ?_
   refine xt_gLc rfl rfl EvO.eq ?_
   refine xt_Pk rfl ?_
   refine xt_nil ?_
   refine x_condE (fun c1 => ?_) (fun c1 => ?_)
   ·
    have hyes : y.x.role = 2 ∧ m.m.term = y.x.term ∧ m.m.ok = true := ⟨by simpa using g11, by simpa using g21, c1⟩
    obtain ⟨fn, hfn, hfl⟩ := hm.nat
    refine x_seq ?_
    refine x_drawL (NoB) (allS) (.take 0 (.take 1 (.take 2 (.take 3 (.take 4 (.take 5 (.free 6 .done))))))) mixed (by kernel_rfl) (fun _ _ _ _ _ h => h) (fun w3 l3 => ?_)
    refine xt_v rfl v_move ?_
    refine xt_Fb rfl ?_
    refine xt_Lc rfl ?_
    refine xt_Nc rfl ?_
    refine xt_Fb rfl ?_
    refine xt_v rfl (v_indexAA hfn (by omega) (by decide) hA) ?_
    refine xt_fs rfl (e_storeC i (5 + fn) { y with x := { y.x with votes := y.x.votes.set fn true } } (ho := by simp; omega) (hu := setL_votes (k := fn) (by omega) (by exact hvl) _) fun w4 l6 o6 => ?_)
    refine xt_nil ?_
    refine x_regionL ?_
    refine xl_v v_move ?_
    refine xl_Fb ?_
    refine xl_v (v_congr (u := .int .i64 (i : Int)) v_load (by rw [hm.to])) ?_
    refine xl_call (leads_ok q (D.setN i { y with x := { y.x with votes := y.x.votes.set fn true } }) F i { y with x := { y.x with votes := y.x.votes.set fn true } } w4 (h.setI kpc (OwnI.mk OwnI.own) hym rfl rfl rfl) (get_setNL hi) (by rw [len_setNL]; exact hn5) (by simp; exact hvl) hnl hml hll) ?_
    rintro _ w5 ⟨rfl, hQ3, lk3⟩
    rw [setN_setNL, len_setNL] at hQ3
    have lk3' : Lk w5 w4 (OwnB (.slice D.NA (D.setN i { y with x := { y.x with votes := y.x.votes.set fn true } }).ns.length D.nc)) := lk3
    have hfin : QMade q F D w (D.pure.voted m.m y.x) w5 := QMade.set hQ3 (by
     unfold Qu.voted
     rw [if_pos hyes, pure_len, hm.to, hfn]
     rfl)
    refine xl_nil ?_
    refine fin0 rfl ?_
    first
    | exact ⟨rfl, hfin, lkc⟩
    | (have hno : ¬ (y.x.role = 2 ∧ m.m.term = y.x.term ∧ m.m.ok = true) := by
        rintro ⟨e1, e2, e3⟩
        first
         | (simp [e1] at g11; done)
         | (simp [e2] at g21; done)
         | (simp [e3] at c1; done)
       exact ⟨rfl, QMade.stay h kpc (if_neg hno), lkc⟩)
   ·
    refine x_skip ?_
    refine fin0 rfl ?_
    first
    | exact ⟨rfl, hfin, lkc⟩
    | (have hno : ¬ (y.x.role = 2 ∧ m.m.term = y.x.term ∧ m.m.ok = true) := by
        rintro ⟨e1, e2, e3⟩
        first
         | (simp [e1] at g11; done)
         | (simp [e2] at g21; done)
         | (simp [e3] at c1; done)
       exact ⟨rfl, QMade.stay h kpc (if_neg hno), lkc⟩)
  ·
   refine xt_gs rfl rfl EvO.eq ?_
   refine xt_gs rfl rfl EvO.eq ?_
   refine xt_Pk rfl ?_
   refine xt_nil ?_
   refine x_condF ?_
   refine x_skip ?_
   refine fin0 rfl ?_
   first
   | exact ⟨rfl, hfin, lkc⟩
   | (have hno : ¬ (y.x.role = 2 ∧ m.m.term = y.x.term ∧ m.m.ok = true) := by
       rintro ⟨e1, e2, e3⟩
       first
        | (simp [e1] at g11; done)
        | (simp [e2] at g21; done)
        | (simp [e3] at c1; done)
      exact ⟨rfl, QMade.stay h kpc (if_neg hno), lkc⟩)
 ·
  refine xt_gs rfl rfl EvO.eq ?_
  refine xt_gs rfl rfl EvO.eq ?_
  refine xt_gs rfl rfl EvO.eq ?_
  refine xt_gs rfl rfl EvO.eq ?_
  refine xt_gs rfl rfl EvO.eq ?_
  refine xt_gs rfl rfl EvO.eq ?_
  refine xt_gs rfl rfl EvO.eq ?_
  refine xt_gs rfl rfl EvO.eq ?_
  refine xt_Pk rfl ?_
  refine xt_v rfl v_move ?_
  refine xt_gs rfl rfl EvO.eq ?_
  refine xt_gs rfl rfl EvO.eq ?_
  refine xt_Pk rfl ?_
  refine xt_nil ?_
  refine x_condF ?_
  refine x_skip ?_
  refine fin0 rfl ?_
  first
  | exact ⟨rfl, hfin, lkc⟩
  | (have hno : ¬ (y.x.role = 2 ∧ m.m.term = y.x.term ∧ m.m.ok = true) := by
      rintro ⟨e1, e2, e3⟩
      first
       | (simp [e1] at g11; done)
       | (simp [e2] at g21; done)
       | (simp [e3] at c1; done)
     exact ⟨rfl, QMade.stay h kpc (if_neg hno), lkc⟩)
end Go.Proofs.YtljdkelgapndgaaGreat
