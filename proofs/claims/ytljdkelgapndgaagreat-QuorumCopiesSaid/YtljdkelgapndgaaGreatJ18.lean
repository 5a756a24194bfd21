/-
 Walks, printed by a program of this workplace (wip/tools/sx.py) off the functions' code and a text of contracts.
-/
import Derived.Test.YtljdkelgapndgaaGreatJ17
import Derived.Test.YtljdkelgapndgaaGreatJ3
set_option linter.all false
set_option maxRecDepth 100000
set_option synthInstance.maxSize 100000
set_option synthInstance.maxHeartbeats 400000
namespace Go.Proofs.YtljdkelgapndgaaGreat
open Go.Wst
open Go.Wst.Qm
theorem tidy_run {q : Qu} {G : Gh} (hI : Inv q G) (h : q.Tidy) (l : List Pk) : (q.run l).Tidy := by
 induction l generalizing q G with
 | nil => exact h
 | cons p l ih =>
   obtain ⟨G', hI'⟩ := hI.step p
   exact ih hI' (h.step hI p)
theorem ext_at {α β : Type} {l m : List α} {f g : α → β} (h : l.length = m.length) (he : ∀ i (h1 : i < l.length) (h2 : i < m.length), f l[i] = g m[i]) : l.map f = m.map g := by
 apply List.ext_getElem (by simpa using h)
 intro i a b
 simp only [List.getElem_map]
 exact he i _ _
theorem map_at {α β : Type} {l m : List α} {f g : α → β} (h : l.map f = m.map g) {i : Nat} (h1 : i < l.length) (h2 : i < m.length) : f l[i] = g m[i] := by
 have e : (l.map f)[i]? = (m.map g)[i]? := by rw [h]
 simpa [h1, h2] using e
set_option maxHeartbeats 2000000 in
theorem refSame_ok (P P2 : Nat → Prop) (R R2 : LDq) (w : World) (h : RefAt w P R) (h2 : RefAt w P2 R2) (hn5 : R.ns.length ≤ 5) (hb256 : R.bs.length ≤ 256) (hln : ∀ z ∈ R.ns, z.x.log.length ≤ 1000 ∧ z.x.votes.length ≤ 1000 ∧ z.x.next.length ≤ 1000 ∧ z.x.mat.length ≤ 1000) (hlb : ∀ y ∈ R.bs, y.m.cmds.length ≤ 1000) : Ret Tryz.prog 12 #[.agg (dqC R).toArray, .agg (dqC R2).toArray] w (fun v w' => v = .bool (decide (R.ns.map (·.x) = R2.ns.map (·.x) ∧ R.bs.map (·.m) = R2.bs.map (·.m))) ∧ Lk w' w NoB) := by
 haveI r1 : RowB w R.NA w (R.ns.flatMap anC) := rowB_of h.nodes.row
 haveI r2 : RowB w R.BA w (R.bs.flatMap blC) := rowB_of h.bag.row
 haveI r3 : RowB w R2.NA w (R2.ns.flatMap anC) := rowB_of h2.nodes.row
 haveI r4 : RowB w R2.BA w (R2.bs.flatMap blC) := rowB_of h2.bag.row
 refine ret_of_x (N := 61) (l := [.agg (dqC R).toArray, .agg (dqC R2).toArray]) Tryz.func12 rfl rfl (Nat.le_of_ble_eq_true rfl) ?_
 refine x_seq ?_
 refine x_regionL ?_
 refine xl_e (e_box fun b2 w1 n2 l2 k2 => ?_)
 refine xl_e (e_box fun b3 w2 n3 l3 k3 => ?_)
 refine xl_v v_assign ?_
 refine xl_nil ?_
 refine x_seq ?_
 refine x_seq ?_
 refine x_regionL ?_
 refine xl_Fb ?_
 refine xl_Lc ?_
 refine xl_v v_len ?_
 refine xl_Fb ?_
 refine xl_Lc ?_
 refine xl_v v_len ?_
 refine xl_v v_neq ?_
 refine xl_v v_move ?_
 refine xl_split 14 (fun g14 => ?_) (fun g14 => ?_)
 ·
  refine xl_gs rfl EvO.eq ?_
  refine xl_gs rfl EvO.eq ?_
  refine xl_gs rfl EvO.eq ?_
  refine xl_gs rfl EvO.eq ?_
  refine xl_gs rfl EvO.eq ?_
  refine xl_gs rfl EvO.eq ?_
  refine xl_gs rfl EvO.eq ?_
  refine xl_Pk ?_
  refine xl_nil ?_
  refine x_condT ?_
  refine x_seq ?_
  refine x_regionL ?_
  refine xl_v v_assign ?_
  refine xl_nil ?_
  refine x_ret ?_
  refine fin1 rfl ?_
  have hne : ¬ (R.ns.length = R2.ns.length ∧ R.bs.length = R2.bs.length) := by
   first
    | (simp at g14; omega)
    | (simp at g14 c1; omega)
  exact ⟨congrArg Value.bool (decide_eq_false fun e => hne ⟨by have := congrArg List.length e.1; simpa using this, by have := congrArg List.length e.2; simpa using this⟩).symm, lkc⟩
 ·
  refine xl_gFb rfl EvO.eq ?_
  refine xl_gLc rfl EvO.eq ?_
  refine xl_gv rfl EvO.eq v_len ?_
  refine xl_gFb rfl EvO.eq ?_
  refine xl_gLc rfl EvO.eq ?_
  refine xl_gv rfl EvO.eq v_len ?_
  refine xl_gv rfl EvO.eq v_neq ?_
  refine xl_Pk ?_
  refine xl_nil ?_
  refine x_condE (fun c1 => ?_) (fun c1 => ?_)
  ·
   refine x_seq ?_
   refine x_regionL ?_
   refine xl_v v_assign ?_
   refine xl_nil ?_
   refine x_ret ?_
   refine fin1 rfl ?_
   have hne : ¬ (R.ns.length = R2.ns.length ∧ R.bs.length = R2.bs.length) := by
    first
     | (simp at g14; omega)
     | (simp at g14 c1; omega)
   exact ⟨congrArg Value.bool (decide_eq_false fun e => hne ⟨by have := congrArg List.length e.1; simpa using this, by have := congrArg List.length e.2; simpa using this⟩).symm, lkc⟩
  ·
   refine x_skip ?_
   refine x_seq ?_
   refine x_seq ?_
   have hle : R.ns.length = R2.ns.length ∧ R.bs.length = R2.bs.length := by
    first
     | (simp at g14 c1; omega)
     | (simp at g14; omega)
   obtain ⟨hl1, hl2⟩ := hle
   refine x_regionL ?_
   refine xl_v v_assign ?_
   refine xl_nil ?_
   refine x_block ?_
   have hb2l : (w2).heap[b2]? = _ := Blk.eq
   have hb3l : (w2).heap[b3]? = _ := Blk.eq
   obtain ⟨wL, hwL⟩ : ∃ x, x = w2 := ⟨_, rfl⟩
   have hwwL : Keep NoB w wL := by rw [hwL]; exact kpc
   haveI lkLw : Lk wL w NoB := ⟨hwwL⟩
   rw [← hwL] at hb2l hb3l
   haveI : Blk wL b2 _ := ⟨hb2l⟩
   haveI : Blk wL b3 _ := ⟨hb3l⟩
   refine x_loop (fun t τ ds w' => ds = [] ∧ ∃ (k : Nat), t = R.ns.length - k ∧ k ≤ R.ns.length ∧ (∀ i (h1 : i < R.ns.length) (h2 : i < R2.ns.length), i < k → R.ns[i].x = R2.ns[i].x) ∧ Ev τ 2 (.pointer (some ⟨b2, 0, none⟩)) ∧ Ev τ 3 (.pointer (some ⟨b3, 0, none⟩)) ∧ Ev τ 5 (.int .i64 (k : Int)) ∧ Lk w' wL NoB) (R.ns.length) ?start ?round
   case start =>
    exact ⟨rfl, 0, rfl, Nat.zero_le _, fun i _ _ e => absurd e (Nat.not_lt_zero _), inferInstance, inferInstance, evc, by rw [hwL]; exact lkc⟩
   case round =>
    intro m τ3 ds3 w3 hI
    obtain ⟨rfl, k, rfl, hk, hpre, e2, e3, e5, lk⟩ := hI
    refine x_seq ?_
    refine x_seq ?_
    refine x_regionL ?_
    refine xl_v v_move ?_
    refine xl_Fb ?_
    refine xl_Lc ?_
    refine xl_v v_len ?_
    refine xl_v v_lss ?_
    refine xl_nil ?_
    first | refine x_condP (fun c2 => ?_) (fun c2 => ?_) | refine x_condN (fun c2 => ?_) (fun c2 => ?_) | refine x_condE (fun c2 => ?_) (fun c2 => ?_)
    ·
     have hk1 : k < R.ns.length := by omega
     have hk2 : k < R2.ns.length := by omega
     refine x_skip ?_
     refine x_seq ?_
     refine x_block ?_
     refine x_seq ?_
     refine x_drawL (NoB) (allS) (.take 0 (.take 1 (.take 2 (.take 3 (.take 4 (.take 5 (.take 6 (.take 7 (.take 8 (.take 9 (.eff 10 (.take 11 .done)))))))))))) mixed (by kernel_rfl) (fun _ _ _ _ _ h => h) (fun w4 l4 => ?_)
     refine xt_Fb rfl ?_
     refine xt_Lc rfl ?_
     refine xt_v rfl v_move ?_
     refine xt_v rfl (v_indexF k (by decide) rfl (by omega) hk1) ?_
     refine xt_v rfl (v_loadF (k := k) (by decide) hk1) ?_
     refine xt_Fb rfl ?_
     refine xt_Lc rfl ?_
     refine xt_v rfl v_move ?_
     refine xt_v rfl (v_indexF k (by decide) rfl (by omega) hk2) ?_
     refine xt_v rfl (v_loadF (k := k) (by decide) hk2) ?_
     refine xt_call rfl (sameN_ok P P2 R.ns[k] R2.ns[k] w4 ((h.rows _ (List.getElem_mem hk1)).ext (kpc : Keep NoB w w4)) ((h2.rows _ (List.getElem_mem hk2)).ext (kpc : Keep NoB w w4)) (hln _ (List.getElem_mem hk1))) ?_
     rintro _ w5 ⟨rfl, lk10⟩
     refine ⟨kpc, ?_⟩
     refine xt_v rfl v_not ?_
     refine xt_nil ?_
     refine x_condE (fun c3 => ?_) (fun c3 => ?_)
     ·
      refine x_seq ?_
      refine x_regionL ?_
      refine xl_v v_assign ?_
      refine xl_nil ?_
      refine x_ret ?_
      refine fin1 rfl ?_
      refine ⟨congrArg Value.bool (decide_eq_false fun e => ?_).symm, lkc⟩
      have e1 := map_at e.1 hk1 hk2
      simp [e1] at c3
     ·
      refine x_skip ?_
      refine x_regionL ?_
      refine xl_v v_move ?_
      refine xl_v (v_add (by omega)) ?_
      refine xl_v v_assign ?_
      refine xl_nil ?_
      refine ⟨_, ?_, rfl, k + 1, rfl, by omega, ?_, inferInstance, inferInstance, evc, lkc⟩
      ·omega
      ·intro i h1 h2 e
       rcases Nat.lt_succ_iff_lt_or_eq.1 e with e | e
       ·exact hpre i h1 h2 e
       ·subst e; simpa using c3
    ·
     have hns : R.ns.map (·.x) = R2.ns.map (·.x) := ext_at hl1 fun i a b => hpre i a b (by omega)
     refine x_exit ?_
     refine x_seq ?_
     refine x_seq ?_
     refine x_regionL ?_
     refine xl_v v_assign ?_
     refine xl_nil ?_
     refine x_block ?_
     obtain ⟨wM, hwM⟩ : ∃ x, x = w3 := ⟨_, rfl⟩
     have hlM : Lk wM wL NoB := by rw [hwM]; exact lkc
     refine x_loop (fun t τ ds w' => ds = [] ∧ ∃ (k : Nat), t = R.bs.length - k ∧ k ≤ R.bs.length ∧ (∀ i (h1 : i < R.bs.length) (h2 : i < R2.bs.length), i < k → R.bs[i].m = R2.bs[i].m) ∧ Ev τ 2 (.pointer (some ⟨b2, 0, none⟩)) ∧ Ev τ 3 (.pointer (some ⟨b3, 0, none⟩)) ∧ Ev τ 6 (.int .i64 (k : Int)) ∧ Lk w' wM NoB) (R.bs.length) ?start ?round
     case start =>
      exact ⟨rfl, 0, rfl, Nat.zero_le _, fun i _ _ e => absurd e (Nat.not_lt_zero _), inferInstance, inferInstance, evc, by rw [hwM]; exact lkc⟩
     case round =>
      intro m τ6 ds6 w6 hI
      clear e2 e3 e5 lk hpre
      obtain ⟨rfl, k, rfl, hk, hpre, e2, e3, e6, lk⟩ := hI
      haveI hlM2 := hlM
      refine x_seq ?_
      refine x_seq ?_
      refine x_regionL ?_
      refine xl_v v_move ?_
      refine xl_Fb ?_
      refine xl_Lc ?_
      refine xl_v v_len ?_
      refine xl_v v_lss ?_
      refine xl_nil ?_
      first | refine x_condP (fun c4 => ?_) (fun c4 => ?_) | refine x_condN (fun c4 => ?_) (fun c4 => ?_) | refine x_condE (fun c4 => ?_) (fun c4 => ?_)
      ·
       have hk1 : k < R.bs.length := by omega
       have hk2 : k < R2.bs.length := by omega
       haveI q1 : RowB w R.bs[k].A w (cmdsC R.bs[k].m.cmds) := rowB_of ((h.cmds _ (List.getElem_mem hk1))).row
       haveI q2 : RowB w R2.bs[k].A w (cmdsC R2.bs[k].m.cmds) := rowB_of ((h2.cmds _ (List.getElem_mem hk2))).row
       refine x_skip ?_
       refine x_seq ?_
       refine x_block ?_
       refine x_seq ?_
       refine x_drawL (NoB) (allS) (.take 0 (.take 1 (.take 2 (.take 3 (.take 4 (.take 5 (.take 6 (.take 7 (.take 8 (.take 9 (.eff 10 (.take 11 .done)))))))))))) mixed (by kernel_rfl) (fun _ _ _ _ _ h => h) (fun w7 l7 => ?_)
       refine xt_Fb rfl ?_
       refine xt_Lc rfl ?_
       refine xt_v rfl v_move ?_
       refine xt_v rfl (v_indexF k (by decide) rfl (by omega) hk1) ?_
       refine xt_v rfl (v_loadF (k := k) (by decide) hk1) ?_
       refine xt_Fb rfl ?_
       refine xt_Lc rfl ?_
       refine xt_v rfl v_move ?_
       refine xt_v rfl (v_indexF k (by decide) rfl (by omega) hk2) ?_
       refine xt_v rfl (v_loadF (k := k) (by decide) hk2) ?_
       refine xt_call rfl (sameB_ok R.bs[k] R2.bs[k] w7 (hlb _ (List.getElem_mem hk1))) ?_
       rintro _ w8 ⟨rfl, lk13⟩
       refine ⟨kpc, ?_⟩
       refine xt_v rfl v_not ?_
       refine xt_nil ?_
       refine x_condE (fun c5 => ?_) (fun c5 => ?_)
       ·
        refine x_seq ?_
        refine x_regionL ?_
        refine xl_v v_assign ?_
        refine xl_nil ?_
        refine x_ret ?_
        refine fin1 rfl ?_
        refine ⟨congrArg Value.bool (decide_eq_false fun e => ?_).symm, lkc⟩
        have e1 := map_at e.2 hk1 hk2
        simp [e1] at c5
       ·
        refine x_skip ?_
        refine x_regionL ?_
        refine xl_v v_move ?_
        refine xl_v (v_add (by omega)) ?_
        refine xl_v v_assign ?_
        refine xl_nil ?_
        refine ⟨_, ?_, rfl, k + 1, rfl, by omega, ?_, inferInstance, inferInstance, evc, lkc⟩
        ·omega
        ·intro i h1 h2 e
         rcases Nat.lt_succ_iff_lt_or_eq.1 e with e | e
         ·exact hpre i h1 h2 e
         ·subst e; simpa using c5
      ·
       have hbs : R.bs.map (·.m) = R2.bs.map (·.m) := ext_at hl2 fun i a b => hpre i a b (by omega)
       refine x_exit ?_
       refine x_seq ?_
       refine x_regionL ?_
       refine xl_v v_assign ?_
       refine xl_nil ?_
       refine x_ret ?_
       refine fin1 rfl ?_
       exact ⟨congrArg Value.bool (decide_eq_true ⟨hns, hbs⟩).symm, lkc⟩
end Go.Proofs.YtljdkelgapndgaaGreat
set_option linter.all false
set_option maxRecDepth 100000
set_option synthInstance.maxSize 100000
set_option synthInstance.maxHeartbeats 400000
namespace Go.Proofs.YtljdkelgapndgaaGreat
open Go.Wst
open Go.Wst.Qm
section
variable {w w' : World} {q c : Nat} {D D2 : LQu} {R : LDq} {M : Dq} {X F : Nat → Prop} {G : Gh}
theorem PairQ.two (h : PairQ X q D R M w) (hk : Keep NoB w w') (hQ : QuAt w F q D) (hI : Inv D.pure G) (hF : ∀ k, F k → ¬ X k) (hC : QuAt w' F c D2) (hp : D2.pure = D.pure) (hn : ∀ k, QuB c D2 k → w.heap.size ≤ k) :
    PairQ (fun k => X k ∨ QuB c D2 k) q D R M w' ∧ PairQ (fun k => X k ∨ QuB q D k) c D2 R M w' := by
 have hw := (h.ref.wide (P' := fun k => OutQ X q D k ∧ k < w.heap.size) (fun k e e2 => ⟨e2, e⟩)).ext hk
 refine ⟨⟨⟨F, G, hQ.ext hk, hI, fun k e e2 => ?_⟩, hw.wide (fun k _ e => ⟨e.1.1, fun e2 => ?_⟩), h.eq, fun k e => ?_⟩, ⟨⟨F, G, hC, by rw [hp]; exact hI, fun k e e2 => ?_⟩, hw.wide (fun k _ e => ⟨fun e2 => ?_, fun e2 => ?_⟩), h.eq, fun k e => ?_⟩⟩
 ·rcases e2 with e2 | e2
  ·exact hF k e e2
  ·exact hC.fq k e e2
 ·rcases e2 with e2 | e2
  ·exact e.1.2 e2
  ·have := hn k e2; have := e.2; omega
 ·rcases e with e | e
  ·exact ⟨Nat.lt_of_lt_of_le (h.xl k e).1 hk.size, (h.xl k e).2⟩
  ·exact ⟨hC.lt k e, fun e2 => by have := hn k e; have := hQ.lt k e2; omega⟩
 ·rcases e2 with e2 | e2
  ·exact hF k e e2
  ·exact hQ.fq k e e2
 ·have := hn k e2; have := e.2; omega
 ·rcases e2 with e2 | e2
  ·exact e.1.2 e2
  ·exact e.1.1 e2
 ·rcases e with e | e
  ·exact ⟨Nat.lt_of_lt_of_le (h.xl k e).1 hk.size, fun e2 => by have := hn k e2; have := (h.xl k e).1; omega⟩
  ·exact ⟨Nat.lt_of_lt_of_le (hQ.lt k e) hk.size, fun e2 => by have := hn k e2; have := hQ.lt k e; omega⟩
end
theorem same_iff {D1 D2 : LQu} {R R1 : LDq} {G1 G2 : Gh} (h1 : R1.pure = D1.pure.tell) (h2 : R.pure = D2.pure.tell) (I1 : Inv D1.pure G1) (I2 : Inv D2.pure G2) (t1 : D1.pure.Tidy) (t2 : D2.pure.Tidy) :
    (D1.pure.nodes = D2.pure.nodes ∧ D1.pure.bag = D2.pure.bag) ↔ (R.ns.map (·.x) = R1.ns.map (·.x) ∧ R.bs.map (·.m) = R1.bs.map (·.m)) := by
 constructor
 ·rintro ⟨e1, e2⟩
  have e : D1.pure = D2.pure := by
   obtain ⟨a1, a2⟩ : ∃ a b, D1.pure = ⟨a, b⟩ := ⟨_, _, rfl⟩
   cases h : D1.pure; cases h' : D2.pure
   rw [h, h'] at e1 e2
   simp only at e1 e2
   rw [e1, e2]
  have e3 : R.pure = R1.pure := by rw [h1, h2, e]
  exact ⟨congrArg Dq.nodes e3, congrArg Dq.bag e3⟩
 ·rintro ⟨e1, e2⟩
  have e3 : R.pure = R1.pure := by unfold LDq.pure; rw [e1, e2]
  exact tellQ_inj I1 I2 t1 t2 (by rw [← h1, ← h2, e3])
theorem told_lens {D : LQu} {R : LDq} {G : Gh} (hI : Inv D.pure G) (h : R.pure = D.pure.tell) : R.ns.length ≤ 5 ∧ R.bs.length ≤ 256 ∧ (∀ z ∈ R.ns, z.x.log.length ≤ 1000 ∧ z.x.votes.length ≤ 1000 ∧ z.x.next.length ≤ 1000 ∧ z.x.mat.length ≤ 1000) ∧ ∀ y ∈ R.bs, y.m.cmds.length ≤ 1000 := by
 have hok := node_ok_of hI
 obtain ⟨hb256, hcl⟩ := bag_of hI
 obtain ⟨hlen, hbags, hns⟩ := tell_at h
 have hbl : R.bs.length = D.bs.length := by have := congrArg List.length hbags; simpa using this
 have hn5 : D.ns.length ≤ 5 := by have := hI.odd.2; rw [pure_len] at this; exact this
 refine ⟨by omega, by omega, fun z hz => ?_, fun y hy => ?_⟩
 ·obtain ⟨k, hk, rfl⟩ := List.getElem_of_mem hz
  rw [hns k hk (by omega)]
  exact tell_lens (hok _ (List.getElem_mem _)) hn5
 ·have h1 : y.m ∈ D.bs.map (·.m) := by rw [← hbags]; exact List.mem_map_of_mem hy
  obtain ⟨y2, hy2, e⟩ := List.mem_map.1 h1
  rw [← e]
  have := hcl y2 hy2
  omega
set_option maxHeartbeats 4000000 in
theorem copies_ok (n : Int) (A : Option Addr) (m c : Nat) (l : List Pk) (p o : Pk) (w : World) [hrow : Row w A (l.flatMap pkC)] (hl : l.length = m) : Ret Tryz.prog 3 #[.int .i64 n, .slice A m c, .agg (pkC p).toArray, .agg (pkC o).toArray] w (fun v w' => v = .bool true ∧ Lk w' w NoB) := by
 haveI hrw : RowB w A w (l.flatMap pkC) := rowB_of hrow.row
 refine ret_of_x (N := 129) (l := [.int .i64 n, .slice A m c, .agg (pkC p).toArray, .agg (pkC o).toArray]) Tryz.func3 rfl rfl (Nat.le_of_ble_eq_true rfl) ?_
 refine x_seq ?_
 refine x_regionL ?_
 refine xl_e (e_box fun b6 w1 n6 l6 k6 => ?_)
 refine xl_e (e_box fun b7 w2 n7 l7 k7 => ?_)
 refine xl_v v_assign ?_
 refine xl_nil ?_
 refine x_seq ?_
 refine x_seq ?_
 refine x_regionL ?_
 refine xl_v v_move ?_
 refine xl_call (right_ok _ _) ?_
 rintro _ _ ⟨rfl, rfl⟩
 refine xl_v v_not ?_
 refine xl_v v_move ?_
 refine xl_split 26 (fun g26 => ?_) (fun g26 => ?_)
 ·
  refine xl_gs rfl EvO.eq ?_
  refine xl_gs rfl EvO.eq ?_
  refine xl_gs rfl EvO.eq ?_
  refine xl_Pk ?_
  refine xl_nil ?_
  refine x_condT ?_
  refine x_seq ?_
  refine x_regionL ?_
  refine xl_call (works_ok w2) ?_
  rintro _ w4 ⟨rfl, lk2⟩
  refine xl_v v_assign ?_
  refine xl_nil ?_
  refine x_ret ?_
  refine fin1 rfl ?_
  exact ⟨rfl, lkc⟩
 ·
  refine xl_gv rfl EvO.eq v_move ?_
  refine xl_gv rfl EvO.eq v_len ?_
  refine xl_gv rfl EvO.eq v_gtr ?_
  refine xl_Pk ?_
  refine xl_nil ?_
  refine x_condE (fun c1 => ?_) (fun c1 => ?_)
  ·
   refine x_seq ?_
   refine x_regionL ?_
   refine xl_call (works_ok w2) ?_
   rintro _ w5 ⟨rfl, lk2⟩
   refine xl_v v_assign ?_
   refine xl_nil ?_
   refine x_ret ?_
   refine fin1 rfl ?_
   exact ⟨rfl, lkc⟩
  ·
   refine x_skip ?_
   refine x_seq ?_
   have hn : n = 1 ∨ n = 3 ∨ n = 5 := by
    first
     | (simp at g26 c1; omega)
     | (simp at g26; omega)
   have hm : m ≤ 1000 := by
    first
     | (simp at g26 c1; omega)
     | (simp at c1; omega)
   refine x_regionL ?_
   refine xl_v v_move ?_
   refine xl_v v_move ?_
   refine xl_call (played_ok n A m c l w2 hl hm hn) ?_
   rintro _ w6 ⟨⟨q, D, R, rfl, hP, hpr, hq⟩, lk3⟩
   have hqw : ∀ j, QuB q D j → w.heap.size ≤ j := fun j e => Nat.le_trans (Ge.le : w.heap.size ≤ (w2).heap.size) (hq j e)
   haveI nb6 : NotS (QuB q D) b6 := ⟨fun e => by have h1 := hq b6 e; have h2 : b6 < (w2).heap.size := Has.lt; omega⟩
   haveI nb7 : NotS (QuB q D) b7 := ⟨fun e => by have h1 := hq b7 e; have h2 : b7 < (w2).heap.size := Has.lt; omega⟩
   refine xl_v v_move ?_
   refine xl_v v_extract ?_
   refine xl_v v_extract ?_
   refine xl_v v_extract ?_
   refine xl_e (e_alloc fun b10 w7 n10 l10 k10 => ?_)
   have hP7 := hP.one (kpc : Keep NoB _ w7) n10.eq Has.lt
   haveI nb10 : NotS (QuB q D) b10 := ⟨(hP7.xl b10 rfl).2⟩
   refine xl_v v_assign ?_
   refine xl_s (e_storeA fun w8 l39 k39 => ?_)
   refine xl_v v_assign ?_
   refine xl_nil ?_
   refine x_seq ?_
   have hP8 := hP7.keep (kpc : Keep (OneB b10) _ w8) (fun _ _ e => e)
   obtain ⟨F, G, hQ, hInv, hFX⟩ := hP8.ex
   have hok := node_ok_of hInv
   obtain ⟨hb256, hcl⟩ := bag_of hInv
   have hn5 : D.ns.length ≤ 5 := by have := hInv.odd.2; rw [pure_len] at this; exact this
   have hpos : 0 < D.ns.length := by have := hInv.odd.1; rw [pure_len] at this; omega
   have hTid : D.pure.Tidy := by rw [hpr]; exact tidy_run (inv_newN hn) (Qu.Tidy.new _) l
   refine x_regionL ?_
   refine xl_v v_move ?_
   refine xl_call (copy_ok q D F w8 (hQ.ext (kpc : Keep NoB _ w8)) hpos hn5 hb256) ?_
   rintro _ w9 ⟨⟨cq, D2, rfl, hC, hCp, hCn⟩, lk4⟩
   obtain ⟨hPq, hPc⟩ := (hP8.ext (kpc : Keep NoB _ w8)).two lk4.keep (hQ.ext (kpc : Keep NoB _ w8)) hInv hFX hC hCp hCn
   have hInvC : Inv D2.pure G := by rw [hCp]; exact hInv
   have hTidC : D2.pure.Tidy := by rw [hCp]; exact hTid
   have hokC := node_ok_of hInvC
   have hlC : D2.ns.length = D.ns.length := by have := congrArg (fun z : Qu => z.nodes.length) hCp; simpa [pure_len] using this
   have hposC : 0 < D2.ns.length := by omega
   have hn5C : D2.ns.length ≤ 5 := by omega
   obtain ⟨hb256C, hclC⟩ := bag_of hInvC
   rw [← hCp] at hPc
   have hCw : ∀ j, QuB cq D2 j → w.heap.size ≤ j := fun j e => Nat.le_trans (Ge.le : w.heap.size ≤ (w8).heap.size) (hCn j e)
   refine xl_v v_assign ?_
   refine xl_nil ?_
   refine x_seq ?_
   refine x_seq ?_
   refine x_regionL ?_
   refine xl_v v_move ?_
   refine xl_v (v_congr (u := .bool false) v_not rfl) ?_
   refine xl_v v_move ?_
   refine xl_gv rfl EvO.eq v_move ?_
   refine xl_gv rfl EvO.eq v_move ?_
   refine xl_gcall rfl EvO.eq (same_ok q D F cq D2 F w9 (hQ.ext (kpc : Keep NoB _ w9)) (hC.ext (kpc : Keep NoB _ w9)) hpos hposC hok hokC hn5 hb256 hcl) ?_
   rintro _ w10 ⟨rfl, lk5⟩
   rw [decide_eq_true (show D.pure.nodes = D2.pure.nodes ∧ D.pure.bag = D2.pure.bag from by rw [hCp]; exact ⟨rfl, rfl⟩)]
   refine xl_gv rfl EvO.eq (v_congr (u := .bool false) v_not rfl) ?_
   refine xl_Pk ?_
   refine xl_nil ?_
   refine x_condF ?_
   refine x_skip ?_
   refine x_seq ?_
   obtain ⟨w4, hw4⟩ : ∃ x, x = w10 := ⟨_, rfl⟩
   have hPq4 : PairQ (fun k => Ap1 b10 k ∨ QuB cq D2 k) q D R D.pure.tell w4 := by rw [hw4]; exact hPq.ext kpc
   have hPc4 : PairQ (fun k => Ap1 b10 k ∨ QuB q D k) cq D2 R D2.pure.tell w4 := by rw [hw4]; exact hPc.ext kpc
   haveI k64 : Blk w4 b6 (.cells (pkC p).toArray 25 (0, 0)) := ⟨by rw [hw4]; exact Blk.eq⟩
   haveI k74 : Blk w4 b7 (.cells (pkC o).toArray 25 (0, 0)) := ⟨by rw [hw4]; exact Blk.eq⟩
   haveI k104 : Blk w4 b10 (.cells (dqC R).toArray 32 (0, 0)) := ⟨by rw [hw4]; exact Blk.eq⟩
   have lk4w : Lk w4 w NoB := ⟨by rw [hw4]; exact kpc⟩
   refine x_regionL ?_
   refine xl_v v_move ?_
   refine xl_call (node_ok cq D2 F 0 D2.ns[0] w10 (hC.ext (kpc : Keep NoB _ w10)) (List.getElem?_eq_getElem hposC) hn5C (hokC _ (List.getElem_mem hposC))) ?_
   rintro _ w11 ⟨⟨z, rfl, hzx, hz⟩, lk7⟩
   have hzl := tell_lens (hokC _ (List.getElem_mem hposC)) hn5C
   rw [← hzx] at hzl
   haveI oL : OwnI w11 z.LA _ _ _ _ _ _ _ := ⟨hz.log⟩
   haveI oM : OwnI w11 z.MA _ _ _ _ _ _ _ := ⟨hz.mat⟩
   have hw4p : w4.heap.size = (w10).heap.size := by rw [hw4]
   refine xl_v v_move ?_
   refine xl_v v_extract ?_
   refine xl_v v_extract ?_
   refine xl_e (e_alloc fun b13 w12 n13 l13 k13 => ?_)
   have hLb : ApB z.LA b13 := ⟨fun a ha e => by have := (own_blk hz.log (blkA_some ha)).2; have := n13.eq; omega⟩
   have hMb : ApB z.MA b13 := ⟨fun a ha e => by have := (own_blk hz.mat (blkA_some ha)).2; have := n13.eq; omega⟩
   have hL4 : ∀ k, blkA z.LA = some k → w4.heap.size ≤ k := fun k e => by have := (own_blk hz.log e).1; omega
   have hM4 : ∀ k, blkA z.MA = some k → w4.heap.size ≤ k := fun k e => by have := (own_blk hz.mat e).1; omega
   refine xl_s (e_storeA fun w13 l76 k76 => ?_)
   refine xl_v v_assign ?_
   refine xl_nil ?_
   refine x_seq ?_
   refine x_seq ?_
   refine x_regionL ?_
   refine xl_v v_assign ?_
   refine xl_nil ?_
   refine x_block ?_
   haveI := hz.lm
   refine x_loop (fun t τ ds w' => ds = [] ∧ ∃ (k : Nat) (xs : List Cmd), t = z.x.log.length - k ∧ k ≤ z.x.log.length ∧ xs.length = z.x.log.length ∧ w'.ownsRow 0 46 2 (.slice z.LA z.x.log.length z.lc) z.x.log.length (xs.flatMap cmdC) ∧ w'.ownsRow 0 3 1 (.slice z.MA z.x.mat.length z.mc) z.x.mat.length (ints z.x.mat) ∧ Blk w' b13 (.cells (anC z).toArray 41 (0, 0)) ∧ Ev τ 6 (.pointer (some ⟨b6, 0, none⟩)) ∧ Ev τ 7 (.pointer (some ⟨b7, 0, none⟩)) ∧ Ev τ 9 (.pointer (some ⟨q, 0, none⟩)) ∧ Ev τ 10 (.pointer (some ⟨b10, 0, none⟩)) ∧ Ev τ 12 (.pointer (some ⟨cq, 0, none⟩)) ∧ Ev τ 13 (.pointer (some ⟨b13, 0, none⟩)) ∧ Ev τ 15 (.int .i64 (k : Int)) ∧ Lk w' w4 NoB) (z.x.log.length) ?start ?round
   case start =>
    exact ⟨rfl, 0, z.x.log, rfl, Nat.zero_le _, rfl, own_mono (OwnI.own (w := w13) (A := z.LA)) (Nat.zero_le _), own_mono (OwnI.own (w := w13) (A := z.MA)) (Nat.zero_le _), inferInstance, inferInstance, inferInstance, inferInstance, inferInstance, inferInstance, inferInstance, evc, by rw [hw4]; exact lkc⟩
   case round =>
    intro m τ14 ds14 w14 hI
    clear oL oM
    obtain ⟨rfl, k, xs, rfl, hk, hxl, hoL, hoM, kb13, e6, e7, e9, e10, e12, e13, e15, lk⟩ := hI
    haveI := lk4w
    haveI := hz.lm
    haveI := hLb
    haveI sL : ∀ (S : Nat → Prop), SubF (OwnB (.slice z.LA z.x.log.length z.lc)) S w4 := fun S => ⟨fun j hj e => by have := hL4 j (ownB_blk.1 e); omega⟩
    refine x_seq ?_
    refine x_seq ?_
    refine x_regionL ?_
    refine xl_v v_move ?_
    refine xl_Fb ?_
    refine xl_Lc ?_
    refine xl_v v_len ?_
    refine xl_v v_lss ?_
    refine xl_nil ?_
    first | refine x_condP (fun c3 => ?_) (fun c3 => ?_) | refine x_condN (fun c3 => ?_) (fun c3 => ?_) | refine x_condE (fun c3 => ?_) (fun c3 => ?_)
    ·
     have hk1 : k < xs.length := by omega
     haveI o3 : OwnI w14 z.LA z.x.log.length z.lc 0 46 2 z.x.log.length ((xs.set k xs[k]).flatMap cmdC) := ⟨by rw [List.set_getElem_self]; exact hoL⟩
     haveI li : LtI k xs.length := ⟨hk1⟩
     have hkl : k < (xs.set k xs[k]).length := by simpa using hk1
     refine x_skip ?_
     refine x_seq ?_
     refine x_block ?_
     refine x_regionL ?_
     refine xl_Fb ?_
     refine xl_Lc ?_
     refine xl_v v_move ?_
     refine xl_v (v_indexF k (by decide) rfl (by omega) hkl) ?_
     refine xl_Fb ?_
     refine xl_s (e_storeC k 1 { xs[k] with val := 99 } fun w15 l5 o5 => ?_)
     refine xl_nil ?_
     refine x_regionL ?_
     refine xl_v v_move ?_
     refine xl_v (v_add (by omega)) ?_
     refine xl_v v_assign ?_
     refine xl_nil ?_
     refine ⟨_, ?_, rfl, k + 1, xs.set k { xs[k] with val := 99 }, rfl, by omega, by simpa using hxl, o5.own, own_keepB hoM (kpc : Keep (OwnB (.slice z.LA z.x.log.length z.lc)) w14 w15) (fun j e e2 => ?_), inferInstance, inferInstance, inferInstance, inferInstance, inferInstance, inferInstance, inferInstance, evc, lkc⟩
     ·omega
     ·have e3 := ownB_blk.1 e2
      obtain ⟨a, ha, rfl⟩ := Option.map_eq_some_iff.1 e
      obtain ⟨a2, ha2, e4⟩ := Option.map_eq_some_iff.1 e3
      exact hz.lm.ne a2 a ha2 ha e4
    ·
     refine x_exit ?_
     refine x_seq ?_
     refine x_seq ?_
     refine x_regionL ?_
     refine xl_v v_assign ?_
     refine xl_nil ?_
     refine x_block ?_
     refine x_loop (fun t τ ds w' => ds = [] ∧ ∃ (k : Nat) (xs : List Int), t = z.x.mat.length - k ∧ k ≤ z.x.mat.length ∧ xs.length = z.x.mat.length ∧ w'.ownsRow 0 3 1 (.slice z.MA z.x.mat.length z.mc) z.x.mat.length (ints xs) ∧ Blk w' b13 (.cells (anC z).toArray 41 (0, 0)) ∧ Ev τ 6 (.pointer (some ⟨b6, 0, none⟩)) ∧ Ev τ 7 (.pointer (some ⟨b7, 0, none⟩)) ∧ Ev τ 9 (.pointer (some ⟨q, 0, none⟩)) ∧ Ev τ 10 (.pointer (some ⟨b10, 0, none⟩)) ∧ Ev τ 12 (.pointer (some ⟨cq, 0, none⟩)) ∧ Ev τ 13 (.pointer (some ⟨b13, 0, none⟩)) ∧ Ev τ 16 (.int .i64 (k : Int)) ∧ Lk w' w4 NoB) (z.x.mat.length) ?start ?round
     case start =>
      exact ⟨rfl, 0, z.x.mat, rfl, Nat.zero_le _, rfl, own_ext hoM lkc, inferInstance, inferInstance, inferInstance, inferInstance, inferInstance, inferInstance, inferInstance, evc, lkc⟩
     case round =>
      intro m τ16 ds16 w16 hI
      clear hoL hoM kb13 e6 e7 e9 e10 e12 e13 e15 lk
      obtain ⟨rfl, k, xs, rfl, hk, hxl, hoM, kb13, e6, e7, e9, e10, e12, e13, e16, lk⟩ := hI
      haveI := hMb
      haveI sM : ∀ (S : Nat → Prop), SubF (OwnB (.slice z.MA z.x.mat.length z.mc)) S w4 := fun S => ⟨fun j hj e => by have := hM4 j (ownB_blk.1 e); omega⟩
      haveI oM : OwnI w16 z.MA z.x.mat.length z.mc 0 3 1 z.x.mat.length (ints xs) := ⟨hoM⟩
      refine x_seq ?_
      refine x_seq ?_
      refine x_regionL ?_
      refine xl_v v_move ?_
      refine xl_Fb ?_
      refine xl_Lc ?_
      refine xl_v v_len ?_
      refine xl_v v_lss ?_
      refine xl_nil ?_
      first | refine x_condP (fun c4 => ?_) (fun c4 => ?_) | refine x_condN (fun c4 => ?_) (fun c4 => ?_) | refine x_condE (fun c4 => ?_) (fun c4 => ?_)
      ·
       have hk1 : k < xs.length := by omega
       refine x_skip ?_
       refine x_seq ?_
       refine x_block ?_
       refine x_regionL ?_
       refine xl_Fb ?_
       refine xl_Lc ?_
       refine xl_v v_move ?_
       refine xl_v (v_indexO k rfl (by omega) (by omega)) ?_
       refine xl_s (e_storeOwn OwnI.own (by omega) (by decide) fun w17 l6 ho6 => ?_)
       have hsl : setL (ints xs) (k * 1) [.int .i64 99] = ints (xs.set k 99) := setL_map (Value.int .i64) xs k 99 (by omega)
       rw [hsl] at ho6
       haveI o6 : OwnI w17 z.MA _ _ _ _ _ _ _ := ⟨ho6⟩
       refine xl_nil ?_
       refine x_regionL ?_
       refine xl_v v_move ?_
       refine xl_v (v_add (by omega)) ?_
       refine xl_v v_assign ?_
       refine xl_nil ?_
       refine ⟨_, ?_, rfl, k + 1, xs.set k 99, rfl, by omega, by simpa using hxl, o6.own, inferInstance, inferInstance, inferInstance, inferInstance, inferInstance, inferInstance, inferInstance, evc, lkc⟩
       omega
      ·
       refine x_exit ?_
       refine x_seq ?_
       haveI sD : SubF (QuB q D) NoB w := ⟨fun j hj e => by have := hqw j e; omega⟩
       refine x_regionL ?_
       refine xl_Lb ?_
       refine xl_Lb ?_
       refine xl_call (stepD_p _ q D R p w16 (hPq4.ext (kpc : Keep NoB w4 w16))) ?_
       rintro _ w18 ⟨⟨R1, rfl, hP1⟩, lk16⟩
       refine xl_v v_move ?_
       refine xl_v v_extract ?_
       refine xl_v v_extract ?_
       refine xl_e (e_alloc fun b17 w19 n17 l17 k17 => ?_)
       haveI nb17 : NotS (QuB q D) b17 := ⟨(hP1.up b17 (Nat.le_of_eq n17.eq.symm)).1⟩
       haveI nc17 : NotS (QuB cq D2) b17 := ⟨fun e => (hP1.up b17 (Nat.le_of_eq n17.eq.symm)).2 (.inr e)⟩
       refine xl_s (e_storeA fun w20 l167 k167 => ?_)
       refine xl_v v_assign ?_
       refine xl_nil ?_
       refine x_seq ?_
       refine x_regionL ?_
       refine xl_v v_move ?_
       refine xl_Lb ?_
       refine xl_call (stepQ_p _ q D R1 p w20 (hP1.ext (kpc : Keep NoB _ w20))) ?_
       rintro _ w21 ⟨rfl, ⟨D1, hP2, hp2, hb2⟩, lk17⟩
       have hPc5 := hPc4.keep (kpc : Keep (QuB q D) w4 w21) (fun _ _ e => .inr e)
       obtain ⟨F1, G1, hQ1, hInv1, hF1⟩ := hP2.ex
       obtain ⟨F2, G2, hC5, hInv2, hF2⟩ := hPc5.ex
       have hTid1 : D1.pure.Tidy := by rw [hp2]; exact hTid.step hInv p
       have hiff := same_iff hP2.eq hPc5.eq hInv1 hInvC hTid1 hTidC
       obtain ⟨tl1, tl2, tl3, tl4⟩ := told_lens hInvC hPc5.eq
       have hpos1 : 0 < D1.ns.length := by have := hInv1.odd.1; rw [pure_len] at this; omega
       have hn51 : D1.ns.length ≤ 5 := by have := hInv1.odd.2; rw [pure_len] at this; exact this
       have hok1 := node_ok_of hInv1
       obtain ⟨hb2561, hcl1⟩ := bag_of hInv1
       refine xl_nil ?_
       refine x_seq ?_
       refine x_regionL ?_
       refine xl_Lb ?_
       refine xl_Lb ?_
       refine xl_call (refSame_ok _ _ R R1 w21 (hPc5.ref.ext (kpc : Keep NoB _ w21)) (hP2.ref.ext (kpc : Keep NoB _ w21)) tl1 tl2 tl3 tl4) ?_
       rintro _ w22 ⟨rfl, lk18⟩
       refine xl_v v_assign ?_
       refine xl_nil ?_
       refine x_seq ?_
       refine x_regionL ?_
       refine xl_v v_move ?_
       refine xl_v v_move ?_
       refine xl_call (same_ok q D1 F1 cq D2 F2 w22 (hQ1.ext (kpc : Keep NoB _ w22)) (hC5.ext (kpc : Keep NoB _ w22)) hpos1 hposC hok1 hokC hn51 hb2561 hcl1) ?_
       rintro _ w23 ⟨rfl, lk19⟩
       refine xl_v v_move ?_
       refine xl_v (v_congr (u := .bool true) v_beql (congrArg Value.bool (by rw [decide_eq_decide.2 hiff]; exact beq_self_eq_true _))) ?_
       refine xl_v v_move ?_
       refine xl_gv rfl EvO.eq v_move ?_
       refine xl_gv rfl EvO.eq v_move ?_
       refine xl_gcall rfl EvO.eq (same_ok cq D2 F2 q D1 F1 w23 (hC5.ext (kpc : Keep NoB _ w23)) (hQ1.ext (kpc : Keep NoB _ w23)) hposC hpos1 hokC hok1 hn5C hb256C hclC) ?_
       rintro _ w24 ⟨rfl, lk198⟩
       refine xl_gv rfl EvO.eq v_move ?_
       refine xl_gv rfl EvO.eq (v_congr (u := .bool true) v_beql (congrArg Value.bool (by rw [decide_eq_decide.2 (Iff.trans ⟨fun e => ⟨e.1.symm, e.2.symm⟩, fun e => ⟨e.1.symm, e.2.symm⟩⟩ hiff)]; exact beq_self_eq_true _))) ?_
       refine xl_Pk ?_
       refine xl_v v_move ?_
       refine xl_gv rfl EvO.eq v_move ?_
       refine xl_gLb rfl EvO.eq ?_
       refine xl_gcall rfl EvO.eq (is_ok _ cq D2 R w24 (hPc5.ext (kpc : Keep NoB _ w24))) ?_
       rintro _ w25 ⟨rfl, lk1915⟩
       refine xl_Pk ?_
       refine xl_v v_assign ?_
       refine xl_nil ?_
       refine x_seq ?_
       refine x_regionL ?_
       refine xl_Lb ?_
       refine xl_Lb ?_
       refine xl_call (stepD_p _ cq D2 R o w25 (hPc5.ext (kpc : Keep NoB _ w25))) ?_
       rintro _ w26 ⟨⟨R2, rfl, hP20⟩, lk20⟩
       refine xl_v v_move ?_
       refine xl_v v_extract ?_
       refine xl_v v_extract ?_
       refine xl_e (e_alloc fun b21 w27 n21 l21 k21 => ?_)
       haveI nc21 : NotS (QuB cq D2) b21 := ⟨(hP20.up b21 (Nat.le_of_eq n21.eq.symm)).1⟩
       refine xl_s (e_storeA fun w28 l207 k207 => ?_)
       refine xl_v v_assign ?_
       refine xl_nil ?_
       refine x_seq ?_
       haveI sC : SubF (QuB cq D2) NoB w := ⟨fun j hj e => by have := hCw j e; omega⟩
       refine x_regionL ?_
       refine xl_v v_move ?_
       refine xl_Lb ?_
       refine xl_call (stepQ_p _ cq D2 R2 o w28 (hP20.ext (kpc : Keep NoB _ w28))) ?_
       rintro _ w29 ⟨rfl, ⟨D3, hP21, hp21, hb21⟩, lk21⟩
       have hP22 := hP2.keep (kpc : Keep (QuB cq D2) _ w29) (fun _ _ e => .inr e)
       refine xl_nil ?_
       refine x_seq ?_
       refine x_regionL ?_
       refine xl_v v_move ?_
       refine xl_v v_move ?_
       refine xl_gv rfl EvO.eq v_move ?_
       refine xl_gLb rfl EvO.eq ?_
       refine xl_gcall rfl EvO.eq (is_ok _ q D1 R1 w29 (hP22.ext (kpc : Keep NoB _ w29))) ?_
       rintro _ w30 ⟨rfl, lk224⟩
       refine xl_Pk ?_
       refine xl_v v_move ?_
       refine xl_gv rfl EvO.eq v_move ?_
       refine xl_gLb rfl EvO.eq ?_
       refine xl_gcall rfl EvO.eq (is_ok _ cq D3 R2 w30 (hP21.ext (kpc : Keep NoB _ w30))) ?_
       rintro _ w31 ⟨rfl, lk229⟩
       refine xl_Pk ?_
       refine xl_v v_move ?_
       refine xl_gcall rfl EvO.eq (works_ok w31) ?_
       rintro _ w32 ⟨rfl, lk2212⟩
       refine xl_Pk ?_
       refine xl_v v_assign ?_
       refine xl_nil ?_
       refine x_ret ?_
       refine fin1 rfl ?_
       exact ⟨rfl, lkc⟩
end Go.Proofs.YtljdkelgapndgaaGreat
