/-
 Walks, printed by a program of this workplace (wip/tools/sx.py) off the functions' code and a text of contracts.
-/
import Derived.Test.YtdmafmlifadfoaaJ16
import Derived.Test.YtdmafmlifadfoaaJSo
set_option linter.all false
set_option maxRecDepth 100000
set_option synthInstance.maxSize 100000
set_option synthInstance.maxHeartbeats 400000
namespace Go.Proofs.Ytdmafmlifadfoaa
open Go.Wst
open Go.Wst.Qm

/-- waystation/waystationlaw06.begins -/
theorem begins_ok (A : Option Addr) (n c : Nat) (xs : List Cmd) (B : Option Addr) (n' c' : Nat) (ys : List Cmd) (w : World) (hA : RowP w A (cmdsC xs)) (hB : RowP w B (cmdsC ys)) (hl : xs.length = n) (hl' : ys.length = n') (hc : n ≤ c) (hc' : n' ≤ c') (hn : n ≤ 100000 ∧ n' ≤ 100000) (hs : ∀ m, m ≤ n → m ≤ n' → xs.take m = ys.take m) : Ret Try.prog 17 #[.slice A n c, .slice B n' c'] w (fun v w' => v = .bool true ∧ Lk w' w NoB) := by
 obtain ⟨k, hk⟩ : ∃ k : Nat, k = min n n' := ⟨_, rfl⟩
 haveI rA : RowB w A w (cmdsC (xs.take k)) := rowB_of (by
  have h1 := row_take hA (k * 2)
  rwa [← flat_take (enc := cmdC) (sz := 2) (fun _ => rfl)] at h1)
 haveI rB : RowB w B w (cmdsC (ys.take k)) := rowB_of (by
  have h1 := row_take hB (k * 2)
  rwa [← flat_take (enc := cmdC) (sz := 2) (fun _ => rfl)] at h1)
 refine ret_of_x (N := 18) (l := [.slice A n c, .slice B n' c']) Try.func17 rfl rfl (Nat.le_of_ble_eq_true rfl) ?_
 refine x_seq ?_
 refine x_regionL ?_
 refine xl_v v_assign ?_
 refine xl_nil ?_
 refine x_seq ?_
 refine x_regionL ?_
 refine xl_v v_move ?_
 refine xl_v v_len ?_
 refine xl_v v_move ?_
 refine xl_v v_len ?_
 refine xl_v v_min ?_
 refine xl_v v_assign ?_
 refine xl_nil ?_
 refine x_seq ?_
 refine x_drawL (NoB) (allS) (.take 0 (.take 1 (.take 2 (.take 3 (.take 4 (.take 5 (.eff 6 (.take 7 .done)))))))) mixed (by kernel_rfl) (fun _ _ _ _ _ h => h) (fun w1 l1 => ?_)
 refine xt_v rfl v_move ?_
 refine xt_v rfl v_move ?_
 refine xt_v rfl (v_sliceH k (by omega) (by omega)) ?_
 refine xt_v rfl v_move ?_
 refine xt_v rfl v_move ?_
 refine xt_v rfl (v_sliceH k (by omega) (by omega)) ?_
 refine xt_call rfl (sameC_ok A k c (xs.take k) B k c' (ys.take k) w1 (by rw [List.length_take]; omega) (by rw [List.length_take]; omega) (by omega)) ?_
 rintro _ w2 ⟨rfl, lk26⟩
 refine ⟨kpc, ?_⟩
 refine xt_v rfl v_assign ?_
 refine xt_nil ?_
 refine x_ret ?_
 refine fin1 rfl ?_
 exact ⟨congrArg Value.bool (decide_eq_true (hs k (by omega) (by omega))), lkc⟩
structure SafeW (w0 w : World) (q : Nat) (D : LQu) (F : Nat → Prop) (G : Gh) (LA : Option Addr) (lo : List Cmd) (lc : Nat) (TA : Option Addr) (tn tc : Nat) (ts : List Int) (NA : Option Addr) (nc : Nat) (ns : List Int) : Prop where
 at_ : QuAt w F q D
 inv : Inv D.pure G
 row : RowP w LA (cmdsC lo)
 pre : Pre G D.ns.length lo
 lol : lo.length ≤ 256 ∧ lo.length ≤ lc
 lk : ∀ j, blkA LA = some j → ¬ QuB q D j ∧ j < w.heap.size
 tO : w.ownsRow w0.heap.size 2 1 (.slice TA tn tc) tn (ints ts)
 nO : w.ownsRow w0.heap.size 3 1 (.slice NA tn nc) tn (ints ns)
 tK : ∀ j, blkA TA = some j → ¬ (QuB q D j ∨ F j ∨ blkA LA = some j ∨ blkA NA = some j)
 nK : ∀ j, blkA NA = some j → ¬ (QuB q D j ∨ F j ∨ blkA LA = some j ∨ blkA TA = some j)
 lead : ∀ j (h1 : j < ts.length) (h2 : j < ns.length), G.ld ts[j] = some ns[j].toNat ∧ 0 ≤ ns[j]
 qb : ∀ j, QuB q D j → w0.heap.size ≤ j
 tl : ts.length = tn
 nl : ns.length = tn
section
variable {w0 w w' w1 w2 : World} {q : Nat} {D D' : LQu} {F F' : Nat → Prop} {G G' : Gh} {LA TA NA TA' NA' : Option Addr} {lo : List Cmd} {lc tn tc nc tc' nc' : Nat} {ts ns : List Int}
theorem SafeW.ext (h : SafeW w0 w q D F G LA lo lc TA tn tc ts NA nc ns) (hk : Keep NoB w w') : SafeW w0 w' q D F G LA lo lc TA tn tc ts NA nc ns :=
 ⟨h.at_.ext hk, h.inv, h.row.keep hk (fun _ _ e => e), h.pre, h.lol, fun j e => ⟨(h.lk j e).1, Nat.lt_of_lt_of_le (h.lk j e).2 hk.size⟩, own_keep h.tO hk (fun _ _ e => e), own_keep h.nO hk (fun _ _ e => e), h.tK, h.nK, h.lead, h.qb, h.tl, h.nl⟩
theorem SafeW.step (h : SafeW w0 w q D F G LA lo lc TA tn tc ts NA nc ns) (hk : Keep (QuB q D) w w') (hQ : QuAt w' F' q D') (hI : Inv D'.pure G') (hU : Up G G') (hl : D'.ns.length = D.ns.length) (hs : Sub F' F w) (hb : ∀ k, QuB q D' k → QuB q D k ∨ w.heap.size ≤ k) (hw : w0.heap.size ≤ w.heap.size) : SafeW w0 w' q D' F' G' LA lo lc TA tn tc ts NA nc ns := by
 have ht : ∀ j, blkA TA = some j → j < w.heap.size := fun j e => (own_blk h.tO e).2
 have hn : ∀ j, blkA NA = some j → j < w.heap.size := fun j e => (own_blk h.nO e).2
 refine ⟨hQ, hI, h.row.keep hk (fun a ha e => (h.lk _ (blkA_some ha)).1 e), by rw [hl]; exact h.pre.up hU, h.lol, fun j e => ⟨fun e2 => ?_, Nat.lt_of_lt_of_le (h.lk j e).2 hk.size⟩, own_keepB h.tO hk (fun j e e2 => h.tK j e (.inl e2)), own_keepB h.nO hk (fun j e e2 => h.nK j e (.inl e2)), fun j e e2 => ?_, fun j e e2 => ?_, fun j h1 h2 => ⟨hU.ld _ _ (h.lead j h1 h2).1, (h.lead j h1 h2).2⟩, fun j e => (hb j e).elim (h.qb j) (fun e => Nat.le_trans hw e), h.tl, h.nl⟩
 ·have := (h.lk j e).2
  exact (hb j e2).elim (h.lk j e).1 (fun e3 => by omega)
 ·have := ht j e
  rcases e2 with e2 | e2 | e2
  ·exact (hb j e2).elim (fun e3 => h.tK j e (.inl e3)) (fun e3 => by omega)
  ·exact (hs j e2).elim (fun e3 => h.tK j e (.inr (.inl e3))) (fun e3 => by omega)
  ·exact h.tK j e (.inr (.inr e2))
 ·have := hn j e
  rcases e2 with e2 | e2 | e2
  ·exact (hb j e2).elim (fun e3 => h.nK j e (.inl e3)) (fun e3 => by omega)
  ·exact (hs j e2).elim (fun e3 => h.nK j e (.inr (.inl e3))) (fun e3 => by omega)
  ·exact h.nK j e (.inr (.inr e2))
/-- A longer one that is known to be committed. -/
theorem SafeW.long (h : SafeW w0 w q D F G LA lo lc TA tn tc ts NA nc ns) {A : Option Addr} {l : List Cmd} {c : Nat} (hr : RowP w A (cmdsC l)) (hp : Pre G D.ns.length l) (hl : l.length ≤ 256 ∧ l.length ≤ c) (hA : ∀ j, blkA A = some j → j < w.heap.size ∧ ¬ QuB q D j ∧ ¬ blkA TA = some j ∧ ¬ blkA NA = some j) : SafeW w0 w q D F G A l c TA tn tc ts NA nc ns :=
 ⟨h.at_, h.inv, hr, hp, hl, fun j e => ⟨(hA j e).2.1, (hA j e).1⟩, h.tO, h.nO, fun j e e2 => by
  rcases e2 with e2 | e2 | e2 | e2
  ·exact h.tK j e (.inl e2)
  ·exact h.tK j e (.inr (.inl e2))
  ·exact (hA j e2).2.2.1 e
  ·exact h.tK j e (.inr (.inr (.inr e2))), fun j e e2 => by
  rcases e2 with e2 | e2 | e2 | e2
  ·exact h.nK j e (.inl e2)
  ·exact h.nK j e (.inr (.inl e2))
  ·exact (hA j e2).2.2.2 e
  ·exact h.nK j e (.inr (.inr (.inr e2))), h.lead, h.qb, h.tl, h.nl⟩
theorem SafeW.push (h : SafeW w0 w q D F G LA lo lc TA tn tc ts NA nc ns) (t m : Int) (hO1 : w1.ownsRow w0.heap.size 2 1 (.slice TA' (tn + 1) tc') (tn + 1) (ints ts ++ [.int .i64 t])) (l1 : Keep (OwnB (.slice TA tn tc)) w w1) (f1 : ∀ j, blkA TA' = some j → blkA TA = some j ∨ w.heap.size ≤ j)
    (hO2 : w2.ownsRow w0.heap.size 3 1 (.slice NA' (tn + 1) nc') (tn + 1) (ints ns ++ [.int .i64 m])) (l2 : Keep (OwnB (.slice NA tn nc)) w1 w2) (f2 : ∀ j, blkA NA' = some j → blkA NA = some j ∨ w1.heap.size ≤ j) (hl : G.ld t = some m.toNat ∧ 0 ≤ m) : SafeW w0 w2 q D F G LA lo lc TA' (tn + 1) tc' (ts ++ [t]) NA' nc' (ns ++ [m]) := by
 have hs1 := l1.size
 have hs2 := l2.size
 have hn : ∀ j, blkA NA = some j → j < w.heap.size := fun j e => (own_blk h.nO e).2
 have htl : ∀ j, blkA TA' = some j → j < w1.heap.size := fun j e => (own_blk hO1 e).2
 have hK : ∀ j, (QuB q D j ∨ F j ∨ blkA LA = some j) → j < w.heap.size := by
  rintro j (e | e | e)
  ·exact h.at_.lt j e
  ·exact h.at_.fl j e
  ·exact (h.lk j e).2
 have hno1 : ∀ j, (QuB q D j ∨ F j ∨ blkA LA = some j) → ¬ OwnB (.slice TA tn tc) j := fun j e e2 => h.tK j (ownB_blk.1 e2) (by
  rcases e with e | e | e
  ·exact .inl e
  ·exact .inr (.inl e)
  ·exact .inr (.inr (.inl e)))
 have hno2 : ∀ j, (QuB q D j ∨ F j ∨ blkA LA = some j) → ¬ OwnB (.slice NA tn nc) j := fun j e e2 => h.nK j (ownB_blk.1 e2) (by
  rcases e with e | e | e
  ·exact .inl e
  ·exact .inr (.inl e)
  ·exact .inr (.inr (.inl e)))
 have hTN : ∀ j, blkA TA' = some j → ¬ blkA NA = some j := fun j e e2 => (f1 j e).elim (fun e3 => h.tK j e3 (.inr (.inr (.inr e2)))) (fun e3 => by have := hn j e2; omega)
 have hNT : ∀ j, blkA NA' = some j → ¬ blkA TA' = some j := fun j e e2 => (f2 j e).elim (fun e3 => hTN j e2 e3) (fun e3 => by have := htl j e2; omega)
 refine ⟨(h.at_.keep l1 (fun k e => hno1 k (e.elim .inl (fun e => .inr (.inl e))))).keep l2 (fun k e => hno2 k (e.elim .inl (fun e => .inr (.inl e)))), h.inv, (h.row.keep l1 (fun a ha => hno1 _ (.inr (.inr (blkA_some ha))))).keep l2 (fun a ha => hno2 _ (.inr (.inr (blkA_some ha)))), h.pre, h.lol, fun j e => ⟨(h.lk j e).1, by have := (h.lk j e).2; omega⟩, ?_, ?_, fun j e e2 => ?_, fun j e e2 => ?_, ?_, h.qb, by simp [h.tl], by simp [h.nl]⟩
 ·have := own_keepB hO1 l2 (fun j e e2 => hTN j e (ownB_blk.1 e2))
  simpa [ints] using this
 ·simpa [ints] using hO2
 ·rcases e2 with e2 | e2 | e2 | e2
  ·exact (f1 j e).elim (fun e3 => h.tK j e3 (.inl e2)) (fun e3 => by have := hK j (.inl e2); omega)
  ·exact (f1 j e).elim (fun e3 => h.tK j e3 (.inr (.inl e2))) (fun e3 => by have := hK j (.inr (.inl e2)); omega)
  ·exact (f1 j e).elim (fun e3 => h.tK j e3 (.inr (.inr (.inl e2)))) (fun e3 => by have := hK j (.inr (.inr e2)); omega)
  ·exact hNT j e2 e
 ·rcases e2 with e2 | e2 | e2 | e2
  ·exact (f2 j e).elim (fun e3 => h.nK j e3 (.inl e2)) (fun e3 => by have := hK j (.inl e2); omega)
  ·exact (f2 j e).elim (fun e3 => h.nK j e3 (.inr (.inl e2))) (fun e3 => by have := hK j (.inr (.inl e2)); omega)
  ·exact (f2 j e).elim (fun e3 => h.nK j e3 (.inr (.inr (.inl e2)))) (fun e3 => by have := hK j (.inr (.inr e2)); omega)
  ·exact hNT j e e2
 ·intro j h1 h2
  rcases Nat.lt_or_ge j ts.length with e | e
  ·have e' : j < ns.length := by have := h.tl; have := h.nl; omega
   rw [List.getElem_append_left e, List.getElem_append_left e']
   exact h.lead j e e'
  ·have e1 : j = ts.length := by simp at h1; omega
   have e2 : j = ns.length := by have := h.tl; have := h.nl; omega
   have g1 : (ts ++ [t])[j] = t := by subst e1; simp
   have g2 : (ns ++ [m])[j] = m := by
    rw [List.getElem_append_right (by omega)]
    simp
   rw [g1, g2]
   exact hl
end
theorem come_len (q : Qu) (m : Bl) : (q.come m).nodes.length = q.nodes.length := by
 unfold Qu.come Qu.asked Qu.voted Qu.more Qu.matched
 simp only
 repeat' split
 all_goals simp [len_setN, len_send]
theorem fold_len (l : List Int) (q : Qu) (g : Int → Bl) : (l.foldl (fun q i => q.send (g i)) q).nodes.length = q.nodes.length := by
 induction l generalizing q with
 | nil => rfl
 | cons a l ih => rw [List.foldl_cons, ih, len_send]
theorem step_len (q : Qu) (p : Pk) : (q.step p).1.nodes.length = q.nodes.length := by
 unfold Qu.step Qu.seek Qu.take Qu.give Qu.crash Qu.picked
 simp only
 repeat' split
 all_goals simp [len_setN, len_send, fold_len, come_len]
theorem seen_nodes {D : LQu} {i : Nat} (h : i < D.ns.length) : D.ns[i].x ∈ D.pure.nodes := List.mem_map_of_mem (List.getElem_mem h)

end Go.Proofs.Ytdmafmlifadfoaa
