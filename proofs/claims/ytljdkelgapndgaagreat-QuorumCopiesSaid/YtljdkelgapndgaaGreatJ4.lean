/-
 Walks, printed by a program of this workplace (wip/tools/sx.py) off the functions' code and a text of contracts.
-/
import Derived.Test.YtljdkelgapndgaaGreatJTy
import Derived.Test.YtljdkelgapndgaaGreatJ3
import Derived.Test.YtljdkelgapndgaaGreatJ2
import Derived.Test.YtljdkelgapndgaaGreatJSh
import Derived.Sort.OwnSortedInts
set_option linter.all false
set_option maxRecDepth 100000
set_option synthInstance.maxSize 100000
set_option synthInstance.maxHeartbeats 400000
namespace Go.Proofs.YtljdkelgapndgaaGreat
open Go.Wst
open Go.Wst.Qm
theorem mixed : Tryz.prog.follows .mixedOrders = true := by kernel_rfl
abbrev cmdC (c : Cmd) : List Value := [.int .i64 c.term, .int .i64 c.val]
instance encN_cmd : EncN cmdC 2 := ⟨fun _ => rfl⟩
abbrev cmdsC (l : List Cmd) : List Value := l.flatMap cmdC
structure LNd where
 x : Nd
 A : Option Addr
 c : Nat
structure LBl where
 m : Bl
 A : Option Addr
 c : Nat
abbrev votesC (x : Nd) : List Value := [.bool (x.votes.getD 0 false), .bool (x.votes.getD 1 false), .bool (x.votes.getD 2 false), .bool (x.votes.getD 3 false), .bool (x.votes.getD 4 false)]
abbrev nextC (x : Nd) : List Value := [.int .i64 (x.next.getD 0 0), .int .i64 (x.next.getD 1 0), .int .i64 (x.next.getD 2 0), .int .i64 (x.next.getD 3 0), .int .i64 (x.next.getD 4 0)]
abbrev matC (x : Nd) : List Value := [.int .i64 (x.mat.getD 0 0), .int .i64 (x.mat.getD 1 0), .int .i64 (x.mat.getD 2 0), .int .i64 (x.mat.getD 3 0), .int .i64 (x.mat.getD 4 0)]
abbrev ndC (y : LNd) : List Value := [.int .i64 y.x.term, .int .i64 y.x.vote, .slice y.A y.x.log.length y.c, .int .i64 y.x.role, .int .i64 y.x.commit,
 .bool (y.x.votes.getD 0 false), .bool (y.x.votes.getD 1 false), .bool (y.x.votes.getD 2 false), .bool (y.x.votes.getD 3 false), .bool (y.x.votes.getD 4 false),
 .int .i64 (y.x.next.getD 0 0), .int .i64 (y.x.next.getD 1 0), .int .i64 (y.x.next.getD 2 0), .int .i64 (y.x.next.getD 3 0), .int .i64 (y.x.next.getD 4 0),
 .int .i64 (y.x.mat.getD 0 0), .int .i64 (y.x.mat.getD 1 0), .int .i64 (y.x.mat.getD 2 0), .int .i64 (y.x.mat.getD 3 0), .int .i64 (y.x.mat.getD 4 0)]
abbrev blC (y : LBl) : List Value := [.int .i64 y.m.kind, .int .i64 y.m.frm, .int .i64 y.m.to, .int .i64 y.m.term, .int .i64 y.m.last, .int .i64 y.m.prev, .int .i64 y.m.mat, .int .i64 y.m.commit, .int .i64 y.m.lastT, .int .i64 y.m.prevT, .bool y.m.ok, .slice y.A y.m.cmds.length y.c]
instance encN_nd : EncN ndC 20 := ⟨fun _ => rfl⟩
instance encN_bl : EncN blC 12 := ⟨fun _ => rfl⟩
structure LQu where
 ns : List LNd
 NA : Option Addr
 nc : Nat
 bs : List LBl
 BA : Option Addr
 bc : Nat
def LQu.pure (D : LQu) : Qu := ⟨D.ns.map (·.x), D.bs.map (·.m)⟩
abbrev quC (D : LQu) : List Value := [.slice D.NA D.ns.length D.nc, .slice D.BA D.bs.length D.bc]
def blkA (A : Option Addr) : Option Nat := A.map (·.block)
def QuB (q : Nat) (D : LQu) : Nat → Prop := fun k => k = q ∨ blkA D.NA = some k ∨ blkA D.BA = some k
theorem blkA_some {A : Option Addr} {a : Addr} (h : A = some a) : blkA A = some a.block := by rw [h]; rfl
theorem ownB_blk {A : Option Addr} {n c k : Nat} : OwnB (.slice A n c) k ↔ blkA A = some k := by
 cases A with
 | none => exact ⟨nofun, nofun⟩
 | some a => exact ⟨fun h => by have h' : some k = some a.block := h; exact h'.symm, fun h => by have h' : some a.block = some k := h; exact h'.symm⟩
theorem own_blk {w : World} {base : Nat} {e : TypeId} {sz n m c : Nat} {A : Option Addr} {xs : List Value} (h : w.ownsRow base e sz (.slice A m c) n xs) {k : Nat} (hk : blkA A = some k) : base ≤ k ∧ k < w.heap.size := by
 cases A with
 | none => cases hk
 | some a =>
   have e : a.block = k := by simpa [blkA] using hk
   subst e
   exact h.lt _ rfl
theorem own_keepB {w w' : World} {S : Nat → Prop} {base : Nat} {e : TypeId} {sz n m c : Nat} {A : Option Addr} {xs : List Value} (h : w.ownsRow base e sz (.slice A m c) n xs) (hk : Keep S w w') (hs : ∀ k, blkA A = some k → ¬ S k) : w'.ownsRow base e sz (.slice A m c) n xs :=
 own_keep h hk (fun k e => hs k (ownB_blk.1 (Eq.symm e : OwnB (.slice A m c) k)))
structure QuAt (W : World) (F : Nat → Prop) (q : Nat) (D : LQu) : Prop where
 hb : W.heap[q]? = some (.cells (quC D).toArray 71 (0, 0))
 nodes : W.ownsRow 0 69 20 (.slice D.NA D.ns.length D.nc) D.ns.length (D.ns.flatMap ndC)
 bag : W.ownsRow 0 75 12 (.slice D.BA D.bs.length D.bc) D.bs.length (D.bs.flatMap blC)
 logs : ∀ y ∈ D.ns, FRow W F y.A (cmdsC y.x.log)
 lc : ∀ y ∈ D.ns, y.x.log.length ≤ y.c
 cmds : ∀ y ∈ D.bs, FRow W F y.A (cmdsC y.m.cmds)
 mc : ∀ y ∈ D.bs, y.m.cmds.length ≤ y.c
 fl : ∀ k, F k → k < W.heap.size
 fq : ∀ k, F k → ¬ QuB q D k
 n1 : D.NA.isSome = true
 qn : ApB D.NA q
 qb : ApB D.BA q
 nb : ApA D.NA D.BA
section
variable {W W' : World} {F F' S : Nat → Prop} {q : Nat} {D : LQu}
theorem QuAt.lt (h : QuAt W F q D) : ∀ k, QuB q D k → k < W.heap.size := by
 rintro k (e | e | e)
 ·rw [e]; exact (Array.getElem?_eq_some_iff.1 h.hb).1
 ·exact (own_blk h.nodes e).2
 ·exact (own_blk h.bag e).2
theorem QuAt.keep (h : QuAt W F q D) (hk : Keep S W W') (hs : ∀ k, QuB q D k ∨ F k → ¬ S k) : QuAt W' F q D where
 hb := (hk.block q (h.lt q (.inl rfl)) (hs q (.inl (.inl rfl)))).trans h.hb
 nodes := own_keepB h.nodes hk (fun k e => hs k (.inl (.inr (.inl e))))
 bag := own_keepB h.bag hk (fun k e => hs k (.inl (.inr (.inr e))))
 logs y hy := (h.logs y hy).keep hk (fun k e => hs k (.inr e))
 lc := h.lc
 cmds y hy := (h.cmds y hy).keep hk (fun k e => hs k (.inr e))
 mc := h.mc
 fl k e := Nat.lt_of_lt_of_le (h.fl k e) hk.size
 fq := h.fq
 n1 := h.n1
 qn := h.qn
 qb := h.qb
 nb := h.nb
theorem QuAt.ext (h : QuAt W F q D) (hk : Keep NoB W W') : QuAt W' F q D := h.keep hk (fun _ _ h => h)
theorem QuAt.wide (h : QuAt W F q D) (hF : ∀ k, F k → F' k) (hn : ∀ k, F' k → F k ∨ (¬ QuB q D k ∧ k < W.heap.size)) : QuAt W F' q D :=
 { h with logs := fun y hy => (h.logs y hy).mono hF, cmds := fun y hy => (h.cmds y hy).mono hF, fl := fun k e => (hn k e).elim (h.fl k) (fun e => e.2), fq := fun k e => (hn k e).elim (h.fq k) (fun e => e.1) }
theorem mem_set {α : Type} {l : List α} {i : Nat} {x y : α} (h : y ∈ l.set i x) : y = x ∨ y ∈ l := (List.mem_or_eq_of_mem_set h).symm
theorem QuAt.setNF (h : QuAt W F q D) {i : Nat} {y : LNd} (hF : ∀ k, F k → F' k) (hn : ∀ k, F' k → F k ∨ (W.heap.size ≤ k ∧ k < W'.heap.size)) (hk : Keep S W W') (hS : ∀ k, k < W.heap.size → S k → blkA D.NA = some k)
    (hrow : W'.ownsRow 0 69 20 (.slice D.NA D.ns.length D.nc) D.ns.length ((D.ns.set i y).flatMap ndC)) (hlog : FRow W' F' y.A (cmdsC y.x.log)) (hc : y.x.log.length ≤ y.c) : QuAt W' F' q { D with ns := D.ns.set i y } := by
 have out : ∀ k, F k → ¬ S k := fun k e e2 => h.fq k e (.inr (.inl (hS k (h.fl k e) e2)))
 refine ⟨?_, by simpa using hrow, own_keepB h.bag hk (fun k e e2 => ?_), ?_, ?_, fun y hy => ((h.cmds y hy).keep hk out).mono hF, h.mc, fun k e => (hn k e).elim (fun e => Nat.lt_of_lt_of_le (h.fl k e) hk.size) (fun e => e.2), fun k e => ?_, h.n1, h.qn, h.qb, h.nb⟩
 ·rw [hk.block q (h.lt q (.inl rfl)) (fun e => ?_), h.hb]
  ·simp [quC]
  ·have e1 := hS q (h.lt q (.inl rfl)) e
   obtain ⟨a, ha⟩ := Option.isSome_iff_exists.1 h.n1
   rw [blkA_some ha] at e1
   exact h.qn.ne a ha (Option.some.inj e1)
 ·have e1 := hS k (h.lt k (.inr (.inr e))) e2
  obtain ⟨a, ha, hab⟩ := Option.map_eq_some_iff.1 (show D.NA.map (·.block) = some k from e1)
  obtain ⟨b, hb, hbb⟩ := Option.map_eq_some_iff.1 (show D.BA.map (·.block) = some k from e)
  exact h.nb.ne a b ha hb (hab.trans hbb.symm)
 ·intro z hz
  rcases mem_set hz with e | e
  ·rw [e]; exact hlog
  ·exact ((h.logs z e).keep hk out).mono hF
 ·intro z hz
  rcases mem_set hz with e | e
  ·rw [e]; exact hc
  ·exact h.lc z e
 ·rcases hn k e with e | e
  ·exact h.fq k e
  ·exact fun e2 => by have := h.lt k e2; omega
theorem QuAt.setN (h : QuAt W F q D) {i : Nat} {y : LNd} (hk : Keep S W W') (hS : ∀ k, k < W.heap.size → S k → blkA D.NA = some k)
    (hrow : W'.ownsRow 0 69 20 (.slice D.NA D.ns.length D.nc) D.ns.length ((D.ns.set i y).flatMap ndC)) (hlog : FRow W' F y.A (cmdsC y.x.log)) (hc : y.x.log.length ≤ y.c) : QuAt W' F q { D with ns := D.ns.set i y } :=
 h.setNF (fun _ e => e) (fun _ e => .inl e) hk hS hrow hlog hc
theorem QuAt.setB (h : QuAt W F q D) {bs : List LBl} {BA : Option Addr} {bc : Nat} (hk : Keep S W W') (hS : ∀ k, k < W.heap.size → S k → k = q ∨ blkA D.BA = some k)
    (hb : W'.heap[q]? = some (.cells (quC { D with bs := bs, BA := BA, bc := bc }).toArray 71 (0, 0)))
    (hrow : W'.ownsRow 0 75 12 (.slice BA bs.length bc) bs.length (bs.flatMap blC)) (hA : blkA BA = blkA D.BA ∨ ∀ k, blkA BA = some k → W.heap.size ≤ k)
    (hcm : ∀ y ∈ bs, FRow W F y.A (cmdsC y.m.cmds)) (hmc : ∀ y ∈ bs, y.m.cmds.length ≤ y.c) : QuAt W' F q { D with bs := bs, BA := BA, bc := bc } := by
 have out : ∀ k, F k → ¬ S k := fun k e e2 => (hS k (h.fl k e) e2).elim (fun e3 => h.fq k e (.inl e3)) (fun e3 => h.fq k e (.inr (.inr e3)))
 have hnb : ∀ k, blkA D.NA = some k → blkA D.BA = some k → False := fun k e1 e2 => by
  obtain ⟨a, ha, hab⟩ := Option.map_eq_some_iff.1 (show D.NA.map (·.block) = some k from e1)
  obtain ⟨b, hb, hbb⟩ := Option.map_eq_some_iff.1 (show D.BA.map (·.block) = some k from e2)
  exact h.nb.ne a b ha hb (hab.trans hbb.symm)
 refine ⟨hb, own_keepB h.nodes hk (fun k e e2 => ?_), hrow, fun y hy => (h.logs y hy).keep hk out, h.lc, fun y hy => (hcm y hy).keep hk out, hmc, fun k e => Nat.lt_of_lt_of_le (h.fl k e) hk.size, ?_, h.n1, h.qn, ⟨fun a ha e => ?_⟩, ⟨fun a b ha hb2 e => ?_⟩⟩
 ·rcases hS k (h.lt k (.inr (.inl e))) e2 with e3 | e3
  ·obtain ⟨a, ha, hab⟩ := Option.map_eq_some_iff.1 (show D.NA.map (·.block) = some k from e)
   exact h.qn.ne a ha (hab.trans e3)
  ·exact hnb k e e3
 ·rintro k e (e2 | e2 | e2)
  ·exact h.fq k e (.inl e2)
  ·exact h.fq k e (.inr (.inl e2))
  ·rcases hA with e3 | e3
   ·exact h.fq k e (.inr (.inr (e3 ▸ e2)))
   ·have := h.fl k e; have := e3 k e2; omega
 ·have e1 := blkA_some ha
  rcases hA with e3 | e3
  ·obtain ⟨b, hb, hbb⟩ := Option.map_eq_some_iff.1 (show D.BA.map (·.block) = some a.block from e3.symm.trans e1)
   exact h.qb.ne b hb (hbb.trans e)
  ·have := e3 _ e1; have := h.lt q (.inl rfl); omega
 ·have e1 := blkA_some hb2
  rcases hA with e3 | e3
  ·exact hnb a.block (blkA_some ha) (by rw [e]; exact e3.symm.trans e1)
  ·have := e3 _ e1; have := (own_blk h.nodes (blkA_some ha)).2; omega
end
theorem from_blk {A B : Option Addr} {n m c c' : Nat} {w W : World} (h : (Value.slice A n c).ownBlock = (Value.slice B m c').ownBlock ∨ (Value.slice A n c).ownBlock = some W.heap.size) (hw : w.heap.size ≤ W.heap.size) : blkA A = blkA B ∨ ∀ k, blkA A = some k → w.heap.size ≤ k := by
 have e : ∀ (A : Option Addr) (n c : Nat), (Value.slice A n c).ownBlock = blkA A := fun A n c => by cases A <;> rfl
 rw [e, e] at h
 refine h.imp id fun h k hk => ?_
 rw [h] at hk
 cases hk
 exact hw
def grown (F : Nat → Prop) (w W : World) : Nat → Prop := fun k => F k ∨ (w.heap.size ≤ k ∧ k < W.heap.size)
theorem grown_sub {F : Nat → Prop} {w W : World} : Sub (grown F w W) F w := fun k e => e.imp id And.left
theorem _root_.Go.Wst.FRow.own {W w : World} {F : Nat → Prop} {base n m c sz : Nat} {e : TypeId} {A : Option Addr} {xs : List Value} (h : W.ownsRow base e sz (.slice A m c) n xs) (hb : w.heap.size ≤ base) : FRow W (grown F w W) A xs :=
 (FRow.of_own h).mono (fun k e => .inr ⟨Nat.le_trans hb (own_blk h (ownB_blk.1 e)).1, (own_blk h (ownB_blk.1 e)).2⟩)
theorem _root_.Go.Wst.FRow.grow {w W : World} {F : Nat → Prop} {A : Option Addr} {xs : List Value} (h : FRow w F A xs) (hk : Keep NoB w W) : FRow W (grown F w W) A xs := (h.keep hk (fun _ _ h => h)).mono (fun k e => .inl e)
theorem grown_lt {F : Nat → Prop} {w W : World} (h : ∀ k, F k → k < w.heap.size) (hk : Keep NoB w W) : ∀ k, grown F w W k → k < W.heap.size := fun k e => e.elim (fun e => Nat.lt_of_lt_of_le (h k e) hk.size) And.right
theorem _root_.Go.Wst.FRow.take {w : World} {F : Nat → Prop} {A : Option Addr} {l : List Cmd} (h : FRow w F A (cmdsC l)) (n : Nat) : FRow w F A (cmdsC (l.take n)) := ⟨by
 have h1 := row_take h.row (n * 2)
 have e : cmdsC (l.take n) = (cmdsC l).take (n * 2) := flat_take (enc := cmdC) (sz := 2) (fun _ => rfl) _ _
 rw [e]
 exact h1, h.blk⟩
theorem cmds_len (l : List Cmd) : (cmdsC l).length = l.length * 2 := flat_len (sz := 2) (fun _ => rfl) l
theorem cmds_one (l : List Cmd) : ∀ u ∈ cmdsC l, u.oneCell' = true := by
 intro u hu
 obtain ⟨x, _, hx⟩ := List.mem_flatMap.1 hu
 simp at hx
 rcases hx with rfl | rfl <;> rfl
instance cell1l_nd (y : LNd) : Cell1L (ndC y) := inferInstance
instance cell1l_bl (y : LBl) : Cell1L (blC y) := inferInstance
theorem ofT_get {l : List Cmd} {k : Nat} (h : k + 1 = l.length) : ofT l = (l[k]'(by omega)).term := by
 unfold ofT
 rw [List.getLast?_eq_getElem?, List.getElem?_eq_getElem (by omega)]
 simp only
 congr 2
 omega
theorem row_isSome {w : World} {A : Option Addr} {l : List Cmd} (h : Row w A (cmdsC l)) (hl : 0 < l.length) : A.isSome = true := row_some h (by rw [cmds_len]; omega)

theorem of_ok (A : Option Addr) (n c : Nat) (l : List Cmd) (w : World) [Row w A (cmdsC l)] (hl : l.length = n) (hn : n ≤ 1000) : Ret Tryz.prog 60 #[.slice A n c] w (fun v w' => v = .int .i64 (ofT l) ∧ Lk w' w NoB) := by
 refine ret_of_x (N := 13) (l := [.slice A n c]) Tryz.func60 rfl rfl (Nat.le_of_ble_eq_true rfl) ?_
 refine x_seq ?_
 refine x_regionL ?_
 refine xl_v v_assign ?_
 refine xl_nil ?_
 refine x_seq ?_
 refine x_seq ?_
 refine x_regionL ?_
 refine xl_v v_move ?_
 refine xl_v v_len ?_
 refine xl_v v_eql ?_
 refine xl_nil ?_
 first | refine x_condP (fun c1 => ?_) (fun c1 => ?_) | refine x_condN (fun c1 => ?_) (fun c1 => ?_) | refine x_condE (fun c1 => ?_) (fun c1 => ?_)
 ·
  refine x_seq ?_
  refine x_regionL ?_
  refine xl_v v_assign ?_
  refine xl_nil ?_
  refine x_ret ?_
  refine fin1 rfl ?_
  obtain rfl : l = [] := List.eq_nil_of_length_eq_zero (by omega)
  exact ⟨rfl, lkc⟩
 ·
  obtain ⟨k, hk⟩ : ∃ k, k + 1 = l.length := ⟨n - 1, by omega⟩
  refine x_skip ?_
  refine x_seq ?_
  refine x_regionL ?_
  refine xl_v v_move ?_
  refine xl_v v_move ?_
  refine xl_v v_len ?_
  refine xl_v (v_sub (by omega)) ?_
  refine xl_v (v_indexF k (by decide) (by omega) (by omega) (by omega)) ?_
  refine xl_Fb ?_
  refine xl_Lc ?_
  refine xl_v v_assign ?_
  refine xl_nil ?_
  refine x_ret ?_
  refine fin1 rfl ?_
  exact ⟨by rw [ofT_get hk], lkc⟩

theorem cloneC_ok (A : Option Addr) (n c : Nat) (cs : List Value) (w : World) [Row w A cs] (hl : cs.length = n * 2) (hn : n ≤ 100000000) (h1 : ∀ u ∈ cs, u.oneCell' = true) (hA : A.isSome = true ∨ n = 0) : Ret Tryz.prog 29 #[.slice A n c] w (fun v w' => (∃ A' c', v = .slice A' n c' ∧ w'.ownsRow w.heap.size 46 2 v n cs) ∧ Lk w' w NoB) := by
 refine ret_of_x (N := 8) (l := [.slice A n c]) Tryz.func29 rfl rfl (Nat.le_of_ble_eq_true rfl) ?_
 refine x_seq ?_
 refine x_regionL ?_
 refine xl_v v_assign ?_
 refine xl_nil ?_
 refine x_seq ?_
 refine x_seq ?_
 refine x_regionL ?_
 refine xl_v v_move ?_
 refine xl_v v_eql_slice ?_
 refine xl_nil ?_
 refine x_condE (fun c1 => ?_) (fun c1 => ?_)
 ·
  have hn0 : n = 0 := hA.resolve_left (by cases A <;> simp_all)
  refine x_seq ?_
  refine x_regionL ?_
  refine xl_v v_assign ?_
  refine xl_nil ?_
  refine x_ret ?_
  refine fin1 rfl ?_
  subst hn0
  obtain rfl : cs = [] := List.eq_nil_of_length_eq_zero (by simpa using hl)
  exact ⟨⟨none, 0, rfl, World.ownsRow_nil _ _ _ _⟩, lkc⟩
 ·
  refine x_skip ?_
  refine x_seq ?_
  refine x_regionL ?_
  refine xl_e (e_buildSlice0 fun b0 w1 n0 l0 k0 => ?_)
  refine xl_v v_move ?_
  have ho0 : World.ownsRow w1 w.heap.size 46 2 (.slice (some ⟨b0, 0, none⟩) 0 0) 0 [] := ownsRow_blk (by rw [n0.eq]; exact Nat.le_refl _) k0.eq (by simp) (by omega)
  haveI := ownN_of ho0 (Nat.le_refl _)
  refine xl_e (e_append' ho0 Ge.le hl h1 (by decide) hA (by omega) (by omega) fun A2 c2 w2 ho2 l2 _ => ?_)
  refine xl_v v_assign ?_
  refine xl_nil ?_
  refine x_ret ?_
  refine fin1 rfl ?_
  exact ⟨⟨A2, c2, by rw [Nat.zero_add], by simpa using ho2⟩, lkc⟩

theorem cloneI_ok (A : Option Addr) (n c : Nat) (cs : List Value) (w : World) [Row w A cs] (hl : cs.length = n * 1) (hn : n ≤ 100000000) (h1 : ∀ u ∈ cs, u.oneCell' = true) (hA : A.isSome = true ∨ n = 0) : Ret Tryz.prog 30 #[.slice A n c] w (fun v w' => (∃ A' c', v = .slice A' n c' ∧ w'.ownsRow w.heap.size 3 1 v n cs) ∧ Lk w' w NoB) := by
 refine ret_of_x (N := 8) (l := [.slice A n c]) Tryz.func30 rfl rfl (Nat.le_of_ble_eq_true rfl) ?_
 refine x_seq ?_
 refine x_regionL ?_
 refine xl_v v_assign ?_
 refine xl_nil ?_
 refine x_seq ?_
 refine x_seq ?_
 refine x_regionL ?_
 refine xl_v v_move ?_
 refine xl_v v_eql_slice ?_
 refine xl_nil ?_
 refine x_condE (fun c1 => ?_) (fun c1 => ?_)
 ·
  have hn0 : n = 0 := hA.resolve_left (by cases A <;> simp_all)
  refine x_seq ?_
  refine x_regionL ?_
  refine xl_v v_assign ?_
  refine xl_nil ?_
  refine x_ret ?_
  refine fin1 rfl ?_
  subst hn0
  obtain rfl : cs = [] := List.eq_nil_of_length_eq_zero (by simpa using hl)
  exact ⟨⟨none, 0, rfl, World.ownsRow_nil _ _ _ _⟩, lkc⟩
 ·
  refine x_skip ?_
  refine x_seq ?_
  refine x_regionL ?_
  refine xl_e (e_buildSlice0 fun b0 w1 n0 l0 k0 => ?_)
  refine xl_v v_move ?_
  have ho0 : World.ownsRow w1 w.heap.size 3 1 (.slice (some ⟨b0, 0, none⟩) 0 0) 0 [] := ownsRow_blk (by rw [n0.eq]; exact Nat.le_refl _) k0.eq (by simp) (by omega)
  haveI := ownN_of ho0 (Nat.le_refl _)
  refine xl_e (e_append' ho0 Ge.le hl h1 (by decide) hA (by omega) (by omega) fun A2 c2 w2 ho2 l2 _ => ?_)
  refine xl_v v_assign ?_
  refine xl_nil ?_
  refine x_ret ?_
  refine fin1 rfl ?_
  exact ⟨⟨A2, c2, by rw [Nat.zero_add], by simpa using ho2⟩, lkc⟩

theorem cloneB_ok (A : Option Addr) (n c : Nat) (cs : List Value) (w : World) [Row w A cs] (hl : cs.length = n * 12) (hn : n ≤ 100000000) (h1 : ∀ u ∈ cs, u.oneCell' = true) (hA : A.isSome = true ∨ n = 0) : Ret Tryz.prog 22 #[.slice A n c] w (fun v w' => (∃ A' c', v = .slice A' n c' ∧ w'.ownsRow w.heap.size 75 12 v n cs) ∧ Lk w' w NoB) := by
 refine ret_of_x (N := 8) (l := [.slice A n c]) Tryz.func22 rfl rfl (Nat.le_of_ble_eq_true rfl) ?_
 refine x_seq ?_
 refine x_regionL ?_
 refine xl_v v_assign ?_
 refine xl_nil ?_
 refine x_seq ?_
 refine x_seq ?_
 refine x_regionL ?_
 refine xl_v v_move ?_
 refine xl_v v_eql_slice ?_
 refine xl_nil ?_
 refine x_condE (fun c1 => ?_) (fun c1 => ?_)
 ·
  have hn0 : n = 0 := hA.resolve_left (by cases A <;> simp_all)
  refine x_seq ?_
  refine x_regionL ?_
  refine xl_v v_assign ?_
  refine xl_nil ?_
  refine x_ret ?_
  refine fin1 rfl ?_
  subst hn0
  obtain rfl : cs = [] := List.eq_nil_of_length_eq_zero (by simpa using hl)
  exact ⟨⟨none, 0, rfl, World.ownsRow_nil _ _ _ _⟩, lkc⟩
 ·
  refine x_skip ?_
  refine x_seq ?_
  refine x_regionL ?_
  refine xl_e (e_buildSlice0 fun b0 w1 n0 l0 k0 => ?_)
  refine xl_v v_move ?_
  have ho0 : World.ownsRow w1 w.heap.size 75 12 (.slice (some ⟨b0, 0, none⟩) 0 0) 0 [] := ownsRow_blk (by rw [n0.eq]; exact Nat.le_refl _) k0.eq (by simp) (by omega)
  haveI := ownN_of ho0 (Nat.le_refl _)
  refine xl_e (e_append' ho0 Ge.le hl h1 (by decide) hA (by omega) (by omega) fun A2 c2 w2 ho2 l2 _ => ?_)
  refine xl_v v_assign ?_
  refine xl_nil ?_
  refine x_ret ?_
  refine fin1 rfl ?_
  exact ⟨⟨A2, c2, by rw [Nat.zero_add], by simpa using ho2⟩, lkc⟩

theorem cloneN_ok (A : Option Addr) (n c : Nat) (cs : List Value) (w : World) [Row w A cs] (hl : cs.length = n * 20) (hn : n ≤ 100000000) (h1 : ∀ u ∈ cs, u.oneCell' = true) (hA : A.isSome = true ∨ n = 0) : Ret Tryz.prog 21 #[.slice A n c] w (fun v w' => (∃ A' c', v = .slice A' n c' ∧ w'.ownsRow w.heap.size 69 20 v n cs) ∧ Lk w' w NoB) := by
 refine ret_of_x (N := 8) (l := [.slice A n c]) Tryz.func21 rfl rfl (Nat.le_of_ble_eq_true rfl) ?_
 refine x_seq ?_
 refine x_regionL ?_
 refine xl_v v_assign ?_
 refine xl_nil ?_
 refine x_seq ?_
 refine x_seq ?_
 refine x_regionL ?_
 refine xl_v v_move ?_
 refine xl_v v_eql_slice ?_
 refine xl_nil ?_
 refine x_condE (fun c1 => ?_) (fun c1 => ?_)
 ·
  have hn0 : n = 0 := hA.resolve_left (by cases A <;> simp_all)
  refine x_seq ?_
  refine x_regionL ?_
  refine xl_v v_assign ?_
  refine xl_nil ?_
  refine x_ret ?_
  refine fin1 rfl ?_
  subst hn0
  obtain rfl : cs = [] := List.eq_nil_of_length_eq_zero (by simpa using hl)
  exact ⟨⟨none, 0, rfl, World.ownsRow_nil _ _ _ _⟩, lkc⟩
 ·
  refine x_skip ?_
  refine x_seq ?_
  refine x_regionL ?_
  refine xl_e (e_buildSlice0 fun b0 w1 n0 l0 k0 => ?_)
  refine xl_v v_move ?_
  have ho0 : World.ownsRow w1 w.heap.size 69 20 (.slice (some ⟨b0, 0, none⟩) 0 0) 0 [] := ownsRow_blk (by rw [n0.eq]; exact Nat.le_refl _) k0.eq (by simp) (by omega)
  haveI := ownN_of ho0 (Nat.le_refl _)
  refine xl_e (e_append' ho0 Ge.le hl h1 (by decide) hA (by omega) (by omega) fun A2 c2 w2 ho2 l2 _ => ?_)
  refine xl_v v_assign ?_
  refine xl_nil ?_
  refine x_ret ?_
  refine fin1 rfl ?_
  exact ⟨⟨A2, c2, by rw [Nat.zero_add], by simpa using ho2⟩, lkc⟩
def LNd.voter (y : LNd) (t : Int) : LNd := ⟨y.x.voter t, y.A, y.c⟩

theorem voter_ok (A : Option Addr) (n c base i : Nat) (xs : List LNd) (y : LNd) (t : Int) (w : World) [OwnI w A n c base 69 20 n ((xs.set i y).flatMap ndC)] [LtI i xs.length] (hA : A.isSome = true) : Ret Tryz.prog 56 #[padd A (i * 20), .int .i64 t] w (fun v w' => v = .tuple #[] ∧ OwnI w' A n c base 69 20 n ((xs.set i (y.voter t)).flatMap ndC) ∧ Lk w' w (OwnB (.slice A n c))) := by
 refine ret_of_x (N := 35) (l := [padd A (i * 20), .int .i64 t]) Tryz.func56 rfl rfl (Nat.le_of_ble_eq_true rfl) ?_
 refine x_seq ?_
 refine x_seq ?_
 refine x_regionL ?_
 refine xl_v v_move ?_
 refine xl_v v_move ?_
 refine xl_Nc ?_
 refine xl_Fb ?_
 refine xl_Fb ?_
 refine xl_Lc ?_
 refine xl_v v_gtr ?_
 refine xl_nil ?_
 first | refine x_condP (fun c1 => ?_) (fun c1 => ?_) | refine x_condN (fun c1 => ?_) (fun c1 => ?_) | refine x_condE (fun c1 => ?_) (fun c1 => ?_)
 ·
  refine x_regionL ?_
  refine xl_v v_move ?_
  refine xl_v v_move ?_
  refine xl_v v_move ?_
  refine xl_Nc ?_
  refine xl_Fb ?_
  refine xl_Fb ?_
  refine xl_s (e_storeC i 0 { y with x := { y.x with term := t } } fun w1 l6 o6 => ?_)
  refine xl_Nc ?_
  refine xl_Fb ?_
  refine xl_Fb ?_
  refine xl_s (e_storeC i 1 { y with x := { y.x with term := t, vote := -1 } } fun w2 l10 o10 => ?_)
  refine xl_nil ?_
  obtain ⟨z, hz, oz⟩ : ∃ z : LNd, ({ z with x := { z.x with role := 1, votes := falses, next := zeros, mat := zeros } } : LNd) = y.voter t ∧ OwnI w2 A n c base 69 20 n ((xs.set i z).flatMap ndC) := by
   first
    | exact ⟨_, by simp [LNd.voter, Nd.voter, if_pos c1], o10⟩
    | exact ⟨y, by simp [LNd.voter, Nd.voter, if_neg c1], inferInstance⟩
  refine x_regionL ?_
  refine xl_v v_move ?_
  refine xl_v v_move ?_
  refine xl_v v_move ?_
  refine xl_v v_move ?_
  refine xl_v (v_buildA) ?_
  refine xl_v (v_buildA) ?_
  refine xl_v (v_buildA) ?_
  refine xl_Nc ?_
  refine xl_Fb ?_
  refine xl_s (e_storeC i 3 { z with x := { z.x with role := 1 } } fun w3 l9 o9 => ?_)
  refine xl_Nc ?_
  refine xl_Fb ?_
  refine xl_s (e_storeC i 5 { z with x := { z.x with role := 1, votes := falses } } fun w4 l12 o12 => ?_)
  refine xl_Nc ?_
  refine xl_Fb ?_
  refine xl_s (e_storeC i 10 { z with x := { z.x with role := 1, votes := falses, next := zeros } } fun w5 l15 o15 => ?_)
  refine xl_Nc ?_
  refine xl_Fb ?_
  refine xl_s (e_storeC i 15 { z with x := { z.x with role := 1, votes := falses, next := zeros, mat := zeros } } fun w6 l18 o18 => ?_)
  refine xl_nil ?_
  refine fin0 rfl ?_
  exact ⟨rfl, hz ▸ o18, lkc⟩
 ·
  refine x_skip ?_
  obtain ⟨z, hz, oz⟩ : ∃ z : LNd, ({ z with x := { z.x with role := 1, votes := falses, next := zeros, mat := zeros } } : LNd) = y.voter t ∧ OwnI w A n c base 69 20 n ((xs.set i z).flatMap ndC) := by
   first
    | exact ⟨_, by simp [LNd.voter, Nd.voter, if_pos c1], o10⟩
    | exact ⟨y, by simp [LNd.voter, Nd.voter, if_neg c1], inferInstance⟩
  refine x_regionL ?_
  refine xl_v v_move ?_
  refine xl_v v_move ?_
  refine xl_v v_move ?_
  refine xl_v v_move ?_
  refine xl_v (v_buildA) ?_
  refine xl_v (v_buildA) ?_
  refine xl_v (v_buildA) ?_
  refine xl_Nc ?_
  refine xl_Fb ?_
  refine xl_s (e_storeC i 3 { z with x := { z.x with role := 1 } } fun w7 l9 o9 => ?_)
  refine xl_Nc ?_
  refine xl_Fb ?_
  refine xl_s (e_storeC i 5 { z with x := { z.x with role := 1, votes := falses } } fun w8 l12 o12 => ?_)
  refine xl_Nc ?_
  refine xl_Fb ?_
  refine xl_s (e_storeC i 10 { z with x := { z.x with role := 1, votes := falses, next := zeros } } fun w9 l15 o15 => ?_)
  refine xl_Nc ?_
  refine xl_Fb ?_
  refine xl_s (e_storeC i 15 { z with x := { z.x with role := 1, votes := falses, next := zeros, mat := zeros } } fun w10 l18 o18 => ?_)
  refine xl_nil ?_
  refine fin0 rfl ?_
  exact ⟨rfl, hz ▸ o18, lkc⟩
end Go.Proofs.YtljdkelgapndgaaGreat
set_option linter.all false
set_option maxRecDepth 100000
set_option synthInstance.maxSize 100000
set_option synthInstance.maxHeartbeats 400000
namespace Go.Proofs.YtljdkelgapndgaaGreat
open Go.Wst
open Go.Wst.Qm
instance apB_new (A : Option Addr) (b : Nat) (w1 : World) [n : New b w1] [o : OldA w1 A] : ApB A b := ⟨fun a ha e => by have := o.lt a ha; have := n.eq; omega⟩

theorem has_ok (q : Nat) (D : LQu) (n : Int) (w : World) [Blk w q (.cells (quC D).toArray 71 (0, 0))] : Ret Tryz.prog 28 #[.pointer (some ⟨q, 0, none⟩), .int .i64 n] w (fun v w' => v = .bool (decide (0 ≤ n ∧ n < D.ns.length)) ∧ Lk w' w NoB) := by
 refine ret_of_x (N := 20) (l := [.pointer (some ⟨q, 0, none⟩), .int .i64 n]) Tryz.func28 rfl rfl (Nat.le_of_ble_eq_true rfl) ?_
 refine x_seq ?_
 refine x_regionL ?_
 refine xl_v v_assign ?_
 refine xl_nil ?_
 refine x_seq ?_
 refine x_regionL ?_
 refine xl_v v_move ?_
 refine xl_v (by first | exact v_neq_pointerS | exact v_neq_pointerN) ?_
 refine xl_v v_move ?_
 refine xl_gv rfl EvO.eq v_move ?_
 refine xl_gv rfl EvO.eq v_leq ?_
 refine xl_Pk ?_
 refine xl_v v_move ?_
 refine xl_split 11 (fun g11 => ?_) (fun g11 => ?_)
 ·
  refine xl_gv rfl EvO.eq v_move ?_
  refine xl_gv rfl EvO.eq v_move ?_
  refine xl_gNc rfl EvO.eq ?_
  refine xl_gFb rfl EvO.eq ?_
  refine xl_gLc rfl EvO.eq ?_
  refine xl_gv rfl EvO.eq v_len ?_
  refine xl_gv rfl EvO.eq v_lss ?_
  refine xl_Pk ?_
  refine xl_v v_assign ?_
  refine xl_nil ?_
  refine x_ret ?_
  refine fin1 rfl ?_
  refine ⟨congrArg Value.bool ?_, lkc⟩
  rw [Bool.eq_iff_iff]
  simp at *
  omega
 ·
  refine xl_gs rfl EvO.eq ?_
  refine xl_gs rfl EvO.eq ?_
  refine xl_gs rfl EvO.eq ?_
  refine xl_gs rfl EvO.eq ?_
  refine xl_gs rfl EvO.eq ?_
  refine xl_gs rfl EvO.eq ?_
  refine xl_gs rfl EvO.eq ?_
  refine xl_Pk ?_
  refine xl_v v_assign ?_
  refine xl_nil ?_
  refine x_ret ?_
  refine fin1 rfl ?_
  refine ⟨congrArg Value.bool ?_, lkc⟩
  rw [Bool.eq_iff_iff]
  simp at *
  omega
def sentB (D : LQu) (m : LBl) : List LBl := if D.bs.length < 256 then D.bs ++ [m] else D.bs

theorem send_ok (q : Nat) (D : LQu) (F : Nat → Prop) (m : LBl) (w : World) (h : QuAt w F q D) (hm : FRow w F m.A (cmdsC m.m.cmds)) (hc : m.m.cmds.length ≤ m.c) : Ret Tryz.prog 59 #[.pointer (some ⟨q, 0, none⟩), .agg (blC m).toArray] w (fun v w' => (∃ (BA : Option Addr) (bc : Nat), v = .tuple #[] ∧ QuAt w' F q { D with bs := sentB D m, BA := BA, bc := bc } ∧ (blkA BA = blkA D.BA ∨ ∀ k, blkA BA = some k → w.heap.size ≤ k)) ∧ Lk w' w (QuB q D)) := by
 haveI hb : Blk w q _ := ⟨h.hb⟩
 haveI hB : OwnI w D.BA _ _ _ _ _ _ _ := ⟨h.bag⟩
 haveI hqb : ApB D.BA q := h.qb
 haveI s1 : ∀ (W : World) (n c : Nat), SubF (OwnB (.slice D.BA n c)) (QuB q D) W := fun W n c => ⟨fun k _ e => .inr (.inr (ownB_blk.1 e))⟩
 haveI s2 : ∀ (W : World), SubF (OneB q) (QuB q D) W := fun W => ⟨fun k _ e => .inl e⟩
 refine ret_of_x (N := 20) (l := [.pointer (some ⟨q, 0, none⟩), .agg (blC m).toArray]) Tryz.func59 rfl rfl (Nat.le_of_ble_eq_true rfl) ?_
 refine x_seq ?_
 refine x_regionL ?_
 refine xl_e (e_box fun b1 w1 n1 l1 k1 => ?_)
 refine xl_nil ?_
 refine x_seq ?_
 refine x_regionL ?_
 refine xl_v v_move ?_
 refine xl_Nc ?_
 refine xl_Fb ?_
 refine xl_Lc ?_
 refine xl_v v_len ?_
 refine xl_v v_lss ?_
 refine xl_nil ?_
 first | refine x_condP (fun c1 => ?_) (fun c1 => ?_) | refine x_condN (fun c1 => ?_) (fun c1 => ?_) | refine x_condE (fun c1 => ?_) (fun c1 => ?_)
 ·
  refine x_drawL (OwnB (.slice D.BA D.bs.length D.bc)) (allS) (.take 0 (.take 1 (.take 2 (.take 3 (.take 4 (.take 5 (.eff 6 (.eff 7 (.take 8 (.take 9 (.free 10 .done))))))))))) mixed (by kernel_rfl) (fun _ _ _ _ _ h => h) (fun w2 l2 => ?_)
  refine xt_v rfl v_move ?_
  refine xt_v rfl v_move ?_
  refine xt_Nc rfl ?_
  refine xt_Fb rfl ?_
  refine xt_Lc rfl ?_
  refine xt_Lb rfl ?_
  refine xt_e rfl (e_buildSlice1 rfl fun b6 w3 n6 l6 k6 => ?_)
  refine xt_e rfl (e_append' (w := w3) (xs := D.bs.flatMap blC) (news := blC m) OwnI.own (Nat.zero_le _) rfl Cell1L.eq (by decide) (.inl rfl) (by omega) (by omega) fun A7 c7 w4 ho7 l7 f7 => ?_)
  have hA7 : blkA A7 = blkA D.BA ∨ ∀ k, blkA A7 = some k → w.heap.size ≤ k := from_blk f7 Ge.le
  refine xt_Nc rfl ?_
  refine xt_Fb rfl ?_
  refine xt_fs rfl (e_store fun w5 l10 k10 => ?_)
  refine xt_nil ?_
  refine fin0 rfl ?_
  have lkq : Lk w5 w (QuB q D) := lkc
  have hkS : Keep (fun k => k = q ∨ blkA D.BA = some k) w w5 := by
   haveI t1 : ∀ (W : World) (n c : Nat), SubF (OwnB (.slice D.BA n c)) (fun k => k = q ∨ blkA D.BA = some k) W := fun W n c => ⟨fun k _ e => .inr (ownB_blk.1 e)⟩
   haveI t2 : ∀ (W : World), SubF (OneB q) (fun k => k = q ∨ blkA D.BA = some k) W := fun W => ⟨fun k _ e => .inl e⟩
   exact kpc
  first
   | have hs : sentB D m = D.bs ++ [m] := if_pos (by omega)
     have hq := k10.eq
     refine ⟨⟨A7, c7, rfl, h.setB (bs := sentB D m) hkS (fun _ _ e => e) (by rw [hs]; simpa [quC] using hq) ?_ hA7 ?_ ?_, hA7⟩, lkc⟩
     ·rw [hs]
      have := own_keepB ho7 l10.keep (fun k e e2 => ?_)
      ·simpa using this
      ·have e2' : k = q := e2
       subst e2'
       rcases hA7 with e3 | e3
       ·obtain ⟨b, hb, hbb⟩ := Option.map_eq_some_iff.1 (show D.BA.map (·.block) = some k from e3.symm.trans e)
        exact h.qb.ne b hb hbb
       ·have := e3 _ e; have := h.lt k (.inl rfl); omega
     ·intro y hy
      rw [hs] at hy
      rcases List.mem_append.1 hy with e | e
      ·exact h.cmds y e
      ·rw [List.mem_singleton.1 e]; exact hm
     ·intro y hy
      rw [hs] at hy
      rcases List.mem_append.1 hy with e | e
      ·exact h.mc y e
      ·rw [List.mem_singleton.1 e]; exact hc
   | have hs : sentB D m = D.bs := if_neg (by omega)
     exact ⟨⟨D.BA, D.bc, rfl, by rw [hs]; exact h.ext kpc, .inl rfl⟩, lkc⟩
 ·
  refine x_skip ?_
  refine fin0 rfl ?_
  have lkq : Lk w1 w (QuB q D) := lkc
  have hkS : Keep (fun k => k = q ∨ blkA D.BA = some k) w w1 := by
   haveI t1 : ∀ (W : World) (n c : Nat), SubF (OwnB (.slice D.BA n c)) (fun k => k = q ∨ blkA D.BA = some k) W := fun W n c => ⟨fun k _ e => .inr (ownB_blk.1 e)⟩
   haveI t2 : ∀ (W : World), SubF (OneB q) (fun k => k = q ∨ blkA D.BA = some k) W := fun W => ⟨fun k _ e => .inl e⟩
   exact kpc
  first
   | have hs : sentB D m = D.bs ++ [m] := if_pos (by omega)
     have hq := k10.eq
     refine ⟨⟨A7, c7, rfl, h.setB (bs := sentB D m) hkS (fun _ _ e => e) (by rw [hs]; simpa [quC] using hq) ?_ hA7 ?_ ?_, hA7⟩, lkc⟩
     ·rw [hs]
      have := own_keepB ho7 l10.keep (fun k e e2 => ?_)
      ·simpa using this
      ·have e2' : k = q := e2
       subst e2'
       rcases hA7 with e3 | e3
       ·obtain ⟨b, hb, hbb⟩ := Option.map_eq_some_iff.1 (show D.BA.map (·.block) = some k from e3.symm.trans e)
        exact h.qb.ne b hb hbb
       ·have := e3 _ e; have := h.lt k (.inl rfl); omega
     ·intro y hy
      rw [hs] at hy
      rcases List.mem_append.1 hy with e | e
      ·exact h.cmds y e
      ·rw [List.mem_singleton.1 e]; exact hm
     ·intro y hy
      rw [hs] at hy
      rcases List.mem_append.1 hy with e | e
      ·exact h.mc y e
      ·rw [List.mem_singleton.1 e]; exact hc
   | have hs : sentB D m = D.bs := if_neg (by omega)
     exact ⟨⟨D.BA, D.bc, rfl, by rw [hs]; exact h.ext kpc, .inl rfl⟩, lkc⟩
end Go.Proofs.YtljdkelgapndgaaGreat
set_option linter.all false
set_option maxRecDepth 100000
set_option synthInstance.maxSize 100000
set_option synthInstance.maxHeartbeats 400000
namespace Go.Proofs.YtljdkelgapndgaaGreat
open Go.Wst
open Go.Wst.Qm
def ValAl (xs : List Int) : Seen → Prop := fun pre => ∃ k : Nat, k ≤ xs.length ∧ pre = (xs.take k).map (fun x => [Value.int .i64 x])
def ValFin (xs : List Int) : Seen → Prop := fun pre => pre = xs.map (fun x => [Value.int .i64 x])

theorem values_ok (A : Option Addr) (n c : Nat) (w : World) : Ret Tryz.prog 81 #[.slice A n c] w (fun v w' => ∃ b, v = .func (.func 86) ([] : List Value).toArray [Value.pointer (some ⟨b, 0, none⟩)].toArray ∧ Blk w' b (.cells #[.slice A n c] 39 (0, 0)) ∧ w.heap.size ≤ b ∧ Lk w' w NoB) := by
 refine ret_of_x (N := 4) (l := [.slice A n c]) Tryz.func81 rfl rfl (Nat.le_of_ble_eq_true rfl) ?_
 refine x_seq ?_
 refine x_regionL ?_
 refine xl_e (e_box fun b w1 nb lb kb => ?_)
 refine xl_v v_assign ?_
 refine xl_nil ?_
 refine x_seq ?_
 refine x_regionL ?_
 refine xl_v v_makeFunc ?_
 refine xl_v v_assign ?_
 refine xl_nil ?_
 refine x_ret ?_
 refine fin1 rfl ?_
 exact ⟨b, rfl, inferInstance, Nat.le_of_eq nb.eq.symm, lkc⟩

theorem values1_ok (y : Value) (b : Nat) (A : Option Addr) (n c : Nat) (xs : List Int) (I J : Seen → (Nat → Prop) → World → Prop) (F : Nat → Prop) (w : World) [Blk w b (.cells #[.slice A n c] 39 (0, 0))] [hrow : Row w A (ints xs)] (hA : A.isSome = true) (hl : xs.length = n) (hn : n ≤ 1000) (w0 : World) (hy : YieldsI Tryz.prog y (ValAl xs) I J w0) (hw0 : w0.heap.size ≤ w.heap.size) (h0 : I [] F w) (hF : ∀ k, F k → ¬ (k = b ∨ blkA A = some k)) : Ret Tryz.prog 86 #[y, .pointer (some ⟨b, 0, none⟩)] w (fun _ w' => ∃ pre F', ((ValFin xs pre ∧ I pre F' w') ∨ J pre F' w') ∧ Keep F w w' ∧ Sub F' F w) := by
 refine ret_of_x (N := 16) (l := [y, .pointer (some ⟨b, 0, none⟩)]) Tryz.func86 rfl rfl (Nat.le_of_ble_eq_true rfl) ?_
 refine x_seq ?_
 refine x_regionL ?_
 refine xl_Lc ?_
 refine xl_v v_len ?_
 refine xl_v v_move ?_
 refine xl_nil ?_
 refine x_block ?_
 have hFlt := hy.i.lt _ _ _ h0
 refine x_loop (fun m τ ds w' => ds = [] ∧ ∃ (k : Nat) (Fc : Nat → Prop), m = n - k ∧ k ≤ n ∧ I ((xs.take k).map (fun x => [Value.int .i64 x])) Fc w' ∧ Keep F w w' ∧ Sub Fc F w ∧ Ev τ 0 y ∧ Ev τ 5 (.slice A n c) ∧ Ev τ 6 (.int .i64 (n : Int)) ∧ Ev τ 7 (.int .i64 (k : Int))) (n) ?start ?round
 case start =>
  exact ⟨rfl, 0, F, rfl, Nat.zero_le _, hy.i.keep _ _ _ _ _ h0 (kpc : Keep NoB w w) (fun _ _ h => h) (fun _ h => h.elim), (kpc : Keep NoB w w).mono (fun _ _ h => h.elim), Sub.refl _ _, inferInstance, inferInstance, inferInstance, evc⟩
 case round =>
  intro m τ1 ds1 w1 hI
  obtain ⟨rfl, k, Fc, rfl, hkn, hI, hkF, hsF, e0, e5, e6, e7⟩ := hI
  haveI lkF : Lk w1 w F := ⟨hkF⟩
  haveI roA : RowOut F A := ⟨fun a ha e => hF _ e (.inr (blkA_some ha))⟩
  refine x_seq ?_
  refine x_regionL ?_
  refine xl_v v_lss ?_
  refine xl_nil ?_
  refine x_seq ?_
  first | refine x_condP (fun c1 => ?_) (fun c1 => ?_) | refine x_condN (fun c1 => ?_) (fun c1 => ?_) | refine x_condE (fun c1 => ?_) (fun c1 => ?_)
  ·
   have hk1 : k < xs.length := by omega
   have hal : ValAl xs ((xs.take k).map (fun x => [Value.int .i64 x]) ++ [[Value.int .i64 xs[k]]]) := ⟨k + 1, by omega, by rw [take_snoc xs k hk1, List.map_append]; rfl⟩
   refine x_skip ?_
   refine x_seq ?_
   refine x_block ?_
   refine x_seq ?_
   refine x_regionL ?_
   refine xl_v (v_indexO k rfl (by omega) hk1) ?_
   refine xl_v (v_loadO (k := k) hk1) ?_
   refine xl_v v_assign ?_
   refine xl_nil ?_
   refine x_seq ?_
   refine x_regionL ?_
   refine xl_v v_move ?_
   refine xl_v v_move ?_
   refine xl_callv (hy.step _ _ Fc w1 hal hI) ?_
   rintro _ w2 ⟨bb2, F2, rfl, hI3, hk3, hs3⟩
   refine xl_v v_not ?_
   refine xl_nil ?_
   refine x_condE (fun c2 => ?_) (fun c2 => ?_)
   ·
    refine x_ret ?_
    refine fin0r rfl ?_
    rw [if_neg (by simpa using c2)] at hI3
    refine ⟨_, F2, .inr hI3, ?_, ?_⟩
    ·refine hkF.then hk3 (fun j hj e => ?_)
     exact (hsF j e).elim id (fun h => by omega)
    ·intro j hj
     rcases hs3 j hj with e | e
     ·exact hsF j e
     ·exact .inr (Nat.le_trans hkF.size e)
   ·
    refine x_skip ?_
    refine x_regionL ?_
    refine xl_v (v_add (by omega)) ?_
    refine xl_v v_move ?_
    refine xl_nil ?_
    refine ⟨_, ?_, rfl, k + 1, F2, rfl, by omega, ?_, ?_, ?_, inferInstance, inferInstance, inferInstance, evc⟩
    ·omega
    ·rw [if_pos (by simpa using c2)] at hI3
     rw [take_snoc xs k hk1, List.map_append]
     simpa using hI3
    ·refine hkF.then hk3 (fun j hj e => ?_)
     exact (hsF j e).elim id (fun h => by omega)
    ·intro j hj
     rcases hs3 j hj with e | e
     ·exact hsF j e
     ·exact .inr (Nat.le_trans hkF.size e)
  ·
   refine x_exit ?_
   refine fin0 rfl ?_
   rw [List.take_of_length_le (by omega)] at hI
   exact ⟨_, Fc, .inl ⟨rfl, hI⟩, hkF, hsF⟩
theorem valuesIter (b : Nat) (A : Option Addr) (n c : Nat) (xs : List Int) (w : World) [Blk w b (.cells #[.slice A n c] 39 (0, 0))] [Row w A (ints xs)] (hA : A.isSome = true) (hl : xs.length = n) (hn : n ≤ 1000) :
    IterI Tryz.prog (.func (.func 86) ([] : List Value).toArray [Value.pointer (some ⟨b, 0, none⟩)].toArray) (fun k => k = b ∨ blkA A = some k) (ValAl xs) (ValFin xs) w :=
 fun y I J F w0 hy hw0 h0 hF => CallV.of_ret (values1_ok y b A n c xs I J F w hA hl hn w0 hy hw0 h0 hF)
def AppI (b2 : Nat) (tc te : TypeId) (base : Nat) : Seen → (Nat → Prop) → World → Prop := fun pre F W =>
 ∃ (ks : List Int) (V : Value), pre = ks.map (fun k => [Value.int .i64 k]) ∧ W.heap[b2]? = some (.cells [V].toArray tc (0, 0)) ∧ W.ownsRow base te 1 V ks.length (ints ks) ∧ (∀ k, F k ↔ (k = b2 ∨ V.ownBlock = some k)) ∧ base ≤ W.heap.size
theorem appI_stable {b2 : Nat} {tc te : TypeId} {base : Nat} {w0 : World} : Stable (AppI b2 tc te base) w0 := by
 refine ⟨?_, ?_⟩
 ·rintro pre F W ⟨ks, V, _, h1, h2, h3, _⟩ k hk
  rcases (h3 k).1 hk with e | e
  ·subst e; exact (Array.getElem?_eq_some_iff.1 h1).1
  ·exact (h2.lt k e).2
 ·rintro pre F W W' S ⟨ks, V, h0, h1, h2, h3, h4⟩ hk hs _
  exact ⟨ks, V, h0, (hk.block b2 (Array.getElem?_eq_some_iff.1 h1).1 (hs b2 ((h3 b2).2 (.inl rfl)))).trans h1, own_keep h2 hk (fun k hk => hs k ((h3 k).2 (.inr hk))), h3, Nat.le_trans h4 hk.size⟩

theorem appendSeq_ok (gf : FuncId) (gc : List Value) (Own : Nat → Prop) (Al Fin : Seen → Prop) (w : World) (hit : ∀ W, Lk W w NoB → IterI Tryz.prog (.func (.func gf) ([] : List Value).toArray gc.toArray) Own Al Fin W) (hOwn : ∀ k, Own k → k < w.heap.size) (hAl : ∀ pre, Al pre → ∃ ks : List Int, pre = ks.map (fun k => [Value.int .i64 k]) ∧ ks.length ≤ 1000000) : Ret Tryz.prog 87 #[.slice none 0 0, .func (.func gf) ([] : List Value).toArray gc.toArray] w (fun v w' => ∃ (ks : List Int) (A : Option Addr) (c : Nat), Fin (ks.map (fun k => [Value.int .i64 k])) ∧ v = .slice A ks.length c ∧ w'.ownsRow w.heap.size 3 1 v ks.length (ints ks) ∧ Lk w' w NoB) := by
 refine ret_of_x (N := 13) (l := [.slice none 0 0, .func (.func gf) ([] : List Value).toArray gc.toArray]) Tryz.func87 rfl rfl (Nat.le_of_ble_eq_true rfl) ?_
 refine x_seq ?_
 refine x_regionL ?_
 refine xl_e (e_box fun b2 w1 nb2 lb2 kb2 => ?_)
 refine xl_v v_assign ?_
 refine xl_nil ?_
 refine x_seq ?_
 refine x_seq ?_
 refine x_regionL ?_
 refine xl_v v_move ?_
 refine xl_nil ?_
 refine x_block ?_
 have hb2w : w.heap.size ≤ b2 := Nat.le_of_eq nb2.eq.symm
 have hb2l : b2 < w1.heap.size := Has.lt
 refine x_range (ps := [7]) (Own) (Al) (Fin) (fun W l => hit W lkc) (fun k hk => Nat.lt_of_lt_of_le (hOwn k hk) Ge.le) (fun pre v h => (by obtain ⟨ks, h1, _⟩ := hAl _ h; obtain ⟨a, b, _, _, h2⟩ := List.map_eq_append_iff.1 h1.symm; obtain ⟨k, c, _, h3, _⟩ := List.map_eq_cons_iff.1 h2; rw [← h3]; rfl)) (AppI b2 39 3 w1.heap.size) (fun _ _ _ _ => False) (OneB b2) (appI_stable) (fun _ => ⟨fun _ _ _ h => h.elim, fun _ _ _ _ _ h => h.elim⟩) (⟨[], .slice none 0 0, rfl, Blk.eq, World.ownsRow_nil _ _ _ _, fun k => ⟨fun e => .inl e, fun e => e.elim id (fun e => by cases e)⟩, Nat.le_refl _⟩) (fun k hk e => by have e' : k = b2 := hk; have := hOwn k e; omega) (fun v τ => Ev τ 2 (.pointer (some ⟨b2, 0, none⟩)) ∧ ∃ x, v = [x] ∧ Ev τ 5 x) ?assign ?body ?normal ?jump
 case assign =>
  intro l2 v2 w2 hv2
  obtain ⟨x, rfl⟩ : ∃ x, v2 = [x] := List.length_eq_one_iff.1 hv2
  simp only [updL]
  refine x_regionL ?_
  refine xl_v v_assign ?_
  refine xl_nil ?_
  exact ⟨rfl, inferInstance, x, rfl, inferInstance⟩
 case body =>
  intro l pre v F w3 τ3 ds3 hal hI hB
  obtain ⟨ks, V, rfl, hb2, hown, hFe, hsz⟩ := hI
  obtain ⟨e2, x, rfl, e5⟩ := hB
  obtain ⟨ks2, hks2, hlen2⟩ := hAl _ hal
  obtain ⟨a, b, rfl, h1, h2⟩ := List.map_eq_append_iff.1 hks2.symm
  obtain ⟨k, c, rfl, h3, h4⟩ := List.map_eq_cons_iff.1 h2
  obtain rfl : Value.int .i64 k = x := by simpa using h3
  have hla : a.length = ks.length := by simpa using congrArg List.length h1
  have hkl : ks.length + 1 ≤ 1000000 := by simp at hlen2; omega
  haveI kb : Blk w3 b2 _ := ⟨hb2⟩
  haveI nb : NotS (OwnB V) b2 := ⟨fun e => by have := (hown.lt _ (Eq.symm e)).1; omega⟩
  refine x_block ?_
  refine x_regionL ?_
  refine xl_Lc ?_
  refine xl_v v_move ?_
  refine xl_e (e_buildSliceN rfl fun b3 w4 n3 l3 k3 => ?_)
  refine xl_e (e_append' (own_ext hown lkc) (Nat.le_trans hsz Ge.le) rfl Cell1L.eq (by decide) (.inl rfl) (by omega) (by omega) fun A3 c3 w5 ho3 l3 hn3 => ?_)
  refine xl_s (e_store fun w6 l4 k4 => ?_)
  refine xl_nil ?_
  haveI s1 : SubF (OwnB V) F w3 := ⟨fun j _ e => (hFe j).2 (.inr (Eq.symm e))⟩
  haveI s2 : SubF (OneB b2) F w3 := ⟨fun j _ e => (hFe j).2 (.inl e)⟩
  refine ⟨fun j => j = b2 ∨ (Value.slice A3 (ks.length + 1) c3).ownBlock = some j, ⟨ks ++ [k], _, by simp, k4.eq, ?_, fun j => Iff.rfl, Nat.le_trans hsz (Ge.le : w3.heap.size ≤ w6.heap.size)⟩, kpc, ?_⟩
  ·have := own_keep ho3 l4.keep (fun j hj e => by have e' : j = b2 := e; have := (ho3.lt j hj).1; omega)
   simpa [ints] using this
  ·rintro j (hj | hj)
   ·exact .inl ((hFe j).2 (.inl hj))
   ·rcases hn3 with h5 | h5
    ·exact .inl ((hFe j).2 (.inr (h5 ▸ hj)))
    ·rw [h5] at hj
     cases hj
     exact .inr Ge.le
 case normal =>
  intro D7 pre F w7 hfin hI hkF hsF hD7 hge7 hnF7
  obtain ⟨ks, V, rfl, hb2, hown, hFe, hsz⟩ := hI
  haveI kb : Blk w7 b2 _ := ⟨hb2⟩
  haveI lkF : Lk w7 _ (OneB b2) := ⟨hkF⟩
  obtain ⟨A, c, rfl, _⟩ := ownsRow_form hown
  have hDw : w.heap.size ≤ D7 := Nat.le_trans (Nat.le_trans hb2w (Nat.le_of_lt hb2l)) hge7
  haveI sD : SubF (fun k => k ∈ [D7]) NoB w := ⟨fun k hk e => by simp at e; omega⟩
  refine x_seq ?_
  refine x_regionL ?_
  refine xl_Lc ?_
  refine xl_v v_assign ?_
  refine xl_nil ?_
  refine x_ret ?_
  refine finM (rs := [.tmp 4]) rfl [D7] rfl (by simpa using hD7.eq) (by simp) (fun w8 lm8 => ⟨_, inferInstance, ?_⟩)
  refine ⟨ks, A, c, hfin, rfl, ?_, lkc⟩
  refine own_mono (own_keep hown lm8.keep ?_) Ge.le
  intro k hk e
  simp at e
  subst e
  exact hnF7 ((hFe _).2 (.inr hk))
 case jump =>
  exact fun _ _ _ _ _ h => h.elim
theorem sort_ok (base : Nat) (A : Option Addr) (c : Nat) (ks : List Int) (w : World) (ho : w.ownsRow base 3 1 (.slice A ks.length c) ks.length (ints ks)) (hl : ks.length ≤ 1000000) :
    Ret Tryz.prog 85 #[.slice A ks.length c] w (fun v w' => v = .tuple #[] ∧ w'.ownsRow base 3 1 (.slice A ks.length c) ks.length (ints (ks.mergeSort fun x y => decide (x ≤ y))) ∧ Lk w' w (OwnB (.slice A ks.length c))) := by
 rcases ho.2 with ⟨he, hn⟩ | ⟨g, cap, cur, he, hb, hg, hnc, hcm, hcs, htk⟩
 ·have hk : ks = [] := List.eq_nil_of_length_eq_zero hn
  subst hk
  refine Calls.mono (Tryz.slices_Sort_int_none A c w) ?_
  rintro e w' ⟨rfl, rfl⟩
  exact ⟨_, rfl, rfl, by simpa using ho, ⟨Keep.refl _ _⟩⟩
 ·cases he
  have hH := holds_of_blockI (ss := ks) hg (by simpa [ints] using htk)
  refine Calls.mono (Tryz.slices_Sort_int g 0 c ks w hH (Array.getElem?_eq_some_iff.1 hg).1 (by omega)) ?_
  rintro e w' ⟨rfl, n, os, rfl⟩
  refine ⟨_, rfl, rfl, ?_, ⟨Keep.of_grown (grownBy_sortedI _)⟩⟩
  have := ownsRow_sortedI (os := os) (n := n) (ss := ks) (ts := ks.mergeSort fun x y => decide (x ≤ y)) (by simp) hb hg hnc hcm hcs
  simpa [ints] using this

theorem collect_ok (gf : FuncId) (gc : List Value) (Own : Nat → Prop) (Al Fin : Seen → Prop) (w : World) (hit : ∀ W, Lk W w NoB → IterI Tryz.prog (.func (.func gf) ([] : List Value).toArray gc.toArray) Own Al Fin W) (hOwn : ∀ k, Own k → k < w.heap.size) (hAl : ∀ pre, Al pre → ∃ ks : List Int, pre = ks.map (fun k => [Value.int .i64 k]) ∧ ks.length ≤ 1000000) : Ret Tryz.prog 84 #[.func (.func gf) ([] : List Value).toArray gc.toArray] w (fun v w' => ∃ (ks : List Int) (A : Option Addr) (c : Nat), Fin (ks.map (fun k => [Value.int .i64 k])) ∧ v = .slice A ks.length c ∧ w'.ownsRow w.heap.size 3 1 v ks.length (ints ks) ∧ Lk w' w NoB) := by
 refine ret_of_x (N := 5) (l := [.func (.func gf) ([] : List Value).toArray gc.toArray]) Tryz.func84 rfl rfl (Nat.le_of_ble_eq_true rfl) ?_
 refine x_seq ?_
 refine x_regionL ?_
 refine xl_v v_assign ?_
 refine xl_nil ?_
 refine x_seq ?_
 refine x_regionL ?_
 refine xl_v v_move ?_
 refine xl_call (appendSeq_ok gf gc Own Al Fin _ hit hOwn hAl) ?_
 rintro _ w1 ⟨ks, A, c, hfin, rfl, ho, lk⟩
 refine xl_v v_assign ?_
 refine xl_nil ?_
 refine x_ret ?_
 refine fin1 rfl ?_
 exact ⟨ks, A, c, hfin, rfl, own_ext ho lkc, lkc⟩

theorem sorted_ok (gf : FuncId) (gc : List Value) (Own : Nat → Prop) (Al Fin : Seen → Prop) (w : World) (hit : ∀ W, Lk W w NoB → IterI Tryz.prog (.func (.func gf) ([] : List Value).toArray gc.toArray) Own Al Fin W) (hOwn : ∀ k, Own k → k < w.heap.size) (hAl : ∀ pre, Al pre → ∃ ks : List Int, pre = ks.map (fun k => [Value.int .i64 k]) ∧ ks.length ≤ 1000000) (hFin : ∀ pre, Fin pre → Al pre) : Ret Tryz.prog 80 #[.func (.func gf) ([] : List Value).toArray gc.toArray] w (fun v w' => ∃ (ks : List Int) (A : Option Addr) (c : Nat), Fin (ks.map (fun k => [Value.int .i64 k])) ∧ v = .slice A ks.length c ∧ w'.ownsRow w.heap.size 3 1 v ks.length (ints (ks.mergeSort fun x y => decide (x ≤ y))) ∧ Lk w' w NoB) := by
 refine ret_of_x (N := 9) (l := [.func (.func gf) ([] : List Value).toArray gc.toArray]) Tryz.func80 rfl rfl (Nat.le_of_ble_eq_true rfl) ?_
 refine x_seq ?_
 refine x_regionL ?_
 refine xl_v v_assign ?_
 refine xl_nil ?_
 refine x_seq ?_
 refine x_regionL ?_
 refine xl_v v_move ?_
 refine xl_call (collect_ok gf gc Own Al Fin _ hit hOwn hAl) ?_
 rintro _ w1 ⟨ks, A, c, hfin, rfl, ho, lk⟩
 have hkl : ks.length ≤ 1000000 := by
  obtain ⟨ks2, h1, h2⟩ := hAl _ (hFin _ hfin)
  have := congrArg List.length h1
  simp at this
  omega
 haveI := ownA_of ho (Nat.le_refl _)
 refine xl_v v_assign ?_
 refine xl_nil ?_
 refine x_seq ?_
 refine x_regionL ?_
 refine xl_v v_move ?_
 refine xl_call (sort_ok _ A c ks _ (own_ext ho lkc) hkl) ?_
 rintro _ w2 ⟨rfl, ho2, lk2⟩
 refine xl_nil ?_
 refine x_seq ?_
 refine x_regionL ?_
 refine xl_v v_move ?_
 refine xl_v v_assign ?_
 refine xl_nil ?_
 refine x_ret ?_
 refine fin1 rfl ?_
 exact ⟨ks, A, c, hfin, rfl, own_ext ho2 lkc, lkc⟩
theorem half_eq {a : Int} {n : Nat} (h : a = (n : Int)) (hn : n ≤ 1000000) : IntKind.i64.wrap (a.tdiv 2) = ((n / 2 : Nat) : Int) := by
 have e : a.tdiv 2 = ((n / 2 : Nat) : Int) := by rw [h]; exact (Int.ofNat_tdiv n 2).symm
 rw [e, wrap_in (by omega) (by omega)]

theorem majority_ok (A : Option Addr) (n c : Nat) (xs : List Int) (w : World) [hrow : Row w A (ints xs)] (hA : A.isSome = true) (hAl : ∀ k, blkA A = some k → k < w.heap.size) (hl : xs.length = n) (hn : 0 < n ∧ n ≤ 1000) : Ret Tryz.prog 70 #[.slice A n c] w (fun v w' => v = .int .i64 (majority xs) ∧ Lk w' w NoB) := by
 refine ret_of_x (N := 13) (l := [.slice A n c]) Tryz.func70 rfl rfl (Nat.le_of_ble_eq_true rfl) ?_
 refine x_seq ?_
 refine x_regionL ?_
 refine xl_v v_assign ?_
 refine xl_nil ?_
 refine x_seq ?_
 refine x_regionL ?_
 refine xl_v v_move ?_
 refine xl_call (values_ok A n c w) ?_
 rintro _ w1 ⟨b4, rfl, kb4, hb4, lk4⟩
 refine xl_call (sorted_ok 86 [Value.pointer (some ⟨b4, 0, none⟩)] (fun k => k = b4 ∨ blkA A = some k) (ValAl xs) (ValFin xs) w1 (fun W l => valuesIter b4 A n c xs W hA hl hn.2) (by
     rintro k (e | e)
     ·rw [e]; exact Has.lt
     ·exact Nat.lt_of_lt_of_le (hAl k e) Ge.le) (by
     rintro pre ⟨k, hk, rfl⟩
     exact ⟨xs.take k, rfl, by rw [List.length_take]; omega⟩) (by
     rintro pre rfl
     exact ⟨xs.length, Nat.le_refl _, by rw [List.take_length]⟩)) ?_
 rintro _ w2 ⟨ks, A5, c5, hfin, rfl, ho5, lk5⟩
 have hks : ks = xs := by
     have h1 : ks.map (fun k => [Value.int .i64 k]) = xs.map (fun k => [Value.int .i64 k]) := hfin
     exact (List.map_inj_right (fun a b e => by simpa using e)).1 h1
 subst hks
 haveI o5 : OwnI w2 A5 _ _ _ _ _ _ _ := ⟨ho5⟩
 have hsl : (ks.mergeSort fun x y => decide (x ≤ y)).length = ks.length := (sortI_perm ks).length_eq
 have hq : IntKind.i64.wrap (((ks.length : Int) - 1).tdiv 2) = (((n - 1) / 2 : Nat) : Int) := half_eq (by omega) (by omega)
 refine xl_v v_assign ?_
 refine xl_nil ?_
 refine x_seq ?_
 refine x_regionL ?_
 refine xl_v v_move ?_
 refine xl_v v_move ?_
 refine xl_v v_len ?_
 refine xl_v (v_sub (by omega)) ?_
 refine xl_v (v_congr (u := .int .i64 (((n - 1) / 2 : Nat) : Int)) (v_quo (by omega)) (congrArg (Value.int .i64) hq)) ?_
 refine xl_v (v_indexO ((n - 1) / 2) rfl (by omega) (by omega)) ?_
 refine xl_v (v_loadO (k := (n - 1) / 2) (by omega)) ?_
 refine xl_v v_assign ?_
 refine xl_nil ?_
 refine x_ret ?_
 refine fin1 rfl ?_
 refine ⟨congrArg (Value.int .i64) ?_, lkc⟩
 have hsl2 : (sortI ks).length = ks.length := (sortI_perm ks).length_eq
 show (sortI ks)[(n - 1) / 2]'(by omega) = (sortI ks).getD ((ks.length - 1) / 2) 0
 rw [List.getD_eq_getElem?_getD, List.getElem?_eq_getElem (by omega)]
 simp [hl]
def cmpI (a b : Int) : Int := if a < b then -1 else if b < a then 1 else 0

theorem isNaN_ok (a : Int) (w : World) : Ret Tryz.prog 83 #[.int .i64 a] w (fun v w' => v = .bool false ∧ Lk w' w NoB) := by
 refine ret_of_x (N := 6) (l := [.int .i64 a]) Tryz.func83 rfl rfl (Nat.le_of_ble_eq_true rfl) ?_
 refine x_seq ?_
 refine x_regionL ?_
 refine xl_v v_assign ?_
 refine xl_nil ?_
 refine x_seq ?_
 refine x_regionL ?_
 refine xl_v v_move ?_
 refine xl_v v_move ?_
 refine xl_v (v_neqF rfl) ?_
 refine xl_v v_assign ?_
 refine xl_nil ?_
 refine x_ret ?_
 refine fin1 rfl ?_
 exact ⟨rfl, lkc⟩

theorem isNaN64_ok (a : Int) (w : World) : Ret Tryz.prog 82 #[.int .i64 a] w (fun v w' => v = .bool false ∧ Lk w' w NoB) := by
 refine ret_of_x (N := 6) (l := [.int .i64 a]) Tryz.func82 rfl rfl (Nat.le_of_ble_eq_true rfl) ?_
 refine x_seq ?_
 refine x_regionL ?_
 refine xl_v v_assign ?_
 refine xl_nil ?_
 refine x_seq ?_
 refine x_regionL ?_
 refine xl_v v_move ?_
 refine xl_v v_move ?_
 refine xl_v (v_neqF rfl) ?_
 refine xl_v v_assign ?_
 refine xl_nil ?_
 refine x_ret ?_
 refine fin1 rfl ?_
 exact ⟨rfl, lkc⟩

theorem compare_ok (a b : Int) (w : World) : Ret Tryz.prog 74 #[.int .i64 a, .int .i64 b] w (fun v w' => v = .int .i64 (cmpI a b) ∧ Lk w' w NoB) := by
 refine ret_of_x (N := 20) (l := [.int .i64 a, .int .i64 b]) Tryz.func74 rfl rfl (Nat.le_of_ble_eq_true rfl) ?_
 refine x_seq ?_
 refine x_regionL ?_
 refine xl_v v_assign ?_
 refine xl_nil ?_
 refine x_seq ?_
 refine x_regionL ?_
 refine xl_v v_move ?_
 refine xl_call (isNaN_ok a w) ?_
 rintro _ w1 ⟨rfl, lk1⟩
 refine xl_v v_assign ?_
 refine xl_nil ?_
 refine x_seq ?_
 refine x_regionL ?_
 refine xl_v v_move ?_
 refine xl_call (isNaN_ok b w1) ?_
 rintro _ w2 ⟨rfl, lk2⟩
 refine xl_v v_assign ?_
 refine xl_nil ?_
 refine x_seq ?_
 refine x_seq ?_
 refine x_regionL ?_
 refine xl_v v_move ?_
 refine xl_nil ?_
 refine x_condF ?_
 refine x_skip ?_
 refine x_seq ?_
 refine x_seq ?_
 refine x_regionL ?_
 refine xl_v v_move ?_
 refine xl_nil ?_
 refine x_condF ?_
 refine x_skip ?_
 refine x_seq ?_
 refine x_seq ?_
 refine x_regionL ?_
 refine xl_v v_move ?_
 refine xl_v v_move ?_
 refine xl_v v_lss ?_
 refine xl_nil ?_
 first | refine x_condP (fun c4 => ?_) (fun c4 => ?_) | refine x_condN (fun c4 => ?_) (fun c4 => ?_) | refine x_condE (fun c4 => ?_) (fun c4 => ?_)
 ·
  refine x_seq ?_
  refine x_regionL ?_
  refine xl_v v_assign ?_
  refine xl_nil ?_
  refine x_ret ?_
  refine fin1 rfl ?_
  exact ⟨by rw [cmpI, if_pos c4], lkc⟩
 ·
  refine x_skip ?_
  refine x_seq ?_
  refine x_seq ?_
  refine x_regionL ?_
  refine xl_v v_move ?_
  refine xl_v v_move ?_
  refine xl_v v_gtr ?_
  refine xl_nil ?_
  first | refine x_condP (fun c5 => ?_) (fun c5 => ?_) | refine x_condN (fun c5 => ?_) (fun c5 => ?_) | refine x_condE (fun c5 => ?_) (fun c5 => ?_)
  ·
   refine x_seq ?_
   refine x_regionL ?_
   refine xl_v v_assign ?_
   refine xl_nil ?_
   refine x_ret ?_
   refine fin1 rfl ?_
   exact ⟨by rw [cmpI, if_neg c4, if_pos c5], lkc⟩
  ·
   refine x_skip ?_
   refine x_seq ?_
   refine x_regionL ?_
   refine xl_v v_assign ?_
   refine xl_nil ?_
   refine x_ret ?_
   refine fin1 rfl ?_
   exact ⟨by rw [cmpI, if_neg c4, if_neg c5], lkc⟩

theorem compare64_ok (a b : Int) (w : World) : Ret Tryz.prog 73 #[.int .i64 a, .int .i64 b] w (fun v w' => v = .int .i64 (cmpI a b) ∧ Lk w' w NoB) := by
 refine ret_of_x (N := 20) (l := [.int .i64 a, .int .i64 b]) Tryz.func73 rfl rfl (Nat.le_of_ble_eq_true rfl) ?_
 refine x_seq ?_
 refine x_regionL ?_
 refine xl_v v_assign ?_
 refine xl_nil ?_
 refine x_seq ?_
 refine x_regionL ?_
 refine xl_v v_move ?_
 refine xl_call (isNaN64_ok a w) ?_
 rintro _ w1 ⟨rfl, lk1⟩
 refine xl_v v_assign ?_
 refine xl_nil ?_
 refine x_seq ?_
 refine x_regionL ?_
 refine xl_v v_move ?_
 refine xl_call (isNaN64_ok b w1) ?_
 rintro _ w2 ⟨rfl, lk2⟩
 refine xl_v v_assign ?_
 refine xl_nil ?_
 refine x_seq ?_
 refine x_seq ?_
 refine x_regionL ?_
 refine xl_v v_move ?_
 refine xl_nil ?_
 refine x_condF ?_
 refine x_skip ?_
 refine x_seq ?_
 refine x_seq ?_
 refine x_regionL ?_
 refine xl_v v_move ?_
 refine xl_nil ?_
 refine x_condF ?_
 refine x_skip ?_
 refine x_seq ?_
 refine x_seq ?_
 refine x_regionL ?_
 refine xl_v v_move ?_
 refine xl_v v_move ?_
 refine xl_v v_lss ?_
 refine xl_nil ?_
 first | refine x_condP (fun c4 => ?_) (fun c4 => ?_) | refine x_condN (fun c4 => ?_) (fun c4 => ?_) | refine x_condE (fun c4 => ?_) (fun c4 => ?_)
 ·
  refine x_seq ?_
  refine x_regionL ?_
  refine xl_v v_assign ?_
  refine xl_nil ?_
  refine x_ret ?_
  refine fin1 rfl ?_
  exact ⟨by rw [cmpI, if_pos c4], lkc⟩
 ·
  refine x_skip ?_
  refine x_seq ?_
  refine x_seq ?_
  refine x_regionL ?_
  refine xl_v v_move ?_
  refine xl_v v_move ?_
  refine xl_v v_gtr ?_
  refine xl_nil ?_
  first | refine x_condP (fun c5 => ?_) (fun c5 => ?_) | refine x_condN (fun c5 => ?_) (fun c5 => ?_) | refine x_condE (fun c5 => ?_) (fun c5 => ?_)
  ·
   refine x_seq ?_
   refine x_regionL ?_
   refine xl_v v_assign ?_
   refine xl_nil ?_
   refine x_ret ?_
   refine fin1 rfl ?_
   exact ⟨by rw [cmpI, if_neg c4, if_pos c5], lkc⟩
  ·
   refine x_skip ?_
   refine x_seq ?_
   refine x_regionL ?_
   refine xl_v v_assign ?_
   refine xl_nil ?_
   refine x_ret ?_
   refine fin1 rfl ?_
   exact ⟨by rw [cmpI, if_neg c4, if_neg c5], lkc⟩

theorem or2_ok (A : Option Addr) (c : Nat) (a b : Int) (w : World) [Row w A (ints [a, b])] : Ret Tryz.prog 72 #[.slice A 2 c] w (fun v w' => v = .int .i64 (if a = 0 then b else a) ∧ Lk w' w NoB) := by
 refine ret_of_x (N := 18) (l := [.slice A 2 c]) Tryz.func72 rfl rfl (Nat.le_of_ble_eq_true rfl) ?_
 refine x_seq ?_
 refine x_regionL ?_
 refine xl_v v_assign ?_
 refine xl_nil ?_
 refine x_seq ?_
 refine x_regionL ?_
 refine xl_v v_assign ?_
 refine xl_nil ?_
 refine x_seq ?_
 refine x_seq ?_
 refine x_regionL ?_
 refine xl_v v_move ?_
 refine xl_v v_len ?_
 refine xl_v v_move ?_
 refine xl_nil ?_
 refine x_block ?_
 refine x_loop (fun m τ ds w' => ds = [] ∧ ∃ k : Nat, m = 2 - k ∧ k ≤ 2 ∧ (1 ≤ k → a = 0) ∧ (2 ≤ k → b = 0) ∧ Ev τ 3 (.int .i64 0) ∧ Ev τ 6 (.slice A 2 c) ∧ Ev τ 7 (.int .i64 2) ∧ Ev τ 8 (.int .i64 (k : Int)) ∧ Lk w' w NoB) (2) ?start ?round
 case start =>
  exact ⟨rfl, 0, rfl, Nat.zero_le _, fun h => absurd h (by omega), fun h => absurd h (by omega), inferInstance, inferInstance, evc, evc, lkc⟩
 case round =>
  intro m τ1 ds1 w1 hI
  obtain ⟨rfl, k, rfl, hk, ha, hb, e3, e6, e7, e8, lk⟩ := hI
  refine x_seq ?_
  refine x_regionL ?_
  refine xl_v v_lss ?_
  refine xl_nil ?_
  refine x_seq ?_
  first | refine x_condP (fun c1 => ?_) (fun c1 => ?_) | refine x_condN (fun c1 => ?_) (fun c1 => ?_) | refine x_condE (fun c1 => ?_) (fun c1 => ?_)
  ·
   have hk1 : k < [a, b].length := by simp; omega
   refine x_skip ?_
   refine x_seq ?_
   refine x_block ?_
   refine x_seq ?_
   refine x_regionL ?_
   refine xl_v (v_indexO k rfl (by omega) hk1) ?_
   refine xl_v (v_loadO (k := k) hk1) ?_
   refine xl_v v_assign ?_
   refine xl_nil ?_
   refine x_seq ?_
   refine x_regionL ?_
   refine xl_v v_move ?_
   refine xl_v v_move ?_
   refine xl_v v_neq ?_
   refine xl_nil ?_
   first | refine x_condP (fun c2 => ?_) (fun c2 => ?_) | refine x_condN (fun c2 => ?_) (fun c2 => ?_) | refine x_condE (fun c2 => ?_) (fun c2 => ?_)
   ·
    refine x_seq ?_
    refine x_regionL ?_
    refine xl_v v_move ?_
    refine xl_v v_assign ?_
    refine xl_nil ?_
    refine x_ret ?_
    refine fin1 rfl ?_
    refine ⟨congrArg (Value.int .i64) ?_, lkc⟩
    rcases Nat.lt_or_ge k 1 with e | e
    ·obtain rfl : k = 0 := by omega
     have c2' : ¬ a = 0 := by simpa using c2
     simp [if_neg c2']
    ·obtain rfl : k = 1 := by omega
     simp [ha (by omega)]
   ·
    refine x_skip ?_
    refine x_regionL ?_
    refine xl_v (v_add (by omega)) ?_
    refine xl_v v_move ?_
    refine xl_nil ?_
    refine ⟨_, ?_, rfl, k + 1, rfl, by omega, ?_, ?_, inferInstance, inferInstance, inferInstance, evc, lkc⟩
    ·omega
    ·intro _
     rcases Nat.lt_or_ge k 1 with e | e
     ·obtain rfl : k = 0 := by omega
      simpa using c2
     ·exact ha e
    ·intro _
     obtain rfl : k = 1 := by omega
     simpa using c2
  ·
   refine x_exit ?_
   refine x_seq ?_
   refine x_regionL ?_
   refine xl_v v_move ?_
   refine xl_v v_assign ?_
   refine xl_nil ?_
   refine x_ret ?_
   refine fin1 rfl ?_
   refine ⟨congrArg (Value.int .i64) ?_, lkc⟩
   have h1 := ha (by omega)
   have h2 := hb (by omega)
   simp [h1, h2]
end Go.Proofs.YtljdkelgapndgaaGreat
set_option linter.all false
set_option maxRecDepth 100000
set_option synthInstance.maxSize 100000
set_option synthInstance.maxHeartbeats 400000
namespace Go.Proofs.YtljdkelgapndgaaGreat
open Go.Wst
open Go.Wst.Qm
structure LC where
 l : List Cmd
 A : Option Addr
 c : Nat
abbrev lcV (x : LC) : Value := .slice x.A x.l.length x.c
theorem cmd_ext {a b : Cmd} (h1 : a.term = b.term) (h2 : a.val = b.val) : a = b := by
 cases a; cases b; cases h1; cases h2; rfl
theorem own_zero {base n c sz : Nat} {e : TypeId} {A : Option Addr} {xs : List Value} {W : World} (h : W.ownsRow base e sz (.slice A n c) n xs) : W.ownsRow base e sz (.slice A 0 c) 0 [] := by
 refine ⟨by simp, ?_⟩
 rcases h.2 with ⟨h1, h2⟩ | ⟨g, cap, cur, h1, h2, h3, h4, h5, h6, h7⟩
 ·cases h1; exact .inl ⟨rfl, rfl⟩
 ·cases h1; exact .inr ⟨g, _, cur, rfl, h2, h3, by omega, h5, h6, by simp⟩

theorem growC_ok (n : Nat) (w : World) (hn : n ≤ 100000000) : Ret Tryz.prog 69 #[.slice none 0 0, .int .i64 n] w (fun v w' => (∃ A c, v = .slice A 0 c ∧ w'.ownsRow w.heap.size 46 2 (.slice A 0 c) 0 []) ∧ Lk w' w NoB) := by
 refine ret_of_x (N := 27) (l := [.slice none 0 0, .int .i64 n]) Tryz.func69 rfl rfl (Nat.le_of_ble_eq_true rfl) ?_
 refine x_seq ?_
 refine x_regionL ?_
 refine xl_v v_assign ?_
 refine xl_nil ?_
 refine x_seq ?_
 refine x_seq ?_
 refine x_regionL ?_
 refine xl_v v_move ?_
 refine xl_v v_lss ?_
 refine xl_nil ?_
 first | refine x_condP (fun c1 => ?_) (fun c1 => ?_) | refine x_condN (fun c1 => ?_) (fun c1 => ?_) | refine x_condE (fun c1 => ?_) (fun c1 => ?_)
 ·
  omega
 ·
  refine x_skip ?_
  refine x_seq ?_
  refine x_seq ?_
  refine x_regionL ?_
  refine xl_v v_move ?_
  refine xl_v v_move ?_
  refine xl_v v_cap ?_
  refine xl_v v_move ?_
  refine xl_v v_len ?_
  refine xl_v (v_sub (by omega)) ?_
  refine xl_v (v_sub (by omega)) ?_
  refine xl_v v_assign ?_
  refine xl_nil ?_
  refine x_seq ?_
  refine x_regionL ?_
  refine xl_v v_move ?_
  refine xl_v v_gtr ?_
  refine xl_nil ?_
  first | refine x_condP (fun c2 => ?_) (fun c2 => ?_) | refine x_condN (fun c2 => ?_) (fun c2 => ?_) | refine x_condE (fun c2 => ?_) (fun c2 => ?_)
  ·
   refine x_regionL ?_
   refine xl_v v_move ?_
   refine xl_v v_move ?_
   refine xl_v v_cap ?_
   refine xl_v (v_sliceH 0 rfl (by omega)) ?_
   refine xl_v v_move ?_
   refine xl_e (e_appendZM (n := n) (by decide) (by omega) (by omega) (by omega) (by omega) fun Az cz w1 oz lz hcz => ?_)
   refine xl_v v_move ?_
   refine xl_v v_len ?_
   refine xl_v (v_sliceH 0 rfl (by omega)) ?_
   refine xl_v v_assign ?_
   refine xl_nil ?_
   refine x_seq ?_
   refine x_regionL ?_
   refine xl_v v_move ?_
   refine xl_v v_assign ?_
   refine xl_nil ?_
   refine x_ret ?_
   refine fin1 rfl ?_
   first
   | exact ⟨⟨_, _, rfl, own_ext oz lkc⟩, lkc⟩
   | exact ⟨⟨none, 0, rfl, World.ownsRow_nil _ _ _ _⟩, lkc⟩
  ·
   refine x_skip ?_
   refine x_seq ?_
   refine x_regionL ?_
   refine xl_v v_move ?_
   refine xl_v v_assign ?_
   refine xl_nil ?_
   refine x_ret ?_
   refine fin1 rfl ?_
   first
   | exact ⟨⟨_, _, rfl, own_ext oz lkc⟩, lkc⟩
   | exact ⟨⟨none, 0, rfl, World.ownsRow_nil _ _ _ _⟩, lkc⟩
abbrev lcC (x : LC) : List Value := [lcV x]
instance encN_lc : EncN lcC 1 := ⟨fun _ => rfl⟩
theorem cmdsC_append (a b : List Cmd) : cmdsC a ++ cmdsC b = cmdsC (a ++ b) := by simp
def lensC (l : List LC) : Nat := (l.map (fun x => x.l.length)).sum
theorem lens_take (l : List LC) (k : Nat) (h : k < l.length) : lensC (l.take (k + 1)) = lensC (l.take k) + l[k].l.length := by
 unfold lensC
 rw [take_snoc _ k h, List.map_append, List.sum_append]
 simp only [List.map_cons, List.map_nil, List.sum_cons, List.sum_nil, Nat.add_zero]
theorem lens_take_le (l : List LC) (k : Nat) : lensC (l.take k) ≤ lensC l := by
 have : lensC l = lensC (l.take k) + lensC (l.drop k) := by
  simp only [lensC]
  rw [← List.sum_append, ← List.map_append, List.take_append_drop]
 omega
theorem flat_lens (l : List LC) : (l.flatMap (·.l)).length = lensC l := by
 induction l with
 | nil => rfl
 | cons a l ih => simp only [List.flatMap_cons, List.length_append, ih, lensC, List.map_cons, List.sum_cons]

theorem concatC_ok (A : Option Addr) (n c : Nat) (xs : List LC) (w : World) [hra : RowB w A w (xs.flatMap lcC)] (hrs : ∀ j (h : j < xs.length), RowB w xs[j].A w (cmdsC xs[j].l)) (hl : xs.length = n) (hn : n ≤ 1000) (hb : lensC xs ≤ 100000000) : Ret Tryz.prog 61 #[.slice A n c] w (fun v w' => (∃ A' c', v = .slice A' (lensC xs) c' ∧ w'.ownsRow w.heap.size 46 2 v (lensC xs) (cmdsC (xs.flatMap (·.l)))) ∧ Lk w' w NoB) := by
 refine ret_of_x (N := 36) (l := [.slice A n c]) Tryz.func61 rfl rfl (Nat.le_of_ble_eq_true rfl) ?_
 refine x_seq ?_
 refine x_regionL ?_
 refine xl_v v_assign ?_
 refine xl_nil ?_
 refine x_seq ?_
 refine x_regionL ?_
 refine xl_v v_assign ?_
 refine xl_nil ?_
 refine x_seq ?_
 refine x_seq ?_
 refine x_regionL ?_
 refine xl_v v_move ?_
 refine xl_v v_len ?_
 refine xl_v v_move ?_
 refine xl_nil ?_
 refine x_block ?_
 refine x_loop (fun m τ ds w' => ds = [] ∧ ∃ k : Nat, m = n - k ∧ k ≤ n ∧ Ev τ 0 (.slice A n c) ∧ Ev τ 3 (.int .i64 (lensC (xs.take k) : Int)) ∧ Ev τ 9 (.slice A n c) ∧ Ev τ 10 (.int .i64 (n : Int)) ∧ Ev τ 11 (.int .i64 (k : Int)) ∧ Lk w' w NoB) (n) ?start ?round
 case start =>
  exact ⟨rfl, 0, rfl, by omega, inferInstance, inferInstance, inferInstance, inferInstance, evc, lkc⟩
 case round =>
  intro m τ1 ds1 w1 hI
  obtain ⟨rfl, k, rfl, hk, e0, e3, e9, e10, e11, lk⟩ := hI
  refine x_seq ?_
  refine x_regionL ?_
  refine xl_v v_lss ?_
  refine xl_nil ?_
  refine x_seq ?_
  first | refine x_condP (fun c1 => ?_) (fun c1 => ?_) | refine x_condN (fun c1 => ?_) (fun c1 => ?_) | refine x_condE (fun c1 => ?_) (fun c1 => ?_)
  ·
   have hk1 : k < xs.length := by omega
   have hlt := lens_take_le xs (k + 1)
   rw [lens_take xs k hk1] at hlt
   have hA := row_some (w := w1) (A := A) (cs := xs.flatMap lcC) inferInstance (by rw [flat_len (sz := 1) (fun _ => rfl)]; omega)
   refine x_skip ?_
   refine x_seq ?_
   refine x_block ?_
   refine x_seq ?_
   refine x_regionL ?_
   refine xl_v (v_indexF k (by decide) rfl (by omega) hk1) ?_
   refine xl_v (v_loadF0 hk1) ?_
   refine xl_v v_assign ?_
   refine xl_nil ?_
   refine x_seq ?_
   refine x_regionL ?_
   refine xl_v v_move ?_
   refine xl_v v_move ?_
   refine xl_v v_len ?_
   refine xl_v (v_add (by omega)) ?_
   refine xl_v v_assign ?_
   refine xl_nil ?_
   refine x_seq ?_
   refine x_regionL ?_
   refine xl_v v_move ?_
   refine xl_v v_lss ?_
   refine xl_nil ?_
   first | refine x_condP (fun c2 => ?_) (fun c2 => ?_) | refine x_condN (fun c2 => ?_) (fun c2 => ?_) | refine x_condE (fun c2 => ?_) (fun c2 => ?_)
   ·
    omega
   ·
    refine x_skip ?_
    refine x_regionL ?_
    refine xl_v (v_add (by omega)) ?_
    refine xl_v v_move ?_
    refine xl_nil ?_
    refine ⟨_, ?_, rfl, k + 1, rfl, by omega, inferInstance, evc (congrArg (Value.int .i64) (by rw [lens_take xs k hk1]; omega)), inferInstance, inferInstance, evc, lkc⟩
    omega
  ·
   refine x_exit ?_
   refine x_seq ?_
   have hkn : k = n := by omega
   have htk : lensC (xs.take k) = lensC xs := by rw [List.take_of_length_le (by omega)]
   rw [htk] at e3
   refine x_regionL ?_
   refine xl_v v_move ?_
   refine xl_call (growC_ok (lensC xs) w1 (by omega)) ?_
   rintro _ w2 ⟨⟨A6, c6, rfl, ho6⟩, lk6⟩
   have hge := (Ge.le : w.heap.size ≤ (w1).heap.size)
   refine xl_v v_assign ?_
   refine xl_nil ?_
   refine x_seq ?_
   refine x_seq ?_
   refine x_regionL ?_
   refine xl_v v_move ?_
   refine xl_v v_len ?_
   refine xl_v v_move ?_
   refine xl_nil ?_
   refine x_block ?_
   have ho6' : World.ownsRow w2 w.heap.size 46 2 (.slice A6 0 c6) 0 [] := own_mono (own_ext ho6 lkc) hge
   refine x_loop (fun m τ ds w' => ds = [] ∧ ∃ (k : Nat) (A7 : Option Addr) (c7 : Nat), m = n - k ∧ k ≤ n ∧ w'.ownsRow w.heap.size 46 2 (.slice A7 (lensC (xs.take k)) c7) (lensC (xs.take k)) (cmdsC ((xs.take k).flatMap (·.l))) ∧ Ev τ 6 (.slice A7 (lensC (xs.take k)) c7) ∧ Ev τ 25 (.slice A n c) ∧ Ev τ 26 (.int .i64 (n : Int)) ∧ Ev τ 27 (.int .i64 (k : Int)) ∧ Lk w' w NoB) (n) ?start ?round
   case start =>
    exact ⟨rfl, 0, A6, c6, rfl, by omega, by simpa [lensC] using ho6', evc, inferInstance, inferInstance, evc, lkc⟩
   case round =>
    intro m τ3 ds3 w3 hI
    obtain ⟨rfl, k2, A7, c7, rfl, hk2, ho7, e6, e25, e26, e27, lk2⟩ := hI
    haveI : OwnI w3 A7 _ _ _ _ _ _ _ := ⟨ho7⟩
    haveI : NewA A7 w := newA_of ho7 (Nat.le_refl _)
    refine x_seq ?_
    refine x_regionL ?_
    refine xl_v v_lss ?_
    refine xl_nil ?_
    refine x_seq ?_
    first | refine x_condP (fun c3 => ?_) (fun c3 => ?_) | refine x_condN (fun c3 => ?_) (fun c3 => ?_) | refine x_condE (fun c3 => ?_) (fun c3 => ?_)
    ·
     have hk1 : k2 < xs.length := by omega
     have hlt := lens_take_le xs (k2 + 1)
     rw [lens_take xs k2 hk1] at hlt
     haveI hrk : RowB w xs[k2].A w (cmdsC xs[k2].l) := hrs k2 hk1
     refine x_skip ?_
     refine x_seq ?_
     refine x_block ?_
     refine x_seq ?_
     refine x_regionL ?_
     refine xl_v (v_indexF k2 (by decide) rfl (by omega) hk1) ?_
     refine xl_v (v_loadF0 hk1) ?_
     refine xl_v v_assign ?_
     refine xl_nil ?_
     refine x_regionL ?_
     refine xl_v v_move ?_
     refine xl_v v_move ?_
     refine xl_e (e_app (by simp) (by decide) (by omega) (by omega) Ge.le fun A8 c8 w4 ox lx ax fx => ?_)
     have ho8 : World.ownsRow w4 w.heap.size 46 2 (.slice A8 (lensC (xs.take (k2 + 1))) c8) (lensC (xs.take (k2 + 1))) (cmdsC ((xs.take (k2 + 1)).flatMap (·.l))) := by
      have := ox.own
      rw [cmdsC_append] at this
      rw [lens_take xs k2 hk1, take_snoc _ k2 hk1, List.flatMap_append]
      simpa using this
     refine xl_v v_assign ?_
     refine xl_nil ?_
     refine x_regionL ?_
     refine xl_v (v_add (by omega)) ?_
     refine xl_v v_move ?_
     refine xl_nil ?_
     refine ⟨_, ?_, rfl, k2 + 1, A8, c8, rfl, by omega, ho8, evc (by rw [lens_take xs k2 hk1]), inferInstance, inferInstance, evc, lkc⟩
     omega
    ·
     refine x_exit ?_
     refine x_seq ?_
     refine x_regionL ?_
     refine xl_v v_move ?_
     refine xl_v v_assign ?_
     refine xl_nil ?_
     refine x_ret ?_
     refine fin1 rfl ?_
     have hkn2 : k2 = n := by omega
     have htk2 : lensC (xs.take k2) = lensC xs := by rw [List.take_of_length_le (by omega)]
     rw [List.take_of_length_le (by omega)] at ho7
     refine ⟨⟨A7, c7, by rw [htk2], ?_⟩, lkc⟩
     rw [htk2]
     exact ho7

theorem eqC_ok (A : Option Addr) (n c : Nat) (xs : List Cmd) (B : Option Addr) (n' c' : Nat) (ys : List Cmd) (w : World) [Row w A (xs.flatMap cmdC)] [Row w B (ys.flatMap cmdC)] (hl : xs.length = n) (hl' : ys.length = n') (hn : n ≤ 1000000000) : Ret Tryz.prog 24 #[.slice A n c, .slice B n' c'] w (fun v w' => v = .bool (decide (xs = ys)) ∧ Lk w' w NoB) := by
 refine ret_of_x (N := 26) (l := [.slice A n c, .slice B n' c']) Tryz.func24 rfl rfl (Nat.le_of_ble_eq_true rfl) ?_
 refine x_seq ?_
 refine x_regionL ?_
 refine xl_v v_assign ?_
 refine xl_nil ?_
 refine x_seq ?_
 refine x_seq ?_
 refine x_regionL ?_
 refine xl_v v_move ?_
 refine xl_v v_len ?_
 refine xl_v v_move ?_
 refine xl_v v_len ?_
 refine xl_v v_neq ?_
 refine xl_nil ?_
 first | refine x_condP (fun c1 => ?_) (fun c1 => ?_) | refine x_condN (fun c1 => ?_) (fun c1 => ?_) | refine x_condE (fun c1 => ?_) (fun c1 => ?_)
 ·
  refine x_seq ?_
  refine x_regionL ?_
  refine xl_v v_assign ?_
  refine xl_nil ?_
  refine x_ret ?_
  refine fin1 rfl ?_
  exact ⟨by rw [decide_eq_false]; intro e; subst e; omega, lkc⟩
 ·
  have hnn : n = n' := by omega
  refine x_skip ?_
  refine x_seq ?_
  refine x_seq ?_
  refine x_regionL ?_
  refine xl_v v_move ?_
  refine xl_v v_len ?_
  refine xl_v v_move ?_
  refine xl_nil ?_
  refine x_block ?_
  refine x_loop (fun m τ ds w' => ds = [] ∧ ∃ k : Nat, m = n - k ∧ k ≤ n ∧ xs.take k = ys.take k ∧ Ev τ 0 (.slice A n c) ∧ Ev τ 1 (.slice B n' c') ∧ Ev τ 12 (.int .i64 (n : Int)) ∧ Ev τ 13 (.int .i64 (k : Int)) ∧ Lk w' w NoB) (n) ?start ?round
  case start =>
   exact ⟨rfl, 0, rfl, Nat.zero_le _, by simp, inferInstance, inferInstance, inferInstance, evc, lkc⟩
  case round =>
   intro m τ1 ds1 w1 hI
   obtain ⟨rfl, k, rfl, hk, heq, e0, e1, e2, e3, lk⟩ := hI
   refine x_seq ?_
   refine x_regionL ?_
   refine xl_v v_lss ?_
   refine xl_nil ?_
   refine x_seq ?_
   first | refine x_condP (fun c2 => ?_) (fun c2 => ?_) | refine x_condN (fun c2 => ?_) (fun c2 => ?_) | refine x_condE (fun c2 => ?_) (fun c2 => ?_)
   ·
    have hk1 : k < xs.length := by omega
    have hk2 : k < ys.length := by omega
    have hA := row_some (w := w) (A := A) (cs := xs.flatMap cmdC) inferInstance (by rw [flat_len (sz := 2) (fun _ => rfl)]; omega)
    have hB := row_some (w := w) (A := B) (cs := ys.flatMap cmdC) inferInstance (by rw [flat_len (sz := 2) (fun _ => rfl)]; omega)
    refine x_skip ?_
    refine x_seq ?_
    refine x_block ?_
    refine x_seq ?_
    refine x_regionL ?_
    refine xl_v v_move ?_
    refine xl_v v_assign ?_
    refine xl_nil ?_
    refine x_seq ?_
    refine x_drawL (NoB) (allS) (.take 0 (.take 1 (.take 2 (.take 3 (.take 4 (.take 5 (.take 6 (.take 7 (.take 8 .done))))))))) mixed (by kernel_rfl) (fun _ _ _ _ _ h => h) (fun w2 l2 => ?_)
    refine xt_v rfl v_move ?_
    refine xt_v rfl v_move ?_
    refine xt_v rfl (v_indexAddr k rfl (by omega) hA) ?_
    refine xt_v rfl (v_loadRA (vs := cmdC xs[k]) rfl hA (flat_get (enc := cmdC) (fun _ => rfl) xs k hk1)) ?_
    refine xt_v rfl v_move ?_
    refine xt_v rfl v_move ?_
    refine xt_v rfl (v_indexAddr k rfl (by omega) hB) ?_
    refine xt_v rfl (v_loadRA (vs := cmdC ys[k]) rfl hB (flat_get (enc := cmdC) (fun _ => rfl) ys k hk2)) ?_
    refine xt_v rfl v_neq_struct ?_
    refine xt_nil ?_
    refine x_condE (fun c3 => ?_) (fun c3 => ?_)
    ·
     have hne : xs[k] ≠ ys[k] := fun e => by rw [e] at c3; simp at c3
     refine x_seq ?_
     refine x_regionL ?_
     refine xl_v v_assign ?_
     refine xl_nil ?_
     refine x_ret ?_
     refine fin1 rfl ?_
     refine ⟨?_, lkc⟩
     rw [decide_eq_false]
     intro e
     subst e
     exact hne rfl
    ·
     have heqk : xs[k] = ys[k] := by
      simp at c3
      exact cmd_ext c3.1 c3.2
     refine x_skip ?_
     refine x_regionL ?_
     refine xl_v (v_add (by omega)) ?_
     refine xl_v v_move ?_
     refine xl_nil ?_
     refine ⟨_, ?_, rfl, k + 1, rfl, by omega, ?_, inferInstance, inferInstance, inferInstance, evc, lkc⟩
     ·omega
     ·rw [take_snoc _ _ hk1, take_snoc _ _ hk2, heq, heqk]
   ·
    refine x_exit ?_
    refine x_seq ?_
    refine x_regionL ?_
    refine xl_v v_assign ?_
    refine xl_nil ?_
    refine x_ret ?_
    refine fin1 rfl ?_
    refine ⟨?_, lkc⟩
    rw [decide_eq_true]
    rw [List.take_of_length_le (by omega), List.take_of_length_le (by omega)] at heq
    exact heq
end Go.Proofs.YtljdkelgapndgaaGreat
