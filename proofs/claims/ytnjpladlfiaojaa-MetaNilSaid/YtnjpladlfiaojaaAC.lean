/-
 Walks, printed by a program of this workplace (wip/tools/sx.py) off the functions' code and a text of contracts.
-/
import Derived.Test.YtnjpladlfiaojaaAB
set_option linter.all false
set_option maxRecDepth 100000
set_option synthInstance.maxSize 100000
set_option synthInstance.maxHeartbeats 400000
namespace Go.Proofs.Ytnjpladlfiaojaa
open Go.Wst
open Go.Wst.Ct
/-- What Q names, and what came since. -/
def wide (Q : Nat → Prop) (w W : World) : Nat → Prop := fun k => Q k ∨ (w.heap.size ≤ k ∧ k < W.heap.size)
instance notS_wide (Q : Nat → Prop) (w w1 W : World) (b : Nat) [n : New b w1] [g : Ge w1 w] [h : Has W b] : NotS (NotP (wide Q w W)) b := ⟨fun e => e (.inr ⟨by have := n.eq; have := g.le; omega, h.lt⟩)⟩
instance rowOut_wide (Q : Nat → Prop) (w w1 W : World) (A : Option Addr) [n : NewA A w1] [g : Ge w1 w] [h : OldA W A] : RowOut (NotP (wide Q w W)) A := ⟨fun a ha e => e (.inr ⟨by have := n.le a ha; have := g.le; omega, h.lt a ha⟩)⟩
theorem PairM.widen {P Q : Nat → Prop} {m : Nat} {D R : LMeta} {w W : World} (h : PairM P Q m D R w) (hk : Keep NoB w W) : PairM (wide P w W) (wide Q w W) m D R W :=
 h.keep hk (fun _ _ e => e.elim) (fun k e => by
  rcases e with e | e
  ·exact ⟨Nat.lt_of_lt_of_le (h.pl k e) hk.size, .inl e⟩
  ·exact ⟨e.2, .inr e.1⟩) (fun k e => by
  rcases e with e | e
  ·exact ⟨Nat.lt_of_lt_of_le (h.ql k e) hk.size, .inl e⟩
  ·exact ⟨e.2, .inr e.1⟩)
theorem PairM.narrow {P Q : Nat → Prop} {m : Nat} {D R : LMeta} {w W W' : World} (h : PairM (wide P w W) (wide Q w W) m D R W') : PairM P Q m D R W' :=
 ⟨h.at_, h.pure, h.ok, fun k e => h.pl k (.inl e), fun k e => h.ql k (.inl e), fun k e => h.pm k (.inl e), fun k e => h.qm k (.inl e), by
  obtain ⟨F, h1, h2⟩ := h.ex
  exact ⟨F, h1, fun k e => ⟨fun e2 => (h2 k e).1 (.inl e2), (h2 k e).2⟩⟩⟩
/-- A controller as it is made, and the document's. -/
theorem PairM.new {m nb np ni : Nat} {D R : LMeta} {F' P Q : Nat → Prop} {wp wq W : World} (hM : MetaAt W m D) (hD : D.pure = new nb np ni) (hN : NewM m D wp) (hml : ∀ k, MetaB m D k → k < wq.heap.size) (hR : RefAt W F' R) (hRp : R.pure = new nb np ni) (hs : Sub F' NoB wq) (hb : 1 ≤ nb ∧ nb ≤ 4) (hp : 1 ≤ np ∧ np ≤ 4) (hi : 1 ≤ ni ∧ ni ≤ 4) (hP : ∀ k, P k → k < W.heap.size ∧ (¬ MetaB m D k) ∧ ¬ F' k) (hQ : ∀ k, Q k → k < W.heap.size ∧ ¬ MetaB m D k) : PairM P Q m D R W :=
 ⟨hM, by rw [hD, hRp], by rw [hD]; exact Go.Wst.Ct.new_ok hb hp hi, fun k e => (hP k e).1, fun k e => (hQ k e).1, fun k e => (hP k e).2.1, fun k e => (hQ k e).2, F', hR, fun k e => ⟨fun e2 => (hP k e2).2.2 e, fun e2 => by
  rcases hs k e with q | q
  ·exact q
  ·have := hml k e2; omega⟩⟩
theorem newE_ok (b p i : Int) (w : World) : Ret Try.prog 14 #[.agg #[.int .i64 b, .int .i64 p, .int .i64 i]] w (fun v w' => (∃ (A : Option Addr) (e : Int), v = .tuple #[.pointer A, .int .i64 e] ∧ ((¬ formOk b p i ∧ A = none ∧ e = 2) ∨ (formOk b p i ∧ ∃ m D, A = some ⟨m, 0, none⟩ ∧ e = 0 ∧ MetaAt w' m D ∧ D.pure = new b.toNat p.toNat i.toNat ∧ NewM m D w))) ∧ Lk w' w NoB) := by
 refine (new_ok b p i w).mono ?_
 rintro v w' ⟨h, lk⟩
 refine ⟨?_, lk⟩
 split at h
 ·next hf =>
  obtain ⟨m, D, rfl, h1, h2, h3⟩ := h
  exact ⟨_, _, rfl, .inr ⟨hf, m, D, rfl, rfl, h1, h2, h3⟩⟩
 ·next hf => exact ⟨_, _, h, .inl ⟨hf, rfl, rfl⟩⟩
instance subF_wideQ (Q : Nat → Prop) (w W w0 : World) : SubF (NotP (wide Q w W)) (NotP Q) w0 := ⟨fun k _ e e2 => e (.inl e2)⟩
instance subS_wideQ (Q : Nat → Prop) (w W : World) : SubS (NotP (wide Q w W)) (NotP Q) := ⟨fun k e e2 => e (.inl e2)⟩
set_option maxHeartbeats 2000000 in
/-- waystation/waystationlaw10.MetaPlay -/
theorem metaPlay_ok (b p i : Int) (A : Option Addr) (n c : Nat) (xs : List LAct) (w : World) [hra : Row w A (xs.flatMap actC)] (hrs : ∀ j (h : j < xs.length), RowP w xs[j].A (ints xs[j].a.list)) (hss : ∀ j (h : j < xs.length), xs[j].A.isSome = true ∨ xs[j].a.list.length = 0) (hl : xs.length = n) : Ret Try.prog 4 #[.agg #[.int .i64 b, .int .i64 p, .int .i64 i], .slice A n c] w (fun v w' => v = .bool true ∧ Lk w' w NoB) := by
 haveI hrb : RowB w A w (xs.flatMap actC) := rowB_of hra.row
 refine ret_of_x (N := 72) (l := [.agg #[.int .i64 b, .int .i64 p, .int .i64 i], .slice A n c]) Try.func4 rfl rfl (Nat.le_of_ble_eq_true rfl) ?_
 refine x_seq ?_
 refine x_regionL ?_
 refine xl_e (e_box fun b1 w1 n1 l1 k1 => ?_)
 refine xl_v v_assign ?_
 refine xl_nil ?_
 refine x_seq ?_
 refine x_seq ?_
 refine x_regionL ?_
 refine xl_v v_move ?_
 refine xl_v v_len ?_
 refine xl_v v_gtr ?_
 refine xl_v v_move ?_
 refine xl_split 14 (fun g14 => ?_) (fun g14 => ?_)
 ·
  refine xl_gs rfl EvO.eq ?_
  refine xl_gs rfl EvO.eq ?_
  refine xl_Pk ?_
  refine xl_nil ?_
  refine x_condT ?_
  refine x_seq ?_
  refine x_regionL ?_
  refine xl_call (known_ok w1) ?_
  rintro _ w2 ⟨rfl, lkk⟩
  refine xl_v v_assign ?_
  refine xl_nil ?_
  refine x_ret ?_
  refine fin1 rfl ?_
  exact ⟨rfl, lkc⟩
 ·
  refine xl_gv rfl EvO.eq v_move ?_
  refine xl_gcall rfl EvO.eq (large_ok A n c xs w1 hl (by simp at g14; omega)) ?_
  rintro _ w3 ⟨⟨bl, rfl, hbl⟩, lkl⟩
  refine xl_Pk ?_
  refine xl_nil ?_
  refine x_condE (fun c1 => ?_) (fun c1 => ?_)
  ·
   refine x_seq ?_
   refine x_regionL ?_
   refine xl_call (known_ok w3) ?_
   rintro _ w4 ⟨rfl, lkk⟩
   refine xl_v v_assign ?_
   refine xl_nil ?_
   refine x_ret ?_
   refine fin1 rfl ?_
   exact ⟨rfl, lkc⟩
  ·
   have hn : n ≤ 60 := by simp at g14; omega
   have hlen := hbl c1
   refine x_skip ?_
   refine x_seq ?_
   refine x_regionL ?_
   refine xl_La ?_
   refine xl_call (newE_ok b p i w3) ?_
   rintro _ w5 ⟨⟨NA, ne, rfl, hnw⟩, lkn⟩
   refine xl_v v_move ?_
   refine xl_v v_extract ?_
   refine xl_v v_extract ?_
   refine xl_v v_assign ?_
   refine xl_v v_assign ?_
   refine xl_nil ?_
   refine x_seq ?_
   refine x_seq ?_
   refine x_regionL ?_
   refine xl_La ?_
   refine xl_call (refright_ok b p i w5) ?_
   rintro _ w6 ⟨rfl, lkr⟩
   refine xl_v v_not ?_
   refine xl_nil ?_
   first | refine x_condP (fun c2 => ?_) (fun c2 => ?_) | refine x_condN (fun c2 => ?_) (fun c2 => ?_) | refine x_condE (fun c2 => ?_) (fun c2 => ?_)
   ·
    obtain ⟨_, rfl, rfl⟩ : ¬ formOk b p i ∧ NA = none ∧ ne = 2 := hnw.resolve_right (fun e => c2 e.1)
    refine x_seq ?_
    refine x_regionL ?_
    refine xl_v v_move ?_
    refine xl_v (v_eql_pointerN) ?_
    refine xl_v v_move ?_
    refine xl_gv rfl EvO.eq v_move ?_
    refine xl_gv rfl EvO.eq (v_eqlT rfl) ?_
    refine xl_Pk ?_
    refine xl_v v_move ?_
    refine xl_gcall rfl EvO.eq (known_ok w6) ?_
    rintro _ w7 ⟨rfl, lkk⟩
    refine xl_Pk ?_
    refine xl_v v_assign ?_
    refine xl_nil ?_
    refine x_ret ?_
    refine fin1 rfl ?_
    exact ⟨rfl, lkc⟩
   ·
    obtain ⟨hf, m, D, rfl, rfl, hM, hP, hN⟩ := hnw.resolve_left (fun e => e.1 c2)
    obtain ⟨nb, hnb⟩ : ∃ n : Nat, n = b.toNat := ⟨_, rfl⟩
    obtain ⟨np, hnp⟩ : ∃ n : Nat, n = p.toNat := ⟨_, rfl⟩
    obtain ⟨ni, hni⟩ : ∃ n : Nat, n = i.toNat := ⟨_, rfl⟩
    have hb1 : b = nb := by have := hf.1; omega
    have hp1 : p = np := by have := hf.2.1; omega
    have hi1 : i = ni := by have := hf.2.2; omega
    have hb4 : 1 ≤ nb ∧ nb ≤ 4 := by have := hf.1; omega
    have hp4 : 1 ≤ np ∧ np ≤ 4 := by have := hf.2.1; omega
    have hi4 : 1 ≤ ni ∧ ni ≤ 4 := by have := hf.2.2; omega
    rw [← hnb, ← hnp, ← hni] at hP
    have hb1v : b1 = b1 := rfl
    refine x_skip ?_
    refine x_seq ?_
    refine x_regionL ?_
    refine xl_La ?_
    refine xl_call ((by rw [hb1, hp1, hi1]; exact refnew_ok nb np ni w6 hb4 hp4 hi4 : Ret Try.prog 15 #[.agg #[.int .i64 b, .int .i64 p, .int .i64 i]] w6 _)) ?_
    rintro _ w8 ⟨⟨R, F', rfl, hRp, hR, hRs⟩, lkf⟩
    have hMp := hM.ext (kpc : Keep NoB _ w6)
    have hmlp := hMp.lt
    refine xl_e (e_alloc fun bg w9 ng lg kg => ?_)
    refine xl_s (e_storeA fun w10 l10 k10 => ?_)
    refine xl_nil ?_
    refine x_seq ?_
    refine x_seq ?_
    refine x_regionL ?_
    refine xl_v v_move ?_
    refine xl_v (v_neqF rfl) ?_
    refine xl_v v_move ?_
    refine xl_gv rfl EvO.eq v_move ?_
    refine xl_gLa rfl EvO.eq ?_
    have hbgn : ∀ k, MetaB m D k → k ≠ bg := fun k e => by have := hmlp k e; have := ng.eq; have := lkf.keep.size; omega
    have hbgF : ∀ k, F' k → k ≠ bg := fun k e => by have := hR.lt k e; have := ng.eq; omega
    have hbgl : bg < (w10).heap.size := Has.lt
    have hwN : ∀ k, MetaB m D k → w.heap.size ≤ k := fun k e => Nat.le_trans Ge.le (hN k e)
    have hRw := hR.ext (kpc : Keep NoB _ w10)
    have hMw := hM.ext (kpc : Keep NoB _ w10)
    have hwsz := (Ge.le : w.heap.size ≤ (w10).heap.size)
    have hF'N : ∀ k, F' k → w.heap.size ≤ k := fun k e => (hRs k e).elim (fun e => e.elim) (fun e => Nat.le_trans Ge.le e)
    have hPr : PairM (fun k => k = bg) (fun k => k < w.heap.size ∨ k = bg) m D R w10 := PairM.new hMw hP hN hmlp hRw hRp hRs hb4 hp4 hi4 (fun k e => ⟨e ▸ hbgl, fun e2 => hbgn k e2 e, fun e2 => hbgF k e2 e⟩) (fun k e => ⟨e.elim (fun e => by omega) (fun e => e ▸ hbgl), fun e2 => e.elim (fun e => by have := hwN k e2; omega) (hbgn k e2)⟩)
    refine xl_gcall rfl EvO.eq (lsame_ok _ _ m D R w10 (hPr.ext (kpc : Keep NoB _ w10))) ?_
    rintro _ w11 ⟨rfl, lks⟩
    refine xl_gv rfl EvO.eq v_not ?_
    refine xl_Pk ?_
    refine xl_nil ?_
    refine x_condF ?_
    refine x_skip ?_
    refine x_seq ?_
    refine x_seq ?_
    refine x_regionL ?_
    refine xl_v v_assign ?_
    refine xl_nil ?_
    refine x_block ?_
    have hgcell : (w11).heap[bg]? = some (.cells (metaC R).toArray 35 (0, 0)) := Blk.eq
    have hPrw := hPr.ext (kpc : Keep NoB _ w11)
    have hbgw : w.heap.size ≤ bg := by rw [ng.eq]; exact Ge.le
    haveI sbg : SubF (OneB bg) NoB w := ⟨fun k hk e => by have e' : k = bg := e; omega⟩
    refine x_loop (fun t τ ds w' => ds = [] ∧ ∃ (k : Nat) (D2 R2 : LMeta), t = n - k ∧ k ≤ n ∧ PairM (fun k => k = bg) (fun k => k < w.heap.size ∨ k = bg) m D2 R2 w' ∧ w'.heap[bg]? = some (.cells (metaC R2).toArray 35 (0, 0)) ∧ Ev τ 1 (.slice A n c) ∧ Ev τ 5 (.pointer (some ⟨m, 0, none⟩)) ∧ Ev τ 7 (.pointer (some ⟨bg, 0, none⟩)) ∧ Ev τ 8 (.int .i64 (k : Int)) ∧ Lk w' w NoB) (n) ?start ?round
    case start =>
     exact ⟨rfl, 0, D, R, rfl, Nat.zero_le _, hPrw, hgcell, inferInstance, inferInstance, inferInstance, evc, lkc⟩
    case round =>
     intro m τ12 ds12 w12 hI
     obtain ⟨rfl, k, D2, R2, rfl, hk, hPr2, hbg, e1, e5, e7, e8, lk⟩ := hI
     haveI kbg : Blk w12 bg _ := ⟨hbg⟩
     refine x_seq ?_
     refine x_seq ?_
     refine x_regionL ?_
     refine xl_v v_move ?_
     refine xl_v v_move ?_
     refine xl_v v_len ?_
     refine xl_v v_lss ?_
     refine xl_nil ?_
     first | refine x_condP (fun c4 => ?_) (fun c4 => ?_) | refine x_condN (fun c4 => ?_) (fun c4 => ?_) | refine x_condE (fun c4 => ?_) (fun c4 => ?_)
     ·
      have hk1 : k < xs.length := by omega
      haveI hrx : RowB w xs[k].A w (ints xs[k].a.list) := rowB_of (hrs k hk1)
      have hll := hlen k hk1
      refine x_skip ?_
      refine x_seq ?_
      refine x_block ?_
      refine x_seq ?_
      have hAlt : ∀ a, A = some a → a.block < w.heap.size := hrb.far.resolve_left (by
          intro e
          have h1 : (xs.flatMap actC).length = xs.length * 8 := flat_len (enc := actC) (sz := 8) (fun _ => rfl) xs
          rw [e] at h1
          simp at h1
          omega)
      haveI nsbg : NotS (NotP (fun k => k < w.heap.size ∨ k = bg)) bg := ⟨fun e => e (.inr rfl)⟩
      haveI roA : RowOut (NotP (fun k => k < w.heap.size ∨ k = bg)) A := ⟨fun a ha e => e (.inl (hAlt a ha))⟩
      haveI sQw : ∀ W1 W2, SubF (NotP (wide (fun k => k < w.heap.size ∨ k = bg) W1 W2)) NoB w := fun W1 W2 => ⟨fun k hk e => e (.inl (.inl hk))⟩
      haveI aQw : ∀ W1 W2, Above (NotP (wide (fun k => k < w.heap.size ∨ k = bg) W1 W2)) w := fun W1 W2 => ⟨fun k e => Nat.le_of_not_lt (fun h => e (.inl (.inl h)))⟩
      haveI nsbg2 : ∀ W1 W2, NotS (NotP (wide (fun k => k < w.heap.size ∨ k = bg) W1 W2)) bg := fun W1 W2 => ⟨fun e => e (.inl (.inr rfl))⟩
      have hwB : w.heap.size ≤ (w12).heap.size := Ge.le
      refine x_drawL (NotP (fun k => k < w.heap.size ∨ k = bg)) (allS) (.take 0 (.take 1 (.take 2 (.take 3 (.take 4 (.take 5 (.fork 6 (.take 7 (.take 8 (.take 9 (.eff 10 (.eff 11 (.take 12 .done)))))) 10 (.eff 6 (.take 7 (.take 8 (.take 9 (.eff 11 (.take 12 .done))))))))))))) mixed (by kernel_rfl) (fun _ _ _ _ _ h => h) (fun w13 l13 => ?_)
      refine xt_v rfl v_move ?_
      refine xt_La rfl ?_
      refine xt_v rfl v_move ?_
      refine xt_v rfl v_move ?_
      refine xt_v rfl (v_indexF k (by decide) rfl (by omega) hk1) ?_
      refine xt_v rfl (v_loadF (k := k) (by decide) hk1) ?_
      refine xt_fork ?_ ?_
      ·
       refine xt_call rfl (does_ok (wide (fun k => k = bg) w12 w13) (wide (fun k => k < w.heap.size ∨ k = bg) w12 w13) m D2 R2 xs[k] w13 (hPr2.widen (kpc : Keep NoB w12 w13)) (by omega) (hss k hk1) (fun hne a ha => by
             have h1 := hrx.far.resolve_left (by simpa [ints] using hne) a ha
             refine ⟨.inl (.inl h1), ?_⟩
             rintro (e | e)
             ·have e' : a.block = bg := e
              omega
             ·omega)) ?_
       rintro _ w14 ⟨⟨R3, D3, rfl, hP3, hp3⟩, lk3⟩
       refine ⟨kpc, ?_⟩
       have hcs := lk3.keep.size
       refine xt_v rfl v_move ?_
       refine xt_v rfl v_extract ?_
       refine xt_v rfl v_extract ?_
       have hbox : (w12).heap.size ≤ (w14).heap.size := Ge.le
       refine xt_e rfl (e_alloc fun bo w15 no lo ko => ?_)
       have hbol : bo < (w15).heap.size := Has.lt
       have hboB : (w12).heap.size ≤ bo := by rw [no.eq]; exact hbox
       have hbow := no.eq
       haveI sbo : SubS (OneB bo) (NotP (fun k => k < w.heap.size ∨ k = bg)) := ⟨fun k e e2 => by
        have e' : k = bo := e
        have hbgB : bg < (w12).heap.size := (Array.getElem?_eq_some_iff.1 hbg).1
        rcases e2 with e2 | e2
        ·omega
        ·have e2' : k = bg := e2
         omega⟩
       haveI nbo : NeB bg bo := ⟨by have hbgB : bg < (w12).heap.size := (Array.getElem?_eq_some_iff.1 hbg).1; omega⟩
       refine xt_s rfl (e_storeA fun w16 l16 k16 => ?_)
       have hPf0 : PairM (fun k => k = bg) (fun k => k < w.heap.size ∨ k = bg) m D3 R3 w16 := (hP3.cell (S := OneB bo) (W' := w16) kpc (fun k hk e => by
        have e' : k = bo := e
        subst e'
        first
         | exact .inr ⟨hboB, hbol⟩
         | (exfalso; omega))).narrow
       refine xt_v rfl v_assign ?_
       refine xt_nil ?_
       refine x_seq ?_
       refine x_seq ?_
       refine x_regionL ?_
       refine xl_v v_move ?_
       refine xl_v v_not ?_
       refine xl_v v_move ?_
       refine xl_gv rfl EvO.eq v_move ?_
       refine xl_gLa rfl EvO.eq ?_
       refine xl_gcall rfl EvO.eq (lsame_ok _ _ m D3 R3 w16 (hPf0.ext (kpc : Keep NoB _ w16))) ?_
       rintro _ w17 ⟨rfl, lks2⟩
       refine xl_gv rfl EvO.eq v_not ?_
       refine xl_Pk ?_
       refine xl_nil ?_
       refine x_condF ?_
       refine x_skip ?_
       refine x_regionL ?_
       refine xl_La ?_
       have hPf1 := hPf0.ext (kpc : Keep NoB _ w17)
       refine xl_s (e_storeA fun w18 l18 k18 => ?_)
       have hPf : PairM (fun k => k = bg) (fun k => k < w.heap.size ∨ k = bg) m D3 R3 w18 := hPf1.cell (S := OneB bg) kpc (fun k _ e => e)
       have hbgf : (w18).heap[bg]? = some (.cells (metaC R3).toArray 35 (0, 0)) := Blk.eq
       refine xl_nil ?_
       refine x_regionL ?_
       refine xl_v v_move ?_
       refine xl_v (v_add (by omega)) ?_
       refine xl_v v_assign ?_
       refine xl_nil ?_
       refine ⟨_, ?_, rfl, k + 1, D3, R3, rfl, by omega, hPf, hbgf, inferInstance, inferInstance, inferInstance, evc, lkc⟩
       omega
      ·
       have hbox : (w12).heap.size ≤ (w13).heap.size := Ge.le
       refine xt_e rfl (e_alloc fun bo w19 no lo ko => ?_)
       have hbol : bo < (w19).heap.size := Has.lt
       have hboB : (w12).heap.size ≤ bo := by rw [no.eq]; exact hbox
       have hbow := no.eq
       haveI sbo : SubS (OneB bo) (NotP (fun k => k < w.heap.size ∨ k = bg)) := ⟨fun k e e2 => by
        have e' : k = bo := e
        have hbgB : bg < (w12).heap.size := (Array.getElem?_eq_some_iff.1 hbg).1
        rcases e2 with e2 | e2
        ·omega
        ·have e2' : k = bg := e2
         omega⟩
       haveI nbo : NeB bg bo := ⟨by have hbgB : bg < (w12).heap.size := (Array.getElem?_eq_some_iff.1 hbg).1; omega⟩
       refine xt_call rfl (does_ok (wide (fun k => k = bg) w12 w19) (wide (fun k => k < w.heap.size ∨ k = bg) w12 w19) m D2 R2 xs[k] w19 (hPr2.widen (kpc : Keep NoB w12 w19)) (by omega) (hss k hk1) (fun hne a ha => by
             have h1 := hrx.far.resolve_left (by simpa [ints] using hne) a ha
             refine ⟨.inl (.inl h1), ?_⟩
             rintro (e | e)
             ·have e' : a.block = bg := e
              omega
             ·omega)) ?_
       rintro _ w20 ⟨⟨R3, D3, rfl, hP3, hp3⟩, lk3⟩
       refine ⟨kpc, ?_⟩
       have hcs := lk3.keep.size
       refine xt_v rfl v_move ?_
       refine xt_v rfl v_extract ?_
       refine xt_v rfl v_extract ?_
       refine xt_s rfl (e_storeA fun w21 l21 k21 => ?_)
       have hPf0 : PairM (fun k => k = bg) (fun k => k < w.heap.size ∨ k = bg) m D3 R3 w21 := (hP3.cell (S := OneB bo) (W' := w21) kpc (fun k hk e => by
        have e' : k = bo := e
        subst e'
        first
         | exact .inr ⟨hboB, hbol⟩
         | (exfalso; omega))).narrow
       refine xt_v rfl v_assign ?_
       refine xt_nil ?_
       refine x_seq ?_
       refine x_seq ?_
       refine x_regionL ?_
       refine xl_v v_move ?_
       refine xl_v v_not ?_
       refine xl_v v_move ?_
       refine xl_gv rfl EvO.eq v_move ?_
       refine xl_gLa rfl EvO.eq ?_
       refine xl_gcall rfl EvO.eq (lsame_ok _ _ m D3 R3 w21 (hPf0.ext (kpc : Keep NoB _ w21))) ?_
       rintro _ w22 ⟨rfl, lks2⟩
       refine xl_gv rfl EvO.eq v_not ?_
       refine xl_Pk ?_
       refine xl_nil ?_
       refine x_condF ?_
       refine x_skip ?_
       refine x_regionL ?_
       refine xl_La ?_
       have hPf1 := hPf0.ext (kpc : Keep NoB _ w22)
       refine xl_s (e_storeA fun w23 l23 k23 => ?_)
       have hPf : PairM (fun k => k = bg) (fun k => k < w.heap.size ∨ k = bg) m D3 R3 w23 := hPf1.cell (S := OneB bg) kpc (fun k _ e => e)
       have hbgf : (w23).heap[bg]? = some (.cells (metaC R3).toArray 35 (0, 0)) := Blk.eq
       refine xl_nil ?_
       refine x_regionL ?_
       refine xl_v v_move ?_
       refine xl_v (v_add (by omega)) ?_
       refine xl_v v_assign ?_
       refine xl_nil ?_
       refine ⟨_, ?_, rfl, k + 1, D3, R3, rfl, by omega, hPf, hbgf, inferInstance, inferInstance, inferInstance, evc, lkc⟩
       omega
     ·
      refine x_exit ?_
      refine x_seq ?_
      refine x_regionL ?_
      refine xl_call (known_ok w12) ?_
      rintro _ w24 ⟨rfl, lkk⟩
      refine xl_v v_assign ?_
      refine xl_nil ?_
      refine x_ret ?_
      refine fin1 rfl ?_
      exact ⟨rfl, lkc⟩
end Go.Proofs.Ytnjpladlfiaojaa
