/-
 Walks, printed by a program of this workplace (wip/tools/sx.py) off the functions' code and a text of contracts.
-/
import Derived.Test.YtdmafmlifadfoaaJAY
set_option linter.all false
set_option maxRecDepth 100000
set_option synthInstance.maxSize 100000
set_option synthInstance.maxHeartbeats 400000
namespace Go.Proofs.Ytdmafmlifadfoaa
open Go.Wst
open Go.Wst.Qm
theorem old_ofZ {w : World} {A : Option Addr} {l : List Pk} (h : RowP w A (l.flatMap pkC)) (hl : 0 < l.length) : OldA w A := ⟨fun a ha => by
 obtain ⟨b, hb, hc⟩ := h 0 (.int .i64 l[0].kind) (by
  cases l with
  | nil => cases hl
  | cons p l => rfl)
 rw [ha] at hb
 cases hb
 have := World.block_lt_of_cell? w _ hc
 rwa [block_add] at this⟩
theorem sameP_ok (A : Option Addr) (n c : Nat) (xs : List Cmd) (B : Option Addr) (n' c' : Nat) (ys : List Cmd) (w : World) (hA : RowP w A (cmdsC xs)) (hB : RowP w B (cmdsC ys)) (hl : xs.length = n) (hl' : ys.length = n') (hn : n ≤ 1000000000) :
    Ret Try.prog 20 #[.slice A n c, .slice B n' c'] w (fun v w' => v = .bool (decide (xs = ys)) ∧ Lk w' w NoB) := by
 haveI : Row w A (cmdsC xs) := ⟨hA⟩
 haveI : Row w B (cmdsC ys) := ⟨hB⟩
 exact sameC_ok A n c xs B n' c' ys w hl hl' hn
set_option maxHeartbeats 8000000 in
/-- waystation/waystationlaw06.QuorumSafe -/
theorem safe_ok (n : Int) (A : Option Addr) (m c : Nat) (l : List Pk) (w : World) [hrow : Row w A (l.flatMap pkC)] (hl : l.length = m) : Ret Try.prog 3 #[.int .i64 n, .slice A m c] w (fun v w' => v = .bool true ∧ Lk w' w NoB) := by
 haveI hrw : RowB w A w (l.flatMap pkC) := rowB_of hrow.row
 refine ret_of_x (N := 157) (l := [.int .i64 n, .slice A m c]) Try.func3 rfl rfl (Nat.le_of_ble_eq_true rfl) ?_
 refine x_seq ?_
 refine x_regionL ?_
 refine xl_v v_assign ?_
 refine xl_nil ?_
 refine x_seq ?_
 refine x_seq ?_
 refine x_regionL ?_
 refine xl_v v_move ?_
 refine xl_call (right_ok _ _) ?_
 rintro _ _ ⟨rfl, rfl⟩
 refine xl_v v_not ?_
 refine xl_v v_move ?_
 refine xl_split 20 (fun g20 => ?_) (fun g20 => ?_)
 ·
  refine xl_gs rfl EvO.eq ?_
  refine xl_gs rfl EvO.eq ?_
  refine xl_gs rfl EvO.eq ?_
  refine xl_Pk ?_
  refine xl_nil ?_
  refine x_condT ?_
  refine x_seq ?_
  refine x_regionL ?_
  refine xl_call (works_ok w) ?_
  rintro _ w2 ⟨rfl, lk2⟩
  refine xl_v v_assign ?_
  refine xl_nil ?_
  refine x_ret ?_
  refine fin1 rfl ?_
  exact ⟨rfl, lkc⟩
 ·
  refine xl_gv rfl EvO.eq v_move ?_
  refine xl_gv rfl EvO.eq v_len ?_
  refine xl_gv rfl EvO.eq v_gtr ?_
  refine xl_Pk ?_
  refine xl_nil ?_
  refine x_condE (fun c1 => ?_) (fun c1 => ?_)
  ·
   refine x_seq ?_
   refine x_regionL ?_
   refine xl_call (works_ok w) ?_
   rintro _ w3 ⟨rfl, lk2⟩
   refine xl_v v_assign ?_
   refine xl_nil ?_
   refine x_ret ?_
   refine fin1 rfl ?_
   exact ⟨rfl, lkc⟩
  ·
   refine x_skip ?_
   refine x_seq ?_
   have hn : n = 1 ∨ n = 3 ∨ n = 5 := by
    first
     | (simp at g20 c1; omega)
     | (simp at g20; omega)
   have hm : m ≤ 400 := by
    first
     | (simp at g20 c1; omega)
     | (simp at c1; omega)
   refine x_regionL ?_
   refine xl_v v_move ?_
   refine xl_call (newQ_p n hn w) ?_
   rintro _ w4 ⟨⟨q, D, rfl, hQ, hp, hnw⟩, lk3⟩
   obtain ⟨G0, hI0⟩ : ∃ G, Inv D.pure G := ⟨_, by rw [hp]; exact inv_newN hn⟩
   have hDl : (D.ns.length : Int) = n := by
    have h1 := congrArg (fun q : Qu => q.nodes.length) hp
    simp [LQu.pure, Qu.new] at h1
    omega
   have hseen : Seen D.pure 0 := by rw [hp]; exact Seen.new _
   have hld : ∀ x ∈ D.pure.nodes, x.role = 3 → x.term ≤ 0 := by
    rw [hp]
    intro x hx hr
    have : x = Nd.new := List.eq_of_mem_replicate hx
    rw [this]; decide
   refine xl_v v_move ?_
   refine xl_v v_extract ?_
   refine xl_v v_extract ?_
   refine xl_v v_assign ?_
   refine xl_v v_assign ?_
   refine xl_nil ?_
   refine x_seq ?_
   refine x_regionL ?_
   refine xl_v v_assign ?_
   refine xl_nil ?_
   refine x_seq ?_
   refine x_regionL ?_
   refine xl_v v_assign ?_
   refine xl_nil ?_
   refine x_seq ?_
   refine x_regionL ?_
   refine xl_v v_assign ?_
   refine xl_nil ?_
   refine x_seq ?_
   refine x_regionL ?_
   refine xl_v v_assign ?_
   refine xl_nil ?_
   refine x_seq ?_
   refine x_seq ?_
   refine x_regionL ?_
   refine xl_v v_assign ?_
   refine xl_nil ?_
   refine x_block ?_
   have hS : SafeW w w4 q D (fun _ => False) G0 none [] 0 none 0 0 [] none 0 [] := ⟨hQ.ext (kpc : Keep NoB _ w4), hI0, (FRow.nil w4 (fun _ => False)).row, .inl rfl, ⟨Nat.zero_le _, Nat.zero_le _⟩, (fun j e => by cases e), World.ownsRow_nil _ _ _ _, World.ownsRow_nil _ _ _ _, (fun j e => by cases e), (fun j e => by cases e), (fun j h => absurd h (Nat.not_lt_zero _)), fun j e => Nat.le_trans Ge.le (hnw j e), rfl, rfl⟩
   refine x_loop (fun t τ ds w' => ds = [] ∧ ∃ (k : Nat) (D : LQu) (F : Nat → Prop) (G : Gh) (LA : Option Addr) (lo : List Cmd) (lc : Nat) (TA : Option Addr) (tn tc : Nat) (ts : List Int) (NA : Option Addr) (nc : Nat) (ns : List Int) (tp : Int), t = m - k ∧ k ≤ m ∧ SafeW w w' q D F G LA lo lc TA tn tc ts NA nc ns ∧ (D.ns.length : Int) = n ∧ Seen D.pure tp ∧ (∀ x ∈ D.pure.nodes, x.role = 3 → x.term ≤ tp) ∧ tn ≤ 5 * k ∧ Ev τ 0 (.int .i64 n) ∧ Ev τ 1 (.slice A m c) ∧ Ev τ 5 (.pointer (some ⟨q, 0, none⟩)) ∧ Ev τ 6 (.int .i64 0) ∧ Ev τ 7 (.slice LA lo.length lc) ∧ Ev τ 8 (.slice TA tn tc) ∧ Ev τ 9 (.slice NA tn nc) ∧ Ev τ 10 (.int .i64 tp) ∧ Ev τ 11 (.int .i64 (k : Int)) ∧ Lk w' w NoB) (m) ?start ?round
   case start =>
    exact ⟨rfl, 0, D, _, G0, none, [], 0, none, 0, 0, [], none, 0, [], 0, rfl, Nat.zero_le _, hS, hDl, hseen, hld, Nat.zero_le _, inferInstance, inferInstance, inferInstance, inferInstance, inferInstance, inferInstance, inferInstance, inferInstance, evc, lkc⟩
   case round =>
    intro m τ5 ds5 w5 hI
    clear hS hseen hld hDl hI0
    obtain ⟨rfl, k, D, F, G, LA, lo, lc, TA, tn, tc, ts, NA, nc, ns, tp, rfl, hk, hS, hDl, hseen, hld, htn, e0, e1, e5, e6, e7, e8, e9, e10, e11, lk⟩ := hI
    haveI sD : SubF (QuB q D) NoB w := ⟨fun j hj e => by have := hS.qb j e; omega⟩
    refine x_seq ?_
    refine x_seq ?_
    refine x_regionL ?_
    refine xl_v v_move ?_
    refine xl_v v_move ?_
    refine xl_v v_len ?_
    refine xl_v v_lss ?_
    refine xl_nil ?_
    first | refine x_condP (fun c2 => ?_) (fun c2 => ?_) | refine x_condN (fun c2 => ?_) (fun c2 => ?_) | refine x_condE (fun c2 => ?_) (fun c2 => ?_)
    ·
     have hk1 : k < l.length := by omega
     haveI hoA : OldA w A := old_ofZ hrow.row (by omega)
     refine x_skip ?_
     refine x_seq ?_
     refine x_block ?_
     refine x_seq ?_
     refine x_regionL ?_
     refine xl_v v_move ?_
     refine xl_v v_move ?_
     refine xl_v v_move ?_
     refine xl_v (v_indexF k (by decide) rfl (by omega) hk1) ?_
     refine xl_v (v_loadF (k := k) (by decide) hk1) ?_
     refine xl_call (step_ok q D F G l[k] w5 (hS.at_.ext (kpc : Keep NoB _ w5)) hS.inv) ?_
     rintro _ w6 ⟨rfl, ⟨D1, F1, hQ1, hp1, hs1, hb1⟩, lk11⟩
     obtain ⟨G1, hI1, hU⟩ := hS.inv.stepU l[k]
     rw [← hp1] at hI1
     have hl1 : D1.ns.length = D.ns.length := by rw [← pure_len, ← pure_len, hp1, step_len]
     have hDl1 : (D1.ns.length : Int) = n := by rw [hl1]; exact hDl
     have hS1 := (hS.ext (kpc : Keep NoB _ w5)).step lk11.keep hQ1 hI1 hU hl1 hs1 hb1 Ge.le
     have hsafe1 := hI1.safe
     rw [pure_len] at hsafe1
     have hseen1 : Seen D1.pure tp := by rw [hp1]; exact hseen.step l[k] hld
     have hok1 := node_ok_of hI1
     have hn5 : D1.ns.length ≤ 5 := by omega
     refine xl_nil ?_
     refine x_seq ?_
     refine x_regionL ?_
     refine xl_v v_move ?_
     refine xl_call (committed_ok q D1 F1 w6 (hS1.at_.ext (kpc : Keep NoB _ w6)) hok1 hn5) ?_
     rintro _ w7 ⟨⟨A12, c12, rfl, ho12, hl12⟩, lk12⟩
     have hpre1 := hI1.pre_all
     rw [pure_len] at hpre1
     have hc12 := own_le ho12
     have hS2 := hS1.ext (kpc : Keep NoB _ w7)
     have hA12 : ∀ j, blkA A12 = some j → (w6).heap.size ≤ j ∧ j < (w7).heap.size := fun j e => own_blk ho12 e
     have hS1p := hS1.ext (kpc : Keep NoB _ w6)
     have hA13 : ∀ j, blkA A12 = some j → j < (w7).heap.size ∧ ¬ QuB q D1 j ∧ ¬ blkA TA = some j ∧ ¬ blkA NA = some j := fun j e => ⟨(hA12 j e).2, fun e2 => by have := hS1p.at_.lt j e2; have := (hA12 j e).1; omega, fun e2 => by have := (own_blk hS1p.tO e2).2; have := (hA12 j e).1; omega, fun e2 => by have := (own_blk hS1p.nO e2).2; have := (hA12 j e).1; omega⟩
     have hr12 : RowP w7 A12 (cmdsC D1.pure.committed) := (FRow.of_own ho12).row
     refine xl_v v_assign ?_
     refine xl_nil ?_
     refine x_seq ?_
     refine x_seq ?_
     refine x_regionL ?_
     refine xl_v v_move ?_
     refine xl_v v_move ?_
     refine xl_call (begins_ok A12 D1.pure.committed.length c12 D1.pure.committed LA lo.length lc lo w7 (hr12.keep (kpc : Keep NoB _ w7) (fun _ _ e => e)) (hS2.ext (kpc : Keep NoB _ w7)).row rfl rfl hc12 hS2.lol.2 ⟨by omega, by have := hS2.lol.1; omega⟩ (fun i h1 h2 => Pre.comp hsafe1 hpre1 hS2.pre i h1 h2)) ?_
     rintro _ w8 ⟨rfl, lk13⟩
     refine xl_v (v_congr (u := .bool false) v_not rfl) ?_
     refine xl_nil ?_
     refine x_condF ?_
     refine x_skip ?_
     refine x_seq ?_
     refine x_seq ?_
     refine x_regionL ?_
     refine xl_v v_move ?_
     refine xl_v v_len ?_
     refine xl_v v_move ?_
     refine xl_v v_len ?_
     refine xl_v v_gtr ?_
     refine xl_nil ?_
     refine x_condE (fun c4 => ?_) (fun c4 => ?_)
     ·
      obtain ⟨L3, lo3, lc3, hS3, hL3⟩ : ∃ (L3 : Option Addr) (lo3 : List Cmd) (lc3 : Nat), SafeW w w8 q D1 F1 G1 L3 lo3 lc3 TA tn tc ts NA nc ns ∧ (Value.slice A12 D1.pure.committed.length c12 = Value.slice L3 lo3.length lc3) := ⟨A12, D1.pure.committed, c12, (hS2.long hr12 hpre1 ⟨hl12, hc12⟩ hA13).ext (kpc : Keep NoB _ w8), rfl⟩
      refine x_regionL ?_
      refine xl_v v_move ?_
      refine xl_v v_assign ?_
      refine xl_nil ?_
      refine x_seq ?_
      refine x_regionL ?_
      refine xl_v v_assign ?_
      refine xl_nil ?_
      refine x_block ?_
      refine x_loop (fun t τ ds w' => ds = [] ∧ ∃ (i : Nat) (TA : Option Addr) (tn tc : Nat) (ts : List Int) (NA : Option Addr) (nc : Nat) (ns : List Int) (tp1 : Int), t = D1.ns.length - i ∧ i ≤ D1.ns.length ∧ SafeW w w' q D1 F1 G1 L3 lo3 lc3 TA tn tc ts NA nc ns ∧ tp ≤ tp1 ∧ (∀ j (h : j < D1.ns.length), j < i → D1.ns[j].x.role = 3 → D1.ns[j].x.term ≤ tp1) ∧ tn ≤ 5 * k + i ∧ Ev τ 0 (.int .i64 n) ∧ Ev τ 1 (.slice A m c) ∧ Ev τ 5 (.pointer (some ⟨q, 0, none⟩)) ∧ Ev τ 6 (.int .i64 0) ∧ Ev τ 7 (.slice L3 lo3.length lc3) ∧ Ev τ 8 (.slice TA tn tc) ∧ Ev τ 9 (.slice NA tn nc) ∧ Ev τ 10 (.int .i64 tp1) ∧ Ev τ 11 (.int .i64 (k : Int)) ∧ Ev τ 13 (.int .i64 (i : Int)) ∧ Lk w' w NoB) (D1.ns.length) ?start ?round
      case start =>
       exact ⟨rfl, 0, TA, tn, tc, ts, NA, nc, ns, tp, rfl, Nat.zero_le _, hS3.ext (kpc : Keep NoB _ _), Int.le_refl _, (fun j _ h => absurd h (Nat.not_lt_zero _)), by omega, inferInstance, inferInstance, inferInstance, inferInstance, evc hL3, inferInstance, inferInstance, inferInstance, inferInstance, evc, lkc⟩
      case round =>
       intro m τ9 ds9 w9 hI
       clear hS hS1 hS2 hS1p hS3 e0 e1 e5 e6 e7 e8 e9 e10 e11 lk htn
       obtain ⟨rfl, i, TA, tn, tc, ts, NA, nc, ns, tp1, rfl, hi, hS, htp, hseenl, htn, e0, e1, e5, e6, e7, e8, e9, e10, e11, e13, lk⟩ := hI
       have hTl : ∀ j, blkA TA = some j → j < (w9).heap.size := fun j e => (own_blk hS.tO e).2
       have hNl : ∀ j, blkA NA = some j → j < (w9).heap.size := fun j e => (own_blk hS.nO e).2
       refine x_seq ?_
       refine x_seq ?_
       refine x_regionL ?_
       refine xl_v v_move ?_
       refine xl_v v_move ?_
       refine xl_v v_lss ?_
       refine xl_nil ?_
       first | refine x_condP (fun c5 => ?_) (fun c5 => ?_) | refine x_condN (fun c5 => ?_) (fun c5 => ?_) | refine x_condE (fun c5 => ?_) (fun c5 => ?_)
       ·
        have hi1 : i < D1.ns.length := by omega
        have hoki := hok1 _ (List.getElem_mem hi1)
        refine x_skip ?_
        refine x_seq ?_
        refine x_block ?_
        refine x_seq ?_
        refine x_regionL ?_
        refine xl_v v_move ?_
        refine xl_v v_move ?_
        refine xl_call (node_ok q D1 F1 i D1.ns[i] w9 (hS.at_.ext (kpc : Keep NoB _ w9)) (List.getElem?_eq_getElem hi1) hn5 hoki) ?_
        rintro _ w10 ⟨⟨z, rfl, hzx, hz⟩, lk20⟩
        have hzt : z.x.term = D1.ns[i].x.term := by rw [hzx]; rfl
        have hzr : z.x.role = D1.ns[i].x.role := by rw [hzx]; rfl
        have hzg : z.x.log = D1.ns[i].x.log := by rw [hzx]; rfl
        have hzc : z.x.commit = D1.ns[i].x.commit := by rw [hzx]; rfl
        have hll := hoki.ll
        have hc0 := hoki.c0
        have hc1 := hoki.c1
        rw [← hzg] at hll hc1
        rw [← hzc] at hc0 hc1
        obtain ⟨cn, hcn⟩ : ∃ cn : Nat, z.x.commit = (cn : Int) := ⟨z.x.commit.toNat, by omega⟩
        have hzlc := own_le hz.log
        have hrz : RowP w10 z.LA (cmdsC z.x.log) := (FRow.of_own hz.log).row
        have hzn : ∀ j, blkA z.LA = some j → (w9).heap.size ≤ j := fun j e => (own_blk hz.log e).1
        have hpw : (w9).heap.size ≤ (w9).heap.size := Ge.le
        haveI rz : Row w10 z.LA (cmdsC z.x.log) := ⟨hrz⟩
        haveI oT : ∀ cc, RowOut (OwnB (.slice TA tn cc)) z.LA := fun cc => ⟨fun a ha e => by have h1 := hTl _ (ownB_blk.1 e); have h2 := hzn _ (blkA_some ha); omega⟩
        haveI oN : ∀ cc, RowOut (OwnB (.slice NA tn cc)) z.LA := fun cc => ⟨fun a ha e => by have h1 := hNl _ (ownB_blk.1 e); have h2 := hzn _ (blkA_some ha); omega⟩
        have hnd : D1.pure.nd i = D1.ns[i].x := nd_of (List.getElem?_eq_getElem hi1)
        have hipl : i < D1.pure.nodes.length := by rw [pure_len]; exact hi1
        refine xl_v v_move ?_
        refine xl_v v_extract ?_
        refine xl_v v_extract ?_
        refine xl_e (e_alloc fun b14 w11 n14 l14 k14 => ?_)
        refine xl_s (e_storeA fun w12 l12 k12 => ?_)
        refine xl_v v_assign ?_
        refine xl_nil ?_
        refine x_seq ?_
        refine x_seq ?_
        refine x_regionL ?_
        refine xl_v v_move ?_
        refine xl_call (num_ok _ _) ?_
        rintro _ _ ⟨rfl, rfl⟩
        refine xl_v (v_neqF rfl) ?_
        refine xl_v v_move ?_
        refine xl_gFb rfl EvO.eq ?_
        refine xl_gLc rfl EvO.eq ?_
        refine xl_gv rfl EvO.eq (v_congr (u := .bool false) v_lss (congrArg Value.bool (decide_eq_false (by omega)))) ?_
        refine xl_Pk ?_
        refine xl_v v_move ?_
        refine xl_gFb rfl EvO.eq ?_
        refine xl_gLc rfl EvO.eq ?_
        refine xl_gFb rfl EvO.eq ?_
        refine xl_gLc rfl EvO.eq ?_
        refine xl_gv rfl EvO.eq v_len ?_
        refine xl_gv rfl EvO.eq (v_congr (u := .bool false) v_gtr (congrArg Value.bool (decide_eq_false (by omega)))) ?_
        refine xl_Pk ?_
        refine xl_v v_move ?_
        refine xl_gFb rfl EvO.eq ?_
        refine xl_gLc rfl EvO.eq ?_
        refine xl_gFb rfl EvO.eq ?_
        refine xl_gLc rfl EvO.eq ?_
        refine xl_gv rfl EvO.eq (v_sliceH cn hcn (by omega)) ?_
        refine xl_gv rfl EvO.eq v_move ?_
        refine xl_gcall rfl EvO.eq (begins_ok z.LA cn z.lc (z.x.log.take cn) L3 lo3.length lc3 lo3 w12 (by
            have h1 := row_take (hrz.keep (kpc : Keep NoB _ w12) (fun _ _ e => e)) (cn * 2)
            rwa [← flat_take (enc := cmdC) (sz := 2) (fun _ => rfl)] at h1) (hS.ext (kpc : Keep NoB _ w12)).row (by rw [List.length_take]; omega) rfl (by omega) hS.lol.2 ⟨by omega, by have := hS.lol.1; omega⟩ (fun j h1 h2 => by
            have h3 := hI1.pre hipl
            rw [hnd, ← hzg, ← hzc, hcn, pure_len, Int.toNat_natCast] at h3
            exact Pre.comp hsafe1 h3 hS.pre j (by rw [List.length_take]; omega) h2)) ?_
        rintro _ w14 ⟨rfl, lk2123⟩
        refine xl_gv rfl EvO.eq (v_congr (u := .bool false) v_not rfl) ?_
        refine xl_Pk ?_
        refine xl_nil ?_
        refine x_condF ?_
        refine x_skip ?_
        refine x_seq ?_
        refine x_seq ?_
        refine x_regionL ?_
        refine xl_Fb ?_
        refine xl_Lc ?_
        refine xl_v v_neq ?_
        refine xl_nil ?_
        refine x_condE (fun c7 => ?_) (fun c7 => ?_)
        ·
         have hnr : ¬ D1.ns[i].x.role = 3 := by rw [← hzr]; simpa using c7
         refine x_exit ?_
         refine x_regionL ?_
         refine xl_v v_move ?_
         refine xl_v (v_add (by omega)) ?_
         refine xl_v v_assign ?_
         refine xl_nil ?_
         first
         | refine ⟨_, ?_, rfl, i + 1, T2, tn + 1, tc2, ts ++ [z.x.term], N2, nc2, ns ++ [(i : Int)], max tp1 z.x.term, rfl, by omega, hS5.ext (kpc : Keep NoB _ _), by omega, ?_, by omega, inferInstance, inferInstance, inferInstance, inferInstance, inferInstance, inferInstance, inferInstance, inferInstance, inferInstance, evc, lkc⟩
           ·omega
           ·intro j hj hji hr
            by_cases e : j = i
            ·subst e; rw [← hzt]; omega
            ·have := hseenl j hj (by omega) hr; omega
         | refine ⟨_, ?_, rfl, i + 1, TA, tn, tc, ts, NA, nc, ns, tp1, rfl, by omega, hS.ext (kpc : Keep NoB _ _), htp, ?_, by omega, inferInstance, inferInstance, inferInstance, inferInstance, inferInstance, inferInstance, inferInstance, inferInstance, inferInstance, evc, lkc⟩
           ·omega
           ·intro j hj hji hr
            by_cases e : j = i
            ·subst e; exact absurd hr hnr
            ·exact hseenl j hj (by omega) hr
        ·
         have hr3 : D1.ns[i].x.role = 3 := by rw [← hzr]; simpa using c7
         have hldi : G1.ld z.x.term = some i := by have := ((hI1.nd i hipl).l1 (by rw [hnd]; exact hr3)).1; rw [hnd, ← hzt] at this; exact this
         have hb14 : (w9).heap.size ≤ b14 := by rw [n14.eq]; exact Ge.le
         haveI nT : ∀ cc, NotS (OwnB (.slice TA tn cc)) b14 := fun cc => ⟨fun e => by have h1 := hTl _ (ownB_blk.1 e); omega⟩
         haveI nN : ∀ cc, NotS (OwnB (.slice NA tn cc)) b14 := fun cc => ⟨fun e => by have h1 := hNl _ (ownB_blk.1 e); omega⟩
         refine x_skip ?_
         refine x_seq ?_
         refine x_seq ?_
         refine x_regionL ?_
         refine xl_v v_assign ?_
         refine xl_nil ?_
         refine x_block ?_
         obtain ⟨wL, hwL, lkL⟩ : ∃ x, x = w14 ∧ Lk w14 x NoB := ⟨w14, rfl, ⟨Keep.refl _ _⟩⟩
         have hS4 := hS.ext (kpc : Keep NoB _ w14)
         have hb14l : (w14).heap[b14]? = _ := Blk.eq
         have hrzL := hrz.keep (kpc : Keep NoB _ w14) (fun _ _ e => e)
         have hwL0 : Keep NoB w w14 := kpc
         have hBL : (w9).heap.size ≤ (w14).heap.size := Ge.le
         rw [← hwL] at hS4 hb14l hrzL hwL0 hBL
         haveI : Blk wL b14 _ := ⟨hb14l⟩
         haveI : Row wL z.LA (cmdsC z.x.log) := ⟨hrzL⟩
         haveI : Lk wL w NoB := ⟨hwL0⟩
         haveI rT : RowB wL TA wL (ints ts) := rowB_of (FRow.of_own hS4.tO).row
         haveI rN : RowB wL NA wL (ints ns) := rowB_of (FRow.of_own hS4.nO).row
         have htl := hS.tl
         have hnl := hS.nl
         refine x_loop (fun t τ ds w' => ds = [] ∧ ∃ (j : Nat), t = tn - j ∧ j ≤ tn ∧ Ev τ 0 (.int .i64 n) ∧ Ev τ 1 (.slice A m c) ∧ Ev τ 5 (.pointer (some ⟨q, 0, none⟩)) ∧ Ev τ 6 (.int .i64 0) ∧ Ev τ 7 (.slice L3 lo3.length lc3) ∧ Ev τ 8 (.slice TA tn tc) ∧ Ev τ 9 (.slice NA tn nc) ∧ Ev τ 10 (.int .i64 tp1) ∧ Ev τ 11 (.int .i64 (k : Int)) ∧ Ev τ 13 (.int .i64 (i : Int)) ∧ Ev τ 14 (.pointer (some ⟨b14, 0, none⟩)) ∧ Ev τ 16 (.int .i64 (j : Int)) ∧ Lk w' wL NoB) (tn) ?start ?round
         case start =>
          exact ⟨rfl, 0, rfl, Nat.zero_le _, inferInstance, inferInstance, inferInstance, inferInstance, inferInstance, inferInstance, inferInstance, inferInstance, inferInstance, inferInstance, inferInstance, evc, by rw [hwL]; exact lkc⟩
         case round =>
          intro m τ15 ds15 w15 hI
          clear e0 e1 e5 e6 e7 e8 e9 e10 e11 e13
          obtain ⟨rfl, j, rfl, hj, e0, e1, e5, e6, e7, e8, e9, e10, e11, e13, e14, e16, lk3⟩ := hI
          refine x_seq ?_
          refine x_seq ?_
          refine x_regionL ?_
          refine xl_v v_move ?_
          refine xl_v v_move ?_
          refine xl_v v_len ?_
          refine xl_v v_lss ?_
          refine xl_nil ?_
          first | refine x_condP (fun c8 => ?_) (fun c8 => ?_) | refine x_condN (fun c8 => ?_) (fun c8 => ?_) | refine x_condE (fun c8 => ?_) (fun c8 => ?_)
          ·
           have hj1 : j < ts.length := by omega
           have hj2 : j < ns.length := by omega
           have heq : ts[j] = z.x.term → ns[j] = (i : Int) := fun e => by
            have h1 := hS4.lead j hj1 hj2
            rw [e, hldi] at h1
            have h2 : i = ns[j].toNat := Option.some.inj h1.1
            have := h1.2
            omega
           refine x_skip ?_
           refine x_seq ?_
           refine x_block ?_
           refine x_seq ?_
           refine x_drawL (NoB) (allS) (.take 0 (.take 1 (.take 2 (.take 3 (.take 4 (.take 5 (.take 6 (.take 7 (.take 8 (.take 9 (.take 10 (.take 11 (.take 12 (.take 13 (.take 14 .done))))))))))))))) mixed (by kernel_rfl) (fun _ _ _ _ _ h => h) (fun w16 l16 => ?_)
           refine xt_v rfl v_move ?_
           refine xt_v rfl v_move ?_
           refine xt_v rfl (v_indexO j rfl (by omega) hj1) ?_
           refine xt_v rfl (v_loadO (k := j) hj1) ?_
           refine xt_Fb rfl ?_
           refine xt_Lc rfl ?_
           refine xt_v rfl v_eql ?_
           refine xt_v rfl v_move ?_
           refine xt_split 108 (fun g108 => ?_) (fun g108 => ?_)
           ·
            refine xt_gv rfl rfl EvO.eq v_move ?_
            refine xt_gv rfl rfl EvO.eq v_move ?_
            refine xt_gv rfl rfl EvO.eq (v_indexO j rfl (by omega) hj2) ?_
            refine xt_gv rfl rfl EvO.eq (v_loadO (k := j) hj2) ?_
            refine xt_gv rfl rfl EvO.eq v_move ?_
            refine xt_gv rfl rfl EvO.eq (v_neqF (heq (by simpa using g108))) ?_
            refine xt_Pk rfl ?_
            refine xt_nil ?_
            refine x_condF ?_
            refine x_skip ?_
            refine x_regionL ?_
            refine xl_v v_move ?_
            refine xl_v (v_add (by omega)) ?_
            refine xl_v v_assign ?_
            refine xl_nil ?_
            refine ⟨_, ?_, rfl, j + 1, rfl, by omega, inferInstance, inferInstance, inferInstance, inferInstance, inferInstance, inferInstance, inferInstance, inferInstance, inferInstance, inferInstance, inferInstance, evc, lkc⟩
            omega
           ·
            refine xt_gs rfl rfl EvO.eq ?_
            refine xt_gs rfl rfl EvO.eq ?_
            refine xt_gs rfl rfl EvO.eq ?_
            refine xt_gs rfl rfl EvO.eq ?_
            refine xt_gs rfl rfl EvO.eq ?_
            refine xt_gs rfl rfl EvO.eq ?_
            refine xt_Pk rfl ?_
            refine xt_nil ?_
            refine x_condF ?_
            refine x_skip ?_
            refine x_regionL ?_
            refine xl_v v_move ?_
            refine xl_v (v_add (by omega)) ?_
            refine xl_v v_assign ?_
            refine xl_nil ?_
            refine ⟨_, ?_, rfl, j + 1, rfl, by omega, inferInstance, inferInstance, inferInstance, inferInstance, inferInstance, inferInstance, inferInstance, inferInstance, inferInstance, inferInstance, inferInstance, evc, lkc⟩
            omega
          ·
           refine x_exit ?_
           refine x_seq ?_
           refine x_regionL ?_
           refine xl_v v_move ?_
           refine xl_Fb ?_
           refine xl_Lc ?_
           refine xl_e (e_buildSlice1 rfl fun b293 w17 n293 l293 k293 => ?_)
           have hS6 := hS4.ext (kpc : Keep NoB wL w17)
           haveI sTA : ∀ (S : Nat → Prop), SubF (OwnB (.slice TA tn tc)) S w := fun S => ⟨fun j hj e => by have := (own_blk hS6.tO (ownB_blk.1 e)).1; omega⟩
           haveI sNA : ∀ (S : Nat → Prop), SubF (OwnB (.slice NA tn nc)) S w := fun S => ⟨fun j hj e => by have := (own_blk hS6.nO (ownB_blk.1 e)).1; omega⟩
           obtain ⟨w6, hw6, lk66⟩ : ∃ x, x = w17 ∧ Lk w17 x NoB := ⟨w17, rfl, ⟨Keep.refl _ _⟩⟩
           rw [← hw6] at hS6
           refine xl_e (e_append' (hw6 ▸ hS6.tO) Ge.le rfl Cell1L.eq (by decide) (.inl rfl) (by omega) (by omega) fun T2 tc2 w18 ho2 l2 f2 => ?_)
           have hl26 : Keep (OwnB (.slice TA tn tc)) w6 w18 := by rw [hw6]; exact l2.keep
           have hf2 : ∀ j, blkA T2 = some j → blkA TA = some j ∨ w6.heap.size ≤ j := fun j e => (from_blk f2 (Nat.le_of_eq (congrArg (fun w : World => w.heap.size) hw6))).elim (fun h => .inl (h ▸ e)) (fun h => .inr (h j e))
           obtain ⟨w7, hw7⟩ : ∃ x, x = w18 := ⟨_, rfl⟩
           refine xl_v v_move ?_
           refine xl_v v_move ?_
           refine xl_e (e_buildSlice1 rfl fun b297 w19 n297 l297 k297 => ?_)
           have hno8 := own_keepB hS6.nO hl26 (fun j e e2 => hS6.nK j e (.inr (.inr (.inr (ownB_blk.1 e2)))))
           have hno9 := own_keep hno8 (kpc : Keep NoB _ w19) (fun _ _ e => e)
           refine xl_e (e_append' hno9 Ge.le rfl Cell1L.eq (by decide) (.inl rfl) (by omega) (by omega) fun N2 nc2 w20 ho3 l3 f3 => ?_)
           have hf3 : ∀ j, blkA N2 = some j → blkA NA = some j ∨ w7.heap.size ≤ j := fun j e => (from_blk f3 (by rw [hw7]; exact Ge.le)).elim (fun h => .inl (h ▸ e)) (fun h => .inr (h j e))
           have hS5 := hS6.push z.x.term (i : Int) (hw7.symm ▸ ho2) (hw7.symm ▸ hl26) hf2 ho3 (by rw [hw7]; exact kpc) hf3 ⟨by simpa using hldi, by omega⟩
           have hhas : z.x.term = max tp1 z.x.term → lo3.length ≤ z.x.log.length ∧ z.x.log.take lo3.length = lo3 := fun e => by
            have h1 := hI1.has_all hipl (by rw [hnd]; exact hr3) (by rw [hnd, ← hzt]; exact hseen1.mono (by omega)) (l := lo3) (by rw [pure_len]; exact hS.pre)
            rw [hnd, ← hzg] at h1
            exact h1
           refine xl_v v_assign ?_
           refine xl_v v_assign ?_
           refine xl_nil ?_
           refine x_seq ?_
           refine x_regionL ?_
           refine xl_v v_move ?_
           refine xl_Fb ?_
           refine xl_Lc ?_
           refine xl_v v_max ?_
           refine xl_v v_assign ?_
           refine xl_nil ?_
           refine x_seq ?_
           refine x_regionL ?_
           refine xl_Fb ?_
           refine xl_Lc ?_
           refine xl_v v_move ?_
           refine xl_v v_eql ?_
           refine xl_v v_move ?_
           refine xl_split 133 (fun g133 => ?_) (fun g133 => ?_)
           ·
            refine xl_gFb rfl EvO.eq ?_
            refine xl_gLc rfl EvO.eq ?_
            refine xl_gv rfl EvO.eq v_len ?_
            refine xl_gv rfl EvO.eq v_move ?_
            refine xl_gv rfl EvO.eq v_len ?_
            refine xl_gv rfl EvO.eq (v_congr (u := .bool false) v_lss (congrArg Value.bool (decide_eq_false (by have := hhas (by simpa using g133); omega)))) ?_
            refine xl_gv rfl EvO.eq v_move ?_
            refine xl_gFb rfl EvO.eq ?_
            refine xl_gLc rfl EvO.eq ?_
            refine xl_gv rfl EvO.eq v_move ?_
            refine xl_gv rfl EvO.eq v_len ?_
            refine xl_gv rfl EvO.eq (v_sliceH lo3.length rfl (by have := hhas (by simpa using g133); omega)) ?_
            refine xl_gv rfl EvO.eq v_move ?_
            refine xl_gcall rfl EvO.eq (sameP_ok z.LA lo3.length z.lc (z.x.log.take lo3.length) L3 lo3.length lc3 lo3 w20 (by
                have h1 := row_take (Row.row (w := w20) (A := z.LA) (cs := cmdsC z.x.log)) (lo3.length * 2)
                rwa [← flat_take (enc := cmdC) (sz := 2) (fun _ => rfl)] at h1) (hS5.ext (kpc : Keep NoB _ w20)).row (by have := hhas (by simpa using g133); rw [List.length_take]; omega) rfl (by have := hS.lol.1; omega)) ?_
            rintro _ w21 ⟨rfl, lk3118⟩
            rw [decide_eq_true (hhas (by simpa using g133)).2]
            refine xl_gv rfl EvO.eq (v_congr (u := .bool false) v_not rfl) ?_
            refine xl_gPk rfl EvO.eq ?_
            refine xl_Pk ?_
            refine xl_nil ?_
            refine x_condF ?_
            refine x_skip ?_
            refine x_regionL ?_
            refine xl_v v_move ?_
            refine xl_v (v_add (by omega)) ?_
            refine xl_v v_assign ?_
            refine xl_nil ?_
            first
            | refine ⟨_, ?_, rfl, i + 1, T2, tn + 1, tc2, ts ++ [z.x.term], N2, nc2, ns ++ [(i : Int)], max tp1 z.x.term, rfl, by omega, hS5.ext (kpc : Keep NoB _ _), by omega, ?_, by omega, inferInstance, inferInstance, inferInstance, inferInstance, inferInstance, inferInstance, inferInstance, inferInstance, inferInstance, evc, lkc⟩
              ·omega
              ·intro j hj hji hr
               by_cases e : j = i
               ·subst e; rw [← hzt]; omega
               ·have := hseenl j hj (by omega) hr; omega
            | refine ⟨_, ?_, rfl, i + 1, TA, tn, tc, ts, NA, nc, ns, tp1, rfl, by omega, hS.ext (kpc : Keep NoB _ _), htp, ?_, by omega, inferInstance, inferInstance, inferInstance, inferInstance, inferInstance, inferInstance, inferInstance, inferInstance, inferInstance, evc, lkc⟩
              ·omega
              ·intro j hj hji hr
               by_cases e : j = i
               ·subst e; exact absurd hr hnr
               ·exact hseenl j hj (by omega) hr
           ·
            refine xl_gs rfl EvO.eq ?_
            refine xl_gs rfl EvO.eq ?_
            refine xl_gs rfl EvO.eq ?_
            refine xl_gs rfl EvO.eq ?_
            refine xl_gs rfl EvO.eq ?_
            refine xl_gs rfl EvO.eq ?_
            refine xl_gs rfl EvO.eq ?_
            refine xl_gu rfl EvO.eq ?_
            refine xl_gu rfl EvO.eq ?_
            refine xl_gu rfl EvO.eq ?_
            refine xl_gu rfl EvO.eq ?_
            refine xl_gu rfl EvO.eq ?_
            refine xl_gu rfl EvO.eq ?_
            refine xl_gu rfl EvO.eq ?_
            refine xl_gu rfl EvO.eq ?_
            refine xl_gs rfl EvO.eq ?_
            refine xl_Pk ?_
            refine xl_nil ?_
            refine x_condF ?_
            refine x_skip ?_
            refine x_regionL ?_
            refine xl_v v_move ?_
            refine xl_v (v_add (by omega)) ?_
            refine xl_v v_assign ?_
            refine xl_nil ?_
            first
            | refine ⟨_, ?_, rfl, i + 1, T2, tn + 1, tc2, ts ++ [z.x.term], N2, nc2, ns ++ [(i : Int)], max tp1 z.x.term, rfl, by omega, hS5.ext (kpc : Keep NoB _ _), by omega, ?_, by omega, inferInstance, inferInstance, inferInstance, inferInstance, inferInstance, inferInstance, inferInstance, inferInstance, inferInstance, evc, lkc⟩
              ·omega
              ·intro j hj hji hr
               by_cases e : j = i
               ·subst e; rw [← hzt]; omega
               ·have := hseenl j hj (by omega) hr; omega
            | refine ⟨_, ?_, rfl, i + 1, TA, tn, tc, ts, NA, nc, ns, tp1, rfl, by omega, hS.ext (kpc : Keep NoB _ _), htp, ?_, by omega, inferInstance, inferInstance, inferInstance, inferInstance, inferInstance, inferInstance, inferInstance, inferInstance, inferInstance, evc, lkc⟩
              ·omega
              ·intro j hj hji hr
               by_cases e : j = i
               ·subst e; exact absurd hr hnr
               ·exact hseenl j hj (by omega) hr
       ·
        refine x_exit ?_
        have hi0 : i = D1.ns.length := by omega
        have hld2 : ∀ x ∈ D1.pure.nodes, x.role = 3 → x.term ≤ tp1 := by
         intro x hx hr
         obtain ⟨y, hy, rfl⟩ := List.mem_map.1 hx
         obtain ⟨j, hj, rfl⟩ := List.getElem_of_mem hy
         exact hseenl j hj (by omega) hr
        refine x_regionL ?_
        refine xl_v v_move ?_
        refine xl_v (v_add (by omega)) ?_
        refine xl_v v_assign ?_
        refine xl_nil ?_
        refine ⟨_, ?_, rfl, k + 1, D1, F1, G1, L3, lo3, lc3, TA, tn, tc, ts, NA, nc, ns, tp1, rfl, by omega, hS.ext (kpc : Keep NoB _ _), hDl1, hseen1.mono htp, hld2, by omega, inferInstance, inferInstance, inferInstance, inferInstance, inferInstance, inferInstance, inferInstance, inferInstance, evc, lkc⟩
        omega
     ·
      obtain ⟨L3, lo3, lc3, hS3, hL3⟩ : ∃ (L3 : Option Addr) (lo3 : List Cmd) (lc3 : Nat), SafeW w w8 q D1 F1 G1 L3 lo3 lc3 TA tn tc ts NA nc ns ∧ (Value.slice LA lo.length lc = Value.slice L3 lo3.length lc3) := ⟨LA, lo, lc, hS2.ext (kpc : Keep NoB _ w8), rfl⟩
      refine x_skip ?_
      refine x_seq ?_
      refine x_regionL ?_
      refine xl_v v_assign ?_
      refine xl_nil ?_
      refine x_block ?_
      refine x_loop (fun t τ ds w' => ds = [] ∧ ∃ (i : Nat) (TA : Option Addr) (tn tc : Nat) (ts : List Int) (NA : Option Addr) (nc : Nat) (ns : List Int) (tp1 : Int), t = D1.ns.length - i ∧ i ≤ D1.ns.length ∧ SafeW w w' q D1 F1 G1 L3 lo3 lc3 TA tn tc ts NA nc ns ∧ tp ≤ tp1 ∧ (∀ j (h : j < D1.ns.length), j < i → D1.ns[j].x.role = 3 → D1.ns[j].x.term ≤ tp1) ∧ tn ≤ 5 * k + i ∧ Ev τ 0 (.int .i64 n) ∧ Ev τ 1 (.slice A m c) ∧ Ev τ 5 (.pointer (some ⟨q, 0, none⟩)) ∧ Ev τ 6 (.int .i64 0) ∧ Ev τ 7 (.slice L3 lo3.length lc3) ∧ Ev τ 8 (.slice TA tn tc) ∧ Ev τ 9 (.slice NA tn nc) ∧ Ev τ 10 (.int .i64 tp1) ∧ Ev τ 11 (.int .i64 (k : Int)) ∧ Ev τ 13 (.int .i64 (i : Int)) ∧ Lk w' w NoB) (D1.ns.length) ?start ?round
      case start =>
       exact ⟨rfl, 0, TA, tn, tc, ts, NA, nc, ns, tp, rfl, Nat.zero_le _, hS3.ext (kpc : Keep NoB _ _), Int.le_refl _, (fun j _ h => absurd h (Nat.not_lt_zero _)), by omega, inferInstance, inferInstance, inferInstance, inferInstance, evc hL3, inferInstance, inferInstance, inferInstance, inferInstance, evc, lkc⟩
      case round =>
       intro m τ22 ds22 w22 hI
       clear hS hS1 hS2 hS1p hS3 e0 e1 e5 e6 e7 e8 e9 e10 e11 lk htn
       obtain ⟨rfl, i, TA, tn, tc, ts, NA, nc, ns, tp1, rfl, hi, hS, htp, hseenl, htn, e0, e1, e5, e6, e7, e8, e9, e10, e11, e13, lk⟩ := hI
       have hTl : ∀ j, blkA TA = some j → j < (w22).heap.size := fun j e => (own_blk hS.tO e).2
       have hNl : ∀ j, blkA NA = some j → j < (w22).heap.size := fun j e => (own_blk hS.nO e).2
       refine x_seq ?_
       refine x_seq ?_
       refine x_regionL ?_
       refine xl_v v_move ?_
       refine xl_v v_move ?_
       refine xl_v v_lss ?_
       refine xl_nil ?_
       first | refine x_condP (fun c5 => ?_) (fun c5 => ?_) | refine x_condN (fun c5 => ?_) (fun c5 => ?_) | refine x_condE (fun c5 => ?_) (fun c5 => ?_)
       ·
        have hi1 : i < D1.ns.length := by omega
        have hoki := hok1 _ (List.getElem_mem hi1)
        refine x_skip ?_
        refine x_seq ?_
        refine x_block ?_
        refine x_seq ?_
        refine x_regionL ?_
        refine xl_v v_move ?_
        refine xl_v v_move ?_
        refine xl_call (node_ok q D1 F1 i D1.ns[i] w22 (hS.at_.ext (kpc : Keep NoB _ w22)) (List.getElem?_eq_getElem hi1) hn5 hoki) ?_
        rintro _ w23 ⟨⟨z, rfl, hzx, hz⟩, lk20⟩
        have hzt : z.x.term = D1.ns[i].x.term := by rw [hzx]; rfl
        have hzr : z.x.role = D1.ns[i].x.role := by rw [hzx]; rfl
        have hzg : z.x.log = D1.ns[i].x.log := by rw [hzx]; rfl
        have hzc : z.x.commit = D1.ns[i].x.commit := by rw [hzx]; rfl
        have hll := hoki.ll
        have hc0 := hoki.c0
        have hc1 := hoki.c1
        rw [← hzg] at hll hc1
        rw [← hzc] at hc0 hc1
        obtain ⟨cn, hcn⟩ : ∃ cn : Nat, z.x.commit = (cn : Int) := ⟨z.x.commit.toNat, by omega⟩
        have hzlc := own_le hz.log
        have hrz : RowP w23 z.LA (cmdsC z.x.log) := (FRow.of_own hz.log).row
        have hzn : ∀ j, blkA z.LA = some j → (w22).heap.size ≤ j := fun j e => (own_blk hz.log e).1
        have hpw : (w22).heap.size ≤ (w22).heap.size := Ge.le
        haveI rz : Row w23 z.LA (cmdsC z.x.log) := ⟨hrz⟩
        haveI oT : ∀ cc, RowOut (OwnB (.slice TA tn cc)) z.LA := fun cc => ⟨fun a ha e => by have h1 := hTl _ (ownB_blk.1 e); have h2 := hzn _ (blkA_some ha); omega⟩
        haveI oN : ∀ cc, RowOut (OwnB (.slice NA tn cc)) z.LA := fun cc => ⟨fun a ha e => by have h1 := hNl _ (ownB_blk.1 e); have h2 := hzn _ (blkA_some ha); omega⟩
        have hnd : D1.pure.nd i = D1.ns[i].x := nd_of (List.getElem?_eq_getElem hi1)
        have hipl : i < D1.pure.nodes.length := by rw [pure_len]; exact hi1
        refine xl_v v_move ?_
        refine xl_v v_extract ?_
        refine xl_v v_extract ?_
        refine xl_e (e_alloc fun b14 w24 n14 l14 k14 => ?_)
        refine xl_s (e_storeA fun w25 l25 k25 => ?_)
        refine xl_v v_assign ?_
        refine xl_nil ?_
        refine x_seq ?_
        refine x_seq ?_
        refine x_regionL ?_
        refine xl_v v_move ?_
        refine xl_call (num_ok _ _) ?_
        rintro _ _ ⟨rfl, rfl⟩
        refine xl_v (v_neqF rfl) ?_
        refine xl_v v_move ?_
        refine xl_gFb rfl EvO.eq ?_
        refine xl_gLc rfl EvO.eq ?_
        refine xl_gv rfl EvO.eq (v_congr (u := .bool false) v_lss (congrArg Value.bool (decide_eq_false (by omega)))) ?_
        refine xl_Pk ?_
        refine xl_v v_move ?_
        refine xl_gFb rfl EvO.eq ?_
        refine xl_gLc rfl EvO.eq ?_
        refine xl_gFb rfl EvO.eq ?_
        refine xl_gLc rfl EvO.eq ?_
        refine xl_gv rfl EvO.eq v_len ?_
        refine xl_gv rfl EvO.eq (v_congr (u := .bool false) v_gtr (congrArg Value.bool (decide_eq_false (by omega)))) ?_
        refine xl_Pk ?_
        refine xl_v v_move ?_
        refine xl_gFb rfl EvO.eq ?_
        refine xl_gLc rfl EvO.eq ?_
        refine xl_gFb rfl EvO.eq ?_
        refine xl_gLc rfl EvO.eq ?_
        refine xl_gv rfl EvO.eq (v_sliceH cn hcn (by omega)) ?_
        refine xl_gv rfl EvO.eq v_move ?_
        refine xl_gcall rfl EvO.eq (begins_ok z.LA cn z.lc (z.x.log.take cn) L3 lo3.length lc3 lo3 w25 (by
            have h1 := row_take (hrz.keep (kpc : Keep NoB _ w25) (fun _ _ e => e)) (cn * 2)
            rwa [← flat_take (enc := cmdC) (sz := 2) (fun _ => rfl)] at h1) (hS.ext (kpc : Keep NoB _ w25)).row (by rw [List.length_take]; omega) rfl (by omega) hS.lol.2 ⟨by omega, by have := hS.lol.1; omega⟩ (fun j h1 h2 => by
            have h3 := hI1.pre hipl
            rw [hnd, ← hzg, ← hzc, hcn, pure_len, Int.toNat_natCast] at h3
            exact Pre.comp hsafe1 h3 hS.pre j (by rw [List.length_take]; omega) h2)) ?_
        rintro _ w27 ⟨rfl, lk2123⟩
        refine xl_gv rfl EvO.eq (v_congr (u := .bool false) v_not rfl) ?_
        refine xl_Pk ?_
        refine xl_nil ?_
        refine x_condF ?_
        refine x_skip ?_
        refine x_seq ?_
        refine x_seq ?_
        refine x_regionL ?_
        refine xl_Fb ?_
        refine xl_Lc ?_
        refine xl_v v_neq ?_
        refine xl_nil ?_
        refine x_condE (fun c7 => ?_) (fun c7 => ?_)
        ·
         have hnr : ¬ D1.ns[i].x.role = 3 := by rw [← hzr]; simpa using c7
         refine x_exit ?_
         refine x_regionL ?_
         refine xl_v v_move ?_
         refine xl_v (v_add (by omega)) ?_
         refine xl_v v_assign ?_
         refine xl_nil ?_
         first
         | refine ⟨_, ?_, rfl, i + 1, T2, tn + 1, tc2, ts ++ [z.x.term], N2, nc2, ns ++ [(i : Int)], max tp1 z.x.term, rfl, by omega, hS5.ext (kpc : Keep NoB _ _), by omega, ?_, by omega, inferInstance, inferInstance, inferInstance, inferInstance, inferInstance, inferInstance, inferInstance, inferInstance, inferInstance, evc, lkc⟩
           ·omega
           ·intro j hj hji hr
            by_cases e : j = i
            ·subst e; rw [← hzt]; omega
            ·have := hseenl j hj (by omega) hr; omega
         | refine ⟨_, ?_, rfl, i + 1, TA, tn, tc, ts, NA, nc, ns, tp1, rfl, by omega, hS.ext (kpc : Keep NoB _ _), htp, ?_, by omega, inferInstance, inferInstance, inferInstance, inferInstance, inferInstance, inferInstance, inferInstance, inferInstance, inferInstance, evc, lkc⟩
           ·omega
           ·intro j hj hji hr
            by_cases e : j = i
            ·subst e; exact absurd hr hnr
            ·exact hseenl j hj (by omega) hr
        ·
         have hr3 : D1.ns[i].x.role = 3 := by rw [← hzr]; simpa using c7
         have hldi : G1.ld z.x.term = some i := by have := ((hI1.nd i hipl).l1 (by rw [hnd]; exact hr3)).1; rw [hnd, ← hzt] at this; exact this
         have hb14 : (w22).heap.size ≤ b14 := by rw [n14.eq]; exact Ge.le
         haveI nT : ∀ cc, NotS (OwnB (.slice TA tn cc)) b14 := fun cc => ⟨fun e => by have h1 := hTl _ (ownB_blk.1 e); omega⟩
         haveI nN : ∀ cc, NotS (OwnB (.slice NA tn cc)) b14 := fun cc => ⟨fun e => by have h1 := hNl _ (ownB_blk.1 e); omega⟩
         refine x_skip ?_
         refine x_seq ?_
         refine x_seq ?_
         refine x_regionL ?_
         refine xl_v v_assign ?_
         refine xl_nil ?_
         refine x_block ?_
         obtain ⟨wL, hwL, lkL⟩ : ∃ x, x = w27 ∧ Lk w27 x NoB := ⟨w27, rfl, ⟨Keep.refl _ _⟩⟩
         have hS4 := hS.ext (kpc : Keep NoB _ w27)
         have hb14l : (w27).heap[b14]? = _ := Blk.eq
         have hrzL := hrz.keep (kpc : Keep NoB _ w27) (fun _ _ e => e)
         have hwL0 : Keep NoB w w27 := kpc
         have hBL : (w22).heap.size ≤ (w27).heap.size := Ge.le
         rw [← hwL] at hS4 hb14l hrzL hwL0 hBL
         haveI : Blk wL b14 _ := ⟨hb14l⟩
         haveI : Row wL z.LA (cmdsC z.x.log) := ⟨hrzL⟩
         haveI : Lk wL w NoB := ⟨hwL0⟩
         haveI rT : RowB wL TA wL (ints ts) := rowB_of (FRow.of_own hS4.tO).row
         haveI rN : RowB wL NA wL (ints ns) := rowB_of (FRow.of_own hS4.nO).row
         have htl := hS.tl
         have hnl := hS.nl
         refine x_loop (fun t τ ds w' => ds = [] ∧ ∃ (j : Nat), t = tn - j ∧ j ≤ tn ∧ Ev τ 0 (.int .i64 n) ∧ Ev τ 1 (.slice A m c) ∧ Ev τ 5 (.pointer (some ⟨q, 0, none⟩)) ∧ Ev τ 6 (.int .i64 0) ∧ Ev τ 7 (.slice L3 lo3.length lc3) ∧ Ev τ 8 (.slice TA tn tc) ∧ Ev τ 9 (.slice NA tn nc) ∧ Ev τ 10 (.int .i64 tp1) ∧ Ev τ 11 (.int .i64 (k : Int)) ∧ Ev τ 13 (.int .i64 (i : Int)) ∧ Ev τ 14 (.pointer (some ⟨b14, 0, none⟩)) ∧ Ev τ 16 (.int .i64 (j : Int)) ∧ Lk w' wL NoB) (tn) ?start ?round
         case start =>
          exact ⟨rfl, 0, rfl, Nat.zero_le _, inferInstance, inferInstance, inferInstance, inferInstance, inferInstance, inferInstance, inferInstance, inferInstance, inferInstance, inferInstance, inferInstance, evc, by rw [hwL]; exact lkc⟩
         case round =>
          intro m τ28 ds28 w28 hI
          clear e0 e1 e5 e6 e7 e8 e9 e10 e11 e13
          obtain ⟨rfl, j, rfl, hj, e0, e1, e5, e6, e7, e8, e9, e10, e11, e13, e14, e16, lk3⟩ := hI
          refine x_seq ?_
          refine x_seq ?_
          refine x_regionL ?_
          refine xl_v v_move ?_
          refine xl_v v_move ?_
          refine xl_v v_len ?_
          refine xl_v v_lss ?_
          refine xl_nil ?_
          first | refine x_condP (fun c8 => ?_) (fun c8 => ?_) | refine x_condN (fun c8 => ?_) (fun c8 => ?_) | refine x_condE (fun c8 => ?_) (fun c8 => ?_)
          ·
           have hj1 : j < ts.length := by omega
           have hj2 : j < ns.length := by omega
           have heq : ts[j] = z.x.term → ns[j] = (i : Int) := fun e => by
            have h1 := hS4.lead j hj1 hj2
            rw [e, hldi] at h1
            have h2 : i = ns[j].toNat := Option.some.inj h1.1
            have := h1.2
            omega
           refine x_skip ?_
           refine x_seq ?_
           refine x_block ?_
           refine x_seq ?_
           refine x_drawL (NoB) (allS) (.take 0 (.take 1 (.take 2 (.take 3 (.take 4 (.take 5 (.take 6 (.take 7 (.take 8 (.take 9 (.take 10 (.take 11 (.take 12 (.take 13 (.take 14 .done))))))))))))))) mixed (by kernel_rfl) (fun _ _ _ _ _ h => h) (fun w29 l29 => ?_)
           refine xt_v rfl v_move ?_
           refine xt_v rfl v_move ?_
           refine xt_v rfl (v_indexO j rfl (by omega) hj1) ?_
           refine xt_v rfl (v_loadO (k := j) hj1) ?_
           refine xt_Fb rfl ?_
           refine xt_Lc rfl ?_
           refine xt_v rfl v_eql ?_
           refine xt_v rfl v_move ?_
           refine xt_split 108 (fun g108 => ?_) (fun g108 => ?_)
           ·
            refine xt_gv rfl rfl EvO.eq v_move ?_
            refine xt_gv rfl rfl EvO.eq v_move ?_
            refine xt_gv rfl rfl EvO.eq (v_indexO j rfl (by omega) hj2) ?_
            refine xt_gv rfl rfl EvO.eq (v_loadO (k := j) hj2) ?_
            refine xt_gv rfl rfl EvO.eq v_move ?_
            refine xt_gv rfl rfl EvO.eq (v_neqF (heq (by simpa using g108))) ?_
            refine xt_Pk rfl ?_
            refine xt_nil ?_
            refine x_condF ?_
            refine x_skip ?_
            refine x_regionL ?_
            refine xl_v v_move ?_
            refine xl_v (v_add (by omega)) ?_
            refine xl_v v_assign ?_
            refine xl_nil ?_
            refine ⟨_, ?_, rfl, j + 1, rfl, by omega, inferInstance, inferInstance, inferInstance, inferInstance, inferInstance, inferInstance, inferInstance, inferInstance, inferInstance, inferInstance, inferInstance, evc, lkc⟩
            omega
           ·
            refine xt_gs rfl rfl EvO.eq ?_
            refine xt_gs rfl rfl EvO.eq ?_
            refine xt_gs rfl rfl EvO.eq ?_
            refine xt_gs rfl rfl EvO.eq ?_
            refine xt_gs rfl rfl EvO.eq ?_
            refine xt_gs rfl rfl EvO.eq ?_
            refine xt_Pk rfl ?_
            refine xt_nil ?_
            refine x_condF ?_
            refine x_skip ?_
            refine x_regionL ?_
            refine xl_v v_move ?_
            refine xl_v (v_add (by omega)) ?_
            refine xl_v v_assign ?_
            refine xl_nil ?_
            refine ⟨_, ?_, rfl, j + 1, rfl, by omega, inferInstance, inferInstance, inferInstance, inferInstance, inferInstance, inferInstance, inferInstance, inferInstance, inferInstance, inferInstance, inferInstance, evc, lkc⟩
            omega
          ·
           refine x_exit ?_
           refine x_seq ?_
           refine x_regionL ?_
           refine xl_v v_move ?_
           refine xl_Fb ?_
           refine xl_Lc ?_
           refine xl_e (e_buildSlice1 rfl fun b293 w30 n293 l293 k293 => ?_)
           have hS6 := hS4.ext (kpc : Keep NoB wL w30)
           haveI sTA : ∀ (S : Nat → Prop), SubF (OwnB (.slice TA tn tc)) S w := fun S => ⟨fun j hj e => by have := (own_blk hS6.tO (ownB_blk.1 e)).1; omega⟩
           haveI sNA : ∀ (S : Nat → Prop), SubF (OwnB (.slice NA tn nc)) S w := fun S => ⟨fun j hj e => by have := (own_blk hS6.nO (ownB_blk.1 e)).1; omega⟩
           obtain ⟨w6, hw6, lk66⟩ : ∃ x, x = w30 ∧ Lk w30 x NoB := ⟨w30, rfl, ⟨Keep.refl _ _⟩⟩
           rw [← hw6] at hS6
           refine xl_e (e_append' (hw6 ▸ hS6.tO) Ge.le rfl Cell1L.eq (by decide) (.inl rfl) (by omega) (by omega) fun T2 tc2 w31 ho2 l2 f2 => ?_)
           have hl26 : Keep (OwnB (.slice TA tn tc)) w6 w31 := by rw [hw6]; exact l2.keep
           have hf2 : ∀ j, blkA T2 = some j → blkA TA = some j ∨ w6.heap.size ≤ j := fun j e => (from_blk f2 (Nat.le_of_eq (congrArg (fun w : World => w.heap.size) hw6))).elim (fun h => .inl (h ▸ e)) (fun h => .inr (h j e))
           obtain ⟨w7, hw7⟩ : ∃ x, x = w31 := ⟨_, rfl⟩
           refine xl_v v_move ?_
           refine xl_v v_move ?_
           refine xl_e (e_buildSlice1 rfl fun b297 w32 n297 l297 k297 => ?_)
           have hno8 := own_keepB hS6.nO hl26 (fun j e e2 => hS6.nK j e (.inr (.inr (.inr (ownB_blk.1 e2)))))
           have hno9 := own_keep hno8 (kpc : Keep NoB _ w32) (fun _ _ e => e)
           refine xl_e (e_append' hno9 Ge.le rfl Cell1L.eq (by decide) (.inl rfl) (by omega) (by omega) fun N2 nc2 w33 ho3 l3 f3 => ?_)
           have hf3 : ∀ j, blkA N2 = some j → blkA NA = some j ∨ w7.heap.size ≤ j := fun j e => (from_blk f3 (by rw [hw7]; exact Ge.le)).elim (fun h => .inl (h ▸ e)) (fun h => .inr (h j e))
           have hS5 := hS6.push z.x.term (i : Int) (hw7.symm ▸ ho2) (hw7.symm ▸ hl26) hf2 ho3 (by rw [hw7]; exact kpc) hf3 ⟨by simpa using hldi, by omega⟩
           have hhas : z.x.term = max tp1 z.x.term → lo3.length ≤ z.x.log.length ∧ z.x.log.take lo3.length = lo3 := fun e => by
            have h1 := hI1.has_all hipl (by rw [hnd]; exact hr3) (by rw [hnd, ← hzt]; exact hseen1.mono (by omega)) (l := lo3) (by rw [pure_len]; exact hS.pre)
            rw [hnd, ← hzg] at h1
            exact h1
           refine xl_v v_assign ?_
           refine xl_v v_assign ?_
           refine xl_nil ?_
           refine x_seq ?_
           refine x_regionL ?_
           refine xl_v v_move ?_
           refine xl_Fb ?_
           refine xl_Lc ?_
           refine xl_v v_max ?_
           refine xl_v v_assign ?_
           refine xl_nil ?_
           refine x_seq ?_
           refine x_regionL ?_
           refine xl_Fb ?_
           refine xl_Lc ?_
           refine xl_v v_move ?_
           refine xl_v v_eql ?_
           refine xl_v v_move ?_
           refine xl_split 133 (fun g133 => ?_) (fun g133 => ?_)
           ·
            refine xl_gFb rfl EvO.eq ?_
            refine xl_gLc rfl EvO.eq ?_
            refine xl_gv rfl EvO.eq v_len ?_
            refine xl_gv rfl EvO.eq v_move ?_
            refine xl_gv rfl EvO.eq v_len ?_
            refine xl_gv rfl EvO.eq (v_congr (u := .bool false) v_lss (congrArg Value.bool (decide_eq_false (by have := hhas (by simpa using g133); omega)))) ?_
            refine xl_gv rfl EvO.eq v_move ?_
            refine xl_gFb rfl EvO.eq ?_
            refine xl_gLc rfl EvO.eq ?_
            refine xl_gv rfl EvO.eq v_move ?_
            refine xl_gv rfl EvO.eq v_len ?_
            refine xl_gv rfl EvO.eq (v_sliceH lo3.length rfl (by have := hhas (by simpa using g133); omega)) ?_
            refine xl_gv rfl EvO.eq v_move ?_
            refine xl_gcall rfl EvO.eq (sameP_ok z.LA lo3.length z.lc (z.x.log.take lo3.length) L3 lo3.length lc3 lo3 w33 (by
                have h1 := row_take (Row.row (w := w33) (A := z.LA) (cs := cmdsC z.x.log)) (lo3.length * 2)
                rwa [← flat_take (enc := cmdC) (sz := 2) (fun _ => rfl)] at h1) (hS5.ext (kpc : Keep NoB _ w33)).row (by have := hhas (by simpa using g133); rw [List.length_take]; omega) rfl (by have := hS.lol.1; omega)) ?_
            rintro _ w34 ⟨rfl, lk3118⟩
            rw [decide_eq_true (hhas (by simpa using g133)).2]
            refine xl_gv rfl EvO.eq (v_congr (u := .bool false) v_not rfl) ?_
            refine xl_gPk rfl EvO.eq ?_
            refine xl_Pk ?_
            refine xl_nil ?_
            refine x_condF ?_
            refine x_skip ?_
            refine x_regionL ?_
            refine xl_v v_move ?_
            refine xl_v (v_add (by omega)) ?_
            refine xl_v v_assign ?_
            refine xl_nil ?_
            first
            | refine ⟨_, ?_, rfl, i + 1, T2, tn + 1, tc2, ts ++ [z.x.term], N2, nc2, ns ++ [(i : Int)], max tp1 z.x.term, rfl, by omega, hS5.ext (kpc : Keep NoB _ _), by omega, ?_, by omega, inferInstance, inferInstance, inferInstance, inferInstance, inferInstance, inferInstance, inferInstance, inferInstance, inferInstance, evc, lkc⟩
              ·omega
              ·intro j hj hji hr
               by_cases e : j = i
               ·subst e; rw [← hzt]; omega
               ·have := hseenl j hj (by omega) hr; omega
            | refine ⟨_, ?_, rfl, i + 1, TA, tn, tc, ts, NA, nc, ns, tp1, rfl, by omega, hS.ext (kpc : Keep NoB _ _), htp, ?_, by omega, inferInstance, inferInstance, inferInstance, inferInstance, inferInstance, inferInstance, inferInstance, inferInstance, inferInstance, evc, lkc⟩
              ·omega
              ·intro j hj hji hr
               by_cases e : j = i
               ·subst e; exact absurd hr hnr
               ·exact hseenl j hj (by omega) hr
           ·
            refine xl_gs rfl EvO.eq ?_
            refine xl_gs rfl EvO.eq ?_
            refine xl_gs rfl EvO.eq ?_
            refine xl_gs rfl EvO.eq ?_
            refine xl_gs rfl EvO.eq ?_
            refine xl_gs rfl EvO.eq ?_
            refine xl_gs rfl EvO.eq ?_
            refine xl_gu rfl EvO.eq ?_
            refine xl_gu rfl EvO.eq ?_
            refine xl_gu rfl EvO.eq ?_
            refine xl_gu rfl EvO.eq ?_
            refine xl_gu rfl EvO.eq ?_
            refine xl_gu rfl EvO.eq ?_
            refine xl_gu rfl EvO.eq ?_
            refine xl_gu rfl EvO.eq ?_
            refine xl_gs rfl EvO.eq ?_
            refine xl_Pk ?_
            refine xl_nil ?_
            refine x_condF ?_
            refine x_skip ?_
            refine x_regionL ?_
            refine xl_v v_move ?_
            refine xl_v (v_add (by omega)) ?_
            refine xl_v v_assign ?_
            refine xl_nil ?_
            first
            | refine ⟨_, ?_, rfl, i + 1, T2, tn + 1, tc2, ts ++ [z.x.term], N2, nc2, ns ++ [(i : Int)], max tp1 z.x.term, rfl, by omega, hS5.ext (kpc : Keep NoB _ _), by omega, ?_, by omega, inferInstance, inferInstance, inferInstance, inferInstance, inferInstance, inferInstance, inferInstance, inferInstance, inferInstance, evc, lkc⟩
              ·omega
              ·intro j hj hji hr
               by_cases e : j = i
               ·subst e; rw [← hzt]; omega
               ·have := hseenl j hj (by omega) hr; omega
            | refine ⟨_, ?_, rfl, i + 1, TA, tn, tc, ts, NA, nc, ns, tp1, rfl, by omega, hS.ext (kpc : Keep NoB _ _), htp, ?_, by omega, inferInstance, inferInstance, inferInstance, inferInstance, inferInstance, inferInstance, inferInstance, inferInstance, inferInstance, evc, lkc⟩
              ·omega
              ·intro j hj hji hr
               by_cases e : j = i
               ·subst e; exact absurd hr hnr
               ·exact hseenl j hj (by omega) hr
       ·
        refine x_exit ?_
        have hi0 : i = D1.ns.length := by omega
        have hld2 : ∀ x ∈ D1.pure.nodes, x.role = 3 → x.term ≤ tp1 := by
         intro x hx hr
         obtain ⟨y, hy, rfl⟩ := List.mem_map.1 hx
         obtain ⟨j, hj, rfl⟩ := List.getElem_of_mem hy
         exact hseenl j hj (by omega) hr
        refine x_regionL ?_
        refine xl_v v_move ?_
        refine xl_v (v_add (by omega)) ?_
        refine xl_v v_assign ?_
        refine xl_nil ?_
        refine ⟨_, ?_, rfl, k + 1, D1, F1, G1, L3, lo3, lc3, TA, tn, tc, ts, NA, nc, ns, tp1, rfl, by omega, hS.ext (kpc : Keep NoB _ _), hDl1, hseen1.mono htp, hld2, by omega, inferInstance, inferInstance, inferInstance, inferInstance, inferInstance, inferInstance, inferInstance, inferInstance, evc, lkc⟩
        omega
    ·
     refine x_exit ?_
     refine x_seq ?_
     refine x_regionL ?_
     refine xl_v v_move ?_
     refine xl_call (num_ok _ _) ?_
     rintro _ _ ⟨rfl, rfl⟩
     refine xl_v (v_eqlT rfl) ?_
     refine xl_v v_move ?_
     refine xl_gcall rfl EvO.eq (works_ok w5) ?_
     rintro _ w36 ⟨rfl, lk334⟩
     refine xl_Pk ?_
     refine xl_v v_assign ?_
     refine xl_nil ?_
     refine x_ret ?_
     refine fin1 rfl ?_
     exact ⟨rfl, lkc⟩
end Go.Proofs.Ytdmafmlifadfoaa
