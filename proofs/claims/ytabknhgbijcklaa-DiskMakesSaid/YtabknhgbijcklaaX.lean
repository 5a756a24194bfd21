/-
  Walks, printed by a program of this workplace (wip/tools/sx.py) off the functions' code and a text of contracts.
-/
import Derived.Test.YtabknhgbijcklaaW
set_option linter.all false
set_option maxRecDepth 100000
set_option synthInstance.maxSize 100000
set_option synthInstance.maxHeartbeats 400000
namespace Go.Proofs.Ytabknhgbijcklaa
open Go.Wst
open Go.Wst.Dm
/-- The elements of a slice that is written out: several cells each. -/
class ZipM (sz s : Nat) (l : List (Nat × Value)) (vss : outParam (List (Value × List Value))) : Prop where eq : l = (vss.zipIdx s).map (fun p => (p.2, p.1.1)) ∧ ∀ p ∈ vss, p.1.cells = p.2.toArray ∧ p.2.length = sz
instance zipM_nil (sz s : Nat) : ZipM sz s [] [] := ⟨rfl, by simp⟩
instance zipM_cons (sz s i : Nat) (v : Value) (vs : List Value) (l : List (Nat × Value)) (vss : List (Value × List Value)) [h : EqN i s] [h1 : Cells v vs.toArray] [h2 : LenL vs sz] [k : ZipM sz (s + 1) l vss] : ZipM sz s ((i, v) :: l) ((v, vs) :: vss) := ⟨by rw [h.eq, k.eq.1]; rfl, by
  intro u hu
  rcases List.mem_cons.1 hu with rfl | hu
  · exact ⟨h1.eq, h2.eq⟩
  · exact k.eq.2 u hu⟩
theorem setMany_len : ∀ (l : List Value) (cs : Array Value) (o : Nat), (setMany cs o l).size = cs.size
  | [], _, _ => rfl
  | a :: l, cs, o => by rw [setMany, setMany_len l]; simp
theorem setMany_app : ∀ (a b : List Value) (cs : Array Value) (o : Nat), setMany cs o (a ++ b) = setMany (setMany cs o a) (o + a.length) b
  | [], b, cs, o => by simp [setMany]
  | x :: a, b, cs, o => by
    rw [List.cons_append, setMany, setMany, setMany_app a b, List.length_cons, Nat.add_assoc, Nat.add_comm 1]
theorem fill_flat (sz : Nat) : ∀ (vss : List (Value × List Value)) (s : Nat) (cs : Array Value), s * sz + vss.length * sz ≤ cs.size → (∀ p ∈ vss, p.1.cells = p.2.toArray ∧ p.2.length = sz) → Instr.fill (fun j => some (j * sz, sz)) cs ((vss.zipIdx s).map (fun p => (p.2, p.1.1))) = some (setMany cs (s * sz) (vss.flatMap (·.2)))
  | [], _, cs, _, _ => rfl
  | p :: vss, s, cs, h, h1 => by
    obtain ⟨e1, e2⟩ := h1 p (List.mem_cons_self ..)
    have h2 : s * sz + (vss.length + 1) * sz ≤ cs.size := by simpa using h
    rw [Nat.add_mul, Nat.one_mul] at h2
    rw [List.zipIdx_cons, List.map_cons, fill_cons (cs := cs) (vs := p.2) (off := s * sz) (sz := sz) rfl e1 e2 (by omega)]
    rw [fill_flat sz vss (s + 1) _ (by rw [setMany_len, Nat.add_mul, Nat.one_mul]; omega) (fun u hu => h1 u (List.mem_cons_of_mem _ hu)), List.flatMap_cons, setMany_app, e2, Nat.add_mul, Nat.one_mul]
theorem flatM_len {sz : Nat} : ∀ {vss : List (Value × List Value)}, (∀ p ∈ vss, p.1.cells = p.2.toArray ∧ p.2.length = sz) → (vss.flatMap (·.2)).length = vss.length * sz
  | [], _ => by simp
  | p :: l, h => by rw [List.flatMap_cons, List.length_append, (h p (List.mem_cons_self ..)).2, flatM_len (fun q hq => h q (List.mem_cons_of_mem _ hq)), List.length_cons, Nat.add_mul, Nat.one_mul, Nat.add_comm]
theorem e_buildSliceM {N : Nat} {τ : Tau} {w : World} {P : Program} {ty t e : TypeId} {parts : List (Nat × Operand)} {vsI : List (Nat × Value)} {vss : List (Value × List Value)} {vs : List Value} {sz bytes m : Nat} {z : Value} {G : Value → World → Prop} [hv : EvP N τ parts vsI] [hu : Und P t (.slice e)] [hi : Inf P e sz bytes z] [hzp : ZipM sz 0 vsI vss] (hpos : (Nat.ble 1 (m * sz) && Nat.ble (m * sz) 1000) = true) (hm : vss.length = m) (hvs : vs = vss.flatMap (·.2))
    (h : ∀ (b : Nat) (w' : World), New b w → Lk w' w NoB → Blk w' b (.cells vs.toArray e (0, 0)) → G (.slice (some ⟨b, 0, none⟩) m m) w') : EffV P N NoB (.buildSlice t m parts.toArray) ty τ w G := by
  obtain ⟨i, h5, h6, h7, h8⟩ := hi.ex
  subst h6; subst hm; subst hvs
  simp only [Bool.and_eq_true, Nat.ble_eq] at hpos
  obtain ⟨h1, h2, h3⟩ := new_blk (w := w) (.cells (vss.flatMap (·.2)).toArray e)
  have hfl := flatM_len hzp.eq.2
  refine ⟨fun _ => nofun, _, _, ?_, h2.keep, h _ _ h1 h2 h3⟩
  have hfill : Instr.fill (fun j => some (j * i.size, i.size)) ((Array.range (vss.length * i.size)).map (z.cells[· % z.cells.size]!)) vsI = some (vss.flatMap (·.2)).toArray := by
    rw [hzp.eq.1, fill_flat i.size vss 0 _ (by simp) hzp.eq.2]
    congr 1
    have := setMany_all (vss.flatMap (·.2)) [] ((Array.range (vss.length * i.size)).map (z.cells[· % z.cells.size]!)) (by simp [hfl]) (by simp)
    simpa using this
  have hb := Go.run_buildSlice (P := P) w t e vss.length vsI.toArray (vss.flatMap (·.2)).toArray i z hu.eq h5 h8 (by omega) (by omega) (by simpa using hfill)
  have e1 : (parts.toArray.map fun (x : Nat × Operand) => (x.1, evO N τ x.2)) = vsI.toArray := by simp [hv.eq]
  simp only [execOp, Sem.run_bind, e1, hb, Result.andThen_ok, Sem.run_pure]
theorem refnew3_ok (room : Int) (w : World) : Ret Try.prog 27 #[.int .i64 room] w (fun v w' => (∃ Rz no, v = .tuple #[.agg (refC Rz).toArray, .int .i64 no] ∧ (no = 0 → 1 ≤ room ∧ room ≤ 16777216)) ∧ Lk w' w NoB) := by
  refine (refnew_ok room w).mono ?_
  rintro v w' ⟨h, lk⟩
  refine ⟨?_, lk⟩
  split at h
  · next hm => exact ⟨_, 0, h, fun _ => hm⟩
  · exact ⟨_, 2, h, fun e => by cases e⟩

/-- waystation/waystationlaw03.DiskPlays -/
theorem diskPlays_ok (room : Int) (A : Option Addr) (n c : Nat) (xs : List LT) (w : World) [hra : Row w A (xs.flatMap thC)] (hrs : ∀ j (h : j < xs.length), RowP w xs[j].A (bytesC xs[j].t.bytes)) (hcs : ∀ j (h : j < xs.length), xs[j].t.bytes.length ≤ xs[j].c) (hns : ∀ j (h : j < xs.length), In64 xs[j].t.n) (hl : xs.length = n) (hn : n ≤ 9223372036854775807) : Ret Try.prog 6 #[.int .i64 room, .slice A n c] w (fun v w' => v = .bool true ∧ Lk w' w NoB) := by
  haveI hrb : RowB w A w (xs.flatMap thC) := rowB_of hra.row
  refine ret_of_x (N := 34) (l := [.int .i64 room, .slice A n c]) Try.func6 rfl rfl (Nat.le_of_ble_eq_true rfl) ?_
  refine x_seq ?_
  refine x_regionL ?_
  refine xl_v v_assign ?_
  refine xl_nil ?_
  refine x_seq ?_
  refine x_regionL ?_
  refine xl_v v_move ?_
  refine xl_call (refnew3_ok room w) ?_
  rintro _ w1 ⟨⟨Rz, no, rfl, hno⟩, lkn⟩
  refine xl_v v_move ?_
  refine xl_v v_extract ?_
  refine xl_v v_extract ?_
  refine xl_e (e_alloc fun b2 w2 n2 l2 k2 => ?_)
  refine xl_s (e_storeA fun w3 l3 k3 => ?_)
  refine xl_v v_assign ?_
  refine xl_nil ?_
  refine x_seq ?_
  refine x_seq ?_
  refine x_regionL ?_
  refine xl_v v_move ?_
  refine xl_v v_neq ?_
  refine xl_v v_move ?_
  refine xl_split 17 (fun g17 => ?_) (fun g17 => ?_)
  ·
    refine xl_gs rfl EvO.eq ?_
    refine xl_gs rfl EvO.eq ?_
    refine xl_gs rfl EvO.eq ?_
    refine xl_v (by first | exact v_pickT | exact v_pickF | exact v_pick) ?_
    refine xl_nil ?_
    refine x_condT ?_
    refine x_seq ?_
    refine x_regionL ?_
    refine xl_call (works_ok w3) ?_
    rintro _ w4 ⟨rfl, lkw⟩
    refine xl_v v_assign ?_
    refine xl_nil ?_
    refine x_ret ?_
    refine fin1 rfl ?_
    exact ⟨rfl, lkc⟩
  ·
    refine xl_gv rfl EvO.eq v_move ?_
    refine xl_gcall rfl EvO.eq (few_ok A n c xs w3 (hra := rowB_of (inferInstance : Row w3 A (xs.flatMap thC)).row) hl hn) ?_
    rintro _ w5 ⟨⟨fb, rfl, hfb⟩, lkf⟩
    refine xl_gv rfl EvO.eq v_not ?_
    refine xl_v (by first | exact v_pickT | exact v_pickF | exact v_pick) ?_
    refine xl_nil ?_
    first | refine x_condP (fun c1 => ?_) (fun c1 => ?_) | refine x_condN (fun c1 => ?_) (fun c1 => ?_) | refine x_condE (fun c1 => ?_) (fun c1 => ?_)
    ·
      refine x_seq ?_
      refine x_regionL ?_
      refine xl_call (works_ok w5) ?_
      rintro _ w6 ⟨rfl, lkw⟩
      refine xl_v v_assign ?_
      refine xl_nil ?_
      refine x_ret ?_
      refine fin1 rfl ?_
      exact ⟨rfl, lkc⟩
    ·
      refine x_skip ?_
      refine x_seq ?_
      refine x_regionL ?_
      refine xl_v v_move ?_
      refine xl_v v_move ?_
      have hm := hno (by first | (simp at g17; exact g17) | omega)
      have hfew := hfb (by simpa using c1)
      refine xl_call (played_ok room A n c xs w5 w hm (fun j h => (rowB_of (hrs j h)).keep (kpc : Keep NoB w w5) (fun _ h => h.elim)) hcs hns hl hfew Ge.le) ?_
      rintro _ w7 ⟨⟨d, M, Rf, rfl, hP, hlen, hgd⟩, lk1⟩
      refine xl_v v_move ?_
      refine xl_v v_extract ?_
      refine xl_v v_extract ?_
      refine xl_v v_extract ?_
      refine xl_e (e_alloc fun b8 w8 n8 l8 k8 => ?_)
      refine xl_v v_assign ?_
      refine xl_s (e_storeA fun w9 l9 k9 => ?_)
      refine xl_v v_assign ?_
      refine xl_nil ?_
      refine x_seq ?_
      refine x_regionL ?_
      refine xl_v v_move ?_
      refine xl_v v_move ?_
      refine xl_gcall rfl EvO.eq (works_ok w9) ?_
      rintro _ w10 ⟨rfl, lkw⟩
      refine xl_v (by first | exact v_pickT | exact v_pickF | exact v_pick) ?_
      refine xl_v v_assign ?_
      refine xl_nil ?_
      refine x_ret ?_
      refine fin1 rfl ?_
      exact ⟨rfl, lkc⟩

/-- waystation/waystationlaw03.DiskTorn -/
theorem diskTorn_ok (A B : Option Addr) (na ca nb cb : Nat) (xa xb : List UInt8) (kp tn : Int) (w : World) [hra : Row w A (bytesC xa)] [hrb : Row w B (bytesC xb)] (hal : xa.length = na) (hbl : xb.length = nb) (hca : na ≤ ca) (hcb : nb ≤ cb) (hkp : In64 kp) (htn : In64 tn) (hna : na ≤ 9223372036854775807) (hnb : nb ≤ 9223372036854775807) : Ret Try.prog 9 #[.slice A na ca, .slice B nb cb, .agg #[.int .i64 kp, .int .i64 tn]] w (fun v w' => v = .bool true ∧ Lk w' w NoB) := by
  haveI hraB : RowB w A w (bytesC xa) := rowB_of hra.row
  haveI hrbB : RowB w B w (bytesC xb) := rowB_of hrb.row
  refine ret_of_x (N := 59) (l := [.slice A na ca, .slice B nb cb, .agg #[.int .i64 kp, .int .i64 tn]]) Try.func9 rfl rfl (Nat.le_of_ble_eq_true rfl) ?_
  refine x_seq ?_
  refine x_regionL ?_
  refine xl_e (e_box fun b1 w1 n1 l1 k1 => ?_)
  refine xl_v v_assign ?_
  refine xl_nil ?_
  refine x_seq ?_
  refine x_seq ?_
  refine x_regionL ?_
  refine xl_v v_move ?_
  refine xl_v v_len ?_
  refine xl_v v_gtr ?_
  refine xl_v v_move ?_
  refine xl_split 16 (fun g16 => ?_) (fun g16 => ?_)
  ·
    refine xl_gs rfl EvO.eq ?_
    refine xl_gs rfl EvO.eq ?_
    refine xl_gs rfl EvO.eq ?_
    refine xl_v (by first | exact v_pickT | exact v_pickF | exact v_pick) ?_
    refine xl_nil ?_
    refine x_condT ?_
    refine x_seq ?_
    refine x_regionL ?_
    refine xl_call (works_ok w1) ?_
    rintro _ w2 ⟨rfl, lkw⟩
    refine xl_v v_assign ?_
    refine xl_nil ?_
    refine x_ret ?_
    refine fin1 rfl ?_
    exact ⟨rfl, lkc⟩
  ·
    refine xl_gv rfl EvO.eq v_move ?_
    refine xl_gv rfl EvO.eq v_len ?_
    refine xl_gv rfl EvO.eq v_gtr ?_
    refine xl_v (by first | exact v_pickT | exact v_pickF | exact v_pick) ?_
    refine xl_nil ?_
    first | refine x_condP (fun c1 => ?_) (fun c1 => ?_) | refine x_condN (fun c1 => ?_) (fun c1 => ?_) | refine x_condE (fun c1 => ?_) (fun c1 => ?_)
    ·
      refine x_seq ?_
      refine x_regionL ?_
      refine xl_call (works_ok w1) ?_
      rintro _ w3 ⟨rfl, lkw⟩
      refine xl_v v_assign ?_
      refine xl_nil ?_
      refine x_ret ?_
      refine fin1 rfl ?_
      exact ⟨rfl, lkc⟩
    ·
      have hab : na ≤ 300 ∧ nb ≤ 300 := by
        simp at g16 c1
        omega
      obtain ⟨XS, hXS, hall⟩ : ∃ XS : List LT, XS = [⟨⟨0, ⟨#[97]⟩, xa, 0⟩, A, ca⟩, ⟨⟨3, ByteArray.empty, [], 0⟩, none, 0⟩, ⟨⟨0, ⟨#[97]⟩, xb, 0⟩, B, cb⟩] ∧ ∀ Q : LT → Prop, Q ⟨⟨0, ⟨#[97]⟩, xa, 0⟩, A, ca⟩ → Q ⟨⟨3, ByteArray.empty, [], 0⟩, none, 0⟩ → Q ⟨⟨0, ⟨#[97]⟩, xb, 0⟩, B, cb⟩ → ∀ j (h : j < XS.length), Q XS[j] := ⟨_, rfl, fun Q h0 h1 h2 j h => by
        match j, h with
        | 0, _ => exact h0
        | 1, _ => exact h1
        | 2, _ => exact h2⟩
      refine x_skip ?_
      refine x_seq ?_
      refine x_regionL ?_
      refine xl_v v_move ?_
      refine xl_v v_build ?_
      refine xl_v v_build ?_
      refine xl_v v_move ?_
      refine xl_v v_build ?_
      refine xl_e (e_buildSliceM (vs := XS.flatMap thC) rfl rfl (by rw [hXS]; simp [hal, hbl]) fun b7 w4 n7 l7 k7 => ?_)
      refine xl_v v_assign ?_
      refine xl_nil ?_
      refine x_seq ?_
      refine x_regionL ?_
      refine xl_v v_move ?_
      refine xl_call (played_ok 1000 (some ⟨b7, 0, none⟩) 3 3 XS w4 w4 (by decide) (hra := rowB_of (row_blk Blk.eq)) (hall (fun x => RowB w4 x.A w4 (bytesC x.t.bytes)) (rowB_of (inferInstance : RowB w4 A w (bytesC xa)).row) (rowB_of (fun j v h => by simp [bytesC] at h)) (rowB_of (inferInstance : RowB w4 B w (bytesC xb)).row)) (hall (fun x => x.t.bytes.length ≤ x.c) (by show xa.length ≤ ca; omega) (Nat.le_refl _) (by show xb.length ≤ cb; omega)) (hall (fun x => In64 x.t.n) (show In64 0 by decide) (show In64 0 by decide) (show In64 0 by decide)) (by rw [hXS]; rfl) ⟨by decide, hall (fun x => x.t.bytes.length ≤ 4000 ∧ x.t.name.size ≤ 4000) ⟨by show xa.length ≤ 4000; omega, show (1 : Nat) ≤ 4000 by decide⟩ ⟨by decide, by decide⟩ ⟨by show xb.length ≤ 4000; omega, show (1 : Nat) ≤ 4000 by decide⟩⟩ (Nat.le_refl _)) ?_
      rintro _ w5 ⟨⟨d, M, Rf, rfl, hP, hlen, hgd⟩, lk1⟩
      obtain ⟨F, hD, hR, hFP⟩ := hP.ex
      refine xl_v v_move ?_
      refine xl_v v_extract ?_
      refine xl_v v_extract ?_
      refine xl_v v_extract ?_
      refine xl_e (e_alloc fun b6 w6 n6 l6 k6 => ?_)
      refine xl_v v_assign ?_
      refine xl_s (e_storeA fun w7 l7 k7 => ?_)
      refine xl_v v_assign ?_
      refine xl_nil ?_
      refine x_seq ?_
      refine x_regionL ?_
      refine xl_v v_move ?_
      refine xl_v (by first | exact v_loadA | exact v_loadF (by decide) (by omega)) ?_
      refine xl_call (crash_ok _ _ d M kp tn w7 (hD.ext (kpc : Keep NoB _ w7)) hkp htn) ?_
      rintro _ w8 ⟨⟨x, rfl, hX, hgx⟩, lk2⟩
      refine xl_v v_move ?_
      refine xl_v v_extract ?_
      refine xl_v v_extract ?_
      refine xl_v v_assign ?_
      refine xl_v v_assign ?_
      refine xl_nil ?_
      refine x_seq ?_
      refine x_regionL ?_
      refine xl_v v_move ?_
      refine xl_v v_move ?_
      refine xl_gv rfl EvO.eq v_move ?_
      refine xl_gcall rfl EvO.eq (num_ok _ _) ?_
      rintro _ _ ⟨rfl, rfl⟩
      refine xl_gv rfl EvO.eq (v_congr (u := .bool true) v_eql (by simp)) ?_
      refine xl_v (by first | exact v_pickT | exact v_pickF | exact v_pick) ?_
      refine xl_v v_move ?_
      refine xl_gv rfl EvO.eq v_move ?_
      refine xl_gv rfl EvO.eq (by first | exact v_loadA | exact v_loadF (by decide) (by omega)) ?_
      refine xl_gv rfl EvO.eq (by first | exact v_fieldAddr | exact v_fieldAddrF (by decide) (by omega) | exact v_fieldAddrR (by first | assumption | rfl)) ?_
      refine xl_gv rfl EvO.eq (by first | exact v_load | exact v_loadO (by omega) | exact v_loadFf (by omega) | exact v_loadF0 (by omega)) ?_
      refine xl_gv rfl EvO.eq (by first | exact v_fieldAddr | exact v_fieldAddrF (by decide) (by omega) | exact v_fieldAddrR (by first | assumption | rfl)) ?_
      refine xl_gv rfl EvO.eq (by first | exact v_load | exact v_loadO (by omega) | exact v_loadFf (by omega) | exact v_loadF0 (by omega)) ?_
      refine xl_gcall rfl EvO.eq (refcrash_ok Rf M F kp tn w8 (hR.ext (kpc : Keep NoB _ w8)) hP.pure hkp htn) ?_
      rintro _ w10 ⟨⟨R3, F3, rfl, hs3, hR3, hF3⟩, lk3⟩
      refine xl_gcall rfl EvO.eq (is_ok _ _ x (M.crash kp tn) R3 F3 w10 (hX.ext (kpc : Keep NoB _ w10)) hR3 hs3) ?_
      rintro _ w11 ⟨rfl, lk4⟩
      refine xl_v (by first | exact v_pickT | exact v_pickF | exact v_pick) ?_
      refine xl_v v_move ?_
      refine xl_gcall rfl EvO.eq (works_ok w11) ?_
      rintro _ w12 ⟨rfl, lkw⟩
      refine xl_v (by first | exact v_pickT | exact v_pickF | exact v_pick) ?_
      refine xl_v v_assign ?_
      refine xl_nil ?_
      refine x_ret ?_
      refine fin1 rfl ?_
      exact ⟨rfl, lkc⟩
end Go.Proofs.Ytabknhgbijcklaa
