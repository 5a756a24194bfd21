/-
  Walks, printed by a program of this workplace (wip/tools/sx.py) off the functions' code and a text of contracts.
-/
import Derived.Test.YtbihphclmdokeaaX
set_option linter.all false
set_option maxRecDepth 100000
set_option synthInstance.maxSize 100000
set_option synthInstance.maxHeartbeats 400000
namespace Go.Proofs.Ytbihphclmdokeaa
open Go.Wst
open Go.Wst.Sm
theorem madeBy_take (q : Rule × Nat) (id : Int) (l : List Itm) (j : Nat) (hj : j < l.length) : madeBy q id (l.take (j + 1)) = madeBy q id (l.take j) ++ [⟨make q.1 l[j].val, id, (q.2 : Int) + (j : Int)⟩] := by
  rw [take_snoc _ _ hj]
  unfold madeBy
  rw [List.mapIdx_append]
  simp [Nat.min_eq_left (Nat.le_of_lt hj)]
/-- What is there when j items are through. -/
def RefM.go (R : RefM) (q : Rule × Nat) (id : Int) (l : List Itm) (j : Nat) : RefM := ⟨R.parts.set q.1.out.toNat (R.part q.1.out ++ madeBy q id (l.take j)), R.rows⟩
theorem go_zero (R : RefM) (q : Rule × Nat) (id : Int) (l : List Itm) : RefM.go R q id l 0 = R := by
  cases R with
  | mk parts rows =>
    simp only [RefM.go, List.take_zero, madeBy, List.mapIdx_nil, List.append_nil, RefM.part, RefM.mk.injEq, and_true]
    apply List.ext_getElem?
    intro i
    rw [List.getElem?_set]
    split
    · rename_i hi
      subst hi
      split
      · rename_i hlt; simp [hlt]
      · rename_i hlt; rw [List.getElem?_eq_none (by omega)]
    · rfl
theorem go_part (R : RefM) (q : Rule × Nat) (id : Int) (l : List Itm) (j : Nat) (n : Int) : (RefM.go R q id l j).part n = if q.1.out.toNat = n.toNat ∧ q.1.out.toNat < R.parts.length then R.part q.1.out ++ madeBy q id (l.take j) else R.part n := by
  simp only [RefM.go, RefM.part, List.getElem?_set]
  by_cases h : q.1.out.toNat = n.toNat
  · rw [if_pos h]
    by_cases h2 : q.1.out.toNat < R.parts.length
    · rw [if_pos h2, if_pos ⟨h, h2⟩]; rfl
    · rw [if_neg h2, if_neg (fun e => h2 e.2)]
      rw [List.getElem?_eq_none (by omega)]
  · rw [if_neg h, if_neg (fun e => h e.1)]
theorem go_has (R : RefM) (q : Rule × Nat) (id : Int) (l : List Itm) (j : Nat) (n : Int) : (RefM.go R q id l j).hasB n = R.hasB n := by simp [RefM.go, RefM.hasB]
theorem go_succ (R : RefM) (q : Rule × Nat) (id : Int) (l : List Itm) (j : Nat) (hj : j < l.length) (ho : R.hasB q.1.out = true) : (RefM.go R q id l j).with_ q.1.out ⟨make q.1 l[j].val, id, (q.2 : Int) + (j : Int)⟩ = RefM.go R q id l (j + 1) := by
  have hlt : q.1.out.toNat < R.parts.length := by simp [RefM.hasB] at ho; omega
  rw [RefM.with_, go_part, if_pos ⟨rfl, hlt⟩, RefM.go, RefM.go, madeBy_take _ _ _ _ hj]
  simp
theorem ref_fin2 {w w' : World} {F : Nat → Prop} {D : RD} {R : RefM} {B : Option Addr} {c' n base : Nat} {rows : List (Rule × Nat)} (h : RefAt w' F D R) (oQ : w'.ownsRow base 3 1 (.slice B n c') n (rows.map posC)) (hs : rows.flatMap rowC = R.rows.flatMap rowC) (hb : w.heap.size ≤ base) :
    ∃ F', RefAt w' F' { D with QA := B, qc := c' } { R with rows := rows } ∧ Sub F' F w := by
  have hG : ∀ k, (F k ∨ OwnB (.slice B n c') k) → k < w'.heap.size := by
    rintro k (e | e)
    · exact h.lt k e
    · exact (ownB_lt oQ k e).2
  have hr := h.r
  rw [← hs] at hr
  refine ⟨_, refAt_rows (A := D.RA) (c := D.rc) (h.mono (fun k e => .inl e) hG) (hr.mono (fun k e => .inl e)) ((FRow.of_own oQ).mono (fun k e => .inr e)), ?_⟩
  rintro k (e | e)
  · exact .inl e
  · exact .inr (Nat.le_trans hb (ownB_lt oQ k e).1)
theorem rowC_set (rows : List (Rule × Nat)) (k : Nat) (hk : k < rows.length) (p : Nat) : (rows.set k (rows[k].1, p)).flatMap rowC = rows.flatMap rowC := by
  have e : ∀ l : List (Rule × Nat), l.flatMap rowC = (l.map (·.1)).flatMap ruleC := fun l => by simp [List.flatMap_map, rowC]
  rw [e, e, List.map_set]
  congr 1
  have : rows[k].1 = (rows.map (·.1))[k]'(by simpa using hk) := by simp
  rw [this, List.set_getElem_self]

/-- (waystation/waystationref14.Machine).Round -/
theorem refRound_ok (F : Nat → Prop) (D : RD) (R : RefM) (id most : Int) (w : World) (h : RefAt w F D R) (hok : R.ok) : Ret Try.prog 58 #[refV D R, .int .i64 id, .int .i64 most] w (fun x w' => (∃ F' D', x = .tuple #[refV D' (R.roundR id most), .int .i64 (R.roundN id most : Int), .int .i64 (R.roundNo id most)] ∧ RefAt w' F' D' (R.roundR id most) ∧ Sub F' F w) ∧ Lk w' w NoB) := by
  haveI : Row w D.PA _ := ⟨h.p.row⟩
  haveI : Row w D.RA _ := ⟨h.r.row⟩
  haveI : Row w D.QA _ := ⟨h.q.row⟩
  haveI := h.p.old h.lt
  haveI := h.q.old h.lt
  have hfew := hok.few
  have hfour := hok.four
  have hpn := h.pn
  have stay : ∀ w' no, Lk w' w NoB → R.roundNo id most = no → no ≠ 0 → (∃ F' D', Value.tuple #[refV D R, .int .i64 0, .int .i64 no] = .tuple #[refV D' (R.roundR id most), .int .i64 (R.roundN id most : Int), .int .i64 (R.roundNo id most)] ∧ RefAt w' F' D' (R.roundR id most) ∧ Sub F' F w) ∧ Lk w' w NoB := by
    intro w' no hk hno hne
    subst hno
    have e1 : R.roundN id most = 0 := by
      unfold RefM.roundN
      cases R.find id with
      | none => rfl
      | some q => simp only []; rw [if_neg hne]
    have e2 : R.roundR id most = R := by
      unfold RefM.roundR
      cases R.find id with
      | none => rfl
      | some q => simp only []; rw [if_neg hne]
    rw [e1, e2]
    exact ⟨⟨F, D, rfl, h.ext hk, Sub.refl _ _⟩, hk⟩
  refine ret_of_x (N := 100) (l := [refV D R, .int .i64 id, .int .i64 most]) Try.func58 rfl rfl (Nat.le_of_ble_eq_true rfl) ?_
  refine x_seq ?_
  refine x_regionL ?_
  refine xl_e (e_box fun b1 w1 n1 l1 k1 => ?_)
  refine xl_e (e_alloc fun b2 w2 n2 l2 k2 => ?_)
  refine xl_v v_assign ?_
  refine xl_v v_assign ?_
  refine xl_nil ?_
  refine x_seq ?_
  refine x_regionL ?_
  refine xl_v (by first | exact v_loadA | exact v_loadF (by decide) (by omega)) ?_
  refine xl_v v_move ?_
  refine xl_call (refAt_ok F D R id _ (h.ext lkc) hfew) ?_
  rintro _ w3 ⟨rfl, lka⟩
  refine xl_v v_assign ?_
  refine xl_nil ?_
  refine x_seq ?_
  refine x_seq ?_
  refine x_regionL ?_
  refine xl_v v_move ?_
  refine xl_v v_lss ?_
  refine xl_nil ?_
  first | refine x_condP (fun c1 => ?_) (fun c1 => ?_) | refine x_condN (fun c1 => ?_) (fun c1 => ?_) | refine x_condE (fun c1 => ?_) (fun c1 => ?_)
  ·
    have hfind : R.find id = none := by
      rcases at_find R id with ⟨h1, h2⟩ | ⟨k, hk, h1, h2, h3⟩
      · exact h1
      · omega
    refine x_seq ?_
    refine x_regionL ?_
    refine xl_v (by first | exact v_loadA | exact v_loadF (by decide) (by omega)) ?_
    refine xl_s (e_storeA fun w4 l4 k4 => ?_)
    refine xl_v v_assign ?_
    refine xl_v v_assign ?_
    refine xl_nil ?_
    refine x_ret ?_
    refine finR (rs := [.cell 6 51, .tmp 7, .tmp 8]) rfl ?_
    exact stay _ 5 lkc (by rw [RefM.roundNo, hfind]) (by decide)
  ·
    obtain ⟨k, hk, hfind, hat, hqid⟩ : ∃ (k : Nat) (h : k < R.rows.length), R.find id = some R.rows[k] ∧ R.at_ id = (k : Int) ∧ R.rows[k].1.id = id := by
      rcases at_find R id with ⟨h1, h2⟩ | h
      · omega
      · exact h
    obtain ⟨q, hq⟩ : ∃ q, q = R.rows[k] := ⟨_, rfl⟩
    have hfind' : R.find id = some q := by rw [hq]; exact hfind
    obtain ⟨hmay, hin, hout, hpos⟩ := hok.rows q (by rw [hq]; exact List.getElem_mem hk)
    have hi0 : q.1.inp = (q.1.inp.toNat : Int) := by simp [RefM.hasB] at hin; omega
    have hi1 : q.1.inp.toNat < R.parts.length := by simp [RefM.hasB] at hin; omega
    have ho0 : q.1.out = (q.1.out.toNat : Int) := by simp [RefM.hasB] at hout; omega
    have ho1 : q.1.out.toNat < R.parts.length := by simp [RefM.hasB] at hout; omega
    have hne : q.1.out.toNat ≠ q.1.inp.toNat := by
      simp only [mayB, Bool.and_eq_true, decide_eq_true_eq, Bool.not_eq_true', decide_eq_false_iff_not] at hmay
      have := hmay.1.1.2
      omega
    obtain ⟨Bi, ci, hVi, hBi⟩ := ref_part h hin
    obtain ⟨Bo, co, hVo, hBo⟩ := ref_part h hout
    have hPs : D.PA.isSome = true := row_some (cs := D.pv) (w := w) inferInstance (by omega)
    have hpm : ∀ n, R.hasB n = true → (R.part n).length ≤ 4096 ∧ R.part n ∈ R.parts := by
      intro n hn
      have : n.toNat < R.parts.length := by simp [RefM.hasB] at hn; omega
      have e : R.part n = R.parts[n.toNat] := by simp [RefM.part, this]
      exact ⟨by rw [e]; exact hok.long _ (List.getElem_mem _), by rw [e]; exact List.getElem_mem _⟩
    have hli := (hpm _ hin).1
    have hlo := (hpm _ hout).1
    refine x_skip ?_
    refine x_seq ?_
    refine x_seq ?_
    refine x_regionL ?_
    refine xl_v v_move ?_
    refine xl_v v_lss ?_
    refine xl_nil ?_
    first | refine x_condP (fun c2 => ?_) (fun c2 => ?_) | refine x_condN (fun c2 => ?_) (fun c2 => ?_) | refine x_condE (fun c2 => ?_) (fun c2 => ?_)
    ·
      refine x_seq ?_
      refine x_regionL ?_
      refine xl_v (by first | exact v_loadA | exact v_loadF (by decide) (by omega)) ?_
      refine xl_s (e_storeA fun w5 l5 k5 => ?_)
      refine xl_v v_assign ?_
      refine xl_v v_assign ?_
      refine xl_nil ?_
      refine x_ret ?_
      refine finR (rs := [.cell 6 51, .tmp 7, .tmp 8]) rfl ?_
      exact stay _ 2 lkc (by rw [RefM.roundNo, hfind']; simp only []; rw [if_pos c2]) (by decide)
    ·
      refine x_skip ?_
      refine x_seq ?_
      refine x_regionL ?_
      refine xl_v (by first | exact v_fieldAddr | exact v_fieldAddrF (by decide) (by omega) | exact v_fieldAddrR (by first | assumption | rfl)) ?_
      refine xl_v (by first | exact v_load | exact v_loadO (by omega) | exact v_loadFf (by omega) | exact v_loadF0 (by omega)) ?_
      refine xl_v v_move ?_
      refine xl_v (v_indexF k (by decide) hat hk hk) ?_
      refine xl_v (hq ▸ v_loadF (by decide) hk) ?_
      refine xl_e (e_alloc fun br w6 nr lr kr => ?_)
      refine xl_s (e_storeA fun w7 l7 k7 => ?_)
      refine xl_nil ?_
      refine x_seq ?_
      refine x_regionL ?_
      refine xl_v (by first | exact v_fieldAddr | exact v_fieldAddrF (by decide) (by omega) | exact v_fieldAddrR (by first | assumption | rfl)) ?_
      refine xl_v (by first | exact v_load | exact v_loadO (by omega) | exact v_loadFf (by omega) | exact v_loadF0 (by omega)) ?_
      refine xl_v v_move ?_
      refine xl_v (v_indexO k hat hk hk) ?_
      refine xl_v (hq ▸ v_loadO hk) ?_
      refine xl_v v_assign ?_
      refine xl_nil ?_
      refine x_seq ?_
      refine x_regionL ?_
      refine xl_v v_move ?_
      refine xl_v (by first | exact v_fieldAddr | exact v_fieldAddrF (by decide) (by omega) | exact v_fieldAddrR (by first | assumption | rfl)) ?_
      refine xl_v (by first | exact v_load | exact v_loadO (by omega) | exact v_loadFf (by omega) | exact v_loadF0 (by omega)) ?_
      refine xl_v (by first | exact v_fieldAddr | exact v_fieldAddrF (by decide) (by omega) | exact v_fieldAddrR (by first | assumption | rfl)) ?_
      refine xl_v (by first | exact v_load | exact v_loadO (by omega) | exact v_loadFf (by omega) | exact v_loadF0 (by omega)) ?_
      refine xl_v (v_indexAddr q.1.inp.toNat hi0 hi1 hPs) ?_
      refine xl_v (v_loadR (by simpa using hVi)) ?_
      refine xl_v v_len ?_
      refine xl_v v_move ?_
      refine xl_v (v_sub (by omega)) ?_
      refine xl_v v_min ?_
      refine xl_v v_assign ?_
      refine xl_nil ?_
      refine x_seq ?_
      refine x_seq ?_
      refine x_regionL ?_
      refine xl_v v_move ?_
      refine xl_v v_eql ?_
      refine xl_nil ?_
      first | refine x_condP (fun c3 => ?_) (fun c3 => ?_) | refine x_condN (fun c3 => ?_) (fun c3 => ?_) | refine x_condE (fun c3 => ?_) (fun c3 => ?_)
      ·
        have hl0 : (R.left q most).length = 0 := by simp [RefM.left]; omega
        refine x_seq ?_
        refine x_regionL ?_
        refine xl_v (by first | exact v_loadA | exact v_loadF (by decide) (by omega)) ?_
        refine xl_s (e_storeA fun w8 l8 k8 => ?_)
        refine xl_v v_assign ?_
        refine xl_v v_assign ?_
        refine xl_nil ?_
        refine x_ret ?_
        refine finR (rs := [.cell 6 51, .tmp 7, .tmp 8]) rfl ?_
        exact stay _ 5 lkc (by rw [RefM.roundNo, hfind']; simp only []; rw [if_neg c2, if_pos hl0]) (by decide)
      ·
        obtain ⟨nn, hnn⟩ : ∃ nn, nn = (R.left q most).length := ⟨_, rfl⟩
        have hmin : min most (((R.part q.1.inp).length : Int) - (q.2 : Int)) = (nn : Int) := by rw [hnn]; simp [RefM.left]; omega
        have hnle : q.2 + nn ≤ (R.part q.1.inp).length := by omega
        refine x_skip ?_
        refine x_seq ?_
        refine x_seq ?_
        refine x_regionL ?_
        refine xl_v (by first | exact v_fieldAddr | exact v_fieldAddrF (by decide) (by omega) | exact v_fieldAddrR (by first | assumption | rfl)) ?_
        refine xl_v (by first | exact v_load | exact v_loadO (by omega) | exact v_loadFf (by omega) | exact v_loadF0 (by omega)) ?_
        refine xl_v (by first | exact v_fieldAddr | exact v_fieldAddrF (by decide) (by omega) | exact v_fieldAddrR (by first | assumption | rfl)) ?_
        refine xl_v (by first | exact v_load | exact v_loadO (by omega) | exact v_loadFf (by omega) | exact v_loadF0 (by omega)) ?_
        refine xl_v (v_indexAddr q.1.out.toNat ho0 ho1 hPs) ?_
        refine xl_v (v_loadR (by simpa using hVo)) ?_
        refine xl_v v_len ?_
        refine xl_v v_move ?_
        refine xl_v (v_add (by omega)) ?_
        refine xl_v v_gtr ?_
        refine xl_nil ?_
        first | refine x_condP (fun c4 => ?_) (fun c4 => ?_) | refine x_condN (fun c4 => ?_) (fun c4 => ?_) | refine x_condE (fun c4 => ?_) (fun c4 => ?_)
        ·
          refine x_seq ?_
          refine x_regionL ?_
          refine xl_v (by first | exact v_loadA | exact v_loadF (by decide) (by omega)) ?_
          refine xl_s (e_storeA fun w9 l9 k9 => ?_)
          refine xl_v v_assign ?_
          refine xl_v v_assign ?_
          refine xl_nil ?_
          refine x_ret ?_
          refine finR (rs := [.cell 6 51, .tmp 7, .tmp 8]) rfl ?_
          exact stay _ 3 lkc (by rw [RefM.roundNo, hfind']; simp only []; rw [if_neg c2, if_neg (by omega), if_pos (by omega)]) (by decide)
        ·
          refine x_skip ?_
          refine x_seq ?_
          refine x_seq ?_
          refine x_regionL ?_
          refine xl_v v_move ?_
          refine xl_v v_assign ?_
          refine xl_nil ?_
          refine x_block ?_
          have hws : w.heap.size ≤ (w7).heap.size := Ge.le
          have hb1 : w.heap.size ≤ b1 ∧ b1 < (w7).heap.size := ⟨by rw [n1.eq]; exact Nat.le_refl _, Has.lt⟩
          have hb2 : w.heap.size ≤ b2 ∧ b2 < (w7).heap.size := ⟨by rw [n2.eq]; exact Ge.le, Has.lt⟩
          have hno : R.roundNo id most = 0 := by rw [RefM.roundNo, hfind']; simp only []; rw [if_neg c2, if_neg (by omega), if_neg (by omega)]
          refine x_loop (fun m τ ds w' => ds = [] ∧ ∃ (j : Nat) (Fj : Nat → Prop) (Dj : RD), m = nn - j ∧ j ≤ nn ∧ RefAt w' Fj Dj (RefM.go R q id (R.left q most) j) ∧ Sub Fj F w7 ∧ Ev τ 1 (.int .i64 id) ∧ Ev τ 3 (.pointer (some ⟨b1, 0, none⟩)) ∧ Ev τ 6 (.pointer (some ⟨b2, 0, none⟩)) ∧ Ev τ 9 (.int .i64 (k : Int)) ∧ Ev τ 10 (.pointer (some ⟨br, 0, none⟩)) ∧ Ev τ 11 (.int .i64 (q.2 : Int)) ∧ Ev τ 12 (.int .i64 (nn : Int)) ∧ Ev τ 13 (.int .i64 ((q.2 + j : Nat) : Int)) ∧ Blk w' b1 (.cells (refC Dj (RefM.go R q id (R.left q most) j)).toArray 51 (0, 0)) ∧ Lk w' w7 (OneB b1)) (nn) ?start ?round
          case start =>
            exact ⟨rfl, 0, F, D, rfl, Nat.zero_le _, by rw [go_zero]; exact h.ext lkc, Sub.refl _ _, inferInstance, inferInstance, inferInstance, evc (by rw [hat]), inferInstance, inferInstance, evc (by rw [hmin]), evc, by rw [go_zero]; exact inferInstance, lkc⟩
          case round =>
            intro m τ10 ds10 w10 hI
            obtain ⟨rfl, j, Fj, Dj, rfl, hj, hRj, hsj, e1, e3, e6, e9, e10, e11, e12, e13, kb, lk⟩ := hI
            haveI : Row w10 Dj.PA _ := ⟨hRj.p.row⟩
            haveI : Row w10 Dj.QA (R.rows.map posC) := ⟨hRj.q.row⟩
            have hjn := hRj.pn
            have hgrl : (RefM.go R q id (R.left q most) j).rows.length = R.rows.length := rfl
            have hgl : (RefM.go R q id (R.left q most) j).parts.length = R.parts.length := by simp [RefM.go]
            have hnb1 : ¬ Fj b1 := sub_ne hsj h.lt hb1.1 hb1.2
            have hnb2 : ¬ Fj b2 := sub_ne hsj h.lt hb2.1 hb2.2
            refine x_seq ?_
            refine x_seq ?_
            refine x_regionL ?_
            refine xl_v v_move ?_
            refine xl_v v_move ?_
            refine xl_v v_move ?_
            refine xl_v (v_add (by omega)) ?_
            refine xl_v v_lss ?_
            refine xl_nil ?_
            first | refine x_condP (fun c5 => ?_) (fun c5 => ?_) | refine x_condN (fun c5 => ?_) (fun c5 => ?_) | refine x_condE (fun c5 => ?_) (fun c5 => ?_)
            ·
              have hj1 : j < (R.left q most).length := by omega
              have hj2 : q.2 + j < (R.part q.1.inp).length := by omega
              have hgo : (RefM.go R q id (R.left q most) j).part q.1.inp = R.part q.1.inp := by rw [go_part, if_neg (fun e => hne e.1)]
              have hgi : (RefM.go R q id (R.left q most) j).hasB q.1.inp = true := by rw [go_has]; exact hin
              have hgoo : (RefM.go R q id (R.left q most) j).hasB q.1.out = true := by rw [go_has]; exact hout
              obtain ⟨Bj, cj, hVj, hBj⟩ := ref_part hRj hgi
              rw [hgo] at hVj hBj
              haveI : Row w10 Bj _ := ⟨hBj.row⟩
              have hPj : Dj.PA.isSome = true := row_some (cs := Dj.pv) (w := w10) inferInstance (by omega)
              have hval : (R.left q most)[j] = (R.part q.1.inp)[q.2 + j] := by simp [RefM.left]
              have hvb : valB (R.part q.1.inp)[q.2 + j].val = true := hok.vals _ (hpm _ hin).2 _ (List.getElem_mem _)
              have hglo : ((RefM.go R q id (R.left q most) j).part q.1.out).length ≤ 5000 := by
                rw [go_part, if_pos ⟨rfl, ho1⟩, List.length_append, madeBy_len, List.length_take]; omega
              refine x_skip ?_
              refine x_seq ?_
              refine x_block ?_
              refine x_drawL (NoB) (allS) (.take 0 (.take 1 (.take 2 (.take 3 (.take 4 (.take 5 (.take 6 (.take 7 (.take 8 (.take 9 (.take 10 (.take 11 (.take 12 (.take 13 (.take 15 (.take 16 (.eff 14 (.take 17 (.eff 18 (.last 19)))))))))))))))))))) mixed (by kernel_rfl) (fun _ _ _ _ _ h => h) (fun w11 l11 => ?_)
              refine xt_v rfl (by first | exact v_loadA | exact v_loadF (by decide) (by omega)) ?_
              refine xt_v rfl (by first | exact v_fieldAddr | exact v_fieldAddrF (by decide) (by omega) | exact v_fieldAddrR (by first | assumption | rfl)) ?_
              refine xt_v rfl (by first | exact v_load | exact v_loadO (by omega) | exact v_loadFf (by omega) | exact v_loadF0 (by omega)) ?_
              refine xt_v rfl (by first | exact v_loadA | exact v_loadF (by decide) (by omega)) ?_
              refine xt_v rfl (by first | exact v_fieldAddr | exact v_fieldAddrF (by decide) (by omega) | exact v_fieldAddrR (by first | assumption | rfl)) ?_
              refine xt_v rfl (by first | exact v_load | exact v_loadO (by omega) | exact v_loadFf (by omega) | exact v_loadF0 (by omega)) ?_
              refine xt_v rfl (by first | exact v_fieldAddr | exact v_fieldAddrF (by decide) (by omega) | exact v_fieldAddrR (by first | assumption | rfl)) ?_
              refine xt_v rfl (by first | exact v_load | exact v_loadO (by omega) | exact v_loadFf (by omega) | exact v_loadF0 (by omega)) ?_
              refine xt_v rfl (v_indexAddr q.1.inp.toNat hi0 (by omega) hPj) ?_
              refine xt_v rfl (v_loadR (by simpa using hVj)) ?_
              refine xt_v rfl v_move ?_
              refine xt_v rfl (v_indexF (q.2 + j) (by decide) rfl hj2 hj2) ?_
              refine xt_v rfl (by first | exact v_fieldAddr | exact v_fieldAddrF (by decide) (by omega) | exact v_fieldAddrR (by first | assumption | rfl)) ?_
              refine xt_v rfl (by first | exact v_load | exact v_loadO (by omega) | exact v_loadFf (by omega) | exact v_loadF0 (by omega)) ?_
              refine xt_v rfl v_move ?_
              refine xt_v rfl v_move ?_
              refine xt_call rfl (make14_ok q.1 _ hmay hvb _) ?_
              rintro _ w12 ⟨rfl, lkm⟩
              refine ⟨kpc, ?_⟩
              refine xt_v rfl v_build ?_
              refine xt_call rfl (with_ok Fj Dj _ q.1.out ⟨make q.1 (R.part q.1.inp)[q.2 + j].val, id, ((q.2 + j : Nat) : Int)⟩ w12 (hRj.ext lkc) hgoo (by omega) hglo) ?_
              rintro _ w13 ⟨F18, D18, rfl, h18, s18, lk18⟩
              refine ⟨kpc, ?_⟩
              have hs18 : Sub F18 F _ := s18.trans hsj (Ge.le)
              have e18 : (⟨make q.1 (R.part q.1.inp)[q.2 + j].val, id, ((q.2 + j : Nat) : Int)⟩ : Itm) = ⟨make q.1 (R.left q most)[j].val, id, (q.2 : Int) + (j : Int)⟩ := by rw [hval]; simp
              rw [e18, go_succ _ _ _ _ _ hj1 hout] at h18
              rw [e18, go_succ _ _ _ _ _ hj1 hout]
              refine xt_lastS rfl (e_storeA fun w14 l19 k19 => ?_)
              refine x_regionL ?_
              refine xl_v v_move ?_
              refine xl_v (v_add (by omega)) ?_
              refine xl_v v_assign ?_
              refine xl_nil ?_
              refine ⟨_, by omega, rfl, j + 1, F18, D18, rfl, by omega, ?_, hs18, inferInstance, inferInstance, inferInstance, inferInstance, inferInstance, inferInstance, inferInstance, evc (by congr 1), ?_, lkc⟩
              · exact h18.keep l19.keep (fun k hk e => sub_ne hs18 h.lt hb1.1 hb1.2 (by have e' : k = b1 := e; exact e' ▸ hk))
              · exact k19
            ·
              have hjn2 : j = nn := by omega
              refine x_exit ?_
              refine x_seq ?_
              refine x_regionL ?_
              refine xl_e (e_buildSlice0 fun b15 w15 n15 l15 k15 => ?_)
              refine xl_v (by first | exact v_fieldAddr | exact v_fieldAddrF (by decide) (by omega) | exact v_fieldAddrR (by first | assumption | rfl)) ?_
              refine xl_v (by first | exact v_load | exact v_loadO (by omega) | exact v_loadFf (by omega) | exact v_loadF0 (by omega)) ?_
              refine xl_e (e_appE (by omega) (by decide) (by omega) (by omega) fun A17 c17 w16 o17 l17 a17 f17 => ?_)
              refine xl_v v_assign ?_
              refine xl_nil ?_
              refine x_seq ?_
              refine x_regionL ?_
              refine xl_v v_move ?_
              refine xl_v v_move ?_
              refine xl_v v_move ?_
              refine xl_v v_move ?_
              refine xl_v (v_add (by omega)) ?_
              refine xl_v (v_indexO k rfl (by omega) hk) ?_
              refine xl_s (e_storeOwn (OwnI.own : World.ownsRow w16 _ _ _ (.slice A17 _ c17) _ _) (by omega) (by decide) fun w17 l12 ho12 => ?_)
              refine xl_nil ?_
              have hpz : (R.rows.map posC).set k (posC (q.1, q.2 + nn)) = (R.rows.set k (q.1, q.2 + nn)).map posC := by rw [List.map_set]
              rw [setL_one _ _ _ (by simp; omega), show Value.int .i64 ((q.2 : Int) + (nn : Int)) = posC (q.1, q.2 + nn) by simp, hpz] at ho12
              haveI : OwnI w17 _ _ _ _ _ _ _ _ := ⟨ho12⟩
              refine x_seq ?_
              refine x_regionL ?_
              refine xl_v v_move ?_
              refine xl_v (by first | exact v_fieldAddr | exact v_fieldAddrF (by decide) (by omega) | exact v_fieldAddrR (by first | assumption | rfl)) ?_
              refine xl_s (e_store fun w18 l18 k18 => ?_)
              refine xl_nil ?_
              refine x_seq ?_
              refine x_regionL ?_
              refine xl_v (by first | exact v_loadA | exact v_loadF (by decide) (by omega)) ?_
              refine xl_v v_move ?_
              refine xl_s (e_storeA fun w19 l19 k19 => ?_)
              refine xl_v v_assign ?_
              refine xl_v v_assign ?_
              refine xl_nil ?_
              refine x_ret ?_
              refine finR (rs := [.cell 6 51, .tmp 7, .tmp 8]) rfl ?_
              have oE := (OwnI.own : World.ownsRow w19 _ _ _ (.slice A17 _ c17) _ _)
              haveI s1 : SubF (OneB b1) (fun i => OneB b1 i ∨ OneB b2 i) w10 := ⟨fun _ _ h => .inl h⟩
              haveI s2 : SubF (OneB b2) (fun i => OneB b1 i ∨ OneB b2 i) w10 := ⟨fun _ _ h => .inr h⟩
              have hkE : Keep (fun i => OneB b1 i ∨ OneB b2 i) w10 w19 := kpc
              have hE := hRj.keep hkE (fun i hi e => e.elim (fun e => hnb1 (by have e' : i = b1 := e; exact e' ▸ hi)) (fun e => hnb2 (by have e' : i = b2 := e; exact e' ▸ hi)))
              obtain ⟨F', h1, h2⟩ := ref_fin2 (w := w) (rows := R.rows.set k (q.1, q.2 + nn)) hE oE (by rw [hq]; exact rowC_set _ _ hk _) (Nat.le_trans hws (Nat.le_trans lk.keep.size Ge.le))
              have eR : R.roundR id most = { RefM.go R q id (R.left q most) j with rows := R.rows.set k (q.1, q.2 + nn) } := by
                rw [RefM.roundR, hfind']
                simp only []
                rw [if_pos hno, hat, Int.toNat_natCast, hjn2, hnn, RefM.go, List.take_of_length_le (Nat.le_refl _)]
              have eN : R.roundN id most = nn := by
                rw [RefM.roundN, hfind']
                simp only []
                rw [if_pos hno, hnn]
              refine ⟨⟨F', _, ?_, by rw [eR]; exact h1, ?_⟩, lkc⟩
              · rw [eR, eN, hno]
                simp [refV, refC, outV, RefM.go]
              · intro i hi
                rcases h2 i hi with e | e
                · rcases hsj i e with e | e
                  · exact .inl e
                  · exact .inr (Nat.le_trans hws e)
                · exact .inr e
end Go.Proofs.Ytbihphclmdokeaa
