/-
  Walks, printed by a program of this workplace (wip/tools/sx.py) off the functions' code and a text of contracts.
-/
import Derived.Test.YtbihphclmdokeaaAF
set_option linter.all false
set_option maxRecDepth 100000
set_option synthInstance.maxSize 100000
set_option synthInstance.maxHeartbeats 400000
namespace Go.Proofs.Ytbihphclmdokeaa
open Go.Wst
open Go.Wst.Sm
theorem filter_at {α : Type} {p : α → Bool} : ∀ (xs : List α) (k : Nat) (h : k < xs.length), p xs[k] = true → (xs.filter p)[((xs.take k).filter p).length]? = some xs[k]
  | [], _, h, _ => by simp at h
  | x :: xs, 0, h, hp => by
    have hp' : p x = true := by simpa using hp
    simp [hp']
  | x :: xs, k + 1, h, hp => by
    have ih := filter_at xs k (by simpa using h) (by simpa using hp)
    by_cases hx : p x = true
    · simp [hx, ih]
    · simp [hx, ih]
theorem filter_take_lt {α : Type} {p : α → Bool} (xs : List α) (k : Nat) (h : k < xs.length) (hp : p xs[k] = true) : ((xs.take k).filter p).length < (xs.filter p).length := by
  have := filter_at xs k h hp
  exact (List.getElem?_eq_some_iff.1 this).1
theorem madeBy_get (r : Rule) (id : Int) (l : List Itm) (j : Nat) (h : j < l.length) : (madeBy (r, 0) id l)[j]? = some ⟨make r l[j].val, id, (j : Int)⟩ := by
  simp [madeBy, List.getElem?_mapIdx, h]
theorem parts_of (M : Mach) (n : Int) (h : M.hasB n = true) : M.part n ∈ M.parts := Mach.part_mem h
/-- waystation/waystationlaw14.StreamOnce -/
theorem StreamOnce_ok (parts : Int) (A : Option Addr) (n c : Nat) (xs : List ActD) (w : World) [hrow : Row w A (xs.flatMap actC)] (hl : xs.length = n) (hA : A.isSome = true ∨ n = 0) (hn : n ≤ 9223372036854775807) : Ret Try.prog 10 #[.int .i64 parts, .slice A n c] w (fun v w' => v = .bool true ∧ Lk w' w NoB) := by
  refine ret_of_x (N := 209) (l := [.int .i64 parts, .slice A n c]) Try.func10 rfl rfl (Nat.le_of_ble_eq_true rfl) ?_
  refine x_seq ?_
  refine x_regionL ?_
  refine xl_v v_assign ?_
  refine xl_nil ?_
  refine x_seq ?_
  refine x_seq ?_
  refine x_regionL ?_
  refine xl_v v_move ?_
  refine xl_v v_move ?_
  refine xl_call (few_ok parts A n c w) ?_
  rintro _ w1 ⟨rfl, lkf⟩
  refine xl_v v_not ?_
  refine xl_nil ?_
  refine x_condE (fun c1 => ?_) (fun c1 => ?_)
  ·
    refine x_seq ?_
    refine x_regionL ?_
    refine xl_call (works_ok _) ?_
    rintro _ w2 ⟨rfl, lk⟩
    refine xl_v v_assign ?_
    refine xl_nil ?_
    refine x_ret ?_
    refine fin1 rfl ?_
    exact ⟨rfl, lkc⟩
  ·
    have hfew : 1 ≤ parts ∧ parts ≤ 4 ∧ n ≤ 40 := by simp at c1; omega
    refine x_skip ?_
    refine x_seq ?_
    refine x_regionL ?_
    refine xl_v v_move ?_
    refine xl_call (new_ok parts w1) ?_
    rintro _ w3 ⟨hnew, lk1⟩
    rw [if_pos ⟨hfew.1, hfew.2.1⟩] at hnew
    obtain ⟨b, pb, mb, u1, rfl, hM1, hs1⟩ := hnew
    have hs1 := fun k hk => Nat.le_trans (Ge.le : w.heap.size ≤ (w1).heap.size) (hs1 k hk)
    refine xl_v v_move ?_
    refine xl_v v_extract ?_
    refine xl_v v_extract ?_
    refine xl_v v_assign ?_
    refine xl_v v_assign ?_
    refine xl_nil ?_
    refine x_seq ?_
    refine x_seq ?_
    refine x_regionL ?_
    refine xl_v v_assign ?_
    refine xl_nil ?_
    refine x_block ?_
    refine x_loop (fun m τ ds w' => ds = [] ∧ ∃ (k : Nat) (vs : List Value) (M : Mach), m = n - k ∧ k ≤ n ∧ M.ok ∧ M.ok2 ∧ MachAt w' b pb mb vs M ∧ (∀ i, MachF b pb mb vs i → w.heap.size ≤ i) ∧ Ev τ 1 (.slice A n c) ∧ Ev τ 5 (.pointer (some ⟨b, 0, none⟩)) ∧ Ev τ 6 (.int .i64 0) ∧ Ev τ 7 (.int .i64 (k : Int)) ∧ Lk w' w NoB) (n) ?start ?round
    case start =>
      exact ⟨rfl, 0, u1, _, rfl, Nat.zero_le _, Mach.ok.new (by omega) (by omega), ok2_new _, hM1.keep (kpc : Keep NoB _ w3) (fun _ _ h => h), hs1, inferInstance, inferInstance, inferInstance, evc, lkc⟩
    case round =>
      intro m τ4 ds4 w4 hI
      obtain ⟨rfl, k, vs, M, rfl, hk, ho, ho2, hM, hs, e1, e5, e6, e7, lk⟩ := hI
      haveI := subF_since (S := NoB) hs
      refine x_seq ?_
      refine x_seq ?_
      refine x_regionL ?_
      refine xl_v v_move ?_
      refine xl_v v_move ?_
      refine xl_v v_len ?_
      refine xl_v v_lss ?_
      refine xl_nil ?_
      first | refine x_condP (fun c2 => ?_) (fun c2 => ?_) | refine x_condN (fun c2 => ?_) (fun c2 => ?_) | refine x_condE (fun c2 => ?_) (fun c2 => ?_)
      ·
        have hk1 : k < xs.length := by omega
        refine x_skip ?_
        refine x_seq ?_
        refine x_block ?_
        refine x_seq ?_
        refine x_regionL ?_
        refine xl_v v_move ?_
        refine xl_v v_move ?_
        refine xl_v (by first | exact v_indexAddr _ rfl (by omega) (by assumption) | exact v_indexO _ rfl (by omega) (by omega) | exact v_indexF _ (by decide) rfl (by omega) (by omega)) ?_
        refine xl_v (by first | exact v_loadA | exact v_loadF (by decide) (by omega)) ?_
        refine xl_e (e_alloc fun bx w5 nx lx kx => ?_)
        refine xl_s (e_storeA fun w6 l6 k6 => ?_)
        refine xl_nil ?_
        refine x_seq ?_
        refine x_regionL ?_
        refine xl_v (by first | exact v_fieldAddr | exact v_fieldAddrF (by decide) (by omega) | exact v_fieldAddrR (by first | assumption | rfl)) ?_
        refine xl_v (by first | exact v_load | exact v_loadO (by omega) | exact v_loadFf (by omega) | exact v_loadF0 (by omega)) ?_
        refine xl_nil ?_
        refine x_block ?_
        refine x_seq ?_
        refine x_regionL ?_
        refine xl_v v_eql ?_
        refine xl_v v_assign ?_
        refine xl_nil ?_
        first | refine x_condP (fun c3 => ?_) (fun c3 => ?_) | refine x_condN (fun c3 => ?_) (fun c3 => ?_) | refine x_condE (fun c3 => ?_) (fun c3 => ?_)
        ·
          refine x_regionL ?_
          refine xl_v v_move ?_
          refine xl_v (by first | exact v_fieldAddr | exact v_fieldAddrF (by decide) (by omega) | exact v_fieldAddrR (by first | assumption | rfl)) ?_
          refine xl_v (by first | exact v_loadA | exact v_loadF (by decide) (by omega)) ?_
          refine xl_call (rule_ok b pb mb vs M xs[k].rule w6 (hM.keep (kpc : Keep NoB _ w6) (fun _ _ h => h))) ?_
          rintro _ w7 ⟨rfl, hM2, lka⟩
          have hs2 := Sub.refl (MachF b pb mb vs) w6
          have hk2 := ho.rule xs[k].rule
          have hk3 := ok2_rule ho ho2 xs[k].rule
          refine xl_nil ?_
          refine x_regionL ?_
          refine xl_v v_move ?_
          refine xl_v (v_add (by omega)) ?_
          refine xl_v v_assign ?_
          refine xl_nil ?_
          exact ⟨_, by omega, rfl, k + 1, _, _, rfl, by omega, hk2, hk3, hM2.keep (kpc : Keep NoB _ w7) (fun _ _ h => h), sub_new hs2 hs (Nat.le_trans lk.keep.size Ge.le), inferInstance, inferInstance, inferInstance, evc, lkc⟩
        ·
          refine x_seq ?_
          refine x_regionL ?_
          refine xl_v v_eql ?_
          refine xl_v v_assign ?_
          refine xl_nil ?_
          first | refine x_condP (fun c4 => ?_) (fun c4 => ?_) | refine x_condN (fun c4 => ?_) (fun c4 => ?_) | refine x_condE (fun c4 => ?_) (fun c4 => ?_)
          ·
            refine x_regionL ?_
            refine xl_v v_move ?_
            refine xl_v (by first | exact v_fieldAddr | exact v_fieldAddrF (by decide) (by omega) | exact v_fieldAddrR (by first | assumption | rfl)) ?_
            refine xl_v (by first | exact v_load | exact v_loadO (by omega) | exact v_loadFf (by omega) | exact v_loadF0 (by omega)) ?_
            refine xl_v (by first | exact v_fieldAddr | exact v_fieldAddrF (by decide) (by omega) | exact v_fieldAddrR (by first | assumption | rfl)) ?_
            refine xl_v (by first | exact v_load | exact v_loadO (by omega) | exact v_loadFf (by omega) | exact v_loadF0 (by omega)) ?_
            refine xl_call (put_ok b pb mb vs M xs[k].part xs[k].val w6 (hM.keep (kpc : Keep NoB _ w6) (fun _ _ h => h)) ho) ?_
            rintro _ w8 ⟨rfl, lka, vs2, hM2, hs2⟩
            have hk2 := ho.put xs[k].part xs[k].val
            have hk3 := ok2_put ho ho2 xs[k].part xs[k].val
            refine xl_nil ?_
            refine x_regionL ?_
            refine xl_v v_move ?_
            refine xl_v (v_add (by omega)) ?_
            refine xl_v v_assign ?_
            refine xl_nil ?_
            exact ⟨_, by omega, rfl, k + 1, _, _, rfl, by omega, hk2, hk3, hM2.keep (kpc : Keep NoB _ w8) (fun _ _ h => h), sub_new hs2 hs (Nat.le_trans lk.keep.size Ge.le), inferInstance, inferInstance, inferInstance, evc, lkc⟩
          ·
            refine x_seq ?_
            refine x_regionL ?_
            refine xl_v v_eql ?_
            refine xl_v v_assign ?_
            refine xl_nil ?_
            first | refine x_condP (fun c5 => ?_) (fun c5 => ?_) | refine x_condN (fun c5 => ?_) (fun c5 => ?_) | refine x_condE (fun c5 => ?_) (fun c5 => ?_)
            ·
              refine x_regionL ?_
              refine xl_v v_move ?_
              refine xl_v (by first | exact v_fieldAddr | exact v_fieldAddrF (by decide) (by omega) | exact v_fieldAddrR (by first | assumption | rfl)) ?_
              refine xl_v (by first | exact v_load | exact v_loadO (by omega) | exact v_loadFf (by omega) | exact v_loadF0 (by omega)) ?_
              refine xl_v (by first | exact v_fieldAddr | exact v_fieldAddrF (by decide) (by omega) | exact v_fieldAddrR (by first | assumption | rfl)) ?_
              refine xl_v (by first | exact v_load | exact v_loadO (by omega) | exact v_loadFf (by omega) | exact v_loadF0 (by omega)) ?_
              refine xl_call (round_ok b pb mb vs M xs[k].id xs[k].n w6 (hM.keep (kpc : Keep NoB _ w6) (fun _ _ h => h)) ho) ?_
              rintro _ w9 ⟨rfl, lka, vs2, hM2, hs2⟩
              have hk2 := ho.round xs[k].id xs[k].n
              have hk3 := ok2_round ho ho2 xs[k].id xs[k].n
              refine xl_nil ?_
              refine x_regionL ?_
              refine xl_v v_move ?_
              refine xl_v (v_add (by omega)) ?_
              refine xl_v v_assign ?_
              refine xl_nil ?_
              exact ⟨_, by omega, rfl, k + 1, _, _, rfl, by omega, hk2, hk3, hM2.keep (kpc : Keep NoB _ w9) (fun _ _ h => h), sub_new hs2 hs (Nat.le_trans lk.keep.size Ge.le), inferInstance, inferInstance, inferInstance, evc, lkc⟩
            ·
              refine x_regionL ?_
              refine xl_v v_move ?_
              refine xl_v (by first | exact v_fieldAddr | exact v_fieldAddrF (by decide) (by omega) | exact v_fieldAddrR (by first | assumption | rfl)) ?_
              refine xl_v (by first | exact v_load | exact v_loadO (by omega) | exact v_loadFf (by omega) | exact v_loadF0 (by omega)) ?_
              refine xl_v v_min ?_
              refine xl_call (drain_ok b pb mb vs M (min xs[k].n 3) w6 (hM.keep (kpc : Keep NoB _ w6) (fun _ _ h => h)) ho (by omega)) ?_
              rintro _ w10 ⟨rfl, lka, vs2, hM2, hs2⟩
              have hk2 := (ok2_drain (min xs[k].n 3).toNat ho ho2).1
              have hk3 := (ok2_drain (min xs[k].n 3).toNat ho ho2).2
              refine xl_nil ?_
              refine x_regionL ?_
              refine xl_v v_move ?_
              refine xl_v (v_add (by omega)) ?_
              refine xl_v v_assign ?_
              refine xl_nil ?_
              exact ⟨_, by omega, rfl, k + 1, _, _, rfl, by omega, hk2, hk3, hM2.keep (kpc : Keep NoB _ w10) (fun _ _ h => h), sub_new hs2 hs (Nat.le_trans lk.keep.size Ge.le), inferInstance, inferInstance, inferInstance, evc, lkc⟩
      ·
        have hil := ho.ids_len
        have hrl := refOf_len M
        refine x_exit ?_
        refine x_seq ?_
        refine x_regionL ?_
        refine xl_v v_move ?_
        refine xl_call (rules_ok b pb mb vs M w4 hM ho) ?_
        rintro _ w11 ⟨A7, c7, rfl, ho7, lk7⟩
        have hrc : (M.ids.map M.ruleOf).flatMap ruleC = (refOf M).rows.flatMap rowC := by rw [ruleOf_rows ho, List.flatMap_map]
        rw [hrc] at ho7
        haveI : OwnI w11 _ _ _ _ _ _ _ _ := ⟨ho7⟩
        refine xl_v v_assign ?_
        refine xl_nil ?_
        refine x_seq ?_
        refine x_seq ?_
        refine x_regionL ?_
        refine xl_v v_assign ?_
        refine xl_nil ?_
        refine x_block ?_
        haveI hnw : NewA A7 w := newA_of (OwnI.own : World.ownsRow w11 _ _ _ (.slice A7 _ c7) _ _) lk.keep.size
        refine x_loop (fun m τ ds w' => ds = [] ∧ ∃ i : Nat, m = M.ids.length - i ∧ i ≤ M.ids.length ∧ Ev τ 5 (.pointer (some ⟨b, 0, none⟩)) ∧ Ev τ 6 (.int .i64 0) ∧ Ev τ 9 (.slice A7 M.ids.length c7) ∧ Ev τ 10 (.int .i64 (i : Int)) ∧ Lk w' w11 NoB) (M.ids.length) ?start ?round
        case start =>
          exact ⟨rfl, 0, rfl, Nat.zero_le _, inferInstance, inferInstance, inferInstance, evc, lkc⟩
        case round =>
          intro m τ12 ds12 w12 hI
          obtain ⟨rfl, i, rfl, hi, f5, f6, f9, f10, lk2⟩ := hI
          refine x_seq ?_
          refine x_seq ?_
          refine x_regionL ?_
          refine xl_v v_move ?_
          refine xl_v v_move ?_
          refine xl_v v_len ?_
          refine xl_v v_lss ?_
          refine xl_nil ?_
          first | refine x_condP (fun c6 => ?_) (fun c6 => ?_) | refine x_condN (fun c6 => ?_) (fun c6 => ?_) | refine x_condE (fun c6 => ?_) (fun c6 => ?_)
          ·
            have hi1 : i < M.ids.length := by omega
            have hi2 : i < (refOf M).rows.length := by omega
            obtain ⟨q, hq⟩ : ∃ q, q = (refOf M).rows[i] := ⟨_, rfl⟩
            have hak : akey M.rules q.1.id = some q := by rw [hq]; exact row_akey ho i hi2
            obtain ⟨q1, q2, q3, q4, q5⟩ := ho.rules _ (akey_mem hak)
            simp only at q1 q2 q3 q4 q5
            have hon := ho2.once _ (akey_mem hak)
            simp only at hon
            have hli := ho.part_long q.1.inp
            have hlo := ho.part_long q.1.out
            have hvals := ho.vals _ (Mach.part_mem q3)
            refine x_skip ?_
            refine x_seq ?_
            refine x_block ?_
            refine x_seq ?_
            refine x_regionL ?_
            refine xl_v v_move ?_
            refine xl_v v_move ?_
            refine xl_v v_move ?_
            refine xl_v (by first | exact v_indexAddr _ rfl (by omega) (by assumption) | exact v_indexO _ rfl (by omega) (by omega) | exact v_indexF _ (by decide) rfl (by omega) (by omega)) ?_
            refine xl_v (by first | exact v_fieldAddr | exact v_fieldAddrF (by decide) (by omega) | exact v_fieldAddrR (by first | assumption | rfl)) ?_
            refine xl_v (v_congr (u := .int .i64 q.1.inp) (v_loadFf (by omega)) (by rw [hq])) ?_
            refine xl_call (items_ok b pb mb vs M q.1.inp w12 (hM.keep (kpc : Keep NoB _ w12) (fun _ _ h => h)) ho) ?_
            rintro _ w13 ⟨hv, lki⟩
            rw [if_pos q3] at hv
            obtain ⟨Ai, ci, rfl, hoi⟩ := hv
            haveI : OwnI w13 _ _ _ _ _ _ _ _ := ⟨hoi⟩
            refine xl_v v_move ?_
            refine xl_v v_extract ?_
            refine xl_v v_extract ?_
            refine xl_v v_assign ?_
            refine xl_v v_assign ?_
            refine xl_nil ?_
            refine x_seq ?_
            refine x_regionL ?_
            refine xl_v v_move ?_
            refine xl_v v_move ?_
            refine xl_v v_move ?_
            refine xl_v (by first | exact v_indexAddr _ rfl (by omega) (by assumption) | exact v_indexO _ rfl (by omega) (by omega) | exact v_indexF _ (by decide) rfl (by omega) (by omega)) ?_
            refine xl_v (by first | exact v_fieldAddr | exact v_fieldAddrF (by decide) (by omega) | exact v_fieldAddrR (by first | assumption | rfl)) ?_
            refine xl_v (v_congr (u := .int .i64 q.1.out) (v_loadFf (by omega)) (by rw [hq])) ?_
            refine xl_call (items_ok b pb mb vs M q.1.out w13 (hM.keep (kpc : Keep NoB _ w13) (fun _ _ h => h)) ho) ?_
            rintro _ w14 ⟨hv, lko⟩
            rw [if_pos q4] at hv
            obtain ⟨Ao, co, rfl, hoo⟩ := hv
            haveI : OwnI w14 _ _ _ _ _ _ _ _ := ⟨hoo⟩
            refine xl_v v_move ?_
            refine xl_v v_extract ?_
            refine xl_v v_extract ?_
            refine xl_v v_assign ?_
            refine xl_v v_assign ?_
            refine xl_nil ?_
            refine x_seq ?_
            refine x_regionL ?_
            refine xl_v v_move ?_
            refine xl_v v_move ?_
            refine xl_v v_move ?_
            refine xl_v (by first | exact v_indexAddr _ rfl (by omega) (by assumption) | exact v_indexO _ rfl (by omega) (by omega) | exact v_indexF _ (by decide) rfl (by omega) (by omega)) ?_
            refine xl_v (by first | exact v_fieldAddr | exact v_fieldAddrF (by decide) (by omega) | exact v_fieldAddrR (by first | assumption | rfl)) ?_
            refine xl_v (v_congr (u := .int .i64 q.1.id) (v_loadF0 (by omega)) (by rw [hq])) ?_
            refine xl_call (pos_ok b pb mb vs M q.1.id w14 (hM.keep (kpc : Keep NoB _ w14) (fun _ _ h => h))) ?_
            rintro _ w15 ⟨hv, lkp⟩
            rw [hak] at hv
            obtain rfl : _ = Value.tuple #[.int .i64 (q.2 : Int), .int .i64 0] := hv
            refine xl_v v_move ?_
            refine xl_v v_extract ?_
            refine xl_v v_extract ?_
            refine xl_v v_assign ?_
            refine xl_v v_assign ?_
            refine xl_nil ?_
            refine x_seq ?_
            refine x_seq ?_
            refine x_regionL ?_
            refine xl_v v_move ?_
            refine xl_call (num_ok _ _) ?_
            rintro _ _ ⟨rfl, rfl⟩
            refine xl_v v_move ?_
            refine xl_call (num_ok _ _) ?_
            rintro _ _ ⟨rfl, rfl⟩
            refine xl_v (v_add (by omega)) ?_
            refine xl_v v_move ?_
            refine xl_call (num_ok _ _) ?_
            rintro _ _ ⟨rfl, rfl⟩
            refine xl_v (v_add (by omega)) ?_
            refine xl_v (v_neqF rfl) ?_
            refine xl_v v_move ?_
            refine xl_gv rfl EvO.eq v_move ?_
            refine xl_gv rfl EvO.eq (v_congr (u := .bool false) v_lss (by simp)) ?_
            refine xl_v (by first | exact v_pickT | exact v_pickF | exact v_pick) ?_
            refine xl_v v_move ?_
            refine xl_gv rfl EvO.eq v_move ?_
            refine xl_gv rfl EvO.eq v_move ?_
            refine xl_gv rfl EvO.eq v_len ?_
            refine xl_gv rfl EvO.eq (v_congr (u := .bool false) v_gtr (by rw [decide_eq_false (by omega)])) ?_
            refine xl_v (by first | exact v_pickT | exact v_pickF | exact v_pick) ?_
            refine xl_nil ?_
            refine x_condF ?_
            refine x_skip ?_
            refine x_seq ?_
            refine x_regionL ?_
            refine xl_v v_assign ?_
            refine xl_nil ?_
            refine x_seq ?_
            refine x_seq ?_
            refine x_regionL ?_
            refine xl_v v_assign ?_
            refine xl_nil ?_
            refine x_block ?_
            refine x_loop (fun m τ ds w' => ds = [] ∧ ∃ (j : Nat) (Av : Option Addr) (cv : Nat), m = q.2 - j ∧ j ≤ q.2 ∧ OwnI w' Av j cv (w15).heap.size 2 1 j (ints (((M.part q.1.inp).take j).map (fun x => x.val))) ∧ NewA Av w15 ∧ Ev τ 5 (.pointer (some ⟨b, 0, none⟩)) ∧ Ev τ 6 (.int .i64 0) ∧ Ev τ 9 (.slice A7 M.ids.length c7) ∧ Ev τ 10 (.int .i64 (i : Int)) ∧ Ev τ 11 (.slice Ai (M.part q.1.inp).length ci) ∧ Ev τ 13 (.slice Ao (M.part q.1.out).length co) ∧ Ev τ 15 (.int .i64 (q.2 : Int)) ∧ Ev τ 17 (.slice Av j cv) ∧ Ev τ 18 (.int .i64 (j : Int)) ∧ Lk w' w15 NoB) (q.2) ?start ?round
            case start =>
              exact ⟨rfl, 0, none, 0, rfl, Nat.zero_le _, ⟨World.ownsRow_nil _ _ _ _⟩, ⟨fun a h => by cases h⟩, inferInstance, inferInstance, inferInstance, inferInstance, inferInstance, inferInstance, inferInstance, inferInstance, evc, lkc⟩
            case round =>
              intro m τ19 ds19 w19 hI
              obtain ⟨rfl, j, Av, cv, rfl, hj, oV, aV, g5, g6, g9, g10, g11, g13, g15, g17, g18, lk3⟩ := hI
              refine x_seq ?_
              refine x_seq ?_
              refine x_regionL ?_
              refine xl_v v_move ?_
              refine xl_v v_move ?_
              refine xl_v v_lss ?_
              refine xl_nil ?_
              first | refine x_condP (fun c8 => ?_) (fun c8 => ?_) | refine x_condN (fun c8 => ?_) (fun c8 => ?_) | refine x_condE (fun c8 => ?_) (fun c8 => ?_)
              ·
                have hj1 : j < (M.part q.1.inp).length := by omega
                refine x_skip ?_
                refine x_seq ?_
                refine x_block ?_
                refine x_regionL ?_
                refine xl_v v_move ?_
                refine xl_v v_move ?_
                refine xl_v v_move ?_
                refine xl_v (by first | exact v_indexAddr _ rfl (by omega) (by assumption) | exact v_indexO _ rfl (by omega) (by omega) | exact v_indexF _ (by decide) rfl (by omega) (by omega)) ?_
                refine xl_v (by first | exact v_fieldAddr | exact v_fieldAddrF (by decide) (by omega) | exact v_fieldAddrR (by first | assumption | rfl)) ?_
                refine xl_v (by first | exact v_load | exact v_loadO (by omega) | exact v_loadFf (by omega) | exact v_loadF0 (by omega)) ?_
                refine xl_e (e_buildSlice1 rfl fun b20 w20 n20 l20 k20 => ?_)
                refine xl_e (e_app (by omega) (by decide) (by omega) (by omega) Ge.le fun A7' c7' w21 o7' l7' a7' f7' => ?_)
                refine xl_v v_assign ?_
                refine xl_nil ?_
                refine x_regionL ?_
                refine xl_v v_move ?_
                refine xl_v (v_add (by omega)) ?_
                refine xl_v v_assign ?_
                refine xl_nil ?_
                exact ⟨_, by omega, rfl, j + 1, A7', c7', rfl, by omega, ⟨by have := (OwnI.own : World.ownsRow w21 _ _ _ (.slice A7' _ c7') _ _); rw [take_snoc _ _ hj1, List.map_append, ints_append]; exact this⟩, inferInstance, inferInstance, inferInstance, inferInstance, inferInstance, inferInstance, inferInstance, inferInstance, inferInstance, evc, lkc⟩
              ·
                have hjq : j = q.2 := by omega
                subst hjq
                obtain ⟨vals, hvals2⟩ : ∃ vals, vals = ((M.part q.1.inp).take q.2).map (fun x => x.val) := ⟨_, rfl⟩
                rw [← hvals2] at oV
                have hvl : vals.length = q.2 := by rw [hvals2]; simp; omega
                have hall : vals.all valB = true := by
                  rw [hvals2, List.all_eq_true]
                  intro v hv
                  obtain ⟨x, hx, rfl⟩ := List.mem_map.1 hv
                  exact hvals x (List.mem_of_mem_take hx)
                refine x_exit ?_
                refine x_seq ?_
                refine x_regionL ?_
                refine xl_v v_move ?_
                refine xl_v v_move ?_
                refine xl_v (by first | exact v_indexAddr _ rfl (by omega) (by assumption) | exact v_indexO _ rfl (by omega) (by omega) | exact v_indexF _ (by decide) rfl (by omega) (by omega)) ?_
                refine xl_v (v_congr (u := .agg (ruleC q.1).toArray) (v_loadF (by decide) (by omega)) (by rw [hq])) ?_
                refine xl_v v_move ?_
                refine xl_call (fold_ok q.1 Av q.2 cv vals w19 hvl (by omega) (fun v hv => by have := List.all_eq_true.1 hall v hv; simp [valB] at this; constructor <;> omega)) ?_
                rintro _ w22 ⟨hv, lkF⟩
                rw [if_pos ⟨q2, hall⟩] at hv
                obtain ⟨Aw, cw, rfl, how⟩ := hv
                haveI : OwnI w22 _ _ _ _ _ _ _ _ := ⟨how⟩
                refine xl_v v_move ?_
                refine xl_v v_extract ?_
                refine xl_v v_extract ?_
                refine xl_v v_assign ?_
                refine xl_v v_assign ?_
                refine xl_nil ?_
                refine x_seq ?_
                refine x_regionL ?_
                refine xl_v v_assign ?_
                refine xl_nil ?_
                refine x_seq ?_
                refine x_seq ?_
                refine x_regionL ?_
                refine xl_v v_assign ?_
                refine xl_nil ?_
                refine x_block ?_
                refine x_loop (fun m τ ds w' => ds = [] ∧ ∃ (k at_ : Nat), m = (M.part q.1.out).length - k ∧ k ≤ (M.part q.1.out).length ∧ at_ = (((M.part q.1.out).take k).filter (fun x => decide (x.rule = q.1.id))).length ∧ at_ ≤ k ∧ Ev τ 5 (.pointer (some ⟨b, 0, none⟩)) ∧ Ev τ 6 (.int .i64 0) ∧ Ev τ 9 (.slice A7 M.ids.length c7) ∧ Ev τ 10 (.int .i64 (i : Int)) ∧ Ev τ 13 (.slice Ao (M.part q.1.out).length co) ∧ Ev τ 15 (.int .i64 (q.2 : Int)) ∧ Ev τ 19 (.slice Aw q.2 cw) ∧ Ev τ 20 (.int .i64 0) ∧ Ev τ 21 (.int .i64 (at_ : Int)) ∧ Ev τ 22 (.int .i64 (k : Int)) ∧ Lk w' w22 NoB) ((M.part q.1.out).length) ?start ?round
                case start =>
                  exact ⟨rfl, 0, 0, rfl, Nat.zero_le _, by simp, Nat.le_refl _, inferInstance, inferInstance, inferInstance, inferInstance, inferInstance, inferInstance, inferInstance, inferInstance, evc, evc, lkc⟩
                case round =>
                  intro m τ23 ds23 w23 hI
                  obtain ⟨rfl, k, at_, rfl, hk4, hat, hatk, g5, g6, g9, g10, g13, g15, g19, g20, g21, g22, lk4⟩ := hI
                  refine x_seq ?_
                  refine x_seq ?_
                  refine x_regionL ?_
                  refine xl_v v_move ?_
                  refine xl_v v_move ?_
                  refine xl_v v_len ?_
                  refine xl_v v_lss ?_
                  refine xl_nil ?_
                  first | refine x_condP (fun c9 => ?_) (fun c9 => ?_) | refine x_condN (fun c9 => ?_) (fun c9 => ?_) | refine x_condE (fun c9 => ?_) (fun c9 => ?_)
                  ·
                    have hk5 : k < (M.part q.1.out).length := by omega
                    refine x_skip ?_
                    refine x_seq ?_
                    refine x_block ?_
                    refine x_seq ?_
                    refine x_seq ?_
                    refine x_drawL (NoB) (.take 0 (.take 1 (.take 2 (.take 3 (.take 4 (.take 5 (.take 6 (.take 7 (.take 8 (.take 9 (.take 10 .done))))))))))) mixed (by kernel_rfl) (fun _ _ _ _ _ h => h) (fun w24 l24 => ?_)
                    refine xt_v rfl v_move ?_
                    refine xt_v rfl v_move ?_
                    refine xt_v rfl (by first | exact v_indexAddr _ rfl (by omega) (by assumption) | exact v_indexO _ rfl (by omega) (by omega) | exact v_indexF _ (by decide) rfl (by omega) (by omega)) ?_
                    refine xt_v rfl (by first | exact v_fieldAddr | exact v_fieldAddrF (by decide) (by omega) | exact v_fieldAddrR (by first | assumption | rfl)) ?_
                    refine xt_v rfl (by first | exact v_load | exact v_loadO (by omega) | exact v_loadFf (by omega) | exact v_loadF0 (by omega)) ?_
                    refine xt_v rfl v_move ?_
                    refine xt_v rfl v_move ?_
                    refine xt_v rfl (by first | exact v_indexAddr _ rfl (by omega) (by assumption) | exact v_indexO _ rfl (by omega) (by omega) | exact v_indexF _ (by decide) rfl (by omega) (by omega)) ?_
                    refine xt_v rfl (by first | exact v_fieldAddr | exact v_fieldAddrF (by decide) (by omega) | exact v_fieldAddrR (by first | assumption | rfl)) ?_
                    refine xt_v rfl (v_congr (u := .int .i64 q.1.id) (v_loadF0 (by omega)) (by rw [hq])) ?_
                    refine xt_v rfl v_neq ?_
                    refine xt_nil ?_
                    first | refine x_condP (fun c10 => ?_) (fun c10 => ?_) | refine x_condN (fun c10 => ?_) (fun c10 => ?_) | refine x_condE (fun c10 => ?_) (fun c10 => ?_)
                    ·
                      have hr5 : ¬ (M.part q.1.out)[k].rule = q.1.id := c10
                      refine x_exit ?_
                      refine x_regionL ?_
                      refine xl_v v_move ?_
                      refine xl_v (v_add (by omega)) ?_
                      refine xl_v v_assign ?_
                      refine xl_nil ?_
                      first
                      | exact ⟨_, by omega, rfl, k + 1, at_, rfl, by omega, by rw [take_snoc _ _ hk5, List.filter_append]; simpa [hr5] using hat, by omega, inferInstance, inferInstance, inferInstance, inferInstance, inferInstance, inferInstance, inferInstance, inferInstance, inferInstance, evc, lkc⟩
                      | exact ⟨_, by omega, rfl, k + 1, at_ + 1, rfl, by omega, by rw [take_snoc _ _ hk5, List.filter_append]; simp [hr5, hat], by omega, inferInstance, inferInstance, inferInstance, inferInstance, inferInstance, inferInstance, inferInstance, inferInstance, evc, evc, lkc⟩
                    ·
                      have hr5 : (M.part q.1.out)[k].rule = q.1.id := by simpa using c10
                      have hfa := filter_at (p := fun x => decide (x.rule = q.1.id)) (M.part q.1.out) k hk5 (by simpa using hr5)
                      have hfl := filter_take_lt (p := fun x => decide (x.rule = q.1.id)) (M.part q.1.out) k hk5 (by simpa using hr5)
                      rw [hon] at hfa hfl
                      rw [← hat] at hfa hfl
                      have hlt : at_ < ((M.part q.1.inp).take q.2).length := by simpa [madeBy_len] using hfl
                      rw [madeBy_get _ _ _ _ hlt] at hfa
                      have hitm : (M.part q.1.out)[k] = ⟨make q.1 ((M.part q.1.inp).take q.2)[at_].val, q.1.id, (at_ : Int)⟩ := (Option.some.inj hfa).symm
                      have hltq : at_ < q.2 := by have := hlt; simp at this; omega
                      have hlv : at_ < (vals.map (make q.1)).length := by simp [hvl]; omega
                      have hwv2 : (vals.map (make q.1))[at_] = (M.part q.1.out)[k].val := by rw [hitm]; simp [hvals2]
                      refine x_skip ?_
                      refine x_seq ?_
                      refine x_seq ?_
                      refine x_drawL (NoB) (.take 0 (.take 1 (.take 2 (.take 3 (.take 4 (.take 5 (.take 6 (.take 7 (.take 8 (.take 9 (.take 10 (.take 11 (.take 12 (.take 13 (.take 14 (.take 15 (.take 16 (.take 17 (.take 18 (.take 19 (.take 20 (.take 21 (.take 22 (.take 23 (.take 24 .done))))))))))))))))))))))))) mixed (by kernel_rfl) (fun _ _ _ _ _ h => h) (fun w25 l25 => ?_)
                      refine xt_v rfl v_move ?_
                      refine xt_v rfl v_move ?_
                      refine xt_v rfl v_len ?_
                      refine xt_v rfl (v_congr (u := .bool false) v_geq (by rw [decide_eq_false (by omega)])) ?_
                      refine xt_v rfl v_move ?_
                      refine xt_gv rfl rfl EvO.eq v_move ?_
                      refine xt_gv rfl rfl EvO.eq v_move ?_
                      refine xt_gv rfl rfl EvO.eq (by first | exact v_indexAddr _ rfl (by omega) (by assumption) | exact v_indexO _ rfl (by omega) (by omega) | exact v_indexF _ (by decide) rfl (by omega) (by omega)) ?_
                      refine xt_gv rfl rfl EvO.eq (by first | exact v_fieldAddr | exact v_fieldAddrF (by decide) (by omega) | exact v_fieldAddrR (by first | assumption | rfl)) ?_
                      refine xt_gv rfl rfl EvO.eq (by first | exact v_load | exact v_loadO (by omega) | exact v_loadFf (by omega) | exact v_loadF0 (by omega)) ?_
                      refine xt_gv rfl rfl EvO.eq v_move ?_
                      refine xt_gv rfl rfl EvO.eq (v_neqF (by rw [hitm])) ?_
                      refine xt_v rfl (by first | exact v_pickT | exact v_pickF | exact v_pick) ?_
                      refine xt_v rfl v_move ?_
                      refine xt_gv rfl rfl EvO.eq v_move ?_
                      refine xt_gv rfl rfl EvO.eq v_move ?_
                      refine xt_gv rfl rfl EvO.eq (by first | exact v_indexAddr _ rfl (by omega) (by assumption) | exact v_indexO _ rfl (by omega) (by omega) | exact v_indexF _ (by decide) rfl (by omega) (by omega)) ?_
                      refine xt_gv rfl rfl EvO.eq (by first | exact v_fieldAddr | exact v_fieldAddrF (by decide) (by omega) | exact v_fieldAddrR (by first | assumption | rfl)) ?_
                      refine xt_gv rfl rfl EvO.eq (by first | exact v_load | exact v_loadO (by omega) | exact v_loadFf (by omega) | exact v_loadF0 (by omega)) ?_
                      refine xt_gv rfl rfl EvO.eq v_move ?_
                      refine xt_gv rfl rfl EvO.eq v_move ?_
                      refine xt_gv rfl rfl EvO.eq (v_indexO at_ rfl hltq hlv) ?_
                      refine xt_gv rfl rfl EvO.eq (v_loadO hlv) ?_
                      refine xt_gv rfl rfl EvO.eq (v_neqF hwv2.symm) ?_
                      refine xt_v rfl (by first | exact v_pickT | exact v_pickF | exact v_pick) ?_
                      refine xt_nil ?_
                      refine x_condF ?_
                      refine x_skip ?_
                      refine x_regionL ?_
                      refine xl_v v_move ?_
                      refine xl_v (v_add (by omega)) ?_
                      refine xl_v v_assign ?_
                      refine xl_nil ?_
                      refine x_regionL ?_
                      refine xl_v v_move ?_
                      refine xl_v (v_add (by omega)) ?_
                      refine xl_v v_assign ?_
                      refine xl_nil ?_
                      first
                      | exact ⟨_, by omega, rfl, k + 1, at_, rfl, by omega, by rw [take_snoc _ _ hk5, List.filter_append]; simpa [hr5] using hat, by omega, inferInstance, inferInstance, inferInstance, inferInstance, inferInstance, inferInstance, inferInstance, inferInstance, inferInstance, evc, lkc⟩
                      | exact ⟨_, by omega, rfl, k + 1, at_ + 1, rfl, by omega, by rw [take_snoc _ _ hk5, List.filter_append]; simp [hr5, hat], by omega, inferInstance, inferInstance, inferInstance, inferInstance, inferInstance, inferInstance, inferInstance, inferInstance, evc, evc, lkc⟩
                  ·
                    have hk6 : k = (M.part q.1.out).length := by omega
                    have hat2 : at_ = q.2 := by
                      rw [hat, hk6, List.take_of_length_le (Nat.le_refl _), hon, madeBy_len, List.length_take]; omega
                    refine x_exit ?_
                    refine x_seq ?_
                    refine x_regionL ?_
                    refine xl_v v_move ?_
                    refine xl_call (num_ok _ _) ?_
                    rintro _ _ ⟨rfl, rfl⟩
                    refine xl_v (v_neqF rfl) ?_
                    refine xl_v v_move ?_
                    refine xl_gv rfl EvO.eq v_move ?_
                    refine xl_gv rfl EvO.eq v_move ?_
                    refine xl_gv rfl EvO.eq (v_neqF (by rw [hat2])) ?_
                    refine xl_v (by first | exact v_pickT | exact v_pickF | exact v_pick) ?_
                    refine xl_nil ?_
                    refine x_condF ?_
                    refine x_skip ?_
                    refine x_regionL ?_
                    refine xl_v v_move ?_
                    refine xl_v (v_add (by omega)) ?_
                    refine xl_v v_assign ?_
                    refine xl_nil ?_
                    exact ⟨_, by omega, rfl, i + 1, rfl, by omega, inferInstance, inferInstance, inferInstance, evc, lkc⟩
          ·
            refine x_exit ?_
            refine x_seq ?_
            refine x_regionL ?_
            refine xl_v v_move ?_
            refine xl_call (num_ok _ _) ?_
            rintro _ _ ⟨rfl, rfl⟩
            refine xl_v (v_eqlT rfl) ?_
            refine xl_v v_move ?_
            refine xl_gcall rfl EvO.eq (works_ok _) ?_
            rintro _ w28 ⟨rfl, lk⟩
            refine xl_v (by first | exact v_pickT | exact v_pickF | exact v_pick) ?_
            refine xl_v v_assign ?_
            refine xl_nil ?_
            refine x_ret ?_
            refine fin1 rfl ?_
            exact ⟨rfl, lkc⟩
end Go.Proofs.Ytbihphclmdokeaa
