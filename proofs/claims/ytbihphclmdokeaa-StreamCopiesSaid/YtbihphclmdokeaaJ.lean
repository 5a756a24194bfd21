/-
  Walks, printed by a program of this workplace (wip/tools/sx.py) off the functions' code and a text of contracts.
-/
import Derived.Test.YtbihphclmdokeaaI
set_option linter.all false
set_option maxRecDepth 100000
set_option synthInstance.maxSize 100000
set_option synthInstance.maxHeartbeats 400000
namespace Go.Proofs.Ytbihphclmdokeaa
open Go.Wst
open Go.Wst.Sm
def k0M : Mach := Mach.new 2
def k1M : Mach := k0M.ruleM twR
def k2M : Mach := k1M.putM 0 5
def k3M : Mach := k2M.putM 0 (-1)
def k4M : Mach := k3M.roundM 0 1
def k5M : Mach := k4M.roundM 0 9
def k6M : Mach := k5M.roundM 0 9
theorem k0_ok : k0M.ok := Mach.ok.new (by decide) (by decide)
theorem k1_ok : k1M.ok := k0_ok.rule _
theorem k2_ok : k2M.ok := k1_ok.put _ _
theorem k3_ok : k3M.ok := k2_ok.put _ _
theorem k4_ok : k4M.ok := k3_ok.round _ _
theorem k5_ok : k5M.ok := k4_ok.round _ _
theorem k6_ok : k6M.ok := k5_ok.round _ _
theorem k_facts : k0M.ruleB twR = true ∧ k1M.putNo 0 5 = 0 ∧ k2M.putNo 0 (-1) = 0 ∧ k3M.roundN 0 1 = 1 ∧ k3M.roundNo 0 1 = 0 ∧ k4M.roundN 0 9 = 1 ∧ k4M.roundNo 0 9 = 0 ∧ k5M.roundNo 0 9 = 5 := by
  refine ⟨?_, ?_, ?_, ?_, ?_, ?_, ?_, ?_⟩ <;> kernel_rfl
theorem k_made : akey k6M.rules 0 = some (twR, 2) ∧ ((k6M.part 1).filter (fun x => decide (x.rule = 0))).map (fun x => x.val) = [11, -1] := by
  refine ⟨?_, ?_⟩ <;> kernel_rfl
/-- What lies in a machine that was made since w. -/
theorem sub_new {F F' : Nat → Prop} {w w1 : World} (h : Sub F' F w1) (hF : ∀ k, F k → w.heap.size ≤ k) (hs : w.heap.size ≤ w1.heap.size) : ∀ k, F' k → w.heap.size ≤ k := fun k hk => (h k hk).elim (hF k) (fun e => Nat.le_trans hs e)
theorem subF_since {F S : Nat → Prop} {w : World} (h : ∀ k, F k → w.heap.size ≤ k) : SubF F S w := ⟨fun k hk e => by have := h k e; omega⟩

/-- waystation/waystationlaw14.works -/
theorem works_ok (w : World) : Ret Try.prog 13 #[] w (fun v w' => v = .bool true ∧ Lk w' w NoB) := by
  obtain ⟨f1, f2, f3, f4, f5, f6, f7, f8⟩ := k_facts
  refine ret_of_x (N := 84) (l := []) Try.func13 rfl rfl (Nat.le_of_ble_eq_true rfl) ?_
  refine x_seq ?_
  refine x_regionL ?_
  refine xl_v v_assign ?_
  refine xl_nil ?_
  refine x_seq ?_
  refine x_regionL ?_
  refine xl_call (new_ok 2 w) ?_
  rintro _ w1 ⟨hnew, lk⟩
  rw [if_pos (by decide)] at hnew
  obtain ⟨b, pb, mb, vs0, rfl, hM0, hn0⟩ := hnew
  refine xl_v v_move ?_
  refine xl_v v_extract ?_
  refine xl_v v_extract ?_
  refine xl_v v_assign ?_
  refine xl_v v_assign ?_
  refine xl_nil ?_
  refine x_seq ?_
  refine x_regionL ?_
  refine xl_v v_move ?_
  refine xl_call (twice_ok _) ?_
  rintro _ w2 ⟨rfl, lk⟩
  refine xl_call (rule_ok b pb mb vs0 k0M twR _ (hM0.keep (kpc : Keep NoB _ w2) (fun _ _ h => h))) ?_
  rintro _ w3 ⟨hv, hM1, lk1⟩
  rw [if_pos f1] at hv
  subst hv
  haveI := subF_since (S := NoB) hn0
  refine xl_v v_move ?_
  refine xl_call (put_ok b pb mb vs0 k1M 0 5 _ hM1 k1_ok) ?_
  rintro _ w4 ⟨hv, lk2, vs2, hM2, hs2⟩
  rw [f2] at hv
  subst hv
  have hn2 := sub_new hs2 hn0 Ge.le
  haveI := subF_since (S := NoB) hn2
  refine xl_v v_move ?_
  refine xl_call (put_ok b pb mb vs2 k2M 0 (-1) _ hM2 k2_ok) ?_
  rintro _ w5 ⟨hv, lk3, vs3, hM3, hs3⟩
  rw [f3] at hv
  subst hv
  have hn3 := sub_new hs3 hn2 Ge.le
  haveI := subF_since (S := NoB) hn3
  refine xl_v v_assign ?_
  refine xl_v v_assign ?_
  refine xl_v v_assign ?_
  refine xl_nil ?_
  refine x_seq ?_
  refine x_regionL ?_
  refine xl_v v_move ?_
  refine xl_call (round_ok b pb mb vs3 k3M 0 1 _ hM3 k3_ok) ?_
  rintro _ w6 ⟨hv, lk4, vs4, hM4, hs4⟩
  rw [f4, f5] at hv
  subst hv
  have hn4 := sub_new hs4 hn3 Ge.le
  haveI := subF_since (S := NoB) hn4
  refine xl_v v_move ?_
  refine xl_v v_extract ?_
  refine xl_v v_extract ?_
  refine xl_v v_assign ?_
  refine xl_v v_assign ?_
  refine xl_nil ?_
  refine x_seq ?_
  refine x_regionL ?_
  refine xl_v v_move ?_
  refine xl_call (round_ok b pb mb vs4 k4M 0 9 _ hM4 k4_ok) ?_
  rintro _ w7 ⟨hv, lk5, vs5, hM5, hs5⟩
  rw [f6, f7] at hv
  subst hv
  have hn5 := sub_new hs5 hn4 Ge.le
  haveI := subF_since (S := NoB) hn5
  refine xl_v v_move ?_
  refine xl_v v_extract ?_
  refine xl_v v_extract ?_
  refine xl_v v_assign ?_
  refine xl_v v_assign ?_
  refine xl_nil ?_
  refine x_seq ?_
  refine x_regionL ?_
  refine xl_v v_move ?_
  refine xl_call (round_ok b pb mb vs5 k5M 0 9 _ hM5 k5_ok) ?_
  rintro _ w8 ⟨hv, lk6, vs6, hM6, hs6⟩
  rw [f8] at hv
  subst hv
  have hn6 := sub_new hs6 hn5 Ge.le
  haveI := subF_since (S := NoB) hn6
  refine xl_v v_move ?_
  refine xl_v v_extract ?_
  refine xl_v v_extract ?_
  refine xl_v v_assign ?_
  refine xl_v v_assign ?_
  refine xl_nil ?_
  refine x_seq ?_
  refine x_regionL ?_
  refine xl_v v_move ?_
  refine xl_call (made_ok b pb mb vs6 k6M 0 _ hM6 k6_ok) ?_
  rintro _ w9 ⟨hv, lk7⟩
  simp only [k_made.1] at hv
  obtain ⟨A7, n7, c7, rfl, ho7⟩ := hv
  rw [k_made.2] at ho7
  obtain ⟨_, _, hA7, _, _, hrow7⟩ := ownsRow_form ho7
  cases hA7
  haveI : Row w9 A7 (ints [11, -1]) := ⟨hrow7⟩
  have hn7 : n7 = 2 := by have := ho7.1; simp at this; omega
  refine xl_v v_move ?_
  refine xl_v v_extract ?_
  refine xl_v v_extract ?_
  refine xl_v v_assign ?_
  refine xl_v v_assign ?_
  refine xl_nil ?_
  refine x_seq ?_
  refine x_regionL ?_
  refine xl_v v_move ?_
  refine xl_call (num_ok _ _) ?_
  rintro _ _ ⟨rfl, rfl⟩
  refine xl_v v_move ?_
  refine xl_call (num_ok _ _) ?_
  rintro _ _ ⟨rfl, rfl⟩
  refine xl_v (v_add (by omega)) ?_
  refine xl_v v_move ?_
  refine xl_call (num_ok _ _) ?_
  rintro _ _ ⟨rfl, rfl⟩
  refine xl_v (v_add (by omega)) ?_
  refine xl_v v_move ?_
  refine xl_call (num_ok _ _) ?_
  rintro _ _ ⟨rfl, rfl⟩
  refine xl_v (v_add (by omega)) ?_
  refine xl_v v_move ?_
  refine xl_call (num_ok _ _) ?_
  rintro _ _ ⟨rfl, rfl⟩
  refine xl_v (v_add (by omega)) ?_
  refine xl_v v_move ?_
  refine xl_call (num_ok _ _) ?_
  rintro _ _ ⟨rfl, rfl⟩
  refine xl_v (v_add (by omega)) ?_
  refine xl_v v_move ?_
  refine xl_call (num_ok _ _) ?_
  rintro _ _ ⟨rfl, rfl⟩
  refine xl_v (v_add (by omega)) ?_
  refine xl_v (v_eqlT rfl) ?_
  refine xl_v v_move ?_
  refine xl_gv rfl EvO.eq v_move ?_
  refine xl_gv rfl EvO.eq (v_eqlT rfl) ?_
  refine xl_v (by first | exact v_pickT | exact v_pickF | exact v_pick) ?_
  refine xl_v v_move ?_
  refine xl_gv rfl EvO.eq v_move ?_
  refine xl_gv rfl EvO.eq (v_eqlT rfl) ?_
  refine xl_v (by first | exact v_pickT | exact v_pickF | exact v_pick) ?_
  refine xl_v v_move ?_
  refine xl_gv rfl EvO.eq v_move ?_
  refine xl_gcall rfl EvO.eq (num_ok _ _) ?_
  rintro _ _ ⟨rfl, rfl⟩
  refine xl_gv rfl EvO.eq (v_eqlT rfl) ?_
  refine xl_v (by first | exact v_pickT | exact v_pickF | exact v_pick) ?_
  refine xl_v v_move ?_
  refine xl_gv rfl EvO.eq v_move ?_
  refine xl_ge rfl EvO.eq (e_buildSliceN rfl fun b8 w18 n8 l8 k8 => ?_)
  haveI : Row w18 (some ⟨b8, 0, none⟩) (ints [11, -1]) := ⟨row_blk k8.eq⟩
  refine xl_gcall rfl EvO.eq (sameV_ok A7 n7 c7 [11, -1] (some ⟨b8, 0, none⟩) 2 2 [11, -1] w18 hn7.symm rfl (by omega)) ?_
  rintro _ w19 ⟨rfl, lk8⟩
  refine xl_v (by first | exact v_pickT | exact v_pickF | exact v_pick) ?_
  refine xl_v v_assign ?_
  refine xl_nil ?_
  refine x_ret ?_
  refine fin1 rfl ?_
  exact ⟨rfl, lkc⟩
def okB (r : Rule) (xs : List Int) : Bool := mayB r && xs.all valB
theorem okB_snoc (r : Rule) (xs : List Int) (k : Nat) (h : k < xs.length) : okB r (xs.take (k + 1)) = (okB r (xs.take k) && valB xs[k]) := by unfold okB; rw [take_snoc xs k h, List.all_append]; simp [Bool.and_assoc]
theorem fold2_ok' (r : Rule) (A : Option Addr) (n c : Nat) (xs : List Int) (w : World) [Row w A (ints xs)] (hl : xs.length = n) (hn : n ≤ 1000000000) (hv : ∀ x ∈ xs, In64 x) :
    Ret Try.prog 14 #[.agg (ruleC r).toArray, .slice A n c] w (fun v w' => ∃ AF nF cF, v = .tuple #[.slice AF nF cF, .int .i64 (if okB r xs = true then 0 else 2)] ∧ (okB r xs = true → nF = n ∧ w'.ownsRow w.heap.size 2 1 (.slice AF nF cF) n (ints (xs.map (make r)))) ∧ (okB r xs = false → nF = 0) ∧ Lk w' w NoB) := by
  refine (fold_ok r A n c xs w hl hn hv).mono ?_
  rintro v w' ⟨h, lk⟩
  by_cases hc : mayB r = true ∧ xs.all valB = true
  · rw [if_pos hc] at h
    obtain ⟨A', c', rfl, ho⟩ := h
    have hk : okB r xs = true := by simp only [okB, Bool.and_eq_true]; exact hc
    exact ⟨A', n, c', by rw [if_pos hk], fun _ => ⟨rfl, ho⟩, (fun e => by rw [hk] at e; cases e), lk⟩
  · rw [if_neg hc] at h
    have hk : okB r xs = false := by
      cases h2 : okB r xs with
      | false => rfl
      | true => simp only [okB, Bool.and_eq_true] at h2; exact absurd h2 hc
    exact ⟨none, 0, 0, by rw [h, if_neg (by simp [hk])], (fun e => by rw [hk] at e; cases e), fun _ => rfl, lk⟩

/-- waystation/waystationlaw14.StreamFolds -/
theorem StreamFolds_ok (r : Rule) (A : Option Addr) (n c : Nat) (xs : List Int) (w : World) [hrow : Row w A (ints xs)] (hl : xs.length = n) (hv : ∀ x ∈ xs, In64 x) (hA : A.isSome = true ∨ n = 0) (hn : n ≤ 9223372036854775807) : Ret Try.prog 3 #[.agg (ruleC r).toArray, .slice A n c] w (fun v w' => v = .bool true ∧ Lk w' w NoB) := by
  refine ret_of_x (N := 95) (l := [.agg (ruleC r).toArray, .slice A n c]) Try.func3 rfl rfl (Nat.le_of_ble_eq_true rfl) ?_
  refine x_seq ?_
  refine x_regionL ?_
  refine xl_e (e_box fun b1 w1 n1 l1 k1 => ?_)
  refine xl_v v_assign ?_
  refine xl_nil ?_
  refine x_seq ?_
  refine x_seq ?_
  refine x_regionL ?_
  refine xl_v v_move ?_
  refine xl_v v_len ?_
  refine xl_v v_gtr ?_
  refine xl_nil ?_
  first | refine x_condP (fun c1 => ?_) (fun c1 => ?_) | refine x_condN (fun c1 => ?_) (fun c1 => ?_) | refine x_condE (fun c1 => ?_) (fun c1 => ?_)
  ·
    refine x_seq ?_
    refine x_regionL ?_
    refine xl_call (works_ok _) ?_
    rintro _ w2 ⟨rfl, lk⟩
    refine xl_v v_assign ?_
    refine xl_nil ?_
    refine x_ret ?_
    refine fin1 rfl ?_
    exact ⟨rfl, lkc⟩
  ·
    have hn2 : n ≤ 200 := by omega
    refine x_skip ?_
    refine x_seq ?_
    refine x_regionL ?_
    refine xl_e (e_buildSlice0 fun b0 w3 n0 l0 k0 => ?_)
    refine xl_v v_move ?_
    have ho0 : World.ownsRow w3 b0 2 1 (.slice (some ⟨b0, 0, none⟩) 0 0) 0 [] := ownsRow_blk (Nat.le_refl _) k0.eq (by simp) (by omega)
    haveI := ownA_of ho0 (Nat.le_of_eq n0.eq.symm)
    refine xl_e (e_append' ho0 (Nat.le_of_lt (Has.lt : b0 < w3.heap.size)) (by rw [ints_len]; omega) (ints_one _) (by decide) hA (by omega) (by omega) fun A2 c2 w4 ho2 l2 _ => ?_)
    refine xl_e (e_buildSlice1 rfl fun b3 w5 n3 l3 k3 => ?_)
    haveI := ownA_of ho2 (Nat.le_of_eq n0.eq.symm)
    refine xl_e (e_append' (own_ext ho2 lkc) (Nat.le_of_lt (Has.lt : b0 < w5.heap.size)) rfl Cell1L.eq (by decide) (.inl rfl) (by omega) (by omega) fun A4 c4 w6 ho4 l4 _ => ?_)
    refine xl_v v_move ?_
    refine xl_v v_len ?_
    refine xl_v (v_sliceH n rfl (by obtain ⟨_, _, hA4, _, hc4, _⟩ := ownsRow_form ho4; cases hA4; omega)) ?_
    refine xl_v v_assign ?_
    refine xl_nil ?_
    have ho5 : World.ownsRow w6 b0 2 1 (.slice A4 (n + 1) c4) (n + 1) (ints (xs ++ [77])) := by
      have e : 0 + n + 1 = n + 1 := by omega
      rw [e] at ho4
      simpa [ints] using ho4
    obtain ⟨_, _, hA4, _, hc4, hrow4⟩ := ownsRow_form ho5
    cases hA4
    haveI hR4 : Row w6 A4 (ints (xs ++ [77])) := ⟨hrow4⟩
    have hA4s : A4.isSome = true := row_some hR4 (by simp [ints])
    haveI hRA : Row w6 A (ints xs) := ⟨hrow.row.keep (kpc : Keep NoB w w6) (fun _ _ h => h)⟩
    refine x_seq ?_
    refine x_regionL ?_
    refine xl_v (by first | exact v_loadA | exact v_loadF (by decide) (by omega)) ?_
    refine xl_v v_move ?_
    refine xl_call ((haveI : Row w6 A4 (ints xs) := ⟨by have := row_take (inferInstance : Row w6 A4 (ints (xs ++ [77]))).row xs.length; simpa [ints] using this⟩; fold2_ok' r A4 n c4 xs _ hl (by omega) hv)) ?_
    rintro _ w7 ⟨AF, nF, cF, rfl, hFt, hFf, lkf⟩
    refine xl_v v_move ?_
    refine xl_v v_extract ?_
    refine xl_v v_extract ?_
    refine xl_v v_assign ?_
    refine xl_v v_assign ?_
    refine xl_nil ?_
    refine x_seq ?_
    refine x_regionL ?_
    refine xl_v (by first | exact v_loadA | exact v_loadF (by decide) (by omega)) ?_
    refine xl_call (right14_ok _ _) ?_
    rintro _ w8 ⟨rfl, lk⟩
    refine xl_v v_assign ?_
    refine xl_nil ?_
    refine x_seq ?_
    refine x_regionL ?_
    refine xl_v v_assign ?_
    refine xl_nil ?_
    refine x_seq ?_
    refine x_seq ?_
    refine x_regionL ?_
    refine xl_v v_assign ?_
    refine xl_nil ?_
    refine x_block ?_
    have hws : w.heap.size ≤ w8.heap.size := Ge.le
    refine x_loop (fun m τ ds w' => ds = [] ∧ ∃ k nv : Nat, ∃ V : Value, ∃ ys : List Int, m = n - k ∧ k ≤ n ∧ nv ≤ k ∧ w'.ownsRow w8.heap.size 2 1 V nv (ints ys) ∧ (okB r (xs.take k) = true → ys = (xs.take k).map (make r)) ∧ Ev τ 1 (.slice A n c) ∧ Ev τ 2 (.pointer (some ⟨b1, 0, none⟩)) ∧ Ev τ 5 (.slice A4 n c4) ∧ Ev τ 6 (.slice AF nF cF) ∧ Ev τ 7 (.int .i64 (if okB r xs = true then 0 else 2)) ∧ Ev τ 8 (.bool (okB r (xs.take k))) ∧ Ev τ 9 V ∧ Ev τ 10 (.int .i64 (k : Int)) ∧ Lk w' w8 NoB) (n) ?start ?round
    case start =>
      exact ⟨rfl, 0, 0, _, [], rfl, Nat.zero_le _, Nat.le_refl _, World.ownsRow_nil _ _ _ _, fun _ => rfl, inferInstance, inferInstance, inferInstance, inferInstance, inferInstance, evc (by simp [okB]), inferInstance, evc, lkc⟩
    case round =>
      intro m τ9 ds9 w9 hI
      obtain ⟨rfl, k, nv, V, ys, rfl, hk, hnv, hown, hys, e1, e2, e5, e6, e7, e8, e9, e10, lk⟩ := hI
      haveI := ownA_of hown (Nat.le_refl _)
      refine x_seq ?_
      refine x_seq ?_
      refine x_regionL ?_
      refine xl_v v_move ?_
      refine xl_v v_move ?_
      refine xl_v v_len ?_
      refine xl_v v_lss ?_
      refine xl_nil ?_
      first | refine x_condP (fun c2 => ?_) (fun c2 => ?_) | refine x_condN (fun c2 => ?_) (fun c2 => ?_) | refine x_condE (fun c2 => ?_) (fun c2 => ?_)
      ·
        have hk1 : k < xs.length := by omega
        have hAs : A.isSome = true := hA.resolve_right (by omega)
        refine x_skip ?_
        refine x_seq ?_
        refine x_block ?_
        refine x_seq ?_
        refine x_regionL ?_
        refine xl_v v_move ?_
        refine xl_v v_move ?_
        refine xl_split 38 (fun g38 => ?_) (fun g38 => ?_)
        ·
          refine xl_gv rfl EvO.eq v_move ?_
          refine xl_gv rfl EvO.eq v_move ?_
          refine xl_gv rfl EvO.eq (v_indexAddr k rfl (by omega) hAs) ?_
          refine xl_gv rfl EvO.eq (v_loadR (by simpa using ints_get hk1)) ?_
          refine xl_gcall rfl EvO.eq (refValue_ok _ _) ?_
          rintro _ _ ⟨rfl, rfl⟩
          refine xl_v (by first | exact v_pickT | exact v_pickF | exact v_pick) ?_
          refine xl_v v_assign ?_
          refine xl_nil ?_
          refine x_seq ?_
          refine x_regionL ?_
          refine xl_v v_move ?_
          refine xl_nil ?_
          refine x_condE (fun c3 => ?_) (fun c3 => ?_)
          ·
            haveI hRO : RowOut (OwnB V) A := ⟨fun a ha e => by
              obtain ⟨a', ha', hc⟩ := hrow.row 0 _ (by rw [ints_get (by omega : 0 < xs.length)])
              have h1 := World.block_lt_of_cell? _ _ hc
              rw [block_add] at h1
              rw [ha] at ha'
              cases ha'
              have h2 := (hown.lt a.block e.symm).1
              omega⟩
            refine x_drawL (OwnB V) (allS) (.take 0 (.take 1 (.take 2 (.take 3 (.take 4 (.take 5 (.eff 6 (.eff 7 (.eff 8 (.take 9 .done)))))))))) mixed (by kernel_rfl) (fun _ _ _ _ _ h => h) (fun w11 l11 => ?_)
            refine xt_v rfl v_move ?_
            refine xt_v rfl (by first | exact v_loadA | exact v_loadF (by decide) (by omega)) ?_
            refine xt_v rfl v_move ?_
            refine xt_v rfl v_move ?_
            refine xt_v rfl (v_indexAddr k rfl (by omega) hAs) ?_
            refine xt_v rfl (v_loadR (by simpa using ints_get hk1)) ?_
            refine xt_call rfl (make14_ok r xs[k] (by simp [okB] at g38; exact g38.1) c3 _) ?_
            rintro _ w12 ⟨rfl, lk6⟩
            refine ⟨kpc, ?_⟩
            refine xt_e rfl (e_buildSlice1 rfl fun b7 w13 n7 l7 k7 => ?_)
            refine xt_e rfl (e_append' (own_ext hown lkc) (Nat.le_trans (Nat.le_refl _) Ge.le) rfl Cell1L.eq (by decide) (.inl rfl) (by omega) (by omega) fun A8 c8 w14 hown2 l8 _ => ?_)
            refine xt_v rfl v_assign ?_
            refine xt_nil ?_
            rw [show ints ys ++ [Value.int .i64 (make r xs[k])] = ints (ys ++ [make r xs[k]]) by simp [ints]] at hown2
            refine x_regionL ?_
            refine xl_v v_move ?_
            refine xl_v (v_add (by omega)) ?_
            refine xl_v v_assign ?_
            refine xl_nil ?_
            first
            | exact ⟨_, by omega, rfl, k + 1, nv + 1, _, ys ++ [make r xs[k]], rfl, by omega, by omega, hown2, fun _ => by rw [hys g38, take_snoc _ _ hk1, List.map_append]; rfl, inferInstance, inferInstance, inferInstance, inferInstance, inferInstance, evc (by rw [okB_snoc r xs k hk1, g38, c3]; rfl), inferInstance, evc, lkc⟩
            | exact ⟨_, by omega, rfl, k + 1, nv, V, ys, rfl, by omega, by omega, own_ext hown lkc, fun h => by rw [okB_snoc r xs k hk1, g38] at h; simp_all, inferInstance, inferInstance, inferInstance, inferInstance, inferInstance, evc (by rw [okB_snoc r xs k hk1, g38]; simp_all), inferInstance, evc, lkc⟩
          ·
            refine x_skip ?_
            refine x_regionL ?_
            refine xl_v v_move ?_
            refine xl_v (v_add (by omega)) ?_
            refine xl_v v_assign ?_
            refine xl_nil ?_
            first
            | exact ⟨_, by omega, rfl, k + 1, nv + 1, _, ys ++ [make r xs[k]], rfl, by omega, by omega, hown2, fun _ => by rw [hys g38, take_snoc _ _ hk1, List.map_append]; rfl, inferInstance, inferInstance, inferInstance, inferInstance, inferInstance, evc (by rw [okB_snoc r xs k hk1, g38, c3]; rfl), inferInstance, evc, lkc⟩
            | exact ⟨_, by omega, rfl, k + 1, nv, V, ys, rfl, by omega, by omega, own_ext hown lkc, fun h => by rw [okB_snoc r xs k hk1, g38] at h; simp_all, inferInstance, inferInstance, inferInstance, inferInstance, inferInstance, evc (by rw [okB_snoc r xs k hk1, g38]; simp_all), inferInstance, evc, lkc⟩
        ·
          refine xl_gs rfl EvO.eq ?_
          refine xl_gs rfl EvO.eq ?_
          refine xl_gs rfl EvO.eq ?_
          refine xl_gs rfl EvO.eq ?_
          refine xl_gs rfl EvO.eq ?_
          refine xl_v (by first | exact v_pickT | exact v_pickF | exact v_pick) ?_
          refine xl_v v_assign ?_
          refine xl_nil ?_
          refine x_seq ?_
          refine x_regionL ?_
          refine xl_v v_move ?_
          refine xl_nil ?_
          refine x_condF ?_
          refine x_skip ?_
          refine x_regionL ?_
          refine xl_v v_move ?_
          refine xl_v (v_add (by omega)) ?_
          refine xl_v v_assign ?_
          refine xl_nil ?_
          first
          | exact ⟨_, by omega, rfl, k + 1, nv + 1, _, ys ++ [make r xs[k]], rfl, by omega, by omega, hown2, fun _ => by rw [hys g38, take_snoc _ _ hk1, List.map_append]; rfl, inferInstance, inferInstance, inferInstance, inferInstance, inferInstance, evc (by rw [okB_snoc r xs k hk1, g38, c3]; rfl), inferInstance, evc, lkc⟩
          | exact ⟨_, by omega, rfl, k + 1, nv, V, ys, rfl, by omega, by omega, own_ext hown lkc, fun h => by rw [okB_snoc r xs k hk1, g38] at h; simp_all, inferInstance, inferInstance, inferInstance, inferInstance, inferInstance, evc (by rw [okB_snoc r xs k hk1, g38]; simp_all), inferInstance, evc, lkc⟩
      ·
        have hkn : k = n := by omega
        subst hkn
        rw [List.take_of_length_le (by omega)] at e8 hys
        refine x_exit ?_
        refine x_seq ?_
        refine x_seq ?_
        refine x_regionL ?_
        refine xl_v v_move ?_
        refine xl_v v_move ?_
        refine xl_call ((haveI : Row w9 A4 (ints xs) := ⟨by have := row_take (inferInstance : Row w9 A4 (ints (xs ++ [77]))).row xs.length; simpa [ints] using this⟩; sameV_ok A4 _ c4 xs A _ c xs _ hl hl (by omega))) ?_
        rintro _ w15 ⟨hv2, lks⟩
        rw [decide_eq_true rfl] at hv2
        subst hv2
        refine xl_v v_not ?_
        refine xl_v v_move ?_
        refine xl_gv rfl EvO.eq v_move ?_
        refine xl_gv rfl EvO.eq v_move ?_
        refine xl_gv rfl EvO.eq v_len ?_
        refine xl_gv rfl EvO.eq (v_add (by omega)) ?_
        refine xl_gv rfl EvO.eq (v_sliceH (k + 1) (by omega) (by omega)) ?_
        refine xl_gv rfl EvO.eq v_move ?_
        refine xl_gv rfl EvO.eq v_len ?_
        refine xl_gv rfl EvO.eq (v_indexAddr k rfl (by omega) hA4s) ?_
        refine xl_gv rfl EvO.eq (v_loadR (v := .int .i64 77) (by rw [Nat.mul_one, ints_get (by simp; omega)]; simp [← hl])) ?_
        refine xl_gv rfl EvO.eq (v_neqF rfl) ?_
        refine xl_v (by first | exact v_pickT | exact v_pickF | exact v_pick) ?_
        refine xl_nil ?_
        refine x_condF ?_
        refine x_skip ?_
        refine x_seq ?_
        refine x_seq ?_
        refine x_regionL ?_
        refine xl_v v_move ?_
        refine xl_v v_not ?_
        refine xl_nil ?_
        refine x_condE (fun c5 => ?_) (fun c5 => ?_)
        ·
          have hok : okB r xs = false := by simpa using c5
          refine x_seq ?_
          refine x_regionL ?_
          refine xl_v v_move ?_
          refine xl_v v_len ?_
          refine xl_v (v_eqlT (by rw [hFf hok]; rfl)) ?_
          refine xl_v v_move ?_
          refine xl_gv rfl EvO.eq v_move ?_
          refine xl_gcall rfl EvO.eq (num_ok _ _) ?_
          rintro _ _ ⟨rfl, rfl⟩
          refine xl_gv rfl EvO.eq (v_eqlT (by rw [hok]; rfl)) ?_
          refine xl_v (by first | exact v_pickT | exact v_pickF | exact v_pick) ?_
          refine xl_v v_move ?_
          refine xl_gcall rfl EvO.eq (works_ok _) ?_
          rintro _ w17 ⟨rfl, lk⟩
          refine xl_v (by first | exact v_pickT | exact v_pickF | exact v_pick) ?_
          refine xl_v v_assign ?_
          refine xl_nil ?_
          refine x_ret ?_
          refine fin1 rfl ?_
          exact ⟨rfl, lkc⟩
        ·
          have hok : okB r xs = true := by simpa using c5
          obtain ⟨hnF, hoF⟩ := hFt hok
          have hnF2 := hnF.symm
          subst hnF2
          obtain ⟨_, _, hAF, _, _, hrowF⟩ := ownsRow_form hoF
          cases hAF
          haveI hRF : Row w15 AF (ints (xs.map (make r))) := ⟨hrowF.keep (S := NoB) kpc (fun _ _ h => h)⟩
          obtain ⟨AV, cV, rfl, _, _, hrowV⟩ := ownsRow_form hown
          haveI hRV : Row w15 AV (ints (xs.map (make r))) := ⟨by rw [← hys hok]; exact hrowV.keep (S := NoB) kpc (fun _ _ h => h)⟩
          have hlV : nv = k := by have h1 := hown.1; rw [ints_len, hys hok] at h1; simp at h1; omega
          refine x_skip ?_
          refine x_seq ?_
          refine x_regionL ?_
          refine xl_v v_move ?_
          refine xl_v v_move ?_
          refine xl_call (sameV_ok AF k cF (xs.map (make r)) AV nv cV (xs.map (make r)) _ (by simpa using hl) (by simp; omega) (by omega)) ?_
          rintro _ w18 ⟨hv3, lks⟩
          rw [decide_eq_true rfl] at hv3
          subst hv3
          refine xl_v v_move ?_
          refine xl_gv rfl EvO.eq v_move ?_
          refine xl_gcall rfl EvO.eq (num_ok _ _) ?_
          rintro _ _ ⟨rfl, rfl⟩
          refine xl_gv rfl EvO.eq (v_eqlT (by rw [hok]; rfl)) ?_
          refine xl_v (by first | exact v_pickT | exact v_pickF | exact v_pick) ?_
          refine xl_v v_move ?_
          refine xl_gcall rfl EvO.eq (works_ok _) ?_
          rintro _ w20 ⟨rfl, lk⟩
          refine xl_v (by first | exact v_pickT | exact v_pickF | exact v_pick) ?_
          refine xl_v v_assign ?_
          refine xl_nil ?_
          refine x_ret ?_
          refine fin1 rfl ?_
          exact ⟨rfl, lkc⟩
end Go.Proofs.Ytbihphclmdokeaa
