/-
  Walks, printed by a program of this workplace (wip/tools/sx.py) off the functions' code and a text of contracts.
-/
import Derived.Test.YtacadajlpmhcfaaS
set_option linter.all false
set_option maxRecDepth 100000
set_option synthInstance.maxSize 100000
set_option synthInstance.maxHeartbeats 400000
namespace Go.Proofs.Ytacadajlpmhcfaa
open Go.Wst
open Go.Wst.Nm
theorem pair_put {P F F' G G' : Nat → Prop} {b mb : Nat} {W W1 W2 W3 : World} (h4 : ∀ k, F k → ¬ NetF b mb G k) (hF : ∀ k, F k → k < W.heap.size) (hN : ∀ k, NetF b mb G k → k < W.heap.size) (h5 : ∀ k, P k → k < W.heap.size ∧ ¬ F k ∧ ¬ NetF b mb G k) (h1 : W.heap.size ≤ W1.heap.size) (h3 : W.heap.size ≤ W2.heap.size) (h6 : W.heap.size ≤ W3.heap.size) (hF' : Sub F' F W1) (hF2 : ∀ k, F' k → k < W2.heap.size) (hG' : Sub G' G W2) :
    (∀ k, F' k → ¬ NetF b mb G' k) ∧ (∀ k, P k → k < W3.heap.size ∧ ¬ F' k ∧ ¬ NetF b mb G' k) := by
  have key : ∀ k, NetF b mb G' k → NetF b mb G k ∨ W2.heap.size ≤ k := by
    rintro k (e | e | e)
    · exact .inl (.inl e)
    · exact .inl (.inr (.inl e))
    · exact (hG' k e).imp (fun e => .inr (.inr e)) id
  refine ⟨fun k e e' => ?_, fun k e => ⟨by have := (h5 k e).1; omega, fun e' => ?_, fun e' => ?_⟩⟩
  · have h7 := hF2 k e
    rcases key k e' with e2 | e2
    · rcases hF' k e with e3 | e3
      · exact h4 k e3 e2
      · have := hN k e2; omega
    · omega
  · rcases hF' k e' with e3 | e3
    · exact (h5 k e).2.1 e3
    · have := (h5 k e).1; omega
  · rcases key k e' with e2 | e2
    · exact (h5 k e).2.2 e2
    · have := (h5 k e).1; omega
theorem in64_0 : In64 0 := ⟨by decide, by decide⟩
theorem rowB_none (w w00 : World) (A : Option Addr) : RowB w A w00 (bytesC []) := ⟨fun j v h => by simp [bytesC] at h, .inl rfl⟩

/-- waystation/waystationlaw05.NetPuts -/
theorem netPuts_ok (most : Int) (A : Option Addr) (n c : Nat) (xs : List LMsg) (w : World) [hra : Row w A (xs.flatMap msgC)] (hrs : ∀ j (h : j < xs.length), RowP w xs[j].A (bytesC xs[j].m.bytes)) (hl : xs.length = n) (hn : n ≤ 9223372036854775807) : Ret Try.prog 7 #[.int .i64 most, .slice A n c] w (fun v w' => v = .bool true ∧ Lk w' w NoB) := by
  haveI hrb : RowB w A w (xs.flatMap msgC) := rowB_of hra.row
  refine ret_of_x (N := 92) (l := [.int .i64 most, .slice A n c]) Try.func7 rfl rfl (Nat.le_of_ble_eq_true rfl) ?_
  refine x_seq ?_
  refine x_regionL ?_
  refine xl_v v_assign ?_
  refine xl_nil ?_
  refine x_seq ?_
  refine x_regionL ?_
  refine xl_v v_assign ?_
  refine xl_nil ?_
  refine x_seq ?_
  refine x_seq ?_
  refine x_regionL ?_
  refine xl_v v_assign ?_
  refine xl_nil ?_
  refine x_block ?_
  refine x_loop (fun m τ ds w' => ds = [] ∧ Lk w' w NoB ∧ ∃ k s : Nat, m = n - k ∧ k ≤ n ∧ 20 * k ≤ s ∧ s ≤ 18021 ∧ (∀ j (h : j < xs.length), j < k → min xs[j].m.bytes.length 9001 ≤ s) ∧ Ev τ 0 (.int .i64 most) ∧ Ev τ 1 (.slice A n c) ∧ Ev τ 5 (.int .i64 (s : Int)) ∧ Ev τ 6 (.int .i64 (k : Int))) (n) ?start ?round
  case start =>
    exact ⟨rfl, lkc, 0, 0, rfl, by omega, by omega, by omega, fun j h hj => by omega, inferInstance, inferInstance, evc, evc⟩
  case round =>
    intro m τ1 ds1 w1 hI
    obtain ⟨rfl, lk, k, s, rfl, hk, hs1, hs2, hmin, e0, e1, e5, e6⟩ := hI
    refine x_seq ?_
    refine x_seq ?_
    refine x_regionL ?_
    refine xl_v v_move ?_
    refine xl_v v_move ?_
    refine xl_v v_len ?_
    refine xl_v v_lss ?_
    refine xl_v v_move ?_
    refine xl_split 18 (fun g18 => ?_) (fun g18 => ?_)
    ·
      refine xl_gv rfl EvO.eq v_move ?_
      refine xl_gv rfl EvO.eq v_leq ?_
      refine xl_v (by first | exact v_pickT | exact v_pickF | exact v_pick) ?_
      refine xl_nil ?_
      first | refine x_condP (fun c1 => ?_) (fun c1 => ?_) | refine x_condN (fun c1 => ?_) (fun c1 => ?_) | refine x_condE (fun c1 => ?_) (fun c1 => ?_)
      ·
        have hk1 : k < xs.length := by simp at g18; omega
        have hs3 : s ≤ 9000 := by omega
        have hA := row_some (w := w1) (A := A) (cs := xs.flatMap msgC) inferInstance (by rw [flat_len (sz := 3) (fun _ => rfl)]; omega)
        refine x_skip ?_
        refine x_seq ?_
        refine x_block ?_
        refine x_regionL ?_
        refine xl_v v_move ?_
        refine xl_v (v_add (by omega)) ?_
        refine xl_v v_move ?_
        refine xl_v v_move ?_
        refine xl_v (v_indexF k (by decide) rfl (by omega) hk1) ?_
        refine xl_v (v_congr (u := padd A (k * 3 + 2)) (v_fieldAddrR hA) rfl) ?_
        refine xl_v (v_loadFf hk1) ?_
        refine xl_v v_len ?_
        refine xl_v v_min ?_
        refine xl_v (v_add (by omega)) ?_
        refine xl_v v_assign ?_
        refine xl_nil ?_
        refine x_regionL ?_
        refine xl_v v_move ?_
        refine xl_v (v_add (by omega)) ?_
        refine xl_v v_assign ?_
        refine xl_nil ?_
        refine ⟨_, ?_, rfl, lkc, k + 1, s + 20 + min xs[k].m.bytes.length 9001, rfl, by omega, by omega, by omega, ?_, inferInstance, inferInstance, evc (congrArg (Value.int .i64) (by omega)), evc⟩
        · omega
        · intro j hj hjk
          by_cases h : j = k
          · subst h; omega
          · have := hmin j hj (by omega); omega
      ·
        refine x_exit ?_
        refine x_seq ?_
        refine x_seq ?_
        refine x_regionL ?_
        refine xl_v v_move ?_
        refine xl_v v_lss ?_
        refine xl_v v_move ?_
        refine xl_split 36 (fun g36 => ?_) (fun g36 => ?_)
        ·
          refine xl_gs rfl EvO.eq ?_
          refine xl_gs rfl EvO.eq ?_
          refine xl_v (by first | exact v_pickT | exact v_pickF | exact v_pick) ?_
          refine xl_v v_move ?_
          refine xl_gs rfl EvO.eq ?_
          refine xl_gs rfl EvO.eq ?_
          refine xl_v (by first | exact v_pickT | exact v_pickF | exact v_pick) ?_
          refine xl_v v_move ?_
          refine xl_gs rfl EvO.eq ?_
          refine xl_gs rfl EvO.eq ?_
          refine xl_gs rfl EvO.eq ?_
          refine xl_v (by first | exact v_pickT | exact v_pickF | exact v_pick) ?_
          refine xl_nil ?_
          refine x_condT ?_
          refine x_seq ?_
          refine x_regionL ?_
          refine xl_call (works_ok w1) ?_
          rintro _ w2 ⟨rfl, lkw⟩
          refine xl_v v_assign ?_
          refine xl_nil ?_
          refine x_ret ?_
          refine fin1 rfl ?_
          exact ⟨rfl, lkc⟩
        ·
          refine xl_gv rfl EvO.eq v_move ?_
          refine xl_gv rfl EvO.eq v_gtr ?_
          refine xl_v (by first | exact v_pickT | exact v_pickF | exact v_pick) ?_
          refine xl_v v_move ?_
          refine xl_split 40 (fun g40 => ?_) (fun g40 => ?_)
          ·
            refine xl_gs rfl EvO.eq ?_
            refine xl_gs rfl EvO.eq ?_
            refine xl_v (by first | exact v_pickT | exact v_pickF | exact v_pick) ?_
            refine xl_v v_move ?_
            refine xl_gs rfl EvO.eq ?_
            refine xl_gs rfl EvO.eq ?_
            refine xl_gs rfl EvO.eq ?_
            refine xl_v (by first | exact v_pickT | exact v_pickF | exact v_pick) ?_
            refine xl_nil ?_
            refine x_condT ?_
            refine x_seq ?_
            refine x_regionL ?_
            refine xl_call (works_ok w1) ?_
            rintro _ w3 ⟨rfl, lkw⟩
            refine xl_v v_assign ?_
            refine xl_nil ?_
            refine x_ret ?_
            refine fin1 rfl ?_
            exact ⟨rfl, lkc⟩
          ·
            refine xl_gv rfl EvO.eq v_move ?_
            refine xl_gv rfl EvO.eq v_gtr ?_
            refine xl_v (by first | exact v_pickT | exact v_pickF | exact v_pick) ?_
            refine xl_v v_move ?_
            refine xl_split 44 (fun g44 => ?_) (fun g44 => ?_)
            ·
              refine xl_gs rfl EvO.eq ?_
              refine xl_gs rfl EvO.eq ?_
              refine xl_gs rfl EvO.eq ?_
              refine xl_v (by first | exact v_pickT | exact v_pickF | exact v_pick) ?_
              refine xl_nil ?_
              refine x_condT ?_
              refine x_seq ?_
              refine x_regionL ?_
              refine xl_call (works_ok w1) ?_
              rintro _ w4 ⟨rfl, lkw⟩
              refine xl_v v_assign ?_
              refine xl_nil ?_
              refine x_ret ?_
              refine fin1 rfl ?_
              exact ⟨rfl, lkc⟩
            ·
              refine xl_gv rfl EvO.eq v_move ?_
              refine xl_gv rfl EvO.eq v_len ?_
              refine xl_gv rfl EvO.eq v_gtr ?_
              refine xl_v (by first | exact v_pickT | exact v_pickF | exact v_pick) ?_
              refine xl_nil ?_
              first | refine x_condP (fun c2 => ?_) (fun c2 => ?_) | refine x_condN (fun c2 => ?_) (fun c2 => ?_) | refine x_condE (fun c2 => ?_) (fun c2 => ?_)
              ·
                refine x_seq ?_
                refine x_regionL ?_
                refine xl_call (works_ok w1) ?_
                rintro _ w5 ⟨rfl, lkw⟩
                refine xl_v v_assign ?_
                refine xl_nil ?_
                refine x_ret ?_
                refine fin1 rfl ?_
                exact ⟨rfl, lkc⟩
              ·
                have hmost : 1 ≤ most ∧ most ≤ 4096 := by simp at g36 g40; omega
                have hs9 : s ≤ 9000 := by simp at g44; omega
                have hke : k = n := by
                  first
                    | omega
                    | (simp at g18; omega)
                have hn40 : n ≤ 40 := by simp at c2; omega
                have hmin2 : ∀ j (h : j < xs.length), xs[j].m.bytes.length ≤ 9000 := fun j hj => by have := hmin j hj (by omega); omega
                clear e5 e6
                refine x_skip ?_
                refine x_seq ?_
                refine x_regionL ?_
                refine xl_v v_move ?_
                refine xl_call (new_ok most w1) ?_
                rintro _ w6 ⟨hnew, lk1⟩
                rw [if_pos hmost] at hnew
                obtain ⟨b, mb, rfl, hN0, hgb, hgm⟩ := hnew
                have hg01 := (Ge.le : w.heap.size ≤ (w1).heap.size)
                haveI sT : SubF (TwoB b mb) NoB w := ⟨fun k hk e => by rcases e with e | e <;> omega⟩
                haveI : Above (TwoB b mb) w := ⟨fun k e => by rcases e with e | e <;> omega⟩
                have hbl := hN0.lt b (.inl rfl)
                have hml := hN0.lt mb (.inr (.inl rfl))
                refine xl_v v_move ?_
                refine xl_v v_extract ?_
                refine xl_v v_extract ?_
                refine xl_v v_assign ?_
                refine xl_v v_assign ?_
                refine xl_nil ?_
                refine x_seq ?_
                refine x_regionL ?_
                refine xl_v v_move ?_
                refine xl_call (refnew_ok most w6) ?_
                rintro _ w7 ⟨hnw, lk2⟩
                rw [if_pos hmost] at hnw
                obtain rfl := hnw
                have hg23 := (Ge.le : (w6).heap.size ≤ (w7).heap.size)
                refine xl_v v_move ?_
                refine xl_v v_extract ?_
                refine xl_v v_extract ?_
                refine xl_e (e_alloc fun b9 w8 n9 l9 k9 => ?_)
                refine xl_s (e_storeA fun w9 l9 k9 => ?_)
                refine xl_v v_assign ?_
                refine xl_nil ?_
                have hb9 := n9.eq
                have hb9w : w.heap.size ≤ b9 := by rw [n9.eq]; exact Ge.le
                refine x_seq ?_
                refine x_seq ?_
                refine x_regionL ?_
                refine xl_v v_assign ?_
                refine xl_nil ?_
                refine x_block ?_
                have hP0 : PairW (OneB b9) b mb ⟨most, 0, []⟩ ⟨most, 0, [], none, 0⟩ w9 := PairW.start (hN0.ext (kpc : Keep NoB _ w9)) hmost (by
                  rintro k rfl
                  exact ⟨Has.lt, by omega, by omega⟩)
                haveI : NeB b9 b := ⟨by omega⟩
                haveI : NeB b9 mb := ⟨by omega⟩
                refine x_loop (fun m τ ds w' => ds = [] ∧ ∃ (k : Nat) (M : Net) (R : RefL), m = n - k ∧ k ≤ n ∧ PairW (OneB b9) b mb M R w' ∧ M.came ≤ k ∧ w'.heap[b9]? = some (.cells (refC R).toArray 47 (0, 0)) ∧ Ev τ 1 (.slice A n c) ∧ Ev τ 7 (.pointer (some ⟨b, 0, none⟩)) ∧ Ev τ 8 (.int .i64 0) ∧ Ev τ 9 (.pointer (some ⟨b9, 0, none⟩)) ∧ Ev τ 11 (.int .i64 (k : Int)) ∧ Lk w' w NoB) (n) ?start ?round
                case start =>
                  exact ⟨rfl, 0, _, _, rfl, by omega, hP0, by simp, Blk.eq, inferInstance, inferInstance, inferInstance, inferInstance, evc, lkc⟩
                case round =>
                  intro m τ10 ds10 w10 hI
                  obtain ⟨rfl, k2, M, R, rfl, hk2, hP, hcm, hb9r, e1, e7, e8, e9, e11, lk⟩ := hI
                  haveI : Blk w10 b9 _ := ⟨hb9r⟩
                  refine x_seq ?_
                  refine x_seq ?_
                  refine x_regionL ?_
                  refine xl_v v_move ?_
                  refine xl_v v_move ?_
                  refine xl_v v_len ?_
                  refine xl_v v_lss ?_
                  refine xl_nil ?_
                  first | refine x_condP (fun c3 => ?_) (fun c3 => ?_) | refine x_condN (fun c3 => ?_) (fun c3 => ?_) | refine x_condE (fun c3 => ?_) (fun c3 => ?_)
                  ·
                    have hk3 : k2 < xs.length := by omega
                    have hAlt : ∀ a, A = some a → a.block < w.heap.size := hrb.far.resolve_left (by
                      intro e
                      have h1 : (xs.flatMap msgC).length = xs.length * 3 := flat_len (enc := msgC) (sz := 3) (fun _ => rfl) xs
                      rw [e] at h1
                      simp at h1
                      omega)
                    have hgB := (Ge.le : w.heap.size ≤ (w10).heap.size)
                    haveI : RowOut (fun j => TwoB b mb j ∨ NewS w10 j) A := ⟨fun a ha e => by
                      have h1 := hAlt a ha
                      rcases e with (e | e) | e
                      · omega
                      · omega
                      · have e' : (w10).heap.size ≤ a.block := e
                        omega⟩
                    have hbB : b < (w10).heap.size ∧ mb < (w10).heap.size := by
                      obtain ⟨G, F, N, _, h2, _⟩ := hP.ex
                      exact ⟨h2.lt b (.inl rfl), h2.lt mb (.inr (.inl rfl))⟩
                    refine x_skip ?_
                    refine x_seq ?_
                    refine x_block ?_
                    refine x_seq ?_
                    refine x_drawL (fun j => TwoB b mb j ∨ NewS w10 j) (.take 0 (.take 1 (.take 2 (.take 3 (.take 4 (.take 5 (.take 6 (.fork 7 (.take 8 (.take 9 (.take 10 (.eff 11 (.eff 12 (.take 13 .done)))))) 11 (.eff 7 (.take 8 (.take 9 (.take 10 (.eff 12 (.take 13 .done)))))))))))))) mixed (by kernel_rfl) (fun _ _ _ _ _ h => h) (fun w11 l11 => ?_)
                    refine xt_v rfl v_move ?_
                    refine xt_v rfl (by first | exact v_loadA | exact v_loadF (by decide) (by omega)) ?_
                    refine xt_v rfl v_move ?_
                    refine xt_v rfl v_move ?_
                    refine xt_v rfl (v_indexF k2 (by decide) rfl (by omega) hk3) ?_
                    haveI hrx : RowB w xs[k2].A w (bytesC xs[k2].m.bytes) := rowB_of (hrs k2 hk3)
                    refine xt_v rfl (by first | exact v_loadA | exact v_loadF (by decide) (by omega)) ?_
                    refine xt_v rfl v_build ?_
                    refine xt_fork ?_ ?_
                    ·
                      refine xt_call rfl (act2_ok (fun j => j = b9 ∨ ((w10).heap.size ≤ j ∧ j < (w11).heap.size)) b mb M R ⟨0, 0, xs[k2]⟩ w11 w (hP.keep (kpc : Keep NoB _ w11) (fun _ _ h => h.elim) (fun j e => e.elim (fun e => ⟨e ▸ Has.lt, .inl e⟩) (fun e => ⟨e.2, .inr e.1⟩))) (by omega) in64_0 (by have := hmin2 k2 hk3; show xs[k2].m.bytes.length ≤ _; omega) (by omega) (by omega)) ?_
                      rintro _ w12 ⟨⟨R2, rfl, hP2⟩, lk3⟩
                      refine ⟨kpc, ?_⟩
                      have hsz := lk3.keep.size
                      first
                        | have hb12p : b12 < (w11).heap.size := Has.lt
                        | skip
                      refine xt_v rfl v_move ?_
                      refine xt_v rfl v_extract ?_
                      refine xt_v rfl v_extract ?_
                      refine xt_e rfl (e_alloc fun b12 w13 n12 l12 k12 => ?_)
                      have h12 := n12.eq
                      have hB12 : (w10).heap.size ≤ b12 := by rw [h12]; exact Ge.le
                      haveI : NeB b12 b := ⟨by omega⟩
                      haveI : NeB b12 mb := ⟨by omega⟩
                      refine xt_s rfl (e_storeA fun w14 l14 k14 => ?_)
                      refine xt_v rfl v_assign ?_
                      refine xt_nil ?_
                      refine x_seq ?_
                      refine x_regionL ?_
                      refine xl_v (by first | exact v_loadA | exact v_loadF (by decide) (by omega)) ?_
                      refine xl_s (e_storeA fun w15 l15 k15 => ?_)
                      refine xl_nil ?_
                      have hPn : PairW (OneB b9) b mb (M.step 0 0 xs[k2].m) R2 w15 := hP2.keep (kpc : Keep (fun j => OneB b9 j ∨ OneB b12 j) _ w15) (fun k hk e => by
                        rcases e with e | e
                        · exact .inl e
                        · have e' : k = b12 := e
                          exact .inr (by omega)) (fun k e => by
                        have e' : k = b9 := e
                        exact ⟨e' ▸ Has.lt, .inl (.inl e')⟩)
                      refine x_seq ?_
                      refine x_regionL ?_
                      refine xl_v v_move ?_
                      refine xl_v v_not ?_
                      refine xl_v v_move ?_
                      refine xl_gv rfl EvO.eq v_move ?_
                      refine xl_gv rfl EvO.eq (by first | exact v_loadA | exact v_loadF (by decide) (by omega)) ?_
                      refine xl_gcall rfl EvO.eq (is2_ok (OneB b9) b mb (M.step 0 0 xs[k2].m) R2 w15 (hPn.ext (kpc : Keep NoB _ w15))) ?_
                      rintro _ w16 ⟨rfl, lk4⟩
                      refine xl_gv rfl EvO.eq v_not ?_
                      refine xl_v (by first | exact v_pickT | exact v_pickF | exact v_pick) ?_
                      refine xl_nil ?_
                      refine x_condF ?_
                      refine x_skip ?_
                      refine x_regionL ?_
                      refine xl_v v_move ?_
                      refine xl_v (v_add (by omega)) ?_
                      refine xl_v v_assign ?_
                      refine xl_nil ?_
                      refine ⟨_, ?_, rfl, k2 + 1, M.step 0 0 xs[k2].m, R2, rfl, by omega, hPn.ext (kpc : Keep NoB _ w16), by have := (step_ok hP.ok 0 0 xs[k2].m).2; omega, Blk.eq, inferInstance, inferInstance, inferInstance, inferInstance, evc, lkc⟩
                      omega
                    ·
                      refine xt_e rfl (e_alloc fun b12 w17 n12 l12 k12 => ?_)
                      have h12 := n12.eq
                      have hB12 : (w10).heap.size ≤ b12 := by rw [h12]; exact Ge.le
                      haveI : NeB b12 b := ⟨by omega⟩
                      haveI : NeB b12 mb := ⟨by omega⟩
                      refine xt_call rfl (act2_ok (fun j => j = b9 ∨ ((w10).heap.size ≤ j ∧ j < (w17).heap.size)) b mb M R ⟨0, 0, xs[k2]⟩ w17 w (hP.keep (kpc : Keep NoB _ w17) (fun _ _ h => h.elim) (fun j e => e.elim (fun e => ⟨e ▸ Has.lt, .inl e⟩) (fun e => ⟨e.2, .inr e.1⟩))) (by omega) in64_0 (by have := hmin2 k2 hk3; show xs[k2].m.bytes.length ≤ _; omega) (by omega) (by omega)) ?_
                      rintro _ w18 ⟨⟨R2, rfl, hP2⟩, lk3⟩
                      refine ⟨kpc, ?_⟩
                      have hsz := lk3.keep.size
                      first
                        | have hb12p : b12 < (w17).heap.size := Has.lt
                        | skip
                      refine xt_v rfl v_move ?_
                      refine xt_v rfl v_extract ?_
                      refine xt_v rfl v_extract ?_
                      refine xt_s rfl (e_storeA fun w19 l19 k19 => ?_)
                      refine xt_v rfl v_assign ?_
                      refine xt_nil ?_
                      refine x_seq ?_
                      refine x_regionL ?_
                      refine xl_v (by first | exact v_loadA | exact v_loadF (by decide) (by omega)) ?_
                      refine xl_s (e_storeA fun w20 l20 k20 => ?_)
                      refine xl_nil ?_
                      have hPn : PairW (OneB b9) b mb (M.step 0 0 xs[k2].m) R2 w20 := hP2.keep (kpc : Keep (fun j => OneB b9 j ∨ OneB b12 j) _ w20) (fun k hk e => by
                        rcases e with e | e
                        · exact .inl e
                        · have e' : k = b12 := e
                          exact .inr (by omega)) (fun k e => by
                        have e' : k = b9 := e
                        exact ⟨e' ▸ Has.lt, .inl (.inl e')⟩)
                      refine x_seq ?_
                      refine x_regionL ?_
                      refine xl_v v_move ?_
                      refine xl_v v_not ?_
                      refine xl_v v_move ?_
                      refine xl_gv rfl EvO.eq v_move ?_
                      refine xl_gv rfl EvO.eq (by first | exact v_loadA | exact v_loadF (by decide) (by omega)) ?_
                      refine xl_gcall rfl EvO.eq (is2_ok (OneB b9) b mb (M.step 0 0 xs[k2].m) R2 w20 (hPn.ext (kpc : Keep NoB _ w20))) ?_
                      rintro _ w21 ⟨rfl, lk4⟩
                      refine xl_gv rfl EvO.eq v_not ?_
                      refine xl_v (by first | exact v_pickT | exact v_pickF | exact v_pick) ?_
                      refine xl_nil ?_
                      refine x_condF ?_
                      refine x_skip ?_
                      refine x_regionL ?_
                      refine xl_v v_move ?_
                      refine xl_v (v_add (by omega)) ?_
                      refine xl_v v_assign ?_
                      refine xl_nil ?_
                      refine ⟨_, ?_, rfl, k2 + 1, M.step 0 0 xs[k2].m, R2, rfl, by omega, hPn.ext (kpc : Keep NoB _ w21), by have := (step_ok hP.ok 0 0 xs[k2].m).2; omega, Blk.eq, inferInstance, inferInstance, inferInstance, inferInstance, evc, lkc⟩
                      omega
                  ·
                    refine x_exit ?_
                    refine x_seq ?_
                    refine x_regionL ?_
                    refine xl_v v_move ?_
                    refine xl_call (num_ok _ _) ?_
                    rintro _ _ ⟨rfl, rfl⟩
                    refine xl_v (v_congr (u := .bool true) v_eql (by simp)) ?_
                    refine xl_v v_move ?_
                    refine xl_gcall rfl EvO.eq (works_ok w10) ?_
                    rintro _ w23 ⟨rfl, lkw⟩
                    refine xl_v (by first | exact v_pickT | exact v_pickF | exact v_pick) ?_
                    refine xl_v v_assign ?_
                    refine xl_nil ?_
                    refine x_ret ?_
                    refine fin1 rfl ?_
                    exact ⟨rfl, lkc⟩
    ·
      refine xl_gs rfl EvO.eq ?_
      refine xl_gs rfl EvO.eq ?_
      refine xl_v (by first | exact v_pickT | exact v_pickF | exact v_pick) ?_
      refine xl_nil ?_
      refine x_condF ?_
      refine x_exit ?_
      refine x_seq ?_
      refine x_seq ?_
      refine x_regionL ?_
      refine xl_v v_move ?_
      refine xl_v v_lss ?_
      refine xl_v v_move ?_
      refine xl_split 36 (fun g36 => ?_) (fun g36 => ?_)
      ·
        refine xl_gs rfl EvO.eq ?_
        refine xl_gs rfl EvO.eq ?_
        refine xl_v (by first | exact v_pickT | exact v_pickF | exact v_pick) ?_
        refine xl_v v_move ?_
        refine xl_gs rfl EvO.eq ?_
        refine xl_gs rfl EvO.eq ?_
        refine xl_v (by first | exact v_pickT | exact v_pickF | exact v_pick) ?_
        refine xl_v v_move ?_
        refine xl_gs rfl EvO.eq ?_
        refine xl_gs rfl EvO.eq ?_
        refine xl_gs rfl EvO.eq ?_
        refine xl_v (by first | exact v_pickT | exact v_pickF | exact v_pick) ?_
        refine xl_nil ?_
        refine x_condT ?_
        refine x_seq ?_
        refine x_regionL ?_
        refine xl_call (works_ok w1) ?_
        rintro _ w24 ⟨rfl, lkw⟩
        refine xl_v v_assign ?_
        refine xl_nil ?_
        refine x_ret ?_
        refine fin1 rfl ?_
        exact ⟨rfl, lkc⟩
      ·
        refine xl_gv rfl EvO.eq v_move ?_
        refine xl_gv rfl EvO.eq v_gtr ?_
        refine xl_v (by first | exact v_pickT | exact v_pickF | exact v_pick) ?_
        refine xl_v v_move ?_
        refine xl_split 40 (fun g40 => ?_) (fun g40 => ?_)
        ·
          refine xl_gs rfl EvO.eq ?_
          refine xl_gs rfl EvO.eq ?_
          refine xl_v (by first | exact v_pickT | exact v_pickF | exact v_pick) ?_
          refine xl_v v_move ?_
          refine xl_gs rfl EvO.eq ?_
          refine xl_gs rfl EvO.eq ?_
          refine xl_gs rfl EvO.eq ?_
          refine xl_v (by first | exact v_pickT | exact v_pickF | exact v_pick) ?_
          refine xl_nil ?_
          refine x_condT ?_
          refine x_seq ?_
          refine x_regionL ?_
          refine xl_call (works_ok w1) ?_
          rintro _ w25 ⟨rfl, lkw⟩
          refine xl_v v_assign ?_
          refine xl_nil ?_
          refine x_ret ?_
          refine fin1 rfl ?_
          exact ⟨rfl, lkc⟩
        ·
          refine xl_gv rfl EvO.eq v_move ?_
          refine xl_gv rfl EvO.eq v_gtr ?_
          refine xl_v (by first | exact v_pickT | exact v_pickF | exact v_pick) ?_
          refine xl_v v_move ?_
          refine xl_split 44 (fun g44 => ?_) (fun g44 => ?_)
          ·
            refine xl_gs rfl EvO.eq ?_
            refine xl_gs rfl EvO.eq ?_
            refine xl_gs rfl EvO.eq ?_
            refine xl_v (by first | exact v_pickT | exact v_pickF | exact v_pick) ?_
            refine xl_nil ?_
            refine x_condT ?_
            refine x_seq ?_
            refine x_regionL ?_
            refine xl_call (works_ok w1) ?_
            rintro _ w26 ⟨rfl, lkw⟩
            refine xl_v v_assign ?_
            refine xl_nil ?_
            refine x_ret ?_
            refine fin1 rfl ?_
            exact ⟨rfl, lkc⟩
          ·
            refine xl_gv rfl EvO.eq v_move ?_
            refine xl_gv rfl EvO.eq v_len ?_
            refine xl_gv rfl EvO.eq v_gtr ?_
            refine xl_v (by first | exact v_pickT | exact v_pickF | exact v_pick) ?_
            refine xl_nil ?_
            first | refine x_condP (fun c2 => ?_) (fun c2 => ?_) | refine x_condN (fun c2 => ?_) (fun c2 => ?_) | refine x_condE (fun c2 => ?_) (fun c2 => ?_)
            ·
              refine x_seq ?_
              refine x_regionL ?_
              refine xl_call (works_ok w1) ?_
              rintro _ w27 ⟨rfl, lkw⟩
              refine xl_v v_assign ?_
              refine xl_nil ?_
              refine x_ret ?_
              refine fin1 rfl ?_
              exact ⟨rfl, lkc⟩
            ·
              have hmost : 1 ≤ most ∧ most ≤ 4096 := by simp at g36 g40; omega
              have hs9 : s ≤ 9000 := by simp at g44; omega
              have hke : k = n := by
                first
                  | omega
                  | (simp at g18; omega)
              have hn40 : n ≤ 40 := by simp at c2; omega
              have hmin2 : ∀ j (h : j < xs.length), xs[j].m.bytes.length ≤ 9000 := fun j hj => by have := hmin j hj (by omega); omega
              clear e5 e6
              refine x_skip ?_
              refine x_seq ?_
              refine x_regionL ?_
              refine xl_v v_move ?_
              refine xl_call (new_ok most w1) ?_
              rintro _ w28 ⟨hnew, lk1⟩
              rw [if_pos hmost] at hnew
              obtain ⟨b, mb, rfl, hN0, hgb, hgm⟩ := hnew
              have hg01 := (Ge.le : w.heap.size ≤ (w1).heap.size)
              haveI sT : SubF (TwoB b mb) NoB w := ⟨fun k hk e => by rcases e with e | e <;> omega⟩
              haveI : Above (TwoB b mb) w := ⟨fun k e => by rcases e with e | e <;> omega⟩
              have hbl := hN0.lt b (.inl rfl)
              have hml := hN0.lt mb (.inr (.inl rfl))
              refine xl_v v_move ?_
              refine xl_v v_extract ?_
              refine xl_v v_extract ?_
              refine xl_v v_assign ?_
              refine xl_v v_assign ?_
              refine xl_nil ?_
              refine x_seq ?_
              refine x_regionL ?_
              refine xl_v v_move ?_
              refine xl_call (refnew_ok most w28) ?_
              rintro _ w29 ⟨hnw, lk2⟩
              rw [if_pos hmost] at hnw
              obtain rfl := hnw
              have hg23 := (Ge.le : (w28).heap.size ≤ (w29).heap.size)
              refine xl_v v_move ?_
              refine xl_v v_extract ?_
              refine xl_v v_extract ?_
              refine xl_e (e_alloc fun b9 w30 n9 l9 k9 => ?_)
              refine xl_s (e_storeA fun w31 l31 k31 => ?_)
              refine xl_v v_assign ?_
              refine xl_nil ?_
              have hb9 := n9.eq
              have hb9w : w.heap.size ≤ b9 := by rw [n9.eq]; exact Ge.le
              refine x_seq ?_
              refine x_seq ?_
              refine x_regionL ?_
              refine xl_v v_assign ?_
              refine xl_nil ?_
              refine x_block ?_
              have hP0 : PairW (OneB b9) b mb ⟨most, 0, []⟩ ⟨most, 0, [], none, 0⟩ w31 := PairW.start (hN0.ext (kpc : Keep NoB _ w31)) hmost (by
                rintro k rfl
                exact ⟨Has.lt, by omega, by omega⟩)
              haveI : NeB b9 b := ⟨by omega⟩
              haveI : NeB b9 mb := ⟨by omega⟩
              refine x_loop (fun m τ ds w' => ds = [] ∧ ∃ (k : Nat) (M : Net) (R : RefL), m = n - k ∧ k ≤ n ∧ PairW (OneB b9) b mb M R w' ∧ M.came ≤ k ∧ w'.heap[b9]? = some (.cells (refC R).toArray 47 (0, 0)) ∧ Ev τ 1 (.slice A n c) ∧ Ev τ 7 (.pointer (some ⟨b, 0, none⟩)) ∧ Ev τ 8 (.int .i64 0) ∧ Ev τ 9 (.pointer (some ⟨b9, 0, none⟩)) ∧ Ev τ 11 (.int .i64 (k : Int)) ∧ Lk w' w NoB) (n) ?start ?round
              case start =>
                exact ⟨rfl, 0, _, _, rfl, by omega, hP0, by simp, Blk.eq, inferInstance, inferInstance, inferInstance, inferInstance, evc, lkc⟩
              case round =>
                intro m τ32 ds32 w32 hI
                obtain ⟨rfl, k2, M, R, rfl, hk2, hP, hcm, hb9r, e1, e7, e8, e9, e11, lk⟩ := hI
                haveI : Blk w32 b9 _ := ⟨hb9r⟩
                refine x_seq ?_
                refine x_seq ?_
                refine x_regionL ?_
                refine xl_v v_move ?_
                refine xl_v v_move ?_
                refine xl_v v_len ?_
                refine xl_v v_lss ?_
                refine xl_nil ?_
                first | refine x_condP (fun c3 => ?_) (fun c3 => ?_) | refine x_condN (fun c3 => ?_) (fun c3 => ?_) | refine x_condE (fun c3 => ?_) (fun c3 => ?_)
                ·
                  have hk3 : k2 < xs.length := by omega
                  have hAlt : ∀ a, A = some a → a.block < w.heap.size := hrb.far.resolve_left (by
                    intro e
                    have h1 : (xs.flatMap msgC).length = xs.length * 3 := flat_len (enc := msgC) (sz := 3) (fun _ => rfl) xs
                    rw [e] at h1
                    simp at h1
                    omega)
                  have hgB := (Ge.le : w.heap.size ≤ (w32).heap.size)
                  haveI : RowOut (fun j => TwoB b mb j ∨ NewS w32 j) A := ⟨fun a ha e => by
                    have h1 := hAlt a ha
                    rcases e with (e | e) | e
                    · omega
                    · omega
                    · have e' : (w32).heap.size ≤ a.block := e
                      omega⟩
                  have hbB : b < (w32).heap.size ∧ mb < (w32).heap.size := by
                    obtain ⟨G, F, N, _, h2, _⟩ := hP.ex
                    exact ⟨h2.lt b (.inl rfl), h2.lt mb (.inr (.inl rfl))⟩
                  refine x_skip ?_
                  refine x_seq ?_
                  refine x_block ?_
                  refine x_seq ?_
                  refine x_drawL (fun j => TwoB b mb j ∨ NewS w32 j) (.take 0 (.take 1 (.take 2 (.take 3 (.take 4 (.take 5 (.take 6 (.fork 7 (.take 8 (.take 9 (.take 10 (.eff 11 (.eff 12 (.take 13 .done)))))) 11 (.eff 7 (.take 8 (.take 9 (.take 10 (.eff 12 (.take 13 .done)))))))))))))) mixed (by kernel_rfl) (fun _ _ _ _ _ h => h) (fun w33 l33 => ?_)
                  refine xt_v rfl v_move ?_
                  refine xt_v rfl (by first | exact v_loadA | exact v_loadF (by decide) (by omega)) ?_
                  refine xt_v rfl v_move ?_
                  refine xt_v rfl v_move ?_
                  refine xt_v rfl (v_indexF k2 (by decide) rfl (by omega) hk3) ?_
                  haveI hrx : RowB w xs[k2].A w (bytesC xs[k2].m.bytes) := rowB_of (hrs k2 hk3)
                  refine xt_v rfl (by first | exact v_loadA | exact v_loadF (by decide) (by omega)) ?_
                  refine xt_v rfl v_build ?_
                  refine xt_fork ?_ ?_
                  ·
                    refine xt_call rfl (act2_ok (fun j => j = b9 ∨ ((w32).heap.size ≤ j ∧ j < (w33).heap.size)) b mb M R ⟨0, 0, xs[k2]⟩ w33 w (hP.keep (kpc : Keep NoB _ w33) (fun _ _ h => h.elim) (fun j e => e.elim (fun e => ⟨e ▸ Has.lt, .inl e⟩) (fun e => ⟨e.2, .inr e.1⟩))) (by omega) in64_0 (by have := hmin2 k2 hk3; show xs[k2].m.bytes.length ≤ _; omega) (by omega) (by omega)) ?_
                    rintro _ w34 ⟨⟨R2, rfl, hP2⟩, lk3⟩
                    refine ⟨kpc, ?_⟩
                    have hsz := lk3.keep.size
                    first
                      | have hb12p : b12 < (w33).heap.size := Has.lt
                      | skip
                    refine xt_v rfl v_move ?_
                    refine xt_v rfl v_extract ?_
                    refine xt_v rfl v_extract ?_
                    refine xt_e rfl (e_alloc fun b12 w35 n12 l12 k12 => ?_)
                    have h12 := n12.eq
                    have hB12 : (w32).heap.size ≤ b12 := by rw [h12]; exact Ge.le
                    haveI : NeB b12 b := ⟨by omega⟩
                    haveI : NeB b12 mb := ⟨by omega⟩
                    refine xt_s rfl (e_storeA fun w36 l36 k36 => ?_)
                    refine xt_v rfl v_assign ?_
                    refine xt_nil ?_
                    refine x_seq ?_
                    refine x_regionL ?_
                    refine xl_v (by first | exact v_loadA | exact v_loadF (by decide) (by omega)) ?_
                    refine xl_s (e_storeA fun w37 l37 k37 => ?_)
                    refine xl_nil ?_
                    have hPn : PairW (OneB b9) b mb (M.step 0 0 xs[k2].m) R2 w37 := hP2.keep (kpc : Keep (fun j => OneB b9 j ∨ OneB b12 j) _ w37) (fun k hk e => by
                      rcases e with e | e
                      · exact .inl e
                      · have e' : k = b12 := e
                        exact .inr (by omega)) (fun k e => by
                      have e' : k = b9 := e
                      exact ⟨e' ▸ Has.lt, .inl (.inl e')⟩)
                    refine x_seq ?_
                    refine x_regionL ?_
                    refine xl_v v_move ?_
                    refine xl_v v_not ?_
                    refine xl_v v_move ?_
                    refine xl_gv rfl EvO.eq v_move ?_
                    refine xl_gv rfl EvO.eq (by first | exact v_loadA | exact v_loadF (by decide) (by omega)) ?_
                    refine xl_gcall rfl EvO.eq (is2_ok (OneB b9) b mb (M.step 0 0 xs[k2].m) R2 w37 (hPn.ext (kpc : Keep NoB _ w37))) ?_
                    rintro _ w38 ⟨rfl, lk4⟩
                    refine xl_gv rfl EvO.eq v_not ?_
                    refine xl_v (by first | exact v_pickT | exact v_pickF | exact v_pick) ?_
                    refine xl_nil ?_
                    refine x_condF ?_
                    refine x_skip ?_
                    refine x_regionL ?_
                    refine xl_v v_move ?_
                    refine xl_v (v_add (by omega)) ?_
                    refine xl_v v_assign ?_
                    refine xl_nil ?_
                    refine ⟨_, ?_, rfl, k2 + 1, M.step 0 0 xs[k2].m, R2, rfl, by omega, hPn.ext (kpc : Keep NoB _ w38), by have := (step_ok hP.ok 0 0 xs[k2].m).2; omega, Blk.eq, inferInstance, inferInstance, inferInstance, inferInstance, evc, lkc⟩
                    omega
                  ·
                    refine xt_e rfl (e_alloc fun b12 w39 n12 l12 k12 => ?_)
                    have h12 := n12.eq
                    have hB12 : (w32).heap.size ≤ b12 := by rw [h12]; exact Ge.le
                    haveI : NeB b12 b := ⟨by omega⟩
                    haveI : NeB b12 mb := ⟨by omega⟩
                    refine xt_call rfl (act2_ok (fun j => j = b9 ∨ ((w32).heap.size ≤ j ∧ j < (w39).heap.size)) b mb M R ⟨0, 0, xs[k2]⟩ w39 w (hP.keep (kpc : Keep NoB _ w39) (fun _ _ h => h.elim) (fun j e => e.elim (fun e => ⟨e ▸ Has.lt, .inl e⟩) (fun e => ⟨e.2, .inr e.1⟩))) (by omega) in64_0 (by have := hmin2 k2 hk3; show xs[k2].m.bytes.length ≤ _; omega) (by omega) (by omega)) ?_
                    rintro _ w40 ⟨⟨R2, rfl, hP2⟩, lk3⟩
                    refine ⟨kpc, ?_⟩
                    have hsz := lk3.keep.size
                    first
                      | have hb12p : b12 < (w39).heap.size := Has.lt
                      | skip
                    refine xt_v rfl v_move ?_
                    refine xt_v rfl v_extract ?_
                    refine xt_v rfl v_extract ?_
                    refine xt_s rfl (e_storeA fun w41 l41 k41 => ?_)
                    refine xt_v rfl v_assign ?_
                    refine xt_nil ?_
                    refine x_seq ?_
                    refine x_regionL ?_
                    refine xl_v (by first | exact v_loadA | exact v_loadF (by decide) (by omega)) ?_
                    refine xl_s (e_storeA fun w42 l42 k42 => ?_)
                    refine xl_nil ?_
                    have hPn : PairW (OneB b9) b mb (M.step 0 0 xs[k2].m) R2 w42 := hP2.keep (kpc : Keep (fun j => OneB b9 j ∨ OneB b12 j) _ w42) (fun k hk e => by
                      rcases e with e | e
                      · exact .inl e
                      · have e' : k = b12 := e
                        exact .inr (by omega)) (fun k e => by
                      have e' : k = b9 := e
                      exact ⟨e' ▸ Has.lt, .inl (.inl e')⟩)
                    refine x_seq ?_
                    refine x_regionL ?_
                    refine xl_v v_move ?_
                    refine xl_v v_not ?_
                    refine xl_v v_move ?_
                    refine xl_gv rfl EvO.eq v_move ?_
                    refine xl_gv rfl EvO.eq (by first | exact v_loadA | exact v_loadF (by decide) (by omega)) ?_
                    refine xl_gcall rfl EvO.eq (is2_ok (OneB b9) b mb (M.step 0 0 xs[k2].m) R2 w42 (hPn.ext (kpc : Keep NoB _ w42))) ?_
                    rintro _ w43 ⟨rfl, lk4⟩
                    refine xl_gv rfl EvO.eq v_not ?_
                    refine xl_v (by first | exact v_pickT | exact v_pickF | exact v_pick) ?_
                    refine xl_nil ?_
                    refine x_condF ?_
                    refine x_skip ?_
                    refine x_regionL ?_
                    refine xl_v v_move ?_
                    refine xl_v (v_add (by omega)) ?_
                    refine xl_v v_assign ?_
                    refine xl_nil ?_
                    refine ⟨_, ?_, rfl, k2 + 1, M.step 0 0 xs[k2].m, R2, rfl, by omega, hPn.ext (kpc : Keep NoB _ w43), by have := (step_ok hP.ok 0 0 xs[k2].m).2; omega, Blk.eq, inferInstance, inferInstance, inferInstance, inferInstance, evc, lkc⟩
                    omega
                ·
                  refine x_exit ?_
                  refine x_seq ?_
                  refine x_regionL ?_
                  refine xl_v v_move ?_
                  refine xl_call (num_ok _ _) ?_
                  rintro _ _ ⟨rfl, rfl⟩
                  refine xl_v (v_congr (u := .bool true) v_eql (by simp)) ?_
                  refine xl_v v_move ?_
                  refine xl_gcall rfl EvO.eq (works_ok w32) ?_
                  rintro _ w45 ⟨rfl, lkw⟩
                  refine xl_v (by first | exact v_pickT | exact v_pickF | exact v_pick) ?_
                  refine xl_v v_assign ?_
                  refine xl_nil ?_
                  refine x_ret ?_
                  refine fin1 rfl ?_
                  exact ⟨rfl, lkc⟩

/-- waystation/waystationlaw05.NetPicks -/
theorem netPicks_ok (many pick : Int) (w : World) (hpk : In64 pick) : Ret Try.prog 6 #[.int .i64 many, .int .i64 pick] w (fun v w' => v = .bool true ∧ Lk w' w NoB) := by
  refine ret_of_x (N := 79) (l := [.int .i64 many, .int .i64 pick]) Try.func6 rfl rfl (Nat.le_of_ble_eq_true rfl) ?_
  refine x_seq ?_
  refine x_regionL ?_
  refine xl_v v_assign ?_
  refine xl_nil ?_
  refine x_seq ?_
  refine x_seq ?_
  refine x_regionL ?_
  refine xl_v v_move ?_
  refine xl_v v_lss ?_
  refine xl_v v_move ?_
  refine xl_split 16 (fun g16 => ?_) (fun g16 => ?_)
  ·
    refine xl_gs rfl EvO.eq ?_
    refine xl_gs rfl EvO.eq ?_
    refine xl_v (by first | exact v_pickT | exact v_pickF | exact v_pick) ?_
    refine xl_nil ?_
    refine x_condT ?_
    refine x_seq ?_
    refine x_regionL ?_
    refine xl_call (works_ok w) ?_
    rintro _ w1 ⟨rfl, lkw⟩
    refine xl_v v_assign ?_
    refine xl_nil ?_
    refine x_ret ?_
    refine fin1 rfl ?_
    exact ⟨rfl, lkc⟩
  ·
    refine xl_gv rfl EvO.eq v_move ?_
    refine xl_gv rfl EvO.eq v_gtr ?_
    refine xl_v (by first | exact v_pickT | exact v_pickF | exact v_pick) ?_
    refine xl_nil ?_
    first | refine x_condP (fun c1 => ?_) (fun c1 => ?_) | refine x_condN (fun c1 => ?_) (fun c1 => ?_) | refine x_condE (fun c1 => ?_) (fun c1 => ?_)
    ·
      refine x_seq ?_
      refine x_regionL ?_
      refine xl_call (works_ok w) ?_
      rintro _ w2 ⟨rfl, lkw⟩
      refine xl_v v_assign ?_
      refine xl_nil ?_
      refine x_ret ?_
      refine fin1 rfl ?_
      exact ⟨rfl, lkc⟩
    ·
      have hmany : 0 ≤ many ∧ many ≤ 60 := by simp at g16; omega
      refine x_skip ?_
      refine x_seq ?_
      refine x_regionL ?_
      refine xl_call (new_ok 64 w) ?_
      rintro _ w3 ⟨hnew, lk1⟩
      rw [if_pos ⟨by decide, by decide⟩] at hnew
      obtain ⟨b, mb, rfl, hN0, hgb, hgm⟩ := hnew
      haveI sT : SubF (TwoB b mb) NoB w := ⟨fun k hk e => by rcases e with e | e <;> omega⟩
      have hbl := hN0.lt b (.inl rfl)
      have hml := hN0.lt mb (.inr (.inl rfl))
      refine xl_v v_move ?_
      refine xl_v v_extract ?_
      refine xl_v v_extract ?_
      refine xl_v v_assign ?_
      refine xl_v v_assign ?_
      refine xl_nil ?_
      refine x_seq ?_
      refine x_regionL ?_
      refine xl_call (refnew_ok 64 w3) ?_
      rintro _ w4 ⟨hnw, lk2⟩
      rw [if_pos ⟨by decide, by decide⟩] at hnw
      obtain rfl := hnw
      have hg23 := (Ge.le : (w3).heap.size ≤ (w4).heap.size)
      refine xl_v v_move ?_
      refine xl_v v_extract ?_
      refine xl_v v_extract ?_
      refine xl_e (e_alloc fun b9 w5 n9 l9 k9 => ?_)
      refine xl_s (e_storeA fun w6 l6 k6 => ?_)
      refine xl_v v_assign ?_
      refine xl_nil ?_
      have hb9 := n9.eq
      have hb9w : w.heap.size ≤ b9 := by rw [n9.eq]; exact Ge.le
      refine x_seq ?_
      refine x_seq ?_
      refine x_regionL ?_
      refine xl_v v_assign ?_
      refine xl_nil ?_
      refine x_block ?_
      have hP0 : PairW (OneB b9) b mb ⟨64, 0, []⟩ ⟨64, 0, [], none, 0⟩ w6 := PairW.start (hN0.ext (kpc : Keep NoB _ w6)) ⟨by decide, by decide⟩ (by
        rintro k rfl
        exact ⟨Has.lt, by omega, by omega⟩)
      haveI : NeB b9 b := ⟨by omega⟩
      haveI : NeB b9 mb := ⟨by omega⟩
      refine x_loop (fun m τ ds w' => ds = [] ∧ ∃ (k : Nat) (M : Net) (R : RefL), m = 60 - k ∧ (k : Int) ≤ many ∧ PairW (OneB b9) b mb M R w' ∧ M.came ≤ k ∧ w'.heap[b9]? = some (.cells (refC R).toArray 47 (0, 0)) ∧ Ev τ 0 (.int .i64 many) ∧ Ev τ 1 (.int .i64 pick) ∧ Ev τ 5 (.pointer (some ⟨b, 0, none⟩)) ∧ Ev τ 6 (.int .i64 0) ∧ Ev τ 7 (.pointer (some ⟨b9, 0, none⟩)) ∧ Ev τ 9 (.int .i64 (k : Int)) ∧ Lk w' w NoB) (60) ?start ?round
      case start =>
        exact ⟨rfl, 0, _, _, rfl, by omega, hP0, by simp, Blk.eq, inferInstance, inferInstance, inferInstance, inferInstance, inferInstance, evc, lkc⟩
      case round =>
        intro m τ7 ds7 w7 hI
        obtain ⟨rfl, k, M, R, rfl, hk, hP, hcm, hb9r, e0, e1, e5, e6, e7, e9, lk⟩ := hI
        haveI : Blk w7 b9 _ := ⟨hb9r⟩
        refine x_seq ?_
        refine x_seq ?_
        refine x_regionL ?_
        refine xl_v v_move ?_
        refine xl_v v_move ?_
        refine xl_v v_lss ?_
        refine xl_nil ?_
        first | refine x_condP (fun c2 => ?_) (fun c2 => ?_) | refine x_condN (fun c2 => ?_) (fun c2 => ?_) | refine x_condE (fun c2 => ?_) (fun c2 => ?_)
        ·
          obtain ⟨z, hz⟩ := byte_wrap (k : Int) (by omega)
          obtain ⟨G, F, N, hN1, hN2, hR1, hFN, hPP⟩ := hP.ex
          refine x_skip ?_
          refine x_seq ?_
          refine x_block ?_
          refine x_seq ?_
          refine x_regionL ?_
          refine xl_v v_move ?_
          refine xl_v v_move ?_
          refine xl_v (v_sub (by omega)) ?_
          refine xl_v v_move ?_
          refine xl_v (v_congr (u := byteC z) v_convert hz) ?_
          refine xl_e (e_buildSlice1 rfl fun b8 w8 n8 l8 k8 => ?_)
          refine xl_v v_build ?_
          refine xl_e (e_alloc fun b10 w9 n10 l10 k10 => ?_)
          refine xl_s (e_storeA fun w10 l10 k10 => ?_)
          refine xl_nil ?_
          refine x_seq ?_
          refine x_regionL ?_
          refine xl_v (by first | exact v_loadA | exact v_loadF (by decide) (by omega)) ?_
          refine xl_v (by first | exact v_loadA | exact v_loadF (by decide) (by omega)) ?_
          refine xl_call (refput_ok R F ⟨⟨k, 63 - k, [z]⟩, _, 1⟩ w10 (hR1.ext (kpc : Keep NoB _ w10)) (hP.rp ▸ hP.ok) (by rw [show R.came = R.pure.came from rfl, hP.rp]; omega)) ?_
          rintro _ w11 ⟨⟨R2, F2, rfl, hR2p, hR2, hF2⟩, lk3⟩
          have hg1 := (Ge.le : (w7).heap.size ≤ (w10).heap.size)
          refine xl_v v_move ?_
          refine xl_v v_extract ?_
          refine xl_v v_extract ?_
          refine xl_v v_extract ?_
          refine xl_s (e_storeA fun w12 l12 k12 => ?_)
          refine xl_nil ?_
          refine x_regionL ?_
          refine xl_v v_move ?_
          refine xl_v (by first | exact v_loadA | exact v_loadF (by decide) (by omega)) ?_
          refine xl_call (put_ok b mb G N ⟨⟨k, 63 - k, [z]⟩, _, 1⟩ w12 (hN2.keep (kpc : Keep (OneB b9) _ w12) (fun j hj e => (hPP j e).2.2 hj)) (hN1 ▸ hP.ok) (by show N.pure.came ≤ _; rw [hN1]; omega)) ?_
          rintro _ w13 ⟨rfl, lk4, G3, N3, hN3, hp3, hs3, _⟩
          have hg2 := (Ge.le : (w7).heap.size ≤ (w12).heap.size)
          have hg3 := lk4.keep.size
          have hRp : RefAt w12 F2 R2 := hR2.keep (kpc : Keep (OneB b9) _ w12) (fun j hj e => by
            have e' : j = b9 := e
            rcases hF2 j hj with h7 | h7
            · exact (hPP j e').2.1 h7
            · have := (hPP j e').1; omega)
          obtain ⟨q1, q2⟩ := pair_put hFN hR1.lt hN2.lt hPP hg1 hg2 (Nat.le_trans hg2 hg3) hF2 hRp.lt hs3
          have hPn : PairW (OneB b9) b mb (M.putM ⟨k, 63 - k, [z]⟩) R2 w13 := ⟨hP.ok.put _, by rw [hR2p, hP.rp], G3, F2, N3, by rw [hp3, hN1], hN3, hRp.keep lk4.keep (fun j hj e => q1 j hj (e.elim .inl (fun e => .inr (.inl e)))), q1, q2⟩
          have hcn : (M.putM ⟨k, 63 - k, [z]⟩).came ≤ k + 1 := by rw [Net.putM]; split <;> first | omega | (simp; omega)
          refine xl_nil ?_
          refine x_regionL ?_
          refine xl_v v_move ?_
          refine xl_v (v_add (by omega)) ?_
          refine xl_v v_assign ?_
          refine xl_nil ?_
          refine ⟨_, ?_, rfl, k + 1, M.putM ⟨k, 63 - k, [z]⟩, R2, rfl, by omega, hPn.ext (kpc : Keep NoB _ w13), hcn, Blk.eq, inferInstance, inferInstance, inferInstance, inferInstance, inferInstance, evc, lkc⟩
          omega
        ·
          refine x_exit ?_
          refine x_seq ?_
          refine x_seq ?_
          refine x_regionL ?_
          refine xl_v v_assign ?_
          refine xl_nil ?_
          refine x_block ?_
          have hPs := hP.ext (kpc : Keep NoB _ w7)
          have hM0 := hcm
          haveI hb9L : Blk w7 b9 _ := ⟨hb9r⟩
          have hk60 : k ≤ 60 := by omega
          refine x_loop (fun m τ ds w' => ds = [] ∧ ∃ (q : Nat) (M : Net) (R : RefL), m = 5 - q ∧ 1 ≤ q ∧ q ≤ 5 ∧ PairW (OneB b9) b mb M R w' ∧ M.came ≤ 60 + q ∧ w'.heap[b9]? = some (.cells (refC R).toArray 47 (0, 0)) ∧ Ev τ 1 (.int .i64 pick) ∧ Ev τ 5 (.pointer (some ⟨b, 0, none⟩)) ∧ Ev τ 6 (.int .i64 0) ∧ Ev τ 7 (.pointer (some ⟨b9, 0, none⟩)) ∧ Ev τ 11 (.int .i64 (q : Int)) ∧ Lk w' w NoB) (4) ?start ?round
          case start =>
            exact ⟨rfl, 1, _, _, rfl, by omega, by omega, hPs, by omega, Blk.eq, inferInstance, inferInstance, inferInstance, inferInstance, evc, lkc⟩
          case round =>
            intro m τ14 ds14 w14 hI
            obtain ⟨rfl, q, M, R, rfl, hq1, hq5, hP, hcm, hb9r, e1, e5, e6, e7, e11, lk⟩ := hI
            haveI : Blk w14 b9 _ := ⟨hb9r⟩
            haveI hrn := rowB_none w14 w none
            refine x_seq ?_
            refine x_seq ?_
            refine x_regionL ?_
            refine xl_v v_move ?_
            refine xl_v v_lss ?_
            refine xl_nil ?_
            first | refine x_condP (fun c3 => ?_) (fun c3 => ?_) | refine x_condN (fun c3 => ?_) (fun c3 => ?_) | refine x_condE (fun c3 => ?_) (fun c3 => ?_)
            ·
              refine x_skip ?_
              refine x_seq ?_
              refine x_block ?_
              refine x_seq ?_
              refine x_regionL ?_
              refine xl_v v_move ?_
              refine xl_v (by first | exact v_loadA | exact v_loadF (by decide) (by omega)) ?_
              refine xl_v v_move ?_
              refine xl_v v_move ?_
              refine xl_v v_build ?_
              refine xl_call (act2_ok (OneB b9) b mb M R ⟨q, pick, ⟨zeroMsg, none, 0⟩⟩ w14 w (hP.ext (kpc : Keep NoB _ w14)) (by omega) hpk (by show (0 : Nat) ≤ 100000; decide) (by omega) (by omega) (hr := rowB_none _ _ _)) ?_
              rintro _ w15 ⟨⟨R2, rfl, hP2⟩, lk3⟩
              have hsz := lk3.keep.size
              refine xl_v v_move ?_
              refine xl_v v_extract ?_
              refine xl_v v_extract ?_
              refine xl_e (e_alloc fun b16 w16 n16 l16 k16 => ?_)
              refine xl_s (e_storeA fun w17 l17 k17 => ?_)
              refine xl_v v_assign ?_
              refine xl_nil ?_
              refine x_seq ?_
              refine x_regionL ?_
              refine xl_v (by first | exact v_loadA | exact v_loadF (by decide) (by omega)) ?_
              refine xl_s (e_storeA fun w18 l18 k18 => ?_)
              refine xl_nil ?_
              have hPn := hP2.cell (kpc : Keep (OneB b9) _ w18) (fun k _ e => e)
              refine x_seq ?_
              refine x_regionL ?_
              refine xl_v v_move ?_
              refine xl_v v_not ?_
              refine xl_v v_move ?_
              refine xl_gv rfl EvO.eq v_move ?_
              refine xl_gv rfl EvO.eq (by first | exact v_loadA | exact v_loadF (by decide) (by omega)) ?_
              refine xl_gcall rfl EvO.eq (is2_ok (OneB b9) b mb (M.step q pick zeroMsg) R2 w18 (hPn.ext (kpc : Keep NoB _ w18))) ?_
              rintro _ w19 ⟨rfl, lk4⟩
              refine xl_gv rfl EvO.eq v_not ?_
              refine xl_v (by first | exact v_pickT | exact v_pickF | exact v_pick) ?_
              refine xl_nil ?_
              refine x_condF ?_
              refine x_skip ?_
              refine x_regionL ?_
              refine xl_v v_move ?_
              refine xl_v (v_add (by omega)) ?_
              refine xl_v v_assign ?_
              refine xl_nil ?_
              refine ⟨_, ?_, rfl, q + 1, M.step q pick zeroMsg, R2, rfl, by omega, by omega, hPn.ext (kpc : Keep NoB _ w19), by have := (step_ok hP.ok q pick zeroMsg).2; omega, Blk.eq, inferInstance, inferInstance, inferInstance, inferInstance, evc, lkc⟩
              omega
            ·
              refine x_exit ?_
              refine x_seq ?_
              refine x_regionL ?_
              refine xl_v v_move ?_
              refine xl_call (num_ok _ _) ?_
              rintro _ _ ⟨rfl, rfl⟩
              refine xl_v (v_congr (u := .bool true) v_eql (by simp)) ?_
              refine xl_v v_move ?_
              refine xl_gcall rfl EvO.eq (works_ok w14) ?_
              rintro _ w21 ⟨rfl, lkw⟩
              refine xl_v (by first | exact v_pickT | exact v_pickF | exact v_pick) ?_
              refine xl_v v_assign ?_
              refine xl_nil ?_
              refine x_ret ?_
              refine fin1 rfl ?_
              exact ⟨rfl, lkc⟩
end Go.Proofs.Ytacadajlpmhcfaa
