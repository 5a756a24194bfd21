/-
  Walks, printed by a program of this workplace (wip/tools/sx.py) off the functions' code and a text of contracts.
-/
import Derived.Test.YtabknhgbijcklaaY
set_option linter.all false
set_option maxRecDepth 100000
set_option synthInstance.maxSize 100000
set_option synthInstance.maxHeartbeats 400000
namespace Go.Proofs.Ytabknhgbijcklaa
open Go.Wst
open Go.Wst.Dm
instance subF_wide1 (Q : Nat → Prop) (w W w0 : World) : SubF (NotP (wide Q w W)) (NotP Q) w0 := ⟨fun k _ e e2 => e (.inl e2)⟩
instance notS_wide1 (Q : Nat → Prop) (w W : World) (b : Nat) [h : NotS (NotP Q) b] : NotS (NotP (wide Q w W)) b := ⟨fun e => h.not (fun q => e (.inl q))⟩
theorem PairD.wide {P R : Nat → Prop} {d : Nat} {M : Disk} {Rf : LRef} {w W : World} (h : PairD P R d M Rf w) (hk : Keep NoB w W) : PairD (wide P w W) (wide R w W) d M Rf W :=
  h.keep hk (fun _ _ h => h.elim) (fun k e => by
    rcases e with e | e
    · exact ⟨Nat.lt_of_lt_of_le (h.lt.1 k e) hk.size, .inl e⟩
    · exact ⟨e.2, .inr e.1⟩) (fun k e => by
    rcases e with e | e
    · exact ⟨Nat.lt_of_lt_of_le (h.lt.2 k e) hk.size, .inl e⟩
    · exact ⟨e.2, .inr e.1⟩)
theorem PairD.narrow {P R S : Nat → Prop} {d : Nat} {M : Disk} {Rf : LRef} {w W Wa We : World} (h : PairD (Go.Proofs.Ytabknhgbijcklaa.wide P w W) (Go.Proofs.Ytabknhgbijcklaa.wide R w W) d M Rf Wa) (hk : Keep S Wa We) (hs : ∀ k, k < Wa.heap.size → S k → Go.Proofs.Ytabknhgbijcklaa.wide P w W k) : PairD P R d M Rf We :=
  h.keep hk hs (fun k e => ⟨Nat.lt_of_lt_of_le (h.lt.1 k (.inl e)) hk.size, .inl (.inl e)⟩) (fun k e => ⟨Nat.lt_of_lt_of_le (h.lt.2 k (.inl e)) hk.size, .inl (.inl e)⟩)
set_option maxHeartbeats 1000000 in
/-- waystation/waystationlaw03.DiskCrashes -/
theorem diskCrashes_ok (A B : Option Addr) (n c m cy : Nat) (xs ys : List LT) (kp tn : Int) (w : World) [hra : Row w A (xs.flatMap thC)] [hrb0 : Row w B (ys.flatMap thC)] (hrs : ∀ j (h : j < xs.length), RowP w xs[j].A (bytesC xs[j].t.bytes)) (hcs : ∀ j (h : j < xs.length), xs[j].t.bytes.length ≤ xs[j].c) (hns : ∀ j (h : j < xs.length), In64 xs[j].t.n) (hl : xs.length = n) (hn : n ≤ 9223372036854775807) (hrs2 : ∀ j (h : j < ys.length), RowP w ys[j].A (bytesC ys[j].t.bytes)) (hcs2 : ∀ j (h : j < ys.length), ys[j].t.bytes.length ≤ ys[j].c) (hns2 : ∀ j (h : j < ys.length), In64 ys[j].t.n) (hl2 : ys.length = m) (hm : m ≤ 9223372036854775807) (hkp : In64 kp) (htn : In64 tn) : Ret Try.prog 8 #[.slice A n c, .agg #[.int .i64 kp, .int .i64 tn], .slice B m cy] w (fun v w' => v = .bool true ∧ Lk w' w NoB) := by
  haveI hrb : RowB w A w (xs.flatMap thC) := rowB_of hra.row
  haveI hrbB : RowB w B w (ys.flatMap thC) := rowB_of hrb0.row
  refine ret_of_x (N := 92) (l := [.slice A n c, .agg #[.int .i64 kp, .int .i64 tn], .slice B m cy]) Try.func8 rfl rfl (Nat.le_of_ble_eq_true rfl) ?_
  refine x_seq ?_
  refine x_regionL ?_
  refine xl_e (e_box fun b1 w1 n1 l1 k1 => ?_)
  refine xl_v v_assign ?_
  refine xl_nil ?_
  refine x_seq ?_
  refine x_seq ?_
  refine x_regionL ?_
  refine xl_v v_move ?_
  refine xl_call (few_ok A n c xs w1 (hra := rowB_of (inferInstance : Row w1 A (xs.flatMap thC)).row) hl hn) ?_
  rintro _ w2 ⟨⟨fb, rfl, hfb⟩, lkf⟩
  refine xl_v v_not ?_
  refine xl_v v_move ?_
  refine xl_split 19 (fun g19 => ?_) (fun g19 => ?_)
  ·
    refine xl_gs rfl EvO.eq ?_
    refine xl_gs rfl EvO.eq ?_
    refine xl_gs rfl EvO.eq ?_
    refine xl_v (by first | exact v_pickT | exact v_pickF | exact v_pick) ?_
    refine xl_nil ?_
    refine x_condT ?_
    refine x_seq ?_
    refine x_regionL ?_
    refine xl_call (works_ok w2) ?_
    rintro _ w3 ⟨rfl, lkw⟩
    refine xl_v v_assign ?_
    refine xl_nil ?_
    refine x_ret ?_
    refine fin1 rfl ?_
    exact ⟨rfl, lkc⟩
  ·
    refine xl_gv rfl EvO.eq v_move ?_
    refine xl_gcall rfl EvO.eq (few_ok B m cy ys w2 (hra := rowB_of (inferInstance : Row w2 B (ys.flatMap thC)).row) hl2 hm) ?_
    rintro _ w4 ⟨⟨gb, rfl, hgb⟩, lkg⟩
    refine xl_gv rfl EvO.eq v_not ?_
    refine xl_v (by first | exact v_pickT | exact v_pickF | exact v_pick) ?_
    refine xl_nil ?_
    first | refine x_condP (fun c1 => ?_) (fun c1 => ?_) | refine x_condN (fun c1 => ?_) (fun c1 => ?_) | refine x_condE (fun c1 => ?_) (fun c1 => ?_)
    ·
      refine x_seq ?_
      refine x_regionL ?_
      refine xl_call (works_ok w4) ?_
      rintro _ w5 ⟨rfl, lkw⟩
      refine xl_v v_assign ?_
      refine xl_nil ?_
      refine x_ret ?_
      refine fin1 rfl ?_
      exact ⟨rfl, lkc⟩
    ·
      refine x_skip ?_
      refine x_seq ?_
      refine x_regionL ?_
      refine xl_v v_move ?_
      have hfew := hfb (by simpa using g19)
      have hfew2 := hgb (by simpa using c1)
      refine xl_call (played_ok 1000 A n c xs w4 w (by decide) (fun j h => (rowB_of (hrs j h)).keep (kpc : Keep NoB w w4) (fun _ h => h.elim)) hcs hns hl hfew Ge.le) ?_
      rintro _ w6 ⟨⟨d, M, Rf, rfl, hP, hlen, hgd⟩, lk1⟩
      obtain ⟨F, hD, hR, hFP⟩ := hP.ex
      have hs := hP.pure
      obtain ⟨np, hnp⟩ : ∃ np, np = (w6).heap.size := ⟨_, rfl⟩
      have hwnp : w.heap.size ≤ np := by rw [hnp]; exact Ge.le
      refine xl_v v_move ?_
      refine xl_v v_extract ?_
      refine xl_v v_extract ?_
      refine xl_v v_extract ?_
      refine xl_e (e_alloc fun b8 w7 n8 l8 k8 => ?_)
      refine xl_v v_assign ?_
      refine xl_s (e_storeA fun w8 l8 k8 => ?_)
      refine xl_v v_assign ?_
      refine xl_nil ?_
      refine x_seq ?_
      refine x_regionL ?_
      refine xl_v v_move ?_
      refine xl_v (by first | exact v_loadA | exact v_loadF (by decide) (by omega)) ?_
      refine xl_call (crash_ok _ _ d M kp tn w8 (hD.ext (kpc : Keep NoB _ w8)) hkp htn) ?_
      rintro _ w9 ⟨⟨x, rfl, hX, hgx⟩, lk2⟩
      obtain ⟨nc, hnc⟩ : ∃ nc, nc = (w8).heap.size := ⟨_, rfl⟩
      obtain ⟨nd, hnd⟩ : ∃ nd, nd = (w9).heap.size := ⟨_, rfl⟩
      have hncd : nc ≤ nd := by rw [hnc, hnd]; exact lk2.keep.size
      have hnpc : np ≤ nc := by rw [hnp, hnc]; exact Ge.le
      have hb8c : b8 < nc := by rw [hnc]; exact Has.lt
      rw [← hnc] at hX
      refine xl_v v_move ?_
      refine xl_v v_extract ?_
      refine xl_v v_extract ?_
      refine xl_v v_assign ?_
      refine xl_v v_assign ?_
      refine xl_nil ?_
      refine x_seq ?_
      refine x_regionL ?_
      refine xl_v (by first | exact v_loadA | exact v_loadF (by decide) (by omega)) ?_
      refine xl_v (by first | exact v_fieldAddr | exact v_fieldAddrF (by decide) (by omega) | exact v_fieldAddrR (by first | assumption | rfl)) ?_
      refine xl_v (by first | exact v_load | exact v_loadO (by omega) | exact v_loadFf (by omega) | exact v_loadF0 (by omega)) ?_
      refine xl_v (by first | exact v_fieldAddr | exact v_fieldAddrF (by decide) (by omega) | exact v_fieldAddrR (by first | assumption | rfl)) ?_
      refine xl_v (by first | exact v_load | exact v_loadO (by omega) | exact v_loadFf (by omega) | exact v_loadF0 (by omega)) ?_
      refine xl_call (refcrash_ok Rf M F kp tn w9 (hR.ext (kpc : Keep NoB _ w9)) hs hkp htn) ?_
      rintro _ w10 ⟨⟨R3, F3, rfl, hs3, hR3, hF3⟩, lk3⟩
      have hF3' : ∀ k, F3 k → (k < nc ∨ nd ≤ k) := fun k e => (hF3 k e).imp (fun e => by have := hR.lt k e; omega) (fun e => by rw [hnd]; exact Nat.le_trans Ge.le e)
      have hF3l := hR3.lt
      refine xl_e (e_alloc fun b12 w11 n12 l12 k12 => ?_)
      have hb12n := n12.eq
      refine xl_s (e_storeA fun w12 l12 k12 => ?_)
      refine xl_nil ?_
      refine x_seq ?_
      refine x_seq ?_
      refine x_regionL ?_
      refine xl_v v_move ?_
      refine xl_v v_not ?_
      refine xl_v v_move ?_
      refine xl_gv rfl EvO.eq v_move ?_
      refine xl_gcall rfl EvO.eq (num_ok _ _) ?_
      rintro _ _ ⟨rfl, rfl⟩
      refine xl_gv rfl EvO.eq (v_congr (u := .bool false) v_neq (by simp)) ?_
      refine xl_v (by first | exact v_pickT | exact v_pickF | exact v_pick) ?_
      refine xl_v v_move ?_
      refine xl_gv rfl EvO.eq v_move ?_
      refine xl_gv rfl EvO.eq (by first | exact v_loadA | exact v_loadF (by decide) (by omega)) ?_
      refine xl_gcall rfl EvO.eq (is_ok _ _ x (M.crash kp tn) R3 F3 w12 (hX.ext (kpc : Keep NoB _ w12)) (hR3.ext (kpc : Keep NoB _ w12)) hs3) ?_
      rintro _ w14 ⟨rfl, lk5⟩
      refine xl_gv rfl EvO.eq v_not ?_
      refine xl_v (by first | exact v_pickT | exact v_pickF | exact v_pick) ?_
      refine xl_v v_move ?_
      refine xl_gv rfl EvO.eq v_move ?_
      refine xl_gv rfl EvO.eq (by first | exact v_loadA | exact v_loadF (by decide) (by omega)) ?_
      refine xl_gcall rfl EvO.eq (is2_ok _ _ d M Rf w14 (hP.ext (kpc : Keep NoB _ w14))) ?_
      rintro _ w15 ⟨rfl, lk6⟩
      refine xl_gv rfl EvO.eq v_not ?_
      refine xl_v (by first | exact v_pickT | exact v_pickF | exact v_pick) ?_
      refine xl_nil ?_
      refine x_condF ?_
      refine x_skip ?_
      refine x_seq ?_
      refine x_seq ?_
      refine x_regionL ?_
      refine xl_v v_assign ?_
      refine xl_nil ?_
      refine x_block ?_
      have hb12 : nd ≤ b12 := by rw [n12.eq, hnd]; exact Ge.le
      have hb12w : b12 < (w15).heap.size := Has.lt
      have hndw : nd ≤ (w15).heap.size := by rw [hnd]; exact Ge.le
      obtain ⟨Px, hPx⟩ : ∃ P : Nat → Prop, P = fun k => k = b12 := ⟨_, rfl⟩
      obtain ⟨Rx, hRx⟩ : ∃ R : Nat → Prop, R = fun k => k < nc ∨ (nd ≤ k ∧ k < (w15).heap.size) := ⟨_, rfl⟩
      have hX0 : PairD Px Rx x (M.crash kp tn) R3 w15 := ⟨hs3, F3, hX.keep (kpc : Keep NoB _ w15) (fun _ _ h => h.elim) (fun k e => by
        rw [hPx] at e
        have e' : k = b12 := e
        subst e'
        exact ⟨hb12w, .inr (by omega)⟩) (fun k e => by
        rcases e with e | e
        · rw [hRx] at e
          rcases e with e | e
          · exact ⟨by omega, .inl e⟩
          · exact ⟨e.2, .inr (by omega)⟩
        · refine ⟨Nat.lt_of_lt_of_le (hF3l k e) Ge.le, ?_⟩
          rcases hF3' k e with e2 | e2
          · exact .inl e2
          · exact .inr (by omega)), hR3.ext (kpc : Keep NoB _ w15), fun k e e2 => by
        rw [hPx] at e2
        have e' : k = b12 := e2
        have h1 := hF3l k e
        rw [hb12n] at e'
        rw [e'] at h1
        exact Nat.lt_irrefl _ (Nat.lt_of_lt_of_le h1 Ge.le)⟩
      haveI : SubF (NotP Rx) NoB w := ⟨fun k hk e => e (by rw [hRx]; exact .inl (by omega))⟩
      haveI : Above (fun j => NotP Rx j ∨ OneB b12 j) w := ⟨fun j e => Nat.le_of_not_lt (fun h => by
        rcases e with e | e
        · exact e (by rw [hRx]; exact .inl (by omega))
        · have e' : j = b12 := e
          omega)⟩
      haveI : NotS (NotP Rx) b8 := ⟨fun e => e (by rw [hRx]; exact .inl hb8c)⟩
      haveI : NotS (NotP Rx) b12 := ⟨fun e => e (by rw [hRx]; exact .inr ⟨hb12, hb12w⟩)⟩
      haveI : NeB b8 b12 := ⟨by omega⟩
      have hcl := crash_len M kp tn
      have hcs0 := (crash_shape M kp tn).2
      refine x_loop (fun mm τ ds w' => ds = [] ∧ ∃ (k : Nat) (M2 : Disk) (R2 : LRef), mm = m - k ∧ k ≤ m ∧ PairD Px Rx x M2 R2 w' ∧ M2.lasts.length + M2.waits.length ≤ n + k ∧ w'.heap[b12]? = some (.cells (refC R2).toArray 54 (0, 0)) ∧ Ev τ 2 (.slice B m cy) ∧ Ev τ 7 (.pointer (some ⟨d, 0, none⟩)) ∧ Ev τ 8 (.pointer (some ⟨b8, 0, none⟩)) ∧ Ev τ 10 (.pointer (some ⟨x, 0, none⟩)) ∧ Ev τ 12 (.pointer (some ⟨b12, 0, none⟩)) ∧ Ev τ 13 (.int .i64 (k : Int)) ∧ Lk w' w15 (fun j => NotP Rx j ∨ OneB b12 j)) (m) ?start ?round
      case start =>
        exact ⟨rfl, 0, _, _, rfl, by omega, hX0, by rw [hcs0]; simp; omega, Blk.eq, inferInstance, inferInstance, inferInstance, inferInstance, inferInstance, evc, lkc⟩
      case round =>
        intro m τ16 ds16 w16 hI
        obtain ⟨rfl, k, M2, R2, rfl, hk, hP2, hcm, hb12r, e2, e7, e8, e10, e12, e13, lk⟩ := hI
        haveI : Blk w16 b12 _ := ⟨hb12r⟩
        have hszB := lk.keep.size
        refine x_seq ?_
        refine x_seq ?_
        refine x_regionL ?_
        refine xl_v v_move ?_
        refine xl_v v_move ?_
        refine xl_v v_len ?_
        refine xl_v v_lss ?_
        refine xl_nil ?_
        first | refine x_condP (fun c3 => ?_) (fun c3 => ?_) | refine x_condN (fun c3 => ?_) (fun c3 => ?_) | refine x_condE (fun c3 => ?_) (fun c3 => ?_)
        ·
          have hk1 : k < ys.length := by omega
          haveI hry : RowB w ys[k].A w (bytesC ys[k].t.bytes) := rowB_of (hrs2 k hk1)
          have hBlt : ∀ a, B = some a → a.block < w.heap.size := hrbB.far.resolve_left (by
            intro e
            have h1 : (ys.flatMap thC).length = ys.length * 4 := flat_len (enc := thC) (sz := 4) (fun _ => rfl) ys
            rw [e] at h1
            simp at h1
            omega)
          refine x_skip ?_
          refine x_seq ?_
          refine x_block ?_
          refine x_seq ?_
          haveI : RowOut (fun j => NotP Rx j ∨ NewS w16 j) B := ⟨fun a ha e => by
            have h1 := hBlt a ha
            rcases e with e | e
            · exact e (by rw [hRx]; exact .inl (by omega))
            · have e' : (w16).heap.size ≤ a.block := e
              omega⟩
          haveI : Above (NotP Rx) w := ⟨fun j e => Nat.le_of_not_lt (fun h => e (by rw [hRx]; exact .inl (by omega)))⟩
          refine x_drawL (fun j => NotP Rx j ∨ NewS w16 j) (.take 0 (.take 1 (.take 2 (.take 3 (.take 4 (.take 5 (.fork 6 (.take 7 (.take 8 (.take 9 (.eff 10 (.eff 11 (.take 12 .done)))))) 10 (.eff 6 (.take 7 (.take 8 (.take 9 (.eff 11 (.take 12 .done))))))))))))) mixed (by kernel_rfl) (fun _ _ _ _ _ h => h) (fun w17 l17 => ?_)
          refine xt_v rfl v_move ?_
          refine xt_v rfl (by first | exact v_loadA | exact v_loadF (by decide) (by omega)) ?_
          refine xt_v rfl v_move ?_
          refine xt_v rfl v_move ?_
          refine xt_v rfl (v_indexF k (by decide) rfl (by omega) hk1) ?_
          refine xt_v rfl (by first | exact v_loadA | exact v_loadF (by decide) (by omega)) ?_
          refine xt_fork ?_ ?_
          ·
            refine xt_call rfl (act_ok (wide Px w16 w17) (wide Rx w16 w17) x M2 R2 ys[k] w17 (hP2.wide (kpc : Keep NoB w16 w17)) (by omega) (inferInstance : RowB w17 ys[k].A w (bytesC ys[k].t.bytes)).row (hcs2 k hk1) (by have := hfew2.2 k hk1; omega) (by have := hfew2.2 k hk1; omega) (hns2 k hk1) (fun hn0 a ha => by
                  have h1 := hry.far.resolve_left (by simpa [bytesC] using hn0) a ha
                  exact ⟨.inl (by rw [hRx]; exact .inl (by omega)), by
                    rintro (e | e)
                    · rw [hPx] at e
                      have e' : a.block = b12 := e
                      omega
                    · omega⟩)) ?_
            rintro _ w18 ⟨⟨R4, rfl, hP4⟩, lk4⟩
            refine ⟨kpc, ?_⟩
            have hszp := lk4.keep.size
            refine xt_v rfl v_move ?_
            refine xt_v rfl v_extract ?_
            refine xt_v rfl v_extract ?_
            refine xt_e rfl (e_alloc fun b14 w19 n14 l14 k14 => ?_)
            refine xt_s rfl (e_storeA fun w20 l20 k20 => ?_)
            refine xt_v rfl v_assign ?_
            refine xt_nil ?_
            refine x_seq ?_
            refine x_regionL ?_
            refine xl_v (by first | exact v_loadA | exact v_loadF (by decide) (by omega)) ?_
            refine xl_s (e_storeA fun w21 l21 k21 => ?_)
            refine xl_nil ?_
            have hb14 := n14.eq
            have hb14g : (w16).heap.size ≤ b14 := by rw [n14.eq]; exact Ge.le
            have hPn := hP4.narrow (kpc : Keep (fun j => OneB b12 j ∨ OneB b14 j) _ w21) (fun k hk e => by
              rcases e with e | e
              · exact .inl (by rw [hPx]; exact e)
              · have e' : k = b14 := e
                rw [e'] at hk ⊢
                first
                  | exact .inr ⟨hb14g, Has.lt⟩
                  | (exfalso; omega))
            refine x_seq ?_
            refine x_regionL ?_
            refine xl_v v_move ?_
            refine xl_v v_not ?_
            refine xl_nil ?_
            first | refine x_condP (fun c4 => ?_) (fun c4 => ?_) | refine x_condN (fun c4 => ?_) (fun c4 => ?_) | refine x_condE (fun c4 => ?_) (fun c4 => ?_)
            ·
              simp at c4
            ·
              refine x_skip ?_
              refine x_regionL ?_
              refine xl_v v_move ?_
              refine xl_v (v_add (by omega)) ?_
              refine xl_v v_assign ?_
              refine xl_nil ?_
              refine ⟨_, ?_, rfl, k + 1, M2.step ys[k].t, R4, rfl, by omega, hPn, by have := step_len M2 ys[k].t; omega, Blk.eq, inferInstance, inferInstance, inferInstance, inferInstance, inferInstance, evc, lkc⟩
              omega
          ·
            refine xt_e rfl (e_alloc fun b14 w22 n14 l14 k14 => ?_)
            refine xt_call rfl (act_ok (wide Px w16 w22) (wide Rx w16 w22) x M2 R2 ys[k] w22 (hP2.wide (kpc : Keep NoB w16 w22)) (by omega) (inferInstance : RowB w22 ys[k].A w (bytesC ys[k].t.bytes)).row (hcs2 k hk1) (by have := hfew2.2 k hk1; omega) (by have := hfew2.2 k hk1; omega) (hns2 k hk1) (fun hn0 a ha => by
                  have h1 := hry.far.resolve_left (by simpa [bytesC] using hn0) a ha
                  exact ⟨.inl (by rw [hRx]; exact .inl (by omega)), by
                    rintro (e | e)
                    · rw [hPx] at e
                      have e' : a.block = b12 := e
                      omega
                    · omega⟩)) ?_
            rintro _ w23 ⟨⟨R4, rfl, hP4⟩, lk4⟩
            refine ⟨kpc, ?_⟩
            have hszp := lk4.keep.size
            refine xt_v rfl v_move ?_
            refine xt_v rfl v_extract ?_
            refine xt_v rfl v_extract ?_
            refine xt_s rfl (e_storeA fun w24 l24 k24 => ?_)
            refine xt_v rfl v_assign ?_
            refine xt_nil ?_
            refine x_seq ?_
            refine x_regionL ?_
            refine xl_v (by first | exact v_loadA | exact v_loadF (by decide) (by omega)) ?_
            refine xl_s (e_storeA fun w25 l25 k25 => ?_)
            refine xl_nil ?_
            have hb14 := n14.eq
            have hb14g : (w16).heap.size ≤ b14 := by rw [n14.eq]; exact Ge.le
            have hPn := hP4.narrow (kpc : Keep (fun j => OneB b12 j ∨ OneB b14 j) _ w25) (fun k hk e => by
              rcases e with e | e
              · exact .inl (by rw [hPx]; exact e)
              · have e' : k = b14 := e
                rw [e'] at hk ⊢
                first
                  | exact .inr ⟨hb14g, Has.lt⟩
                  | (exfalso; omega))
            refine x_seq ?_
            refine x_regionL ?_
            refine xl_v v_move ?_
            refine xl_v v_not ?_
            refine xl_nil ?_
            first | refine x_condP (fun c4 => ?_) (fun c4 => ?_) | refine x_condN (fun c4 => ?_) (fun c4 => ?_) | refine x_condE (fun c4 => ?_) (fun c4 => ?_)
            ·
              simp at c4
            ·
              refine x_skip ?_
              refine x_regionL ?_
              refine xl_v v_move ?_
              refine xl_v (v_add (by omega)) ?_
              refine xl_v v_assign ?_
              refine xl_nil ?_
              refine ⟨_, ?_, rfl, k + 1, M2.step ys[k].t, R4, rfl, by omega, hPn, by have := step_len M2 ys[k].t; omega, Blk.eq, inferInstance, inferInstance, inferInstance, inferInstance, inferInstance, evc, lkc⟩
              omega
        ·
          refine x_exit ?_
          refine x_seq ?_
          refine x_regionL ?_
          refine xl_v v_move ?_
          refine xl_v (by first | exact v_loadA | exact v_loadF (by decide) (by omega)) ?_
          refine xl_call (is2_ok Px Rx x M2 R2 w16 (hP2.ext (kpc : Keep NoB _ w16))) ?_
          rintro _ w26 ⟨rfl, lk7⟩
          refine xl_v v_move ?_
          refine xl_gv rfl EvO.eq v_move ?_
          refine xl_gv rfl EvO.eq (by first | exact v_loadA | exact v_loadF (by decide) (by omega)) ?_
          refine xl_gcall rfl EvO.eq (is2_ok _ _ d M Rf w26 (hP.cell (kpc : Keep (fun j => NotP Rx j ∨ OneB b12 j) _ w26) (fun k hk e => by
                exfalso
                rw [← hnp] at hk
                rcases e with e | e
                · exact e (by rw [hRx]; exact .inl (by omega))
                · have e' : k = b12 := e
                  omega))) ?_
          rintro _ w27 ⟨rfl, lk8⟩
          refine xl_v (by first | exact v_pickT | exact v_pickF | exact v_pick) ?_
          refine xl_v v_move ?_
          refine xl_gcall rfl EvO.eq (works_ok w27) ?_
          rintro _ w28 ⟨rfl, lkw⟩
          refine xl_v (by first | exact v_pickT | exact v_pickF | exact v_pick) ?_
          refine xl_v v_assign ?_
          refine xl_nil ?_
          refine x_ret ?_
          refine fin1 rfl ?_
          exact ⟨rfl, lkc⟩
end Go.Proofs.Ytabknhgbijcklaa
