/-
  Walks, printed by a program of this workplace (wip/tools/sx.py) off the functions' code and a text of contracts.
-/
import Derived.Test.YtabknhgbijcklaaX
set_option linter.all false
set_option maxRecDepth 100000
set_option synthInstance.maxSize 100000
set_option synthInstance.maxHeartbeats 400000
namespace Go.Proofs.Ytabknhgbijcklaa
open Go.Wst
open Go.Wst.Dm
theorem find_no {L : Fs} {name : ByteArray} {i : Int} {q : List (ByteArray × LB)} (hnn : nameOk name = true) (hi : i = -1 ∧ akey L name = none ∨ ∃ (k : Nat) (hk : k < q.length), i = (k : Int) ∧ q[k].1 = name ∧ akey L name = some q[k].2.bytes) : (i < 0 → readNo L name = 5 ∧ readB L name = []) ∧ (¬ i < 0 → ∃ (k : Nat) (_ : k < q.length), i = (k : Int) ∧ readNo L name = 0 ∧ readB L name = q[k].2.bytes) := by
  unfold readNo readB
  rw [if_neg (by simp [hnn]), if_pos hnn]
  rcases hi with ⟨e, h⟩ | ⟨k, hk, e, _, h⟩
  · rw [if_pos h, h]
    exact ⟨fun _ => ⟨rfl, rfl⟩, fun h2 => absurd (by omega) h2⟩
  · rw [h]
    exact ⟨fun h2 => absurd h2 (by omega), fun _ => ⟨k, hk, e, rfl, rfl⟩⟩
set_option maxHeartbeats 1000000 in
/-- waystation/waystationlaw03.DiskReads -/
theorem diskReads_ok (A : Option Addr) (n c : Nat) (xs : List LT) (name : ByteArray) (w : World) [hra : Row w A (xs.flatMap thC)] (hrs : ∀ j (h : j < xs.length), RowP w xs[j].A (bytesC xs[j].t.bytes)) (hcs : ∀ j (h : j < xs.length), xs[j].t.bytes.length ≤ xs[j].c) (hns : ∀ j (h : j < xs.length), In64 xs[j].t.n) (hl : xs.length = n) (hn : n ≤ 9223372036854775807) : Ret Try.prog 7 #[.slice A n c, .string name] w (fun v w' => v = .bool true ∧ Lk w' w NoB) := by
  haveI hrb : RowB w A w (xs.flatMap thC) := rowB_of hra.row
  refine ret_of_x (N := 147) (l := [.slice A n c, .string name]) Try.func7 rfl rfl (Nat.le_of_ble_eq_true rfl) ?_
  refine x_seq ?_
  refine x_regionL ?_
  refine xl_v v_assign ?_
  refine xl_nil ?_
  refine x_seq ?_
  refine x_seq ?_
  refine x_regionL ?_
  refine xl_v v_move ?_
  refine xl_call (few_ok A n c xs w (hra := rowB_of (inferInstance : Row w A (xs.flatMap thC)).row) hl hn) ?_
  rintro _ w1 ⟨⟨fb, rfl, hfb⟩, lkf⟩
  refine xl_v v_not ?_
  refine xl_v v_move ?_
  refine xl_split 18 (fun g18 => ?_) (fun g18 => ?_)
  ·
    refine xl_gs rfl EvO.eq ?_
    refine xl_gs rfl EvO.eq ?_
    refine xl_gs rfl EvO.eq ?_
    refine xl_v (by first | exact v_pickT | exact v_pickF | exact v_pick) ?_
    refine xl_nil ?_
    refine x_condT ?_
    refine x_seq ?_
    refine x_regionL ?_
    refine xl_call (works_ok w1) ?_
    rintro _ w2 ⟨rfl, lkw⟩
    refine xl_v v_assign ?_
    refine xl_nil ?_
    refine x_ret ?_
    refine fin1 rfl ?_
    exact ⟨rfl, lkc⟩
  ·
    refine xl_gv rfl EvO.eq v_move ?_
    refine xl_gv rfl EvO.eq v_lens ?_
    refine xl_gv rfl EvO.eq v_gtr ?_
    refine xl_v (by first | exact v_pickT | exact v_pickF | exact v_pick) ?_
    refine xl_nil ?_
    first | refine x_condP (fun c1 => ?_) (fun c1 => ?_) | refine x_condN (fun c1 => ?_) (fun c1 => ?_) | refine x_condE (fun c1 => ?_) (fun c1 => ?_)
    ·
      refine x_seq ?_
      refine x_regionL ?_
      refine xl_call (works_ok w1) ?_
      rintro _ w3 ⟨rfl, lkw⟩
      refine xl_v v_assign ?_
      refine xl_nil ?_
      refine x_ret ?_
      refine fin1 rfl ?_
      exact ⟨rfl, lkc⟩
    ·
      refine x_skip ?_
      refine x_seq ?_
      refine x_regionL ?_
      refine xl_v v_move ?_
      have hfew := hfb (by first | simpa using g18 | simpa using c1)
      have hnsz : name.size ≤ 100 := by first | omega | (simp at c1; omega)
      refine xl_call (played_ok 1000 A n c xs w1 w (by decide) (fun j h => (rowB_of (hrs j h)).keep (kpc : Keep NoB w w1) (fun _ h => h.elim)) hcs hns hl hfew Ge.le) ?_
      rintro _ w4 ⟨⟨d, M, Rf, rfl, hP, hlen, hgd⟩, lk1⟩
      obtain ⟨F, hD, hR, hFP⟩ := hP.ex
      have hs := hP.pure
      refine xl_v v_move ?_
      refine xl_v v_extract ?_
      refine xl_v v_extract ?_
      refine xl_v v_extract ?_
      refine xl_e (e_alloc fun b5 w5 n5 l5 k5 => ?_)
      refine xl_v v_assign ?_
      refine xl_s (e_storeA fun w6 l6 k6 => ?_)
      refine xl_v v_assign ?_
      refine xl_nil ?_
      refine x_seq ?_
      refine x_regionL ?_
      refine xl_v (by first | exact v_loadA | exact v_loadF (by decide) (by omega)) ?_
      refine xl_call (reffiles_ok Rf M F w6 (hR.ext (kpc : Keep NoB _ w6)) hs) ?_
      rintro _ w7 ⟨⟨A8, c8, q8, F8, rfl, hf8, hr8, hF8⟩, lk2⟩
      have hq8 : q8.length ≤ 10000 := by rw [← fsP_len, hf8]; exact files_len hs.few
      refine xl_v v_assign ?_
      refine xl_nil ?_
      refine x_seq ?_
      refine x_regionL ?_
      refine xl_v v_move ?_
      refine xl_v v_move ?_
      refine xl_call (read_ok _ _ d M name w7 (hD.ext (kpc : Keep NoB _ w7))) ?_
      rintro _ w8 ⟨⟨A9, c9, rfl, ho9⟩, lk3⟩
      haveI : NewA A9 w7 := newA_of ho9 (Nat.le_refl _)
      haveI : OwnI w8 A9 _ _ _ _ _ _ _ := ⟨ho9⟩
      refine xl_v v_move ?_
      refine xl_v v_extract ?_
      refine xl_v v_extract ?_
      refine xl_v v_assign ?_
      refine xl_v v_assign ?_
      refine xl_nil ?_
      refine x_seq ?_
      refine x_regionL ?_
      refine xl_v v_move ?_
      refine xl_v v_move ?_
      refine xl_call (lasts_ok _ _ d M name w8 (hD.ext (kpc : Keep NoB _ w8))) ?_
      rintro _ w9 ⟨⟨A10, c10, rfl, ho10⟩, lk4⟩
      haveI : NewA A10 w8 := newA_of ho10 (Nat.le_refl _)
      haveI : OwnI w9 A10 _ _ _ _ _ _ _ := ⟨ho10⟩
      refine xl_v v_move ?_
      refine xl_v v_extract ?_
      refine xl_v v_extract ?_
      refine xl_v v_assign ?_
      refine xl_v v_assign ?_
      refine xl_nil ?_
      refine x_seq ?_
      refine x_drawL (NoB) (.take 0 (.take 1 (.take 3 (.take 4 (.take 5 (.eff 2 (.eff 6 (.take 7 (.take 8 .done))))))))) mixed (by kernel_rfl) (fun _ _ _ _ _ h => h) (fun w10 l10 => ?_)
      refine xt_v rfl v_move ?_
      refine xt_v rfl v_move ?_
      refine xt_v rfl (by first | exact v_fieldAddr | exact v_fieldAddrF (by decide) (by omega) | exact v_fieldAddrR (by first | assumption | rfl)) ?_
      refine xt_v rfl (by first | exact v_load | exact v_loadO (by omega) | exact v_loadFf (by omega) | exact v_loadF0 (by omega)) ?_
      refine xt_v rfl v_move ?_
      refine xt_call rfl (find_ok A8 c8 q8 F8 name w10 (hr8.ext (kpc : Keep NoB _ w10)) (by omega)) ?_
      rintro _ w11 ⟨⟨i1, rfl, hi1⟩, lk5⟩
      refine ⟨kpc, ?_⟩
      rw [hf8] at hi1
      refine xt_call rfl (find_ok Rf.A Rf.c Rf.lasts F name w11 (hR.lasts.ext (kpc : Keep NoB _ w11)) (by have := hs.llen; have := hs.few; omega)) ?_
      rintro _ w12 ⟨⟨i2, rfl, hi2⟩, lk6⟩
      refine ⟨kpc, ?_⟩
      rw [hs.lasts] at hi2
      refine xt_v rfl v_assign ?_
      refine xt_v rfl v_assign ?_
      refine xt_nil ?_
      refine x_seq ?_
      refine x_seq ?_
      refine x_regionL ?_
      refine xl_v v_move ?_
      refine xl_call (Name_ok name w12 (by omega)) ?_
      rintro _ _ ⟨rfl, rfl⟩
      refine xl_v v_not ?_
      refine xl_nil ?_
      first | refine x_condP (fun c2 => ?_) (fun c2 => ?_) | refine x_condN (fun c2 => ?_) (fun c2 => ?_) | refine x_condE (fun c2 => ?_) (fun c2 => ?_)
      ·
        have hnn : nameOk name = false := by simpa using c2
        have e1 : readNo M.files name = 130 := readNo_f hnn
        have e2 : readNo M.lasts name = 130 := readNo_f hnn
        have e3 : readB M.files name = [] := by rw [readB, if_neg (by simp [hnn])]
        have e4 : readB M.lasts name = [] := by rw [readB, if_neg (by simp [hnn])]
        have e5 : (readB M.files name).length = 0 := by rw [e3]; rfl
        have e6 : (readB M.lasts name).length = 0 := by rw [e4]; rfl
        refine x_seq ?_
        refine x_regionL ?_
        refine xl_v v_move ?_
        refine xl_v v_move ?_
        refine xl_gv rfl EvO.eq v_move ?_
        refine xl_gcall rfl EvO.eq (num_ok _ _) ?_
        rintro _ _ ⟨rfl, rfl⟩
        refine xl_gv rfl EvO.eq (v_congr (u := .bool true) v_eql (by simp [e1])) ?_
        refine xl_v (by first | exact v_pickT | exact v_pickF | exact v_pick) ?_
        refine xl_v v_move ?_
        refine xl_gv rfl EvO.eq v_move ?_
        refine xl_gcall rfl EvO.eq (num_ok _ _) ?_
        rintro _ _ ⟨rfl, rfl⟩
        refine xl_gv rfl EvO.eq (v_congr (u := .bool true) v_eql (by simp [e2])) ?_
        refine xl_v (by first | exact v_pickT | exact v_pickF | exact v_pick) ?_
        refine xl_v v_move ?_
        refine xl_gv rfl EvO.eq v_move ?_
        refine xl_gv rfl EvO.eq v_len ?_
        refine xl_gv rfl EvO.eq v_move ?_
        refine xl_gv rfl EvO.eq v_len ?_
        refine xl_gv rfl EvO.eq (v_add (by omega)) ?_
        refine xl_gv rfl EvO.eq (v_congr (u := .bool true) v_eql (by simp [e3, e4])) ?_
        refine xl_v (by first | exact v_pickT | exact v_pickF | exact v_pick) ?_
        refine xl_v v_move ?_
        refine xl_gcall rfl EvO.eq (works_ok w12) ?_
        rintro _ w16 ⟨rfl, lkw⟩
        refine xl_v (by first | exact v_pickT | exact v_pickF | exact v_pick) ?_
        refine xl_v v_assign ?_
        refine xl_nil ?_
        refine x_ret ?_
        refine fin1 rfl ?_
        exact ⟨rfl, lkc⟩
      ·
        have hnn : nameOk name = true := by simpa using c2
        obtain ⟨f1, f2⟩ := find_no hnn hi1
        obtain ⟨f3, f4⟩ := find_no hnn hi2
        refine x_skip ?_
        refine x_seq ?_
        refine x_seq ?_
        haveI : RowB w12 A8 _ (q8.flatMap fileC) := rowB_of (hr8.ext (kpc : Keep NoB _ w12)).row.row
        refine x_drawL (NoB) (.take 0 (.take 1 (.take 2 (.take 3 (.eff 4 (.take 5 (.take 6 (.take 7 (.take 8 (.take 9 (.take 10 (.take 11 (.take 12 (.take 13 (.take 14 (.take 15 (.take 16 (.eff 17 (.take 18 (.take 19 (.take 20 (.take 21 (.take 22 (.take 23 (.take 24 (.take 25 (.take 26 (.take 27 (.take 28 (.take 29 (.take 30 (.take 31 .done)))))))))))))))))))))))))))))))) mixed (by kernel_rfl) (fun _ _ _ _ _ h => h) (fun w17 l17 => ?_)
        refine xt_v rfl v_move ?_
        refine xt_v rfl v_lss ?_
        refine xt_v rfl v_move ?_
        refine xt_split 78 (fun g78 => ?_) (fun g78 => ?_)
        ·
          obtain ⟨f5, f6⟩ := f1 (by simpa using g78)
          refine xt_gv rfl rfl EvO.eq v_move ?_
          refine xt_gcall rfl rfl EvO.eq (num_ok _ _) ?_
          rintro _ _ ⟨rfl, rfl⟩
          refine ⟨kpc, ?_⟩
          refine xt_gv rfl rfl EvO.eq (v_congr (u := .bool false) v_neq (by simp [f5])) ?_
          refine xt_gv rfl rfl EvO.eq v_move ?_
          refine xt_gv rfl rfl EvO.eq v_move ?_
          refine xt_gv rfl rfl EvO.eq v_len ?_
          refine xt_gv rfl rfl EvO.eq (v_congr (u := .bool false) v_neq (by simp [f6])) ?_
          refine xt_gv rfl rfl EvO.eq (by first | exact v_pickT | exact v_pickF | exact v_pick) ?_
          refine xt_v rfl (by first | exact v_pickT | exact v_pickF | exact v_pick) ?_
          refine xt_v rfl v_move ?_
          refine xt_gv rfl rfl EvO.eq v_move ?_
          refine xt_gv rfl rfl EvO.eq v_geq ?_
          refine xt_gv rfl rfl EvO.eq v_move ?_
          refine xt_split 91 (fun g91 => ?_) (fun g91 => ?_)
          ·
            obtain ⟨k1, hk1, hik1, f7, f8⟩ := f2 (by simp at g91; omega)
            haveI : Row w17 q8[k1].2.A (bytesC q8[k1].2.bytes) := ⟨((hr8.items _ (List.getElem_mem hk1)).keep (kpc : Keep NoB _ w17) (fun _ _ h => h)).row⟩
            refine xt_gv rfl rfl EvO.eq v_move ?_
            refine xt_gcall rfl rfl EvO.eq (num_ok _ _) ?_
            rintro _ _ ⟨rfl, rfl⟩
            refine ⟨kpc, ?_⟩
            refine xt_gv rfl rfl EvO.eq (v_congr (u := .bool false) v_neq (by simp [f7])) ?_
            refine xt_gv rfl rfl EvO.eq v_move ?_
            refine xt_gv rfl rfl EvO.eq v_move ?_
            refine xt_gv rfl rfl EvO.eq (v_bytesStr (xs := readB M.files name) rfl) ?_
            refine xt_gv rfl rfl EvO.eq v_move ?_
            refine xt_gv rfl rfl EvO.eq v_move ?_
            refine xt_gv rfl rfl EvO.eq (v_indexF k1 (by decide) hik1 (by omega) hk1) ?_
            refine xt_gv rfl rfl EvO.eq (by first | exact v_fieldAddr | exact v_fieldAddrF (by decide) (by omega) | exact v_fieldAddrR (by first | assumption | rfl)) ?_
            refine xt_gv rfl rfl EvO.eq (v_loadFf hk1) ?_
            refine xt_gv rfl rfl EvO.eq (v_bytesStr (xs := q8[k1].2.bytes) rfl) ?_
            refine xt_gv rfl rfl EvO.eq (v_congr (u := .bool false) v_sneq (by simp [f8])) ?_
            refine xt_gv rfl rfl EvO.eq (by first | exact v_pickT | exact v_pickF | exact v_pick) ?_
            refine xt_gv rfl rfl EvO.eq (by first | exact v_pickT | exact v_pickF | exact v_pick) ?_
            refine xt_v rfl (by first | exact v_pickT | exact v_pickF | exact v_pick) ?_
            refine xt_nil ?_
            first | refine x_condP (fun c3 => ?_) (fun c3 => ?_) | refine x_condN (fun c3 => ?_) (fun c3 => ?_) | refine x_condE (fun c3 => ?_) (fun c3 => ?_)
            ·
              simp at c3
            ·
              refine x_skip ?_
              refine x_seq ?_
              haveI : RowB w17 Rf.A _ (Rf.lasts.flatMap fileC) := rowB_of (hR.lasts.ext (kpc : Keep NoB _ w17)).row.row
              refine x_drawL (NoB) (.take 0 (.take 1 (.take 2 (.take 3 (.take 4 (.take 5 (.eff 6 (.take 7 (.take 8 (.take 9 (.take 10 (.take 11 (.take 12 (.take 13 (.take 14 (.take 15 (.take 16 (.take 17 (.take 18 (.eff 19 (.take 20 (.take 21 (.take 22 (.take 23 (.take 24 (.take 25 (.take 26 (.take 27 (.take 28 (.take 29 (.take 30 (.take 31 (.take 32 (.take 33 (.take 34 (.take 35 (.take 36 (.eff 37 (.take 38 (.take 39 .done)))))))))))))))))))))))))))))))))))))))) mixed (by kernel_rfl) (fun _ _ _ _ _ h => h) (fun w20 l20 => ?_)
              refine xt_v rfl v_move ?_
              refine xt_v rfl v_move ?_
              refine xt_gv rfl rfl EvO.eq v_move ?_
              refine xt_gv rfl rfl EvO.eq v_lss ?_
              refine xt_gv rfl rfl EvO.eq v_move ?_
              refine xt_split 112 (fun g112 => ?_) (fun g112 => ?_)
              ·
                obtain ⟨f9, f10⟩ := f3 (by simpa using g112)
                refine xt_gv rfl rfl EvO.eq v_move ?_
                refine xt_gcall rfl rfl EvO.eq (num_ok _ _) ?_
                rintro _ _ ⟨rfl, rfl⟩
                refine ⟨kpc, ?_⟩
                refine xt_gv rfl rfl EvO.eq (v_congr (u := .bool true) v_eql (by simp [f9])) ?_
                refine xt_gv rfl rfl EvO.eq (by first | exact v_pickT | exact v_pickF | exact v_pick) ?_
                refine xt_gv rfl rfl EvO.eq v_move ?_
                refine xt_gv rfl rfl EvO.eq v_move ?_
                refine xt_gv rfl rfl EvO.eq v_len ?_
                refine xt_gv rfl rfl EvO.eq (v_congr (u := .bool true) v_eql (by simp [f10])) ?_
                refine xt_gv rfl rfl EvO.eq (by first | exact v_pickT | exact v_pickF | exact v_pick) ?_
                refine xt_gv rfl rfl EvO.eq v_move ?_
                refine xt_gs rfl rfl EvO.eq ?_
                refine xt_gs rfl rfl EvO.eq ?_
                refine xt_gs rfl rfl EvO.eq ?_
                refine xt_gu rfl rfl EvO.eq ?_
                refine xt_gue rfl rfl EvO.eq ?_
                refine xt_gu rfl rfl EvO.eq ?_
                refine xt_gs rfl rfl EvO.eq ?_
                refine xt_gs rfl rfl EvO.eq ?_
                refine xt_gu rfl rfl EvO.eq ?_
                refine xt_gu rfl rfl EvO.eq ?_
                refine xt_gu rfl rfl EvO.eq ?_
                refine xt_gu rfl rfl EvO.eq ?_
                refine xt_gu rfl rfl EvO.eq ?_
                refine xt_gu rfl rfl EvO.eq ?_
                refine xt_gu rfl rfl EvO.eq ?_
                refine xt_gu rfl rfl EvO.eq ?_
                refine xt_gu rfl rfl EvO.eq ?_
                refine xt_gu rfl rfl EvO.eq ?_
                refine xt_gs rfl rfl EvO.eq ?_
                refine xt_gv rfl rfl EvO.eq (by first | exact v_pickT | exact v_pickF | exact v_pick) ?_
                refine xt_v rfl (by first | exact v_pickT | exact v_pickF | exact v_pick) ?_
                refine xt_v rfl v_move ?_
                refine xt_gcall rfl rfl EvO.eq (works_ok w20) ?_
                rintro _ w22 ⟨rfl, lkw⟩
                refine ⟨kpc, ?_⟩
                refine xt_v rfl (by first | exact v_pickT | exact v_pickF | exact v_pick) ?_
                refine xt_v rfl v_assign ?_
                refine xt_nil ?_
                refine x_ret ?_
                refine fin1 rfl ?_
                exact ⟨rfl, lkc⟩
              ·
                refine xt_gs rfl rfl EvO.eq ?_
                refine xt_gse rfl rfl EvO.eq ?_
                refine xt_gs rfl rfl EvO.eq ?_
                refine xt_gv rfl rfl EvO.eq (by first | exact v_pickT | exact v_pickF | exact v_pick) ?_
                refine xt_gv rfl rfl EvO.eq v_move ?_
                refine xt_gs rfl rfl EvO.eq ?_
                refine xt_gs rfl rfl EvO.eq ?_
                refine xt_gs rfl rfl EvO.eq ?_
                refine xt_gv rfl rfl EvO.eq (by first | exact v_pickT | exact v_pickF | exact v_pick) ?_
                refine xt_gv rfl rfl EvO.eq v_move ?_
                obtain ⟨k2, hk2, hik2, f11, f12⟩ := f4 (by simpa using g112)
                haveI : Row w20 Rf.lasts[k2].2.A (bytesC Rf.lasts[k2].2.bytes) := ⟨((hR.lasts.items _ (List.getElem_mem hk2)).keep (kpc : Keep NoB _ w20) (fun _ _ h => h)).row⟩
                refine xt_gv rfl rfl EvO.eq v_move ?_
                refine xt_gv rfl rfl EvO.eq (v_congr (u := .bool true) v_geq (by simp; omega)) ?_
                refine xt_gv rfl rfl EvO.eq v_move ?_
                refine xt_gv rfl rfl EvO.eq v_move ?_
                refine xt_gcall rfl rfl EvO.eq (num_ok _ _) ?_
                rintro _ _ ⟨rfl, rfl⟩
                refine ⟨kpc, ?_⟩
                refine xt_gv rfl rfl EvO.eq (v_congr (u := .bool true) v_eql (by simp [f11])) ?_
                refine xt_gv rfl rfl EvO.eq (by first | exact v_pickT | exact v_pickF | exact v_pick) ?_
                refine xt_gv rfl rfl EvO.eq v_move ?_
                refine xt_gv rfl rfl EvO.eq v_move ?_
                refine xt_gv rfl rfl EvO.eq (v_bytesStr (xs := readB M.lasts name) rfl) ?_
                refine xt_gv rfl rfl EvO.eq (by first | exact v_fieldAddr | exact v_fieldAddrF (by decide) (by omega) | exact v_fieldAddrR (by first | assumption | rfl)) ?_
                refine xt_gv rfl rfl EvO.eq (by first | exact v_load | exact v_loadO (by omega) | exact v_loadFf (by omega) | exact v_loadF0 (by omega)) ?_
                refine xt_gv rfl rfl EvO.eq v_move ?_
                refine xt_gv rfl rfl EvO.eq (v_indexF k2 (by decide) hik2 (by omega) hk2) ?_
                refine xt_gv rfl rfl EvO.eq (by first | exact v_fieldAddr | exact v_fieldAddrF (by decide) (by omega) | exact v_fieldAddrR (by first | assumption | rfl)) ?_
                refine xt_gv rfl rfl EvO.eq (v_loadFf hk2) ?_
                refine xt_gv rfl rfl EvO.eq (v_bytesStr (xs := Rf.lasts[k2].2.bytes) rfl) ?_
                refine xt_gv rfl rfl EvO.eq (v_congr (u := .bool true) v_seql (by simp [f12])) ?_
                refine xt_gv rfl rfl EvO.eq (by first | exact v_pickT | exact v_pickF | exact v_pick) ?_
                refine xt_gv rfl rfl EvO.eq (by first | exact v_pickT | exact v_pickF | exact v_pick) ?_
                refine xt_v rfl (by first | exact v_pickT | exact v_pickF | exact v_pick) ?_
                refine xt_v rfl v_move ?_
                refine xt_gcall rfl rfl EvO.eq (works_ok w20) ?_
                rintro _ w24 ⟨rfl, lkw⟩
                refine ⟨kpc, ?_⟩
                refine xt_v rfl (by first | exact v_pickT | exact v_pickF | exact v_pick) ?_
                refine xt_v rfl v_assign ?_
                refine xt_nil ?_
                refine x_ret ?_
                refine fin1 rfl ?_
                exact ⟨rfl, lkc⟩
          ·
            refine xt_gs rfl rfl EvO.eq ?_
            refine xt_gse rfl rfl EvO.eq ?_
            refine xt_gs rfl rfl EvO.eq ?_
            refine xt_gs rfl rfl EvO.eq ?_
            refine xt_gu rfl rfl EvO.eq ?_
            refine xt_gu rfl rfl EvO.eq ?_
            refine xt_gu rfl rfl EvO.eq ?_
            refine xt_gu rfl rfl EvO.eq ?_
            refine xt_gu rfl rfl EvO.eq ?_
            refine xt_gu rfl rfl EvO.eq ?_
            refine xt_gu rfl rfl EvO.eq ?_
            refine xt_gu rfl rfl EvO.eq ?_
            refine xt_gu rfl rfl EvO.eq ?_
            refine xt_gs rfl rfl EvO.eq ?_
            refine xt_gv rfl rfl EvO.eq (by first | exact v_pickT | exact v_pickF | exact v_pick) ?_
            refine xt_v rfl (by first | exact v_pickT | exact v_pickF | exact v_pick) ?_
            refine xt_nil ?_
            refine x_condF ?_
            refine x_skip ?_
            refine x_seq ?_
            haveI : RowB w17 Rf.A _ (Rf.lasts.flatMap fileC) := rowB_of (hR.lasts.ext (kpc : Keep NoB _ w17)).row.row
            refine x_drawL (NoB) (.take 0 (.take 1 (.take 2 (.take 3 (.take 4 (.take 5 (.eff 6 (.take 7 (.take 8 (.take 9 (.take 10 (.take 11 (.take 12 (.take 13 (.take 14 (.take 15 (.take 16 (.take 17 (.take 18 (.eff 19 (.take 20 (.take 21 (.take 22 (.take 23 (.take 24 (.take 25 (.take 26 (.take 27 (.take 28 (.take 29 (.take 30 (.take 31 (.take 32 (.take 33 (.take 34 (.take 35 (.take 36 (.eff 37 (.take 38 (.take 39 .done)))))))))))))))))))))))))))))))))))))))) mixed (by kernel_rfl) (fun _ _ _ _ _ h => h) (fun w25 l25 => ?_)
            refine xt_v rfl v_move ?_
            refine xt_v rfl v_move ?_
            refine xt_gv rfl rfl EvO.eq v_move ?_
            refine xt_gv rfl rfl EvO.eq v_lss ?_
            refine xt_gv rfl rfl EvO.eq v_move ?_
            refine xt_split 112 (fun g112 => ?_) (fun g112 => ?_)
            ·
              obtain ⟨f9, f10⟩ := f3 (by simpa using g112)
              refine xt_gv rfl rfl EvO.eq v_move ?_
              refine xt_gcall rfl rfl EvO.eq (num_ok _ _) ?_
              rintro _ _ ⟨rfl, rfl⟩
              refine ⟨kpc, ?_⟩
              refine xt_gv rfl rfl EvO.eq (v_congr (u := .bool true) v_eql (by simp [f9])) ?_
              refine xt_gv rfl rfl EvO.eq (by first | exact v_pickT | exact v_pickF | exact v_pick) ?_
              refine xt_gv rfl rfl EvO.eq v_move ?_
              refine xt_gv rfl rfl EvO.eq v_move ?_
              refine xt_gv rfl rfl EvO.eq v_len ?_
              refine xt_gv rfl rfl EvO.eq (v_congr (u := .bool true) v_eql (by simp [f10])) ?_
              refine xt_gv rfl rfl EvO.eq (by first | exact v_pickT | exact v_pickF | exact v_pick) ?_
              refine xt_gv rfl rfl EvO.eq v_move ?_
              refine xt_gs rfl rfl EvO.eq ?_
              refine xt_gs rfl rfl EvO.eq ?_
              refine xt_gs rfl rfl EvO.eq ?_
              refine xt_gu rfl rfl EvO.eq ?_
              refine xt_gue rfl rfl EvO.eq ?_
              refine xt_gu rfl rfl EvO.eq ?_
              refine xt_gs rfl rfl EvO.eq ?_
              refine xt_gs rfl rfl EvO.eq ?_
              refine xt_gu rfl rfl EvO.eq ?_
              refine xt_gu rfl rfl EvO.eq ?_
              refine xt_gu rfl rfl EvO.eq ?_
              refine xt_gu rfl rfl EvO.eq ?_
              refine xt_gu rfl rfl EvO.eq ?_
              refine xt_gu rfl rfl EvO.eq ?_
              refine xt_gu rfl rfl EvO.eq ?_
              refine xt_gu rfl rfl EvO.eq ?_
              refine xt_gu rfl rfl EvO.eq ?_
              refine xt_gu rfl rfl EvO.eq ?_
              refine xt_gs rfl rfl EvO.eq ?_
              refine xt_gv rfl rfl EvO.eq (by first | exact v_pickT | exact v_pickF | exact v_pick) ?_
              refine xt_v rfl (by first | exact v_pickT | exact v_pickF | exact v_pick) ?_
              refine xt_v rfl v_move ?_
              refine xt_gcall rfl rfl EvO.eq (works_ok w25) ?_
              rintro _ w27 ⟨rfl, lkw⟩
              refine ⟨kpc, ?_⟩
              refine xt_v rfl (by first | exact v_pickT | exact v_pickF | exact v_pick) ?_
              refine xt_v rfl v_assign ?_
              refine xt_nil ?_
              refine x_ret ?_
              refine fin1 rfl ?_
              exact ⟨rfl, lkc⟩
            ·
              refine xt_gs rfl rfl EvO.eq ?_
              refine xt_gse rfl rfl EvO.eq ?_
              refine xt_gs rfl rfl EvO.eq ?_
              refine xt_gv rfl rfl EvO.eq (by first | exact v_pickT | exact v_pickF | exact v_pick) ?_
              refine xt_gv rfl rfl EvO.eq v_move ?_
              refine xt_gs rfl rfl EvO.eq ?_
              refine xt_gs rfl rfl EvO.eq ?_
              refine xt_gs rfl rfl EvO.eq ?_
              refine xt_gv rfl rfl EvO.eq (by first | exact v_pickT | exact v_pickF | exact v_pick) ?_
              refine xt_gv rfl rfl EvO.eq v_move ?_
              obtain ⟨k2, hk2, hik2, f11, f12⟩ := f4 (by simpa using g112)
              haveI : Row w25 Rf.lasts[k2].2.A (bytesC Rf.lasts[k2].2.bytes) := ⟨((hR.lasts.items _ (List.getElem_mem hk2)).keep (kpc : Keep NoB _ w25) (fun _ _ h => h)).row⟩
              refine xt_gv rfl rfl EvO.eq v_move ?_
              refine xt_gv rfl rfl EvO.eq (v_congr (u := .bool true) v_geq (by simp; omega)) ?_
              refine xt_gv rfl rfl EvO.eq v_move ?_
              refine xt_gv rfl rfl EvO.eq v_move ?_
              refine xt_gcall rfl rfl EvO.eq (num_ok _ _) ?_
              rintro _ _ ⟨rfl, rfl⟩
              refine ⟨kpc, ?_⟩
              refine xt_gv rfl rfl EvO.eq (v_congr (u := .bool true) v_eql (by simp [f11])) ?_
              refine xt_gv rfl rfl EvO.eq (by first | exact v_pickT | exact v_pickF | exact v_pick) ?_
              refine xt_gv rfl rfl EvO.eq v_move ?_
              refine xt_gv rfl rfl EvO.eq v_move ?_
              refine xt_gv rfl rfl EvO.eq (v_bytesStr (xs := readB M.lasts name) rfl) ?_
              refine xt_gv rfl rfl EvO.eq (by first | exact v_fieldAddr | exact v_fieldAddrF (by decide) (by omega) | exact v_fieldAddrR (by first | assumption | rfl)) ?_
              refine xt_gv rfl rfl EvO.eq (by first | exact v_load | exact v_loadO (by omega) | exact v_loadFf (by omega) | exact v_loadF0 (by omega)) ?_
              refine xt_gv rfl rfl EvO.eq v_move ?_
              refine xt_gv rfl rfl EvO.eq (v_indexF k2 (by decide) hik2 (by omega) hk2) ?_
              refine xt_gv rfl rfl EvO.eq (by first | exact v_fieldAddr | exact v_fieldAddrF (by decide) (by omega) | exact v_fieldAddrR (by first | assumption | rfl)) ?_
              refine xt_gv rfl rfl EvO.eq (v_loadFf hk2) ?_
              refine xt_gv rfl rfl EvO.eq (v_bytesStr (xs := Rf.lasts[k2].2.bytes) rfl) ?_
              refine xt_gv rfl rfl EvO.eq (v_congr (u := .bool true) v_seql (by simp [f12])) ?_
              refine xt_gv rfl rfl EvO.eq (by first | exact v_pickT | exact v_pickF | exact v_pick) ?_
              refine xt_gv rfl rfl EvO.eq (by first | exact v_pickT | exact v_pickF | exact v_pick) ?_
              refine xt_v rfl (by first | exact v_pickT | exact v_pickF | exact v_pick) ?_
              refine xt_v rfl v_move ?_
              refine xt_gcall rfl rfl EvO.eq (works_ok w25) ?_
              rintro _ w29 ⟨rfl, lkw⟩
              refine ⟨kpc, ?_⟩
              refine xt_v rfl (by first | exact v_pickT | exact v_pickF | exact v_pick) ?_
              refine xt_v rfl v_assign ?_
              refine xt_nil ?_
              refine x_ret ?_
              refine fin1 rfl ?_
              exact ⟨rfl, lkc⟩
        ·
          refine xt_gs rfl rfl EvO.eq ?_
          refine xt_gse rfl rfl EvO.eq ?_
          refine xt_gs rfl rfl EvO.eq ?_
          refine xt_gs rfl rfl EvO.eq ?_
          refine xt_gu rfl rfl EvO.eq ?_
          refine xt_gu rfl rfl EvO.eq ?_
          refine xt_gu rfl rfl EvO.eq ?_
          refine xt_gs rfl rfl EvO.eq ?_
          refine xt_v rfl (by first | exact v_pickT | exact v_pickF | exact v_pick) ?_
          refine xt_v rfl v_move ?_
          refine xt_gv rfl rfl EvO.eq v_move ?_
          refine xt_gv rfl rfl EvO.eq v_geq ?_
          refine xt_gv rfl rfl EvO.eq v_move ?_
          refine xt_split 91 (fun g91 => ?_) (fun g91 => ?_)
          ·
            obtain ⟨k1, hk1, hik1, f7, f8⟩ := f2 (by simp at g91; omega)
            haveI : Row w17 q8[k1].2.A (bytesC q8[k1].2.bytes) := ⟨((hr8.items _ (List.getElem_mem hk1)).keep (kpc : Keep NoB _ w17) (fun _ _ h => h)).row⟩
            refine xt_gv rfl rfl EvO.eq v_move ?_
            refine xt_gcall rfl rfl EvO.eq (num_ok _ _) ?_
            rintro _ _ ⟨rfl, rfl⟩
            refine ⟨kpc, ?_⟩
            refine xt_gv rfl rfl EvO.eq (v_congr (u := .bool false) v_neq (by simp [f7])) ?_
            refine xt_gv rfl rfl EvO.eq v_move ?_
            refine xt_gv rfl rfl EvO.eq v_move ?_
            refine xt_gv rfl rfl EvO.eq (v_bytesStr (xs := readB M.files name) rfl) ?_
            refine xt_gv rfl rfl EvO.eq v_move ?_
            refine xt_gv rfl rfl EvO.eq v_move ?_
            refine xt_gv rfl rfl EvO.eq (v_indexF k1 (by decide) hik1 (by omega) hk1) ?_
            refine xt_gv rfl rfl EvO.eq (by first | exact v_fieldAddr | exact v_fieldAddrF (by decide) (by omega) | exact v_fieldAddrR (by first | assumption | rfl)) ?_
            refine xt_gv rfl rfl EvO.eq (v_loadFf hk1) ?_
            refine xt_gv rfl rfl EvO.eq (v_bytesStr (xs := q8[k1].2.bytes) rfl) ?_
            refine xt_gv rfl rfl EvO.eq (v_congr (u := .bool false) v_sneq (by simp [f8])) ?_
            refine xt_gv rfl rfl EvO.eq (by first | exact v_pickT | exact v_pickF | exact v_pick) ?_
            refine xt_gv rfl rfl EvO.eq (by first | exact v_pickT | exact v_pickF | exact v_pick) ?_
            refine xt_v rfl (by first | exact v_pickT | exact v_pickF | exact v_pick) ?_
            refine xt_nil ?_
            first | refine x_condP (fun c3 => ?_) (fun c3 => ?_) | refine x_condN (fun c3 => ?_) (fun c3 => ?_) | refine x_condE (fun c3 => ?_) (fun c3 => ?_)
            ·
              simp at c3
            ·
              refine x_skip ?_
              refine x_seq ?_
              haveI : RowB w17 Rf.A _ (Rf.lasts.flatMap fileC) := rowB_of (hR.lasts.ext (kpc : Keep NoB _ w17)).row.row
              refine x_drawL (NoB) (.take 0 (.take 1 (.take 2 (.take 3 (.take 4 (.take 5 (.eff 6 (.take 7 (.take 8 (.take 9 (.take 10 (.take 11 (.take 12 (.take 13 (.take 14 (.take 15 (.take 16 (.take 17 (.take 18 (.eff 19 (.take 20 (.take 21 (.take 22 (.take 23 (.take 24 (.take 25 (.take 26 (.take 27 (.take 28 (.take 29 (.take 30 (.take 31 (.take 32 (.take 33 (.take 34 (.take 35 (.take 36 (.eff 37 (.take 38 (.take 39 .done)))))))))))))))))))))))))))))))))))))))) mixed (by kernel_rfl) (fun _ _ _ _ _ h => h) (fun w31 l31 => ?_)
              refine xt_v rfl v_move ?_
              refine xt_v rfl v_move ?_
              refine xt_gv rfl rfl EvO.eq v_move ?_
              refine xt_gv rfl rfl EvO.eq v_lss ?_
              refine xt_gv rfl rfl EvO.eq v_move ?_
              refine xt_split 112 (fun g112 => ?_) (fun g112 => ?_)
              ·
                obtain ⟨f9, f10⟩ := f3 (by simpa using g112)
                refine xt_gv rfl rfl EvO.eq v_move ?_
                refine xt_gcall rfl rfl EvO.eq (num_ok _ _) ?_
                rintro _ _ ⟨rfl, rfl⟩
                refine ⟨kpc, ?_⟩
                refine xt_gv rfl rfl EvO.eq (v_congr (u := .bool true) v_eql (by simp [f9])) ?_
                refine xt_gv rfl rfl EvO.eq (by first | exact v_pickT | exact v_pickF | exact v_pick) ?_
                refine xt_gv rfl rfl EvO.eq v_move ?_
                refine xt_gv rfl rfl EvO.eq v_move ?_
                refine xt_gv rfl rfl EvO.eq v_len ?_
                refine xt_gv rfl rfl EvO.eq (v_congr (u := .bool true) v_eql (by simp [f10])) ?_
                refine xt_gv rfl rfl EvO.eq (by first | exact v_pickT | exact v_pickF | exact v_pick) ?_
                refine xt_gv rfl rfl EvO.eq v_move ?_
                refine xt_gs rfl rfl EvO.eq ?_
                refine xt_gs rfl rfl EvO.eq ?_
                refine xt_gs rfl rfl EvO.eq ?_
                refine xt_gu rfl rfl EvO.eq ?_
                refine xt_gue rfl rfl EvO.eq ?_
                refine xt_gu rfl rfl EvO.eq ?_
                refine xt_gs rfl rfl EvO.eq ?_
                refine xt_gs rfl rfl EvO.eq ?_
                refine xt_gu rfl rfl EvO.eq ?_
                refine xt_gu rfl rfl EvO.eq ?_
                refine xt_gu rfl rfl EvO.eq ?_
                refine xt_gu rfl rfl EvO.eq ?_
                refine xt_gu rfl rfl EvO.eq ?_
                refine xt_gu rfl rfl EvO.eq ?_
                refine xt_gu rfl rfl EvO.eq ?_
                refine xt_gu rfl rfl EvO.eq ?_
                refine xt_gu rfl rfl EvO.eq ?_
                refine xt_gu rfl rfl EvO.eq ?_
                refine xt_gs rfl rfl EvO.eq ?_
                refine xt_gv rfl rfl EvO.eq (by first | exact v_pickT | exact v_pickF | exact v_pick) ?_
                refine xt_v rfl (by first | exact v_pickT | exact v_pickF | exact v_pick) ?_
                refine xt_v rfl v_move ?_
                refine xt_gcall rfl rfl EvO.eq (works_ok w31) ?_
                rintro _ w33 ⟨rfl, lkw⟩
                refine ⟨kpc, ?_⟩
                refine xt_v rfl (by first | exact v_pickT | exact v_pickF | exact v_pick) ?_
                refine xt_v rfl v_assign ?_
                refine xt_nil ?_
                refine x_ret ?_
                refine fin1 rfl ?_
                exact ⟨rfl, lkc⟩
              ·
                refine xt_gs rfl rfl EvO.eq ?_
                refine xt_gse rfl rfl EvO.eq ?_
                refine xt_gs rfl rfl EvO.eq ?_
                refine xt_gv rfl rfl EvO.eq (by first | exact v_pickT | exact v_pickF | exact v_pick) ?_
                refine xt_gv rfl rfl EvO.eq v_move ?_
                refine xt_gs rfl rfl EvO.eq ?_
                refine xt_gs rfl rfl EvO.eq ?_
                refine xt_gs rfl rfl EvO.eq ?_
                refine xt_gv rfl rfl EvO.eq (by first | exact v_pickT | exact v_pickF | exact v_pick) ?_
                refine xt_gv rfl rfl EvO.eq v_move ?_
                obtain ⟨k2, hk2, hik2, f11, f12⟩ := f4 (by simpa using g112)
                haveI : Row w31 Rf.lasts[k2].2.A (bytesC Rf.lasts[k2].2.bytes) := ⟨((hR.lasts.items _ (List.getElem_mem hk2)).keep (kpc : Keep NoB _ w31) (fun _ _ h => h)).row⟩
                refine xt_gv rfl rfl EvO.eq v_move ?_
                refine xt_gv rfl rfl EvO.eq (v_congr (u := .bool true) v_geq (by simp; omega)) ?_
                refine xt_gv rfl rfl EvO.eq v_move ?_
                refine xt_gv rfl rfl EvO.eq v_move ?_
                refine xt_gcall rfl rfl EvO.eq (num_ok _ _) ?_
                rintro _ _ ⟨rfl, rfl⟩
                refine ⟨kpc, ?_⟩
                refine xt_gv rfl rfl EvO.eq (v_congr (u := .bool true) v_eql (by simp [f11])) ?_
                refine xt_gv rfl rfl EvO.eq (by first | exact v_pickT | exact v_pickF | exact v_pick) ?_
                refine xt_gv rfl rfl EvO.eq v_move ?_
                refine xt_gv rfl rfl EvO.eq v_move ?_
                refine xt_gv rfl rfl EvO.eq (v_bytesStr (xs := readB M.lasts name) rfl) ?_
                refine xt_gv rfl rfl EvO.eq (by first | exact v_fieldAddr | exact v_fieldAddrF (by decide) (by omega) | exact v_fieldAddrR (by first | assumption | rfl)) ?_
                refine xt_gv rfl rfl EvO.eq (by first | exact v_load | exact v_loadO (by omega) | exact v_loadFf (by omega) | exact v_loadF0 (by omega)) ?_
                refine xt_gv rfl rfl EvO.eq v_move ?_
                refine xt_gv rfl rfl EvO.eq (v_indexF k2 (by decide) hik2 (by omega) hk2) ?_
                refine xt_gv rfl rfl EvO.eq (by first | exact v_fieldAddr | exact v_fieldAddrF (by decide) (by omega) | exact v_fieldAddrR (by first | assumption | rfl)) ?_
                refine xt_gv rfl rfl EvO.eq (v_loadFf hk2) ?_
                refine xt_gv rfl rfl EvO.eq (v_bytesStr (xs := Rf.lasts[k2].2.bytes) rfl) ?_
                refine xt_gv rfl rfl EvO.eq (v_congr (u := .bool true) v_seql (by simp [f12])) ?_
                refine xt_gv rfl rfl EvO.eq (by first | exact v_pickT | exact v_pickF | exact v_pick) ?_
                refine xt_gv rfl rfl EvO.eq (by first | exact v_pickT | exact v_pickF | exact v_pick) ?_
                refine xt_v rfl (by first | exact v_pickT | exact v_pickF | exact v_pick) ?_
                refine xt_v rfl v_move ?_
                refine xt_gcall rfl rfl EvO.eq (works_ok w31) ?_
                rintro _ w35 ⟨rfl, lkw⟩
                refine ⟨kpc, ?_⟩
                refine xt_v rfl (by first | exact v_pickT | exact v_pickF | exact v_pick) ?_
                refine xt_v rfl v_assign ?_
                refine xt_nil ?_
                refine x_ret ?_
                refine fin1 rfl ?_
                exact ⟨rfl, lkc⟩
          ·
            refine xt_gs rfl rfl EvO.eq ?_
            refine xt_gse rfl rfl EvO.eq ?_
            refine xt_gs rfl rfl EvO.eq ?_
            refine xt_gs rfl rfl EvO.eq ?_
            refine xt_gu rfl rfl EvO.eq ?_
            refine xt_gu rfl rfl EvO.eq ?_
            refine xt_gu rfl rfl EvO.eq ?_
            refine xt_gu rfl rfl EvO.eq ?_
            refine xt_gu rfl rfl EvO.eq ?_
            refine xt_gu rfl rfl EvO.eq ?_
            refine xt_gu rfl rfl EvO.eq ?_
            refine xt_gu rfl rfl EvO.eq ?_
            refine xt_gu rfl rfl EvO.eq ?_
            refine xt_gs rfl rfl EvO.eq ?_
            refine xt_gv rfl rfl EvO.eq (by first | exact v_pickT | exact v_pickF | exact v_pick) ?_
            refine xt_v rfl (by first | exact v_pickT | exact v_pickF | exact v_pick) ?_
            refine xt_nil ?_
            refine x_condF ?_
            refine x_skip ?_
            refine x_seq ?_
            haveI : RowB w17 Rf.A _ (Rf.lasts.flatMap fileC) := rowB_of (hR.lasts.ext (kpc : Keep NoB _ w17)).row.row
            refine x_drawL (NoB) (.take 0 (.take 1 (.take 2 (.take 3 (.take 4 (.take 5 (.eff 6 (.take 7 (.take 8 (.take 9 (.take 10 (.take 11 (.take 12 (.take 13 (.take 14 (.take 15 (.take 16 (.take 17 (.take 18 (.eff 19 (.take 20 (.take 21 (.take 22 (.take 23 (.take 24 (.take 25 (.take 26 (.take 27 (.take 28 (.take 29 (.take 30 (.take 31 (.take 32 (.take 33 (.take 34 (.take 35 (.take 36 (.eff 37 (.take 38 (.take 39 .done)))))))))))))))))))))))))))))))))))))))) mixed (by kernel_rfl) (fun _ _ _ _ _ h => h) (fun w36 l36 => ?_)
            refine xt_v rfl v_move ?_
            refine xt_v rfl v_move ?_
            refine xt_gv rfl rfl EvO.eq v_move ?_
            refine xt_gv rfl rfl EvO.eq v_lss ?_
            refine xt_gv rfl rfl EvO.eq v_move ?_
            refine xt_split 112 (fun g112 => ?_) (fun g112 => ?_)
            ·
              obtain ⟨f9, f10⟩ := f3 (by simpa using g112)
              refine xt_gv rfl rfl EvO.eq v_move ?_
              refine xt_gcall rfl rfl EvO.eq (num_ok _ _) ?_
              rintro _ _ ⟨rfl, rfl⟩
              refine ⟨kpc, ?_⟩
              refine xt_gv rfl rfl EvO.eq (v_congr (u := .bool true) v_eql (by simp [f9])) ?_
              refine xt_gv rfl rfl EvO.eq (by first | exact v_pickT | exact v_pickF | exact v_pick) ?_
              refine xt_gv rfl rfl EvO.eq v_move ?_
              refine xt_gv rfl rfl EvO.eq v_move ?_
              refine xt_gv rfl rfl EvO.eq v_len ?_
              refine xt_gv rfl rfl EvO.eq (v_congr (u := .bool true) v_eql (by simp [f10])) ?_
              refine xt_gv rfl rfl EvO.eq (by first | exact v_pickT | exact v_pickF | exact v_pick) ?_
              refine xt_gv rfl rfl EvO.eq v_move ?_
              refine xt_gs rfl rfl EvO.eq ?_
              refine xt_gs rfl rfl EvO.eq ?_
              refine xt_gs rfl rfl EvO.eq ?_
              refine xt_gu rfl rfl EvO.eq ?_
              refine xt_gue rfl rfl EvO.eq ?_
              refine xt_gu rfl rfl EvO.eq ?_
              refine xt_gs rfl rfl EvO.eq ?_
              refine xt_gs rfl rfl EvO.eq ?_
              refine xt_gu rfl rfl EvO.eq ?_
              refine xt_gu rfl rfl EvO.eq ?_
              refine xt_gu rfl rfl EvO.eq ?_
              refine xt_gu rfl rfl EvO.eq ?_
              refine xt_gu rfl rfl EvO.eq ?_
              refine xt_gu rfl rfl EvO.eq ?_
              refine xt_gu rfl rfl EvO.eq ?_
              refine xt_gu rfl rfl EvO.eq ?_
              refine xt_gu rfl rfl EvO.eq ?_
              refine xt_gu rfl rfl EvO.eq ?_
              refine xt_gs rfl rfl EvO.eq ?_
              refine xt_gv rfl rfl EvO.eq (by first | exact v_pickT | exact v_pickF | exact v_pick) ?_
              refine xt_v rfl (by first | exact v_pickT | exact v_pickF | exact v_pick) ?_
              refine xt_v rfl v_move ?_
              refine xt_gcall rfl rfl EvO.eq (works_ok w36) ?_
              rintro _ w38 ⟨rfl, lkw⟩
              refine ⟨kpc, ?_⟩
              refine xt_v rfl (by first | exact v_pickT | exact v_pickF | exact v_pick) ?_
              refine xt_v rfl v_assign ?_
              refine xt_nil ?_
              refine x_ret ?_
              refine fin1 rfl ?_
              exact ⟨rfl, lkc⟩
            ·
              refine xt_gs rfl rfl EvO.eq ?_
              refine xt_gse rfl rfl EvO.eq ?_
              refine xt_gs rfl rfl EvO.eq ?_
              refine xt_gv rfl rfl EvO.eq (by first | exact v_pickT | exact v_pickF | exact v_pick) ?_
              refine xt_gv rfl rfl EvO.eq v_move ?_
              refine xt_gs rfl rfl EvO.eq ?_
              refine xt_gs rfl rfl EvO.eq ?_
              refine xt_gs rfl rfl EvO.eq ?_
              refine xt_gv rfl rfl EvO.eq (by first | exact v_pickT | exact v_pickF | exact v_pick) ?_
              refine xt_gv rfl rfl EvO.eq v_move ?_
              obtain ⟨k2, hk2, hik2, f11, f12⟩ := f4 (by simpa using g112)
              haveI : Row w36 Rf.lasts[k2].2.A (bytesC Rf.lasts[k2].2.bytes) := ⟨((hR.lasts.items _ (List.getElem_mem hk2)).keep (kpc : Keep NoB _ w36) (fun _ _ h => h)).row⟩
              refine xt_gv rfl rfl EvO.eq v_move ?_
              refine xt_gv rfl rfl EvO.eq (v_congr (u := .bool true) v_geq (by simp; omega)) ?_
              refine xt_gv rfl rfl EvO.eq v_move ?_
              refine xt_gv rfl rfl EvO.eq v_move ?_
              refine xt_gcall rfl rfl EvO.eq (num_ok _ _) ?_
              rintro _ _ ⟨rfl, rfl⟩
              refine ⟨kpc, ?_⟩
              refine xt_gv rfl rfl EvO.eq (v_congr (u := .bool true) v_eql (by simp [f11])) ?_
              refine xt_gv rfl rfl EvO.eq (by first | exact v_pickT | exact v_pickF | exact v_pick) ?_
              refine xt_gv rfl rfl EvO.eq v_move ?_
              refine xt_gv rfl rfl EvO.eq v_move ?_
              refine xt_gv rfl rfl EvO.eq (v_bytesStr (xs := readB M.lasts name) rfl) ?_
              refine xt_gv rfl rfl EvO.eq (by first | exact v_fieldAddr | exact v_fieldAddrF (by decide) (by omega) | exact v_fieldAddrR (by first | assumption | rfl)) ?_
              refine xt_gv rfl rfl EvO.eq (by first | exact v_load | exact v_loadO (by omega) | exact v_loadFf (by omega) | exact v_loadF0 (by omega)) ?_
              refine xt_gv rfl rfl EvO.eq v_move ?_
              refine xt_gv rfl rfl EvO.eq (v_indexF k2 (by decide) hik2 (by omega) hk2) ?_
              refine xt_gv rfl rfl EvO.eq (by first | exact v_fieldAddr | exact v_fieldAddrF (by decide) (by omega) | exact v_fieldAddrR (by first | assumption | rfl)) ?_
              refine xt_gv rfl rfl EvO.eq (v_loadFf hk2) ?_
              refine xt_gv rfl rfl EvO.eq (v_bytesStr (xs := Rf.lasts[k2].2.bytes) rfl) ?_
              refine xt_gv rfl rfl EvO.eq (v_congr (u := .bool true) v_seql (by simp [f12])) ?_
              refine xt_gv rfl rfl EvO.eq (by first | exact v_pickT | exact v_pickF | exact v_pick) ?_
              refine xt_gv rfl rfl EvO.eq (by first | exact v_pickT | exact v_pickF | exact v_pick) ?_
              refine xt_v rfl (by first | exact v_pickT | exact v_pickF | exact v_pick) ?_
              refine xt_v rfl v_move ?_
              refine xt_gcall rfl rfl EvO.eq (works_ok w36) ?_
              rintro _ w40 ⟨rfl, lkw⟩
              refine ⟨kpc, ?_⟩
              refine xt_v rfl (by first | exact v_pickT | exact v_pickF | exact v_pick) ?_
              refine xt_v rfl v_assign ?_
              refine xt_nil ?_
              refine x_ret ?_
              refine fin1 rfl ?_
              exact ⟨rfl, lkc⟩
end Go.Proofs.Ytabknhgbijcklaa
