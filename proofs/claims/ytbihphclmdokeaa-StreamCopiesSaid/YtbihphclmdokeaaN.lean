/-
  Walks, printed by a program of this workplace (wip/tools/sx.py) off the functions' code and a text of contracts.
-/
import Derived.Test.YtbihphclmdokeaaM
set_option linter.all false
set_option maxRecDepth 100000
set_option synthInstance.maxSize 100000
set_option synthInstance.maxHeartbeats 400000
namespace Go.Proofs.Ytbihphclmdokeaa
open Go.Wst
open Go.Wst.Sm
theorem len_rules {M : Mach} (hok : M.ok) : M.rules.length ≤ 1000 := by
  have h : ∀ k ∈ M.rules.map (·.1), k ∈ ([0, 1, 2, 3] : List Int) := by
    intro k hk
    obtain ⟨p, hp, rfl⟩ := List.mem_map.1 hk
    obtain ⟨h1, h2, _⟩ := hok.rules p hp
    rw [← h1]
    simp only [mayB, Bool.and_eq_true, decide_eq_true_eq] at h2
    have := h2.1.1.1.1.1
    simp; omega
  have := List.Nodup.length_le_of_subset hok.keys h
  simp at this
  omega

/-- (*waystation/stream.Machine).Rules -/
theorem rules_ok (b pb mb : Nat) (vs : List Value) (M : Mach) (w : World) (h : MachAt w b pb mb vs M) (hok : M.ok) : Ret Try.prog 36 #[.pointer (some ⟨b, 0, none⟩)] w (fun v w' => ∃ A c, v = .slice A M.ids.length c ∧ w'.ownsRow w.heap.size 23 5 v M.ids.length ((M.ids.map M.ruleOf).flatMap ruleC) ∧ Lk w' w NoB) := by
  obtain ⟨sp, hbs, hps⟩ := h.ex
  haveI hb : Blk w b _ := ⟨hbs⟩
  have hil : M.ids.length ≤ 1000 := by have := len_rules hok; simpa [Mach.ids] using this
  refine ret_of_x (N := 19) (l := [.pointer (some ⟨b, 0, none⟩)]) Try.func36 rfl rfl (Nat.le_of_ble_eq_true rfl) ?_
  refine x_seq ?_
  refine x_regionL ?_
  refine xl_e (e_box fun bm w1 nbm lbm kbm => ?_)
  refine xl_v v_assign ?_
  refine xl_nil ?_
  refine x_seq ?_
  refine x_regionL ?_
  refine xl_e (e_alloc fun b3 w2 n3 l3 k3 => ?_)
  refine xl_nil ?_
  refine x_seq ?_
  refine x_seq ?_
  refine x_regionL ?_
  refine xl_v (by first | exact v_load | exact v_loadO (by omega) | exact v_loadFf (by omega) | exact v_loadF0 (by omega)) ?_
  refine xl_call (ids_ok b _) ?_
  rintro _ w3 ⟨b1, rfl, kb1, hb1, lk1⟩
  refine xl_nil ?_
  refine x_block ?_
  have hb3w : w.heap.size ≤ b3 := by rw [n3.eq]; exact Ge.le
  have hb3l : b3 < w3.heap.size := Has.lt
  haveI kb3 : Blk w3 b3 _ := inferInstance
  refine x_range (ps := [7]) (fun _ => False) (IdsAl M) (IdsFin M) (fun W l => idsIter b1 b pb mb vs M W (h.keep (kpc : Keep NoB w W) (fun _ _ h => h)) (len_rules hok)) (fun _ h => h.elim) (fun pre v h => (by obtain ⟨n, h1⟩ := h; obtain ⟨a, b, _, _, h2⟩ := List.map_eq_append_iff.1 h1.symm; obtain ⟨k, c, _, h3, _⟩ := List.map_eq_cons_iff.1 h2; rw [← h3]; rfl)) (AppE (fun id : Int => [Value.int .i64 id]) (fun id => ruleC (M.ruleOf id)) 5 b3 48 23 w3) (fun _ _ _ _ => False) (OneB b3) (appE_stable) (fun _ => ⟨fun _ _ _ h => h.elim, fun _ _ _ _ _ h => h.elim⟩) (appE_start Blk.eq) (fun _ _ h => h) (fun v τ => Ev τ 1 (.pointer (some ⟨bm, 0, none⟩)) ∧ Ev τ 3 (.pointer (some ⟨b3, 0, none⟩)) ∧ ∃ x, v = [x] ∧ Ev τ 4 x) ?assign ?body ?normal ?jump
  case assign =>
    intro l4 v4 w4 hv4
    obtain ⟨x, rfl⟩ : ∃ x, v4 = [x] := List.length_eq_one_iff.1 hv4
    simp only [updL]
    refine x_regionL ?_
    refine xl_v v_assign ?_
    refine xl_nil ?_
    exact ⟨rfl, inferInstance, inferInstance, x, rfl, inferInstance⟩
  case body =>
    intro l pre v F w5 τ5 ds5 hal hI hB
    obtain ⟨ks, V, rfl, hb3, hown, hFe, hkw⟩ := hI
    obtain ⟨e1, e3, x, rfl, e4⟩ := hB
    obtain ⟨n, hn⟩ := hal
    obtain ⟨a, bb, hab, h1, h2⟩ := List.map_eq_append_iff.1 hn.symm
    obtain ⟨k, c, rfl, h3, h4⟩ := List.map_eq_cons_iff.1 h2
    obtain rfl : Value.int .i64 k = x := by simpa using h3
    have hla : a.length = ks.length := by simpa using congrArg List.length h1
    have hkl : ks.length + 1 ≤ 1000 := by have := congrArg List.length hab; simp at this; omega
    haveI lkB : Lk w5 _ (OneB b3) := ⟨hkw⟩
    haveI kb : Blk w5 b3 _ := ⟨hb3⟩
    haveI nb : NotS (OwnB V) b3 := ⟨fun e => by have := (hown.lt _ (Eq.symm e)).1; omega⟩
    haveI := ownA_of hown (Nat.le_refl _)
    haveI hmW : MapI w5 mb _ _ _ := ⟨h.hm.keep (kpc : Keep NoB w w5) (fun h => h)⟩
    obtain ⟨q1, q2⟩ := rules_get M.rules k
    have hmlt := h.hm.lt
    haveI nm : NotS (OwnB V) mb := ⟨fun e => by have := (hown.lt _ (Eq.symm e)).1; omega⟩
    refine x_block ?_
    refine x_drawL (OwnB V) (allS) (.take 0 (.take 1 (.take 2 (.take 3 (.take 4 (.take 5 (.take 6 (.take 7 (.eff 8 (.eff 9 (.last 10))))))))))) mixed (by kernel_rfl) (fun _ _ _ _ _ h => h) (fun w6 l6 => ?_)
    refine xt_v rfl (by first | exact v_load | exact v_loadO (by omega) | exact v_loadFf (by omega) | exact v_loadF0 (by omega)) ?_
    refine xt_v rfl (by first | exact v_load | exact v_loadO (by omega) | exact v_loadFf (by omega) | exact v_loadF0 (by omega)) ?_
    refine xt_v rfl (by first | exact v_nilCheckP | exact v_nilCheckF | exact v_nilCheckR (by first | assumption | rfl)) ?_
    refine xt_v rfl (by first | exact v_fieldAddr | exact v_fieldAddrF (by decide) (by omega) | exact v_fieldAddrR (by first | assumption | rfl)) ?_
    refine xt_v rfl (by first | exact v_load | exact v_loadO (by omega) | exact v_loadFf (by omega) | exact v_loadF0 (by omega)) ?_
    refine xt_v rfl v_move ?_
    refine xt_v rfl (v_lookup1v k _ rfl q1) ?_
    refine xt_v rfl (v_fieldA) ?_
    refine xt_e rfl (e_buildSlice1 rfl fun b8 w7 n8 l8 k8 => ?_)
    refine xt_e rfl (e_append' (own_ext hown lkc) (Nat.le_trans hkw.size Ge.le) rfl Cell1L.eq (by decide) (.inl rfl) (by omega) (by omega) fun A9 c9 w8 ho9 l9 hn9 => ?_)
    refine xt_lastS rfl (e_store fun w9 l10 k10 => ?_)
    haveI s1 : SubF (OwnB V) F w5 := ⟨fun j _ e => (hFe j).2 (.inr (Eq.symm e))⟩
    haveI s2 : SubF (OneB b3) F w5 := ⟨fun j _ e => (hFe j).2 (.inl e)⟩
    refine appE_step hb3l hown hFe hkw kpc k10.eq (own_keep ho9 l10.keep (fun j hj e => by have e' : j = b3 := e; have := (ho9.lt j hj).1; omega)) (hn9.imp id (fun e => ⟨_, e, Ge.le⟩))
  case normal =>
    intro D10 pre F w10 hfin hI hkF hsF hD10 hge10 hnF10
    obtain ⟨ks, V, hks, hb3, hown, hFe, hkw⟩ := hI
    haveI lkB : Lk w10 _ (OneB b3) := ⟨hkw⟩
    haveI kb : Blk w10 b3 _ := ⟨hb3⟩
    obtain ⟨A, c, rfl, _⟩ := ownsRow_form hown
    have hDw : w.heap.size ≤ D10 := Nat.le_trans (Nat.le_trans hb3w (Nat.le_of_lt hb3l)) hge10
    haveI sD : SubF (fun k => k ∈ [D10]) NoB w := ⟨fun k hk e => by simp at e; omega⟩
    have hki : ks = M.ids := (List.map_inj_right (fun x y h => by simpa using h)).1 (hks.symm.trans hfin)
    subst hki
    refine x_seq ?_
    refine x_regionL ?_
    refine xl_v (by first | exact v_load | exact v_loadO (by omega) | exact v_loadFf (by omega) | exact v_loadF0 (by omega)) ?_
    refine xl_v v_assign ?_
    refine xl_nil ?_
    refine x_ret ?_
    refine finM (rs := [.tmp 2]) rfl [D10] rfl (by simpa using hD10.eq) (by simp) (fun w11 lm11 => ⟨_, inferInstance, ?_⟩)
    refine ⟨A, c, rfl, ?_, lkc⟩
    have := own_mono (own_keep hown lm11.keep (by
      intro k hk e
      simp at e
      subst e
      exact hnF10 ((hFe _).2 (.inr hk)))) (Ge.le (w := w))
    simpa [List.flatMap_map, outV] using this
  case jump =>
    exact fun _ _ _ _ _ h => h.elim
end Go.Proofs.Ytbihphclmdokeaa
