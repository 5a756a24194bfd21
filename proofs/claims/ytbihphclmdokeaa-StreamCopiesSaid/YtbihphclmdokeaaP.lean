/-
  Walks, printed by a program of this workplace (wip/tools/sx.py) off the functions' code and a text of contracts.
-/
import Derived.Test.YtbihphclmdokeaaO
set_option linter.all false
set_option maxRecDepth 100000
set_option synthInstance.maxSize 100000
set_option synthInstance.maxHeartbeats 400000
namespace Go.Proofs.Ytbihphclmdokeaa
open Go.Wst
open Go.Wst.Sm
def sameM (M N : Mach) : Bool := decide (M.parts = N.parts) && (decide (M.rules.length = N.rules.length) && M.rules.all (fun p => decide (akey N.rules p.1 = some p.2)))
theorem MachAt.slot {w : World} {b pb mb : Nat} {vs : List Value} {M : Mach} (h : MachAt w b pb mb vs M) (i : Nat) (hi : i < vs.length) (hi' : i < M.parts.length) : ∃ A cap, vs[i] = .slice A M.parts[i].length cap ∧ RowP w A (itemsC M.parts[i]) := by
  obtain ⟨m, ho⟩ := h.hs.own i _ (itemsC M.parts[i]) (List.getElem?_eq_getElem hi) (by simp [hi'])
  have hm : m = M.parts[i].length := by have := ho.1; rw [itemsC_len] at this; omega
  subst hm
  obtain ⟨A, cap, he, _, _, h3⟩ := ownsRow_form ho
  exact ⟨A, cap, he, h3⟩
theorem row_left {w : World} {A : Option Addr} {xs ys : List Value} (h : RowP w A (xs ++ ys)) : RowP w A xs := fun j v hj => h j v (get_app hj)
theorem parts_eq (M N : Mach) : (decide (M.parts.length = N.parts.length) && (List.range M.parts.length).all (fun i => decide (M.parts[i]? = N.parts[i]?))) = decide (M.parts = N.parts) := by
  rw [Bool.eq_iff_iff]
  simp only [Bool.and_eq_true, decide_eq_true_eq, List.all_eq_true, List.mem_range]
  constructor
  · rintro ⟨h1, h2⟩
    apply List.ext_getElem?
    intro i
    by_cases hi : i < M.parts.length
    · exact h2 i hi
    · rw [List.getElem?_eq_none (by omega), List.getElem?_eq_none (by omega)]
  · intro h
    rw [h]
    exact ⟨rfl, fun _ _ => rfl⟩

/-- waystation/stream.Same -/
theorem same_ok (b1 pb1 mb1 : Nat) (vs1 : List Value) (M : Mach) (b2 pb2 mb2 : Nat) (vs2 : List Value) (N : Mach) (w : World) (h1 : MachAt w b1 pb1 mb1 vs1 M) (h2 : MachAt w b2 pb2 mb2 vs2 N) (o1 : M.ok) (o2 : N.ok) : Ret Try.prog 24 #[.pointer (some ⟨b1, 0, none⟩), .pointer (some ⟨b2, 0, none⟩)] w (fun v w' => v = .bool (sameM M N) ∧ Lk w' w NoB) := by
  obtain ⟨sp1, hb1, hp1⟩ := h1.ex
  obtain ⟨sp2, hb2, hp2⟩ := h2.ex
  haveI k1 : Blk w b1 _ := ⟨hb1⟩
  haveI k2 : Blk w b2 _ := ⟨hb2⟩
  haveI p1 : Row w (some ⟨pb1, 0, none⟩) vs1 := ⟨row_left (row_blk hp1)⟩
  haveI p2 : Row w (some ⟨pb2, 0, none⟩) vs2 := ⟨row_left (row_blk hp2)⟩
  haveI m1 : MapI w mb1 _ _ _ := ⟨h1.hm⟩
  haveI m2 : MapI w mb2 _ _ _ := ⟨h2.hm⟩
  have hv1 : vs1.length = M.parts.length := by simpa using h1.hs.len
  have hv2 : vs2.length = N.parts.length := by simpa using h2.hs.len
  have hfour := o1.four
  refine ret_of_x (N := 39) (l := [.pointer (some ⟨b1, 0, none⟩), .pointer (some ⟨b2, 0, none⟩)]) Try.func24 rfl rfl (Nat.le_of_ble_eq_true rfl) ?_
  refine x_seq ?_
  refine x_regionL ?_
  refine xl_v v_assign ?_
  refine xl_nil ?_
  refine x_seq ?_
  refine x_seq ?_
  refine x_regionL ?_
  refine xl_v v_move ?_
  refine xl_call (none_ok _ _ _ _) ?_
  rintro _ _ ⟨rfl, rfl⟩
  refine xl_v v_move ?_
  refine xl_gv rfl EvO.eq v_move ?_
  refine xl_gcall rfl EvO.eq (none_ok _ _ _ _) ?_
  rintro _ _ ⟨rfl, rfl⟩
  refine xl_v (by first | exact v_pickT | exact v_pickF | exact v_pick) ?_
  refine xl_nil ?_
  refine x_condF ?_
  refine x_skip ?_
  refine x_seq ?_
  refine x_drawL (NoB) (allS) (.take 0 (.take 1 (.take 2 (.take 3 (.take 4 (.take 5 (.take 6 (.take 7 (.take 8 (.take 9 (.eff 10 (.take 11 (.take 12 (.take 13 (.take 14 (.take 15 (.take 16 (.take 17 (.take 18 (.take 19 (.eff 20 (.take 21 (.take 22 .done))))))))))))))))))))))) mixed (by kernel_rfl) (fun _ _ _ _ _ h => h) (fun w3 l3 => ?_)
  refine xt_v rfl v_move ?_
  refine xt_v rfl (by first | exact v_nilCheckP | exact v_nilCheckF | exact v_nilCheckR (by first | assumption | rfl)) ?_
  refine xt_v rfl (by first | exact v_fieldAddr | exact v_fieldAddrF (by decide) (by omega) | exact v_fieldAddrR (by first | assumption | rfl)) ?_
  refine xt_v rfl (by first | exact v_fieldAddr | exact v_fieldAddrF (by decide) (by omega) | exact v_fieldAddrR (by first | assumption | rfl)) ?_
  refine xt_v rfl (by first | exact v_load | exact v_loadO (by omega) | exact v_loadFf (by omega) | exact v_loadF0 (by omega)) ?_
  refine xt_v rfl v_move ?_
  refine xt_v rfl (by first | exact v_nilCheckP | exact v_nilCheckF | exact v_nilCheckR (by first | assumption | rfl)) ?_
  refine xt_v rfl (by first | exact v_fieldAddr | exact v_fieldAddrF (by decide) (by omega) | exact v_fieldAddrR (by first | assumption | rfl)) ?_
  refine xt_v rfl (by first | exact v_fieldAddr | exact v_fieldAddrF (by decide) (by omega) | exact v_fieldAddrR (by first | assumption | rfl)) ?_
  refine xt_v rfl (by first | exact v_load | exact v_loadO (by omega) | exact v_loadFf (by omega) | exact v_loadF0 (by omega)) ?_
  refine xt_call rfl (equalFuncx_ok (some ⟨pb1, 0, none⟩) M.parts.length (M.parts.length + sp1.length) vs1 (some ⟨pb2, 0, none⟩) N.parts.length (N.parts.length + sp2.length) vs2 _ [] (fun i => decide (M.parts[i]? = N.parts[i]?)) w3 hv1 hv2 (by omega) (fun i hi hi' W l => (by obtain ⟨A, cap, e1, r1⟩ := h1.slot i hi (by omega); obtain ⟨B, cap', e2, r2⟩ := h2.slot i hi' (by omega); rw [e1, e2]; haveI : Row W A _ := ⟨r1.keep (kpc : Keep NoB w W) (fun _ _ h => h)⟩; haveI : Row W B _ := ⟨r2.keep (kpc : Keep NoB w W) (fun _ _ h => h)⟩; have hlong := o1.long _ (List.getElem_mem (by omega : i < M.parts.length)); refine (equalx_ok A _ cap M.parts[i] B _ cap' N.parts[i] W rfl rfl (by omega)).mono ?_; rintro v w' ⟨rfl, lk⟩; exact ⟨by rw [List.getElem?_eq_getElem (by omega : i < M.parts.length), List.getElem?_eq_getElem (by omega : i < N.parts.length)]; simp, lk⟩))) ?_
  rintro _ w4 ⟨rfl, lke⟩
  refine ⟨kpc, ?_⟩
  refine xt_v rfl v_move ?_
  refine xt_split 28 (fun g28 => ?_) (fun g28 => ?_)
  ·
    refine xt_gv rfl rfl EvO.eq v_move ?_
    refine xt_gv rfl rfl EvO.eq (by first | exact v_nilCheckP | exact v_nilCheckF | exact v_nilCheckR (by first | assumption | rfl)) ?_
    refine xt_gv rfl rfl EvO.eq (by first | exact v_fieldAddr | exact v_fieldAddrF (by decide) (by omega) | exact v_fieldAddrR (by first | assumption | rfl)) ?_
    refine xt_gv rfl rfl EvO.eq (by first | exact v_load | exact v_loadO (by omega) | exact v_loadFf (by omega) | exact v_loadF0 (by omega)) ?_
    refine xt_gv rfl rfl EvO.eq v_move ?_
    refine xt_gv rfl rfl EvO.eq (by first | exact v_nilCheckP | exact v_nilCheckF | exact v_nilCheckR (by first | assumption | rfl)) ?_
    refine xt_gv rfl rfl EvO.eq (by first | exact v_fieldAddr | exact v_fieldAddrF (by decide) (by omega) | exact v_fieldAddrR (by first | assumption | rfl)) ?_
    refine xt_gv rfl rfl EvO.eq (by first | exact v_load | exact v_loadO (by omega) | exact v_loadFf (by omega) | exact v_loadF0 (by omega)) ?_
    refine xt_gcall rfl rfl EvO.eq (mapsEqual_ok mb1 mb2 M.rules N.rules w4) ?_
    rintro _ w5 ⟨rfl, lkm⟩
    refine ⟨kpc, ?_⟩
    refine xt_v rfl (by first | exact v_pickT | exact v_pickF | exact v_pick) ?_
    refine xt_v rfl v_assign ?_
    refine xt_nil ?_
    refine x_ret ?_
    refine fin1 rfl ?_
    first
    | exact ⟨by rw [sameM, ← parts_eq, g28, Bool.true_and], lkc⟩
    | exact ⟨by rw [sameM, ← parts_eq, g28, Bool.false_and], lkc⟩
  ·
    refine xt_gs rfl rfl EvO.eq ?_
    refine xt_gs rfl rfl EvO.eq ?_
    refine xt_gs rfl rfl EvO.eq ?_
    refine xt_gs rfl rfl EvO.eq ?_
    refine xt_gs rfl rfl EvO.eq ?_
    refine xt_gs rfl rfl EvO.eq ?_
    refine xt_gs rfl rfl EvO.eq ?_
    refine xt_gs rfl rfl EvO.eq ?_
    refine xt_gse rfl rfl EvO.eq ?_
    refine xt_v rfl (by first | exact v_pickT | exact v_pickF | exact v_pick) ?_
    refine xt_v rfl v_assign ?_
    refine xt_nil ?_
    refine x_ret ?_
    refine fin1 rfl ?_
    first
    | exact ⟨by rw [sameM, ← parts_eq, g28, Bool.true_and], lkc⟩
    | exact ⟨by rw [sameM, ← parts_eq, g28, Bool.false_and], lkc⟩
end Go.Proofs.Ytbihphclmdokeaa
