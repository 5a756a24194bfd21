/-
  Walks, printed by a program of this workplace (wip/tools/sx.py) off the functions' code and a text of contracts.
-/
import Derived.Test.YtabknhgbijcklaaG
set_option linter.all false
set_option maxRecDepth 100000
set_option synthInstance.maxSize 100000
set_option synthInstance.maxHeartbeats 400000
namespace Go.Proofs.Ytabknhgbijcklaa
open Go.Wst
open Go.Wst.Dm
instance cell1_g (x : LThing) : Cell1 x.g := ⟨x.one⟩
def tellT (p : Nat × LThing) : List Value := [.int .i64 (p.1 : Int), .agg (thingC p.2).toArray]
/-- What a crash keeps. -/
def lastT (ws : List LThing) (k : Nat) (torn : Int) : List (Nat × LThing) := match ws[k]? with
  | none => []
  | some x => if 0 < pickN torn (putsN x.t) then [(pickN torn (putsN x.t), x)] else []
def told (ws : List LThing) (k : Nat) (torn : Int) : List (Nat × LThing) := (ws.take k).map (fun x => (putsN x.t, x)) ++ lastT ws k torn
def AlT (l : List (Nat × LThing)) : Seen → Prop := fun pre => pre.length ≤ l.length ∧ pre = (l.take pre.length).map tellT
def FinT (l : List (Nat × LThing)) : Seen → Prop := fun pre => pre = l.map tellT
theorem told_get {ws : List LThing} {k : Nat} {torn : Int} {i : Nat} (hi : i < k) (hi2 : i < ws.length) : (told ws k torn)[i]? = some (putsN ws[i].t, ws[i]) := by
  have h1 : i < ((ws.take k).map (fun x => (putsN x.t, x))).length := by simp; omega
  rw [told, List.getElem?_append_left h1]
  simp [hi, hi2]
theorem told_take {ws : List LThing} {k : Nat} {torn : Int} (hk : k ≤ ws.length) : (told ws k torn).take k = (ws.take k).map (fun x => (putsN x.t, x)) := by
  rw [told, List.take_append_of_le_length (by rw [List.length_map, List.length_take]; omega), List.take_of_length_le (by rw [List.length_map, List.length_take]; omega)]
theorem told_end {ws : List LThing} {k : Nat} {torn : Int} (hk : k ≤ ws.length) (h0 : lastT ws k torn = []) : (told ws k torn).take k = told ws k torn := by
  rw [told_take hk, told, h0, List.append_nil]
theorem told_snoc {ws : List LThing} {k : Nat} {torn : Int} {p : Nat × LThing} (hk : k ≤ ws.length) (h0 : lastT ws k torn = [p]) : (told ws k torn).take k ++ [p] = told ws k torn := by
  rw [told_take hk, told, h0]
theorem take_step {α : Type} {l : List α} {i : Nat} {x : α} (h : l[i]? = some x) : l.take (i + 1) = l.take i ++ [x] := by
  obtain ⟨h1, h2⟩ := List.getElem?_eq_some_iff.1 h
  rw [take_snoc _ i h1, h2]
theorem alT_step {l : List (Nat × LThing)} {i : Nat} {p : Nat × LThing} (h : l[i]? = some p) : AlT l ((l.take i).map tellT ++ [tellT p]) := by
  obtain ⟨h1, h2⟩ := List.getElem?_eq_some_iff.1 h
  have h3 : ((l.take i).map tellT ++ [tellT p]).length = i + 1 := by simp; omega
  refine ⟨by rw [h3]; omega, ?_⟩
  rw [h3, take_step h]
  simp
theorem told_last {ws : List LThing} {k : Nat} {torn : Int} {p : Nat × LThing} (hk : k ≤ ws.length) (h0 : lastT ws k torn = [p]) : (told ws k torn)[k]? = some p := by
  rw [told, h0, List.getElem?_append_right (by simp; omega)]
  have : k - ((ws.take k).map (fun x => (putsN x.t, x))).length = 0 := by simp; omega
  rw [this]
  rfl
theorem last_some {ws : List LThing} {k : Nat} {torn : Int} (hk : k < ws.length) (h0 : 0 < pickN torn (putsN ws[k].t)) : lastT ws k torn = [(pickN torn (putsN ws[k].t), ws[k])] := by
  rw [lastT, List.getElem?_eq_getElem hk]
  simp only [h0, if_true]
theorem last_none {ws : List LThing} {k : Nat} {torn : Int} (hk : k < ws.length) (h0 : ¬ 0 < pickN torn (putsN ws[k].t)) : lastT ws k torn = [] := by
  rw [lastT, List.getElem?_eq_getElem hk]
  simp only [h0, if_false]
theorem last_len {ws : List LThing} {k : Nat} {torn : Int} (hk : ¬ k < ws.length) : lastT ws k torn = [] := by
  rw [lastT, List.getElem?_eq_none (by omega)]

/-- (*waystation/disk.Disk).keeps$1 -/
theorem keeps1_ok (y : Value) (cc cd d mb ml : Nat) (G : Nat → Prop) (D : LDisk) (keep torn : Int) (I J : Seen → (Nat → Prop) → World → Prop) (F : Nat → Prop) (w : World) [hbc : Blk w cc (.cells #[.int .i64 keep, .int .i64 torn] 38 (0, 0))] [hbd : Blk w cd (.cells #[.pointer (some ⟨d, 0, none⟩)] 24 (0, 0))] (hD : DiskAt w d mb ml G D) (hfew : D.waits.length ≤ 10000) (hk : In64 keep) (ht : In64 torn) (hlen : ∀ x ∈ D.waits, x.t.bytes.length ≤ 16777216) (w0 : World) (hy : YieldsI Try.prog y (AlT (told D.waits (pickN keep D.waits.length) torn)) I J w0) (hw0 : w0.heap.size ≤ w.heap.size) (h0 : I [] F w) (hF : ∀ k, F k → ¬ (k = cc ∨ k = cd ∨ DiskF d mb ml D.A G k)) : Ret Try.prog 71 #[y, .pointer (some ⟨cc, 0, none⟩), .pointer (some ⟨cd, 0, none⟩)] w (fun _ w' => ∃ pre F', ((FinT (told D.waits (pickN keep D.waits.length) torn) pre ∧ I pre F' w') ∨ J pre F' w') ∧ Keep F w w' ∧ Sub F' F w) := by
  haveI hb : Blk w d _ := ⟨hD.hb⟩
  haveI hrow : Row w D.A (D.waits.flatMap thingC) := ⟨(FRow.of_own hD.row).row⟩
  have hFlt := hy.i.lt _ _ _ h0
  have hkk := pickN_le keep D.waits.length
  obtain ⟨kk, hkd⟩ : ∃ kk, kk = pickN keep D.waits.length := ⟨_, rfl⟩
  rw [← hkd] at hkk hy ⊢
  have hFd : ∀ j, F j → j ≠ d := fun j e e2 => hF j e (.inr (.inr (.inl (.inl e2))))
  refine ret_of_x (N := 53) (l := [y, .pointer (some ⟨cc, 0, none⟩), .pointer (some ⟨cd, 0, none⟩)]) Try.func71 rfl rfl (Nat.le_of_ble_eq_true rfl) ?_
  refine x_scope ?_
  refine x_seq ?_
  refine x_drawL (NoB) (.take 0 (.take 1 (.take 2 (.take 3 (.take 4 (.take 5 (.take 6 (.eff 7 (.take 8 .done))))))))) mixed (by kernel_rfl) (fun _ _ _ _ _ h => h) (fun w1 l1 => ?_)
  refine xt_v rfl (by first | exact v_fieldAddr | exact v_fieldAddrF (by decide) (by omega) | exact v_fieldAddrR (by first | assumption | rfl)) ?_
  refine xt_v rfl (by first | exact v_load | exact v_loadO (by omega) | exact v_loadFf (by omega) | exact v_loadF0 (by omega)) ?_
  refine xt_v rfl (by first | exact v_load | exact v_loadO (by omega) | exact v_loadFf (by omega) | exact v_loadF0 (by omega)) ?_
  refine xt_v rfl (by first | exact v_nilCheckP | exact v_nilCheckF) ?_
  refine xt_v rfl (by first | exact v_fieldAddr | exact v_fieldAddrF (by decide) (by omega) | exact v_fieldAddrR (by first | assumption | rfl)) ?_
  refine xt_v rfl (by first | exact v_load | exact v_loadO (by omega) | exact v_loadFf (by omega) | exact v_loadF0 (by omega)) ?_
  refine xt_v rfl v_len ?_
  refine xt_call rfl (pick_ok keep D.waits.length w1 hk (by omega)) ?_
  rintro _ _ ⟨rfl, rfl⟩
  refine ⟨kpc, ?_⟩
  rw [← hkd]
  refine xt_v rfl v_assign ?_
  refine xt_nil ?_
  refine x_seq ?_
  refine x_label ?_
  refine x_seq ?_
  refine x_regionL ?_
  refine xl_v (by first | exact v_load | exact v_loadO (by omega) | exact v_loadFf (by omega) | exact v_loadF0 (by omega)) ?_
  refine xl_v (by first | exact v_nilCheckP | exact v_nilCheckF) ?_
  refine xl_v (by first | exact v_fieldAddr | exact v_fieldAddrF (by decide) (by omega) | exact v_fieldAddrR (by first | assumption | rfl)) ?_
  refine xl_v (by first | exact v_load | exact v_loadO (by omega) | exact v_loadFf (by omega) | exact v_loadF0 (by omega)) ?_
  refine xl_v v_len ?_
  refine xl_v v_move ?_
  refine xl_nil ?_
  refine x_block ?_
  have hI0 := hy.i.keep _ _ _ _ _ h0 (kpc : Keep NoB w w1) (fun _ _ h => h) (fun _ h => h.elim)
  have K0 : Keep F w w1 := (kpc : Keep NoB w w1).mono (fun _ _ h => h.elim)
  refine x_loop (fun m τ ds w' => ds = [] ∧ ∃ (k : Nat) (Fc : Nat → Prop), m = D.waits.length - k ∧ k ≤ D.waits.length ∧ k ≤ kk ∧ I (((told D.waits kk torn).take k).map tellT) Fc w' ∧ Keep F w w' ∧ Sub Fc F w ∧ Ev τ 0 y ∧ Ev τ 1 (.pointer (some ⟨cc, 0, none⟩)) ∧ Ev τ 2 (.pointer (some ⟨cd, 0, none⟩)) ∧ Ev τ 4 (.int .i64 (kk : Int)) ∧ Ev τ 19 (.slice D.A D.waits.length D.c) ∧ Ev τ 20 (.int .i64 (D.waits.length : Int)) ∧ Ev τ 21 (.int .i64 (k : Int))) (D.waits.length) ?start ?round
  case start =>
    exact ⟨rfl, 0, F, rfl, by omega, by omega, hI0, K0, Sub.refl _ _, inferInstance, inferInstance, inferInstance, inferInstance, inferInstance, inferInstance, evc⟩
  case round =>
    intro m τ3 ds3 w3 hI
    obtain ⟨rfl, k, Fc, rfl, hkl, hkk2, hI, hkF, hsF, e0, e1, e2, e4, e19, e20, e21⟩ := hI
    haveI lF : Lk w3 w F := ⟨hkF⟩
    haveI : NotS F cc := ⟨fun e => hF cc e (.inl rfl)⟩
    haveI : NotS F cd := ⟨fun e => hF cd e (.inr (.inl rfl))⟩
    haveI : NotS F d := ⟨fun e => hFd d e rfl⟩
    haveI : RowOut F D.A := ⟨fun a ha e => hF _ e (.inr (.inr (.inl (.inr (.inr (.inr ⟨a, ha, rfl⟩))))))⟩
    haveI : Blk w3 cc _ := inferInstance
    haveI : Blk w3 cd _ := inferInstance
    haveI : Row w3 D.A (D.waits.flatMap thingC) := inferInstance
    refine x_seq ?_
    refine x_regionL ?_
    refine xl_v v_lss ?_
    refine xl_nil ?_
    refine x_seq ?_
    first | refine x_condP (fun c1 => ?_) (fun c1 => ?_) | refine x_condN (fun c1 => ?_) (fun c1 => ?_) | refine x_condE (fun c1 => ?_) (fun c1 => ?_)
    ·
      have hk1 : k < D.waits.length := by omega
      have hA := row_some (w := w3) (A := D.A) (cs := D.waits.flatMap thingC) inferInstance (by rw [flat_len (sz := 7) (fun _ => rfl)]; omega)
      refine x_skip ?_
      refine x_seq ?_
      refine x_block ?_
      refine x_seq ?_
      refine x_regionL ?_
      refine xl_v v_move ?_
      refine xl_v (v_indexF k (by decide) rfl (by omega) hk1) ?_
      refine xl_v (v_loadRA (vs := thingC D.waits[k]) rfl hA (flat_get (enc := thingC) (fun _ => rfl) D.waits k hk1)) ?_
      refine xl_e (e_alloc fun b6 w4 n6 l6 k6 => ?_)
      refine xl_v v_assign ?_
      refine xl_s (e_storeA fun w5 l5 k5 => ?_)
      refine xl_nil ?_
      refine x_seq ?_
      refine x_block ?_
      refine x_seq ?_
      refine x_regionL ?_
      refine xl_v v_move ?_
      refine xl_v v_move ?_
      refine xl_v v_lss ?_
      refine xl_v v_move ?_
      refine xl_split 30 (fun g30 => ?_) (fun g30 => ?_)
      ·
        refine xl_gv rfl EvO.eq v_move ?_
        refine xl_gv rfl EvO.eq (by first | exact v_fieldAddr | exact v_fieldAddrF (by decide) (by omega) | exact v_fieldAddrR (by first | assumption | rfl)) ?_
        refine xl_gv rfl EvO.eq (v_congr (u := .int .i64 ((putsN D.waits[k].t : Nat) : Int)) v_load (congrArg _ (putsI_N _))) ?_
        refine xl_gv rfl EvO.eq (by first | exact v_loadA | exact v_loadF (by decide) (by omega)) ?_
        have hkk3 : k < kk := by simpa using g30
        have hg := told_get (torn := torn) hkk3 hk1
        have hI2 := hy.i.keep _ _ _ _ _ hI (kpc : Keep NoB w3 w5) (fun _ _ h => h) (fun _ h => h.elim)
        have hszB := (Ge.le : (w3).heap.size ≤ (w5).heap.size)
        refine xl_gcallv rfl EvO.eq (hy.step _ _ Fc w5 (alT_step hg) hI2) ?_
        rintro _ w6 ⟨bb, F2, rfl, hI3, hk3, hs3⟩
        have hkF3 : Keep F w w6 := (hkF.then (kpc : Keep NoB w3 w5) (fun _ _ h => h.elim)).then hk3 (fun j hj e => (hsF j e).elim id (fun h => by omega))
        have hsF3 : Sub F2 F w := fun j e => (hs3 j e).elim (fun e => hsF j e) (fun e => .inr (by have := hkF.size; omega))
        refine xl_v (by first | exact v_pickT | exact v_pickF | exact v_pick) ?_
        refine xl_v v_assign ?_
        refine xl_nil ?_
        refine x_condE (fun c2 => ?_) (fun c2 => ?_)
        ·
          have hI3 : I (((told D.waits kk torn).take (k + 1)).map tellT) F2 w6 := by
            rw [if_pos c2] at hI3
            rw [take_step hg]
            simpa using hI3
          refine x_exit ?_
          refine x_regionL ?_
          refine xl_v (v_add (by omega)) ?_
          refine xl_v v_move ?_
          refine xl_nil ?_
          refine ⟨_, ?_, rfl, k + 1, F2, rfl, by omega, by omega, hI3, hkF3, hsF3, inferInstance, inferInstance, inferInstance, inferInstance, inferInstance, inferInstance, evc⟩
          omega
        ·
          have hfin : ∃ pre F', ((FinT (told D.waits kk torn) pre ∧ I pre F' w6) ∨ J pre F' w6) ∧ Keep F w w6 ∧ Sub F' F w := ⟨_, F2, .inr (by rw [if_neg (by simpa using c2)] at hI3; exact hI3), hkF3, hsF3⟩
          refine x_seq ?_
          refine x_regionL ?_
          refine xl_v v_move ?_
          refine xl_v v_move ?_
          refine xl_v (v_congr (u := .bool false) v_eql (by simp; omega)) ?_
          refine xl_v v_assign ?_
          refine xl_nil ?_
          refine x_condF ?_
          refine x_skip ?_
          refine x_exit ?_
          refine fin0 rfl ?_
          exact hfin
      ·
        refine xl_gs rfl EvO.eq ?_
        refine xl_gs rfl EvO.eq ?_
        refine xl_gs rfl EvO.eq ?_
        refine xl_gs rfl EvO.eq ?_
        refine xl_gs rfl EvO.eq ?_
        refine xl_v (by first | exact v_pickT | exact v_pickF | exact v_pick) ?_
        refine xl_v v_assign ?_
        refine xl_nil ?_
        refine x_condF ?_
        refine x_seq ?_
        refine x_regionL ?_
        refine xl_v v_move ?_
        refine xl_v v_move ?_
        refine xl_v v_eql ?_
        refine xl_v v_assign ?_
        refine xl_nil ?_
        first | refine x_condP (fun c3 => ?_) (fun c3 => ?_) | refine x_condN (fun c3 => ?_) (fun c3 => ?_) | refine x_condE (fun c3 => ?_) (fun c3 => ?_)
        ·
          have hkn : k = kk := by omega
          subst hkn
          have hI5 := hy.i.keep _ _ _ _ _ hI (kpc : Keep NoB w3 w5) (fun _ _ h => h) (fun _ h => h.elim)
          have hkF5 : Keep F w w5 := hkF.then (kpc : Keep NoB w3 w5) (fun _ _ h => h.elim)
          refine x_seq ?_
          refine x_regionL ?_
          refine xl_v (by first | exact v_fieldAddr | exact v_fieldAddrF (by decide) (by omega) | exact v_fieldAddrR (by first | assumption | rfl)) ?_
          refine xl_v (by first | exact v_load | exact v_loadO (by omega) | exact v_loadFf (by omega) | exact v_loadF0 (by omega)) ?_
          refine xl_v (by first | exact v_fieldAddr | exact v_fieldAddrF (by decide) (by omega) | exact v_fieldAddrR (by first | assumption | rfl)) ?_
          refine xl_v (v_congr (u := .int .i64 ((putsN D.waits[k].t : Nat) : Int)) v_load (congrArg _ (putsI_N _))) ?_
          refine xl_call (pick_ok torn (putsN D.waits[k].t) w5 ht (by have := hlen _ (List.getElem_mem hk1); have := putsN_le D.waits[k].t; omega)) ?_
          rintro _ _ ⟨rfl, rfl⟩
          refine xl_v v_assign ?_
          refine xl_nil ?_
          refine x_seq ?_
          refine x_regionL ?_
          refine xl_v v_move ?_
          refine xl_v (v_congr (u := .bool (decide (0 < pickN torn (putsN D.waits[k].t)))) v_gtr (by simp)) ?_
          refine xl_nil ?_
          first | refine x_condP (fun c4 => ?_) (fun c4 => ?_) | refine x_condN (fun c4 => ?_) (fun c4 => ?_) | refine x_condE (fun c4 => ?_) (fun c4 => ?_)
          ·
            have hls := last_some (torn := torn) hk1 c4
            refine x_regionL ?_
            refine xl_v v_move ?_
            refine xl_v v_move ?_
            refine xl_v (by first | exact v_loadA | exact v_loadF (by decide) (by omega)) ?_
            refine xl_callv (hy.step _ _ Fc w5 (alT_step (told_last hkl hls)) hI5) ?_
            rintro _ w8 ⟨bb, F2, rfl, hI3, hk3, hs3⟩
            have hfin : ∃ pre F', ((FinT (told D.waits k torn) pre ∧ I pre F' w8) ∨ J pre F' w8) ∧ Keep F w w8 ∧ Sub F' F w := by
              refine ⟨(told D.waits k torn).map tellT, F2, ?_, hkF5.then hk3 (fun j hj e => (hsF j e).elim id (fun h => by omega)), fun j e => (hs3 j e).elim (fun e => hsF j e) (fun e => .inr (by have := hkF5.size; omega))⟩
              cases bb with
              | true => exact .inl ⟨rfl, by
                    rw [if_pos rfl] at hI3
                    rw [← told_snoc hkl hls, List.map_append]
                    exact hI3⟩
              | false => exact .inr (by
                    rw [if_neg (by decide)] at hI3
                    rw [← told_snoc hkl hls, List.map_append]
                    exact hI3)
            refine xl_nil ?_
            refine x_exit ?_
            refine fin0 rfl ?_
            exact hfin
          ·
            have hfin : ∃ pre F', ((FinT (told D.waits k torn) pre ∧ I pre F' w5) ∨ J pre F' w5) ∧ Keep F w w5 ∧ Sub F' F w := ⟨_, Fc, .inl ⟨by rw [FinT, told_end hkl (last_none hk1 c4)], hI5⟩, hkF5, hsF⟩
            refine x_skip ?_
            refine x_exit ?_
            refine fin0 rfl ?_
            exact hfin
        ·
          simp at g30
          omega
    ·
      have hkn : k = kk := by omega
      subst hkn
      have hfin : ∃ pre F', ((FinT (told D.waits k torn) pre ∧ I pre F' w3) ∨ J pre F' w3) ∧ Keep F w w3 ∧ Sub F' F w := ⟨_, Fc, .inl ⟨by rw [FinT, told_end hkl (last_len (by omega))], hI⟩, hkF, hsF⟩
      refine x_exit ?_
      refine fin0 rfl ?_
      exact hfin
end Go.Proofs.Ytabknhgbijcklaa
