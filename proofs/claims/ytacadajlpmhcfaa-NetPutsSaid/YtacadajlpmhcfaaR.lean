/-
  Walks, printed by a program of this workplace (wip/tools/sx.py) off the functions' code and a text of contracts.
-/
import Derived.Test.YtacadajlpmhcfaaQ
set_option linter.all false
set_option maxRecDepth 100000
set_option synthInstance.maxSize 100000
set_option synthInstance.maxHeartbeats 400000
namespace Go.Proofs.Ytacadajlpmhcfaa
open Go.Wst
open Go.Wst.Nm
/-- What a call makes of a net. -/
def _root_.Go.Wst.Nm.Net.step (M : Net) (what pick : Int) (m : Msg) : Net := if what = 0 then M.putM m else if what = 2 then M.dupM pick else if what = 3 ∨ what = 1 then M.takeM pick else M
theorem step_ok {M : Net} (h : M.ok) (what pick : Int) (m : Msg) : (M.step what pick m).ok ∧ (M.step what pick m).came ≤ M.came + 1 := by
  have hput : ∀ m, (M.putM m).came ≤ M.came + 1 := fun m => by rw [Net.putM]; split <;> simp
  rw [Net.step]
  split
  · exact ⟨h.put m, hput m⟩
  split
  · rw [Net.dupM]
    split
    · exact ⟨h, by omega⟩
    · exact ⟨h.put _, hput _⟩
  split
  · rw [Net.takeM]
    split
    · exact ⟨h, by omega⟩
    · exact ⟨h.without _, by show M.came ≤ _; omega⟩
  · exact ⟨h, by omega⟩
/-- Both stand for the same. -/
structure BothN (W : World) (b mb : Nat) (M : Net) : Prop where
  ex : ∃ (G F : Nat → Prop) (N : NetL) (R : RefL), NetAt W b mb G N ∧ RefAt W F R ∧ N.pure = M ∧ R.pure = M ∧ M.ok ∧ (∀ k, F k → ¬ NetF b mb G k)
theorem pick_i {N : NetL} {R : RefL} (hp : N.pure = R.pure) : R.l.length = N.l.length := by rw [← ref_len, ← hp, pure_len]
theorem refwithout2_ok (R : RefL) (F : Nat → Prop) (i : Nat) (z : Int) (hz : z = (i : Int)) (w : World) (h : RefAt w F R) (hl : R.l.length ≤ 1000000) :
    Ret Try.prog 38 #[.agg (refC R).toArray, .int .i64 z] w (fun v w' => (∃ (R' : RefL) (F' : Nat → Prop), v = .agg (refC R').toArray ∧ R'.pure = R.pure.without i ∧ RefAt w' F' R' ∧ Sub F' F w) ∧ Lk w' w NoB) := by
  subst hz
  exact refwithout_ok R F i w h hl
set_option maxHeartbeats 1000000 in
/-- waystation/waystationlaw05.act -/
theorem act_ok (b mb : Nat) (G : Nat → Prop) (N : NetL) (R : RefL) (F : Nat → Prop) (a : LAct) (w : World) (h : NetAt w b mb G N) (hok : N.pure.ok) (hR : RefAt w F R) (hp : N.pure = R.pure) (hc : N.came ≤ 10000000) (hFd : ∀ k, F k → ¬ NetF b mb G k) (hpk : In64 a.pick) (hby : a.x.m.bytes.length ≤ 100000) [hr : Row w a.x.A (bytesC a.x.m.bytes)] (hxd : a.x.m.bytes = [] ∨ ∀ c, a.x.A = some c → ¬ TwoB b mb c.block) : Ret Try.prog 24 #[.pointer (some ⟨b, 0, none⟩), .agg (refC R).toArray, .agg (actC a).toArray] w (fun v w' => ∃ (G' F' : Nat → Prop) (N' : NetL) (R' : RefL), v = .tuple #[.agg (refC R').toArray, .bool true] ∧ NetAt w' b mb G' N' ∧ RefAt w' F' R' ∧ N'.pure = N.pure.step a.what a.pick a.x.m ∧ R'.pure = N.pure.step a.what a.pick a.x.m ∧ (∀ k, F' k → ¬ NetF b mb G' k) ∧ Sub G' G w ∧ Sub F' F w ∧ Lk w' w (TwoB b mb)) := by
  haveI hrb : RowB w a.x.A w (bytesC a.x.m.bytes) := rowB_of hr.row
  haveI hrR : RowB w R.A w (R.l.flatMap itemC) := rowB_of hR.row.row
  have hokR : R.pure.ok := hp ▸ hok
  have hln := pick_i hp
  have hfew := len_few hok
  have hbl := h.lt b (.inl rfl)
  have hml := h.lt mb (.inr (.inl rfl))
  refine ret_of_x (N := 256) (l := [.pointer (some ⟨b, 0, none⟩), .agg (refC R).toArray, .agg (actC a).toArray]) Try.func24 rfl rfl (Nat.le_of_ble_eq_true rfl) ?_
  refine x_seq ?_
  refine x_regionL ?_
  refine xl_e (e_box fun b1 w1 n1 l1 k1 => ?_)
  refine xl_e (e_box fun b2 w2 n2 l2 k2 => ?_)
  refine xl_e (e_alloc fun b3 w3 n3 l3 k3 => ?_)
  refine xl_v v_assign ?_
  refine xl_nil ?_
  have hg1 : w.heap.size ≤ b1 := by rw [n1.eq]; exact Ge.le
  have hg2 : w.heap.size ≤ b2 := by rw [n2.eq]; exact Ge.le
  have hg3 : w.heap.size ≤ b3 := by rw [n3.eq]; exact Ge.le
  haveI : NeB b1 b := ⟨by omega⟩
  haveI : NeB b1 mb := ⟨by omega⟩
  haveI : NeB b2 b := ⟨by omega⟩
  haveI : NeB b2 mb := ⟨by omega⟩
  haveI : NeB b3 b := ⟨by omega⟩
  haveI : NeB b3 mb := ⟨by omega⟩
  haveI hRAb3 : RowOut (OneB b3) R.A := ⟨fun c hc e => by have h1 := hR.lt _ (hR.row.blk c hc); have e' : c.block = b3 := e; omega⟩
  refine x_seq ?_
  refine x_regionL ?_
  refine xl_v (by first | exact v_loadA | exact v_loadF (by decide) (by omega)) ?_
  refine xl_v (by first | exact v_fieldAddr | exact v_fieldAddrF (by decide) (by omega) | exact v_fieldAddrR (by first | assumption | rfl)) ?_
  refine xl_v (by first | exact v_load | exact v_loadO (by omega) | exact v_loadFf (by omega) | exact v_loadF0 (by omega)) ?_
  refine xl_call (refpick_ok R F a.pick w3 (hR.ext (kpc : Keep NoB w w3)) hpk (by omega)) ?_
  rintro _ w4 ⟨rfl, lk1⟩
  refine xl_v v_assign ?_
  refine xl_nil ?_
  refine x_seq ?_
  refine x_seq ?_
  refine x_regionL ?_
  refine xl_v (by first | exact v_fieldAddr | exact v_fieldAddrF (by decide) (by omega) | exact v_fieldAddrR (by first | assumption | rfl)) ?_
  refine xl_v (by first | exact v_load | exact v_loadO (by omega) | exact v_loadFf (by omega) | exact v_loadF0 (by omega)) ?_
  refine xl_nil ?_
  refine x_block ?_
  refine x_seq ?_
  refine x_regionL ?_
  refine xl_v v_eql ?_
  refine xl_v v_assign ?_
  refine xl_nil ?_
  first | refine x_condP (fun c1 => ?_) (fun c1 => ?_) | refine x_condN (fun c1 => ?_) (fun c1 => ?_) | refine x_condE (fun c1 => ?_) (fun c1 => ?_)
  ·
    refine x_seq ?_
    refine x_regionL ?_
    refine xl_e (e_buildSlice0 fun b5 w5 n5 l5 k5 => ?_)
    refine xl_v (by first | exact v_fieldAddr | exact v_fieldAddrF (by decide) (by omega) | exact v_fieldAddrR (by first | assumption | rfl)) ?_
    refine xl_v (by first | exact v_fieldAddr | exact v_fieldAddrF (by decide) (by omega) | exact v_fieldAddrR (by first | assumption | rfl)) ?_
    refine xl_v (by first | exact v_load | exact v_loadO (by omega) | exact v_loadFf (by omega) | exact v_loadF0 (by omega)) ?_
    refine xl_e (e_appE (by omega) (by decide) (by omega) (by omega) fun Ab cb w6 ob lb ab fb => ?_)
    refine xl_v v_assign ?_
    refine xl_nil ?_
    refine x_seq ?_
    refine x_regionL ?_
    refine xl_v (by first | exact v_loadA | exact v_loadF (by decide) (by omega)) ?_
    refine xl_v (by first | exact v_fieldAddr | exact v_fieldAddrF (by decide) (by omega) | exact v_fieldAddrR (by first | assumption | rfl)) ?_
    refine xl_v (by first | exact v_loadA | exact v_loadF (by decide) (by omega)) ?_
    refine xl_call (refput_ok R F a.x w6 (hR.ext (kpc : Keep NoB w w6)) hokR (by rw [show R.came = R.pure.came from rfl, ← hp]; show N.came ≤ _; omega)) ?_
    rintro _ w7 ⟨⟨R2, F2, rfl, hR2p, hR2, hF2⟩, lk2⟩
    have hR2' : ∀ W, Lk W w7 NoB → RefAt W F2 R2 := fun W l => hR2.ext l.keep
    have habp := own_blk (OwnI.own : World.ownsRow w6 _ _ _ (.slice Ab _ cb) _ _)
    have hb3p : b3 < (w6).heap.size := Has.lt
    have hF2c : ∀ k, F2 k → F k ∨ (w6).heap.size ≤ k := hF2
    have hwp : w.heap.size ≤ (w6).heap.size := Ge.le
    refine xl_v v_move ?_
    refine xl_v v_extract ?_
    refine xl_v v_extract ?_
    refine xl_v v_extract ?_
    refine xl_e (e_alloc fun bt w8 nt lt kt => ?_)
    refine xl_s (e_storeA fun w9 l9 k9 => ?_)
    refine xl_v v_assign ?_
    refine xl_v v_assign ?_
    refine xl_nil ?_
    refine x_seq ?_
    refine x_regionL ?_
    refine xl_v v_move ?_
    refine xl_v (by first | exact v_fieldAddr | exact v_fieldAddrF (by decide) (by omega) | exact v_fieldAddrR (by first | assumption | rfl)) ?_
    refine xl_v (by first | exact v_fieldAddr | exact v_fieldAddrF (by decide) (by omega) | exact v_fieldAddrR (by first | assumption | rfl)) ?_
    refine xl_v (by first | exact v_load | exact v_loadO (by omega) | exact v_loadFf (by omega) | exact v_loadF0 (by omega)) ?_
    refine xl_v (by first | exact v_fieldAddr | exact v_fieldAddrF (by decide) (by omega) | exact v_fieldAddrR (by first | assumption | rfl)) ?_
    refine xl_v (by first | exact v_fieldAddr | exact v_fieldAddrF (by decide) (by omega) | exact v_fieldAddrR (by first | assumption | rfl)) ?_
    refine xl_v (by first | exact v_load | exact v_loadO (by omega) | exact v_loadFf (by omega) | exact v_loadF0 (by omega)) ?_
    refine xl_v v_move ?_
    refine xl_v v_build ?_
    refine xl_call ((put_ok b mb G N ⟨a.x.m, Ab, cb⟩ w9 (h.ext (kpc : Keep NoB w w9)) hok (by omega) (hr := ⟨(FRow.of_own (OwnI.own : World.ownsRow w9 _ _ _ (.slice Ab _ cb) _ _)).row⟩) : Ret Try.prog 10 #[.pointer (some ⟨b, 0, none⟩), .agg #[.int .i64 a.x.m.src, .int .i64 a.x.m.dst, .slice Ab a.x.m.bytes.length cb]] w9 _)) ?_
    rintro _ w10 ⟨rfl, lk3, G3, N3, hN3, hp3, hs3, _⟩
    have hab := own_blk (OwnI.own : World.ownsRow w9 _ _ _ (.slice Ab _ cb) _ _)
    haveI hAbt : RowOut (TwoB b mb) Ab := ⟨fun c hc e => by have h1 := Nat.le_trans (Ge.le : w.heap.size ≤ _) (hab c hc).1; rcases e with e | e <;> omega⟩
    haveI hrp : RowB w9 a.x.A w (bytesC a.x.m.bytes) := inferInstance
    haveI : Row w10 a.x.A (bytesC a.x.m.bytes) := ⟨by
      rcases hxd with e | e
      · rw [e]; exact fun j v h => by simp [bytesC] at h
      · exact hrp.row.keep lk3.keep e⟩
    have hb36 : b3 < (w9).heap.size := Has.lt
    have hF26 : ∀ k, F2 k → k < (w9).heap.size := (hR2' w9 lkc).lt
    have hsep : ∀ j, NetF b mb G3 j → (NetF b mb G j ∧ j < w.heap.size) ∨ (w9).heap.size ≤ j := by
      rintro j (e | e | e)
      · exact .inl ⟨.inl e, by omega⟩
      · exact .inl ⟨.inr (.inl e), by omega⟩
      · rcases hs3 j e with e | e
        · exact .inl ⟨.inr (.inr e), h.gl j e⟩
        · exact .inr e
    have hR6 : RefAt w10 F2 R2 := (hR2' w9 lkc).keep lk3.keep (fun k hk e => by
      rcases hF2c k hk with e2 | e2
      · exact hFd k e2 (e.elim .inl (fun e => .inr (.inl e)))
      · rcases e with e | e <;> omega)
    have habw : ∀ c, Ab = some c → w.heap.size ≤ c.block := fun c hc => Nat.le_trans Ge.le (hab c hc).1
    haveI : NeB bt b := ⟨by have h1 := nt.eq; have h2 : w.heap.size ≤ bt := by (rw [h1]; exact Ge.le)
                            omega⟩
    haveI : NeB bt mb := ⟨by have h1 := nt.eq; have h2 : w.heap.size ≤ bt := by (rw [h1]; exact Ge.le)
                             omega⟩
    refine xl_v v_move ?_
    refine xl_v v_extract ?_
    refine xl_v v_extract ?_
    refine xl_v v_assign ?_
    refine xl_v v_assign ?_
    refine xl_nil ?_
    refine x_seq ?_
    refine x_regionL ?_
    refine xl_v v_move ?_
    refine xl_v (v_bytesStr (xs := a.x.m.bytes) rfl) ?_
    refine xl_v (by first | exact v_fieldAddr | exact v_fieldAddrF (by decide) (by omega) | exact v_fieldAddrR (by first | assumption | rfl)) ?_
    refine xl_v (by first | exact v_fieldAddr | exact v_fieldAddrF (by decide) (by omega) | exact v_fieldAddrR (by first | assumption | rfl)) ?_
    refine xl_v (by first | exact v_load | exact v_loadO (by omega) | exact v_loadFf (by omega) | exact v_loadF0 (by omega)) ?_
    refine xl_v (v_bytesStr (xs := a.x.m.bytes) rfl) ?_
    refine xl_v (v_congr (u := .bool true) v_seql (by simp)) ?_
    refine xl_v v_assign ?_
    refine xl_nil ?_
    refine x_seq ?_
    refine x_seq ?_
    refine x_regionL ?_
    refine xl_v v_assign ?_
    refine xl_nil ?_
    refine x_block ?_
    have hob := (OwnI.own : World.ownsRow w10 _ _ _ (.slice Ab _ cb) _ _)
    have hbt0 := (Blk.eq : (w10).heap[bt]? = _)
    have hb30 := (Blk.eq : (w10).heap[b3]? = _)
    have hobl := ownB_lt hob
    have hnbt : ¬ OwnB (.slice Ab a.x.m.bytes.length cb) bt := by
      have hro : RowOut (OneB bt) Ab := inferInstance
      intro e
      cases Ab with
      | none => cases e
      | some c => exact hro.out c rfl (by have e' : some bt = some c.block := e; injection e' with e'; exact e'.symm)
    have hnb3 : ¬ OwnB (.slice Ab a.x.m.bytes.length cb) b3 := NotS.not
    refine x_loop (fun m τ ds w' => ds = [] ∧ ∃ (k : Nat) (ys : List UInt8) (base : Nat), m = a.x.m.bytes.length - k ∧ k ≤ a.x.m.bytes.length ∧ ys.length = a.x.m.bytes.length ∧ w'.ownsRow base 5 1 (.slice Ab a.x.m.bytes.length cb) a.x.m.bytes.length (bytesC ys) ∧ Keep (OwnB (.slice Ab a.x.m.bytes.length cb)) w10 w' ∧ Ev τ 6 (.pointer (some ⟨b3, 0, none⟩)) ∧ Ev τ 9 (.slice Ab a.x.m.bytes.length cb) ∧ Ev τ 10 (.pointer (some ⟨bt, 0, none⟩)) ∧ Ev τ 11 (.int .i64 (R.pure.putN a.x.m)) ∧ Ev τ 12 (.int .i64 (R.pure.putNo a.x.m)) ∧ Ev τ 13 (.int .i64 (N.pure.putN a.x.m)) ∧ Ev τ 14 (.int .i64 (N.pure.putNo a.x.m)) ∧ Ev τ 15 (.bool true) ∧ Ev τ 16 (.int .i64 (k : Int))) (a.x.m.bytes.length) ?start ?round
    case start =>
      exact ⟨rfl, 0, a.x.m.bytes, _, rfl, by omega, rfl, hob, Keep.refl _ _, inferInstance, inferInstance, inferInstance, inferInstance, inferInstance, inferInstance, inferInstance, inferInstance, evc⟩
    case round =>
      intro m τ11 ds11 w11 hI
      obtain ⟨rfl, k, ys, base, rfl, hk, hyl, hoy, hkv, f6, f9, f10, f11, f12, f13, f14, f15, f16⟩ := hI
      haveI lkv : Lk w11 _ (OwnB (.slice Ab a.x.m.bytes.length cb)) := ⟨hkv⟩
      haveI : OwnI w11 Ab _ _ _ _ _ _ _ := ⟨hoy⟩
      haveI : Blk w11 bt _ := ⟨(hkv.block bt (Array.getElem?_eq_some_iff.1 hbt0).1 hnbt).trans hbt0⟩
      haveI : Blk w11 b3 _ := ⟨(hkv.block b3 (Array.getElem?_eq_some_iff.1 hb30).1 hnb3).trans hb30⟩
      refine x_seq ?_
      refine x_seq ?_
      refine x_regionL ?_
      refine xl_v v_move ?_
      refine xl_v v_move ?_
      refine xl_v v_len ?_
      refine xl_v v_lss ?_
      refine xl_nil ?_
      first | refine x_condP (fun c2 => ?_) (fun c2 => ?_) | refine x_condN (fun c2 => ?_) (fun c2 => ?_) | refine x_condE (fun c2 => ?_) (fun c2 => ?_)
      ·
        have hk1 : k < ys.length := by omega
        obtain ⟨z, hz⟩ := byte_wrap ((ys[k].toNat : Int) + 1) (by omega)
        refine x_skip ?_
        refine x_seq ?_
        refine x_block ?_
        refine x_regionL ?_
        refine xl_v v_move ?_
        refine xl_v v_move ?_
        refine xl_v v_move ?_
        refine xl_v v_move ?_
        refine xl_v (v_indexO k rfl (by omega) hk1) ?_
        refine xl_v (v_loadO (k := k) hk1) ?_
        refine xl_v v_addw ?_
        refine xl_v (v_indexO k rfl (by omega) hk1) ?_
        refine xl_s (e_storeOwn hoy (by omega) (by decide) fun w12 lz hoz => ?_)
        rw [hz, setL_bytes ys k z hk1] at hoz
        refine xl_nil ?_
        refine x_regionL ?_
        refine xl_v v_move ?_
        refine xl_v (v_add (by omega)) ?_
        refine xl_v v_assign ?_
        refine xl_nil ?_
        refine ⟨_, ?_, rfl, k + 1, ys.set k z, base, rfl, by omega, by simpa using hyl, hoz, hkv.then lz.keep (fun j _ e => e), inferInstance, inferInstance, inferInstance, inferInstance, inferInstance, inferInstance, inferInstance, inferInstance, evc⟩
        omega
      ·
        refine x_exit ?_
        refine x_seq ?_
        refine x_drawL (OneB b3) (.take 0 (.take 1 (.take 2 (.take 3 (.take 4 (.take 5 (.take 7 (.eff 6 (.take 8 (.take 9 (.take 10 (.take 11 (.take 12 (.eff 13 (.take 14 .done))))))))))))))) mixed (by kernel_rfl) (fun _ _ _ _ _ h => h) (fun w13 l13 => ?_)
        refine xt_v rfl (by first | exact v_loadA | exact v_loadF (by decide) (by omega)) ?_
        refine xt_v rfl v_move ?_
        refine xt_v rfl v_move ?_
        refine xt_v rfl (v_congr (u := .bool true) v_eql (by rw [hp]; simp)) ?_
        refine xt_v rfl v_move ?_
        refine xt_gv rfl rfl EvO.eq v_move ?_
        refine xt_gv rfl rfl EvO.eq v_move ?_
        refine xt_gcall rfl rfl EvO.eq (num_ok _ _) ?_
        rintro _ _ ⟨rfl, rfl⟩
        refine ⟨kpc, ?_⟩
        refine xt_gv rfl rfl EvO.eq (v_congr (u := .bool true) v_eql (by rw [hp]; simp)) ?_
        refine xt_v rfl (by first | exact v_pickT | exact v_pickF | exact v_pick) ?_
        refine xt_v rfl v_move ?_
        refine xt_gv rfl rfl EvO.eq v_move ?_
        refine xt_v rfl (by first | exact v_pickT | exact v_pickF | exact v_pick) ?_
        refine xt_s rfl (e_storeA fun w15 l15 k15 => ?_)
        refine xt_v rfl v_assign ?_
        refine xt_nil ?_
        refine x_ret ?_
        refine finR (rs := [.cell 6 47, .tmp 7]) rfl ?_
        have K : Keep (fun j => OwnB (.slice Ab a.x.m.bytes.length cb) j ∨ j = b3) _ w15 := (hkv.mono (fun j _ e => .inl e)).then (kpc : Keep (OneB b3) _ w15) (fun j _ e => .inr e)
        have hAj : ∀ j, OwnB (.slice Ab a.x.m.bytes.length cb) j → ∃ c, Ab = some c ∧ c.block = j := by
          intro j e
          cases Ab with
          | none => cases e
          | some c => exact ⟨c, rfl, by have e' : some j = some c.block := e; injection e' with e'; exact e'.symm⟩
        refine ⟨G3, F2, N3, R2, by simp [outV], hN3.keep K ?_, hR6.keep K ?_, by rw [hp3, Net.step, if_pos c1], by rw [hR2p, ← hp, Net.step, if_pos c1], ?_, fun k hk => (hs3 k hk).imp id (fun e => Nat.le_trans Ge.le e), fun k hk => (hF2c k hk).imp id (fun e => Nat.le_trans hwp e), lkc⟩
        · rintro j hj (e | e)
          · obtain ⟨c, h1, h2⟩ := hAj j e
            have h3 := habw c h1
            have h4 := (hab c h1).2
            rcases hsep j hj with ⟨_, h5⟩ | h5 <;> omega
          · rcases hsep j hj with ⟨_, h5⟩ | h5 <;> omega
        · rintro j hj (e | e)
          · obtain ⟨c, h1, h2⟩ := hAj j e
            have h3 := habw c h1
            have h4 := (habp c h1).2
            rcases hF2c j hj with h5 | h5
            · have := hR.lt j h5; omega
            · omega
          · rcases hF2c j hj with h5 | h5
            · have := hR.lt j h5; omega
            · omega
        · intro j hj e
          have h4 := hF26 j hj
          rcases hsep j e with ⟨h5, h6⟩ | h5
          · rcases hF2c j hj with h7 | h7
            · exact hFd j h7 h5
            · omega
          · omega
  ·
    refine x_seq ?_
    refine x_regionL ?_
    refine xl_v v_eql ?_
    refine xl_v v_assign ?_
    refine xl_nil ?_
    first | refine x_condP (fun c3 => ?_) (fun c3 => ?_) | refine x_condN (fun c3 => ?_) (fun c3 => ?_) | refine x_condE (fun c3 => ?_) (fun c3 => ?_)
    ·
      refine x_seq ?_
      refine x_regionL ?_
      refine xl_v v_move ?_
      refine xl_v (by first | exact v_fieldAddr | exact v_fieldAddrF (by decide) (by omega) | exact v_fieldAddrR (by first | assumption | rfl)) ?_
      refine xl_v (by first | exact v_load | exact v_loadO (by omega) | exact v_loadFf (by omega) | exact v_loadF0 (by omega)) ?_
      refine xl_call (dup_ok b mb G N a.pick w4 (h.ext (kpc : Keep NoB w w4)) hok (by omega)) ?_
      rintro _ w16 ⟨rfl, ⟨G2, N2, hN2, hp2, hs2, _⟩, lk3⟩
      have hb3p : b3 < (w4).heap.size := Has.lt
      have hwp : w.heap.size ≤ (w4).heap.size := Ge.le
      have hpw := lk3.keep.size
      have hRk : RefAt w16 F R := (hR.ext (kpc : Keep NoB w w4)).keep lk3.keep (fun k hk e => hFd k hk (e.elim .inl (fun e => .inr (.inl e))))
      have hsep : ∀ j, NetF b mb G2 j → ((NetF b mb G j ∧ j < w.heap.size) ∨ (w4).heap.size ≤ j) ∧ j < (w16).heap.size := by
        intro j hj
        refine ⟨?_, hN2.lt j hj⟩
        rcases hj with e | e | e
        · exact .inl ⟨.inl e, by omega⟩
        · exact .inl ⟨.inr (.inl e), by omega⟩
        · rcases hs2 j e with e | e
          · exact .inl ⟨.inr (.inr e), h.gl j e⟩
          · exact .inr e
      have hdn := peek_none (N := N.pure) a.pick
      refine xl_v v_move ?_
      refine xl_v v_extract ?_
      refine xl_v v_extract ?_
      refine xl_v v_assign ?_
      refine xl_v v_assign ?_
      refine xl_nil ?_
      refine x_seq ?_
      refine x_seq ?_
      refine x_regionL ?_
      refine xl_v v_move ?_
      refine xl_v v_lss ?_
      refine xl_nil ?_
      first | refine x_condP (fun c4 => ?_) (fun c4 => ?_) | refine x_condN (fun c4 => ?_) (fun c4 => ?_) | refine x_condE (fun c4 => ?_) (fun c4 => ?_)
      ·
        have hRn : R.l = [] := by
          apply Decidable.byContradiction
          intro hne
          rw [if_neg hne] at c4
          have := (pickI_lt a.pick (List.length_pos_iff.2 hne)).1
          omega
        have hNn : N.pure.l = [] := by rw [hp]; simp [RefL.pure, hRn]
        obtain ⟨_, _, hd1, hd2, hd3⟩ := hdn hNn
        refine x_seq ?_
        refine x_drawL (OneB b3) (.take 0 (.take 1 (.take 2 (.take 3 (.take 4 (.eff 5 (.take 6 (.take 7 (.eff 8 (.take 9 .done)))))))))) mixed (by kernel_rfl) (fun _ _ _ _ _ h => h) (fun w17 l17 => ?_)
        refine xt_v rfl (by first | exact v_loadA | exact v_loadF (by decide) (by omega)) ?_
        refine xt_v rfl v_move ?_
        refine xt_v rfl (v_congr (u := .bool true) v_eql (by rw [hd2]; simp)) ?_
        refine xt_v rfl v_move ?_
        refine xt_gv rfl rfl EvO.eq v_move ?_
        refine xt_gcall rfl rfl EvO.eq (num_ok _ _) ?_
        rintro _ _ ⟨rfl, rfl⟩
        refine ⟨kpc, ?_⟩
        refine xt_gv rfl rfl EvO.eq (v_congr (u := .bool true) v_eql (by rw [hd3]; simp)) ?_
        refine xt_v rfl (by first | exact v_pickT | exact v_pickF | exact v_pick) ?_
        refine xt_s rfl (e_storeA fun w19 l19 k19 => ?_)
        refine xt_v rfl v_assign ?_
        refine xt_nil ?_
        refine x_ret ?_
        refine finR (rs := [.cell 6 47, .tmp 7]) rfl ?_
        refine ⟨G2, F, N2, R, by simp [outV], hN2.keep (kpc : Keep (OneB b3) _ w19) (fun j hj e => ?_), hRk.keep (kpc : Keep (OneB b3) _ w19) (fun j hj e => ?_), ?_, ?_, ?_, fun k hk => (hs2 k hk).imp id (fun e => Nat.le_trans hwp e), Sub.refl _ _, lkc⟩
        · have e' : j = b3 := e
          rcases (hsep j hj).1 with ⟨_, h5⟩ | h5 <;> omega
        · have e' : j = b3 := e
          have := hR.lt j hj
          omega
        · rw [hp2, Net.step, if_neg c1, if_pos c3]
        · rw [← hp, Net.step, if_neg c1, if_pos c3, hd1]
        · intro j hj e
          have h4 := hR.lt j hj
          rcases (hsep j e).1 with ⟨h5, h6⟩ | h5
          · exact hFd j hj h5
          · omega
      ·
        have hRn : R.l ≠ [] := fun e => by rw [if_pos e] at c4; omega
        have hik : (if R.l = [] then (-1 : Int) else pickI a.pick R.l.length) = (((pickI a.pick R.l.length).toNat : Nat) : Int) := by
          rw [if_neg hRn]
          have := (pickI_lt a.pick (List.length_pos_iff.2 hRn)).1
          omega
        obtain ⟨i, hi⟩ : ∃ i, i = (pickI a.pick R.l.length).toNat := ⟨_, rfl⟩
        rw [← hi] at hik
        have hiR : i < R.l.length := by have := (pickI_lt a.pick (List.length_pos_iff.2 hRn)).2; have := (pickI_lt a.pick (List.length_pos_iff.2 hRn)).1; omega
        haveI : Row w16 R.A (R.l.flatMap itemC) := ⟨hRk.row.row⟩
        haveI : Row w16 R.l[i].2.A (bytesC R.l[i].2.m.bytes) := ⟨(hRk.items _ (List.getElem_mem hiR)).row⟩
        haveI := hRk.row.old hRk.lt
        haveI := (hRk.items _ (List.getElem_mem hiR)).old hRk.lt
        have hRA : R.A.isSome = true := row_some (w := w16) (A := R.A) (cs := R.l.flatMap itemC) inferInstance (by rw [flat_len (sz := 4) (fun _ => rfl)]; omega)
        have hRk' : ∀ W, Lk W w16 NoB → RefAt W F R := fun W l => hRk.ext l.keep
        have hNne : N.pure.l ≠ [] := by rw [hp]; simpa [RefL.pure] using hRn
        obtain ⟨hd1, hd2, hd3⟩ := dup_some (pick := a.pick) hNne
        have hpk2 : (N.pure.peek a.pick).1 = R.l[i].2.m := by
          have hat : R.pure.at_ a.pick = i := by rw [Net.at_, ref_len, hi]
          rw [hp, Net.peek, hat, show R.pure.l[i]? = some (R.l[i].1, R.l[i].2.m) by simp [RefL.pure, hiR]]
        rw [hpk2] at hd1 hd2 hd3
        refine x_skip ?_
        refine x_seq ?_
        refine x_drawL (NewS w16) (.take 0 (.take 1 (.take 2 (.take 3 (.take 4 (.take 5 (.take 6 (.fork 7 (.take 8 (.take 9 (.take 10 (.take 11 (.eff 12 (.eff 13 (.take 14 (.take 15 .done)))))))) 12 (.eff 7 (.take 8 (.take 9 (.take 10 (.take 11 (.eff 13 (.take 14 (.take 15 .done)))))))))))))))) mixed (by kernel_rfl) (fun _ _ _ _ _ h => h) (fun w20 l20 => ?_)
        refine xt_v rfl (by first | exact v_loadA | exact v_loadF (by decide) (by omega)) ?_
        refine xt_v rfl (by first | exact v_fieldAddr | exact v_fieldAddrF (by decide) (by omega) | exact v_fieldAddrR (by first | assumption | rfl)) ?_
        refine xt_v rfl (by first | exact v_load | exact v_loadO (by omega) | exact v_loadFf (by omega) | exact v_loadF0 (by omega)) ?_
        refine xt_v rfl v_move ?_
        refine xt_v rfl (v_indexF i (by decide) hik (by omega) hiR) ?_
        refine xt_v rfl (by first | exact v_fieldAddr | exact v_fieldAddrF (by decide) (by omega) | exact v_fieldAddrR (by first | assumption | rfl)) ?_
        refine xt_v rfl (v_loadRA (vs := msgC R.l[i].2) rfl hRA (fun ii u hii => by rw [Nat.add_assoc, Nat.add_comm 1 ii]; exact flat_get (enc := itemC) (fun _ => rfl) R.l i hiR (ii + 1) u hii)) ?_
        refine xt_fork ?_ ?_
        ·
          refine xt_call rfl (refput_ok R F R.l[i].2 w20 (hRk' _ lkc) hokR (by rw [show R.came = R.pure.came from rfl, ← hp]; show N.came ≤ _; omega)) ?_
          rintro _ w21 ⟨⟨R2, F2, rfl, hR2p, hR2, hF2⟩, lk4⟩
          refine ⟨kpc, ?_⟩
          have hRpp : ∀ j, NetF b mb G2 j → j < (w20).heap.size := fun j hj => Nat.lt_of_lt_of_le (hsep j hj).2 Ge.le
          have hwp2 : w.heap.size ≤ (w20).heap.size := Ge.le
          have hb3p2 : b3 < (w20).heap.size := Has.lt
          first
            | have hbq2 : bq < (w20).heap.size := Has.lt
            | skip
          refine xt_v rfl v_move ?_
          refine xt_v rfl v_extract ?_
          refine xt_v rfl v_extract ?_
          refine xt_v rfl v_extract ?_
          refine xt_e rfl (e_alloc fun bq w22 nq lq kq => ?_)
          refine xt_s rfl (e_storeA fun w23 l23 k23 => ?_)
          refine xt_v rfl v_assign ?_
          refine xt_v rfl v_assign ?_
          refine xt_nil ?_
          refine x_seq ?_
          refine x_drawL (OneB b3) (.take 0 (.take 1 (.take 2 (.take 3 (.take 4 (.take 5 (.take 7 (.eff 6 (.take 8 (.take 9 (.eff 10 (.take 11 .done)))))))))))) mixed (by kernel_rfl) (fun _ _ _ _ _ h => h) (fun w24 l24 => ?_)
          refine xt_v rfl (by first | exact v_loadA | exact v_loadF (by decide) (by omega)) ?_
          refine xt_v rfl v_move ?_
          refine xt_v rfl v_move ?_
          refine xt_v rfl (v_congr (u := .bool true) v_eql (by rw [hd2, hp]; simp)) ?_
          refine xt_v rfl v_move ?_
          refine xt_gv rfl rfl EvO.eq v_move ?_
          refine xt_gv rfl rfl EvO.eq v_move ?_
          refine xt_gcall rfl rfl EvO.eq (num_ok _ _) ?_
          rintro _ _ ⟨rfl, rfl⟩
          refine ⟨kpc, ?_⟩
          refine xt_gv rfl rfl EvO.eq (v_congr (u := .bool true) v_eql (by rw [hd3, hp]; simp)) ?_
          refine xt_v rfl (by first | exact v_pickT | exact v_pickF | exact v_pick) ?_
          refine xt_s rfl (e_storeA fun w26 l26 k26 => ?_)
          refine xt_v rfl v_assign ?_
          refine xt_nil ?_
          refine x_ret ?_
          refine finR (rs := [.cell 6 47, .tmp 7]) rfl ?_
          refine ⟨G2, F2, N2, R2, by simp [outV], hN2.keep (kpc : Keep (OneB b3) _ w26) (fun j hj e => ?_), hR2.keep (kpc : Keep (fun j => OneB b3 j ∨ OneB bq j) _ w26) (fun j hj e => ?_), ?_, ?_, ?_, fun k hk => (hs2 k hk).imp id (fun e => Nat.le_trans hwp e), fun k hk => (hF2 k hk).imp id (fun e => Nat.le_trans hwp2 e), lkc⟩
          · have e' : j = b3 := e
            rcases (hsep j hj).1 with ⟨_, h5⟩ | h5 <;> omega
          · have h8 := hR2.lt j hj
            have h9 := nq.eq
            have h10 : w.heap.size ≤ bq := by rw [nq.eq]; exact Ge.le
            rcases e with e | e
            · have e' : j = b3 := e
              rcases hF2 j hj with h5 | h5
              · have := hR.lt j h5; omega
              · omega
            · have e' : j = bq := e
              rcases hF2 j hj with h5 | h5
              · have := hR.lt j h5; omega
              · omega
          · rw [hp2, Net.step, if_neg c1, if_pos c3]
          · rw [hR2p, Net.step, if_neg c1, if_pos c3, hd1, hp]
          · intro j hj e
            rcases hF2 j hj with h4 | h4
            · have h7 := hR.lt j h4
              rcases (hsep j e).1 with ⟨h5, h6⟩ | h5
              · exact hFd j h4 h5
              · omega
            · have := hRpp j e; omega
        ·
          refine xt_e rfl (e_alloc fun bq w27 nq lq kq => ?_)
          refine xt_call rfl (refput_ok R F R.l[i].2 w27 (hRk' _ lkc) hokR (by rw [show R.came = R.pure.came from rfl, ← hp]; show N.came ≤ _; omega)) ?_
          rintro _ w28 ⟨⟨R2, F2, rfl, hR2p, hR2, hF2⟩, lk4⟩
          refine ⟨kpc, ?_⟩
          have hRpp : ∀ j, NetF b mb G2 j → j < (w27).heap.size := fun j hj => Nat.lt_of_lt_of_le (hsep j hj).2 Ge.le
          have hwp2 : w.heap.size ≤ (w27).heap.size := Ge.le
          have hb3p2 : b3 < (w27).heap.size := Has.lt
          first
            | have hbq2 : bq < (w27).heap.size := Has.lt
            | skip
          refine xt_v rfl v_move ?_
          refine xt_v rfl v_extract ?_
          refine xt_v rfl v_extract ?_
          refine xt_v rfl v_extract ?_
          refine xt_s rfl (e_storeA fun w29 l29 k29 => ?_)
          refine xt_v rfl v_assign ?_
          refine xt_v rfl v_assign ?_
          refine xt_nil ?_
          refine x_seq ?_
          refine x_drawL (OneB b3) (.take 0 (.take 1 (.take 2 (.take 3 (.take 4 (.take 5 (.take 7 (.eff 6 (.take 8 (.take 9 (.eff 10 (.take 11 .done)))))))))))) mixed (by kernel_rfl) (fun _ _ _ _ _ h => h) (fun w30 l30 => ?_)
          refine xt_v rfl (by first | exact v_loadA | exact v_loadF (by decide) (by omega)) ?_
          refine xt_v rfl v_move ?_
          refine xt_v rfl v_move ?_
          refine xt_v rfl (v_congr (u := .bool true) v_eql (by rw [hd2, hp]; simp)) ?_
          refine xt_v rfl v_move ?_
          refine xt_gv rfl rfl EvO.eq v_move ?_
          refine xt_gv rfl rfl EvO.eq v_move ?_
          refine xt_gcall rfl rfl EvO.eq (num_ok _ _) ?_
          rintro _ _ ⟨rfl, rfl⟩
          refine ⟨kpc, ?_⟩
          refine xt_gv rfl rfl EvO.eq (v_congr (u := .bool true) v_eql (by rw [hd3, hp]; simp)) ?_
          refine xt_v rfl (by first | exact v_pickT | exact v_pickF | exact v_pick) ?_
          refine xt_s rfl (e_storeA fun w32 l32 k32 => ?_)
          refine xt_v rfl v_assign ?_
          refine xt_nil ?_
          refine x_ret ?_
          refine finR (rs := [.cell 6 47, .tmp 7]) rfl ?_
          refine ⟨G2, F2, N2, R2, by simp [outV], hN2.keep (kpc : Keep (OneB b3) _ w32) (fun j hj e => ?_), hR2.keep (kpc : Keep (fun j => OneB b3 j ∨ OneB bq j) _ w32) (fun j hj e => ?_), ?_, ?_, ?_, fun k hk => (hs2 k hk).imp id (fun e => Nat.le_trans hwp e), fun k hk => (hF2 k hk).imp id (fun e => Nat.le_trans hwp2 e), lkc⟩
          · have e' : j = b3 := e
            rcases (hsep j hj).1 with ⟨_, h5⟩ | h5 <;> omega
          · have h8 := hR2.lt j hj
            have h9 := nq.eq
            have h10 : w.heap.size ≤ bq := by rw [nq.eq]; exact Ge.le
            rcases e with e | e
            · have e' : j = b3 := e
              rcases hF2 j hj with h5 | h5
              · have := hR.lt j h5; omega
              · omega
            · have e' : j = bq := e
              rcases hF2 j hj with h5 | h5
              · have := hR.lt j h5; omega
              · omega
          · rw [hp2, Net.step, if_neg c1, if_pos c3]
          · rw [hR2p, Net.step, if_neg c1, if_pos c3, hd1, hp]
          · intro j hj e
            rcases hF2 j hj with h4 | h4
            · have h7 := hR.lt j h4
              rcases (hsep j e).1 with ⟨h5, h6⟩ | h5
              · exact hFd j h4 h5
              · omega
            · have := hRpp j e; omega
    ·
      refine x_seq ?_
      refine x_regionL ?_
      refine xl_v v_eql ?_
      refine xl_v v_assign ?_
      refine xl_nil ?_
      first | refine x_condP (fun c5 => ?_) (fun c5 => ?_) | refine x_condN (fun c5 => ?_) (fun c5 => ?_) | refine x_condE (fun c5 => ?_) (fun c5 => ?_)
      ·
        refine x_seq ?_
        refine x_regionL ?_
        refine xl_v v_move ?_
        refine xl_v (by first | exact v_fieldAddr | exact v_fieldAddrF (by decide) (by omega) | exact v_fieldAddrR (by first | assumption | rfl)) ?_
        refine xl_v (by first | exact v_load | exact v_loadO (by omega) | exact v_loadFf (by omega) | exact v_loadF0 (by omega)) ?_
        refine xl_call (drop_ok b mb G N a.pick w4 (h.ext (kpc : Keep NoB w w4)) hok) ?_
        rintro _ w33 ⟨rfl, ⟨N2, hN2, hp2⟩, lk3⟩
        have hb3p : b3 < (w4).heap.size := Has.lt
        have hwp : w.heap.size ≤ (w4).heap.size := Ge.le
        have hpw := lk3.keep.size
        have hRk : RefAt w33 F R := (hR.ext (kpc : Keep NoB w w4)).keep lk3.keep (fun k hk e => hFd k hk (e.elim .inl (fun e => .inr (.inl e))))
        have hdn := peek_none (N := N.pure) a.pick
        refine xl_v v_move ?_
        refine xl_v v_extract ?_
        refine xl_v v_extract ?_
        refine xl_v v_assign ?_
        refine xl_v v_assign ?_
        refine xl_nil ?_
        refine x_seq ?_
        refine x_seq ?_
        refine x_regionL ?_
        refine xl_v v_move ?_
        refine xl_v v_lss ?_
        refine xl_nil ?_
        first | refine x_condP (fun c6 => ?_) (fun c6 => ?_) | refine x_condN (fun c6 => ?_) (fun c6 => ?_) | refine x_condE (fun c6 => ?_) (fun c6 => ?_)
        ·
          have hRn : R.l = [] := by
            apply Decidable.byContradiction
            intro hne
            rw [if_neg hne] at c6
            have := (pickI_lt a.pick (List.length_pos_iff.2 hne)).1
            omega
          have hNn : N.pure.l = [] := by rw [hp]; simp [RefL.pure, hRn]
          obtain ⟨hd1, hd2, _⟩ := hdn hNn
          refine x_seq ?_
          refine x_drawL (OneB b3) (.take 0 (.take 1 (.take 2 (.take 3 (.take 4 (.eff 5 (.take 6 (.take 7 (.eff 8 (.take 9 .done)))))))))) mixed (by kernel_rfl) (fun _ _ _ _ _ h => h) (fun w34 l34 => ?_)
          refine xt_v rfl (by first | exact v_loadA | exact v_loadF (by decide) (by omega)) ?_
          refine xt_v rfl v_move ?_
          refine xt_v rfl (v_congr (u := .bool true) v_eql (by rw [hd1]; simp)) ?_
          refine xt_v rfl v_move ?_
          refine xt_gv rfl rfl EvO.eq v_move ?_
          refine xt_gcall rfl rfl EvO.eq (num_ok _ _) ?_
          rintro _ _ ⟨rfl, rfl⟩
          refine ⟨kpc, ?_⟩
          refine xt_gv rfl rfl EvO.eq (v_congr (u := .bool true) v_eql (by rw [hd1]; simp)) ?_
          refine xt_v rfl (by first | exact v_pickT | exact v_pickF | exact v_pick) ?_
          refine xt_s rfl (e_storeA fun w36 l36 k36 => ?_)
          refine xt_v rfl v_assign ?_
          refine xt_nil ?_
          refine x_ret ?_
          refine finR (rs := [.cell 6 47, .tmp 7]) rfl ?_
          refine ⟨G, F, N2, R, by simp [outV], hN2.keep (kpc : Keep (OneB b3) _ w36) (fun j hj e => ?_), hRk.keep (kpc : Keep (OneB b3) _ w36) (fun j hj e => ?_), ?_, ?_, hFd, Sub.refl _ _, Sub.refl _ _, lkc⟩
          · have e' : j = b3 := e
            have := h.lt j hj
            omega
          · have e' : j = b3 := e
            have := hR.lt j hj
            omega
          · rw [hp2, Net.step, if_neg c1, if_neg c3, if_pos (.inl c5)]
          · rw [← hp, Net.step, if_neg c1, if_neg c3, if_pos (.inl c5), hd2]
        ·
          have hRn : R.l ≠ [] := fun e => by rw [if_pos e] at c6; omega
          have hik : (if R.l = [] then (-1 : Int) else pickI a.pick R.l.length) = (((pickI a.pick R.l.length).toNat : Nat) : Int) := by
            rw [if_neg hRn]
            have := (pickI_lt a.pick (List.length_pos_iff.2 hRn)).1
            omega
          obtain ⟨i, hi⟩ : ∃ i, i = (pickI a.pick R.l.length).toNat := ⟨_, rfl⟩
          rw [← hi] at hik
          have hiR : i < R.l.length := by have := (pickI_lt a.pick (List.length_pos_iff.2 hRn)).2; have := (pickI_lt a.pick (List.length_pos_iff.2 hRn)).1; omega
          haveI : Row w33 R.A (R.l.flatMap itemC) := ⟨hRk.row.row⟩
          haveI := hRk.row.old hRk.lt
          have hRk' : ∀ W, Lk W w33 NoB → RefAt W F R := fun W l => hRk.ext l.keep
          have hNne : N.pure.l ≠ [] := by rw [hp]; simpa [RefL.pure] using hRn
          have hat : N.pure.at_ a.pick = i := by rw [hp, Net.at_, ref_len, hi]
          have hpk2 : N.pure.peek a.pick = (R.l[i].2.m, R.l[i].1, 0) := by
            rw [Net.peek, hat, hp, show R.pure.l[i]? = some (R.l[i].1, R.l[i].2.m) by simp [RefL.pure, hiR]]
          have htk : N.pure.takeM a.pick = N.pure.without i := by rw [Net.takeM, if_neg hNne, hat]
          refine x_skip ?_
          refine x_seq ?_
          refine x_drawL (OneB b3) (.take 0 (.take 1 (.take 3 (.take 4 (.take 5 (.take 6 (.take 7 (.take 8 (.take 9 (.take 10 (.eff 2 (.take 11 (.take 12 (.eff 13 (.take 14 (.take 15 (.eff 16 (.take 17 .done)))))))))))))))))) mixed (by kernel_rfl) (fun _ _ _ _ _ h => h) (fun w37 l37 => ?_)
          refine xt_v rfl (by first | exact v_loadA | exact v_loadF (by decide) (by omega)) ?_
          refine xt_v rfl v_move ?_
          refine xt_v rfl v_move ?_
          refine xt_v rfl (by first | exact v_fieldAddr | exact v_fieldAddrF (by decide) (by omega) | exact v_fieldAddrR (by first | assumption | rfl)) ?_
          refine xt_v rfl (by first | exact v_load | exact v_loadO (by omega) | exact v_loadFf (by omega) | exact v_loadF0 (by omega)) ?_
          refine xt_v rfl v_move ?_
          refine xt_v rfl (v_indexF i (by decide) hik (by omega) hiR) ?_
          refine xt_v rfl (by first | exact v_fieldAddr | exact v_fieldAddrF (by decide) (by omega) | exact v_fieldAddrR (by first | assumption | rfl)) ?_
          refine xt_v rfl (v_loadF0 hiR) ?_
          refine xt_v rfl (v_congr (u := .bool true) v_eql (by rw [hpk2]; simp)) ?_
          refine xt_call rfl (refwithout2_ok R F i _ hik w37 (hRk' _ lkc) (by omega)) ?_
          rintro _ w38 ⟨⟨R2, F2, rfl, hR2p, hR2, hF2⟩, lk4⟩
          refine ⟨kpc, ?_⟩
          have hwp2 : w.heap.size ≤ (w37).heap.size := Ge.le
          have hb3p2 : b3 < (w37).heap.size := Has.lt
          have hNp2 : ∀ j, NetF b mb G j → j < (w37).heap.size := fun j hj => Nat.lt_of_lt_of_le (hN2.lt j hj) Ge.le
          refine xt_v rfl v_move ?_
          refine xt_gv rfl rfl EvO.eq v_move ?_
          refine xt_gcall rfl rfl EvO.eq (num_ok _ _) ?_
          rintro _ _ ⟨rfl, rfl⟩
          refine ⟨kpc, ?_⟩
          refine xt_gv rfl rfl EvO.eq (v_congr (u := .bool true) v_eql (by rw [hpk2]; simp)) ?_
          refine xt_v rfl (by first | exact v_pickT | exact v_pickF | exact v_pick) ?_
          refine xt_s rfl (e_storeA fun w40 l40 k40 => ?_)
          refine xt_v rfl v_assign ?_
          refine xt_nil ?_
          refine x_ret ?_
          refine finR (rs := [.cell 6 47, .tmp 7]) rfl ?_
          refine ⟨G, F2, N2, R2, by simp [outV], hN2.keep (kpc : Keep (OneB b3) _ w40) (fun j hj e => ?_), hR2.keep (kpc : Keep (OneB b3) _ w40) (fun j hj e => ?_), ?_, ?_, ?_, Sub.refl _ _, fun k hk => (hF2 k hk).imp id (fun e => Nat.le_trans hwp2 e), lkc⟩
          · have e' : j = b3 := e
            have := h.lt j hj
            omega
          · have e' : j = b3 := e
            rcases hF2 j hj with h5 | h5
            · have := hR.lt j h5; omega
            · omega
          · rw [hp2, Net.step, if_neg c1, if_neg c3, if_pos (.inl c5)]
          · rw [hR2p, Net.step, if_neg c1, if_neg c3, if_pos (.inl c5), htk, hp]
          · intro j hj e
            rcases hF2 j hj with h4 | h4
            · exact hFd j h4 e
            · have := hNp2 j e; omega
      ·
        refine x_skip ?_
        refine x_seq ?_
        refine x_regionL ?_
        refine xl_v v_move ?_
        refine xl_v (by first | exact v_fieldAddr | exact v_fieldAddrF (by decide) (by omega) | exact v_fieldAddrR (by first | assumption | rfl)) ?_
        refine xl_v (by first | exact v_load | exact v_loadO (by omega) | exact v_loadFf (by omega) | exact v_loadF0 (by omega)) ?_
        refine xl_call (peek_ok b mb G N a.pick w4 (h.ext (kpc : Keep NoB w w4)) hok) ?_
        rintro _ w41 ⟨⟨A9, c9, rfl, ho9⟩, lk2⟩
        haveI : OwnI w41 A9 _ _ _ _ _ _ _ := ⟨ho9⟩
        have hab9 := own_blk ho9
        have hwp9 : w.heap.size ≤ (w4).heap.size := Ge.le
        have hp91 : b1 < (w4).heap.size := Has.lt
        have hp92 : b2 < (w4).heap.size := Has.lt
        have hp93 : b3 < (w4).heap.size := Has.lt
        refine xl_v v_move ?_
        refine xl_v v_extract ?_
        refine xl_v v_extract ?_
        refine xl_v v_extract ?_
        refine xl_e (e_alloc fun bt w42 nt lt kt => ?_)
        refine xl_s (e_storeA fun w43 l43 k43 => ?_)
        refine xl_v v_assign ?_
        refine xl_v v_assign ?_
        refine xl_nil ?_
        refine x_seq ?_
        refine x_seq ?_
        have hbt9 : ∀ c, A9 = some c → c.block < bt := fun c hc => by have := (hab9 c hc).2; have := nt.eq; omega
        refine x_regionL ?_
        refine xl_v (by first | exact v_fieldAddr | exact v_fieldAddrF (by decide) (by omega) | exact v_fieldAddrR (by first | assumption | rfl)) ?_
        refine xl_v (by first | exact v_load | exact v_loadO (by omega) | exact v_loadFf (by omega) | exact v_loadF0 (by omega)) ?_
        refine xl_v v_eql ?_
        refine xl_nil ?_
        first | refine x_condP (fun c7 => ?_) (fun c7 => ?_) | refine x_condN (fun c7 => ?_) (fun c7 => ?_) | refine x_condE (fun c7 => ?_) (fun c7 => ?_)
        ·
          refine x_regionL ?_
          refine xl_v v_move ?_
          refine xl_v (by first | exact v_fieldAddr | exact v_fieldAddrF (by decide) (by omega) | exact v_fieldAddrR (by first | assumption | rfl)) ?_
          refine xl_v (by first | exact v_load | exact v_loadO (by omega) | exact v_loadFf (by omega) | exact v_loadF0 (by omega)) ?_
          refine xl_call (take_ok b mb G N a.pick w43 (h.ext (kpc : Keep NoB w w43)) hok) ?_
          rintro _ w44 ⟨⟨A8, ca, rfl, ho8⟩, ⟨N2, hN2, hp2⟩, lk3⟩
          haveI : OwnI w44 A8 _ _ _ _ _ _ _ := ⟨ho8⟩
          have hab8 := own_blk ho8
          have hwp8 : w.heap.size ≤ (w43).heap.size := Ge.le
          have hp81 : b1 < (w43).heap.size := Has.lt
          have hp82 : b2 < (w43).heap.size := Has.lt
          have hp83 : b3 < (w43).heap.size := Has.lt
          have hp8t : bt < (w43).heap.size := Has.lt
          haveI : NeB bt b := ⟨by have h1 := nt.eq; have h2 : w.heap.size ≤ bt := by (rw [h1]; exact Ge.le)
                                  omega⟩
          haveI : NeB bt mb := ⟨by have h1 := nt.eq; have h2 : w.heap.size ≤ bt := by (rw [h1]; exact Ge.le)
                                   omega⟩
          have hwbt : w.heap.size ≤ bt := by (rw [nt.eq]; exact Ge.le)
          haveI : RowOut (OneB bt) A8 := ⟨fun c hc e => by have := (hab8 c hc).1; have e' : c.block = bt := e; omega⟩
          have hRk0 : RefAt w44 F R := (hR.ext (kpc : Keep NoB w w43)).keep lk3.keep (fun k hk e => hFd k hk (e.elim .inl (fun e => .inr (.inl e))))
          refine xl_v v_move ?_
          refine xl_v v_extract ?_
          refine xl_v v_extract ?_
          refine xl_v v_extract ?_
          refine xl_s (e_storeA fun w45 l45 k45 => ?_)
          refine xl_v v_assign ?_
          refine xl_v v_assign ?_
          refine xl_nil ?_
          have hRk : RefAt w45 F R := hRk0.keep (kpc : Keep (OneB bt) _ w45) (fun j hj e => by have := hR.lt j hj; have e' : j = bt := e; omega)
          have hNk : NetAt w45 b mb G N2 := hN2.keep (kpc : Keep (OneB bt) _ w45) (fun j hj e => by have := h.lt j hj; have e' : j = bt := e; omega)
          have hpN : N2.pure = N.pure.step a.what a.pick a.x.m := by rw [hp2, Net.step, if_neg c1, if_neg c3, if_pos (.inr c7)]
          haveI : NewA A8 w := ⟨fun c hc => Nat.le_trans hwp8 (hab8 c hc).1⟩
          have hA8 : ∀ c, A8 = some c → w.heap.size ≤ c.block ∧ c.block ≠ b1 ∧ c.block ≠ b2 ∧ c.block ≠ b3 ∧ c.block ≠ bt := fun c hc => by have := (hab8 c hc).1; omega
          have hob0 := (OwnI.own : World.ownsRow w45 _ _ _ (.slice A8 _ ca) _ _)
          refine x_seq ?_
          refine x_seq ?_
          refine x_regionL ?_
          refine xl_v v_move ?_
          refine xl_v v_lss ?_
          refine xl_nil ?_
          first | refine x_condP (fun c8 => ?_) (fun c8 => ?_) | refine x_condN (fun c8 => ?_) (fun c8 => ?_) | refine x_condE (fun c8 => ?_) (fun c8 => ?_)
          ·
            have hRn : R.l = [] := by
              apply Decidable.byContradiction
              intro hne
              rw [if_neg hne] at c8
              have := (pickI_lt a.pick (List.length_pos_iff.2 hne)).1
              omega
            have hNn : N.pure.l = [] := by rw [hp]; simp [RefL.pure, hRn]
            obtain ⟨hd1, hd2, _⟩ := peek_none (N := N.pure) a.pick hNn
            refine x_seq ?_
            refine x_drawL (OneB b3) (.take 0 (.take 1 (.take 2 (.take 3 (.take 4 (.eff 5 (.take 6 (.take 7 (.take 8 (.take 9 (.take 10 (.eff 11 (.take 12 (.eff 13 (.take 14 .done))))))))))))))) mixed (by kernel_rfl) (fun _ _ _ _ _ h => h) (fun w46 l46 => ?_)
            refine xt_v rfl (by first | exact v_loadA | exact v_loadF (by decide) (by omega)) ?_
            refine xt_v rfl v_move ?_
            refine xt_v rfl (v_congr (u := .bool true) v_eql (by rw [hd1]; simp)) ?_
            refine xt_v rfl v_move ?_
            refine xt_gv rfl rfl EvO.eq v_move ?_
            refine xt_gcall rfl rfl EvO.eq (num_ok _ _) ?_
            rintro _ _ ⟨rfl, rfl⟩
            refine ⟨kpc, ?_⟩
            refine xt_gv rfl rfl EvO.eq (v_congr (u := .bool true) v_eql (by rw [hd1]; simp)) ?_
            refine xt_v rfl (by first | exact v_pickT | exact v_pickF | exact v_pick) ?_
            refine xt_v rfl v_move ?_
            refine xt_gv rfl rfl EvO.eq (by first | exact v_loadA | exact v_loadF (by decide) (by omega)) ?_
            refine xt_gv rfl rfl EvO.eq v_build ?_
            haveI : Row w46 (none : Option Addr) (bytesC []) := ⟨fun j v h => by simp [bytesC] at h⟩
            haveI : OldA w46 (none : Option Addr) := ⟨fun a h => by cases h⟩
            refine xt_gcall rfl rfl EvO.eq (samemsg2_ok ⟨(N.pure.peek a.pick).1, A8, ca⟩ ⟨zeroMsg, none, 0⟩ w46) ?_
            rintro _ w48 ⟨rfl, lk5⟩
            refine ⟨kpc, ?_⟩
            rw [decide_eq_true (show (N.pure.peek a.pick).1 = zeroMsg by rw [hd1])]
            refine xt_v rfl (by first | exact v_pickT | exact v_pickF | exact v_pick) ?_
            refine xt_s rfl (e_storeA fun w49 l49 k49 => ?_)
            refine xt_v rfl v_assign ?_
            refine xt_nil ?_
            refine x_ret ?_
            refine finR (rs := [.cell 6 47, .tmp 7]) rfl ?_
            refine ⟨G, F, N2, R, by simp [outV], hNk.keep (kpc : Keep (OneB b3) _ w49) (fun j hj e => ?_), hRk.keep (kpc : Keep (OneB b3) _ w49) (fun j hj e => ?_), hpN, ?_, hFd, Sub.refl _ _, Sub.refl _ _, lkc⟩
            · have e' : j = b3 := e
              have := h.lt j hj
              omega
            · have e' : j = b3 := e
              have := hR.lt j hj
              omega
            · rw [← hp, Net.step, if_neg c1, if_neg c3]
              split
              · exact hd2.symm
              · rfl
          ·
            have hRn : R.l ≠ [] := fun e => by rw [if_pos e] at c8; omega
            have hik : (if R.l = [] then (-1 : Int) else pickI a.pick R.l.length) = (((pickI a.pick R.l.length).toNat : Nat) : Int) := by
              rw [if_neg hRn]
              have := (pickI_lt a.pick (List.length_pos_iff.2 hRn)).1
              omega
            obtain ⟨i, hi⟩ : ∃ i, i = (pickI a.pick R.l.length).toNat := ⟨_, rfl⟩
            rw [← hi] at hik
            have hiR : i < R.l.length := by have := (pickI_lt a.pick (List.length_pos_iff.2 hRn)).2; have := (pickI_lt a.pick (List.length_pos_iff.2 hRn)).1; omega
            haveI : Row w45 R.A (R.l.flatMap itemC) := ⟨hRk.row.row⟩
            haveI : Row w45 R.l[i].2.A (bytesC R.l[i].2.m.bytes) := ⟨(hRk.items _ (List.getElem_mem hiR)).row⟩
            haveI := hRk.row.old hRk.lt
            have hRA : R.A.isSome = true := row_some (w := w45) (A := R.A) (cs := R.l.flatMap itemC) inferInstance (by rw [flat_len (sz := 4) (fun _ => rfl)]; omega)
            have hNne : N.pure.l ≠ [] := by rw [hp]; simpa [RefL.pure] using hRn
            have hat : N.pure.at_ a.pick = i := by rw [hp, Net.at_, ref_len, hi]
            have hpk2 : N.pure.peek a.pick = (R.l[i].2.m, R.l[i].1, 0) := by
              rw [Net.peek, hat, hp, show R.pure.l[i]? = some (R.l[i].1, R.l[i].2.m) by simp [RefL.pure, hiR]]
            have htk : N.pure.takeM a.pick = N.pure.without i := by rw [Net.takeM, if_neg hNne, hat]
            have hpb : (N.pure.peek a.pick).1.bytes.length ≤ 4096 := by
              rw [hpk2]
              exact (hok.good (R.l[i].1, R.l[i].2.m) (by rw [hp]; exact List.mem_map.2 ⟨R.l[i], List.getElem_mem hiR, rfl⟩)).2.2
            refine x_skip ?_
            refine x_seq ?_
            refine x_drawL (NoB) (.take 0 (.take 1 (.take 2 (.take 3 (.take 4 (.take 5 (.take 6 (.take 7 (.take 8 (.take 9 (.eff 10 (.take 11 (.take 12 (.take 13 (.take 14 (.take 15 (.take 16 (.take 17 (.take 18 (.take 19 (.take 20 (.eff 21 (.take 22 (.take 23 .done)))))))))))))))))))))))) mixed (by kernel_rfl) (fun _ _ _ _ _ h => h) (fun w50 l50 => ?_)
            refine xt_v rfl v_move ?_
            refine xt_v rfl (by first | exact v_fieldAddr | exact v_fieldAddrF (by decide) (by omega) | exact v_fieldAddrR (by first | assumption | rfl)) ?_
            refine xt_v rfl (by first | exact v_load | exact v_loadO (by omega) | exact v_loadFf (by omega) | exact v_loadF0 (by omega)) ?_
            refine xt_v rfl v_move ?_
            refine xt_v rfl (v_indexF i (by decide) hik (by omega) hiR) ?_
            refine xt_v rfl (by first | exact v_fieldAddr | exact v_fieldAddrF (by decide) (by omega) | exact v_fieldAddrR (by first | assumption | rfl)) ?_
            refine xt_v rfl (v_loadF0 hiR) ?_
            refine xt_v rfl (v_congr (u := .bool true) v_eql (by rw [hpk2]; simp)) ?_
            refine xt_v rfl v_move ?_
            refine xt_gv rfl rfl EvO.eq v_move ?_
            refine xt_gcall rfl rfl EvO.eq (num_ok _ _) ?_
            rintro _ _ ⟨rfl, rfl⟩
            refine ⟨kpc, ?_⟩
            refine xt_gv rfl rfl EvO.eq (v_congr (u := .bool true) v_eql (by rw [hpk2]; simp)) ?_
            refine xt_v rfl (by first | exact v_pickT | exact v_pickF | exact v_pick) ?_
            refine xt_v rfl v_move ?_
            refine xt_gv rfl rfl EvO.eq (by first | exact v_loadA | exact v_loadF (by decide) (by omega)) ?_
            refine xt_gv rfl rfl EvO.eq (by first | exact v_fieldAddr | exact v_fieldAddrF (by decide) (by omega) | exact v_fieldAddrR (by first | assumption | rfl)) ?_
            refine xt_gv rfl rfl EvO.eq (by first | exact v_load | exact v_loadO (by omega) | exact v_loadFf (by omega) | exact v_loadF0 (by omega)) ?_
            refine xt_gv rfl rfl EvO.eq v_move ?_
            refine xt_gv rfl rfl EvO.eq (v_indexF i (by decide) hik (by omega) hiR) ?_
            refine xt_gv rfl rfl EvO.eq (by first | exact v_fieldAddr | exact v_fieldAddrF (by decide) (by omega) | exact v_fieldAddrR (by first | assumption | rfl)) ?_
            refine xt_gv rfl rfl EvO.eq (v_loadRA (vs := msgC R.l[i].2) rfl hRA (fun ii u hii => by rw [Nat.add_assoc, Nat.add_comm 1 ii]; exact flat_get (enc := itemC) (fun _ => rfl) R.l i hiR (ii + 1) u hii)) ?_
            refine xt_gcall rfl rfl EvO.eq (samemsg2_ok ⟨(N.pure.peek a.pick).1, A8, ca⟩ R.l[i].2 w50) ?_
            rintro _ w52 ⟨rfl, lk5⟩
            refine ⟨kpc, ?_⟩
            rw [decide_eq_true (show (N.pure.peek a.pick).1 = R.l[i].2.m by rw [hpk2])]
            refine xt_v rfl (by first | exact v_pickT | exact v_pickF | exact v_pick) ?_
            refine xt_v rfl v_assign ?_
            refine xt_nil ?_
            refine x_seq ?_
            refine x_seq ?_
            refine x_regionL ?_
            refine xl_v v_assign ?_
            refine xl_nil ?_
            refine x_block ?_
            have hob := own_ext hob0 (lkc : Lk w52 _ NoB)
            have hRL := hRk.ext (kpc : Keep NoB _ w52)
            have hNL := hNk.ext (kpc : Keep NoB _ w52)
            have hb1L := (Blk.eq : (w52).heap[b1]? = _)
            have hb2L := (Blk.eq : (w52).heap[b2]? = _)
            have hb3L := (Blk.eq : (w52).heap[b3]? = _)
            have hbtL := (Blk.eq : (w52).heap[bt]? = _)
            have hwL : w.heap.size ≤ (w52).heap.size := Ge.le
            have hAj : ∀ j, OwnB (.slice A8 (N.pure.peek a.pick).1.bytes.length ca) j → w.heap.size ≤ j ∧ j ≠ b1 ∧ j ≠ b2 ∧ j ≠ b3 ∧ j ≠ bt := by
              intro j e
              cases A8 with
              | none => cases e
              | some c => have e' : some j = some c.block := e
                          injection e' with e'
                          rw [e']
                          exact hA8 c rfl
            refine x_loop (fun m τ ds w' => ds = [] ∧ ∃ (k : Nat) (ys : List UInt8) (base : Nat), m = (N.pure.peek a.pick).1.bytes.length - k ∧ k ≤ (N.pure.peek a.pick).1.bytes.length ∧ ys.length = (N.pure.peek a.pick).1.bytes.length ∧ w'.ownsRow base 5 1 (.slice A8 (N.pure.peek a.pick).1.bytes.length ca) (N.pure.peek a.pick).1.bytes.length (bytesC ys) ∧ Keep (OwnB (.slice A8 (N.pure.peek a.pick).1.bytes.length ca)) w52 w' ∧ Ev τ 4 (.pointer (some ⟨b1, 0, none⟩)) ∧ Ev τ 5 (.pointer (some ⟨b2, 0, none⟩)) ∧ Ev τ 6 (.pointer (some ⟨b3, 0, none⟩)) ∧ Ev τ 8 (.int .i64 (if R.l = [] then (-1 : Int) else pickI a.pick R.l.length)) ∧ Ev τ 24 (.pointer (some ⟨bt, 0, none⟩)) ∧ Ev τ 27 (.bool true) ∧ Ev τ 28 (.int .i64 (k : Int))) ((N.pure.peek a.pick).1.bytes.length) ?start ?round
            case start =>
              exact ⟨rfl, 0, (N.pure.peek a.pick).1.bytes, _, rfl, by omega, rfl, hob, Keep.refl _ _, inferInstance, inferInstance, inferInstance, inferInstance, inferInstance, inferInstance, evc⟩
            case round =>
              intro m τ53 ds53 w53 hI
              obtain ⟨rfl, k, ys, base, rfl, hk, hyl, hoy, hkv, f4, f5, f6, f8, f24, f27, f28⟩ := hI
              haveI lkv : Lk w53 _ (OwnB (.slice A8 (N.pure.peek a.pick).1.bytes.length ca)) := ⟨hkv⟩
              haveI : OwnI w53 A8 _ _ _ _ _ _ _ := ⟨hoy⟩
              haveI : Blk w53 b1 _ := ⟨(hkv.block b1 (Array.getElem?_eq_some_iff.1 hb1L).1 (fun e => (hAj _ e).2.1 rfl)).trans hb1L⟩
              haveI : Blk w53 b2 _ := ⟨(hkv.block b2 (Array.getElem?_eq_some_iff.1 hb2L).1 (fun e => (hAj _ e).2.2.1 rfl)).trans hb2L⟩
              haveI : Blk w53 b3 _ := ⟨(hkv.block b3 (Array.getElem?_eq_some_iff.1 hb3L).1 (fun e => (hAj _ e).2.2.2.1 rfl)).trans hb3L⟩
              haveI : Blk w53 bt _ := ⟨(hkv.block bt (Array.getElem?_eq_some_iff.1 hbtL).1 (fun e => (hAj _ e).2.2.2.2 rfl)).trans hbtL⟩
              have hRr := hRL.keep hkv (fun j hj e => by have := hR.lt j hj; have := (hAj j e).1; omega)
              have hNr := hNL.keep hkv (fun j hj e => by have := h.lt j hj; have := (hAj j e).1; omega)
              refine x_seq ?_
              refine x_seq ?_
              refine x_regionL ?_
              refine xl_v v_move ?_
              refine xl_v (by first | exact v_fieldAddr | exact v_fieldAddrF (by decide) (by omega) | exact v_fieldAddrR (by first | assumption | rfl)) ?_
              refine xl_v (by first | exact v_load | exact v_loadO (by omega) | exact v_loadFf (by omega) | exact v_loadF0 (by omega)) ?_
              refine xl_v v_len ?_
              refine xl_v v_lss ?_
              refine xl_nil ?_
              first | refine x_condP (fun c9 => ?_) (fun c9 => ?_) | refine x_condN (fun c9 => ?_) (fun c9 => ?_) | refine x_condE (fun c9 => ?_) (fun c9 => ?_)
              ·
                have hk1 : k < ys.length := by
                  have c9' : (k : Int) < ((N.pure.peek a.pick).1.bytes.length : Int) := c9
                  omega
                obtain ⟨z, hz⟩ := byte_wrap ((ys[k].toNat : Int) + 1) (by omega)
                refine x_skip ?_
                refine x_seq ?_
                refine x_block ?_
                refine x_drawL (NoB) (.take 0 (.take 1 (.take 2 (.take 3 (.take 4 (.take 5 (.take 6 (.take 7 (.take 8 (.take 9 (.last 10))))))))))) mixed (by kernel_rfl) (fun _ _ _ _ _ h => h) (fun w54 l54 => ?_)
                refine xt_v rfl (by first | exact v_fieldAddr | exact v_fieldAddrF (by decide) (by omega) | exact v_fieldAddrR (by first | assumption | rfl)) ?_
                refine xt_v rfl (by first | exact v_load | exact v_loadO (by omega) | exact v_loadFf (by omega) | exact v_loadF0 (by omega)) ?_
                refine xt_v rfl v_move ?_
                refine xt_v rfl (by first | exact v_fieldAddr | exact v_fieldAddrF (by decide) (by omega) | exact v_fieldAddrR (by first | assumption | rfl)) ?_
                refine xt_v rfl (by first | exact v_load | exact v_loadO (by omega) | exact v_loadFf (by omega) | exact v_loadF0 (by omega)) ?_
                refine xt_v rfl v_move ?_
                refine xt_v rfl (v_indexO k rfl (by omega) hk1) ?_
                refine xt_v rfl (v_loadO (k := k) hk1) ?_
                refine xt_v rfl v_addw ?_
                refine xt_v rfl (v_indexO k rfl (by omega) hk1) ?_
                have hkv' := hkv.then (lkc : Lk w54 _ NoB).keep (fun _ _ e => e.elim)
                refine xt_lastS rfl (e_storeOwn (own_ext hoy lkc) (by omega) (by decide) fun w55 lz hoz => ?_)
                rw [hz, setL_bytes ys k z hk1] at hoz
                refine x_regionL ?_
                refine xl_v v_move ?_
                refine xl_v (v_add (by omega)) ?_
                refine xl_v v_assign ?_
                refine xl_nil ?_
                refine ⟨_, ?_, rfl, k + 1, ys.set k z, base, rfl, by omega, by simpa using hyl, hoz, hkv'.then lz.keep (fun j _ e => e), inferInstance, inferInstance, inferInstance, inferInstance, inferInstance, inferInstance, evc⟩
                omega
              ·
                refine x_exit ?_
                refine x_seq ?_
                refine x_seq ?_
                refine x_regionL ?_
                refine xl_v (by first | exact v_fieldAddr | exact v_fieldAddrF (by decide) (by omega) | exact v_fieldAddrR (by first | assumption | rfl)) ?_
                refine xl_v (by first | exact v_load | exact v_loadO (by omega) | exact v_loadFf (by omega) | exact v_loadF0 (by omega)) ?_
                refine xl_v v_eql ?_
                refine xl_nil ?_
                first | refine x_condP (fun c10 => ?_) (fun c10 => ?_) | refine x_condN (fun c10 => ?_) (fun c10 => ?_) | refine x_condE (fun c10 => ?_) (fun c10 => ?_)
                ·
                  refine x_seq ?_
                  refine x_regionL ?_
                  refine xl_v (by first | exact v_loadA | exact v_loadF (by decide) (by omega)) ?_
                  refine xl_v v_move ?_
                  refine xl_call (refwithout2_ok R F i _ hik w53 (hRr.ext (kpc : Keep NoB _ w53)) (by omega)) ?_
                  rintro _ w56 ⟨⟨R2, F2, rfl, hR2p, hR2, hF2⟩, lk4⟩
                  have hwp2 : w.heap.size ≤ (w53).heap.size := Ge.le
                  have hb3p2 : b3 < (w53).heap.size := Has.lt
                  have hNp2 : ∀ j, NetF b mb G j → j < w.heap.size := h.lt
                  refine xl_v v_move ?_
                  refine xl_s (e_storeA fun w57 l57 k57 => ?_)
                  refine xl_v v_assign ?_
                  refine xl_nil ?_
                  refine x_ret ?_
                  refine finR (rs := [.cell 6 47, .tmp 7]) rfl ?_
                  refine ⟨G, F2, N2, R2, by simp [outV], hNr.keep (kpc : Keep (OneB b3) _ w57) (fun j hj e => ?_), hR2.keep (kpc : Keep (OneB b3) _ w57) (fun j hj e => ?_), hpN, ?_, ?_, Sub.refl _ _, fun k hk => (hF2 k hk).imp id (fun e => Nat.le_trans hwp2 e), lkc⟩
                  · have e' : j = b3 := e
                    have := h.lt j hj
                    omega
                  · have e' : j = b3 := e
                    rcases hF2 j hj with h5 | h5
                    · have := hR.lt j h5; omega
                    · omega
                  · rw [hR2p, Net.step, if_neg c1, if_neg c3, if_pos (.inr c10), htk, hp]
                  · intro j hj e
                    rcases hF2 j hj with h4 | h4
                    · exact hFd j h4 e
                    · have := hNp2 j e; omega
                ·
                  refine x_skip ?_
                  refine x_seq ?_
                  refine x_regionL ?_
                  refine xl_v (by first | exact v_loadA | exact v_loadF (by decide) (by omega)) ?_
                  refine xl_v v_move ?_
                  refine xl_s (e_storeA fun w58 l58 k58 => ?_)
                  refine xl_v v_assign ?_
                  refine xl_nil ?_
                  refine x_ret ?_
                  refine finR (rs := [.cell 6 47, .tmp 7]) rfl ?_
                  refine ⟨G, F, N2, R, by simp [outV], hNr.keep (kpc : Keep (OneB b3) _ w58) (fun j hj e => ?_), hRr.keep (kpc : Keep (OneB b3) _ w58) (fun j hj e => ?_), hpN, ?_, hFd, Sub.refl _ _, Sub.refl _ _, lkc⟩
                  · have e' : j = b3 := e
                    have := h.lt j hj
                    omega
                  · have e' : j = b3 := e
                    have := hR.lt j hj
                    omega
                  · rw [← hp, Net.step, if_neg c1, if_neg c3, if_neg (fun e => e.elim c5 c10)]
        ·
          have hRk : RefAt w43 F R := hR.ext (kpc : Keep NoB w w43)
          obtain ⟨N2, hNk, hpN⟩ : ∃ N2, NetAt w43 b mb G N2 ∧ N2.pure = N.pure.step a.what a.pick a.x.m := ⟨N, h.ext (kpc : Keep NoB w w43), by rw [Net.step, if_neg c1, if_neg c3, if_neg (fun e => e.elim c5 c7)]⟩
          haveI : NewA A9 w := ⟨fun c hc => Nat.le_trans hwp9 (hab9 c hc).1⟩
          have hA8 : ∀ c, A9 = some c → w.heap.size ≤ c.block ∧ c.block ≠ b1 ∧ c.block ≠ b2 ∧ c.block ≠ b3 ∧ c.block ≠ bt := fun c hc => by have := (hab9 c hc).1; have := hbt9 c hc; omega
          have hob0 := (OwnI.own : World.ownsRow w43 _ _ _ (.slice A9 _ c9) _ _)
          obtain ⟨A8, hAe⟩ : ∃ A8, A8 = A9 := ⟨_, rfl⟩
          obtain ⟨ca, hce⟩ : ∃ ca, ca = c9 := ⟨_, rfl⟩
          subst hAe
          subst hce
          refine x_skip ?_
          refine x_seq ?_
          refine x_seq ?_
          refine x_regionL ?_
          refine xl_v v_move ?_
          refine xl_v v_lss ?_
          refine xl_nil ?_
          first | refine x_condP (fun c8 => ?_) (fun c8 => ?_) | refine x_condN (fun c8 => ?_) (fun c8 => ?_) | refine x_condE (fun c8 => ?_) (fun c8 => ?_)
          ·
            have hRn : R.l = [] := by
              apply Decidable.byContradiction
              intro hne
              rw [if_neg hne] at c8
              have := (pickI_lt a.pick (List.length_pos_iff.2 hne)).1
              omega
            have hNn : N.pure.l = [] := by rw [hp]; simp [RefL.pure, hRn]
            obtain ⟨hd1, hd2, _⟩ := peek_none (N := N.pure) a.pick hNn
            refine x_seq ?_
            refine x_drawL (OneB b3) (.take 0 (.take 1 (.take 2 (.take 3 (.take 4 (.eff 5 (.take 6 (.take 7 (.take 8 (.take 9 (.take 10 (.eff 11 (.take 12 (.eff 13 (.take 14 .done))))))))))))))) mixed (by kernel_rfl) (fun _ _ _ _ _ h => h) (fun w59 l59 => ?_)
            refine xt_v rfl (by first | exact v_loadA | exact v_loadF (by decide) (by omega)) ?_
            refine xt_v rfl v_move ?_
            refine xt_v rfl (v_congr (u := .bool true) v_eql (by rw [hd1]; simp)) ?_
            refine xt_v rfl v_move ?_
            refine xt_gv rfl rfl EvO.eq v_move ?_
            refine xt_gcall rfl rfl EvO.eq (num_ok _ _) ?_
            rintro _ _ ⟨rfl, rfl⟩
            refine ⟨kpc, ?_⟩
            refine xt_gv rfl rfl EvO.eq (v_congr (u := .bool true) v_eql (by rw [hd1]; simp)) ?_
            refine xt_v rfl (by first | exact v_pickT | exact v_pickF | exact v_pick) ?_
            refine xt_v rfl v_move ?_
            refine xt_gv rfl rfl EvO.eq (by first | exact v_loadA | exact v_loadF (by decide) (by omega)) ?_
            refine xt_gv rfl rfl EvO.eq v_build ?_
            haveI : Row w59 (none : Option Addr) (bytesC []) := ⟨fun j v h => by simp [bytesC] at h⟩
            haveI : OldA w59 (none : Option Addr) := ⟨fun a h => by cases h⟩
            refine xt_gcall rfl rfl EvO.eq (samemsg2_ok ⟨(N.pure.peek a.pick).1, A8, ca⟩ ⟨zeroMsg, none, 0⟩ w59) ?_
            rintro _ w61 ⟨rfl, lk5⟩
            refine ⟨kpc, ?_⟩
            rw [decide_eq_true (show (N.pure.peek a.pick).1 = zeroMsg by rw [hd1])]
            refine xt_v rfl (by first | exact v_pickT | exact v_pickF | exact v_pick) ?_
            refine xt_s rfl (e_storeA fun w62 l62 k62 => ?_)
            refine xt_v rfl v_assign ?_
            refine xt_nil ?_
            refine x_ret ?_
            refine finR (rs := [.cell 6 47, .tmp 7]) rfl ?_
            refine ⟨G, F, N2, R, by simp [outV], hNk.keep (kpc : Keep (OneB b3) _ w62) (fun j hj e => ?_), hRk.keep (kpc : Keep (OneB b3) _ w62) (fun j hj e => ?_), hpN, ?_, hFd, Sub.refl _ _, Sub.refl _ _, lkc⟩
            · have e' : j = b3 := e
              have := h.lt j hj
              omega
            · have e' : j = b3 := e
              have := hR.lt j hj
              omega
            · rw [← hp, Net.step, if_neg c1, if_neg c3]
              split
              · exact hd2.symm
              · rfl
          ·
            have hRn : R.l ≠ [] := fun e => by rw [if_pos e] at c8; omega
            have hik : (if R.l = [] then (-1 : Int) else pickI a.pick R.l.length) = (((pickI a.pick R.l.length).toNat : Nat) : Int) := by
              rw [if_neg hRn]
              have := (pickI_lt a.pick (List.length_pos_iff.2 hRn)).1
              omega
            obtain ⟨i, hi⟩ : ∃ i, i = (pickI a.pick R.l.length).toNat := ⟨_, rfl⟩
            rw [← hi] at hik
            have hiR : i < R.l.length := by have := (pickI_lt a.pick (List.length_pos_iff.2 hRn)).2; have := (pickI_lt a.pick (List.length_pos_iff.2 hRn)).1; omega
            haveI : Row w43 R.A (R.l.flatMap itemC) := ⟨hRk.row.row⟩
            haveI : Row w43 R.l[i].2.A (bytesC R.l[i].2.m.bytes) := ⟨(hRk.items _ (List.getElem_mem hiR)).row⟩
            haveI := hRk.row.old hRk.lt
            have hRA : R.A.isSome = true := row_some (w := w43) (A := R.A) (cs := R.l.flatMap itemC) inferInstance (by rw [flat_len (sz := 4) (fun _ => rfl)]; omega)
            have hNne : N.pure.l ≠ [] := by rw [hp]; simpa [RefL.pure] using hRn
            have hat : N.pure.at_ a.pick = i := by rw [hp, Net.at_, ref_len, hi]
            have hpk2 : N.pure.peek a.pick = (R.l[i].2.m, R.l[i].1, 0) := by
              rw [Net.peek, hat, hp, show R.pure.l[i]? = some (R.l[i].1, R.l[i].2.m) by simp [RefL.pure, hiR]]
            have htk : N.pure.takeM a.pick = N.pure.without i := by rw [Net.takeM, if_neg hNne, hat]
            have hpb : (N.pure.peek a.pick).1.bytes.length ≤ 4096 := by
              rw [hpk2]
              exact (hok.good (R.l[i].1, R.l[i].2.m) (by rw [hp]; exact List.mem_map.2 ⟨R.l[i], List.getElem_mem hiR, rfl⟩)).2.2
            refine x_skip ?_
            refine x_seq ?_
            refine x_drawL (NoB) (.take 0 (.take 1 (.take 2 (.take 3 (.take 4 (.take 5 (.take 6 (.take 7 (.take 8 (.take 9 (.eff 10 (.take 11 (.take 12 (.take 13 (.take 14 (.take 15 (.take 16 (.take 17 (.take 18 (.take 19 (.take 20 (.eff 21 (.take 22 (.take 23 .done)))))))))))))))))))))))) mixed (by kernel_rfl) (fun _ _ _ _ _ h => h) (fun w63 l63 => ?_)
            refine xt_v rfl v_move ?_
            refine xt_v rfl (by first | exact v_fieldAddr | exact v_fieldAddrF (by decide) (by omega) | exact v_fieldAddrR (by first | assumption | rfl)) ?_
            refine xt_v rfl (by first | exact v_load | exact v_loadO (by omega) | exact v_loadFf (by omega) | exact v_loadF0 (by omega)) ?_
            refine xt_v rfl v_move ?_
            refine xt_v rfl (v_indexF i (by decide) hik (by omega) hiR) ?_
            refine xt_v rfl (by first | exact v_fieldAddr | exact v_fieldAddrF (by decide) (by omega) | exact v_fieldAddrR (by first | assumption | rfl)) ?_
            refine xt_v rfl (v_loadF0 hiR) ?_
            refine xt_v rfl (v_congr (u := .bool true) v_eql (by rw [hpk2]; simp)) ?_
            refine xt_v rfl v_move ?_
            refine xt_gv rfl rfl EvO.eq v_move ?_
            refine xt_gcall rfl rfl EvO.eq (num_ok _ _) ?_
            rintro _ _ ⟨rfl, rfl⟩
            refine ⟨kpc, ?_⟩
            refine xt_gv rfl rfl EvO.eq (v_congr (u := .bool true) v_eql (by rw [hpk2]; simp)) ?_
            refine xt_v rfl (by first | exact v_pickT | exact v_pickF | exact v_pick) ?_
            refine xt_v rfl v_move ?_
            refine xt_gv rfl rfl EvO.eq (by first | exact v_loadA | exact v_loadF (by decide) (by omega)) ?_
            refine xt_gv rfl rfl EvO.eq (by first | exact v_fieldAddr | exact v_fieldAddrF (by decide) (by omega) | exact v_fieldAddrR (by first | assumption | rfl)) ?_
            refine xt_gv rfl rfl EvO.eq (by first | exact v_load | exact v_loadO (by omega) | exact v_loadFf (by omega) | exact v_loadF0 (by omega)) ?_
            refine xt_gv rfl rfl EvO.eq v_move ?_
            refine xt_gv rfl rfl EvO.eq (v_indexF i (by decide) hik (by omega) hiR) ?_
            refine xt_gv rfl rfl EvO.eq (by first | exact v_fieldAddr | exact v_fieldAddrF (by decide) (by omega) | exact v_fieldAddrR (by first | assumption | rfl)) ?_
            refine xt_gv rfl rfl EvO.eq (v_loadRA (vs := msgC R.l[i].2) rfl hRA (fun ii u hii => by rw [Nat.add_assoc, Nat.add_comm 1 ii]; exact flat_get (enc := itemC) (fun _ => rfl) R.l i hiR (ii + 1) u hii)) ?_
            refine xt_gcall rfl rfl EvO.eq (samemsg2_ok ⟨(N.pure.peek a.pick).1, A8, ca⟩ R.l[i].2 w63) ?_
            rintro _ w65 ⟨rfl, lk5⟩
            refine ⟨kpc, ?_⟩
            rw [decide_eq_true (show (N.pure.peek a.pick).1 = R.l[i].2.m by rw [hpk2])]
            refine xt_v rfl (by first | exact v_pickT | exact v_pickF | exact v_pick) ?_
            refine xt_v rfl v_assign ?_
            refine xt_nil ?_
            refine x_seq ?_
            refine x_seq ?_
            refine x_regionL ?_
            refine xl_v v_assign ?_
            refine xl_nil ?_
            refine x_block ?_
            have hob := own_ext hob0 (lkc : Lk w65 _ NoB)
            have hRL := hRk.ext (kpc : Keep NoB _ w65)
            have hNL := hNk.ext (kpc : Keep NoB _ w65)
            have hb1L := (Blk.eq : (w65).heap[b1]? = _)
            have hb2L := (Blk.eq : (w65).heap[b2]? = _)
            have hb3L := (Blk.eq : (w65).heap[b3]? = _)
            have hbtL := (Blk.eq : (w65).heap[bt]? = _)
            have hwL : w.heap.size ≤ (w65).heap.size := Ge.le
            have hAj : ∀ j, OwnB (.slice A8 (N.pure.peek a.pick).1.bytes.length ca) j → w.heap.size ≤ j ∧ j ≠ b1 ∧ j ≠ b2 ∧ j ≠ b3 ∧ j ≠ bt := by
              intro j e
              cases A8 with
              | none => cases e
              | some c => have e' : some j = some c.block := e
                          injection e' with e'
                          rw [e']
                          exact hA8 c rfl
            refine x_loop (fun m τ ds w' => ds = [] ∧ ∃ (k : Nat) (ys : List UInt8) (base : Nat), m = (N.pure.peek a.pick).1.bytes.length - k ∧ k ≤ (N.pure.peek a.pick).1.bytes.length ∧ ys.length = (N.pure.peek a.pick).1.bytes.length ∧ w'.ownsRow base 5 1 (.slice A8 (N.pure.peek a.pick).1.bytes.length ca) (N.pure.peek a.pick).1.bytes.length (bytesC ys) ∧ Keep (OwnB (.slice A8 (N.pure.peek a.pick).1.bytes.length ca)) w65 w' ∧ Ev τ 4 (.pointer (some ⟨b1, 0, none⟩)) ∧ Ev τ 5 (.pointer (some ⟨b2, 0, none⟩)) ∧ Ev τ 6 (.pointer (some ⟨b3, 0, none⟩)) ∧ Ev τ 8 (.int .i64 (if R.l = [] then (-1 : Int) else pickI a.pick R.l.length)) ∧ Ev τ 24 (.pointer (some ⟨bt, 0, none⟩)) ∧ Ev τ 27 (.bool true) ∧ Ev τ 28 (.int .i64 (k : Int))) ((N.pure.peek a.pick).1.bytes.length) ?start ?round
            case start =>
              exact ⟨rfl, 0, (N.pure.peek a.pick).1.bytes, _, rfl, by omega, rfl, hob, Keep.refl _ _, inferInstance, inferInstance, inferInstance, inferInstance, inferInstance, inferInstance, evc⟩
            case round =>
              intro m τ66 ds66 w66 hI
              obtain ⟨rfl, k, ys, base, rfl, hk, hyl, hoy, hkv, f4, f5, f6, f8, f24, f27, f28⟩ := hI
              haveI lkv : Lk w66 _ (OwnB (.slice A8 (N.pure.peek a.pick).1.bytes.length ca)) := ⟨hkv⟩
              haveI : OwnI w66 A8 _ _ _ _ _ _ _ := ⟨hoy⟩
              haveI : Blk w66 b1 _ := ⟨(hkv.block b1 (Array.getElem?_eq_some_iff.1 hb1L).1 (fun e => (hAj _ e).2.1 rfl)).trans hb1L⟩
              haveI : Blk w66 b2 _ := ⟨(hkv.block b2 (Array.getElem?_eq_some_iff.1 hb2L).1 (fun e => (hAj _ e).2.2.1 rfl)).trans hb2L⟩
              haveI : Blk w66 b3 _ := ⟨(hkv.block b3 (Array.getElem?_eq_some_iff.1 hb3L).1 (fun e => (hAj _ e).2.2.2.1 rfl)).trans hb3L⟩
              haveI : Blk w66 bt _ := ⟨(hkv.block bt (Array.getElem?_eq_some_iff.1 hbtL).1 (fun e => (hAj _ e).2.2.2.2 rfl)).trans hbtL⟩
              have hRr := hRL.keep hkv (fun j hj e => by have := hR.lt j hj; have := (hAj j e).1; omega)
              have hNr := hNL.keep hkv (fun j hj e => by have := h.lt j hj; have := (hAj j e).1; omega)
              refine x_seq ?_
              refine x_seq ?_
              refine x_regionL ?_
              refine xl_v v_move ?_
              refine xl_v (by first | exact v_fieldAddr | exact v_fieldAddrF (by decide) (by omega) | exact v_fieldAddrR (by first | assumption | rfl)) ?_
              refine xl_v (by first | exact v_load | exact v_loadO (by omega) | exact v_loadFf (by omega) | exact v_loadF0 (by omega)) ?_
              refine xl_v v_len ?_
              refine xl_v v_lss ?_
              refine xl_nil ?_
              first | refine x_condP (fun c9 => ?_) (fun c9 => ?_) | refine x_condN (fun c9 => ?_) (fun c9 => ?_) | refine x_condE (fun c9 => ?_) (fun c9 => ?_)
              ·
                have hk1 : k < ys.length := by
                  have c9' : (k : Int) < ((N.pure.peek a.pick).1.bytes.length : Int) := c9
                  omega
                obtain ⟨z, hz⟩ := byte_wrap ((ys[k].toNat : Int) + 1) (by omega)
                refine x_skip ?_
                refine x_seq ?_
                refine x_block ?_
                refine x_drawL (NoB) (.take 0 (.take 1 (.take 2 (.take 3 (.take 4 (.take 5 (.take 6 (.take 7 (.take 8 (.take 9 (.last 10))))))))))) mixed (by kernel_rfl) (fun _ _ _ _ _ h => h) (fun w67 l67 => ?_)
                refine xt_v rfl (by first | exact v_fieldAddr | exact v_fieldAddrF (by decide) (by omega) | exact v_fieldAddrR (by first | assumption | rfl)) ?_
                refine xt_v rfl (by first | exact v_load | exact v_loadO (by omega) | exact v_loadFf (by omega) | exact v_loadF0 (by omega)) ?_
                refine xt_v rfl v_move ?_
                refine xt_v rfl (by first | exact v_fieldAddr | exact v_fieldAddrF (by decide) (by omega) | exact v_fieldAddrR (by first | assumption | rfl)) ?_
                refine xt_v rfl (by first | exact v_load | exact v_loadO (by omega) | exact v_loadFf (by omega) | exact v_loadF0 (by omega)) ?_
                refine xt_v rfl v_move ?_
                refine xt_v rfl (v_indexO k rfl (by omega) hk1) ?_
                refine xt_v rfl (v_loadO (k := k) hk1) ?_
                refine xt_v rfl v_addw ?_
                refine xt_v rfl (v_indexO k rfl (by omega) hk1) ?_
                have hkv' := hkv.then (lkc : Lk w67 _ NoB).keep (fun _ _ e => e.elim)
                refine xt_lastS rfl (e_storeOwn (own_ext hoy lkc) (by omega) (by decide) fun w68 lz hoz => ?_)
                rw [hz, setL_bytes ys k z hk1] at hoz
                refine x_regionL ?_
                refine xl_v v_move ?_
                refine xl_v (v_add (by omega)) ?_
                refine xl_v v_assign ?_
                refine xl_nil ?_
                refine ⟨_, ?_, rfl, k + 1, ys.set k z, base, rfl, by omega, by simpa using hyl, hoz, hkv'.then lz.keep (fun j _ e => e), inferInstance, inferInstance, inferInstance, inferInstance, inferInstance, inferInstance, evc⟩
                omega
              ·
                refine x_exit ?_
                refine x_seq ?_
                refine x_seq ?_
                refine x_regionL ?_
                refine xl_v (by first | exact v_fieldAddr | exact v_fieldAddrF (by decide) (by omega) | exact v_fieldAddrR (by first | assumption | rfl)) ?_
                refine xl_v (by first | exact v_load | exact v_loadO (by omega) | exact v_loadFf (by omega) | exact v_loadF0 (by omega)) ?_
                refine xl_v v_eql ?_
                refine xl_nil ?_
                first | refine x_condP (fun c10 => ?_) (fun c10 => ?_) | refine x_condN (fun c10 => ?_) (fun c10 => ?_) | refine x_condE (fun c10 => ?_) (fun c10 => ?_)
                ·
                  refine x_seq ?_
                  refine x_regionL ?_
                  refine xl_v (by first | exact v_loadA | exact v_loadF (by decide) (by omega)) ?_
                  refine xl_v v_move ?_
                  refine xl_call (refwithout2_ok R F i _ hik w66 (hRr.ext (kpc : Keep NoB _ w66)) (by omega)) ?_
                  rintro _ w69 ⟨⟨R2, F2, rfl, hR2p, hR2, hF2⟩, lk4⟩
                  have hwp2 : w.heap.size ≤ (w66).heap.size := Ge.le
                  have hb3p2 : b3 < (w66).heap.size := Has.lt
                  have hNp2 : ∀ j, NetF b mb G j → j < w.heap.size := h.lt
                  refine xl_v v_move ?_
                  refine xl_s (e_storeA fun w70 l70 k70 => ?_)
                  refine xl_v v_assign ?_
                  refine xl_nil ?_
                  refine x_ret ?_
                  refine finR (rs := [.cell 6 47, .tmp 7]) rfl ?_
                  refine ⟨G, F2, N2, R2, by simp [outV], hNr.keep (kpc : Keep (OneB b3) _ w70) (fun j hj e => ?_), hR2.keep (kpc : Keep (OneB b3) _ w70) (fun j hj e => ?_), hpN, ?_, ?_, Sub.refl _ _, fun k hk => (hF2 k hk).imp id (fun e => Nat.le_trans hwp2 e), lkc⟩
                  · have e' : j = b3 := e
                    have := h.lt j hj
                    omega
                  · have e' : j = b3 := e
                    rcases hF2 j hj with h5 | h5
                    · have := hR.lt j h5; omega
                    · omega
                  · rw [hR2p, Net.step, if_neg c1, if_neg c3, if_pos (.inr c10), htk, hp]
                  · intro j hj e
                    rcases hF2 j hj with h4 | h4
                    · exact hFd j h4 e
                    · have := hNp2 j e; omega
                ·
                  refine x_skip ?_
                  refine x_seq ?_
                  refine x_regionL ?_
                  refine xl_v (by first | exact v_loadA | exact v_loadF (by decide) (by omega)) ?_
                  refine xl_v v_move ?_
                  refine xl_s (e_storeA fun w71 l71 k71 => ?_)
                  refine xl_v v_assign ?_
                  refine xl_nil ?_
                  refine x_ret ?_
                  refine finR (rs := [.cell 6 47, .tmp 7]) rfl ?_
                  refine ⟨G, F, N2, R, by simp [outV], hNr.keep (kpc : Keep (OneB b3) _ w71) (fun j hj e => ?_), hRr.keep (kpc : Keep (OneB b3) _ w71) (fun j hj e => ?_), hpN, ?_, hFd, Sub.refl _ _, Sub.refl _ _, lkc⟩
                  · have e' : j = b3 := e
                    have := h.lt j hj
                    omega
                  · have e' : j = b3 := e
                    have := hR.lt j hj
                    omega
                  · rw [← hp, Net.step, if_neg c1, if_neg c3, if_neg (fun e => e.elim c5 c10)]
end Go.Proofs.Ytacadajlpmhcfaa
