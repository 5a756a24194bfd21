/-
  Walks, printed by a program of this workplace (wip/tools/sx.py) off the functions' code and a text of contracts.
-/
import Derived.Test.YtacadajlpmhcfaaF
import Derived.Test.YtacadajlpmhcfaaXi
import Derived.Laws.Externs
import Derived.MapKept
set_option linter.all false
set_option maxRecDepth 100000
set_option synthInstance.maxSize 100000
set_option synthInstance.maxHeartbeats 400000
namespace Go.Proofs.Ytacadajlpmhcfaa
open Go.Wst
open Go.Wst.Nm
section
variable {P : Program} {r : Option Nat} {N : Nat} {S : Nat → Prop} {τ : Tau} {w : World} {ty : TypeId}
theorem v_makeInterfaceM {x : Operand} {t k e : TypeId} {v : Value} [hx : EvO N τ x v] [hu : Und P t (.map k e)] : Val P r N S (.makeInterface t x) ty τ w (.iface t v) := ⟨fun _ => nofun, fun W _ => by
  simp [execOp, hx.eq, Instr.makeInterface, run_underlying hu.eq, Sem.run, Result.andThen]⟩
theorem v_typeAssertM {x : Operand} {t xT k e : TypeId} {v : Value} [hx : EvO N τ x (.iface t v)] [hu : Und P t (.map k e)] : Val P r N S (.typeAssert x xT t false) ty τ w v := ⟨fun _ => nofun, fun W _ => by
  simp [execOp, hx.eq, Instr.typeAssert, run_underlying hu.eq, Sem.run, Result.andThen]⟩
end
section
variable {N : Nat} {τ : Tau} {w : World} {ty : TypeId}
theorem run_mapsClone {m : Nat} {es : Array MapEntry} {clock : Nat} (t : TypeId) (hb : w.heap[m]? = some (.map es clock)) :
    (Extern.MapsClone.clone #[.iface t (.map (some m))]).run Try.prog w = .ok (.iface t (.map (some w.heap.size))) (w.alloc (.map es clock)) := by
  have e : Extern.MapsClone.clone #[.iface t (.map (some m))] = (getObj m >>= fun o => match o with
      | .map entries clock => (newObj (.map entries clock) >>= fun n => pure (.iface t (.map (some n))))
      | _ => stuck "maps.clone: a map expected") := rfl
  rw [e]
  simp [MapKept.run_getObj_map hb, Result.andThen, go_sem]
theorem e_mapsClone {g x : Operand} {at_ : Array TypeId} {t : TypeId} {m : Nat} {κ : Type} [DecidableEq κ] {enc : κ → Value} {kvs : List (κ × Value)} {G : Value → World → Prop} [hx : EvO N τ x (.iface t (.map (some m)))] [hg : EvO N τ g (.func (.func 47) ([] : List Value).toArray ([] : List Value).toArray)] [hm : MapI w m κ enc kvs]
    (h : ∀ b w', New b w → Lk w' w NoB → MapI w' b κ enc kvs → G (.iface t (.map (some b))) w') : EffV Try.prog N NoB (.call { callee := .value g, args := #[x], argTypes := at_ }) ty τ w G := by
  obtain ⟨es, clock, h1, h2⟩ := hm.m
  refine ⟨fun _ => nofun, _, w.alloc (.map es clock), ?_, Keep.alloc _ _, h w.heap.size _ ⟨rfl⟩ ⟨Keep.alloc _ _⟩ ⟨⟨es, clock, heap_alloc_new w _, h2⟩⟩⟩
  have e0 : (callFunc 47 #[.iface t (.map (some m))]).run Try.prog w = .ok (.value (.iface t (.map (some w.heap.size)))) (w.alloc (.map es clock)) := by
    rw [run_callFunc_extern Try.func47 (by kernel_rfl) (by kernel_rfl) (by kernel_rfl) (e := Extern.MapsClone.clone) (by kernel_rfl), run_mapsClone t h1]
    rfl
  simp [execOp, resolve, invoke, hg.eq, hx.eq, Deferred.ofValue, e0]
end
/-- maps.Clone[map[int]waystation/api.Parcel,int,waystation/api.Parcel] -/
theorem mclone_ok (m : Nat) (kvs : List (Int × Value)) (w : World) [hm : MapI w m Int (Value.int .i64) kvs] : Ret Try.prog 39 #[.map (some m)] w (fun v w' => ∃ b, v = .map (some b) ∧ MapB w' b (Value.int .i64) kvs ∧ w.heap.size ≤ b ∧ Lk w' w NoB) := by
  refine ret_of_x (N := 9) (l := [.map (some m)]) Try.func39 rfl rfl (Nat.le_of_ble_eq_true rfl) ?_
  refine x_seq ?_
  refine x_regionL ?_
  refine xl_v v_assign ?_
  refine xl_nil ?_
  refine x_seq ?_
  refine x_seq ?_
  refine x_regionL ?_
  refine xl_v v_move ?_
  refine xl_v (v_eql_mapS) ?_
  refine xl_nil ?_
  refine x_condF ?_
  refine x_skip ?_
  refine x_seq ?_
  refine x_regionL ?_
  refine xl_v v_move ?_
  refine xl_v (v_makeInterfaceM) ?_
  refine xl_e (e_mapsClone fun b w1 n1 l1 m1 => ?_)
  refine xl_v (v_typeAssertM) ?_
  refine xl_v v_assign ?_
  refine xl_nil ?_
  refine x_ret ?_
  refine fin1 rfl ?_
  exact ⟨b, rfl, m1.m, Nat.le_of_eq n1.eq.symm, lkc⟩
/-- (*waystation/net.Net).All -/
theorem all_ok (b mb : Nat) (G : Nat → Prop) (N : NetL) (w : World) (h : NetAt w b mb G N) : Ret Try.prog 27 #[.pointer (some ⟨b, 0, none⟩)] w (fun v w' => (∃ cb mc, v = .func (.func 40) ([] : List Value).toArray [Value.pointer (some ⟨cb, 0, none⟩)].toArray ∧ w'.heap[cb]? = some (.cells #[.map (some mc)] 70 (0, 0)) ∧ MapB w' mc (Value.int .i64) (netV N.l) ∧ w.heap.size ≤ cb ∧ w.heap.size ≤ mc) ∧ Lk w' w NoB) := by
  haveI hb : Blk w b _ := ⟨h.hb⟩
  haveI hm : MapI w mb _ _ _ := ⟨h.hm⟩
  refine ret_of_x (N := 13) (l := [.pointer (some ⟨b, 0, none⟩)]) Try.func27 rfl rfl (Nat.le_of_ble_eq_true rfl) ?_
  refine x_seq ?_
  refine x_regionL ?_
  refine xl_v v_assign ?_
  refine xl_nil ?_
  refine x_seq ?_
  refine x_regionL ?_
  refine xl_e (e_alloc fun b1 w1 n1 l1 k1 => ?_)
  refine xl_nil ?_
  refine x_seq ?_
  refine x_seq ?_
  refine x_regionL ?_
  refine xl_v v_move ?_
  refine xl_call (none_ok _ _ _ _ _) ?_
  rintro _ _ ⟨rfl, rfl⟩
  refine xl_v v_not ?_
  refine xl_nil ?_
  refine x_condT ?_
  refine x_regionL ?_
  refine xl_v v_move ?_
  refine xl_v (by first | exact v_nilCheckP | exact v_nilCheckF) ?_
  refine xl_v (by first | exact v_fieldAddr | exact v_fieldAddrF (by decide) (by omega) | exact v_fieldAddrR (by first | assumption | rfl)) ?_
  refine xl_v (by first | exact v_load | exact v_loadO (by omega) | exact v_loadFf (by omega) | exact v_loadF0 (by omega)) ?_
  refine xl_call (mclone_ok mb (netV N.l) _) ?_
  rintro _ w3 ⟨mc, rfl, hmc, hge, lk⟩
  haveI : MapI w3 mc _ _ _ := ⟨hmc⟩
  have hb1p : b1 < (w1).heap.size := Has.lt
  haveI : NeB mc b1 := ⟨by omega⟩
  refine xl_s (e_store fun w4 l4 k4 => ?_)
  refine xl_nil ?_
  refine x_seq ?_
  refine x_regionL ?_
  refine xl_v v_makeFunc ?_
  refine xl_v v_assign ?_
  refine xl_nil ?_
  refine x_ret ?_
  refine fin1 rfl ?_
  exact ⟨⟨b1, mc, rfl, (Blk.eq : (w4).heap[b1]? = _), (MapI.m : MapB w4 mc _ _), by rw [n1.eq]; exact Ge.le, Nat.le_trans Ge.le hge⟩, lkc⟩
/-- A message that is told: what it holds lies in a block of its own. -/
def MsgE (l : List (Int × Msg)) : List Value → (Nat → Prop) → World → Prop := fun v Fv W => ∃ (k : Int) (x : LMsg), v = [.int .i64 k, .agg (msgC x).toArray] ∧ (k, x.m) ∈ l ∧ W.ownsRow 0 5 1 (.slice x.A x.m.bytes.length x.c) x.m.bytes.length (bytesC x.m.bytes) ∧ ∀ k, Fv k ↔ OwnB (.slice x.A x.m.bytes.length x.c) k
theorem msgE_elem {l : List (Int × Msg)} : Elem (MsgE l) := by
  refine ⟨?_, ?_⟩
  · rintro v Fv W ⟨k, x, _, _, ho, hF⟩ j hj
    exact (ownB_lt ho j ((hF j).1 hj)).2
  · rintro v Fv W W' S ⟨k, x, h0, h1, ho, hF⟩ hk hs
    exact ⟨k, x, h0, h1, own_keep ho hk (fun j hj => hs j ((hF j).2 hj.symm)), hF⟩
def tellM (p : Int × LMsg) : List Value := [.int .i64 p.1, .agg (msgC p.2).toArray]
def pureM (p : Int × LMsg) : Int × Msg := (p.1, p.2.m)
def AllAl (l : List (Int × Msg)) : Seen → Prop := fun pre => ∃ q : List (Int × LMsg), pre = q.map tellM ∧ q.map pureM <+: l
def AllFin (l : List (Int × Msg)) : Seen → Prop := fun pre => ∃ q : List (Int × LMsg), pre = q.map tellM ∧ q.map pureM = l
/-- (*waystation/net.Net).All$1 -/
theorem all1_ok (y : Value) (cb mc : Nat) (G : Nat → Prop) (l : List (Int × LMsg)) (I J : Seen → (Nat → Prop) → World → Prop) (F : Nat → Prop) (w : World) [hcb : Blk w cb (.cells #[.map (some mc)] 70 (0, 0))] (hm : MapB w mc (Value.int .i64) (netV l)) (hr : ∀ p ∈ l, FRow w G p.2.A (bytesC p.2.m.bytes)) (hrise : (l.map (·.1)).Pairwise (· < ·)) (hlen : l.length ≤ 4096) (hby : ∀ p ∈ l, p.2.m.bytes.length ≤ 4096) (hgl : ∀ k, G k → k < w.heap.size) (w0 : World) (hy : YieldsE Try.prog y (AllAl (l.map pureM)) (MsgE (l.map pureM)) I J w0 w.heap.size) (hw0 : w0.heap.size ≤ w.heap.size) (h0 : I [] F w) (hF : ∀ k, F k → ¬ (k = cb ∨ k = mc ∨ G k)) : Ret Try.prog 40 #[y, .pointer (some ⟨cb, 0, none⟩)] w (fun _ w' => ∃ pre F', ((AllFin (l.map pureM) pre ∧ I pre F' w') ∨ J pre F' w') ∧ Keep F w w' ∧ Sub F' F w) := by
  have hmlt := hm.lt
  have hFlt := hy.i.lt _ _ _ h0
  have hnodup : (l.map (·.1)).Nodup := rise_nodup hrise
  have hcblt : cb < w.heap.size := Has.lt
  refine ret_of_x (N := 22) (l := [y, .pointer (some ⟨cb, 0, none⟩)]) Try.func40 rfl rfl (Nat.le_of_ble_eq_true rfl) ?_
  refine x_seq ?_
  refine x_regionL ?_
  refine xl_v (by first | exact v_load | exact v_loadO (by omega) | exact v_loadFf (by omega) | exact v_loadF0 (by omega)) ?_
  refine xl_call (mkeys_ok (some mc) _) ?_
  rintro _ w1 ⟨bk, rfl, kbk, hbk, lkk⟩
  have hmb : MapB w1 mc (Value.int .i64) (netV l) := hm.keep (kpc : Keep NoB w w1) (fun h => h)
  have hmlt2 : mc < w1.heap.size := hmb.lt
  have hblt : bk < w1.heap.size := Has.lt
  refine xl_call (sorted_ok _ [_] (fun k => k = bk ∨ k = mc) (KeysAl ((netV l).map (·.1))) (KeysFin ((netV l).map (·.1))) _ (fun W l2 => mkeysIter bk mc (netV l) W (hmb.keep l2.keep (fun h => h))) (by rintro k (rfl | rfl); exact hblt; exact hmlt2) (by rintro pre ⟨l2, rest, h1, h2⟩; exact ⟨l2, h1, by have := h2.length_eq; simp [netV] at this; omega⟩) (by rintro pre ⟨l2, h1, h2⟩; exact ⟨l2, [], h1, by simpa using h2⟩)) ?_
  rintro _ w2 ⟨ks, A, c, hfin, rfl, ho, lk⟩
  have hperm : ks.mergeSort (fun x y => decide (x ≤ y)) = l.map (·.1) := by
    obtain ⟨l2, hl1, hl2⟩ := hfin
    have hkl : ks = l2 := (List.map_inj_right (fun x y h => by simpa using h)).1 hl1
    subst hkl
    rw [netV_keys] at hl2
    rw [sorted_perm hl2]
    exact rise_sorted hrise
  rw [hperm] at ho
  have hidl : ks.length = l.length := by have := congrArg List.length hperm; simpa using this
  rw [hidl] at ho
  rw [hidl]
  have hAnew := newA_of ho (Nat.le_refl _)
  refine xl_v v_len ?_
  refine xl_v v_move ?_
  refine xl_nil ?_
  refine x_block ?_
  refine x_loop (fun m τ ds w' => ds = [] ∧ ∃ (k : Nat) (q : List (Int × LMsg)) (Fc : Nat → Prop), m = l.length - k ∧ k ≤ l.length ∧ q.map pureM = (l.take k).map pureM ∧ I (q.map tellM) Fc w' ∧ Keep F w w' ∧ Sub Fc F w ∧ (∀ j, Fc j → ¬ OwnB (.slice A l.length c) j) ∧ w'.ownsRow w.heap.size 3 1 (.slice A l.length c) l.length (ints (l.map (·.1))) ∧ Ev τ 0 y ∧ Ev τ 1 (.pointer (some ⟨cb, 0, none⟩)) ∧ Ev τ 7 (.slice A l.length c) ∧ Ev τ 8 (.int .i64 (l.length : Int)) ∧ Ev τ 9 (.int .i64 (k : Int))) (l.length) ?start ?round
  case start =>
    refine ⟨rfl, 0, [], F, rfl, Nat.zero_le _, rfl, hy.i.keep _ _ _ _ _ h0 (kpc : Keep NoB w w2) (fun _ _ h => h) (fun _ h => h.elim), (kpc : Keep NoB w w2).mono (fun _ _ h => h.elim), Sub.refl _ _, ?_, own_mono ho Ge.le, inferInstance, inferInstance, inferInstance, evc, evc⟩
    intro j hj e
    have h1 := hFlt j hj
    have h2 := (ownB_lt ho j e).1
    have h3 : w.heap.size ≤ _ := (Ge.le : w.heap.size ≤ (w1).heap.size)
    omega
  case round =>
    intro m τ3 ds3 w3 hI
    obtain ⟨rfl, k, q, Fc, rfl, hk, hq, hI, hkF, hsF, hnA, hown, e0, e1, e7, e8, e9⟩ := hI
    haveI : OwnI w3 A _ _ _ _ _ _ _ := ⟨hown⟩
    haveI : Blk w3 cb _ := ⟨(hkF.block cb hcblt (fun e => hF _ e (.inl rfl))).trans hcb.eq⟩
    haveI hmi : MapI w3 mc _ _ _ := ⟨hm.keep hkF (fun e => hF _ e (.inr (.inl rfl)))⟩
    have hFclt := hy.i.lt _ _ _ hI
    have hBw : w.heap.size ≤ (w3).heap.size := hkF.size
    refine x_seq ?_
    refine x_regionL ?_
    refine xl_v v_lss ?_
    refine xl_nil ?_
    refine x_seq ?_
    first | refine x_condP (fun c1 => ?_) (fun c1 => ?_) | refine x_condN (fun c1 => ?_) (fun c1 => ?_) | refine x_condE (fun c1 => ?_) (fun c1 => ?_)
    ·
      have hk1 : k < l.length := by omega
      have hfrow := (hr l[k] (List.getElem_mem hk1)).keep hkF (fun j hj e => hF _ e (.inr (.inr hj)))
      haveI : Row w3 l[k].2.A (bytesC l[k].2.m.bytes) := ⟨hfrow.row⟩
      refine x_skip ?_
      refine x_seq ?_
      refine x_block ?_
      refine x_seq ?_
      refine x_regionL ?_
      refine xl_v (v_indexO k rfl (by omega) (by simpa using hk1)) ?_
      refine xl_v (v_congr (u := .int .i64 l[k].1) (v_loadO (k := k) (by simpa using hk1)) (by simp)) ?_
      refine xl_v v_assign ?_
      refine xl_nil ?_
      refine x_seq ?_
      refine x_regionL ?_
      refine xl_v v_move ?_
      refine xl_v v_move ?_
      refine xl_v (by first | exact v_load | exact v_loadO (by omega) | exact v_loadFf (by omega) | exact v_loadF0 (by omega)) ?_
      refine xl_v v_move ?_
      refine xl_v (v_lookup1v l[k].1 (.agg (msgC l[k].2).toArray) rfl (by rw [(netV_get _ _).1, at_get hnodup hk1])) ?_
      refine xl_call (copied_ok l[k].2 w3 (by have := hby _ (List.getElem_mem hk1); omega)) ?_
      rintro _ w4 ⟨⟨A2, c2', rfl, ho2⟩, lk2⟩
      have hqk : (q ++ [(l[k].1, (⟨l[k].2.m, A2, c2'⟩ : LMsg))]).map pureM = (l.take (k + 1)).map pureM := by
        rw [List.map_append, hq, take_snoc l k hk1, List.map_append]
        rfl
      have hal2 : AllAl (l.map pureM) (q.map tellM ++ [[.int .i64 l[k].1, .agg (msgC ⟨l[k].2.m, A2, c2'⟩).toArray]]) := ⟨q ++ [(l[k].1, ⟨l[k].2.m, A2, c2'⟩)], by simp [tellM], by
        rw [hqk, List.map_take]
        exact List.take_prefix _ _⟩
      have hI2 := hy.i.keep _ _ _ _ _ hI (kpc : Keep NoB w3 w4) (fun _ _ h => h) (fun _ h => h.elim)
      have hlt2 := ownB_lt ho2
      have hBsz : (w3).heap.size ≤ _ := (Ge.le : (w3).heap.size ≤ (w4).heap.size)
      refine xl_callv (hy.step (q.map tellM) _ Fc (OwnB (.slice A2 l[k].2.m.bytes.length c2')) w4 hal2 hI2 ⟨l[k].1, ⟨l[k].2.m, A2, c2'⟩, rfl, List.mem_map.2 ⟨l[k], List.getElem_mem hk1, rfl⟩, own_mono ho2 (Nat.zero_le _), fun _ => Iff.rfl⟩ (fun j hj e => by have h1 := (hlt2 j hj).1; have h2 := hFclt j e; omega) (fun j hj => by have h1 := (hlt2 j hj).1; omega)) ?_
      rintro _ w5 ⟨bb, F2, rfl, hI3, hk3, hs3⟩
      have hkB : Keep Fc w3 w5 := ((kpc : Keep NoB w3 w4).mono (fun _ _ h => h.elim)).then hk3 (fun j hj e => e.elim id (fun e => by have := (hlt2 j e).1; omega))
      have hown2 := own_keep hown hkB (fun j hj e => hnA j e hj.symm)
      have hkw : Keep F w w5 := hkF.then hkB (fun j hj e => (hsF j e).elim id (fun h => by omega))
      have hsw : Sub F2 F w := by
        intro j hj
        rcases hs3 j hj with (e | e) | e
        · exact hsF j e
        · have := (hlt2 j e).1; exact .inr (by omega)
        · have := (Ge.le : (w3).heap.size ≤ (w4).heap.size); exact .inr (by omega)
      refine xl_v v_not ?_
      refine xl_nil ?_
      refine x_condE (fun c2 => ?_) (fun c2 => ?_)
      ·
        refine x_ret ?_
        refine fin0r rfl ?_
        rw [if_neg (by simpa using c2)] at hI3
        exact ⟨_, F2, .inr hI3, hkw, hsw⟩
      ·
        refine x_skip ?_
        refine x_regionL ?_
        refine xl_v (v_add (by omega)) ?_
        refine xl_v v_move ?_
        refine xl_nil ?_
        rw [if_pos (by simpa using c2)] at hI3
        refine ⟨_, ?_, rfl, k + 1, q ++ [(l[k].1, ⟨l[k].2.m, A2, c2'⟩)], F2, rfl, by omega, hqk, ?_, hkw, hsw, ?_, hown2, inferInstance, inferInstance, inferInstance, inferInstance, evc⟩
        · omega
        · simpa [tellM] using hI3
        · intro j hj e
          have hAl := (ownB_lt hown j e)
          rcases hs3 j hj with (e2 | e2) | e2
          · exact hnA j e2 e
          · have := (hlt2 j e2).1; omega
          · omega
    ·
      refine x_exit ?_
      refine fin0 rfl ?_
      exact ⟨_, Fc, .inl ⟨⟨q, rfl, by rw [hq, List.take_of_length_le (by omega)]⟩, hI⟩, hkF, hsF⟩
theorem allIter (cb mc : Nat) (G : Nat → Prop) (l : List (Int × LMsg)) (w : World) [hcb : Blk w cb (.cells #[.map (some mc)] 70 (0, 0))] (hm : MapB w mc (Value.int .i64) (netV l)) (hr : ∀ p ∈ l, FRow w G p.2.A (bytesC p.2.m.bytes)) (hrise : (l.map (·.1)).Pairwise (· < ·)) (hlen : l.length ≤ 4096) (hby : ∀ p ∈ l, p.2.m.bytes.length ≤ 4096) (hgl : ∀ k, G k → k < w.heap.size) :
    IterE Try.prog (.func (.func 40) ([] : List Value).toArray [Value.pointer (some ⟨cb, 0, none⟩)].toArray) (fun k => k = cb ∨ k = mc ∨ G k) (AllAl (l.map pureM)) (AllFin (l.map pureM)) (MsgE (l.map pureM)) w :=
  fun y I J F w0 hy hw0 h0 hF => CallV.of_ret (all1_ok y cb mc G l I J F w hm hr hrise hlen hby hgl w0 hy hw0 h0 hF)
theorem tell_last {l : List (Int × Msg)} {pre : Seen} {v : List Value} (h : AllAl l (pre ++ [v])) : ∃ (k : Int) (x : LMsg), v = [.int .i64 k, .agg (msgC x).toArray] := by
  obtain ⟨q, h1, _⟩ := h
  obtain ⟨a, b, _, _, h2⟩ := List.map_eq_append_iff.1 h1.symm
  obtain ⟨p, c, _, h3, _⟩ := List.map_eq_cons_iff.1 h2
  exact ⟨p.1, p.2, h3.symm⟩
theorem tell_len {l : List (Int × Msg)} {pre : Seen} {v : List Value} (h : AllAl l (pre ++ [v])) : v.length = 2 := by
  obtain ⟨k, x, rfl⟩ := tell_last h
  rfl
theorem next_tell {l : List (Int × Msg)} (hnd : (l.map (·.1)).Nodup) {q : List (Int × LMsg)} {v : List Value} {Fv : Nat → Prop} {W : World} (hal : AllAl l (q.map tellM ++ [v])) (hE : MsgE l v Fv W) :
    ∃ (hq : q.length < l.length) (x : LMsg), v = tellM (l[q.length].1, x) ∧ x.m = l[q.length].2 ∧ W.ownsRow 0 5 1 (.slice x.A x.m.bytes.length x.c) x.m.bytes.length (bytesC x.m.bytes) ∧ ∀ k, Fv k ↔ OwnB (.slice x.A x.m.bytes.length x.c) k := by
  obtain ⟨q2, h1, h2⟩ := hal
  obtain ⟨k, x, rfl, hmem, ho, hF⟩ := hE
  obtain ⟨a, b, rfl, h3, h4⟩ := List.map_eq_append_iff.1 h1.symm
  obtain ⟨p, c, rfl, h5, h6⟩ := List.map_eq_cons_iff.1 h4
  have hc : c = [] := by simpa using h6
  subst hc
  have hlen : a.length = q.length := by simpa using congrArg List.length h3
  have hle : q.length < l.length := by have := h2.length_le; simp at this; omega
  have hget : l[q.length]? = some (pureM p) := by
    obtain ⟨t, rfl⟩ := h2
    rw [← hlen]
    simp
  have hp : l[q.length] = pureM p := by
    rw [List.getElem?_eq_getElem hle] at hget
    exact Option.some.inj hget
  have hk : p.1 = k := by
    have : tellM p = [.int .i64 k, .agg (msgC x).toArray] := h5
    simp [tellM] at this
    exact this.1
  refine ⟨hle, x, ?_, ?_, ho, hF⟩
  · rw [hp]; show _ = tellM (p.1, x); rw [hk]; rfl
  · have h7 := akey_nodup' hnd hmem
    have h8 := akey_nodup' hnd (List.getElem_mem hle)
    rw [hp] at h8 ⊢
    have h9 : akey l k = some (pureM p).2 := by rw [← hk]; exact h8
    rw [h9] at h7
    exact (Option.some.inj h7).symm
theorem fin_tell {l : List (Int × Msg)} {q : List (Int × LMsg)} (h : AllFin l (q.map tellM)) : q.length = l.length := by
  obtain ⟨q2, h1, rfl⟩ := h
  have := congrArg List.length h1
  simpa using this

end Go.Proofs.Ytacadajlpmhcfaa
