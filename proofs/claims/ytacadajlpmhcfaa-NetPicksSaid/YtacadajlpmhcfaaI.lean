/-
  Walks, printed by a program of this workplace (wip/tools/sx.py) off the functions' code and a text of contracts.
-/
import Derived.Test.YtacadajlpmhcfaaH
set_option linter.all false
set_option maxRecDepth 100000
set_option synthInstance.maxSize 100000
set_option synthInstance.maxHeartbeats 400000
namespace Go.Proofs.Ytacadajlpmhcfaa
open Go.Wst
open Go.Wst.Nm
def sameP (lb : List (Int × LMsg)) (p : Int × LMsg) : Bool := match akey lb p.1 with
  | some q => decide (p.2.m = q.m)
  | none => false
def sameL (la lb : List (Int × LMsg)) : Bool := decide (la.length = lb.length) && la.all (sameP lb)
theorem msg_dec (x y : Msg) : decide (x = y) = (decide (x.src = y.src) && (decide (x.dst = y.dst) && decide (x.bytes = y.bytes))) := by
  rw [← Bool.decide_and, ← Bool.decide_and]
  apply decide_eq_decide.2
  cases x; cases y
  simp
/-- slices.Equal[[]byte,byte] -/
theorem eqb_ok (A : Option Addr) (n c : Nat) (xs : List UInt8) (B : Option Addr) (n' c' : Nat) (ys : List UInt8) (w : World) [Row w A (bytesC xs)] [Row w B (bytesC ys)] (hl : xs.length = n) (hl' : ys.length = n') (hn : n ≤ 1000000000) : Ret Try.prog 44 #[.slice A n c, .slice B n' c'] w (fun v w' => v = .bool (decide (xs = ys)) ∧ Lk w' w NoB) := by
  refine ret_of_x (N := 26) (l := [.slice A n c, .slice B n' c']) Try.func44 rfl rfl (Nat.le_of_ble_eq_true rfl) ?_
  refine x_seq ?_
  refine x_regionL ?_
  refine xl_v v_assign ?_
  refine xl_nil ?_
  refine x_seq ?_
  refine x_seq ?_
  refine x_regionL ?_
  refine xl_v v_move ?_
  refine xl_v v_len ?_
  refine xl_v v_move ?_
  refine xl_v v_len ?_
  refine xl_v v_neq ?_
  refine xl_nil ?_
  first | refine x_condP (fun c1 => ?_) (fun c1 => ?_) | refine x_condN (fun c1 => ?_) (fun c1 => ?_) | refine x_condE (fun c1 => ?_) (fun c1 => ?_)
  ·
    refine x_seq ?_
    refine x_regionL ?_
    refine xl_v v_assign ?_
    refine xl_nil ?_
    refine x_ret ?_
    refine fin1 rfl ?_
    exact ⟨by rw [decide_eq_false]; intro e; subst e; omega, lkc⟩
  ·
    have hnn : n = n' := by omega
    refine x_skip ?_
    refine x_seq ?_
    refine x_seq ?_
    refine x_regionL ?_
    refine xl_v v_move ?_
    refine xl_v v_len ?_
    refine xl_v v_move ?_
    refine xl_nil ?_
    refine x_block ?_
    refine x_loop (fun m τ ds w' => ds = [] ∧ ∃ k : Nat, m = n - k ∧ k ≤ n ∧ xs.take k = ys.take k ∧ Ev τ 0 (.slice A n c) ∧ Ev τ 1 (.slice B n' c') ∧ Ev τ 12 (.int .i64 (n : Int)) ∧ Ev τ 13 (.int .i64 (k : Int)) ∧ Lk w' w NoB) (n) ?start ?round
    case start =>
      exact ⟨rfl, 0, rfl, Nat.zero_le _, by simp, inferInstance, inferInstance, inferInstance, evc, lkc⟩
    case round =>
      intro m τ1 ds1 w1 hI
      obtain ⟨rfl, k, rfl, hk, heq, e0, e1, e2, e3, lk⟩ := hI
      refine x_seq ?_
      refine x_regionL ?_
      refine xl_v v_lss ?_
      refine xl_nil ?_
      refine x_seq ?_
      first | refine x_condP (fun c2 => ?_) (fun c2 => ?_) | refine x_condN (fun c2 => ?_) (fun c2 => ?_) | refine x_condE (fun c2 => ?_) (fun c2 => ?_)
      ·
        have hk1 : k < xs.length := by omega
        have hk2 : k < ys.length := by omega
        refine x_skip ?_
        refine x_seq ?_
        refine x_block ?_
        refine x_seq ?_
        refine x_regionL ?_
        refine xl_v v_move ?_
        refine xl_v v_assign ?_
        refine xl_nil ?_
        refine x_seq ?_
        refine x_drawL (NoB) (.take 0 (.take 1 (.take 2 (.take 3 (.take 4 (.take 5 (.take 6 (.take 7 (.take 8 .done))))))))) mixed (by kernel_rfl) (fun _ _ _ _ _ h => h) (fun w2 l2 => ?_)
        refine xt_v rfl v_move ?_
        refine xt_v rfl v_move ?_
        refine xt_v rfl (v_indexO k rfl (by omega) hk1) ?_
        refine xt_v rfl (v_loadO (k := k) hk1) ?_
        refine xt_v rfl v_move ?_
        refine xt_v rfl v_move ?_
        refine xt_v rfl (v_indexO k rfl (by omega) hk2) ?_
        refine xt_v rfl (v_loadO (k := k) hk2) ?_
        refine xt_v rfl v_neq ?_
        refine xt_nil ?_
        refine x_condE (fun c3 => ?_) (fun c3 => ?_)
        ·
          have hne : xs[k] ≠ ys[k] := fun e => by rw [e] at c3; simp at c3
          refine x_seq ?_
          refine x_regionL ?_
          refine xl_v v_assign ?_
          refine xl_nil ?_
          refine x_ret ?_
          refine fin1 rfl ?_
          refine ⟨?_, lkc⟩
          rw [decide_eq_false]
          intro e
          subst e
          exact hne rfl
        ·
          have heqk : xs[k] = ys[k] := by
            simp at c3
            exact UInt8.toNat_inj.1 (by omega)
          refine x_skip ?_
          refine x_regionL ?_
          refine xl_v (v_add (by omega)) ?_
          refine xl_v v_move ?_
          refine xl_nil ?_
          refine ⟨_, ?_, rfl, k + 1, rfl, by omega, ?_, inferInstance, inferInstance, inferInstance, evc, lkc⟩
          · omega
          · rw [take_snoc _ _ hk1, take_snoc _ _ hk2, heq, heqk]
      ·
        refine x_exit ?_
        refine x_seq ?_
        refine x_regionL ?_
        refine xl_v v_assign ?_
        refine xl_nil ?_
        refine x_ret ?_
        refine fin1 rfl ?_
        refine ⟨?_, lkc⟩
        rw [decide_eq_true]
        rw [List.take_of_length_le (by omega), List.take_of_length_le (by omega)] at heq
        exact heq
/-- waystation/net.Same$1 -/
theorem same1_ok (x y : LMsg) (w : World) [Row w x.A (bytesC x.m.bytes)] [Row w y.A (bytesC y.m.bytes)] (hn : x.m.bytes.length ≤ 100000000) : Ret Try.prog 43 #[.agg (msgC x).toArray, .agg (msgC y).toArray] w (fun v w' => v = .bool (decide (x.m = y.m)) ∧ Lk w' w NoB) := by
  refine ret_of_x (N := 24) (l := [.agg (msgC x).toArray, .agg (msgC y).toArray]) Try.func43 rfl rfl (Nat.le_of_ble_eq_true rfl) ?_
  refine x_seq ?_
  refine x_regionL ?_
  refine xl_e (e_box fun b1 w1 n1 l1 k1 => ?_)
  refine xl_e (e_box fun b2 w2 n2 l2 k2 => ?_)
  refine xl_v v_assign ?_
  refine xl_nil ?_
  refine x_seq ?_
  refine x_regionL ?_
  refine xl_v (by first | exact v_fieldAddr | exact v_fieldAddrF (by decide) (by omega) | exact v_fieldAddrR (by first | assumption | rfl)) ?_
  refine xl_v (by first | exact v_load | exact v_loadO (by omega) | exact v_loadFf (by omega) | exact v_loadF0 (by omega)) ?_
  refine xl_v (by first | exact v_fieldAddr | exact v_fieldAddrF (by decide) (by omega) | exact v_fieldAddrR (by first | assumption | rfl)) ?_
  refine xl_v (by first | exact v_load | exact v_loadO (by omega) | exact v_loadFf (by omega) | exact v_loadF0 (by omega)) ?_
  refine xl_v v_eql ?_
  refine xl_v v_move ?_
  refine xl_split 10 (fun g10 => ?_) (fun g10 => ?_)
  ·
    refine xl_gv rfl EvO.eq (by first | exact v_fieldAddr | exact v_fieldAddrF (by decide) (by omega) | exact v_fieldAddrR (by first | assumption | rfl)) ?_
    refine xl_gv rfl EvO.eq (by first | exact v_load | exact v_loadO (by omega) | exact v_loadFf (by omega) | exact v_loadF0 (by omega)) ?_
    refine xl_gv rfl EvO.eq (by first | exact v_fieldAddr | exact v_fieldAddrF (by decide) (by omega) | exact v_fieldAddrR (by first | assumption | rfl)) ?_
    refine xl_gv rfl EvO.eq (by first | exact v_load | exact v_loadO (by omega) | exact v_loadFf (by omega) | exact v_loadF0 (by omega)) ?_
    refine xl_gv rfl EvO.eq v_eql ?_
    refine xl_v (by first | exact v_pickT | exact v_pickF | exact v_pick) ?_
    refine xl_v v_move ?_
    refine xl_split 17 (fun g17 => ?_) (fun g17 => ?_)
    ·
      refine xl_gv rfl EvO.eq (by first | exact v_fieldAddr | exact v_fieldAddrF (by decide) (by omega) | exact v_fieldAddrR (by first | assumption | rfl)) ?_
      refine xl_gv rfl EvO.eq (by first | exact v_load | exact v_loadO (by omega) | exact v_loadFf (by omega) | exact v_loadF0 (by omega)) ?_
      refine xl_gv rfl EvO.eq (by first | exact v_fieldAddr | exact v_fieldAddrF (by decide) (by omega) | exact v_fieldAddrR (by first | assumption | rfl)) ?_
      refine xl_gv rfl EvO.eq (by first | exact v_load | exact v_loadO (by omega) | exact v_loadFf (by omega) | exact v_loadF0 (by omega)) ?_
      refine xl_gcall rfl EvO.eq (eqb_ok x.A _ _ x.m.bytes y.A _ _ y.m.bytes _ rfl rfl (by omega)) ?_
      rintro _ w3 ⟨rfl, lk⟩
      refine xl_v (by first | exact v_pickT | exact v_pickF | exact v_pick) ?_
      refine xl_v v_assign ?_
      refine xl_nil ?_
      refine x_ret ?_
      refine fin1 rfl ?_
      refine ⟨?_, lkc⟩
      rw [msg_dec]
      simp_all
    ·
      refine xl_gs rfl EvO.eq ?_
      refine xl_gs rfl EvO.eq ?_
      refine xl_gs rfl EvO.eq ?_
      refine xl_gs rfl EvO.eq ?_
      refine xl_gs rfl EvO.eq ?_
      refine xl_v (by first | exact v_pickT | exact v_pickF | exact v_pick) ?_
      refine xl_v v_assign ?_
      refine xl_nil ?_
      refine x_ret ?_
      refine fin1 rfl ?_
      refine ⟨?_, lkc⟩
      rw [msg_dec]
      simp_all
  ·
    refine xl_gs rfl EvO.eq ?_
    refine xl_gs rfl EvO.eq ?_
    refine xl_gs rfl EvO.eq ?_
    refine xl_gs rfl EvO.eq ?_
    refine xl_gs rfl EvO.eq ?_
    refine xl_v (by first | exact v_pickT | exact v_pickF | exact v_pick) ?_
    refine xl_v v_move ?_
    refine xl_gs rfl EvO.eq ?_
    refine xl_gs rfl EvO.eq ?_
    refine xl_gs rfl EvO.eq ?_
    refine xl_gs rfl EvO.eq ?_
    refine xl_gs rfl EvO.eq ?_
    refine xl_v (by first | exact v_pickT | exact v_pickF | exact v_pick) ?_
    refine xl_v v_assign ?_
    refine xl_nil ?_
    refine x_ret ?_
    refine fin1 rfl ?_
    refine ⟨?_, lkc⟩
    rw [msg_dec]
    simp_all
/-- maps.EqualFunc[map[int]waystation/api.Parcel,map[int]waystation/api.Parcel,int,waystation/api.Parcel,waystation/api.Parcel] -/
theorem mequal_ok (ma mb : Nat) (la lb : List (Int × LMsg)) (Ga Gb : Nat → Prop) (w : World) (hma : MapB w ma (Value.int .i64) (netV la)) (hmb : MapB w mb (Value.int .i64) (netV lb)) (hra : ∀ p ∈ la, FRow w Ga p.2.A (bytesC p.2.m.bytes)) (hrb : ∀ p ∈ lb, FRow w Gb p.2.A (bytesC p.2.m.bytes)) (hnd : (la.map (·.1)).Nodup) (hlen : la.length ≤ 4096) (hba : ∀ p ∈ la, p.2.m.bytes.length ≤ 4096) (hga : ∀ k, Ga k → k < w.heap.size) (hgb : ∀ k, Gb k → k < w.heap.size) : Ret Try.prog 45 #[.map (some ma), .map (some mb), .func (.func 43) ([] : List Value).toArray ([] : List Value).toArray] w (fun v w' => v = .bool (sameL la lb) ∧ Lk w' w NoB) := by
  haveI hmia : MapI w ma _ _ _ := ⟨hma⟩
  haveI hmib : MapI w mb _ _ _ := ⟨hmb⟩
  have hla := netV_len la
  have hlb := netV_len lb
  have hmlt := hma.lt
  refine ret_of_x (N := 38) (l := [.map (some ma), .map (some mb), .func (.func 43) ([] : List Value).toArray ([] : List Value).toArray]) Try.func45 rfl rfl (Nat.le_of_ble_eq_true rfl) ?_
  refine x_seq ?_
  refine x_regionL ?_
  refine xl_v v_assign ?_
  refine xl_nil ?_
  refine x_seq ?_
  refine x_seq ?_
  refine x_regionL ?_
  refine xl_v v_move ?_
  refine xl_v v_lenm ?_
  refine xl_v v_move ?_
  refine xl_v v_lenm ?_
  refine xl_v v_neq ?_
  refine xl_nil ?_
  first | refine x_condP (fun c1 => ?_) (fun c1 => ?_) | refine x_condN (fun c1 => ?_) (fun c1 => ?_) | refine x_condE (fun c1 => ?_) (fun c1 => ?_)
  ·
    refine x_seq ?_
    refine x_regionL ?_
    refine xl_v v_assign ?_
    refine xl_nil ?_
    refine x_ret ?_
    refine fin1 rfl ?_
    refine ⟨?_, lkc⟩
    rw [sameL, decide_eq_false (by omega)]
    rfl
  ·
    refine x_skip ?_
    refine x_seq ?_
    refine x_seq ?_
    refine x_regionL ?_
    refine xl_v v_move ?_
    refine xl_e (e_range fun it w1 ni li hit hhas => ?_)
    refine xl_nil ?_
    refine x_block ?_
    have hitw : w.heap.size ≤ it := by rw [ni.eq]; exact Ge.le
    have hne : it ≠ ma := fun e => by omega
    haveI : SubF (OneB it) NoB w := ⟨fun k hk e => by have e' : k = it := e; omega⟩
    refine x_loop (fun m τ ds w' => ds = [] ∧ ∃ (ks rest : List (Int × Value)), m = rest.length ∧ MapIt w' it ma (Value.int .i64) (netV la) ks rest ∧ (∀ p ∈ la, p.1 ∈ ks.map (·.1) → sameP lb p = true) ∧ Ev τ 1 (.map (some mb)) ∧ Ev τ 2 (.func (.func 43) ([] : List Value).toArray ([] : List Value).toArray) ∧ Ev τ 17 (.pointer (some ⟨it, 0, none⟩)) ∧ Lk w' w NoB) ((netV la).length) ?start ?round
    case start =>
      exact ⟨rfl, [], netV la, rfl, hit, (by intro p _ h; cases h), inferInstance, inferInstance, inferInstance, lkc⟩
    case round =>
      intro m τ2 ds2 w2 hI
      obtain ⟨rfl, ks, rest, rfl, hmit, hall, e1, e2, e17, lk⟩ := hI
      have hit1 := hmit.lt.1
      refine x_seq ?_
      refine x_regionL ?_
      refine xl_e (e_next hmit hne fun bb qs w3 l1 hb0 hb1 => ?_)
      refine xl_v v_extract ?_
      refine xl_nil ?_
      refine x_seq ?_
      refine x_condE (fun c2 => ?_) (fun c2 => ?_)
      ·
        obtain ⟨⟨k, u⟩, rest', hperm, hmi2⟩ := hb1 c2
        obtain ⟨p, hpl, hpe⟩ : ∃ p ∈ la, (p.1, Value.agg (msgC p.2).toArray) = (k, u) := by
          have h1 := hmi2.perm.mem_iff.1 (show (k, u) ∈ (ks ++ [(k, u)]) ++ rest' by simp)
          exact List.mem_map.1 h1
        cases hpe
        have hmi2k : ∀ W', Lk W' w3 NoB → MapIt W' it ma (Value.int .i64) (netV la) (ks ++ [(p.1, Value.agg (msgC p.2).toArray)]) rest' := fun W' l => hmi2.keep l.keep (fun h => h) (fun h => h)
        haveI : Row w p.2.A (bytesC p.2.m.bytes) := ⟨(hra p hpl).row⟩
        haveI : OldA w p.2.A := (hra p hpl).old hga
        refine x_skip ?_
        refine x_block ?_
        refine x_seq ?_
        refine x_regionL ?_
        refine xl_v (v_entry hmi2 (fun h => h) (fun h => h)) ?_
        refine xl_v v_extract ?_
        refine xl_v v_extract ?_
        refine xl_e (e_alloc fun b4 w4 n4 l4 k4 => ?_)
        refine xl_v v_assign ?_
        refine xl_s (e_storeA fun w5 l5 k5 => ?_)
        refine xl_nil ?_
        refine x_seq ?_
        refine x_regionL ?_
        refine xl_v v_move ?_
        refine xl_v v_move ?_
        refine xl_v (v_lookup2v p.1 (.agg (msgC (NetL.at_ lb p.1)).toArray) (akey lb p.1).isSome rfl (netV_get lb p.1).1 (netV_get lb p.1).2) ?_
        refine xl_v v_move ?_
        refine xl_v v_extract ?_
        refine xl_v v_extract ?_
        refine xl_e (e_alloc fun b6 w6 n6 l6 k6 => ?_)
        refine xl_s (e_storeA fun w7 l7 k7 => ?_)
        refine xl_v v_assign ?_
        refine xl_nil ?_
        refine x_seq ?_
        refine x_regionL ?_
        refine xl_v v_move ?_
        refine xl_v v_not ?_
        refine xl_v v_move ?_
        refine xl_split 31 (fun g31 => ?_) (fun g31 => ?_)
        ·
          refine xl_gs rfl EvO.eq ?_
          refine xl_gs rfl EvO.eq ?_
          refine xl_gs rfl EvO.eq ?_
          refine xl_gs rfl EvO.eq ?_
          refine xl_gs rfl EvO.eq ?_
          refine xl_v (by first | exact v_pickT | exact v_pickF | exact v_pick) ?_
          refine xl_nil ?_
          refine x_condT ?_
          refine x_seq ?_
          refine x_regionL ?_
          refine xl_v v_assign ?_
          refine xl_nil ?_
          refine x_ret ?_
          refine fin1 rfl ?_
          have hsp : sameP lb p = false := by
            first
              | (rw [hsq]; simpa using c3)
              | (have h1 : akey lb p.1 = none := by simpa using g31
                 rw [sameP, h1])
          refine ⟨?_, lkc⟩
          have h1 : la.all (sameP lb) = false := by
            rw [List.all_eq_false]
            exact ⟨p, hpl, by rw [hsp]; simp⟩
          rw [sameL, h1, Bool.and_false]
        ·
          obtain ⟨q, hq⟩ : ∃ q, akey lb p.1 = some q := Option.isSome_iff_exists.1 (by simpa using g31)
          have hat : NetL.at_ lb p.1 = q := by rw [NetL.at_, hq]; rfl
          have hqr := hrb (p.1, q) (akey_mem hq)
          haveI : Row w (NetL.at_ lb p.1).A (bytesC (NetL.at_ lb p.1).m.bytes) := by rw [hat]; exact ⟨hqr.row⟩
          haveI : OldA w (NetL.at_ lb p.1).A := by rw [hat]; exact hqr.old hgb
          have hsq : sameP lb p = decide (p.2.m = (NetL.at_ lb p.1).m) := by rw [sameP, hq, hat]
          refine xl_gv rfl EvO.eq v_move ?_
          refine xl_gv rfl EvO.eq (by first | exact v_loadA | exact v_loadF (by decide) (by omega)) ?_
          refine xl_gv rfl EvO.eq (by first | exact v_loadA | exact v_loadF (by decide) (by omega)) ?_
          refine xl_gcall rfl EvO.eq (same1_ok p.2 (NetL.at_ lb p.1) w7 (by have := hba p hpl; omega)) ?_
          rintro _ w8 ⟨rfl, lk2⟩
          refine xl_gv rfl EvO.eq v_not ?_
          refine xl_v (by first | exact v_pickT | exact v_pickF | exact v_pick) ?_
          refine xl_nil ?_
          refine x_condE (fun c3 => ?_) (fun c3 => ?_)
          ·
            refine x_seq ?_
            refine x_regionL ?_
            refine xl_v v_assign ?_
            refine xl_nil ?_
            refine x_ret ?_
            refine fin1 rfl ?_
            have hsp : sameP lb p = false := by
              first
                | (rw [hsq]; simpa using c3)
                | (have h1 : akey lb p.1 = none := by simpa using g31
                   rw [sameP, h1])
            refine ⟨?_, lkc⟩
            have h1 : la.all (sameP lb) = false := by
              rw [List.all_eq_false]
              exact ⟨p, hpl, by rw [hsp]; simp⟩
            rw [sameL, h1, Bool.and_false]
          ·
            have hsp : sameP lb p = true := by
              rw [hsq]; simpa using c3
            refine x_skip ?_
            refine ⟨_, ?_, rfl, ks ++ [(p.1, _)], rest', rfl, hmi2k _ lkc, ?_, inferInstance, inferInstance, inferInstance, lkc⟩
            · rw [hperm.length_eq]; simp
            · intro p2 hp2 hk2
              rw [List.map_append, List.mem_append] at hk2
              rcases hk2 with hk2 | hk2
              · exact hall p2 hp2 hk2
              · simp only [List.map_cons, List.map_nil, List.mem_singleton] at hk2
                have h1 := akey_nodup' hnd hp2
                have h2 := akey_nodup' hnd hpl
                rw [hk2, h2] at h1
                have h3 : p2 = p := Prod.ext hk2 (Option.some.inj h1).symm
                rw [h3]
                exact hsp
      ·
        refine x_exit ?_
        refine x_seq ?_
        refine x_regionL ?_
        refine xl_v v_assign ?_
        refine xl_nil ?_
        refine x_ret ?_
        refine fin1 rfl ?_
        obtain ⟨hrest, hmi2⟩ := hb0 c2
        subst hrest
        refine ⟨?_, lkc⟩
        have h1 : la.all (sameP lb) = true := by
          rw [List.all_eq_true]
          intro p hp
          refine hall p hp ?_
          have h2 := hmi2.perm.mem_iff.2 (show (p.1, Value.agg (msgC p.2).toArray) ∈ netV la from List.mem_map.2 ⟨p, hp, rfl⟩)
          rw [List.append_nil] at h2
          exact List.mem_map.2 ⟨_, h2, rfl⟩
        rw [sameL, h1, decide_eq_true (by omega)]
        rfl
theorem sub_len : ∀ (l2 l1 : List (Int × Msg)), (l1.map (·.1)).Pairwise (· < ·) → (l2.map (·.1)).Pairwise (· < ·) → (∀ p ∈ l1, p ∈ l2) → l1.length ≤ l2.length ∧ (l1.length = l2.length → l1 = l2)
  | [], [], _, _, _ => ⟨by simp, fun _ => rfl⟩
  | [], a :: l1, _, _, h => absurd (h a (by simp)) (by simp)
  | b :: l2, [], _, _, _ => ⟨by simp, fun h => by simp at h⟩
  | b :: l2, a :: l1, h1, h2, h => by
    simp only [List.map_cons, List.pairwise_cons] at h1 h2
    have hgt : ∀ c ∈ l1, a.1 < c.1 := fun c hc => h1.1 c.1 (List.mem_map.2 ⟨c, hc, rfl⟩)
    rcases List.mem_cons.1 (h a (by simp)) with e | e
    · obtain ⟨h3, h4⟩ := sub_len l2 l1 h1.2 h2.2 (fun c hc => by
        rcases List.mem_cons.1 (h c (by simp [hc])) with e2 | e2
        · have := hgt c hc; rw [e2, e] at this; omega
        · exact e2)
      refine ⟨by simp; omega, fun h5 => ?_⟩
      rw [h4 (by simpa using h5), e]
    · have hb : b.1 < a.1 := h2.1 a.1 (List.mem_map.2 ⟨a, e, rfl⟩)
      obtain ⟨h3, _⟩ := sub_len l2 (a :: l1) (by simp only [List.map_cons, List.pairwise_cons]; exact h1) h2.2 (fun c hc => by
        rcases List.mem_cons.1 (h c hc) with e2 | e2
        · exfalso
          rcases List.mem_cons.1 hc with e3 | e3
          · rw [← e2, e3] at hb; omega
          · have := hgt c e3; rw [e2] at this; omega
        · exact e2)
      refine ⟨by simp at h3 ⊢; omega, fun h5 => ?_⟩
      simp at h3 h5
      omega
theorem sameL_pure {A B : NetL} (ha : A.pure.ok) (hb : B.pure.ok) : sameL A.l B.l = decide (A.pure.l = B.pure.l) := by
  by_cases e : A.pure.l = B.pure.l
  · rw [decide_eq_true e, sameL, decide_eq_true (by rw [← pure_len, ← pure_len, e]), Bool.true_and, List.all_eq_true]
    intro p hp
    have h1 : (p.1, p.2.m) ∈ B.pure.l := e ▸ List.mem_map.2 ⟨p, hp, rfl⟩
    obtain ⟨q, hq, hqe⟩ := List.mem_map.1 h1
    have h2 : q.1 = p.1 := (Prod.mk.inj hqe).1
    have h3 : q.2.m = p.2.m := (Prod.mk.inj hqe).2
    rw [sameP, ← h2, akey_nodup' (ok_nodup hb) hq]
    simp [h3]
  · rw [decide_eq_false e]
    cases hs : sameL A.l B.l with
    | false => rfl
    | true =>
      exfalso
      rw [sameL, Bool.and_eq_true, decide_eq_true_eq, List.all_eq_true] at hs
      refine e ((sub_len _ _ ha.rise hb.rise ?_).2 (by rw [pure_len, pure_len, hs.1]))
      intro p hp
      obtain ⟨p2, hp2, rfl⟩ := List.mem_map.1 hp
      have h1 := hs.2 p2 hp2
      rw [sameP] at h1
      split at h1
      · rename_i q hq
        have h2 : p2.2.m = q.m := by simpa using h1
        exact List.mem_map.2 ⟨(p2.1, q), akey_mem hq, by simp [h2]⟩
      · cases h1
theorem net_dec (A B : NetL) : decide (A.pure = B.pure) = ((decide (A.most = B.most) && decide (A.came = B.came)) && decide (A.pure.l = B.pure.l)) := by
  rw [← Bool.decide_and, ← Bool.decide_and]
  apply decide_eq_decide.2
  show Net.mk A.most A.came A.pure.l = Net.mk B.most B.came B.pure.l ↔ _
  simp [and_assoc]
/-- waystation/net.Same -/
theorem same_ok (a ma b mb : Nat) (Ga Gb : Nat → Prop) (A B : NetL) (w : World) (h : NetAt w a ma Ga A) (hok : A.pure.ok) (h' : NetAt w b mb Gb B) (hok' : B.pure.ok) : Ret Try.prog 28 #[.pointer (some ⟨a, 0, none⟩), .pointer (some ⟨b, 0, none⟩)] w (fun v w' => v = .bool (decide (A.pure = B.pure)) ∧ Lk w' w NoB) := by
  haveI ha : Blk w a _ := ⟨h.hb⟩
  haveI hb : Blk w b _ := ⟨h'.hb⟩
  refine ret_of_x (N := 39) (l := [.pointer (some ⟨a, 0, none⟩), .pointer (some ⟨b, 0, none⟩)]) Try.func28 rfl rfl (Nat.le_of_ble_eq_true rfl) ?_
  refine x_seq ?_
  refine x_regionL ?_
  refine xl_v v_assign ?_
  refine xl_nil ?_
  refine x_seq ?_
  refine x_seq ?_
  refine x_regionL ?_
  refine xl_v v_move ?_
  refine xl_call (none_ok _ _ _ _ _) ?_
  rintro _ _ ⟨rfl, rfl⟩
  refine xl_v v_move ?_
  refine xl_gv rfl EvO.eq v_move ?_
  refine xl_gcall rfl EvO.eq (none_ok _ _ _ _ _) ?_
  rintro _ _ ⟨rfl, rfl⟩
  refine xl_v (by first | exact v_pickT | exact v_pickF | exact v_pick) ?_
  refine xl_nil ?_
  refine x_condF ?_
  refine x_skip ?_
  refine x_seq ?_
  refine x_regionL ?_
  refine xl_v v_assign ?_
  refine xl_nil ?_
  refine x_seq ?_
  refine x_drawL (NoB) (.take 0 (.take 1 (.take 2 (.take 3 (.take 4 (.take 5 (.take 6 (.take 7 (.take 8 (.take 9 (.take 10 (.take 11 (.take 12 (.take 13 (.take 14 (.take 15 (.take 16 (.take 17 (.take 18 (.eff 19 (.take 20 (.take 21 .done)))))))))))))))))))))) mixed (by kernel_rfl) (fun _ _ _ _ _ h => h) (fun w3 l3 => ?_)
  refine xt_v rfl v_move ?_
  refine xt_v rfl (by first | exact v_nilCheckP | exact v_nilCheckF) ?_
  refine xt_v rfl (by first | exact v_fieldAddr | exact v_fieldAddrF (by decide) (by omega) | exact v_fieldAddrR (by first | assumption | rfl)) ?_
  refine xt_v rfl (by first | exact v_loadA | exact v_loadF (by decide) (by omega)) ?_
  refine xt_v rfl v_move ?_
  refine xt_v rfl (by first | exact v_nilCheckP | exact v_nilCheckF) ?_
  refine xt_v rfl (by first | exact v_fieldAddr | exact v_fieldAddrF (by decide) (by omega) | exact v_fieldAddrR (by first | assumption | rfl)) ?_
  refine xt_v rfl (by first | exact v_loadA | exact v_loadF (by decide) (by omega)) ?_
  refine xt_v rfl v_eql_struct ?_
  refine xt_v rfl v_move ?_
  refine xt_split 27 (fun g27 => ?_) (fun g27 => ?_)
  ·
    refine xt_gv rfl rfl EvO.eq v_move ?_
    refine xt_gv rfl rfl EvO.eq (by first | exact v_nilCheckP | exact v_nilCheckF) ?_
    refine xt_gv rfl rfl EvO.eq (by first | exact v_fieldAddr | exact v_fieldAddrF (by decide) (by omega) | exact v_fieldAddrR (by first | assumption | rfl)) ?_
    refine xt_gv rfl rfl EvO.eq (by first | exact v_load | exact v_loadO (by omega) | exact v_loadFf (by omega) | exact v_loadF0 (by omega)) ?_
    refine xt_gv rfl rfl EvO.eq v_move ?_
    refine xt_gv rfl rfl EvO.eq (by first | exact v_nilCheckP | exact v_nilCheckF) ?_
    refine xt_gv rfl rfl EvO.eq (by first | exact v_fieldAddr | exact v_fieldAddrF (by decide) (by omega) | exact v_fieldAddrR (by first | assumption | rfl)) ?_
    refine xt_gv rfl rfl EvO.eq (by first | exact v_load | exact v_loadO (by omega) | exact v_loadFf (by omega) | exact v_loadF0 (by omega)) ?_
    refine xt_gv rfl rfl EvO.eq v_move ?_
    refine xt_gcall rfl rfl EvO.eq (mequal_ok ma mb A.l B.l Ga Gb w3 (h.hm.keep (kpc : Keep NoB w w3) (fun h => h)) (h'.hm.keep (kpc : Keep NoB w w3) (fun h => h)) (fun p hp => (h.hr p hp).keep (kpc : Keep NoB w w3) (fun _ _ h => h)) (fun p hp => (h'.hr p hp).keep (kpc : Keep NoB w w3) (fun _ _ h => h)) (ok_nodup hok) (len_few hok) (len_bytes hok) (fun k hk => Nat.lt_of_lt_of_le (h.gl k hk) Ge.le) (fun k hk => Nat.lt_of_lt_of_le (h'.gl k hk) Ge.le)) ?_
    rintro _ w4 ⟨rfl, lk⟩
    refine ⟨kpc, ?_⟩
    refine xt_v rfl (by first | exact v_pickT | exact v_pickF | exact v_pick) ?_
    refine xt_v rfl v_assign ?_
    refine xt_nil ?_
    refine x_ret ?_
    refine fin1 rfl ?_
    refine ⟨?_, lkc⟩
    have hcc : decide ((A.came : Int) = (B.came : Int)) = decide (A.came = B.came) := decide_eq_decide.2 Int.ofNat_inj
    rw [hcc, Bool.and_true] at g27
    rw [net_dec, g27]
    first
      | rw [sameL_pure hok hok', Bool.true_and]
      | rfl
  ·
    refine xt_gs rfl rfl EvO.eq ?_
    refine xt_gs rfl rfl EvO.eq ?_
    refine xt_gs rfl rfl EvO.eq ?_
    refine xt_gs rfl rfl EvO.eq ?_
    refine xt_gs rfl rfl EvO.eq ?_
    refine xt_gs rfl rfl EvO.eq ?_
    refine xt_gs rfl rfl EvO.eq ?_
    refine xt_gs rfl rfl EvO.eq ?_
    refine xt_gs rfl rfl EvO.eq ?_
    refine xt_gse rfl rfl EvO.eq ?_
    refine xt_v rfl (by first | exact v_pickT | exact v_pickF | exact v_pick) ?_
    refine xt_v rfl v_assign ?_
    refine xt_nil ?_
    refine x_ret ?_
    refine fin1 rfl ?_
    refine ⟨?_, lkc⟩
    have hcc : decide ((A.came : Int) = (B.came : Int)) = decide (A.came = B.came) := decide_eq_decide.2 Int.ofNat_inj
    rw [hcc, Bool.and_true] at g27
    rw [net_dec, g27]
    first
      | rw [sameL_pure hok hok', Bool.true_and]
      | rfl
end Go.Proofs.Ytacadajlpmhcfaa
