/-
  Walks, printed by a program of this workplace (wip/tools/sx.py) off the functions' code and a text of contracts.
-/
import Derived.Test.YtabknhgbijcklaaZ
import Derived.ChangeKeysEq
set_option linter.all false
set_option maxRecDepth 100000
set_option synthInstance.maxSize 100000
set_option synthInstance.maxHeartbeats 400000
namespace Go.Proofs.Ytabknhgbijcklaa
open Go.Wst
open Go.Wst.Dm
theorem cellsOf_one {P : Program} {e : TypeId} {bytes : Nat} {z : Value} [hi : Inf P e 1 bytes z] : P.cellsOf e = 1 := by
  obtain ⟨i, h5, h6, h7, h8⟩ := hi.ex
  simp [Program.cellsOf, h5, h6]
theorem v_eql_array {P : Program} {r : Option Nat} {N : Nat} {S : Nat → Prop} {τ : Tau} {w : World} {ty : TypeId} {x y : Operand} {t e t' : TypeId} {bytes : Nat} {z : Value} {a0 a1 a2 b0 b1 b2 : Int} [hx : EvO N τ x (.agg #[.int .i64 a0, .int .i64 a1, .int .i64 a2])] [hy : EvO N τ y (.agg #[.int .i64 b0, .int .i64 b1, .int .i64 b2])] [hu : Und P t (.array 3 e)] [he : Und P e (.int .i64)] [hi : Inf P e 1 bytes z] [ho : One P e] (hg : P.eqGuardType P.depth t = false := by kernel_rfl) :
    Val P r N S (.binOp .eql t x y t') ty τ w (.bool (decide (a0 = b0) && (decide (a1 = b1) && decide (a2 = b2)))) := ⟨fun _ => nofun, fun W _ => by
  obtain ⟨i, h5, h6, h7, h8⟩ := hi.ex
  have he1 : (Op.equalIn 10000 t (.agg #[.int .i64 a0, .int .i64 a1, .int .i64 a2]) (.agg #[.int .i64 b0, .int .i64 b1, .int .i64 b2])).run P W = .ok (decide (a0 = b0) && (decide (a1 = b1) && decide (a2 = b2))) W := by
    rw [show (10000 : Nat) = 9999 + 1 from rfl, run_equalIn_array W 9999 _ _ hu.eq h5, cellsOf_one]
    have p0 := fun (u0 u1 u2 : Int) => (partv_one (P := P) e [.int .i64 u0, .int .i64 u1, .int .i64 u2] 0 (.int .i64 u0)).eq W
    have p1 := fun (u0 u1 u2 : Int) => (partv_one (P := P) e [.int .i64 u0, .int .i64 u1, .int .i64 u2] 1 (.int .i64 u1)).eq W
    have p2 := fun (u0 u1 u2 : Int) => (partv_one (P := P) e [.int .i64 u0, .int .i64 u1, .int .i64 u2] 2 (.int .i64 u2)).eq W
    have q := fun (u v : Int) => (eqv_int (P := P) e .i64 u v).eq 9999 W (by omega)
    rw [show List.range 3 = [0, 1, 2] from rfl]
    simp only [Op.eqItems, Sem.run_bind, Nat.zero_mul, Nat.mul_one]
    rw [p0, Result.andThen_ok, p0, Result.andThen_ok, q, Result.andThen_ok]
    by_cases h0 : a0 = b0
    · rw [if_neg (by simp [h0])]
      simp only [Sem.run_bind]
      rw [p1, Result.andThen_ok, p1, Result.andThen_ok, q, Result.andThen_ok]
      by_cases h1 : a1 = b1
      · rw [if_neg (by simp [h1])]
        simp only [Sem.run_bind]
        rw [p2, Result.andThen_ok, p2, Result.andThen_ok, q, Result.andThen_ok]
        by_cases h2 : a2 = b2
        · rw [if_neg (by simp [h2])]; simp [h0, h1, h2]
        · rw [if_pos (by simp [h2])]; simp [h2]
      · rw [if_pos (by simp [h1])]; simp [h1]
    · rw [if_pos (by simp [h0])]; simp [h0]
  simp only [execOp, Sem.run_bind, hx.eq, hy.eq, run_eqGuard_agg W .eql t x y _ _ hg, run_eql_struct, he1, Result.andThen_ok, Sem.run_pure]⟩
theorem fsP_key {l : List (ByteArray × LB)} (hn : (l.map (·.1)).Nodup) {p : ByteArray × LB} (hp : p ∈ l) : akey (fsP l) p.1 = some p.2.bytes := by
  refine (akey_mem (by rw [fsP_keys]; exact hn)).2 ?_
  exact List.mem_map.2 ⟨p, hp, rfl⟩

/-- slices.Equal[[]byte,byte] -/
theorem eqb_ok (A : Option Addr) (n c : Nat) (xs : List UInt8) (B : Option Addr) (n' c' : Nat) (ys : List UInt8) (w : World) [Row w A (bytesC xs)] [Row w B (bytesC ys)] (hl : xs.length = n) (hl' : ys.length = n') (hn : n ≤ 1000000000) : Ret Try.prog 63 #[.slice A n c, .slice B n' c'] w (fun v w' => v = .bool (decide (xs = ys)) ∧ Lk w' w NoB) := by
  refine ret_of_x (N := 26) (l := [.slice A n c, .slice B n' c']) Try.func63 rfl rfl (Nat.le_of_ble_eq_true rfl) ?_
  refine x_seq ?_
  refine x_regionL ?_
  refine xl_v v_assign ?_
  refine xl_nil ?_
  refine x_seq ?_
  refine x_seq ?_
  refine x_regionL ?_
  refine xl_v v_move ?_
  refine xl_v v_len ?_
  refine xl_v v_move ?_
  refine xl_v v_len ?_
  refine xl_v v_neq ?_
  refine xl_nil ?_
  first | refine x_condP (fun c1 => ?_) (fun c1 => ?_) | refine x_condN (fun c1 => ?_) (fun c1 => ?_) | refine x_condE (fun c1 => ?_) (fun c1 => ?_)
  ·
    refine x_seq ?_
    refine x_regionL ?_
    refine xl_v v_assign ?_
    refine xl_nil ?_
    refine x_ret ?_
    refine fin1 rfl ?_
    exact ⟨by rw [decide_eq_false]; intro e; subst e; omega, lkc⟩
  ·
    have hnn : n = n' := by omega
    refine x_skip ?_
    refine x_seq ?_
    refine x_seq ?_
    refine x_regionL ?_
    refine xl_v v_move ?_
    refine xl_v v_len ?_
    refine xl_v v_move ?_
    refine xl_nil ?_
    refine x_block ?_
    refine x_loop (fun m τ ds w' => ds = [] ∧ ∃ k : Nat, m = n - k ∧ k ≤ n ∧ xs.take k = ys.take k ∧ Ev τ 0 (.slice A n c) ∧ Ev τ 1 (.slice B n' c') ∧ Ev τ 12 (.int .i64 (n : Int)) ∧ Ev τ 13 (.int .i64 (k : Int)) ∧ Lk w' w NoB) (n) ?start ?round
    case start =>
      exact ⟨rfl, 0, rfl, Nat.zero_le _, by simp, inferInstance, inferInstance, inferInstance, evc, lkc⟩
    case round =>
      intro m τ1 ds1 w1 hI
      obtain ⟨rfl, k, rfl, hk, heq, e0, e1, e2, e3, lk⟩ := hI
      refine x_seq ?_
      refine x_regionL ?_
      refine xl_v v_lss ?_
      refine xl_nil ?_
      refine x_seq ?_
      first | refine x_condP (fun c2 => ?_) (fun c2 => ?_) | refine x_condN (fun c2 => ?_) (fun c2 => ?_) | refine x_condE (fun c2 => ?_) (fun c2 => ?_)
      ·
        have hk1 : k < xs.length := by omega
        have hk2 : k < ys.length := by omega
        refine x_skip ?_
        refine x_seq ?_
        refine x_block ?_
        refine x_seq ?_
        refine x_regionL ?_
        refine xl_v v_move ?_
        refine xl_v v_assign ?_
        refine xl_nil ?_
        refine x_seq ?_
        refine x_drawL (NoB) (.take 0 (.take 1 (.take 2 (.take 3 (.take 4 (.take 5 (.take 6 (.take 7 (.take 8 .done))))))))) mixed (by kernel_rfl) (fun _ _ _ _ _ h => h) (fun w2 l2 => ?_)
        refine xt_v rfl v_move ?_
        refine xt_v rfl v_move ?_
        refine xt_v rfl (v_indexO k rfl (by omega) hk1) ?_
        refine xt_v rfl (v_loadO (k := k) hk1) ?_
        refine xt_v rfl v_move ?_
        refine xt_v rfl v_move ?_
        refine xt_v rfl (v_indexO k rfl (by omega) hk2) ?_
        refine xt_v rfl (v_loadO (k := k) hk2) ?_
        refine xt_v rfl v_neq ?_
        refine xt_nil ?_
        refine x_condE (fun c3 => ?_) (fun c3 => ?_)
        ·
          have hne : xs[k] ≠ ys[k] := fun e => by rw [e] at c3; simp at c3
          refine x_seq ?_
          refine x_regionL ?_
          refine xl_v v_assign ?_
          refine xl_nil ?_
          refine x_ret ?_
          refine fin1 rfl ?_
          refine ⟨?_, lkc⟩
          rw [decide_eq_false]
          intro e
          subst e
          exact hne rfl
        ·
          have heqk : xs[k] = ys[k] := by
            simp at c3
            exact UInt8.toNat_inj.1 (by omega)
          refine x_skip ?_
          refine x_regionL ?_
          refine xl_v (v_add (by omega)) ?_
          refine xl_v v_move ?_
          refine xl_nil ?_
          refine ⟨_, ?_, rfl, k + 1, rfl, by omega, ?_, inferInstance, inferInstance, inferInstance, evc, lkc⟩
          · omega
          · rw [List.take_succ_eq_append_getElem hk1, List.take_succ_eq_append_getElem hk2, heq, heqk]
      ·
        refine x_exit ?_
        refine x_seq ?_
        refine x_regionL ?_
        refine xl_v v_assign ?_
        refine xl_nil ?_
        refine x_ret ?_
        refine fin1 rfl ?_
        refine ⟨?_, lkc⟩
        rw [decide_eq_true]
        rw [List.take_of_length_le (by omega), List.take_of_length_le (by omega)] at heq
        exact heq

/-- waystation/disk.Same$1 -/
theorem same1_ok (A : Option Addr) (n c : Nat) (xs : List UInt8) (B : Option Addr) (n' c' : Nat) (ys : List UInt8) (w : World) [Row w A (bytesC xs)] [Row w B (bytesC ys)] (hl : xs.length = n) (hl' : ys.length = n') (hn : n ≤ 1000000000) : Ret Try.prog 62 #[.slice A n c, .slice B n' c'] w (fun v w' => v = .bool (decide (xs = ys)) ∧ Lk w' w NoB) := by
  refine ret_of_x (N := 8) (l := [.slice A n c, .slice B n' c']) Try.func62 rfl rfl (Nat.le_of_ble_eq_true rfl) ?_
  refine x_seq ?_
  refine x_regionL ?_
  refine xl_v v_assign ?_
  refine xl_nil ?_
  refine x_seq ?_
  refine x_regionL ?_
  refine xl_v v_move ?_
  refine xl_v v_move ?_
  refine xl_call (eqb_ok A n c xs B n' c' ys w hl hl' hn) ?_
  rintro _ w1 ⟨rfl, lk1⟩
  refine xl_v v_assign ?_
  refine xl_nil ?_
  refine x_ret ?_
  refine fin1 rfl ?_
  exact ⟨rfl, lkc⟩

/-- maps.EqualFunc[map[string][]byte,map[string][]byte,string,[]byte,[]byte] -/
theorem mequal_ok (ma mb : Nat) (la lb : List (ByteArray × LB)) (Ga Gb : Nat → Prop) (w : World) (ha : FilesAt w ma Ga la) (hb : FilesAt w mb Gb lb) (hba : ∀ p ∈ la, p.2.bytes.length ≤ 100000000) : Ret Try.prog 64 #[.map (some ma), .map (some mb), .func (.func 62) ([] : List Value).toArray ([] : List Value).toArray] w (fun v w' => (∃ b, v = .bool b ∧ ((∀ k, akey (fsP la) k = akey (fsP lb) k) → la.length = lb.length → b = true)) ∧ Lk w' w NoB) := by
  haveI hmia : MapI w ma _ _ _ := ⟨ha.map⟩
  haveI hmib : MapI w mb _ _ _ := ⟨hb.map⟩
  have hla : (fsV la).length = la.length := by simp [fsV]
  have hlb : (fsV lb).length = lb.length := by simp [fsV]
  have hmlt := ha.map.lt
  refine ret_of_x (N := 38) (l := [.map (some ma), .map (some mb), .func (.func 62) ([] : List Value).toArray ([] : List Value).toArray]) Try.func64 rfl rfl (Nat.le_of_ble_eq_true rfl) ?_
  refine x_seq ?_
  refine x_regionL ?_
  refine xl_v v_assign ?_
  refine xl_nil ?_
  refine x_seq ?_
  refine x_seq ?_
  refine x_regionL ?_
  refine xl_v v_move ?_
  refine xl_v v_lenm ?_
  refine xl_v v_move ?_
  refine xl_v v_lenm ?_
  refine xl_v v_neq ?_
  refine xl_nil ?_
  first | refine x_condP (fun c1 => ?_) (fun c1 => ?_) | refine x_condN (fun c1 => ?_) (fun c1 => ?_) | refine x_condE (fun c1 => ?_) (fun c1 => ?_)
  ·
    refine x_seq ?_
    refine x_regionL ?_
    refine xl_v v_assign ?_
    refine xl_nil ?_
    refine x_ret ?_
    refine fin1 rfl ?_
    exact ⟨⟨false, rfl, fun _ e => by omega⟩, lkc⟩
  ·
    refine x_skip ?_
    refine x_seq ?_
    refine x_seq ?_
    refine x_regionL ?_
    refine xl_v v_move ?_
    refine xl_e (e_range fun it w1 ni li hit hhas => ?_)
    refine xl_nil ?_
    refine x_block ?_
    have hitw : w.heap.size ≤ it := by rw [ni.eq]; exact Ge.le
    have hne : it ≠ ma := fun e => by omega
    haveI : SubF (OneB it) NoB w := ⟨fun k hk e => by have e' : k = it := e; omega⟩
    refine x_loop (fun m τ ds w' => ds = [] ∧ ∃ (ks rest : List (ByteArray × Value)), m = rest.length ∧ MapIt w' it ma Value.string (fsV la) ks rest ∧ Ev τ 1 (.map (some mb)) ∧ Ev τ 2 (.func (.func 62) ([] : List Value).toArray ([] : List Value).toArray) ∧ Ev τ 17 (.pointer (some ⟨it, 0, none⟩)) ∧ Lk w' w NoB) ((fsV la).length) ?start ?round
    case start =>
      exact ⟨rfl, [], fsV la, rfl, hit, inferInstance, inferInstance, inferInstance, lkc⟩
    case round =>
      intro m τ2 ds2 w2 hI
      obtain ⟨rfl, ks, rest, rfl, hmit, e1, e2, e17, lk⟩ := hI
      have hit1 := hmit.lt.1
      refine x_seq ?_
      refine x_regionL ?_
      refine xl_e (e_next hmit hne fun bb qs w3 l1 hb0 hb1 => ?_)
      refine xl_v v_extract ?_
      refine xl_nil ?_
      refine x_seq ?_
      refine x_condE (fun c2 => ?_) (fun c2 => ?_)
      ·
        obtain ⟨⟨k, u⟩, rest', hperm, hmi2⟩ := hb1 c2
        obtain ⟨p, hpl, hpe⟩ : ∃ p ∈ la, (p.1, lbV p.2) = (k, u) := by
          have h1 := hmi2.perm.mem_iff.1 (show (k, u) ∈ (ks ++ [(k, u)]) ++ rest' by simp)
          exact List.mem_map.1 h1
        cases hpe
        have hmi2k : ∀ W', Lk W' w3 NoB → MapIt W' it ma Value.string (fsV la) (ks ++ [(p.1, lbV p.2)]) rest' := fun W' l => hmi2.keep l.keep (fun h => h) (fun h => h)
        haveI : Row w p.2.A (bytesC p.2.bytes) := ⟨(ha.rows p hpl).row⟩
        haveI : OldA w p.2.A := (ha.rows p hpl).old ha.lt
        have hbr := (atB_row hb p.1).1
        haveI : Row w (atB lb p.1).A (bytesC (atB lb p.1).bytes) := ⟨hbr.row⟩
        haveI : OldA w (atB lb p.1).A := hbr.old hb.lt
        have hka := fsP_key ha.nodup hpl
        refine x_skip ?_
        refine x_block ?_
        refine x_seq ?_
        refine x_regionL ?_
        refine xl_v (v_entry hmi2 (fun h => h) (fun h => h)) ?_
        refine xl_v v_extract ?_
        refine xl_v v_extract ?_
        refine xl_v v_assign ?_
        refine xl_v v_assign ?_
        refine xl_nil ?_
        refine x_seq ?_
        refine x_regionL ?_
        refine xl_v v_move ?_
        refine xl_v v_move ?_
        refine xl_v (v_lookup2v p.1 (lbV (atB lb p.1)) (akey lb p.1).isSome rfl (fsV_at lb p.1) (by rw [fsV_akey]; cases akey lb p.1 <;> rfl)) ?_
        refine xl_v v_move ?_
        refine xl_v v_extract ?_
        refine xl_v v_extract ?_
        refine xl_v v_assign ?_
        refine xl_v v_assign ?_
        refine xl_nil ?_
        refine x_seq ?_
        refine x_regionL ?_
        refine xl_v v_move ?_
        refine xl_v v_not ?_
        refine xl_v v_move ?_
        refine xl_split 31 (fun g31 => ?_) (fun g31 => ?_)
        ·
          refine xl_gs rfl EvO.eq ?_
          refine xl_gs rfl EvO.eq ?_
          refine xl_gs rfl EvO.eq ?_
          refine xl_gs rfl EvO.eq ?_
          refine xl_gs rfl EvO.eq ?_
          refine xl_v (by first | exact v_pickT | exact v_pickF | exact v_pick) ?_
          refine xl_nil ?_
          refine x_condT ?_
          refine x_seq ?_
          refine x_regionL ?_
          refine xl_v v_assign ?_
          refine xl_nil ?_
          refine x_ret ?_
          refine fin1 rfl ?_
          refine ⟨⟨false, rfl, fun hk _ => ?_⟩, lkc⟩
          have h1 := hk p.1
          rw [hka, fsP_akey] at h1
          exfalso
          cases hq : akey lb p.1 with
          | none => rw [hq] at h1; cases h1
          | some q =>
            have h2 : (atB lb p.1) = q := by rw [atB, hq]; rfl
            rw [hq] at h1
            have h3 : p.2.bytes = q.bytes := by simpa using h1
            first
              | (rw [hq] at g31; simp at g31; done)
              | (rw [h2] at c3; simp [h3] at c3)
        ·
          refine xl_gv rfl EvO.eq v_move ?_
          refine xl_gv rfl EvO.eq v_move ?_
          refine xl_gv rfl EvO.eq v_move ?_
          refine xl_gcall rfl EvO.eq (same1_ok p.2.A _ _ p.2.bytes (atB lb p.1).A _ _ (atB lb p.1).bytes w3 rfl rfl (by have := hba p hpl; omega)) ?_
          rintro _ w4 ⟨rfl, lk2⟩
          refine xl_gv rfl EvO.eq v_not ?_
          refine xl_v (by first | exact v_pickT | exact v_pickF | exact v_pick) ?_
          refine xl_nil ?_
          refine x_condE (fun c3 => ?_) (fun c3 => ?_)
          ·
            refine x_seq ?_
            refine x_regionL ?_
            refine xl_v v_assign ?_
            refine xl_nil ?_
            refine x_ret ?_
            refine fin1 rfl ?_
            refine ⟨⟨false, rfl, fun hk _ => ?_⟩, lkc⟩
            have h1 := hk p.1
            rw [hka, fsP_akey] at h1
            exfalso
            cases hq : akey lb p.1 with
            | none => rw [hq] at h1; cases h1
            | some q =>
              have h2 : (atB lb p.1) = q := by rw [atB, hq]; rfl
              rw [hq] at h1
              have h3 : p.2.bytes = q.bytes := by simpa using h1
              first
                | (rw [hq] at g31; simp at g31; done)
                | (rw [h2] at c3; simp [h3] at c3)
          ·
            refine x_skip ?_
            refine ⟨_, ?_, rfl, ks ++ [(p.1, _)], rest', rfl, hmi2k _ lkc, inferInstance, inferInstance, inferInstance, lkc⟩
            rw [hperm.length_eq]; simp
      ·
        refine x_exit ?_
        refine x_seq ?_
        refine x_regionL ?_
        refine xl_v v_assign ?_
        refine xl_nil ?_
        refine x_ret ?_
        refine fin1 rfl ?_
        exact ⟨⟨true, rfl, fun _ _ => rfl⟩, lkc⟩

/-- waystation/disk.Same$2 -/
theorem same2_ok (x y : LThing) (w : World) : Ret Try.prog 66 #[.agg (thingC x).toArray, .agg (thingC y).toArray] w (fun v w' => (∃ b, v = .bool b ∧ (x.t = y.t → b = true)) ∧ Lk w' w NoB) := by
  refine ret_of_x (N := 24) (l := [.agg (thingC x).toArray, .agg (thingC y).toArray]) Try.func66 rfl rfl (Nat.le_of_ble_eq_true rfl) ?_
  refine x_seq ?_
  refine x_regionL ?_
  refine xl_e (e_box fun b1 w1 n1 l1 k1 => ?_)
  refine xl_e (e_box fun b2 w2 n2 l2 k2 => ?_)
  refine xl_v v_assign ?_
  refine xl_nil ?_
  refine x_seq ?_
  refine x_regionL ?_
  refine xl_v (by first | exact v_fieldAddr | exact v_fieldAddrF (by decide) (by omega) | exact v_fieldAddrR (by first | assumption | rfl)) ?_
  refine xl_v (by first | exact v_load | exact v_loadO (by omega) | exact v_loadFf (by omega) | exact v_loadF0 (by omega)) ?_
  refine xl_v (by first | exact v_fieldAddr | exact v_fieldAddrF (by decide) (by omega) | exact v_fieldAddrR (by first | assumption | rfl)) ?_
  refine xl_v (by first | exact v_load | exact v_loadO (by omega) | exact v_loadFf (by omega) | exact v_loadF0 (by omega)) ?_
  refine xl_v v_seql ?_
  refine xl_v v_move ?_
  refine xl_split 10 (fun g10 => ?_) (fun g10 => ?_)
  ·
    refine xl_gv rfl EvO.eq (by first | exact v_fieldAddr | exact v_fieldAddrF (by decide) (by omega) | exact v_fieldAddrR (by first | assumption | rfl)) ?_
    refine xl_gv rfl EvO.eq (by first | exact v_loadA | exact v_loadF (by decide) (by omega)) ?_
    refine xl_gv rfl EvO.eq (by first | exact v_fieldAddr | exact v_fieldAddrF (by decide) (by omega) | exact v_fieldAddrR (by first | assumption | rfl)) ?_
    refine xl_gv rfl EvO.eq (by first | exact v_loadA | exact v_loadF (by decide) (by omega)) ?_
    refine xl_gv rfl EvO.eq v_eql_array ?_
    refine xl_v (by first | exact v_pickT | exact v_pickF | exact v_pick) ?_
    refine xl_v v_move ?_
    refine xl_split 17 (fun g17 => ?_) (fun g17 => ?_)
    ·
      refine xl_gv rfl EvO.eq (by first | exact v_fieldAddr | exact v_fieldAddrF (by decide) (by omega) | exact v_fieldAddrR (by first | assumption | rfl)) ?_
      refine xl_gv rfl EvO.eq (by first | exact v_load | exact v_loadO (by omega) | exact v_loadFf (by omega) | exact v_loadF0 (by omega)) ?_
      refine xl_gv rfl EvO.eq (by first | exact v_fieldAddr | exact v_fieldAddrF (by decide) (by omega) | exact v_fieldAddrR (by first | assumption | rfl)) ?_
      refine xl_gv rfl EvO.eq (by first | exact v_load | exact v_loadO (by omega) | exact v_loadFf (by omega) | exact v_loadF0 (by omega)) ?_
      refine xl_gv rfl EvO.eq v_seql ?_
      refine xl_v (by first | exact v_pickT | exact v_pickF | exact v_pick) ?_
      refine xl_v v_assign ?_
      refine xl_nil ?_
      refine x_ret ?_
      refine fin1 rfl ?_
      refine ⟨⟨_, rfl, fun e => ?_⟩, lkc⟩
      first
        | (simp [e] at g10; done)
        | (simp [e] at g17; done)
        | simp [e]
    ·
      refine xl_gs rfl EvO.eq ?_
      refine xl_gs rfl EvO.eq ?_
      refine xl_gs rfl EvO.eq ?_
      refine xl_gs rfl EvO.eq ?_
      refine xl_gs rfl EvO.eq ?_
      refine xl_v (by first | exact v_pickT | exact v_pickF | exact v_pick) ?_
      refine xl_v v_assign ?_
      refine xl_nil ?_
      refine x_ret ?_
      refine fin1 rfl ?_
      refine ⟨⟨_, rfl, fun e => ?_⟩, lkc⟩
      first
        | (simp [e] at g10; done)
        | (simp [e] at g17; done)
        | simp [e]
  ·
    refine xl_gs rfl EvO.eq ?_
    refine xl_gs rfl EvO.eq ?_
    refine xl_gs rfl EvO.eq ?_
    refine xl_gs rfl EvO.eq ?_
    refine xl_gs rfl EvO.eq ?_
    refine xl_v (by first | exact v_pickT | exact v_pickF | exact v_pick) ?_
    refine xl_v v_move ?_
    refine xl_gs rfl EvO.eq ?_
    refine xl_gs rfl EvO.eq ?_
    refine xl_gs rfl EvO.eq ?_
    refine xl_gs rfl EvO.eq ?_
    refine xl_gs rfl EvO.eq ?_
    refine xl_v (by first | exact v_pickT | exact v_pickF | exact v_pick) ?_
    refine xl_v v_assign ?_
    refine xl_nil ?_
    refine x_ret ?_
    refine fin1 rfl ?_
    refine ⟨⟨_, rfl, fun e => ?_⟩, lkc⟩
    first
      | (simp [e] at g10; done)
      | (simp [e] at g17; done)
      | simp [e]

/-- slices.EqualFunc[[]waystation/disk.thing,[]waystation/disk.thing,waystation/disk.thing,waystation/disk.thing] -/
theorem eqf_ok (A B : Option Addr) (n m c e : Nat) (xs ys : List LThing) (w : World) [hA : RowB w A w (xs.flatMap thingC)] [hB : RowB w B w (ys.flatMap thingC)] (hl : xs.length = n) (hl' : ys.length = m) (hn : n ≤ 1000000000) : Ret Try.prog 76 #[.slice A n c, .slice B m e, .func (.func 66) ([] : List Value).toArray ([] : List Value).toArray] w (fun v w' => (∃ b, v = .bool b ∧ (xs.map (·.t) = ys.map (·.t) → b = true) ∧ (n ≠ m → b = false)) ∧ Lk w' w NoB) := by
  refine ret_of_x (N := 32) (l := [.slice A n c, .slice B m e, .func (.func 66) ([] : List Value).toArray ([] : List Value).toArray]) Try.func76 rfl rfl (Nat.le_of_ble_eq_true rfl) ?_
  refine x_seq ?_
  refine x_regionL ?_
  refine xl_v v_assign ?_
  refine xl_nil ?_
  refine x_seq ?_
  refine x_seq ?_
  refine x_regionL ?_
  refine xl_v v_move ?_
  refine xl_v v_len ?_
  refine xl_v v_move ?_
  refine xl_v v_len ?_
  refine xl_v v_neq ?_
  refine xl_nil ?_
  first | refine x_condP (fun c1 => ?_) (fun c1 => ?_) | refine x_condN (fun c1 => ?_) (fun c1 => ?_) | refine x_condE (fun c1 => ?_) (fun c1 => ?_)
  ·
    refine x_seq ?_
    refine x_regionL ?_
    refine xl_v v_assign ?_
    refine xl_nil ?_
    refine x_ret ?_
    refine fin1 rfl ?_
    exact ⟨⟨false, rfl, fun h => by have := congrArg List.length h; simp at this; omega, fun _ => rfl⟩, lkc⟩
  ·
    have hnm : n = m := by omega
    refine x_skip ?_
    refine x_seq ?_
    refine x_seq ?_
    refine x_regionL ?_
    refine xl_v v_move ?_
    refine xl_v v_len ?_
    refine xl_v v_move ?_
    refine xl_nil ?_
    refine x_block ?_
    refine x_loop (fun mm τ ds w' => ds = [] ∧ ∃ k : Nat, mm = n - k ∧ k ≤ n ∧ Ev τ 1 (.slice B m e) ∧ Ev τ 2 (.func (.func 66) ([] : List Value).toArray ([] : List Value).toArray) ∧ Ev τ 15 (.slice A n c) ∧ Ev τ 16 (.int .i64 (n : Int)) ∧ Ev τ 17 (.int .i64 (k : Int)) ∧ Lk w' w NoB) (n) ?start ?round
    case start =>
      exact ⟨rfl, 0, rfl, Nat.zero_le _, inferInstance, inferInstance, inferInstance, inferInstance, evc, lkc⟩
    case round =>
      intro m τ1 ds1 w1 hI
      obtain ⟨rfl, k, rfl, hk, e1, e2, e15, e16, e17, lk⟩ := hI
      refine x_seq ?_
      refine x_regionL ?_
      refine xl_v v_lss ?_
      refine xl_nil ?_
      refine x_seq ?_
      first | refine x_condP (fun c2 => ?_) (fun c2 => ?_) | refine x_condN (fun c2 => ?_) (fun c2 => ?_) | refine x_condE (fun c2 => ?_) (fun c2 => ?_)
      ·
        have hk1 : k < xs.length := by omega
        have hk2 : k < ys.length := by omega
        refine x_skip ?_
        refine x_seq ?_
        refine x_block ?_
        refine x_seq ?_
        refine x_regionL ?_
        refine xl_v v_move ?_
        refine xl_v (v_indexF k (by decide) rfl (by omega) hk1) ?_
        refine xl_v (by first | exact v_loadA | exact v_loadF (by decide) (by omega)) ?_
        refine xl_e (e_alloc fun b2 w2 n2 l2 k2 => ?_)
        refine xl_v v_assign ?_
        refine xl_s (e_storeA fun w3 l3 k3 => ?_)
        refine xl_nil ?_
        refine x_seq ?_
        refine x_regionL ?_
        refine xl_v v_move ?_
        refine xl_v v_move ?_
        refine xl_v (v_indexF k (by decide) rfl (by omega) hk2) ?_
        refine xl_v (by first | exact v_loadA | exact v_loadF (by decide) (by omega)) ?_
        refine xl_e (e_alloc fun b4 w4 n4 l4 k4 => ?_)
        refine xl_s (e_storeA fun w5 l5 k5 => ?_)
        refine xl_nil ?_
        refine x_seq ?_
        refine x_regionL ?_
        refine xl_v v_move ?_
        refine xl_v (by first | exact v_loadA | exact v_loadF (by decide) (by omega)) ?_
        refine xl_v (by first | exact v_loadA | exact v_loadF (by decide) (by omega)) ?_
        refine xl_call (same2_ok xs[k] ys[k] w5) ?_
        rintro _ w6 ⟨⟨bs, rfl, hbs⟩, lk2⟩
        refine xl_v v_not ?_
        refine xl_nil ?_
        first | refine x_condP (fun c3 => ?_) (fun c3 => ?_) | refine x_condN (fun c3 => ?_) (fun c3 => ?_) | refine x_condE (fun c3 => ?_) (fun c3 => ?_)
        ·
          refine x_seq ?_
          refine x_regionL ?_
          refine xl_v v_assign ?_
          refine xl_nil ?_
          refine x_ret ?_
          refine fin1 rfl ?_
          refine ⟨⟨false, rfl, fun h => ?_, fun _ => rfl⟩, lkc⟩
          exfalso
          have h1 : (xs.map (·.t))[k]? = (ys.map (·.t))[k]? := by rw [h]
          have h2 : xs[k].t = ys[k].t := by simpa [hk1, hk2] using h1
          rw [hbs h2] at c3
          simp at c3
        ·
          refine x_skip ?_
          refine x_regionL ?_
          refine xl_v (v_add (by omega)) ?_
          refine xl_v v_move ?_
          refine xl_nil ?_
          refine ⟨_, ?_, rfl, k + 1, rfl, by omega, inferInstance, inferInstance, inferInstance, inferInstance, evc, lkc⟩
          omega
      ·
        refine x_exit ?_
        refine x_seq ?_
        refine x_regionL ?_
        refine xl_v v_assign ?_
        refine xl_nil ?_
        refine x_ret ?_
        refine fin1 rfl ?_
        exact ⟨⟨true, rfl, fun _ => rfl, fun h => absurd hnm h⟩, lkc⟩

/-- waystation/disk.like[waystation/disk.thing] -/
theorem like_ok (A B : Option Addr) (n m c e : Nat) (xs ys : List LThing) (w : World) [hA : RowB w A w (xs.flatMap thingC)] [hB : RowB w B w (ys.flatMap thingC)] (hl : xs.length = n) (hl' : ys.length = m) (hn : n ≤ 1000000000) : Ret Try.prog 65 #[.slice A n c, .slice B m e, .func (.func 66) ([] : List Value).toArray ([] : List Value).toArray] w (fun v w' => (∃ b, v = .bool b ∧ (xs.map (·.t) = ys.map (·.t) → b = true) ∧ (n ≠ m → b = false)) ∧ Lk w' w NoB) := by
  refine ret_of_x (N := 11) (l := [.slice A n c, .slice B m e, .func (.func 66) ([] : List Value).toArray ([] : List Value).toArray]) Try.func65 rfl rfl (Nat.le_of_ble_eq_true rfl) ?_
  refine x_seq ?_
  refine x_regionL ?_
  refine xl_v v_assign ?_
  refine xl_nil ?_
  refine x_seq ?_
  refine x_regionL ?_
  refine xl_v v_move ?_
  refine xl_v v_move ?_
  refine xl_v v_move ?_
  refine xl_call (eqf_ok A B n m c e xs ys w (hA := rowB_of (inferInstance : RowB w A w (xs.flatMap thingC)).row) (hB := rowB_of (inferInstance : RowB w B w (ys.flatMap thingC)).row) hl hl' hn) ?_
  rintro _ w1 ⟨⟨b, rfl, hb1, hb2⟩, lk1⟩
  refine xl_v v_assign ?_
  refine xl_nil ?_
  refine x_ret ?_
  refine fin1 rfl ?_
  exact ⟨⟨b, rfl, hb1, hb2⟩, lkc⟩

/-- waystation/disk.Same -/
theorem same_ok (P1 R1 P2 R2 : Nat → Prop) (a b : Nat) (M1 M2 : Disk) (w : World) (h : DiskW P1 R1 a M1 w) (h' : DiskW P2 R2 b M2 w) : Ret Try.prog 37 #[.pointer (some ⟨a, 0, none⟩), .pointer (some ⟨b, 0, none⟩)] w (fun v w' => (∃ r, v = .bool r ∧ (M1 = M2 → r = true) ∧ (M1.waits.length ≠ M2.waits.length → r = false) ∧ (M1.room ≠ M2.room → r = false)) ∧ Lk w' w NoB) := by
  obtain ⟨mb, ml, G, D, hD, hS, hP, hR⟩ := h
  obtain ⟨mb2, ml2, G2, D2, hD2, hS2, hP2, hR2⟩ := h'
  haveI ha : Blk w a _ := ⟨hD.hb⟩
  haveI hb : Blk w b _ := ⟨hD2.hb⟩
  have hq1 : M1 = M2 → ∀ k, akey (fsP D.cur) k = akey (fsP D2.cur) k := fun e k => by subst e; rw [hS.cur.eq, hS2.cur.eq]
  have hq2 : M1 = M2 → D.cur.length = D2.cur.length := fun e => by subst e; have h1 := hS.cur.len; have h2 := hS2.cur.len; rw [fsP_len] at h1 h2; omega
  have hq3 : M1 = M2 → ∀ k, akey (fsP D.lasts) k = akey (fsP D2.lasts) k := fun e k => by subst e; rw [hS.las.eq, hS2.las.eq]
  have hq4 : M1 = M2 → D.lasts.length = D2.lasts.length := fun e => by subst e; have h1 := hS.las.len; have h2 := hS2.las.len; rw [fsP_len] at h1 h2; omega
  have hq5 : M1 = M2 → D.waits.map (·.t) = D2.waits.map (·.t) := fun e => by subst e; rw [hS.waits, hS2.waits]
  have hw1 : D.waits.length = M1.waits.length := by rw [← hS.waits]; simp
  have hw2 : D2.waits.length = M2.waits.length := by rw [← hS2.waits]; simp
  have hr1 := hS.room
  have hr2 := hS2.room
  have hfw := hS.few
  have hu := hS.used
  have hmost := hS.ok.most
  have hub := hS.cur.used
  have hul := hS.las.used
  have hgl := hS.ok.good.used
  haveI hrw1 : RowB w D.A w (D.waits.flatMap thingC) := rowB_of (FRow.of_own hD.row).row
  haveI hrw2 : RowB w D2.A w (D2.waits.flatMap thingC) := rowB_of (FRow.of_own hD2.row).row
  refine ret_of_x (N := 66) (l := [.pointer (some ⟨a, 0, none⟩), .pointer (some ⟨b, 0, none⟩)]) Try.func37 rfl rfl (Nat.le_of_ble_eq_true rfl) ?_
  refine x_seq ?_
  refine x_regionL ?_
  refine xl_v v_assign ?_
  refine xl_nil ?_
  refine x_seq ?_
  refine x_seq ?_
  refine x_regionL ?_
  refine xl_v v_move ?_
  refine xl_call (none_ok a mb ml G D M1 w (hD.ext (kpc : Keep NoB w w)) hS) ?_
  rintro _ _ ⟨rfl, rfl⟩
  refine xl_v v_move ?_
  refine xl_gv rfl EvO.eq v_move ?_
  refine xl_gcall rfl EvO.eq (none_ok b mb2 ml2 G2 D2 M2 w (hD2.ext (kpc : Keep NoB w w)) hS2) ?_
  rintro _ _ ⟨rfl, rfl⟩
  refine xl_v (by first | exact v_pickT | exact v_pickF | exact v_pick) ?_
  refine xl_nil ?_
  refine x_condF ?_
  refine x_skip ?_
  refine x_seq ?_
  refine x_regionL ?_
  refine xl_v v_assign ?_
  refine xl_nil ?_
  refine x_seq ?_
  refine x_drawL (NoB) (.take 0 (.take 1 (.take 2 (.take 3 (.take 4 (.take 5 (.take 6 (.take 7 (.take 8 (.take 9 (.take 10 (.take 11 (.take 12 (.take 13 (.take 14 (.take 15 (.take 16 (.take 17 (.take 18 (.take 19 (.take 20 (.eff 21 (.take 22 (.take 23 (.take 24 (.take 25 (.take 26 (.take 27 (.take 28 (.take 29 (.take 30 (.take 31 (.take 32 (.take 33 (.take 34 (.eff 35 (.take 36 (.take 37 (.take 38 (.take 39 (.take 40 (.take 41 (.take 42 (.take 43 (.take 44 (.take 45 (.eff 46 (.take 47 (.take 48 .done))))))))))))))))))))))))))))))))))))))))))))))))) mixed (by kernel_rfl) (fun _ _ _ _ _ h => h) (fun w3 l3 => ?_)
  refine xt_v rfl v_move ?_
  refine xt_v rfl (by first | exact v_nilCheckP | exact v_nilCheckF) ?_
  refine xt_v rfl (by first | exact v_fieldAddr | exact v_fieldAddrF (by decide) (by omega) | exact v_fieldAddrR (by first | assumption | rfl)) ?_
  refine xt_v rfl (by first | exact v_load | exact v_loadO (by omega) | exact v_loadFf (by omega) | exact v_loadF0 (by omega)) ?_
  refine xt_v rfl v_move ?_
  refine xt_v rfl (by first | exact v_nilCheckP | exact v_nilCheckF) ?_
  refine xt_v rfl (by first | exact v_fieldAddr | exact v_fieldAddrF (by decide) (by omega) | exact v_fieldAddrR (by first | assumption | rfl)) ?_
  refine xt_v rfl (by first | exact v_load | exact v_loadO (by omega) | exact v_loadFf (by omega) | exact v_loadF0 (by omega)) ?_
  refine xt_v rfl v_eql ?_
  refine xt_v rfl v_move ?_
  refine xt_split 27 (fun g27 => ?_) (fun g27 => ?_)
  ·
    refine xt_gv rfl rfl EvO.eq v_move ?_
    refine xt_gv rfl rfl EvO.eq (by first | exact v_nilCheckP | exact v_nilCheckF) ?_
    refine xt_gv rfl rfl EvO.eq (by first | exact v_fieldAddr | exact v_fieldAddrF (by decide) (by omega) | exact v_fieldAddrR (by first | assumption | rfl)) ?_
    refine xt_gv rfl rfl EvO.eq (by first | exact v_fieldAddr | exact v_fieldAddrF (by decide) (by omega) | exact v_fieldAddrR (by first | assumption | rfl)) ?_
    refine xt_gv rfl rfl EvO.eq (by first | exact v_load | exact v_loadO (by omega) | exact v_loadFf (by omega) | exact v_loadF0 (by omega)) ?_
    refine xt_gv rfl rfl EvO.eq v_move ?_
    refine xt_gv rfl rfl EvO.eq (by first | exact v_nilCheckP | exact v_nilCheckF) ?_
    refine xt_gv rfl rfl EvO.eq (by first | exact v_fieldAddr | exact v_fieldAddrF (by decide) (by omega) | exact v_fieldAddrR (by first | assumption | rfl)) ?_
    refine xt_gv rfl rfl EvO.eq (by first | exact v_fieldAddr | exact v_fieldAddrF (by decide) (by omega) | exact v_fieldAddrR (by first | assumption | rfl)) ?_
    refine xt_gv rfl rfl EvO.eq (by first | exact v_load | exact v_loadO (by omega) | exact v_loadFf (by omega) | exact v_loadF0 (by omega)) ?_
    refine xt_gv rfl rfl EvO.eq v_move ?_
    refine xt_gcall rfl rfl EvO.eq (mequal_ok mb mb2 D.cur D2.cur G G2 w3 (hD.cur.ext (kpc : Keep NoB w w3)) (hD2.cur.ext (kpc : Keep NoB w w3)) (fun p hp => by
          have h1 := used_at hD.cur.nodup p.1
          have h2 := fsP_key hD.cur.nodup hp
          have h3 := fsP_at D.cur p.1
          rw [h2] at h3
          have h4 : p.2.bytes = (atB D.cur p.1).bytes := h3
          rw [h4]; omega)) ?_
    rintro _ w4 ⟨⟨b1, rfl, hb1⟩, lk1⟩
    refine ⟨kpc, ?_⟩
    refine xt_v rfl (by first | exact v_pickT | exact v_pickF | exact v_pick) ?_
    refine xt_v rfl v_move ?_
    refine xt_split 41 (fun g41 => ?_) (fun g41 => ?_)
    ·
      refine xt_gv rfl rfl EvO.eq v_move ?_
      refine xt_gv rfl rfl EvO.eq (by first | exact v_nilCheckP | exact v_nilCheckF) ?_
      refine xt_gv rfl rfl EvO.eq (by first | exact v_fieldAddr | exact v_fieldAddrF (by decide) (by omega) | exact v_fieldAddrR (by first | assumption | rfl)) ?_
      refine xt_gv rfl rfl EvO.eq (by first | exact v_fieldAddr | exact v_fieldAddrF (by decide) (by omega) | exact v_fieldAddrR (by first | assumption | rfl)) ?_
      refine xt_gv rfl rfl EvO.eq (by first | exact v_load | exact v_loadO (by omega) | exact v_loadFf (by omega) | exact v_loadF0 (by omega)) ?_
      refine xt_gv rfl rfl EvO.eq v_move ?_
      refine xt_gv rfl rfl EvO.eq (by first | exact v_nilCheckP | exact v_nilCheckF) ?_
      refine xt_gv rfl rfl EvO.eq (by first | exact v_fieldAddr | exact v_fieldAddrF (by decide) (by omega) | exact v_fieldAddrR (by first | assumption | rfl)) ?_
      refine xt_gv rfl rfl EvO.eq (by first | exact v_fieldAddr | exact v_fieldAddrF (by decide) (by omega) | exact v_fieldAddrR (by first | assumption | rfl)) ?_
      refine xt_gv rfl rfl EvO.eq (by first | exact v_load | exact v_loadO (by omega) | exact v_loadFf (by omega) | exact v_loadF0 (by omega)) ?_
      refine xt_gv rfl rfl EvO.eq v_move ?_
      refine xt_gcall rfl rfl EvO.eq (mequal_ok ml ml2 D.lasts D2.lasts G G2 w4 (hD.las.ext (kpc : Keep NoB w w4)) (hD2.las.ext (kpc : Keep NoB w w4)) (fun p hp => by
            have h1 := used_at hD.las.nodup p.1
            have h2 := fsP_key hD.las.nodup hp
            have h3 := fsP_at D.lasts p.1
            rw [h2] at h3
            have h4 : p.2.bytes = (atB D.lasts p.1).bytes := h3
            rw [h4]; omega)) ?_
      rintro _ w5 ⟨⟨b2, rfl, hb2⟩, lk2⟩
      refine ⟨kpc, ?_⟩
      refine xt_v rfl (by first | exact v_pickT | exact v_pickF | exact v_pick) ?_
      refine xt_v rfl v_move ?_
      refine xt_split 55 (fun g55 => ?_) (fun g55 => ?_)
      ·
        refine xt_gv rfl rfl EvO.eq v_move ?_
        refine xt_gv rfl rfl EvO.eq (by first | exact v_nilCheckP | exact v_nilCheckF) ?_
        refine xt_gv rfl rfl EvO.eq (by first | exact v_fieldAddr | exact v_fieldAddrF (by decide) (by omega) | exact v_fieldAddrR (by first | assumption | rfl)) ?_
        refine xt_gv rfl rfl EvO.eq (by first | exact v_load | exact v_loadO (by omega) | exact v_loadFf (by omega) | exact v_loadF0 (by omega)) ?_
        refine xt_gv rfl rfl EvO.eq v_move ?_
        refine xt_gv rfl rfl EvO.eq (by first | exact v_nilCheckP | exact v_nilCheckF) ?_
        refine xt_gv rfl rfl EvO.eq (by first | exact v_fieldAddr | exact v_fieldAddrF (by decide) (by omega) | exact v_fieldAddrR (by first | assumption | rfl)) ?_
        refine xt_gv rfl rfl EvO.eq (by first | exact v_load | exact v_loadO (by omega) | exact v_loadFf (by omega) | exact v_loadF0 (by omega)) ?_
        refine xt_gcall rfl rfl EvO.eq (like_ok D.A D2.A D.waits.length D2.waits.length D.c D2.c D.waits D2.waits w5 (hA := rowB_of (inferInstance : RowB w5 D.A w (D.waits.flatMap thingC)).row) (hB := rowB_of (inferInstance : RowB w5 D2.A w (D2.waits.flatMap thingC)).row) rfl rfl (by omega)) ?_
        rintro _ w6 ⟨⟨b3, rfl, hb3, hb4⟩, lk3⟩
        refine ⟨kpc, ?_⟩
        refine xt_v rfl (by first | exact v_pickT | exact v_pickF | exact v_pick) ?_
        refine xt_v rfl v_assign ?_
        refine xt_nil ?_
        refine x_ret ?_
        refine fin1 rfl ?_
        refine ⟨⟨_, rfl, fun e => ?_, fun e => ?_, fun e => ?_⟩, lkc⟩
        · first
            | exact hb3 (hq5 e)
            | (rw [hb2 (hq3 e) (hq4 e)] at g55; cases g55)
            | (rw [hb1 (hq1 e) (hq2 e)] at g41; cases g41)
            | (exfalso; rw [hr1, hr2, e] at g27; simp at g27)
        · first
            | rfl
            | exact hb4 (by omega)
        · first
            | rfl
            | (exfalso; rw [hr1, hr2] at g27; simp at g27; exact e g27)
            | (exfalso; rw [hr1, hr2] at g27; exact e (of_decide_eq_true g27))
      ·
        refine xt_gs rfl rfl EvO.eq ?_
        refine xt_gs rfl rfl EvO.eq ?_
        refine xt_gs rfl rfl EvO.eq ?_
        refine xt_gs rfl rfl EvO.eq ?_
        refine xt_gs rfl rfl EvO.eq ?_
        refine xt_gs rfl rfl EvO.eq ?_
        refine xt_gs rfl rfl EvO.eq ?_
        refine xt_gs rfl rfl EvO.eq ?_
        refine xt_gse rfl rfl EvO.eq ?_
        refine xt_v rfl (by first | exact v_pickT | exact v_pickF | exact v_pick) ?_
        refine xt_v rfl v_assign ?_
        refine xt_nil ?_
        refine x_ret ?_
        refine fin1 rfl ?_
        refine ⟨⟨_, rfl, fun e => ?_, fun e => ?_, fun e => ?_⟩, lkc⟩
        · first
            | exact hb3 (hq5 e)
            | (rw [hb2 (hq3 e) (hq4 e)] at g55; cases g55)
            | (rw [hb1 (hq1 e) (hq2 e)] at g41; cases g41)
            | (exfalso; rw [hr1, hr2, e] at g27; simp at g27)
        · first
            | rfl
            | exact hb4 (by omega)
        · first
            | rfl
            | (exfalso; rw [hr1, hr2] at g27; simp at g27; exact e g27)
            | (exfalso; rw [hr1, hr2] at g27; exact e (of_decide_eq_true g27))
    ·
      refine xt_gs rfl rfl EvO.eq ?_
      refine xt_gs rfl rfl EvO.eq ?_
      refine xt_gs rfl rfl EvO.eq ?_
      refine xt_gs rfl rfl EvO.eq ?_
      refine xt_gs rfl rfl EvO.eq ?_
      refine xt_gs rfl rfl EvO.eq ?_
      refine xt_gs rfl rfl EvO.eq ?_
      refine xt_gs rfl rfl EvO.eq ?_
      refine xt_gs rfl rfl EvO.eq ?_
      refine xt_gs rfl rfl EvO.eq ?_
      refine xt_gs rfl rfl EvO.eq ?_
      refine xt_gse rfl rfl EvO.eq ?_
      refine xt_v rfl (by first | exact v_pickT | exact v_pickF | exact v_pick) ?_
      refine xt_v rfl v_move ?_
      refine xt_gs rfl rfl EvO.eq ?_
      refine xt_gs rfl rfl EvO.eq ?_
      refine xt_gs rfl rfl EvO.eq ?_
      refine xt_gs rfl rfl EvO.eq ?_
      refine xt_gs rfl rfl EvO.eq ?_
      refine xt_gs rfl rfl EvO.eq ?_
      refine xt_gs rfl rfl EvO.eq ?_
      refine xt_gs rfl rfl EvO.eq ?_
      refine xt_gse rfl rfl EvO.eq ?_
      refine xt_v rfl (by first | exact v_pickT | exact v_pickF | exact v_pick) ?_
      refine xt_v rfl v_assign ?_
      refine xt_nil ?_
      refine x_ret ?_
      refine fin1 rfl ?_
      refine ⟨⟨_, rfl, fun e => ?_, fun e => ?_, fun e => ?_⟩, lkc⟩
      · first
          | exact hb3 (hq5 e)
          | (rw [hb2 (hq3 e) (hq4 e)] at g55; cases g55)
          | (rw [hb1 (hq1 e) (hq2 e)] at g41; cases g41)
          | (exfalso; rw [hr1, hr2, e] at g27; simp at g27)
      · first
          | rfl
          | exact hb4 (by omega)
      · first
          | rfl
          | (exfalso; rw [hr1, hr2] at g27; simp at g27; exact e g27)
          | (exfalso; rw [hr1, hr2] at g27; exact e (of_decide_eq_true g27))
  ·
    refine xt_gs rfl rfl EvO.eq ?_
    refine xt_gs rfl rfl EvO.eq ?_
    refine xt_gs rfl rfl EvO.eq ?_
    refine xt_gs rfl rfl EvO.eq ?_
    refine xt_gs rfl rfl EvO.eq ?_
    refine xt_gs rfl rfl EvO.eq ?_
    refine xt_gs rfl rfl EvO.eq ?_
    refine xt_gs rfl rfl EvO.eq ?_
    refine xt_gs rfl rfl EvO.eq ?_
    refine xt_gs rfl rfl EvO.eq ?_
    refine xt_gs rfl rfl EvO.eq ?_
    refine xt_gse rfl rfl EvO.eq ?_
    refine xt_v rfl (by first | exact v_pickT | exact v_pickF | exact v_pick) ?_
    refine xt_v rfl v_move ?_
    refine xt_gs rfl rfl EvO.eq ?_
    refine xt_gs rfl rfl EvO.eq ?_
    refine xt_gs rfl rfl EvO.eq ?_
    refine xt_gs rfl rfl EvO.eq ?_
    refine xt_gs rfl rfl EvO.eq ?_
    refine xt_gs rfl rfl EvO.eq ?_
    refine xt_gs rfl rfl EvO.eq ?_
    refine xt_gs rfl rfl EvO.eq ?_
    refine xt_gs rfl rfl EvO.eq ?_
    refine xt_gs rfl rfl EvO.eq ?_
    refine xt_gs rfl rfl EvO.eq ?_
    refine xt_gse rfl rfl EvO.eq ?_
    refine xt_v rfl (by first | exact v_pickT | exact v_pickF | exact v_pick) ?_
    refine xt_v rfl v_move ?_
    refine xt_gs rfl rfl EvO.eq ?_
    refine xt_gs rfl rfl EvO.eq ?_
    refine xt_gs rfl rfl EvO.eq ?_
    refine xt_gs rfl rfl EvO.eq ?_
    refine xt_gs rfl rfl EvO.eq ?_
    refine xt_gs rfl rfl EvO.eq ?_
    refine xt_gs rfl rfl EvO.eq ?_
    refine xt_gs rfl rfl EvO.eq ?_
    refine xt_gse rfl rfl EvO.eq ?_
    refine xt_v rfl (by first | exact v_pickT | exact v_pickF | exact v_pick) ?_
    refine xt_v rfl v_assign ?_
    refine xt_nil ?_
    refine x_ret ?_
    refine fin1 rfl ?_
    refine ⟨⟨_, rfl, fun e => ?_, fun e => ?_, fun e => ?_⟩, lkc⟩
    · first
        | exact hb3 (hq5 e)
        | (rw [hb2 (hq3 e) (hq4 e)] at g55; cases g55)
        | (rw [hb1 (hq1 e) (hq2 e)] at g41; cases g41)
        | (exfalso; rw [hr1, hr2, e] at g27; simp at g27)
    · first
        | rfl
        | exact hb4 (by omega)
    · first
        | rfl
        | (exfalso; rw [hr1, hr2] at g27; simp at g27; exact e g27)
        | (exfalso; rw [hr1, hr2] at g27; exact e (of_decide_eq_true g27))
end Go.Proofs.Ytabknhgbijcklaa
