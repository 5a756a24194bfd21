/-
  Walks, printed by a program of this workplace (wip/tools/sx.py) off the functions' code and a text of contracts.
-/
import Derived.Test.YtacadajlpmhcfaaT
set_option linter.all false
set_option maxRecDepth 100000
set_option synthInstance.maxSize 100000
set_option synthInstance.maxHeartbeats 400000
namespace Go.Proofs.Ytacadajlpmhcfaa
open Go.Wst
open Go.Wst.Nm
section
variable {P : Program} {r : Option Nat} {N : Nat} {S : Nat → Prop} {τ : Tau} {w : World} {ty : TypeId}
theorem v_beql {x y : Operand} {t t' : TypeId} {a b : Bool} [hx : EvO N τ x (.bool a)] [hy : EvO N τ y (.bool b)] [h : Und P t .bool] : Val P r N S (.binOp .eql t x y t') ty τ w (.bool (a == b)) := ⟨fun _ => nofun, fun W _ => by
  have e := run_equalIn_bool W 9999 t a b h.eq
  simp [execOp, hx.eq, hy.eq, eqGuard, binOp, Op.equal, show Op.maxDepth = 9999 + 1 from rfl, e]⟩
end
theorem ref_eq {R Q : RefL} (hm : R.most = Q.most) (hc : R.came = Q.came) (hl : R.l.length = Q.l.length) (h : ∀ j (h1 : j < R.l.length) (h2 : j < Q.l.length), R.l[j].1 = Q.l[j].1 ∧ R.l[j].2.m = Q.l[j].2.m) : R.pure = Q.pure := by
  have e : R.l.map (fun p => (p.1, p.2.m)) = Q.l.map (fun p => (p.1, p.2.m)) := by
    apply List.ext_getElem (by simpa using hl)
    intro j h1 h2
    have h3 := h j (by simpa using h1) (by simpa using h2)
    simp [h3.1, h3.2]
  show Net.mk R.most R.came (R.l.map (fun p => (p.1, p.2.m))) = Net.mk Q.most Q.came (Q.l.map (fun p => (p.1, p.2.m)))
  rw [hm, hc, e]
theorem ref_at {R Q : RefL} (e : R.pure = Q.pure) (j : Nat) (h1 : j < R.l.length) (h2 : j < Q.l.length) : R.l[j].1 = Q.l[j].1 ∧ R.l[j].2.m = Q.l[j].2.m := by
  have h3 : R.pure.l[j]? = Q.pure.l[j]? := by rw [e]
  simp [RefL.pure, h1, h2] at h3
  exact h3

/-- waystation/waystationref05.Same -/
theorem refsame_ok (R Q : RefL) (F E : Nat → Prop) (w : World) (h : RefAt w F R) (h' : RefAt w E Q) (hlR : R.l.length ≤ 1000000) (hlQ : Q.l.length ≤ 1000000) : Ret Try.prog 29 #[.agg (refC R).toArray, .agg (refC Q).toArray] w (fun v w' => v = .bool (decide (R.pure = Q.pure)) ∧ Lk w' w NoB) := by
  refine ret_of_x (N := 63) (l := [.agg (refC R).toArray, .agg (refC Q).toArray]) Try.func29 rfl rfl (Nat.le_of_ble_eq_true rfl) ?_
  refine x_seq ?_
  refine x_regionL ?_
  refine xl_e (e_box fun b1 w1 n1 l1 k1 => ?_)
  refine xl_e (e_box fun b2 w2 n2 l2 k2 => ?_)
  refine xl_v v_assign ?_
  refine xl_nil ?_
  refine x_seq ?_
  refine x_seq ?_
  refine x_regionL ?_
  refine xl_v (by first | exact v_fieldAddr | exact v_fieldAddrF (by decide) (by omega) | exact v_fieldAddrR (by first | assumption | rfl)) ?_
  refine xl_v (by first | exact v_load | exact v_loadO (by omega) | exact v_loadFf (by omega) | exact v_loadF0 (by omega)) ?_
  refine xl_v (by first | exact v_fieldAddr | exact v_fieldAddrF (by decide) (by omega) | exact v_fieldAddrR (by first | assumption | rfl)) ?_
  refine xl_v (by first | exact v_load | exact v_loadO (by omega) | exact v_loadFf (by omega) | exact v_loadF0 (by omega)) ?_
  refine xl_v v_neq ?_
  refine xl_v v_move ?_
  refine xl_split 11 (fun g11 => ?_) (fun g11 => ?_)
  ·
    refine xl_gs rfl EvO.eq ?_
    refine xl_gs rfl EvO.eq ?_
    refine xl_gs rfl EvO.eq ?_
    refine xl_gs rfl EvO.eq ?_
    refine xl_gs rfl EvO.eq ?_
    refine xl_v (by first | exact v_pickT | exact v_pickF | exact v_pick) ?_
    refine xl_v v_move ?_
    refine xl_gs rfl EvO.eq ?_
    refine xl_gs rfl EvO.eq ?_
    refine xl_gs rfl EvO.eq ?_
    refine xl_gs rfl EvO.eq ?_
    refine xl_gs rfl EvO.eq ?_
    refine xl_gs rfl EvO.eq ?_
    refine xl_gs rfl EvO.eq ?_
    refine xl_v (by first | exact v_pickT | exact v_pickF | exact v_pick) ?_
    refine xl_nil ?_
    refine x_condT ?_
    refine x_seq ?_
    refine x_regionL ?_
    refine xl_v v_assign ?_
    refine xl_nil ?_
    refine x_ret ?_
    refine fin1 rfl ?_
    refine ⟨congrArg Value.bool (Eq.symm (decide_eq_false fun e => ?_)), lkc⟩
    have h1 : R.most = Q.most := congrArg Net.most e
    have h2 : R.came = Q.came := congrArg Net.came e
    have h3 : R.l.length = Q.l.length := by rw [← ref_len, ← ref_len, e]
    first
      | omega
      | (simp at c1; omega)
      | (simp at g11; omega)
      | (simp at g18; omega)
  ·
    refine xl_gv rfl EvO.eq (by first | exact v_fieldAddr | exact v_fieldAddrF (by decide) (by omega) | exact v_fieldAddrR (by first | assumption | rfl)) ?_
    refine xl_gv rfl EvO.eq (by first | exact v_load | exact v_loadO (by omega) | exact v_loadFf (by omega) | exact v_loadF0 (by omega)) ?_
    refine xl_gv rfl EvO.eq (by first | exact v_fieldAddr | exact v_fieldAddrF (by decide) (by omega) | exact v_fieldAddrR (by first | assumption | rfl)) ?_
    refine xl_gv rfl EvO.eq (by first | exact v_load | exact v_loadO (by omega) | exact v_loadFf (by omega) | exact v_loadF0 (by omega)) ?_
    refine xl_gv rfl EvO.eq v_neq ?_
    refine xl_v (by first | exact v_pickT | exact v_pickF | exact v_pick) ?_
    refine xl_v v_move ?_
    refine xl_split 18 (fun g18 => ?_) (fun g18 => ?_)
    ·
      refine xl_gs rfl EvO.eq ?_
      refine xl_gs rfl EvO.eq ?_
      refine xl_gs rfl EvO.eq ?_
      refine xl_gs rfl EvO.eq ?_
      refine xl_gs rfl EvO.eq ?_
      refine xl_gs rfl EvO.eq ?_
      refine xl_gs rfl EvO.eq ?_
      refine xl_v (by first | exact v_pickT | exact v_pickF | exact v_pick) ?_
      refine xl_nil ?_
      refine x_condT ?_
      refine x_seq ?_
      refine x_regionL ?_
      refine xl_v v_assign ?_
      refine xl_nil ?_
      refine x_ret ?_
      refine fin1 rfl ?_
      refine ⟨congrArg Value.bool (Eq.symm (decide_eq_false fun e => ?_)), lkc⟩
      have h1 : R.most = Q.most := congrArg Net.most e
      have h2 : R.came = Q.came := congrArg Net.came e
      have h3 : R.l.length = Q.l.length := by rw [← ref_len, ← ref_len, e]
      first
        | omega
        | (simp at c1; omega)
        | (simp at g11; omega)
        | (simp at g18; omega)
    ·
      refine xl_gv rfl EvO.eq (by first | exact v_fieldAddr | exact v_fieldAddrF (by decide) (by omega) | exact v_fieldAddrR (by first | assumption | rfl)) ?_
      refine xl_gv rfl EvO.eq (by first | exact v_load | exact v_loadO (by omega) | exact v_loadFf (by omega) | exact v_loadF0 (by omega)) ?_
      refine xl_gv rfl EvO.eq v_len ?_
      refine xl_gv rfl EvO.eq (by first | exact v_fieldAddr | exact v_fieldAddrF (by decide) (by omega) | exact v_fieldAddrR (by first | assumption | rfl)) ?_
      refine xl_gv rfl EvO.eq (by first | exact v_load | exact v_loadO (by omega) | exact v_loadFf (by omega) | exact v_loadF0 (by omega)) ?_
      refine xl_gv rfl EvO.eq v_len ?_
      refine xl_gv rfl EvO.eq v_neq ?_
      refine xl_v (by first | exact v_pickT | exact v_pickF | exact v_pick) ?_
      refine xl_nil ?_
      first | refine x_condP (fun c1 => ?_) (fun c1 => ?_) | refine x_condN (fun c1 => ?_) (fun c1 => ?_) | refine x_condE (fun c1 => ?_) (fun c1 => ?_)
      ·
        refine x_seq ?_
        refine x_regionL ?_
        refine xl_v v_assign ?_
        refine xl_nil ?_
        refine x_ret ?_
        refine fin1 rfl ?_
        refine ⟨congrArg Value.bool (Eq.symm (decide_eq_false fun e => ?_)), lkc⟩
        have h1 : R.most = Q.most := congrArg Net.most e
        have h2 : R.came = Q.came := congrArg Net.came e
        have h3 : R.l.length = Q.l.length := by rw [← ref_len, ← ref_len, e]
        first
          | omega
          | (simp at c1; omega)
          | (simp at g11; omega)
          | (simp at g18; omega)
      ·
        have hm1 : R.most = Q.most := by
          first
            | omega
            | (simp at g11; omega)
        have hc1 : R.came = Q.came := by
          first
            | omega
            | (simp at g18; omega)
        have hl1 : R.l.length = Q.l.length := by
          first
            | omega
            | (simp at c1; omega)
        refine x_skip ?_
        refine x_seq ?_
        refine x_seq ?_
        refine x_regionL ?_
        refine xl_v v_assign ?_
        refine xl_nil ?_
        refine x_block ?_
        have hRL := h.ext (kpc : Keep NoB w w2)
        have hQL := h'.ext (kpc : Keep NoB w w2)
        refine x_loop (fun m τ ds w' => ds = [] ∧ ∃ k : Nat, m = R.l.length - k ∧ k ≤ R.l.length ∧ (∀ j (h1 : j < R.l.length) (h2 : j < Q.l.length), j < k → R.l[j].1 = Q.l[j].1 ∧ R.l[j].2.m = Q.l[j].2.m) ∧ Ev τ 2 (.pointer (some ⟨b1, 0, none⟩)) ∧ Ev τ 3 (.pointer (some ⟨b2, 0, none⟩)) ∧ Ev τ 5 (.int .i64 (k : Int)) ∧ Lk w' w2 NoB) (R.l.length) ?start ?round
        case start =>
          exact ⟨rfl, 0, rfl, by omega, fun j _ _ h => by omega, inferInstance, inferInstance, evc, lkc⟩
        case round =>
          intro m τ3 ds3 w3 hI
          obtain ⟨rfl, k, rfl, hk, hall, e2, e3, e5, lk⟩ := hI
          have hRr := hRL.ext lk.keep
          have hQr := hQL.ext lk.keep
          refine x_seq ?_
          refine x_seq ?_
          refine x_regionL ?_
          refine xl_v v_move ?_
          refine xl_v (by first | exact v_fieldAddr | exact v_fieldAddrF (by decide) (by omega) | exact v_fieldAddrR (by first | assumption | rfl)) ?_
          refine xl_v (by first | exact v_load | exact v_loadO (by omega) | exact v_loadFf (by omega) | exact v_loadF0 (by omega)) ?_
          refine xl_v v_len ?_
          refine xl_v v_lss ?_
          refine xl_nil ?_
          first | refine x_condP (fun c2 => ?_) (fun c2 => ?_) | refine x_condN (fun c2 => ?_) (fun c2 => ?_) | refine x_condE (fun c2 => ?_) (fun c2 => ?_)
          ·
            have hkR : k < R.l.length := by omega
            have hkQ : k < Q.l.length := by omega
            haveI : Row w3 R.A (R.l.flatMap itemC) := ⟨hRr.row.row⟩
            haveI : Row w3 Q.A (Q.l.flatMap itemC) := ⟨hQr.row.row⟩
            haveI : Row w3 R.l[k].2.A (bytesC R.l[k].2.m.bytes) := ⟨(hRr.items _ (List.getElem_mem hkR)).row⟩
            haveI : Row w3 Q.l[k].2.A (bytesC Q.l[k].2.m.bytes) := ⟨(hQr.items _ (List.getElem_mem hkQ)).row⟩
            have hRA : R.A.isSome = true := row_some (w := w3) (A := R.A) (cs := R.l.flatMap itemC) inferInstance (by rw [flat_len (sz := 4) (fun _ => rfl)]; omega)
            have hQA : Q.A.isSome = true := row_some (w := w3) (A := Q.A) (cs := Q.l.flatMap itemC) inferInstance (by rw [flat_len (sz := 4) (fun _ => rfl)]; omega)
            refine x_skip ?_
            refine x_seq ?_
            refine x_block ?_
            refine x_seq ?_
            refine x_drawL (NoB) (.take 0 (.take 1 (.take 2 (.take 3 (.take 4 (.take 5 (.take 6 (.take 7 (.take 8 (.take 9 (.take 10 (.take 11 (.take 12 (.take 13 (.take 14 (.take 15 (.take 16 (.take 17 (.take 18 (.take 19 (.take 20 (.take 21 (.take 22 (.take 23 (.take 24 (.take 25 (.eff 26 (.take 27 (.take 28 .done))))))))))))))))))))))))))))) mixed (by kernel_rfl) (fun _ _ _ _ _ h => h) (fun w4 l4 => ?_)
            refine xt_v rfl (by first | exact v_fieldAddr | exact v_fieldAddrF (by decide) (by omega) | exact v_fieldAddrR (by first | assumption | rfl)) ?_
            refine xt_v rfl (by first | exact v_load | exact v_loadO (by omega) | exact v_loadFf (by omega) | exact v_loadF0 (by omega)) ?_
            refine xt_v rfl v_move ?_
            refine xt_v rfl (v_indexF k (by decide) rfl (by omega) hkR) ?_
            refine xt_v rfl (by first | exact v_fieldAddr | exact v_fieldAddrF (by decide) (by omega) | exact v_fieldAddrR (by first | assumption | rfl)) ?_
            refine xt_v rfl (v_loadF0 hkR) ?_
            refine xt_v rfl (by first | exact v_fieldAddr | exact v_fieldAddrF (by decide) (by omega) | exact v_fieldAddrR (by first | assumption | rfl)) ?_
            refine xt_v rfl (by first | exact v_load | exact v_loadO (by omega) | exact v_loadFf (by omega) | exact v_loadF0 (by omega)) ?_
            refine xt_v rfl v_move ?_
            refine xt_v rfl (v_indexF k (by decide) rfl (by omega) hkQ) ?_
            refine xt_v rfl (by first | exact v_fieldAddr | exact v_fieldAddrF (by decide) (by omega) | exact v_fieldAddrR (by first | assumption | rfl)) ?_
            refine xt_v rfl (v_loadF0 hkQ) ?_
            refine xt_v rfl v_neq ?_
            refine xt_v rfl v_move ?_
            refine xt_split 47 (fun g47 => ?_) (fun g47 => ?_)
            ·
              refine xt_gs rfl rfl EvO.eq ?_
              refine xt_gs rfl rfl EvO.eq ?_
              refine xt_gs rfl rfl EvO.eq ?_
              refine xt_gs rfl rfl EvO.eq ?_
              refine xt_gs rfl rfl EvO.eq ?_
              refine xt_gs rfl rfl EvO.eq ?_
              refine xt_gs rfl rfl EvO.eq ?_
              refine xt_gs rfl rfl EvO.eq ?_
              refine xt_gs rfl rfl EvO.eq ?_
              refine xt_gs rfl rfl EvO.eq ?_
              refine xt_gs rfl rfl EvO.eq ?_
              refine xt_gs rfl rfl EvO.eq ?_
              refine xt_gse rfl rfl EvO.eq ?_
              refine xt_gs rfl rfl EvO.eq ?_
              refine xt_v rfl (by first | exact v_pickT | exact v_pickF | exact v_pick) ?_
              refine xt_nil ?_
              refine x_condT ?_
              refine x_seq ?_
              refine x_regionL ?_
              refine xl_v v_assign ?_
              refine xl_nil ?_
              refine x_ret ?_
              refine fin1 rfl ?_
              refine ⟨congrArg Value.bool (Eq.symm (decide_eq_false fun e => ?_)), lkc⟩
              have h1 := ref_at e k hkR hkQ
              first
                | exact c3 h1.2
                | (simp at c3; exact c3 h1.2)
                | (simp at g47; exact g47 h1.1)
                | (simp at c3; exact c3 h1.1)
            ·
              refine xt_gv rfl rfl EvO.eq (by first | exact v_fieldAddr | exact v_fieldAddrF (by decide) (by omega) | exact v_fieldAddrR (by first | assumption | rfl)) ?_
              refine xt_gv rfl rfl EvO.eq (by first | exact v_load | exact v_loadO (by omega) | exact v_loadFf (by omega) | exact v_loadF0 (by omega)) ?_
              refine xt_gv rfl rfl EvO.eq v_move ?_
              refine xt_gv rfl rfl EvO.eq (v_indexF k (by decide) rfl (by omega) hkR) ?_
              refine xt_gv rfl rfl EvO.eq (by first | exact v_fieldAddr | exact v_fieldAddrF (by decide) (by omega) | exact v_fieldAddrR (by first | assumption | rfl)) ?_
              refine xt_gv rfl rfl EvO.eq (v_loadRA (vs := msgC R.l[k].2) rfl hRA (fun ii u hii => by rw [Nat.add_assoc, Nat.add_comm 1 ii]; exact flat_get (enc := itemC) (fun _ => rfl) R.l k hkR (ii + 1) u hii)) ?_
              refine xt_gv rfl rfl EvO.eq (by first | exact v_fieldAddr | exact v_fieldAddrF (by decide) (by omega) | exact v_fieldAddrR (by first | assumption | rfl)) ?_
              refine xt_gv rfl rfl EvO.eq (by first | exact v_load | exact v_loadO (by omega) | exact v_loadFf (by omega) | exact v_loadF0 (by omega)) ?_
              refine xt_gv rfl rfl EvO.eq v_move ?_
              refine xt_gv rfl rfl EvO.eq (v_indexF k (by decide) rfl (by omega) hkQ) ?_
              refine xt_gv rfl rfl EvO.eq (by first | exact v_fieldAddr | exact v_fieldAddrF (by decide) (by omega) | exact v_fieldAddrR (by first | assumption | rfl)) ?_
              refine xt_gv rfl rfl EvO.eq (v_loadRA (vs := msgC Q.l[k].2) rfl hQA (fun ii u hii => by rw [Nat.add_assoc, Nat.add_comm 1 ii]; exact flat_get (enc := itemC) (fun _ => rfl) Q.l k hkQ (ii + 1) u hii)) ?_
              refine xt_gcall rfl rfl EvO.eq (samemsg2_ok R.l[k].2 Q.l[k].2 w4) ?_
              rintro _ w5 ⟨rfl, lk5⟩
              refine ⟨kpc, ?_⟩
              refine xt_gv rfl rfl EvO.eq v_not ?_
              refine xt_v rfl (by first | exact v_pickT | exact v_pickF | exact v_pick) ?_
              refine xt_nil ?_
              first | refine x_condP (fun c3 => ?_) (fun c3 => ?_) | refine x_condN (fun c3 => ?_) (fun c3 => ?_) | refine x_condE (fun c3 => ?_) (fun c3 => ?_)
              ·
                refine x_seq ?_
                refine x_regionL ?_
                refine xl_v v_assign ?_
                refine xl_nil ?_
                refine x_ret ?_
                refine fin1 rfl ?_
                refine ⟨congrArg Value.bool (Eq.symm (decide_eq_false fun e => ?_)), lkc⟩
                have h1 := ref_at e k hkR hkQ
                first
                  | exact c3 h1.2
                  | (simp at c3; exact c3 h1.2)
                  | (simp at g47; exact g47 h1.1)
                  | (simp at c3; exact c3 h1.1)
              ·
                refine x_skip ?_
                refine x_regionL ?_
                refine xl_v v_move ?_
                refine xl_v (v_add (by omega)) ?_
                refine xl_v v_assign ?_
                refine xl_nil ?_
                refine ⟨_, ?_, rfl, k + 1, rfl, by omega, ?_, inferInstance, inferInstance, evc, lkc⟩
                · omega
                · intro j h1 h2 hj
                  by_cases hjk : j = k
                  · subst hjk
                    exact ⟨by first | omega | (simp at g47; omega), by first | exact c3 | simpa using c3⟩
                  · exact hall j h1 h2 (by omega)
          ·
            refine x_exit ?_
            refine x_seq ?_
            refine x_regionL ?_
            refine xl_v v_assign ?_
            refine xl_nil ?_
            refine x_ret ?_
            refine fin1 rfl ?_
            refine ⟨congrArg Value.bool (Eq.symm (decide_eq_true ?_)), lkc⟩
            exact ref_eq hm1 hc1 hl1 (fun j h1 h2 => hall j h1 h2 (by omega))

/-- waystation/waystationlaw05.NetCopies -/
theorem netCopies_ok (most : Int) (A : Option Addr) (n c : Nat) (xs : List LAct) (x : LAct) (w : World) [hra : Row w A (xs.flatMap actC)] (hrs : ∀ j (h : j < xs.length), RowP w xs[j].x.A (bytesC xs[j].x.m.bytes)) (hpk : ∀ j (h : j < xs.length), In64 xs[j].pick) (hl : xs.length = n) (hn : n ≤ 9223372036854775807) (hrx : RowP w x.x.A (bytesC x.x.m.bytes)) (hpx : In64 x.pick) : Ret Try.prog 8 #[.int .i64 most, .slice A n c, .agg (actC x).toArray] w (fun v w' => v = .bool true ∧ Lk w' w NoB) := by
  haveI hrb : RowB w A w (xs.flatMap actC) := rowB_of hra.row
  haveI hrxb : RowB w x.x.A w (bytesC x.x.m.bytes) := rowB_of hrx
  refine ret_of_x (N := 137) (l := [.int .i64 most, .slice A n c, .agg (actC x).toArray]) Try.func8 rfl rfl (Nat.le_of_ble_eq_true rfl) ?_
  refine x_seq ?_
  refine x_regionL ?_
  refine xl_e (e_box fun b1 w1 n1 l1 k1 => ?_)
  refine xl_e (e_alloc fun b2 w2 n2 l2 k2 => ?_)
  refine xl_nil ?_
  refine x_seq ?_
  refine x_seq ?_
  refine x_regionL ?_
  refine xl_v v_move ?_
  refine xl_v v_lss ?_
  refine xl_v v_move ?_
  refine xl_split 23 (fun g23 => ?_) (fun g23 => ?_)
  ·
    refine xl_gs rfl EvO.eq ?_
    refine xl_gs rfl EvO.eq ?_
    refine xl_v (by first | exact v_pickT | exact v_pickF | exact v_pick) ?_
    refine xl_v v_move ?_
    refine xl_gs rfl EvO.eq ?_
    refine xl_gs rfl EvO.eq ?_
    refine xl_gs rfl EvO.eq ?_
    refine xl_v (by first | exact v_pickT | exact v_pickF | exact v_pick) ?_
    refine xl_v v_move ?_
    refine xl_gs rfl EvO.eq ?_
    refine xl_gs rfl EvO.eq ?_
    refine xl_gs rfl EvO.eq ?_
    refine xl_gs rfl EvO.eq ?_
    refine xl_v (by first | exact v_pickT | exact v_pickF | exact v_pick) ?_
    refine xl_nil ?_
    refine x_condT ?_
    refine x_seq ?_
    refine x_regionL ?_
    refine xl_call (works_ok w2) ?_
    rintro _ w3 ⟨rfl, lkw⟩
    refine xl_s (e_store fun w4 l4 k4 => ?_)
    refine xl_nil ?_
    refine x_ret ?_
    refine finR (rs := [.cell 6 4]) rfl ?_
    exact ⟨rfl, lkc⟩
  ·
    refine xl_gv rfl EvO.eq v_move ?_
    refine xl_gv rfl EvO.eq v_gtr ?_
    refine xl_v (by first | exact v_pickT | exact v_pickF | exact v_pick) ?_
    refine xl_v v_move ?_
    refine xl_split 27 (fun g27 => ?_) (fun g27 => ?_)
    ·
      refine xl_gs rfl EvO.eq ?_
      refine xl_gs rfl EvO.eq ?_
      refine xl_gs rfl EvO.eq ?_
      refine xl_v (by first | exact v_pickT | exact v_pickF | exact v_pick) ?_
      refine xl_v v_move ?_
      refine xl_gs rfl EvO.eq ?_
      refine xl_gs rfl EvO.eq ?_
      refine xl_gs rfl EvO.eq ?_
      refine xl_gs rfl EvO.eq ?_
      refine xl_v (by first | exact v_pickT | exact v_pickF | exact v_pick) ?_
      refine xl_nil ?_
      refine x_condT ?_
      refine x_seq ?_
      refine x_regionL ?_
      refine xl_call (works_ok w2) ?_
      rintro _ w5 ⟨rfl, lkw⟩
      refine xl_s (e_store fun w6 l6 k6 => ?_)
      refine xl_nil ?_
      refine x_ret ?_
      refine finR (rs := [.cell 6 4]) rfl ?_
      exact ⟨rfl, lkc⟩
    ·
      refine xl_gv rfl EvO.eq v_move ?_
      refine xl_gcall rfl EvO.eq (few_ok A n c xs _ hl hn) ?_
      rintro _ _ ⟨⟨fb, rfl, hfb⟩, rfl⟩
      refine xl_gv rfl EvO.eq v_not ?_
      refine xl_v (by first | exact v_pickT | exact v_pickF | exact v_pick) ?_
      refine xl_v v_move ?_
      refine xl_split 32 (fun g32 => ?_) (fun g32 => ?_)
      ·
        refine xl_gs rfl EvO.eq ?_
        refine xl_gs rfl EvO.eq ?_
        refine xl_gs rfl EvO.eq ?_
        refine xl_gs rfl EvO.eq ?_
        refine xl_v (by first | exact v_pickT | exact v_pickF | exact v_pick) ?_
        refine xl_nil ?_
        refine x_condT ?_
        refine x_seq ?_
        refine x_regionL ?_
        refine xl_call (works_ok w2) ?_
        rintro _ w8 ⟨rfl, lkw⟩
        refine xl_s (e_store fun w9 l9 k9 => ?_)
        refine xl_nil ?_
        refine x_ret ?_
        refine finR (rs := [.cell 6 4]) rfl ?_
        exact ⟨rfl, lkc⟩
      ·
        refine xl_gv rfl EvO.eq (by first | exact v_loadA | exact v_loadF (by decide) (by omega)) ?_
        refine xl_ge rfl EvO.eq (e_buildSlice1 (vs := actC x) rfl fun bs w10 ns ls ks => ?_)
        haveI : Row w10 (some ⟨bs, 0, none⟩) ([x].flatMap actC) := ⟨by simpa using row_blk (ks.eq)⟩
        refine xl_gcall rfl EvO.eq (few_ok (some ⟨bs, 0, none⟩) 1 1 [x] _ rfl (by decide)) ?_
        rintro _ _ ⟨⟨fb2, rfl, hfb2⟩, rfl⟩
        refine xl_gv rfl EvO.eq v_not ?_
        refine xl_v (by first | exact v_pickT | exact v_pickF | exact v_pick) ?_
        refine xl_nil ?_
        first | refine x_condP (fun c1 => ?_) (fun c1 => ?_) | refine x_condN (fun c1 => ?_) (fun c1 => ?_) | refine x_condE (fun c1 => ?_) (fun c1 => ?_)
        ·
          refine x_seq ?_
          refine x_regionL ?_
          refine xl_call (works_ok w10) ?_
          rintro _ w12 ⟨rfl, lkw⟩
          refine xl_s (e_store fun w13 l13 k13 => ?_)
          refine xl_nil ?_
          refine x_ret ?_
          refine finR (rs := [.cell 6 4]) rfl ?_
          exact ⟨rfl, lkc⟩
        ·
          have hfew : n ≤ 100 ∧ ∀ j (h : j < xs.length), xs[j].x.m.bytes.length ≤ 10000 := hfb (by simpa using g32)
          have hfx : x.x.m.bytes.length ≤ 10000 := (hfb2 (by simpa using c1)).2 0 (by simp)
          have hmost : 1 ≤ most ∧ most ≤ 4096 := by simp at g23 g27; omega
          have hww := (Ge.le : w.heap.size ≤ (w10).heap.size)
          refine x_skip ?_
          refine x_seq ?_
          refine x_regionL ?_
          refine xl_v v_move ?_
          refine xl_v v_move ?_
          refine xl_call (played_ok most A n c xs w10 w hmost (fun j h => (rowB_of (hrs j h)).keep (kpc : Keep NoB w w10) (fun k h => h.elim)) hl hfew.1 hfew.2 hpk hww) ?_
          rintro _ w14 ⟨⟨b, mb, M, R, rfl, hP, hcm, hgb, hgm⟩, lk1⟩
          have hb2p : b2 < (w10).heap.size := Has.lt
          haveI : NeB b2 b := ⟨by omega⟩
          haveI : NeB b2 mb := ⟨by omega⟩
          haveI sT : SubF (TwoB b mb) NoB w := ⟨fun k hk e => by rcases e with e | e <;> omega⟩
          haveI : Above (TwoB b mb) w := ⟨fun k e => by rcases e with e | e <;> omega⟩
          obtain ⟨G, FR, N, hN1, hN2, hR1, hFN, _⟩ := hP.ex
          have hbl := hN2.lt b (.inl rfl)
          have hml := hN2.lt mb (.inr (.inl rfl))
          have hNok : N.pure.ok := hN1 ▸ hP.ok
          refine xl_v v_move ?_
          refine xl_v v_extract ?_
          refine xl_v v_extract ?_
          refine xl_v v_extract ?_
          refine xl_e (e_alloc fun b8 w15 n8 l8 k8 => ?_)
          refine xl_v v_assign ?_
          refine xl_s (e_storeA fun w16 l16 k16 => ?_)
          refine xl_v v_assign ?_
          refine xl_nil ?_
          haveI : NeB b8 b := ⟨by have := n8.eq; omega⟩
          haveI : NeB b8 mb := ⟨by have := n8.eq; omega⟩
          refine x_seq ?_
          refine x_regionL ?_
          refine xl_v v_move ?_
          refine xl_call (copy_ok b mb G N w16 (hN2.ext (kpc : Keep NoB _ w16)) hNok) ?_
          rintro _ w17 ⟨⟨bc, mcc, Gc, Nc, rfl, hNc, hpc, hgc⟩, lk2⟩
          have hgp4 := (Ge.le : w.heap.size ≤ (w16).heap.size)
          have hbp4 : b < (w16).heap.size := Nat.lt_of_lt_of_le hbl Ge.le
          have hmp4 : mb < (w16).heap.size := Nat.lt_of_lt_of_le hml Ge.le
          have hNcok : Nc.pure.ok := hpc ▸ hNok
          refine xl_v v_assign ?_
          refine xl_nil ?_
          refine x_seq ?_
          refine x_regionL ?_
          refine xl_v v_move ?_
          refine xl_call (all_ok b mb G N w17 (hN2.ext (kpc : Keep NoB _ w17))) ?_
          rintro _ w18 ⟨⟨cb, mc, rfl, hcb, hmc, hcbn, hmcn⟩, lka⟩
          have hbp5 : b < (w17).heap.size := Nat.lt_of_lt_of_le hbl Ge.le
          have hmp5 : mb < (w17).heap.size := Nat.lt_of_lt_of_le hml Ge.le
          have hb8p5 : b8 < (w17).heap.size := Has.lt
          haveI : Blk w18 cb _ := ⟨hcb⟩
          haveI : NeB cb b := ⟨by omega⟩
          haveI : NeB cb mb := ⟨by omega⟩
          refine xl_v v_assign ?_
          refine xl_nil ?_
          refine x_seq ?_
          refine x_seq ?_
          refine x_regionL ?_
          refine xl_v v_move ?_
          refine xl_v v_not ?_
          refine xl_v v_move ?_
          refine xl_gv rfl EvO.eq v_move ?_
          refine xl_gv rfl EvO.eq v_move ?_
          refine xl_gcall rfl EvO.eq (same_ok b mb bc mcc G Gc N Nc w18 (hN2.ext (kpc : Keep NoB _ w18)) hNok (hNc.ext (kpc : Keep NoB _ w18)) hNcok) ?_
          rintro _ w19 ⟨rfl, lk3⟩
          rw [decide_eq_true hpc.symm]
          refine xl_gv rfl EvO.eq v_not ?_
          refine xl_v (by first | exact v_pickT | exact v_pickF | exact v_pick) ?_
          refine xl_nil ?_
          refine x_condF ?_
          refine x_skip ?_
          refine x_seq ?_
          refine x_regionL ?_
          refine xl_v v_move ?_
          refine xl_v (by first | exact v_loadA | exact v_loadF (by decide) (by omega)) ?_
          refine xl_v (by first | exact v_loadA | exact v_loadF (by decide) (by omega)) ?_
          refine xl_call (act2_ok NoB b mb M R x w19 w (hP.ext (kpc : Keep NoB _ w19)) (by omega) hpx (by omega) (by omega) (by omega)) ?_
          rintro _ w20 ⟨⟨R2, rfl, hP2⟩, lk4⟩
          have hNc2 : NetAt w20 bc mcc Gc Nc := (hNc.ext (kpc : Keep NoB _ w19)).keep lk4.keep (fun k hk e => by have := hgc k hk; rcases e with e | e <;> omega)
          have hR2 : RefAt w20 FR R := (hR1.ext (kpc : Keep NoB _ w19)).keep lk4.keep (fun k hk e => hFN k hk (e.elim .inl (fun e => .inr (.inl e))))
          have hmc2 : MapB w20 mc (Value.int .i64) (netV N.l) := (hmc.keep (kpc : Keep NoB _ w19) (fun h => h)).keep lk4.keep (fun e => by rcases e with e | e <;> omega)
          have hr2 : ∀ p ∈ N.l, FRow w20 G p.2.A (bytesC p.2.m.bytes) := fun p hp => ((hN2.hr p hp).keep (kpc : Keep NoB _ w19) (fun _ _ h => h)).keep lk4.keep (fun k hk e => by rcases e with e | e; exact hN2.gb (e ▸ hk); exact hN2.gm (e ▸ hk))
          refine xl_v v_move ?_
          refine xl_v v_extract ?_
          refine xl_v v_extract ?_
          refine xl_e (e_alloc fun b12 w21 n12 l12 k12 => ?_)
          refine xl_s (e_storeA fun w22 l22 k22 => ?_)
          refine xl_v v_assign ?_
          refine xl_nil ?_
          refine x_seq ?_
          refine x_regionL ?_
          refine xl_e (e_alloc fun b14 w23 n14 l14 k14 => ?_)
          refine xl_s (e_store fun w24 l24 k24 => ?_)
          refine xl_nil ?_
          refine x_seq ?_
          refine x_seq ?_
          refine x_regionL ?_
          refine xl_v v_move ?_
          refine xl_nil ?_
          refine x_block ?_
          have hNcw := hNc2.ext (kpc : Keep NoB _ w24)
          have hRw := hR2.ext (kpc : Keep NoB _ w24)
          have hb14l : b14 < (w24).heap.size := Has.lt
          have hPw : PairW (OneB b14) b mb (M.step x.what x.pick x.x.m) R2 w24 := hP2.keep (kpc : Keep NoB _ w24) (fun _ _ h => h.elim) (fun j e => by have e' : j = b14 := e; exact ⟨by omega, .inr (by rw [e', n14.eq]; exact Ge.le)⟩)
          have hmcw := hmc2.keep (kpc : Keep NoB _ w24) (fun h => h)
          have hrw2 : ∀ p ∈ N.l, FRow w24 G p.2.A (bytesC p.2.m.bytes) := fun p hp => (hr2 p hp).keep (kpc : Keep NoB _ w24) (fun _ _ h => h)
          haveI kb8 : Blk w24 b8 _ := inferInstance
          haveI kb12 : Blk w24 b12 _ := inferInstance
          haveI kb2 : Blk w24 b2 _ := inferInstance
          have hnd : (N.pure.l.map (·.1)).Nodup := rise_nodup hNok.rise
          have hlen : N.pure.l.length = R.l.length := by rw [hN1, ← hP.rp, ref_len]
          have hfewR : R.l.length ≤ 4096 := hP.few
          have hb8l : b8 < b14 := by rw [n14.eq]; exact Has.lt
          have hb12l : b12 < b14 := by rw [n14.eq]; exact Has.lt
          have hb2l : b2 < b14 := by rw [n14.eq]; exact Has.lt
          have hcl : cb < b14 := by rw [n14.eq]; exact Has.lt
          have hml14 : mc < b14 := by rw [n14.eq]; exact Nat.lt_of_lt_of_le hmc2.lt Ge.le
          have hNlt : ∀ k, NetF bc mcc Gc k → k < b14 := fun k hk => by rw [n14.eq]; exact Nat.lt_of_lt_of_le (hNc2.lt k hk) Ge.le
          have hRlt : ∀ k, FR k → k < b14 := fun k hk => by rw [n14.eq]; exact Nat.lt_of_lt_of_le (hR2.lt k hk) Ge.le
          have hGlt : ∀ k, G k → k < b14 := fun k hk => by rw [n14.eq]; exact Nat.lt_of_lt_of_le (hN2.gl k hk) Ge.le
          haveI : NeB b8 b14 := ⟨by omega⟩
          haveI : NeB b12 b14 := ⟨by omega⟩
          haveI : NeB b2 b14 := ⟨by omega⟩
          obtain ⟨wS, hwS⟩ : ∃ x, x = w24 := ⟨_, rfl⟩
          refine x_rangeE (ps := [66, 67]) (fun k => k = cb ∨ k = mc ∨ G k) (AllAl N.pure.l) (AllFin N.pure.l) (MsgE N.pure.l) (msgE_elem) (fun W l => allIter cb mc G N.l W (hmcw.keep (kpc : Keep NoB w24 W) (fun h => h)) (fun p hp => (hrw2 p hp).keep (kpc : Keep NoB w24 W) (fun _ _ h => h)) (by rw [← pure_keys]; exact hNok.rise) (len_few hNok) (len_bytes hNok) (fun k hk => Nat.lt_of_lt_of_le (hN2.gl k hk) Ge.le)) (by rintro k (rfl | rfl | e); exact Has.lt; exact hmcw.lt; exact Nat.lt_of_lt_of_le (hN2.gl k e) Ge.le) (fun pre v h => tell_len h) (IsI b14 w24) (fun _ _ _ _ => False) (OneB b14) (isI_stable) (fun _ => ⟨fun _ _ _ h => h.elim, fun _ _ _ _ _ h => h.elim⟩) (⟨[], rfl, Blk.eq, fun _ => Iff.rfl, Keep.refl _ _⟩) (fun k hk e => by have e' : k = b14 := hk; subst e'; rcases e with e | e | e; omega; omega; have := hGlt _ e; omega) (fun v τ n W => ∃ (k : Int) (x : LMsg), v = [.int .i64 k, .agg (msgC x).toArray] ∧ Ev τ 8 (.pointer (some ⟨b8, 0, none⟩)) ∧ Ev τ 14 (.pointer (some ⟨b14, 0, none⟩)) ∧ Ev τ 15 (.int .i64 k)) (by rintro v τ n W1 W2 S ⟨k, x, h1, h2, h3, h4⟩ hk hs; exact ⟨k, x, h1, h2, h3, h4⟩) ?assign ?body ?normal ?jump
          case assign =>
            intro l25 pre v25 w25 hal hv25
            obtain ⟨k, x, rfl⟩ := tell_last hal
            simp only [updL]
            refine x_regionL ?_
            refine xl_v v_assign ?_
            refine xl_nil ?_
            exact ⟨lkc, k, x, rfl, inferInstance, inferInstance, inferInstance⟩
          case body =>
            intro l pre v F Fv nb w26 τ26 ds26 hal hI hE hdis hnew hlt hnb hnbw hB
            obtain ⟨q, rfl, hb3, hFe, hkw⟩ := hI
            obtain ⟨hql, x, rfl, hx, hown, hFv⟩ := next_tell hnd hal hE
            obtain ⟨k, x2, hv, e8, e14, e15⟩ := hB
            injection hv with hv1 hv2
            injection hv1 with _ hv1
            subst hv1
            haveI lkB : Lk w26 _ (OneB b14) := ⟨hkw⟩
            haveI : Blk w26 b14 _ := ⟨hb3⟩
            haveI : Blk w26 b8 _ := inferInstance
            have hRB := hRw.keep hkw (fun j hj e => by have e' : j = b14 := e; have := hRlt j hj; omega)
            have hqR : q.length < R.l.length := by omega
            haveI : Row w26 R.A (R.l.flatMap itemC) := ⟨hRB.row.row⟩
            have hRg : R.pure.l[q.length]? = some (R.l[q.length].1, R.l[q.length].2.m) := by simp [RefL.pure, hqR]
            have hkk : N.pure.l[q.length].1 = R.l[q.length].1 := by
              have h1 : N.pure.l[q.length]? = some (R.l[q.length].1, R.l[q.length].2.m) := by rw [hN1, ← hP.rp]; exact hRg
              rw [List.getElem?_eq_getElem hql] at h1
              rw [Option.some.inj h1]
            refine x_block ?_
            refine x_seq ?_
            refine x_seq ?_
            refine x_regionL ?_
            refine xl_v (by first | exact v_load | exact v_loadO (by omega) | exact v_loadFf (by omega) | exact v_loadF0 (by omega)) ?_
            refine xl_v (by first | exact v_fieldAddr | exact v_fieldAddrF (by decide) (by omega) | exact v_fieldAddrR (by first | assumption | rfl)) ?_
            refine xl_v (by first | exact v_load | exact v_loadO (by omega) | exact v_loadFf (by omega) | exact v_loadF0 (by omega)) ?_
            refine xl_v v_len ?_
            refine xl_v (v_congr (u := .bool false) v_geq (by simp; omega)) ?_
            refine xl_v v_move ?_
            refine xl_gv rfl EvO.eq (by first | exact v_fieldAddr | exact v_fieldAddrF (by decide) (by omega) | exact v_fieldAddrR (by first | assumption | rfl)) ?_
            refine xl_gv rfl EvO.eq (by first | exact v_load | exact v_loadO (by omega) | exact v_loadFf (by omega) | exact v_loadF0 (by omega)) ?_
            refine xl_gv rfl EvO.eq (by first | exact v_load | exact v_loadO (by omega) | exact v_loadFf (by omega) | exact v_loadF0 (by omega)) ?_
            refine xl_gv rfl EvO.eq (v_indexF q.length (by decide) rfl (by omega) hqR) ?_
            refine xl_gv rfl EvO.eq (by first | exact v_fieldAddr | exact v_fieldAddrF (by decide) (by omega) | exact v_fieldAddrR (by first | assumption | rfl)) ?_
            refine xl_gv rfl EvO.eq (v_loadF0 hqR) ?_
            refine xl_gv rfl EvO.eq v_move ?_
            refine xl_gv rfl EvO.eq (v_neqF hkk.symm) ?_
            refine xl_v (by first | exact v_pickT | exact v_pickF | exact v_pick) ?_
            refine xl_nil ?_
            refine x_condF ?_
            refine x_skip ?_
            refine x_regionL ?_
            refine xl_v (by first | exact v_load | exact v_loadO (by omega) | exact v_loadFf (by omega) | exact v_loadF0 (by omega)) ?_
            refine xl_v (v_add (by omega)) ?_
            refine xl_s (e_store fun w27 l27 k27 => ?_)
            refine xl_nil ?_
            have hb3n := (Blk.eq : (w27).heap[b14]? = _)
            have hkz : Keep (fun j => j = b14) w26 w27 := (kpc : Keep (OneB b14) w26 w27)
            refine ⟨fun j => j = b14, ⟨q ++ [(N.pure.l[q.length].1, x)], by simp, by simpa using hb3n, fun _ => Iff.rfl, hkw.then hkz (fun j hj e => e)⟩, hkz.mono (fun j _ e => .inl ((hFe j).2 e)), fun j e => .inl (.inl ((hFe j).2 e))⟩
          case normal =>
            intro D28 pre F w28 hfin hI hkF hsF hD28 hge28 hnF28
            obtain ⟨q, rfl, hb3, hFe, hkw⟩ := hI
            have hqn := fin_tell hfin
            haveI lkB : Lk w28 _ (OneB b14) := ⟨hkF⟩
            haveI : Blk w28 b14 _ := ⟨hb3⟩
            have hDg := hge28
            have hNcr : NetAt w28 bc mcc Gc Nc := hNcw.keep hkF (fun j hj e => by have e' : j = b14 := e; have := hNlt j hj; omega)
            have hRr : RefAt w28 FR R := hRw.keep hkF (fun j hj e => by have e' : j = b14 := e; have := hRlt j hj; omega)
            have hPr : PairW NoB b mb (M.step x.what x.pick x.x.m) R2 w28 := hPw.keep hkF (fun j hj e => e) (fun j e => e.elim)
            obtain ⟨G', F2, N', hN1', hN2', hR2r, _⟩ := hPr.ex
            have hNok' : N'.pure.ok := hN1' ▸ hPr.ok
            haveI : NeB D28 b2 := ⟨by omega⟩
            haveI : NotS (fun k => k ∈ [D28]) b2 := ⟨fun e => by have e' := List.mem_singleton.1 e; omega⟩
            haveI sD : SubF (fun k => k ∈ [D28]) NoB w := ⟨fun k hk e => by simp at e; omega⟩
            refine x_seq ?_
            refine x_regionL ?_
            refine xl_v (by first | exact v_loadA | exact v_loadF (by decide) (by omega)) ?_
            refine xl_v (by first | exact v_loadA | exact v_loadF (by decide) (by omega)) ?_
            refine xl_call (refsame_ok R R2 FR F2 w28 (hRr.ext (kpc : Keep NoB _ w28)) (hR2r.ext (kpc : Keep NoB _ w28)) (by omega) (by have := hPr.few; omega)) ?_
            rintro _ w29 ⟨rfl, lk5⟩
            refine xl_v v_assign ?_
            refine xl_nil ?_
            refine x_seq ?_
            refine x_regionL ?_
            refine xl_call (new_ok 1 w29) ?_
            rintro _ w30 ⟨hnew1, lk6⟩
            rw [if_pos ⟨by decide, by decide⟩] at hnew1
            obtain ⟨bx, mx, rfl, hNx, hgx, hgmx⟩ := hnew1
            refine xl_v v_move ?_
            refine xl_v v_extract ?_
            refine xl_v v_extract ?_
            refine xl_v v_assign ?_
            refine xl_v v_assign ?_
            refine xl_nil ?_
            refine x_seq ?_
            refine x_regionL ?_
            refine xl_call (new_ok 2 w30) ?_
            rintro _ w31 ⟨hnew2, lk7⟩
            rw [if_pos ⟨by decide, by decide⟩] at hnew2
            obtain ⟨by', my, rfl, hNy, hgy, hgmy⟩ := hnew2
            refine xl_v v_move ?_
            refine xl_v v_extract ?_
            refine xl_v v_extract ?_
            refine xl_v v_assign ?_
            refine xl_v v_assign ?_
            refine xl_nil ?_
            refine x_seq ?_
            refine x_regionL ?_
            refine xl_v v_move ?_
            refine xl_v v_move ?_
            refine xl_gv rfl EvO.eq (by first | exact v_load | exact v_loadO (by omega) | exact v_loadFf (by omega) | exact v_loadF0 (by omega)) ?_
            refine xl_gv rfl EvO.eq (by first | exact v_fieldAddr | exact v_fieldAddrF (by decide) (by omega) | exact v_fieldAddrR (by first | assumption | rfl)) ?_
            refine xl_gv rfl EvO.eq (by first | exact v_load | exact v_loadO (by omega) | exact v_loadFf (by omega) | exact v_loadF0 (by omega)) ?_
            refine xl_gv rfl EvO.eq v_len ?_
            refine xl_gv rfl EvO.eq (v_congr (u := .bool true) v_eql (by simp; omega)) ?_
            refine xl_v (by first | exact v_pickT | exact v_pickF | exact v_pick) ?_
            refine xl_v v_move ?_
            refine xl_gv rfl EvO.eq v_move ?_
            refine xl_gv rfl EvO.eq (by first | exact v_loadA | exact v_loadF (by decide) (by omega)) ?_
            refine xl_gcall rfl EvO.eq (is_ok bc mcc Gc Nc R FR w31 (hNcr.ext (kpc : Keep NoB _ w31)) hNcok (hRr.ext (kpc : Keep NoB _ w31)) (hpc.trans (hN1.trans hP.rp.symm))) ?_
            rintro _ w32 ⟨rfl, lk8⟩
            refine xl_v (by first | exact v_pickT | exact v_pickF | exact v_pick) ?_
            refine xl_v v_move ?_
            refine xl_gv rfl EvO.eq v_move ?_
            refine xl_gv rfl EvO.eq (by first | exact v_loadA | exact v_loadF (by decide) (by omega)) ?_
            refine xl_gcall rfl EvO.eq (is2_ok NoB b mb (M.step x.what x.pick x.x.m) R2 w32 (hPr.ext (kpc : Keep NoB _ w32))) ?_
            rintro _ w33 ⟨rfl, lk9⟩
            refine xl_v (by first | exact v_pickT | exact v_pickF | exact v_pick) ?_
            refine xl_v v_move ?_
            refine xl_gv rfl EvO.eq v_move ?_
            refine xl_gv rfl EvO.eq v_move ?_
            refine xl_gcall rfl EvO.eq (same_ok b mb bc mcc G' Gc N' Nc w33 (hN2'.ext (kpc : Keep NoB _ w33)) hNok' (hNcr.ext (kpc : Keep NoB _ w33)) hNcok) ?_
            rintro _ w34 ⟨rfl, lk10⟩
            refine xl_gv rfl EvO.eq v_move ?_
            refine xl_gv rfl EvO.eq (v_congr (u := .bool true) v_beql (by rw [hN1', hpc, hN1, hP.rp, hP2.rp]; simp [eq_comm])) ?_
            refine xl_v (by first | exact v_pickT | exact v_pickF | exact v_pick) ?_
            refine xl_v v_move ?_
            refine xl_gv rfl EvO.eq v_move ?_
            refine xl_gv rfl EvO.eq v_move ?_
            refine xl_gcall rfl EvO.eq (same_ok bc mcc b mb Gc G' Nc N' w34 (hNcr.ext (kpc : Keep NoB _ w34)) hNcok (hN2'.ext (kpc : Keep NoB _ w34)) hNok') ?_
            rintro _ w35 ⟨rfl, lk11⟩
            refine xl_gv rfl EvO.eq v_move ?_
            refine xl_gv rfl EvO.eq (v_congr (u := .bool true) v_beql (by rw [hN1', hpc, hN1, hP.rp, hP2.rp]; simp)) ?_
            refine xl_v (by first | exact v_pickT | exact v_pickF | exact v_pick) ?_
            refine xl_v v_move ?_
            refine xl_gv rfl EvO.eq v_move ?_
            refine xl_gv rfl EvO.eq v_move ?_
            refine xl_gcall rfl EvO.eq (same_ok bx mx by' my NoB NoB ⟨1, 0, []⟩ ⟨2, 0, []⟩ w35 (hNx.ext (kpc : Keep NoB _ w35)) (start_ok 1 ⟨by decide, by decide⟩) (hNy.ext (kpc : Keep NoB _ w35)) (start_ok 2 ⟨by decide, by decide⟩)) ?_
            rintro _ w36 ⟨rfl, lk12⟩
            have h12 : ¬ (NetL.pure ⟨1, 0, []⟩ = NetL.pure ⟨2, 0, []⟩) := fun e => by
              have h : (1 : Int) = 2 := congrArg Net.most e
              exact absurd h (by decide)
            rw [decide_eq_false h12]
            refine xl_gv rfl EvO.eq v_not ?_
            refine xl_v (by first | exact v_pickT | exact v_pickF | exact v_pick) ?_
            refine xl_v v_move ?_
            refine xl_gcall rfl EvO.eq (works_ok w36) ?_
            rintro _ w37 ⟨rfl, lk13⟩
            refine xl_v (by first | exact v_pickT | exact v_pickF | exact v_pick) ?_
            refine xl_s (e_store fun w38 l38 k38 => ?_)
            refine xl_nil ?_
            refine x_ret ?_
            refine finM (rs := [.cell 6 4]) rfl [D28] rfl (by simpa using (Blk.eq : (w38).heap[D28]? = _)) (by simp) (fun w39 lm39 => ⟨_, inferInstance, ?_⟩)
            exact ⟨rfl, lkc⟩
          case jump =>
            exact fun _ _ _ _ _ h => h.elim
end Go.Proofs.Ytacadajlpmhcfaa
