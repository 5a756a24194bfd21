/-
  Walks, printed by a program of this workplace (wip/tools/sx.py) off the functions' code and a text of contracts.
-/
import Derived.Test.YtabknhgbijcklaaN
set_option linter.all false
set_option maxRecDepth 100000
set_option synthInstance.maxSize 100000
set_option synthInstance.maxHeartbeats 400000
namespace Go.Proofs.Ytabknhgbijcklaa
open Go.Wst
open Go.Wst.Dm
theorem fs_eq {l q : List (ByteArray × LB)} (hl : l.length = q.length) (h : ∀ j (h1 : j < l.length) (h2 : j < q.length), l[j].1 = q[j].1 ∧ l[j].2.bytes = q[j].2.bytes) : fsP l = fsP q := by
  apply List.ext_getElem (by simp [fsP, hl])
  intro j h1 h2
  have h3 := h j (by simpa [fsP] using h1) (by simpa [fsP] using h2)
  simp [fsP, h3.1, h3.2]
theorem fs_at {l q : List (ByteArray × LB)} (e : fsP l = fsP q) (j : Nat) (h1 : j < l.length) (h2 : j < q.length) : l[j].1 = q[j].1 ∧ l[j].2.bytes = q[j].2.bytes := by
  have h3 : (fsP l)[j]? = (fsP q)[j]? := by rw [e]
  rw [fsP_get h1, fsP_get h2] at h3
  simpa using h3
theorem bytes_dec {a b : List UInt8} : ((⟨a.toArray⟩ : ByteArray) = ⟨b.toArray⟩) ↔ a = b := by
  constructor
  · intro h
    have h1 := congrArg (fun x : ByteArray => x.data.toList) h
    simpa using h1
  · rintro rfl; rfl

/-- waystation/waystationref03.SameFiles -/
theorem sameFiles_ok (A B : Option Addr) (ca cb : Nat) (l q : List (ByteArray × LB)) (F E : Nat → Prop) (w : World) (h : FsRow w F A l) (h' : FsRow w E B q) (hl : l.length ≤ 1000000) (hq : q.length ≤ 1000000) : Ret Try.prog 25 #[.slice A l.length ca, .slice B q.length cb] w (fun v w' => v = .bool (decide (fsP l = fsP q)) ∧ Lk w' w NoB) := by
  refine ret_of_x (N := 43) (l := [.slice A l.length ca, .slice B q.length cb]) Try.func25 rfl rfl (Nat.le_of_ble_eq_true rfl) ?_
  refine x_seq ?_
  refine x_regionL ?_
  refine xl_v v_assign ?_
  refine xl_nil ?_
  refine x_seq ?_
  refine x_seq ?_
  refine x_regionL ?_
  refine xl_v v_move ?_
  refine xl_v v_len ?_
  refine xl_v v_move ?_
  refine xl_v v_len ?_
  refine xl_v v_neq ?_
  refine xl_nil ?_
  first | refine x_condP (fun c1 => ?_) (fun c1 => ?_) | refine x_condN (fun c1 => ?_) (fun c1 => ?_) | refine x_condE (fun c1 => ?_) (fun c1 => ?_)
  ·
    refine x_seq ?_
    refine x_regionL ?_
    refine xl_v v_assign ?_
    refine xl_nil ?_
    refine x_ret ?_
    refine fin1 rfl ?_
    refine ⟨congrArg Value.bool (Eq.symm (decide_eq_false fun e => ?_)), lkc⟩
    have h3 : l.length = q.length := by rw [← fsP_len, ← fsP_len, e]
    first
      | omega
      | (simp at c1; omega)
  ·
    have hl1 : l.length = q.length := by
      first
        | omega
        | (simp at c1; omega)
    refine x_skip ?_
    refine x_seq ?_
    refine x_seq ?_
    refine x_regionL ?_
    refine xl_v v_assign ?_
    refine xl_nil ?_
    refine x_block ?_
    have hRL := h.ext (kpc : Keep NoB w w)
    have hQL := h'.ext (kpc : Keep NoB w w)
    refine x_loop (fun m τ ds w' => ds = [] ∧ ∃ k : Nat, m = l.length - k ∧ k ≤ l.length ∧ (∀ j (h1 : j < l.length) (h2 : j < q.length), j < k → l[j].1 = q[j].1 ∧ l[j].2.bytes = q[j].2.bytes) ∧ Ev τ 0 (.slice A l.length ca) ∧ Ev τ 1 (.slice B q.length cb) ∧ Ev τ 5 (.int .i64 (k : Int)) ∧ Lk w' w NoB) (l.length) ?start ?round
    case start =>
      exact ⟨rfl, 0, rfl, by omega, fun j _ _ h => by omega, inferInstance, inferInstance, evc, lkc⟩
    case round =>
      intro m τ1 ds1 w1 hI
      obtain ⟨rfl, k, rfl, hk, hall, e0, e1, e5, lk⟩ := hI
      have hRr := hRL.ext lk.keep
      have hQr := hQL.ext lk.keep
      refine x_seq ?_
      refine x_seq ?_
      refine x_regionL ?_
      refine xl_v v_move ?_
      refine xl_v v_move ?_
      refine xl_v v_len ?_
      refine xl_v v_lss ?_
      refine xl_nil ?_
      first | refine x_condP (fun c2 => ?_) (fun c2 => ?_) | refine x_condN (fun c2 => ?_) (fun c2 => ?_) | refine x_condE (fun c2 => ?_) (fun c2 => ?_)
      ·
        have hkR : k < l.length := by omega
        have hkQ : k < q.length := by omega
        haveI : Row w1 A (l.flatMap fileC) := ⟨hRr.row.row⟩
        haveI : Row w1 B (q.flatMap fileC) := ⟨hQr.row.row⟩
        haveI : Row w1 l[k].2.A (bytesC l[k].2.bytes) := ⟨(hRr.items _ (List.getElem_mem hkR)).row⟩
        haveI : Row w1 q[k].2.A (bytesC q[k].2.bytes) := ⟨(hQr.items _ (List.getElem_mem hkQ)).row⟩
        refine x_skip ?_
        refine x_seq ?_
        refine x_block ?_
        refine x_seq ?_
        refine x_drawL (NoB) (.take 0 (.take 1 (.take 2 (.take 3 (.take 4 (.take 5 (.take 6 (.take 7 (.take 8 (.take 9 (.take 10 (.take 11 (.take 12 (.take 13 (.take 14 (.take 15 (.take 16 (.take 17 (.take 18 (.take 19 (.take 20 (.take 21 (.take 22 (.take 23 (.take 24 (.take 25 .done)))))))))))))))))))))))))) mixed (by kernel_rfl) (fun _ _ _ _ _ h => h) (fun w2 l2 => ?_)
        refine xt_v rfl v_move ?_
        refine xt_v rfl v_move ?_
        refine xt_v rfl (v_indexF k (by decide) rfl (by omega) hkR) ?_
        refine xt_v rfl (by first | exact v_fieldAddr | exact v_fieldAddrF (by decide) (by omega) | exact v_fieldAddrR (by first | assumption | rfl)) ?_
        refine xt_v rfl (v_loadF0 hkR) ?_
        refine xt_v rfl v_move ?_
        refine xt_v rfl v_move ?_
        refine xt_v rfl (v_indexF k (by decide) rfl (by omega) hkQ) ?_
        refine xt_v rfl (by first | exact v_fieldAddr | exact v_fieldAddrF (by decide) (by omega) | exact v_fieldAddrR (by first | assumption | rfl)) ?_
        refine xt_v rfl (v_loadF0 hkQ) ?_
        refine xt_v rfl (v_sneq) ?_
        refine xt_v rfl v_move ?_
        refine xt_split 28 (fun g28 => ?_) (fun g28 => ?_)
        ·
          refine xt_gs rfl rfl EvO.eq ?_
          refine xt_gs rfl rfl EvO.eq ?_
          refine xt_gs rfl rfl EvO.eq ?_
          refine xt_gs rfl rfl EvO.eq ?_
          refine xt_gs rfl rfl EvO.eq ?_
          refine xt_gs rfl rfl EvO.eq ?_
          refine xt_gs rfl rfl EvO.eq ?_
          refine xt_gs rfl rfl EvO.eq ?_
          refine xt_gs rfl rfl EvO.eq ?_
          refine xt_gs rfl rfl EvO.eq ?_
          refine xt_gs rfl rfl EvO.eq ?_
          refine xt_gs rfl rfl EvO.eq ?_
          refine xt_gs rfl rfl EvO.eq ?_
          refine xt_v rfl (by first | exact v_pickT | exact v_pickF | exact v_pick) ?_
          refine xt_nil ?_
          refine x_condT ?_
          refine x_seq ?_
          refine x_regionL ?_
          refine xl_v v_assign ?_
          refine xl_nil ?_
          refine x_ret ?_
          refine fin1 rfl ?_
          refine ⟨congrArg Value.bool (Eq.symm (decide_eq_false fun e => ?_)), lkc⟩
          have h1 := fs_at e k hkR hkQ
          first
            | (simp at g28; exact g28 h1.1)
            | (rw [← bytes_dec] at h1; first | exact c3 h1.2 | (simp at c3; exact c3 h1.2) | (simp [h1.2] at c3))
        ·
          refine xt_gv rfl rfl EvO.eq v_move ?_
          refine xt_gv rfl rfl EvO.eq v_move ?_
          refine xt_gv rfl rfl EvO.eq (v_indexF k (by decide) rfl (by omega) hkR) ?_
          refine xt_gv rfl rfl EvO.eq (by first | exact v_fieldAddr | exact v_fieldAddrF (by decide) (by omega) | exact v_fieldAddrR (by first | assumption | rfl)) ?_
          refine xt_gv rfl rfl EvO.eq (v_loadFf hkR) ?_
          refine xt_gv rfl rfl EvO.eq (v_bytesStr (xs := l[k].2.bytes) rfl) ?_
          refine xt_gv rfl rfl EvO.eq v_move ?_
          refine xt_gv rfl rfl EvO.eq v_move ?_
          refine xt_gv rfl rfl EvO.eq (v_indexF k (by decide) rfl (by omega) hkQ) ?_
          refine xt_gv rfl rfl EvO.eq (by first | exact v_fieldAddr | exact v_fieldAddrF (by decide) (by omega) | exact v_fieldAddrR (by first | assumption | rfl)) ?_
          refine xt_gv rfl rfl EvO.eq (v_loadFf hkQ) ?_
          refine xt_gv rfl rfl EvO.eq (v_bytesStr (xs := q[k].2.bytes) rfl) ?_
          refine xt_gv rfl rfl EvO.eq (v_sneq) ?_
          refine xt_v rfl (by first | exact v_pickT | exact v_pickF | exact v_pick) ?_
          refine xt_nil ?_
          first | refine x_condP (fun c3 => ?_) (fun c3 => ?_) | refine x_condN (fun c3 => ?_) (fun c3 => ?_) | refine x_condE (fun c3 => ?_) (fun c3 => ?_)
          ·
            refine x_seq ?_
            refine x_regionL ?_
            refine xl_v v_assign ?_
            refine xl_nil ?_
            refine x_ret ?_
            refine fin1 rfl ?_
            refine ⟨congrArg Value.bool (Eq.symm (decide_eq_false fun e => ?_)), lkc⟩
            have h1 := fs_at e k hkR hkQ
            first
              | (simp at g28; exact g28 h1.1)
              | (rw [← bytes_dec] at h1; first | exact c3 h1.2 | (simp at c3; exact c3 h1.2) | (simp [h1.2] at c3))
          ·
            refine x_skip ?_
            refine x_regionL ?_
            refine xl_v v_move ?_
            refine xl_v (v_add (by omega)) ?_
            refine xl_v v_assign ?_
            refine xl_nil ?_
            refine ⟨_, ?_, rfl, k + 1, rfl, by omega, ?_, inferInstance, inferInstance, evc, lkc⟩
            · omega
            · intro j h1 h2 hj
              by_cases hjk : j = k
              · subst hjk
                refine ⟨by simpa using g28, ?_⟩
                rw [← bytes_dec]
                first
                  | exact c3
                  | simpa using c3
              · exact hall j h1 h2 (by omega)
      ·
        refine x_exit ?_
        refine x_seq ?_
        refine x_regionL ?_
        refine xl_v v_assign ?_
        refine xl_nil ?_
        refine x_ret ?_
        refine fin1 rfl ?_
        refine ⟨congrArg Value.bool (Eq.symm (decide_eq_true ?_)), lkc⟩
        exact fs_eq hl1 (fun j h1 h2 => hall j h1 h2 (by omega))
/-- A thing that came in. -/
structure LT where
  t : Thing
  A : Option Addr
  c : Nat
abbrev thC (x : LT) : List Value := [.int .i64 x.t.what, .string x.t.name, .slice x.A x.t.bytes.length x.c, .int .i64 x.t.n]
instance encN_th : EncN thC 4 := ⟨fun _ => rfl⟩

/-- waystation/waystationlaw03.few -/
theorem few_ok (A : Option Addr) (n c : Nat) (xs : List LT) (w : World) [hra : RowB w A w (xs.flatMap thC)] (hl : xs.length = n) (hn : n ≤ 9223372036854775807) : Ret Try.prog 20 #[.slice A n c] w (fun v w' => (∃ b, v = .bool b ∧ (b = true → n ≤ 66 ∧ ∀ j (h : j < xs.length), xs[j].t.bytes.length ≤ 4000 ∧ xs[j].t.name.size ≤ 4000)) ∧ Lk w' w NoB) := by
  refine ret_of_x (N := 35) (l := [.slice A n c]) Try.func20 rfl rfl (Nat.le_of_ble_eq_true rfl) ?_
  refine x_seq ?_
  refine x_regionL ?_
  refine xl_v v_assign ?_
  refine xl_nil ?_
  refine x_seq ?_
  refine x_regionL ?_
  refine xl_v v_assign ?_
  refine xl_nil ?_
  refine x_seq ?_
  refine x_seq ?_
  refine x_regionL ?_
  refine xl_v v_assign ?_
  refine xl_nil ?_
  refine x_block ?_
  refine x_loop (fun m τ ds w' => ds = [] ∧ ∃ k s : Nat, m = n - k ∧ k ≤ n ∧ 60 * k ≤ s ∧ s ≤ 12062 ∧ (∀ j (h : j < xs.length), j < k → min xs[j].t.bytes.length 4001 ≤ s ∧ min xs[j].t.name.size 4001 ≤ s) ∧ Ev τ 0 (.slice A n c) ∧ Ev τ 3 (.int .i64 (s : Int)) ∧ Ev τ 4 (.int .i64 (k : Int)) ∧ Lk w' w NoB) (n) ?start ?round
  case start =>
    exact ⟨rfl, 0, 0, rfl, by omega, by omega, by omega, fun j h hj => by omega, inferInstance, evc, evc, lkc⟩
  case round =>
    intro m τ1 ds1 w1 hI
    obtain ⟨rfl, k, s, rfl, hk, hs1, hs2, hmin, e0, e3, e4, lk⟩ := hI
    refine x_seq ?_
    refine x_seq ?_
    refine x_regionL ?_
    refine xl_v v_move ?_
    refine xl_v v_move ?_
    refine xl_v v_len ?_
    refine xl_v v_lss ?_
    refine xl_v v_move ?_
    refine xl_split 9 (fun g9 => ?_) (fun g9 => ?_)
    ·
      refine xl_gv rfl EvO.eq v_move ?_
      refine xl_gv rfl EvO.eq v_leq ?_
      refine xl_v (by first | exact v_pickT | exact v_pickF | exact v_pick) ?_
      refine xl_nil ?_
      first | refine x_condP (fun c1 => ?_) (fun c1 => ?_) | refine x_condN (fun c1 => ?_) (fun c1 => ?_) | refine x_condE (fun c1 => ?_) (fun c1 => ?_)
      ·
        have hk1 : k < xs.length := by simp at g9; omega
        have hs3 : s ≤ 4000 := by omega
        refine x_skip ?_
        refine x_seq ?_
        refine x_block ?_
        refine x_drawL (NoB) (.take 0 (.take 1 (.take 2 (.take 3 (.take 4 (.take 5 (.take 6 (.take 7 (.take 8 (.take 9 (.take 10 (.take 11 (.take 12 (.take 13 (.take 14 (.take 15 (.take 16 (.take 17 (.take 18 .done))))))))))))))))))) mixed (by kernel_rfl) (fun _ _ _ _ _ h => h) (fun w2 l2 => ?_)
        refine xt_v rfl v_move ?_
        refine xt_v rfl (v_add (by omega)) ?_
        refine xt_v rfl v_move ?_
        refine xt_v rfl v_move ?_
        refine xt_v rfl (v_indexF k (by decide) rfl (by omega) hk1) ?_
        refine xt_v rfl (by first | exact v_fieldAddr | exact v_fieldAddrF (by decide) (by omega) | exact v_fieldAddrR (by first | assumption | rfl)) ?_
        refine xt_v rfl (v_loadFf hk1) ?_
        refine xt_v rfl v_len ?_
        refine xt_v rfl v_min ?_
        refine xt_v rfl (v_add (by omega)) ?_
        refine xt_v rfl v_move ?_
        refine xt_v rfl v_move ?_
        refine xt_v rfl (v_indexF k (by decide) rfl (by omega) hk1) ?_
        refine xt_v rfl (by first | exact v_fieldAddr | exact v_fieldAddrF (by decide) (by omega) | exact v_fieldAddrR (by first | assumption | rfl)) ?_
        refine xt_v rfl (v_loadFf hk1) ?_
        refine xt_v rfl v_lens ?_
        refine xt_v rfl v_min ?_
        refine xt_v rfl (v_add (by omega)) ?_
        refine xt_v rfl v_assign ?_
        refine xt_nil ?_
        refine x_regionL ?_
        refine xl_v v_move ?_
        refine xl_v (v_add (by omega)) ?_
        refine xl_v v_assign ?_
        refine xl_nil ?_
        refine ⟨_, ?_, rfl, k + 1, s + 60 + min xs[k].t.bytes.length 4001 + min xs[k].t.name.size 4001, rfl, by omega, by omega, by omega, ?_, inferInstance, evc (congrArg (Value.int .i64) (by omega)), evc, lkc⟩
        · omega
        · intro j hj hjk
          by_cases h : j = k
          · subst h; omega
          · have := hmin j hj (by omega); omega
      ·
        refine x_exit ?_
        refine x_seq ?_
        refine x_regionL ?_
        refine xl_v v_move ?_
        refine xl_v v_leq ?_
        refine xl_v v_assign ?_
        refine xl_nil ?_
        refine x_ret ?_
        refine fin1 rfl ?_
        refine ⟨⟨_, rfl, ?_⟩, lkc⟩
        intro hb
        simp only [decide_eq_true_eq] at hb
        have hke : k = n := by
          first
            | omega
            | (simp at g9; omega)
        subst hke
        exact ⟨by omega, fun j hj => by have := hmin j hj (by omega); omega⟩
    ·
      refine xl_gs rfl EvO.eq ?_
      refine xl_gs rfl EvO.eq ?_
      refine xl_v (by first | exact v_pickT | exact v_pickF | exact v_pick) ?_
      refine xl_nil ?_
      refine x_condF ?_
      refine x_exit ?_
      refine x_seq ?_
      refine x_regionL ?_
      refine xl_v v_move ?_
      refine xl_v v_leq ?_
      refine xl_v v_assign ?_
      refine xl_nil ?_
      refine x_ret ?_
      refine fin1 rfl ?_
      refine ⟨⟨_, rfl, ?_⟩, lkc⟩
      intro hb
      simp only [decide_eq_true_eq] at hb
      have hke : k = n := by
        first
          | omega
          | (simp at g9; omega)
      subst hke
      exact ⟨by omega, fun j hj => by have := hmin j hj (by omega); omega⟩
end Go.Proofs.Ytabknhgbijcklaa
