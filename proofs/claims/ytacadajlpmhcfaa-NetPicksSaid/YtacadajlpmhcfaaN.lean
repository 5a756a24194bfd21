/-
  Walks, printed by a program of this workplace (wip/tools/sx.py) off the functions' code and a text of contracts.
-/
import Derived.Test.YtacadajlpmhcfaaM
set_option linter.all false
set_option maxRecDepth 100000
set_option synthInstance.maxSize 100000
set_option synthInstance.maxHeartbeats 400000
namespace Go.Proofs.Ytacadajlpmhcfaa
open Go.Wst
open Go.Wst.Nm
def RowE (W : World) (G : Nat → Prop) (x : LMsg) : Prop := RowP W x.A (bytesC x.m.bytes) ∧ (x.m.bytes = [] ∨ ∀ a, x.A = some a → G a.block)
theorem RowE.keep {W W' : World} {G S : Nat → Prop} {x : LMsg} (h : RowE W G x) (hk : Keep S W W') (hs : ∀ k, G k → ¬ S k) : RowE W' G x := by
  refine ⟨?_, h.2⟩
  rcases h.2 with e | e
  · rw [e]; exact fun j v h => by simp [bytesC] at h
  · exact h.1.keep hk (fun a ha => hs _ (e a ha))
theorem RowE.mono {W : World} {G G' : Nat → Prop} {x : LMsg} (h : RowE W G x) (hs : ∀ k, G k → G' k) : RowE W G' x := ⟨h.1, h.2.imp id (fun e a ha => hs _ (e a ha))⟩
structure OnceW (n0 b mb : Nat) (N : NetL) (q : List LMsg) (gone : List Bool) (A7 : Option Addr) (c7 : Nat) (A8 : Option Addr) (c8 : Nat) (G Gq : Nat → Prop) (W : World) : Prop where
  n : NetAt W b mb G N
  o7 : W.ownsRow n0 30 3 (.slice A7 q.length c7) q.length (q.flatMap msgC)
  o8 : W.ownsRow n0 4 1 (.slice A8 gone.length c8) gone.length (gone.map Value.bool)
  rows : ∀ x ∈ q, RowE W Gq x
  ap : ∀ a a', A7 = some a → A8 = some a' → a.block ≠ a'.block
  g7 : ∀ a, A7 = some a → ¬ NetF b mb G a.block ∧ ¬ Gq a.block
  g8 : ∀ a, A8 = some a → ¬ NetF b mb G a.block ∧ ¬ Gq a.block
  gq : ∀ k, Gq k → k < W.heap.size ∧ k ≠ b ∧ k ≠ mb
section
variable {n0 b mb : Nat} {N : NetL} {q : List LMsg} {gone : List Bool} {A7 A8 : Option Addr} {c7 c8 : Nat} {G Gq : Nat → Prop} {W W' : World}
theorem own_blk {w : World} {base : Nat} {e : TypeId} {sz n m c : Nat} {A : Option Addr} {xs : List Value} (h : w.ownsRow base e sz (.slice A m c) n xs) : ∀ a, A = some a → base ≤ a.block ∧ a.block < w.heap.size := fun a ha => by subst ha; exact h.lt _ rfl
theorem OnceW.net (h : OnceW n0 b mb N q gone A7 c7 A8 c8 G Gq W) {N' : NetL} {G' : Nat → Prop} (hk : Keep (TwoB b mb) W W') (hn : NetAt W' b mb G' N') (hs : Sub G' G W) : OnceW n0 b mb N' q gone A7 c7 A8 c8 G' Gq W' := by
  have out : ∀ a : Addr, ¬ NetF b mb G a.block → a.block < W.heap.size → ¬ NetF b mb G' a.block := by
    rintro a h1 h2 (e | e | e)
    · exact h1 (.inl e)
    · exact h1 (.inr (.inl e))
    · rcases hs _ e with e | e
      · exact h1 (.inr (.inr e))
      · omega
  have two : ∀ a : Addr, ¬ NetF b mb G a.block → ¬ TwoB b mb a.block := fun a h1 e => e.elim (fun e => h1 (.inl e)) (fun e => h1 (.inr (.inl e)))
  refine ⟨hn, own_keep h.o7 hk ?_, own_keep h.o8 hk ?_, fun x hx => (h.rows x hx).keep hk (fun k hk e => ?_), h.ap, fun a ha => ⟨out a (h.g7 a ha).1 (own_blk h.o7 a ha).2, (h.g7 a ha).2⟩, fun a ha => ⟨out a (h.g8 a ha).1 (own_blk h.o8 a ha).2, (h.g8 a ha).2⟩, fun k hk' => ⟨Nat.lt_of_lt_of_le (h.gq k hk').1 hk.size, (h.gq k hk').2⟩⟩
  · intro k hk
    cases A7 with
    | none => cases hk
    | some a => cases hk; exact two a (h.g7 a rfl).1
  · intro k hk
    cases A8 with
    | none => cases hk
    | some a => cases hk; exact two a (h.g8 a rfl).1
  · have := (h.gq k hk).2
    rcases e with e | e
    · exact this.1 e
    · exact this.2 e
theorem OnceW.ext (h : OnceW n0 b mb N q gone A7 c7 A8 c8 G Gq W) (hk : Keep NoB W W') : OnceW n0 b mb N q gone A7 c7 A8 c8 G Gq W' :=
  h.net (hk.mono (fun _ _ h => h.elim)) (h.n.ext hk) (Sub.refl _ _)
theorem OnceW.app7 (h : OnceW n0 b mb N q gone A7 c7 A8 c8 G Gq W) {A' : Option Addr} {c' : Nat} {x : LMsg} {Gx : Nat → Prop} (hk : Keep (OwnB (.slice A7 q.length c7)) W W') (ho : W'.ownsRow n0 30 3 (.slice A' (q.length + 1) c') (q.length + 1) (q.flatMap msgC ++ msgC x))
    (hf : FromA A' A7 W) (hx : RowE W Gx x) (hG : ∀ k, Gx k → k < W.heap.size ∧ k ≠ b ∧ k ≠ mb ∧ (∀ a, A7 = some a → a.block ≠ k) ∧ (∀ a, A8 = some a → a.block ≠ k)) : OnceW n0 b mb N (q ++ [x]) gone A' c' A8 c8 G (fun k => Gq k ∨ Gx k) W' := by
  have h7 : ∀ k, OwnB (.slice A7 q.length c7) k → ∃ a, A7 = some a ∧ a.block = k := by
    intro k e
    cases A7 with
    | none => cases e
    | some a => exact ⟨a, rfl, by have e' : some k = some a.block := e; injection e' with e'; exact e'.symm⟩
  have hnew : ∀ a, A' = some a → (∃ a7, A7 = some a7 ∧ a.block = a7.block) ∨ a.block = W.heap.size := hf.or
  refine ⟨h.n.keep hk (fun k hk e => ?_), by simpa using ho, own_keep h.o8 hk ?_, ?_, ?_, ?_, fun a ha => ⟨(h.g8 a ha).1, fun e => e.elim (h.g8 a ha).2 (fun e => (hG _ e).2.2.2.2 a ha rfl)⟩, ?_⟩
  · obtain ⟨a, h1, h2⟩ := h7 k e
    exact (h.g7 a h1).1 (h2 ▸ hk)
  · intro k hk e
    obtain ⟨a, h1, h2⟩ := h7 k e
    cases A8 with
    | none => cases hk
    | some a8 =>
      cases hk
      exact h.ap a a8 h1 rfl h2
  · intro y hy
    rcases List.mem_append.1 hy with hy | hy
    · exact ((h.rows y hy).keep hk (fun k hk2 e => by obtain ⟨a, h1, h2⟩ := h7 k e; exact (h.g7 a h1).2 (h2 ▸ hk2))).mono (fun k e => .inl e)
    · simp only [List.mem_singleton] at hy
      subst hy
      exact (hx.keep hk (fun k hk2 e => by obtain ⟨a, h1, h2⟩ := h7 k e; exact (hG k hk2).2.2.2.1 a h1 h2)).mono (fun k e => .inr e)
  · intro a a' ha ha'
    rcases hnew a ha with ⟨a7, h1, h2⟩ | h1
    · rw [h2]; exact h.ap a7 a' h1 ha'
    · have := (own_blk h.o8 a' ha').2; omega
  · intro a ha
    rcases hnew a ha with ⟨a7, h1, h2⟩ | h1
    · rw [h2]; exact ⟨(h.g7 a7 h1).1, fun e => e.elim (h.g7 a7 h1).2 (fun e => (hG _ e).2.2.2.1 a7 h1 rfl)⟩
    · refine ⟨fun e => ?_, fun e => e.elim (fun e => ?_) (fun e => ?_)⟩
      · have := h.n.lt _ e; omega
      · have := (h.gq _ e).1; omega
      · have := (hG _ e).1; omega
  · rintro k (e | e)
    · exact ⟨Nat.lt_of_lt_of_le (h.gq k e).1 hk.size, (h.gq k e).2⟩
    · have := hG k e; exact ⟨Nat.lt_of_lt_of_le this.1 hk.size, this.2.1, this.2.2.1⟩
theorem OnceW.to8 (h : OnceW n0 b mb N q gone A7 c7 A8 c8 G Gq W) {A' : Option Addr} {c' : Nat} {gone' : List Bool} (hk : Keep (OwnB (.slice A8 gone.length c8)) W W') (ho : W'.ownsRow n0 4 1 (.slice A' gone'.length c') gone'.length (gone'.map Value.bool))
    (hf : FromA A' A8 W) : OnceW n0 b mb N q gone' A7 c7 A' c' G Gq W' := by
  have h8 : ∀ k, OwnB (.slice A8 gone.length c8) k → ∃ a, A8 = some a ∧ a.block = k := by
    intro k e
    cases A8 with
    | none => cases e
    | some a => exact ⟨a, rfl, by have e' : some k = some a.block := e; injection e' with e'; exact e'.symm⟩
  refine ⟨h.n.keep hk (fun k hk e => ?_), own_keep h.o7 hk ?_, ho, fun x hx => (h.rows x hx).keep hk (fun k hk2 e => ?_), ?_, h.g7, ?_, fun k e => ⟨Nat.lt_of_lt_of_le (h.gq k e).1 hk.size, (h.gq k e).2⟩⟩
  · obtain ⟨a, h1, h2⟩ := h8 k e
    exact (h.g8 a h1).1 (h2 ▸ hk)
  · intro k hk e
    obtain ⟨a, h1, h2⟩ := h8 k e
    cases A7 with
    | none => cases hk
    | some a7 =>
      cases hk
      exact h.ap a7 a rfl h1 h2.symm
  · obtain ⟨a, h1, h2⟩ := h8 k e
    exact (h.g8 a h1).2 (h2 ▸ hk2)
  · intro a a' ha ha'
    rcases hf.or a' ha' with ⟨a8, h1, h2⟩ | h1
    · rw [h2]; exact h.ap a a8 ha h1
    · have := (own_blk h.o7 a ha).2; omega
  · intro a ha
    rcases hf.or a ha with ⟨a8, h1, h2⟩ | h1
    · rw [h2]; exact h.g8 a8 h1
    · refine ⟨fun e => ?_, fun e => ?_⟩
      · have := h.n.lt _ e; omega
      · have := (h.gq _ e).1; omega
end
theorem rowE_old {W w : World} {x : LMsg} (h : RowB W x.A w (bytesC x.m.bytes)) : RowE W (fun k => k < w.heap.size) x := ⟨h.row, h.far.imp (fun e => by simpa [bytesC] using e) id⟩
theorem rowE_own {W : World} {base m : Nat} {e : TypeId} {x : LMsg} (h : W.ownsRow base e 1 (.slice x.A m x.c) m (bytesC x.m.bytes)) : RowE W (OwnB (.slice x.A m x.c)) x := by
  refine ⟨(FRow.of_own h).row, .inr fun a ha => ?_⟩
  obtain ⟨m', A, c⟩ := x
  simp only at ha
  subst ha
  rfl
theorem setL_map {α : Type} (enc : α → Value) (xs : List α) (k : Nat) (x : α) (h : k < xs.length) : setL (xs.map enc) (k * 1) [enc x] = (xs.set k x).map enc := by
  have := flat_set (enc := fun a => [enc a]) (fun _ => rfl) xs k x h
  have e : ∀ l : List α, l.flatMap (fun a => [enc a]) = l.map enc := fun l => by induction l with
    | nil => rfl
    | cons a l ih => rw [List.flatMap_cons, ih]; rfl
  rw [e, e] at this
  exact this
/-- waystation/waystationref05.SameMsg -/
theorem samemsg2_ok (x y : LMsg) (w : World) [Row w x.A (bytesC x.m.bytes)] [Row w y.A (bytesC y.m.bytes)] : Ret Try.prog 19 #[.agg (msgC x).toArray, .agg (msgC y).toArray] w (fun v w' => v = .bool (decide (x.m = y.m)) ∧ Lk w' w NoB) := by
  refine ret_of_x (N := 26) (l := [.agg (msgC x).toArray, .agg (msgC y).toArray]) Try.func19 rfl rfl (Nat.le_of_ble_eq_true rfl) ?_
  refine x_seq ?_
  refine x_regionL ?_
  refine xl_e (e_box fun b1 w1 n1 l1 k1 => ?_)
  refine xl_e (e_box fun b2 w2 n2 l2 k2 => ?_)
  refine xl_v v_assign ?_
  refine xl_nil ?_
  refine x_seq ?_
  refine x_regionL ?_
  refine xl_v (by first | exact v_fieldAddr | exact v_fieldAddrF (by decide) (by omega) | exact v_fieldAddrR (by first | assumption | rfl)) ?_
  refine xl_v (by first | exact v_load | exact v_loadO (by omega) | exact v_loadFf (by omega) | exact v_loadF0 (by omega)) ?_
  refine xl_v (by first | exact v_fieldAddr | exact v_fieldAddrF (by decide) (by omega) | exact v_fieldAddrR (by first | assumption | rfl)) ?_
  refine xl_v (by first | exact v_load | exact v_loadO (by omega) | exact v_loadFf (by omega) | exact v_loadF0 (by omega)) ?_
  refine xl_v v_eql ?_
  refine xl_v v_move ?_
  refine xl_split 10 (fun g10 => ?_) (fun g10 => ?_)
  ·
    refine xl_gv rfl EvO.eq (by first | exact v_fieldAddr | exact v_fieldAddrF (by decide) (by omega) | exact v_fieldAddrR (by first | assumption | rfl)) ?_
    refine xl_gv rfl EvO.eq (by first | exact v_load | exact v_loadO (by omega) | exact v_loadFf (by omega) | exact v_loadF0 (by omega)) ?_
    refine xl_gv rfl EvO.eq (by first | exact v_fieldAddr | exact v_fieldAddrF (by decide) (by omega) | exact v_fieldAddrR (by first | assumption | rfl)) ?_
    refine xl_gv rfl EvO.eq (by first | exact v_load | exact v_loadO (by omega) | exact v_loadFf (by omega) | exact v_loadF0 (by omega)) ?_
    refine xl_gv rfl EvO.eq v_eql ?_
    refine xl_v (by first | exact v_pickT | exact v_pickF | exact v_pick) ?_
    refine xl_v v_move ?_
    refine xl_split 17 (fun g17 => ?_) (fun g17 => ?_)
    ·
      refine xl_gv rfl EvO.eq (by first | exact v_fieldAddr | exact v_fieldAddrF (by decide) (by omega) | exact v_fieldAddrR (by first | assumption | rfl)) ?_
      refine xl_gv rfl EvO.eq (by first | exact v_load | exact v_loadO (by omega) | exact v_loadFf (by omega) | exact v_loadF0 (by omega)) ?_
      refine xl_gv rfl EvO.eq (v_bytesStr (xs := x.m.bytes) rfl) ?_
      refine xl_gv rfl EvO.eq (by first | exact v_fieldAddr | exact v_fieldAddrF (by decide) (by omega) | exact v_fieldAddrR (by first | assumption | rfl)) ?_
      refine xl_gv rfl EvO.eq (by first | exact v_load | exact v_loadO (by omega) | exact v_loadFf (by omega) | exact v_loadF0 (by omega)) ?_
      refine xl_gv rfl EvO.eq (v_bytesStr (xs := y.m.bytes) rfl) ?_
      refine xl_gv rfl EvO.eq v_seql ?_
      refine xl_v (by first | exact v_pickT | exact v_pickF | exact v_pick) ?_
      refine xl_v v_assign ?_
      refine xl_nil ?_
      refine x_ret ?_
      refine fin1 rfl ?_
      refine ⟨?_, lkc⟩
      rw [msg_dec]
      simp_all
    ·
      refine xl_gs rfl EvO.eq ?_
      refine xl_gs rfl EvO.eq ?_
      refine xl_gs rfl EvO.eq ?_
      refine xl_gs rfl EvO.eq ?_
      refine xl_gs rfl EvO.eq ?_
      refine xl_gs rfl EvO.eq ?_
      refine xl_gs rfl EvO.eq ?_
      refine xl_v (by first | exact v_pickT | exact v_pickF | exact v_pick) ?_
      refine xl_v v_assign ?_
      refine xl_nil ?_
      refine x_ret ?_
      refine fin1 rfl ?_
      refine ⟨?_, lkc⟩
      rw [msg_dec]
      simp_all
  ·
    refine xl_gs rfl EvO.eq ?_
    refine xl_gs rfl EvO.eq ?_
    refine xl_gs rfl EvO.eq ?_
    refine xl_gs rfl EvO.eq ?_
    refine xl_gs rfl EvO.eq ?_
    refine xl_v (by first | exact v_pickT | exact v_pickF | exact v_pick) ?_
    refine xl_v v_move ?_
    refine xl_gs rfl EvO.eq ?_
    refine xl_gs rfl EvO.eq ?_
    refine xl_gs rfl EvO.eq ?_
    refine xl_gs rfl EvO.eq ?_
    refine xl_gs rfl EvO.eq ?_
    refine xl_gs rfl EvO.eq ?_
    refine xl_gs rfl EvO.eq ?_
    refine xl_v (by first | exact v_pickT | exact v_pickF | exact v_pick) ?_
    refine xl_v v_assign ?_
    refine xl_nil ?_
    refine x_ret ?_
    refine fin1 rfl ?_
    refine ⟨?_, lkc⟩
    rw [msg_dec]
    simp_all
/-- waystation/waystationlaw05.NetOnce -/
theorem netOnce_ok (most : Int) (A : Option Addr) (n c : Nat) (xs : List LAct) (w : World) [hra : Row w A (xs.flatMap actC)] (hrs : ∀ j (h : j < xs.length), RowP w xs[j].x.A (bytesC xs[j].x.m.bytes)) (hl : xs.length = n) (hn : n ≤ 9223372036854775807) : Ret Try.prog 4 #[.int .i64 most, .slice A n c] w (fun v w' => v = .bool true ∧ Lk w' w NoB) := by
  haveI hrb : RowB w A w (xs.flatMap actC) := rowB_of hra.row
  refine ret_of_x (N := 214) (l := [.int .i64 most, .slice A n c]) Try.func4 rfl rfl (Nat.le_of_ble_eq_true rfl) ?_
  refine x_seq ?_
  refine x_regionL ?_
  refine xl_v v_assign ?_
  refine xl_nil ?_
  refine x_seq ?_
  refine x_seq ?_
  refine x_regionL ?_
  refine xl_v v_move ?_
  refine xl_v v_lss ?_
  refine xl_v v_move ?_
  refine xl_split 27 (fun g27 => ?_) (fun g27 => ?_)
  ·
    refine xl_gs rfl EvO.eq ?_
    refine xl_gs rfl EvO.eq ?_
    refine xl_v (by first | exact v_pickT | exact v_pickF | exact v_pick) ?_
    refine xl_v v_move ?_
    refine xl_gs rfl EvO.eq ?_
    refine xl_gs rfl EvO.eq ?_
    refine xl_gs rfl EvO.eq ?_
    refine xl_v (by first | exact v_pickT | exact v_pickF | exact v_pick) ?_
    refine xl_nil ?_
    refine x_condT ?_
    refine x_seq ?_
    refine x_regionL ?_
    refine xl_call (works_ok w) ?_
    rintro _ w1 ⟨rfl, lkw⟩
    refine xl_v v_assign ?_
    refine xl_nil ?_
    refine x_ret ?_
    refine fin1 rfl ?_
    exact ⟨rfl, lkc⟩
  ·
    refine xl_gv rfl EvO.eq v_move ?_
    refine xl_gv rfl EvO.eq v_gtr ?_
    refine xl_v (by first | exact v_pickT | exact v_pickF | exact v_pick) ?_
    refine xl_v v_move ?_
    refine xl_split 31 (fun g31 => ?_) (fun g31 => ?_)
    ·
      refine xl_gs rfl EvO.eq ?_
      refine xl_gs rfl EvO.eq ?_
      refine xl_gs rfl EvO.eq ?_
      refine xl_v (by first | exact v_pickT | exact v_pickF | exact v_pick) ?_
      refine xl_nil ?_
      refine x_condT ?_
      refine x_seq ?_
      refine x_regionL ?_
      refine xl_call (works_ok w) ?_
      rintro _ w2 ⟨rfl, lkw⟩
      refine xl_v v_assign ?_
      refine xl_nil ?_
      refine x_ret ?_
      refine fin1 rfl ?_
      exact ⟨rfl, lkc⟩
    ·
      refine xl_gv rfl EvO.eq v_move ?_
      refine xl_gcall rfl EvO.eq (few_ok A n c xs _ hl hn) ?_
      rintro _ _ ⟨⟨fb, rfl, hfb⟩, rfl⟩
      refine xl_gv rfl EvO.eq v_not ?_
      refine xl_v (by first | exact v_pickT | exact v_pickF | exact v_pick) ?_
      refine xl_nil ?_
      first | refine x_condP (fun c1 => ?_) (fun c1 => ?_) | refine x_condN (fun c1 => ?_) (fun c1 => ?_) | refine x_condE (fun c1 => ?_) (fun c1 => ?_)
      ·
        refine x_seq ?_
        refine x_regionL ?_
        refine xl_call (works_ok w) ?_
        rintro _ w4 ⟨rfl, lkw⟩
        refine xl_v v_assign ?_
        refine xl_nil ?_
        refine x_ret ?_
        refine fin1 rfl ?_
        exact ⟨rfl, lkc⟩
      ·
        have hfew : n ≤ 100 ∧ ∀ j (h : j < xs.length), xs[j].x.m.bytes.length ≤ 10000 := hfb (by simpa using c1)
        refine x_skip ?_
        refine x_seq ?_
        refine x_regionL ?_
        refine xl_v v_move ?_
        refine xl_call (new_ok most w) ?_
        rintro _ w5 ⟨hnew, lk1⟩
        have hmost : 1 ≤ most ∧ most ≤ 4096 := by simp at g27 g31; omega
        rw [if_pos hmost] at hnew
        obtain ⟨b, mb, rfl, hN0, hgb, hgm⟩ := hnew
        haveI sT : SubF (TwoB b mb) NoB w := ⟨fun k hk e => by rcases e with e | e <;> omega⟩
        haveI : Above (TwoB b mb) w := ⟨fun k e => by rcases e with e | e <;> omega⟩
        have hW0 : OnceW w.heap.size b mb ⟨most, 0, []⟩ [] [] none 0 none 0 NoB (fun k => k < w.heap.size) w5 := ⟨hN0, World.ownsRow_nil _ _ _ _, World.ownsRow_nil _ _ _ _, (by intro x hx; cases hx), (by intro a a' h; cases h), (by intro a h; cases h), (by intro a h; cases h), fun k hk => ⟨Nat.lt_of_lt_of_le hk lk1.keep.size, by omega, by omega⟩⟩
        refine xl_v v_move ?_
        refine xl_v v_extract ?_
        refine xl_v v_extract ?_
        refine xl_v v_assign ?_
        refine xl_v v_assign ?_
        refine xl_nil ?_
        refine x_seq ?_
        refine x_regionL ?_
        refine xl_v v_assign ?_
        refine xl_nil ?_
        refine x_seq ?_
        refine x_regionL ?_
        refine xl_v v_assign ?_
        refine xl_nil ?_
        refine x_seq ?_
        refine x_seq ?_
        refine x_regionL ?_
        refine xl_v v_assign ?_
        refine xl_nil ?_
        refine x_block ?_
        refine x_loop (fun m τ ds w' => ds = [] ∧ ∃ (k : Nat) (N : NetL) (q : List LMsg) (gone : List Bool) (A7 : Option Addr) (p7 : Nat) (A8 : Option Addr) (p8 : Nat) (G Gq : Nat → Prop), m = n - k ∧ k ≤ n ∧ OnceW w.heap.size b mb N q gone A7 p7 A8 p8 G Gq w' ∧ OnceOk N.pure (q.map (·.m)) gone ∧ q.length ≤ k ∧ Ev τ 1 (.slice A n c) ∧ Ev τ 5 (.pointer (some ⟨b, 0, none⟩)) ∧ Ev τ 6 (.int .i64 0) ∧ Ev τ 7 (.slice A7 q.length p7) ∧ Ev τ 8 (.slice A8 gone.length p8) ∧ Ev τ 9 (.int .i64 (k : Int)) ∧ Lk w' w NoB) (n) ?start ?round
        case start =>
          exact ⟨rfl, 0, _, [], [], none, 0, none, 0, NoB, _, rfl, by omega, hW0, OnceOk.start most hmost, by simp, inferInstance, inferInstance, inferInstance, inferInstance, inferInstance, evc, lkc⟩
        case round =>
          intro m τ6 ds6 w6 hI
          obtain ⟨rfl, k, N, q, gone, A7, p7, A8, p8, G, Gq, rfl, hk, hW, hO, hq, e1, e5, e6, e7, e8, e9, lk⟩ := hI
          have hgl : gone.length = q.length := by have := hO.len; simpa using this
          have hcame : N.came = q.length := by
            show N.pure.came = _
            have := hO.came
            simpa using this
          haveI : OwnI w6 A7 _ _ _ _ _ _ _ := ⟨hW.o7⟩
          haveI : OwnI w6 A8 _ _ _ _ _ _ _ := ⟨hW.o8⟩
          haveI : NewA A7 w := newA_of hW.o7 (Nat.le_refl _)
          haveI : NewA A8 w := newA_of hW.o8 (Nat.le_refl _)
          refine x_seq ?_
          refine x_seq ?_
          refine x_regionL ?_
          refine xl_v v_move ?_
          refine xl_v v_move ?_
          refine xl_v v_len ?_
          refine xl_v v_lss ?_
          refine xl_nil ?_
          first | refine x_condP (fun c2 => ?_) (fun c2 => ?_) | refine x_condN (fun c2 => ?_) (fun c2 => ?_) | refine x_condE (fun c2 => ?_) (fun c2 => ?_)
          ·
            have hk1 : k < xs.length := by omega
            haveI : RowB w xs[k].x.A w (bytesC xs[k].x.m.bytes) := rowB_of (hrs k hk1)
            refine x_skip ?_
            refine x_seq ?_
            refine x_block ?_
            refine x_seq ?_
            refine x_regionL ?_
            refine xl_v v_move ?_
            refine xl_v v_move ?_
            refine xl_v (v_indexF k (by decide) rfl (by omega) hk1) ?_
            refine xl_v (by first | exact v_loadA | exact v_loadF (by decide) (by omega)) ?_
            refine xl_e (e_alloc fun ba w7 na la ka => ?_)
            refine xl_s (e_storeA fun w8 l8 k8 => ?_)
            have hWa := hW.ext (kpc : Keep NoB w6 w8)
            have hba := na.eq
            haveI : NeB ba b := ⟨by have := hW.n.lt b (.inl rfl); omega⟩
            haveI : NeB ba mb := ⟨by have := hW.n.lt mb (.inr (.inl rfl)); omega⟩
            refine xl_nil ?_
            refine x_seq ?_
            refine x_regionL ?_
            refine xl_v (by first | exact v_fieldAddr | exact v_fieldAddrF (by decide) (by omega) | exact v_fieldAddrR (by first | assumption | rfl)) ?_
            refine xl_v (by first | exact v_load | exact v_loadO (by omega) | exact v_loadFf (by omega) | exact v_loadF0 (by omega)) ?_
            refine xl_nil ?_
            refine x_block ?_
            refine x_seq ?_
            refine x_regionL ?_
            refine xl_v v_eql ?_
            refine xl_v v_assign ?_
            refine xl_nil ?_
            first | refine x_condP (fun c3 => ?_) (fun c3 => ?_) | refine x_condN (fun c3 => ?_) (fun c3 => ?_) | refine x_condE (fun c3 => ?_) (fun c3 => ?_)
            ·
              refine x_seq ?_
              refine x_regionL ?_
              refine xl_v v_move ?_
              refine xl_v (by first | exact v_fieldAddr | exact v_fieldAddrF (by decide) (by omega) | exact v_fieldAddrR (by first | assumption | rfl)) ?_
              refine xl_v (by first | exact v_loadA | exact v_loadF (by decide) (by omega)) ?_
              refine xl_call (put_ok b mb G N xs[k].x w8 hWa.n hO.ok (by omega)) ?_
              rintro _ w9 ⟨rfl, lk2, G2, N2, hN2, hp2, hs2, _⟩
              have hW2 := hWa.net lk2.keep hN2 hs2
              have hput := hO.put' xs[k].x.m
              refine xl_v v_move ?_
              refine xl_v v_extract ?_
              refine xl_v v_extract ?_
              refine xl_v v_assign ?_
              refine xl_v v_assign ?_
              refine xl_nil ?_
              refine x_seq ?_
              refine x_regionL ?_
              refine xl_v v_move ?_
              refine xl_call (num_ok _ _) ?_
              rintro _ _ ⟨rfl, rfl⟩
              refine xl_v v_eql ?_
              refine xl_nil ?_
              first | refine x_condP (fun c4 => ?_) (fun c4 => ?_) | refine x_condN (fun c4 => ?_) (fun c4 => ?_) | refine x_condE (fun c4 => ?_) (fun c4 => ?_)
              ·
                obtain ⟨_, hat, hOd⟩ := hput.resolve_right (fun h => h.1 c4)
                rw [← hp2] at hOd
                refine x_seq ?_
                refine x_seq ?_
                refine x_regionL ?_
                refine xl_v v_move ?_
                refine xl_v v_move ?_
                refine xl_v v_len ?_
                refine xl_v (v_neqF (by rw [hat]; simp)) ?_
                refine xl_nil ?_
                refine x_condF ?_
                refine x_skip ?_
                refine x_regionL ?_
                refine xl_v v_move ?_
                refine xl_v (by first | exact v_fieldAddr | exact v_fieldAddrF (by decide) (by omega) | exact v_fieldAddrR (by first | assumption | rfl)) ?_
                refine xl_v (by first | exact v_loadA | exact v_loadF (by decide) (by omega)) ?_
                refine xl_e (e_buildSlice1 rfl fun b11 w11 n11 l11 k11 => ?_)
                have hWb : OnceW w.heap.size b mb N2 q gone A7 p7 A8 p8 G2 Gq w11 := hW2.ext kpc
                haveI hrx : RowB w11 xs[k].x.A w (bytesC xs[k].x.m.bytes) := inferInstance
                have hRx := rowE_old hrx
                haveI : OwnI w11 A7 _ _ _ _ _ _ _ := ⟨hWb.o7⟩
                haveI : OwnI w11 A8 _ _ _ _ _ _ _ := ⟨hWb.o8⟩
                refine xl_e (e_app (by omega) (by decide) (by omega) (by omega) Ge.le fun A7' c7' w12 ox lx ax fx => ?_)
                have hWc := hWb.app7 (x := xs[k].x) lx.keep ox.own fx hRx (fun j hj => by
                  refine ⟨Nat.lt_of_lt_of_le hj (Ge.le), ?_, ?_, ?_, ?_⟩
                  · omega
                  · omega
                  · intro a ha e; have := (own_blk hWb.o7 a ha).1; omega
                  · intro a ha e; have := (own_blk hWb.o8 a ha).1; omega)
                haveI : OwnI w12 A8 _ _ _ _ _ _ _ := ⟨hWc.o8⟩
                refine xl_v v_move ?_
                refine xl_e (e_buildSlice1 rfl fun b13 w13 n13 l13 k13 => ?_)
                have hWd : OnceW w.heap.size b mb N2 (q ++ [xs[k].x]) gone A7' c7' A8 p8 G2 (fun j => Gq j ∨ j < w.heap.size) w13 := hWc.ext kpc
                haveI : OwnI w13 A8 _ _ _ _ _ _ _ := ⟨hWd.o8⟩
                refine xl_e (e_app (by omega) (by decide) (by omega) (by omega) Ge.le fun A8' c8' w14 oy ly ay fy => ?_)
                have hE := hWd.to8 (gone' := gone ++ [false]) ly.keep (by simpa using oy.own) fy
                have hOE : OnceOk N2.pure ((q ++ [xs[k].x]).map (·.m)) (gone ++ [false]) := by simpa using hOd
                refine xl_v v_assign ?_
                refine xl_v v_assign ?_
                refine xl_nil ?_
                refine x_regionL ?_
                refine xl_v v_move ?_
                refine xl_v (v_add (by omega)) ?_
                refine xl_v v_assign ?_
                refine xl_nil ?_
                refine ⟨_, ?_, rfl, k + 1, _, _, _, _, _, _, _, _, _, rfl, by omega, hE, hOE, by first | omega | (simp; omega), inferInstance, inferInstance, inferInstance, (by first | infer_instance | exact evc (by simp)), (by first | infer_instance | exact evc (by simp)), evc, lkc⟩
                omega
              ·
                have hE := hW2
                have hOE : OnceOk N2.pure (q.map (·.m)) gone := by
                  rw [hp2, (hput.resolve_left (fun h => c4 h.1)).2]
                  exact hO
                refine x_skip ?_
                refine x_regionL ?_
                refine xl_v v_move ?_
                refine xl_v (v_add (by omega)) ?_
                refine xl_v v_assign ?_
                refine xl_nil ?_
                refine ⟨_, ?_, rfl, k + 1, _, _, _, _, _, _, _, _, _, rfl, by omega, hE, hOE, by first | omega | (simp; omega), inferInstance, inferInstance, inferInstance, (by first | infer_instance | exact evc (by simp)), (by first | infer_instance | exact evc (by simp)), evc, lkc⟩
                omega
            ·
              refine x_seq ?_
              refine x_regionL ?_
              refine xl_v v_eql ?_
              refine xl_v v_assign ?_
              refine xl_nil ?_
              first | refine x_condP (fun c6 => ?_) (fun c6 => ?_) | refine x_condN (fun c6 => ?_) (fun c6 => ?_) | refine x_condE (fun c6 => ?_) (fun c6 => ?_)
              ·
                refine x_seq ?_
                refine x_regionL ?_
                refine xl_v v_move ?_
                refine xl_v (by first | exact v_fieldAddr | exact v_fieldAddrF (by decide) (by omega) | exact v_fieldAddrR (by first | assumption | rfl)) ?_
                refine xl_v (by first | exact v_load | exact v_loadO (by omega) | exact v_loadFf (by omega) | exact v_loadF0 (by omega)) ?_
                refine xl_call (peek_ok b mb G N xs[k].pick w8 hWa.n hO.ok) ?_
                rintro _ w15 ⟨⟨A9, c9, rfl, ho9⟩, lk2⟩
                have hWp : ∀ W', Lk W' w15 NoB → OnceW w.heap.size b mb N q gone A7 p7 A8 p8 G Gq W' := fun W' l => (hWa.ext lk2.keep).ext l.keep
                haveI : OwnI w15 A9 _ _ _ _ _ _ _ := ⟨ho9⟩
                haveI hA9 : NewA A9 w8 := newA_of ho9 (Nat.le_refl _)
                have h9n := (ownB_lt ho9)
                haveI : RowOut (TwoB b mb) A9 := ⟨fun a ha e => by have h1 := hA9.le a ha; have h2 := hWa.n.lt b (.inl rfl); have h3 := hWa.n.lt mb (.inr (.inl rfl)); rcases e with e | e <;> omega⟩
                have h9p : ∀ j, NetF b mb G j → j < (w8).heap.size := hWa.n.lt
                have h9q : ∀ a, A7 = some a → a.block < (w8).heap.size := fun a ha => (own_blk hWa.o7 a ha).2
                have h9r : ∀ a, A8 = some a → a.block < (w8).heap.size := fun a ha => (own_blk hWa.o8 a ha).2
                refine xl_v v_move ?_
                refine xl_v v_extract ?_
                refine xl_v v_extract ?_
                refine xl_v v_extract ?_
                refine xl_e (e_alloc fun bp w16 np lp kp => ?_)
                refine xl_s (e_storeA fun w17 l17 k17 => ?_)
                have hbp := np.eq
                haveI : NeB bp b := ⟨by have := h9p b (.inl rfl); have := lk2.keep.size; omega⟩
                haveI : NeB bp mb := ⟨by have := h9p mb (.inr (.inl rfl)); have := lk2.keep.size; omega⟩
                refine xl_v v_assign ?_
                refine xl_v v_assign ?_
                refine xl_nil ?_
                refine x_seq ?_
                refine x_regionL ?_
                refine xl_v v_move ?_
                refine xl_v (by first | exact v_fieldAddr | exact v_fieldAddrF (by decide) (by omega) | exact v_fieldAddrR (by first | assumption | rfl)) ?_
                refine xl_v (by first | exact v_load | exact v_loadO (by omega) | exact v_loadFf (by omega) | exact v_loadF0 (by omega)) ?_
                refine xl_call (dup_ok b mb G N xs[k].pick w17 (hWp _ lkc).n hO.ok (by omega)) ?_
                rintro _ w18 ⟨rfl, ⟨G2, N2, hN2, hp2, hs2, _⟩, lk3⟩
                have hW2 := (hWp w17 lkc).net lk3.keep hN2 hs2
                have hdup := hO.dup xs[k].pick
                refine xl_v v_move ?_
                refine xl_v v_extract ?_
                refine xl_v v_extract ?_
                refine xl_v v_assign ?_
                refine xl_v v_assign ?_
                refine xl_nil ?_
                refine x_seq ?_
                refine x_regionL ?_
                refine xl_v v_move ?_
                refine xl_call (num_ok _ _) ?_
                rintro _ _ ⟨rfl, rfl⟩
                refine xl_v v_eql ?_
                refine xl_nil ?_
                first | refine x_condP (fun c7 => ?_) (fun c7 => ?_) | refine x_condN (fun c7 => ?_) (fun c7 => ?_) | refine x_condE (fun c7 => ?_) (fun c7 => ?_)
                ·
                  obtain ⟨_, hpe, hat, hOd⟩ := hdup.resolve_right (fun h => h.1 c7)
                  rw [← hp2] at hOd
                  refine x_seq ?_
                  refine x_seq ?_
                  refine x_regionL ?_
                  refine xl_v v_move ?_
                  refine xl_call (num_ok _ _) ?_
                  rintro _ _ ⟨rfl, rfl⟩
                  refine xl_v (v_neqF hpe) ?_
                  refine xl_v v_move ?_
                  refine xl_gv rfl EvO.eq v_move ?_
                  refine xl_gv rfl EvO.eq v_move ?_
                  refine xl_gv rfl EvO.eq v_len ?_
                  refine xl_gv rfl EvO.eq (v_neqF (by rw [hat]; simp)) ?_
                  refine xl_v (by first | exact v_pickT | exact v_pickF | exact v_pick) ?_
                  refine xl_nil ?_
                  refine x_condF ?_
                  refine x_skip ?_
                  refine x_regionL ?_
                  refine xl_v v_move ?_
                  refine xl_v (by first | exact v_loadA | exact v_loadF (by decide) (by omega)) ?_
                  refine xl_e (e_buildSlice1 rfl fun b21 w21 n21 l21 k21 => ?_)
                  have hWb : OnceW w.heap.size b mb N2 q gone A7 p7 A8 p8 G2 Gq w21 := hW2.ext kpc
                  have hRx := rowE_own (x := ⟨(N.pure.peek xs[k].pick).1, A9, c9⟩) (OwnI.own : World.ownsRow w21 _ _ _ (.slice A9 _ c9) _ _)
                  have hRl := ownB_lt (OwnI.own : World.ownsRow w21 _ _ _ (.slice A9 _ c9) _ _)
                  haveI : OwnI w21 A7 _ _ _ _ _ _ _ := ⟨hWb.o7⟩
                  haveI : OwnI w21 A8 _ _ _ _ _ _ _ := ⟨hWb.o8⟩
                  refine xl_e (e_app (by omega) (by decide) (by omega) (by omega) Ge.le fun A7' c7' w22 ox lx ax fx => ?_)
                  have hWc := hWb.app7 (x := ⟨(N.pure.peek xs[k].pick).1, A9, c9⟩) lx.keep ox.own fx hRx (fun j hj => by
                    have h1 := (h9n j hj).1
                    refine ⟨(hRl j hj).2, ?_, ?_, ?_, ?_⟩
                    · have := h9p b (.inl rfl); omega
                    · have := h9p mb (.inr (.inl rfl)); omega
                    · intro a ha e; have := h9q a ha; omega
                    · intro a ha e; have := h9r a ha; omega)
                  haveI : OwnI w22 A8 _ _ _ _ _ _ _ := ⟨hWc.o8⟩
                  refine xl_v v_move ?_
                  refine xl_e (e_buildSlice1 rfl fun b23 w23 n23 l23 k23 => ?_)
                  have hWd := hWc.ext (W' := w23) kpc
                  haveI : OwnI w23 A8 _ _ _ _ _ _ _ := ⟨hWd.o8⟩
                  refine xl_e (e_app (by omega) (by decide) (by omega) (by omega) Ge.le fun A8' c8' w24 oy ly ay fy => ?_)
                  have hE := hWd.to8 (gone' := gone ++ [false]) ly.keep (by simpa using oy.own) fy
                  have hOE : OnceOk N2.pure ((q ++ [(⟨(N.pure.peek xs[k].pick).1, A9, c9⟩ : LMsg)]).map (·.m)) (gone ++ [false]) := by simpa using hOd
                  refine xl_v v_assign ?_
                  refine xl_v v_assign ?_
                  refine xl_nil ?_
                  refine x_regionL ?_
                  refine xl_v v_move ?_
                  refine xl_v (v_add (by omega)) ?_
                  refine xl_v v_assign ?_
                  refine xl_nil ?_
                  refine ⟨_, ?_, rfl, k + 1, _, _, _, _, _, _, _, _, _, rfl, by omega, hE, hOE, by first | omega | (simp; omega), inferInstance, inferInstance, inferInstance, (by first | infer_instance | exact evc (by simp)), (by first | infer_instance | exact evc (by simp)), evc, lkc⟩
                  omega
                ·
                  have hE := hW2
                  have hOE : OnceOk N2.pure (q.map (·.m)) gone := by
                    rw [hp2, (hdup.resolve_left (fun h => c7 h.1)).2]
                    exact hO
                  refine x_skip ?_
                  refine x_regionL ?_
                  refine xl_v v_move ?_
                  refine xl_v (v_add (by omega)) ?_
                  refine xl_v v_assign ?_
                  refine xl_nil ?_
                  refine ⟨_, ?_, rfl, k + 1, _, _, _, _, _, _, _, _, _, rfl, by omega, hE, hOE, by first | omega | (simp; omega), inferInstance, inferInstance, inferInstance, (by first | infer_instance | exact evc (by simp)), (by first | infer_instance | exact evc (by simp)), evc, lkc⟩
                  omega
              ·
                refine x_seq ?_
                refine x_regionL ?_
                refine xl_v v_eql ?_
                refine xl_v v_assign ?_
                refine xl_nil ?_
                first | refine x_condP (fun c9 => ?_) (fun c9 => ?_) | refine x_condN (fun c9 => ?_) (fun c9 => ?_) | refine x_condE (fun c9 => ?_) (fun c9 => ?_)
                ·
                  refine x_seq ?_
                  refine x_regionL ?_
                  refine xl_v v_move ?_
                  refine xl_v (by first | exact v_fieldAddr | exact v_fieldAddrF (by decide) (by omega) | exact v_fieldAddrR (by first | assumption | rfl)) ?_
                  refine xl_v (by first | exact v_load | exact v_loadO (by omega) | exact v_loadFf (by omega) | exact v_loadF0 (by omega)) ?_
                  refine xl_call (drop_ok b mb G N xs[k].pick w8 hWa.n hO.ok) ?_
                  rintro _ w25 ⟨rfl, ⟨N2, hN2, hp2⟩, lk3⟩
                  have hW2 := hWa.net lk3.keep hN2 (Sub.refl _ _)
                  have htk := hO.take xs[k].pick
                  refine xl_v v_move ?_
                  refine xl_v v_extract ?_
                  refine xl_v v_extract ?_
                  refine xl_v v_assign ?_
                  refine xl_v v_assign ?_
                  refine xl_nil ?_
                  refine x_seq ?_
                  refine x_regionL ?_
                  refine xl_v v_move ?_
                  refine xl_call (num_ok _ _) ?_
                  rintro _ _ ⟨rfl, rfl⟩
                  refine xl_v v_eql ?_
                  refine xl_nil ?_
                  first | refine x_condP (fun c10 => ?_) (fun c10 => ?_) | refine x_condN (fun c10 => ?_) (fun c10 => ?_) | refine x_condE (fun c10 => ?_) (fun c10 => ?_)
                  ·
                    obtain ⟨_, j, hat, hal, hgj, hOd⟩ := htk.resolve_right (fun h => h.1 c10)
                    rw [← hp2] at hOd
                    have hjl : j < gone.length := (List.getElem?_eq_some_iff.1 hgj).1
                    have hjg : gone[j] = false := by rw [List.getElem?_eq_getElem hjl] at hgj; exact Option.some.inj hgj
                    refine x_seq ?_
                    refine x_seq ?_
                    refine x_regionL ?_
                    refine xl_v v_move ?_
                    refine xl_v (v_congr (u := .bool false) v_lss (by rw [hat]; simp)) ?_
                    refine xl_v v_move ?_
                    refine xl_gv rfl EvO.eq v_move ?_
                    refine xl_gv rfl EvO.eq v_move ?_
                    refine xl_gv rfl EvO.eq v_len ?_
                    refine xl_gv rfl EvO.eq (v_congr (u := .bool false) v_geq (by rw [hat]; simp; omega)) ?_
                    refine xl_v (by first | exact v_pickT | exact v_pickF | exact v_pick) ?_
                    refine xl_v v_move ?_
                    refine xl_gv rfl EvO.eq v_move ?_
                    refine xl_gv rfl EvO.eq v_move ?_
                    haveI : OwnI w25 A8 _ _ _ _ _ _ _ := ⟨hW2.o8⟩
                    refine xl_gv rfl EvO.eq (v_indexO j hat (by omega) hjl) ?_
                    refine xl_gv rfl EvO.eq (v_congr (u := .bool false) (v_loadO (k := j) hjl) (by rw [hjg])) ?_
                    refine xl_v (by first | exact v_pickT | exact v_pickF | exact v_pick) ?_
                    refine xl_nil ?_
                    refine x_condF ?_
                    refine x_skip ?_
                    refine x_regionL ?_
                    refine xl_v v_move ?_
                    refine xl_v v_move ?_
                    haveI : OwnI w25 A8 _ _ _ _ _ _ _ := ⟨hW2.o8⟩
                    refine xl_v (v_indexO j hat (by omega) hjl) ?_
                    refine xl_s (e_storeOwn hW2.o8 (by omega) (by decide) fun w27 lx ox => ?_)
                    rw [setL_map Value.bool gone j true hjl] at ox
                    have hE := hW2.to8 (gone' := gone.set j true) lx.keep (by simpa using ox) ⟨fun a ha => .inl ⟨a, ha, rfl⟩⟩
                    have hOE := hOd
                    refine xl_nil ?_
                    refine x_regionL ?_
                    refine xl_v v_move ?_
                    refine xl_v (v_add (by omega)) ?_
                    refine xl_v v_assign ?_
                    refine xl_nil ?_
                    refine ⟨_, ?_, rfl, k + 1, _, _, _, _, _, _, _, _, _, rfl, by omega, hE, hOE, by first | omega | (simp; omega), inferInstance, inferInstance, inferInstance, (by first | infer_instance | exact evc (by simp)), (by first | infer_instance | exact evc (by simp)), evc, lkc⟩
                    omega
                  ·
                    have hE := hW2
                    have hOE : OnceOk N2.pure (q.map (·.m)) gone := by
                      rw [hp2, (htk.resolve_left (fun h => c10 h.1)).2]
                      exact hO
                    refine x_skip ?_
                    refine x_regionL ?_
                    refine xl_v v_move ?_
                    refine xl_v (v_add (by omega)) ?_
                    refine xl_v v_assign ?_
                    refine xl_nil ?_
                    refine ⟨_, ?_, rfl, k + 1, _, _, _, _, _, _, _, _, _, rfl, by omega, hE, hOE, by first | omega | (simp; omega), inferInstance, inferInstance, inferInstance, (by first | infer_instance | exact evc (by simp)), (by first | infer_instance | exact evc (by simp)), evc, lkc⟩
                    omega
                ·
                  refine x_seq ?_
                  refine x_regionL ?_
                  refine xl_v v_eql ?_
                  refine xl_v v_assign ?_
                  refine xl_nil ?_
                  first | refine x_condP (fun c12 => ?_) (fun c12 => ?_) | refine x_condN (fun c12 => ?_) (fun c12 => ?_) | refine x_condE (fun c12 => ?_) (fun c12 => ?_)
                  ·
                    refine x_seq ?_
                    refine x_regionL ?_
                    refine xl_v v_move ?_
                    refine xl_v (by first | exact v_fieldAddr | exact v_fieldAddrF (by decide) (by omega) | exact v_fieldAddrR (by first | assumption | rfl)) ?_
                    refine xl_v (by first | exact v_load | exact v_loadO (by omega) | exact v_loadFf (by omega) | exact v_loadF0 (by omega)) ?_
                    refine xl_call (take_ok b mb G N xs[k].pick w8 hWa.n hO.ok) ?_
                    rintro _ w28 ⟨⟨A9, c9, rfl, ho9⟩, ⟨N2, hN2, hp2⟩, lk3⟩
                    have hW2 := hWa.net lk3.keep hN2 (Sub.refl _ _)
                    have htk := hO.take xs[k].pick
                    haveI : OwnI w28 A9 _ _ _ _ _ _ _ := ⟨ho9⟩
                    haveI hA9 : NewA A9 w8 := newA_of ho9 (Nat.le_refl _)
                    refine xl_v v_move ?_
                    refine xl_v v_extract ?_
                    refine xl_v v_extract ?_
                    refine xl_v v_extract ?_
                    refine xl_e (e_alloc fun bp w29 np lp kp => ?_)
                    refine xl_s (e_storeA fun w30 l30 k30 => ?_)
                    have hW3 := hW2.ext (W' := w30) kpc
                    refine xl_v v_assign ?_
                    refine xl_v v_assign ?_
                    refine xl_nil ?_
                    refine x_seq ?_
                    refine x_regionL ?_
                    refine xl_v v_move ?_
                    refine xl_call (num_ok _ _) ?_
                    rintro _ _ ⟨rfl, rfl⟩
                    refine xl_v v_eql ?_
                    refine xl_nil ?_
                    first | refine x_condP (fun c13 => ?_) (fun c13 => ?_) | refine x_condN (fun c13 => ?_) (fun c13 => ?_) | refine x_condE (fun c13 => ?_) (fun c13 => ?_)
                    ·
                      obtain ⟨_, j, hat, hal, hgj, hOd⟩ := htk.resolve_right (fun h => h.1 c13)
                      rw [← hp2] at hOd
                      have hjl : j < gone.length := (List.getElem?_eq_some_iff.1 hgj).1
                      have hjg : gone[j] = false := by rw [List.getElem?_eq_getElem hjl] at hgj; exact Option.some.inj hgj
                      have hjq : j < q.length := by omega
                      have hjm : q[j].m = (N.pure.peek xs[k].pick).1 := by
                        rw [List.getElem?_map, List.getElem?_eq_getElem hjq] at hal
                        exact Option.some.inj hal
                      haveI : OwnI w30 A8 _ _ _ _ _ _ _ := ⟨hW3.o8⟩
                      haveI : OwnI w30 A7 _ _ _ _ _ _ _ := ⟨hW3.o7⟩
                      haveI : Row w30 q[j].A (bytesC q[j].m.bytes) := ⟨(hW3.rows q[j] (List.getElem_mem hjq)).1⟩
                      refine x_seq ?_
                      refine x_seq ?_
                      refine x_drawL (NoB) (.take 0 (.take 1 (.take 2 (.take 3 (.take 4 (.take 5 (.take 6 (.take 7 (.take 8 (.take 9 (.take 10 (.take 11 (.take 12 (.take 13 (.take 14 (.take 15 (.take 16 (.take 17 (.take 18 (.take 19 (.eff 20 (.take 21 (.take 22 .done))))))))))))))))))))))) mixed (by kernel_rfl) (fun _ _ _ _ _ h => h) (fun w32 l32 => ?_)
                      refine xt_v rfl v_move ?_
                      refine xt_v rfl (v_congr (u := .bool false) v_lss (by rw [hat]; simp)) ?_
                      refine xt_v rfl v_move ?_
                      refine xt_gv rfl rfl EvO.eq v_move ?_
                      refine xt_gv rfl rfl EvO.eq v_move ?_
                      refine xt_gv rfl rfl EvO.eq v_len ?_
                      refine xt_gv rfl rfl EvO.eq (v_congr (u := .bool false) v_geq (by rw [hat]; simp; omega)) ?_
                      refine xt_v rfl (by first | exact v_pickT | exact v_pickF | exact v_pick) ?_
                      refine xt_v rfl v_move ?_
                      refine xt_gv rfl rfl EvO.eq v_move ?_
                      refine xt_gv rfl rfl EvO.eq v_move ?_
                      refine xt_gv rfl rfl EvO.eq (v_indexO j hat (by omega) hjl) ?_
                      refine xt_gv rfl rfl EvO.eq (v_congr (u := .bool false) (v_loadO (k := j) hjl) (by rw [hjg])) ?_
                      refine xt_v rfl (by first | exact v_pickT | exact v_pickF | exact v_pick) ?_
                      refine xt_v rfl v_move ?_
                      refine xt_gv rfl rfl EvO.eq (by first | exact v_loadA | exact v_loadF (by decide) (by omega)) ?_
                      refine xt_gv rfl rfl EvO.eq v_move ?_
                      refine xt_gv rfl rfl EvO.eq v_move ?_
                      refine xt_gv rfl rfl EvO.eq (v_indexF j (by decide) hat (by omega) hjq) ?_
                      refine xt_gv rfl rfl EvO.eq (v_loadF (k := j) (by decide) hjq) ?_
                      refine xt_gcall rfl rfl EvO.eq (samemsg2_ok ⟨(N.pure.peek xs[k].pick).1, A9, c9⟩ q[j] w32) ?_
                      rintro _ w33 ⟨rfl, lk5⟩
                      refine ⟨kpc, ?_⟩
                      rw [decide_eq_true hjm.symm]
                      refine xt_gv rfl rfl EvO.eq v_not ?_
                      refine xt_v rfl (by first | exact v_pickT | exact v_pickF | exact v_pick) ?_
                      refine xt_nil ?_
                      refine x_condF ?_
                      refine x_skip ?_
                      refine x_regionL ?_
                      refine xl_v v_move ?_
                      refine xl_v v_move ?_
                      have hW4 := hW3.ext (W' := w33) kpc
                      haveI : OwnI w33 A8 _ _ _ _ _ _ _ := ⟨hW4.o8⟩
                      refine xl_v (v_indexO j hat (by omega) hjl) ?_
                      refine xl_s (e_storeOwn hW4.o8 (by omega) (by decide) fun w34 lx ox => ?_)
                      rw [setL_map Value.bool gone j true hjl] at ox
                      have hE := hW4.to8 (gone' := gone.set j true) lx.keep (by simpa using ox) ⟨fun a ha => .inl ⟨a, ha, rfl⟩⟩
                      have hOE := hOd
                      refine xl_nil ?_
                      refine x_regionL ?_
                      refine xl_v v_move ?_
                      refine xl_v (v_add (by omega)) ?_
                      refine xl_v v_assign ?_
                      refine xl_nil ?_
                      refine ⟨_, ?_, rfl, k + 1, _, _, _, _, _, _, _, _, _, rfl, by omega, hE, hOE, by first | omega | (simp; omega), inferInstance, inferInstance, inferInstance, (by first | infer_instance | exact evc (by simp)), (by first | infer_instance | exact evc (by simp)), evc, lkc⟩
                      omega
                    ·
                      have hE := hW3
                      have hOE : OnceOk N2.pure (q.map (·.m)) gone := by
                        rw [hp2, (htk.resolve_left (fun h => c13 h.1)).2]
                        exact hO
                      refine x_skip ?_
                      refine x_regionL ?_
                      refine xl_v v_move ?_
                      refine xl_v (v_add (by omega)) ?_
                      refine xl_v v_assign ?_
                      refine xl_nil ?_
                      refine ⟨_, ?_, rfl, k + 1, _, _, _, _, _, _, _, _, _, rfl, by omega, hE, hOE, by first | omega | (simp; omega), inferInstance, inferInstance, inferInstance, (by first | infer_instance | exact evc (by simp)), (by first | infer_instance | exact evc (by simp)), evc, lkc⟩
                      omega
                  ·
                    have hE := hWa
                    have hOE := hO
                    refine x_skip ?_
                    refine x_regionL ?_
                    refine xl_v v_move ?_
                    refine xl_v (v_add (by omega)) ?_
                    refine xl_v v_assign ?_
                    refine xl_nil ?_
                    refine ⟨_, ?_, rfl, k + 1, _, _, _, _, _, _, _, _, _, rfl, by omega, hE, hOE, by first | omega | (simp; omega), inferInstance, inferInstance, inferInstance, (by first | infer_instance | exact evc (by simp)), (by first | infer_instance | exact evc (by simp)), evc, lkc⟩
                    omega
          ·
            have hke : k = n := by omega
            refine x_exit ?_
            refine x_seq ?_
            refine x_regionL ?_
            refine xl_v v_assign ?_
            refine xl_nil ?_
            refine x_seq ?_
            refine x_seq ?_
            refine x_regionL ?_
            refine xl_v v_assign ?_
            refine xl_nil ?_
            refine x_block ?_
            refine x_loop (fun m τ ds w' => ds = [] ∧ w' = w6 ∧ ∃ (j s : Nat), m = gone.length - j ∧ j ≤ gone.length ∧ s = (gone.take j).count false ∧ Ev τ 5 (.pointer (some ⟨b, 0, none⟩)) ∧ Ev τ 6 (.int .i64 0) ∧ Ev τ 7 (.slice A7 q.length p7) ∧ Ev τ 8 (.slice A8 gone.length p8) ∧ Ev τ 23 (.int .i64 (s : Int)) ∧ Ev τ 24 (.int .i64 (j : Int))) (gone.length) ?start ?round
            case start =>
              exact ⟨rfl, rfl, 0, 0, rfl, by omega, by simp, inferInstance, inferInstance, inferInstance, inferInstance, evc, evc⟩
            case round =>
              intro m τ35 ds35 w35 hI
              obtain ⟨rfl, rfl, j, s, rfl, hj, hs, f5, f6, f7, f8, f23, f24⟩ := hI
              have hsle : s ≤ j := by rw [hs]; exact Nat.le_trans List.count_le_length (by simp; omega)
              refine x_seq ?_
              refine x_seq ?_
              refine x_regionL ?_
              refine xl_v v_move ?_
              refine xl_v v_move ?_
              refine xl_v v_len ?_
              refine xl_v v_lss ?_
              refine xl_nil ?_
              first | refine x_condP (fun c15 => ?_) (fun c15 => ?_) | refine x_condN (fun c15 => ?_) (fun c15 => ?_) | refine x_condE (fun c15 => ?_) (fun c15 => ?_)
              ·
                have hj1 : j < gone.length := by omega
                refine x_skip ?_
                refine x_seq ?_
                refine x_block ?_
                refine x_seq ?_
                refine x_regionL ?_
                refine xl_v v_move ?_
                refine xl_v v_move ?_
                refine xl_v (v_indexO j rfl (by omega) hj1) ?_
                refine xl_v (v_loadO (k := j) hj1) ?_
                refine xl_v v_not ?_
                refine xl_nil ?_
                refine x_condE (fun c16 => ?_) (fun c16 => ?_)
                ·
                  simp at c16
                  refine x_regionL ?_
                  refine xl_v v_move ?_
                  refine xl_v (v_add (by omega)) ?_
                  refine xl_v v_assign ?_
                  refine xl_nil ?_
                  refine x_regionL ?_
                  refine xl_v v_move ?_
                  refine xl_v (v_add (by omega)) ?_
                  refine xl_v v_assign ?_
                  refine xl_nil ?_
                  first
                  | refine ⟨_, ?_, rfl, rfl, j + 1, s + 1, rfl, by omega, ?_, inferInstance, inferInstance, inferInstance, inferInstance, inferInstance, evc⟩
                    · omega
                    · rw [take_snoc _ _ hj1, List.count_append, ← hs]; simp [c16]
                  | refine ⟨_, ?_, rfl, rfl, j + 1, s, rfl, by omega, ?_, inferInstance, inferInstance, inferInstance, inferInstance, inferInstance, evc⟩
                    · omega
                    · rw [take_snoc _ _ hj1, List.count_append, ← hs]; simp [c16]
                ·
                  simp at c16
                  refine x_skip ?_
                  refine x_regionL ?_
                  refine xl_v v_move ?_
                  refine xl_v (v_add (by omega)) ?_
                  refine xl_v v_assign ?_
                  refine xl_nil ?_
                  first
                  | refine ⟨_, ?_, rfl, rfl, j + 1, s + 1, rfl, by omega, ?_, inferInstance, inferInstance, inferInstance, inferInstance, inferInstance, evc⟩
                    · omega
                    · rw [take_snoc _ _ hj1, List.count_append, ← hs]; simp [c16]
                  | refine ⟨_, ?_, rfl, rfl, j + 1, s, rfl, by omega, ?_, inferInstance, inferInstance, inferInstance, inferInstance, inferInstance, evc⟩
                    · omega
                    · rw [take_snoc _ _ hj1, List.count_append, ← hs]; simp [c16]
              ·
                refine x_exit ?_
                refine x_seq ?_
                refine x_regionL ?_
                refine xl_v v_move ?_
                refine xl_call (num_ok _ _) ?_
                rintro _ _ ⟨rfl, rfl⟩
                refine xl_v (v_congr (u := .bool true) v_eql (by simp)) ?_
                refine xl_v v_move ?_
                refine xl_gv rfl EvO.eq v_move ?_
                refine xl_gcall rfl EvO.eq (len_ok b mb G N w35 hW.n) ?_
                rintro _ w37 ⟨rfl, lk6⟩
                rw [← pure_len, hO.cnt]
                refine xl_gv rfl EvO.eq v_move ?_
                refine xl_gv rfl EvO.eq (v_congr (u := .bool true) v_eql (by rw [hs, List.take_of_length_le (by omega)]; simp)) ?_
                refine xl_v (by first | exact v_pickT | exact v_pickF | exact v_pick) ?_
                refine xl_v v_move ?_
                refine xl_gv rfl EvO.eq v_move ?_
                refine xl_gcall rfl EvO.eq (came_ok b mb G N w37 (hW.n.ext lkc.keep)) ?_
                rintro _ w38 ⟨rfl, lk7⟩
                refine xl_gv rfl EvO.eq v_move ?_
                refine xl_gv rfl EvO.eq v_len ?_
                refine xl_gv rfl EvO.eq (v_congr (u := .bool true) v_eql (by rw [hcame]; simp)) ?_
                refine xl_v (by first | exact v_pickT | exact v_pickF | exact v_pick) ?_
                refine xl_v v_move ?_
                refine xl_gcall rfl EvO.eq (works_ok w38) ?_
                rintro _ w39 ⟨rfl, lk8⟩
                refine xl_v (by first | exact v_pickT | exact v_pickF | exact v_pick) ?_
                refine xl_v v_assign ?_
                refine xl_nil ?_
                refine x_ret ?_
                refine fin1 rfl ?_
                exact ⟨rfl, lkc⟩
end Go.Proofs.Ytacadajlpmhcfaa
