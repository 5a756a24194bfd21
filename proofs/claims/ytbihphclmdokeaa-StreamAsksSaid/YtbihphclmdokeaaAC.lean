/-
  Walks, printed by a program of this workplace (wip/tools/sx.py) off the functions' code and a text of contracts.
-/
import Derived.Test.YtbihphclmdokeaaAB
set_option linter.all false
set_option maxRecDepth 100000
set_option synthInstance.maxSize 100000
set_option synthInstance.maxHeartbeats 400000
namespace Go.Proofs.Ytbihphclmdokeaa
open Go.Wst
open Go.Wst.Sm
/-- Both, made since w1; the document's lies in the cell br too. -/
structure Since (w1 w' : World) (br b pb mb : Nat) (vs : List Value) (M : Mach) (F : Nat → Prop) (D : RD) : Prop where
  B : Both w' b pb mb vs M F D
  nm : ¬ MachF b pb mb vs br
  nf : ¬ F br
  sm : ∀ k, MachF b pb mb vs k → w1.heap.size ≤ k
  sf : ∀ k, F k → w1.heap.size ≤ k
section
variable {w1 w w' wp : World} {br b pb mb : Nat} {vs vs2 : List Value} {M M2 : Mach} {F F2 S : Nat → Prop} {D D2 : RD}
theorem Since.ext (h : Since w1 w br b pb mb vs M F D) (hk : Keep NoB w w') : Since w1 w' br b pb mb vs M F D := ⟨h.B.ext hk, h.nm, h.nf, h.sm, h.sf⟩
theorem Since.keep (h : Since w1 w br b pb mb vs M F D) (hk : Keep S w w') (h1 : ∀ k, MachF b pb mb vs k → ¬ S k) (h2 : ∀ k, F k → ¬ S k) : Since w1 w' br b pb mb vs M F D := ⟨h.B.keep hk h1 h2, h.nm, h.nf, h.sm, h.sf⟩
theorem Since.cell (h : Since w1 w br b pb mb vs M F D) (hk : Keep (OneB br) w w') : Since w1 w' br b pb mb vs M F D := h.keep hk (fun k hk e => h.nm (by have e' : k = br := e; exact e' ▸ hk)) (fun k hk e => h.nf (by have e' : k = br := e; exact e' ▸ hk))
/-- A cell that is new, or was there when they were made. -/
theorem Since.other (h : Since w1 w br b pb mb vs M F D) {c : Nat} (hk : Keep (OneB c) w w') (hm : ¬ MachF b pb mb vs c) (hf : ¬ F c) : Since w1 w' br b pb mb vs M F D := h.keep hk (fun k hk e => hm (by have e' : k = c := e; exact e' ▸ hk)) (fun k hk e => hf (by have e' : k = c := e; exact e' ▸ hk))
theorem Since.step (h : Since w1 w br b pb mb vs M F D) (hB : Both w' b pb mb vs2 M2 F2 D2) (s1 : Sub (MachF b pb mb vs2) (MachF b pb mb vs) wp) (s2 : Sub F2 F wp) (hp : w1.heap.size ≤ wp.heap.size) (hbr : br < wp.heap.size) : Since w1 w' br b pb mb vs2 M2 F2 D2 :=
  ⟨hB, fun e => (s1 _ e).elim h.nm (fun e => by omega), fun e => (s2 _ e).elim h.nf (fun e => by omega), fun k hk => (s1 k hk).elim (h.sm k) (fun e => by omega), fun k hk => (s2 k hk).elim (h.sf k) (fun e => by omega)⟩
end
theorem not_new {F2 F : Nat → Prop} {wp w0 w2 : World} {c : Nat} (s : Wst.Sub F2 F wp) (hl : ∀ k, F k → k < w0.heap.size) (l2 : ∀ k, F2 k → k < w2.heap.size) (h : (w0.heap.size ≤ c ∧ c < wp.heap.size) ∨ w2.heap.size ≤ c) : ¬ F2 c := fun e => by
  have h2 := l2 c e
  rcases h with ⟨h3, h4⟩ | h3
  · rcases s c e with h1 | h1
    · have := hl c h1; omega
    · omega
  · omega
theorem rowOut_sm {F : Nat → Prop} {w1 : World} {A : Option Addr} (h : ∀ k, F k → w1.heap.size ≤ k) (ho : OldA w1 A) : RowOut F A := ⟨fun a ha e => by have := ho.lt a ha; have := h _ e; omega⟩
theorem since_new {w1 w2 w4 w0 : World} {br b pb mb : Nat} {vs : List Value} {parts : Int} {F : Nat → Prop} {D : RD} (hp : 1 ≤ parts ∧ parts ≤ 4) (hM : MachAt w1 b pb mb vs (Mach.new parts.toNat)) (lk2 : Lk w2 w1 NoB) (hR : RefAt w2 F D (refOf (Mach.new parts.toNat))) (hbr : br = w2.heap.size) (hk : Keep (OneB br) w2 w4) (hs : ∀ k, MachF b pb mb vs k → w0.heap.size ≤ k) (hf : ∀ k, F k → w1.heap.size ≤ k) (h01 : w0.heap.size ≤ w1.heap.size) :
    Since w0 w4 br b pb mb vs (Mach.new parts.toNat) F D := by
  have h1 := hM.lt
  have h2 := hR.lt
  have h3 := lk2.keep.size
  refine ⟨⟨(hM.keep lk2.keep (fun _ _ h => h)).keep hk (fun k hk e => by have e' : k = br := e; have := h1 k hk; omega), hR.keep hk (fun k hk e => by have e' : k = br := e; have := h2 k hk; omega), Mach.ok.new (by omega) (by omega), ok2_new _, fun k hk hm => by have := hf k hk; have := h1 k hm; omega⟩, fun e => by have := h1 _ e; omega, fun e => by have := h2 _ e; omega, hs, fun k hk => by have := hf k hk; omega⟩
/-- waystation/waystationlaw14.StreamPlays -/
theorem StreamPlays_ok (parts : Int) (A : Option Addr) (n c : Nat) (xs : List ActD) (w : World) [hrow : Row w A (xs.flatMap actC)] (hl : xs.length = n) (hA : A.isSome = true ∨ n = 0) (hn : n ≤ 9223372036854775807) : Ret Try.prog 7 #[.int .i64 parts, .slice A n c] w (fun v w' => v = .bool true ∧ Lk w' w NoB) := by
  refine ret_of_x (N := 32) (l := [.int .i64 parts, .slice A n c]) Try.func7 rfl rfl (Nat.le_of_ble_eq_true rfl) ?_
  refine x_seq ?_
  refine x_regionL ?_
  refine xl_v v_assign ?_
  refine xl_nil ?_
  refine x_seq ?_
  refine x_seq ?_
  refine x_regionL ?_
  refine xl_v v_move ?_
  refine xl_v v_move ?_
  refine xl_call (few_ok parts A n c w) ?_
  rintro _ w1 ⟨rfl, lkf⟩
  refine xl_v v_not ?_
  refine xl_nil ?_
  refine x_condE (fun c1 => ?_) (fun c1 => ?_)
  ·
    refine x_seq ?_
    refine x_regionL ?_
    refine xl_call (works_ok _) ?_
    rintro _ w2 ⟨rfl, lk⟩
    refine xl_v v_assign ?_
    refine xl_nil ?_
    refine x_ret ?_
    refine fin1 rfl ?_
    exact ⟨rfl, lkc⟩
  ·
    have hfew : 1 ≤ parts ∧ parts ≤ 4 ∧ n ≤ 40 := by simp at c1; omega
    refine x_skip ?_
    refine x_seq ?_
    refine x_regionL ?_
    refine xl_v v_move ?_
    refine xl_v v_move ?_
    refine xl_call (played_ok parts A n c xs w1 hl ⟨hfew.1, hfew.2.1⟩ (by omega)) ?_
    rintro _ w3 ⟨⟨b, pb, mb, vs, M, F, D, small, rfl, hB, hm, hf, hp⟩, lkp⟩
    refine xl_v v_move ?_
    refine xl_v v_extract ?_
    refine xl_v v_extract ?_
    refine xl_v v_extract ?_
    refine xl_v v_extract ?_
    refine xl_e (e_alloc fun b4 w4 n4 l4 k4 => ?_)
    refine xl_v v_assign ?_
    refine xl_s (e_storeA fun w5 l5 k5 => ?_)
    refine xl_v v_assign ?_
    refine xl_v v_assign ?_
    refine xl_nil ?_
    refine x_seq ?_
    refine x_regionL ?_
    refine xl_v v_move ?_
    refine xl_v v_move ?_
    refine xl_gv rfl EvO.eq v_move ?_
    refine xl_gv rfl EvO.eq v_move ?_
    refine xl_split 25 (fun g25 => ?_) (fun g25 => ?_)
    ·
      refine xl_gs rfl EvO.eq ?_
      refine xl_gv rfl EvO.eq (by first | exact v_pickT | exact v_pickF | exact v_pick) ?_
      refine xl_v (by first | exact v_pickT | exact v_pickF | exact v_pick) ?_
      refine xl_v v_move ?_
      refine xl_gcall rfl EvO.eq (works_ok _) ?_
      rintro _ w6 ⟨rfl, lk⟩
      refine xl_v (by first | exact v_pickT | exact v_pickF | exact v_pick) ?_
      refine xl_v v_assign ?_
      refine xl_nil ?_
      refine x_ret ?_
      refine fin1 rfl ?_
      exact ⟨rfl, lkc⟩
    ·
      refine xl_gcall rfl EvO.eq (works_ok _) ?_
      rintro _ w7 ⟨rfl, lk⟩
      refine xl_gv rfl EvO.eq (by first | exact v_pickT | exact v_pickF | exact v_pick) ?_
      refine xl_v (by first | exact v_pickT | exact v_pickF | exact v_pick) ?_
      refine xl_v v_move ?_
      refine xl_gcall rfl EvO.eq (works_ok _) ?_
      rintro _ w8 ⟨rfl, lk⟩
      refine xl_v (by first | exact v_pickT | exact v_pickF | exact v_pick) ?_
      refine xl_v v_assign ?_
      refine xl_nil ?_
      refine x_ret ?_
      refine fin1 rfl ?_
      exact ⟨rfl, lkc⟩
/-- waystation/waystationlaw14.StreamRules -/
theorem StreamRules_ok (parts : Int) (A : Option Addr) (n c : Nat) (xs : List Rule) (w : World) [hrow : Row w A (xs.flatMap ruleC)] (hl : xs.length = n) (hA : A.isSome = true ∨ n = 0) (hn : n ≤ 9223372036854775807) : Ret Try.prog 6 #[.int .i64 parts, .slice A n c] w (fun v w' => v = .bool true ∧ Lk w' w NoB) := by
  refine ret_of_x (N := 66) (l := [.int .i64 parts, .slice A n c]) Try.func6 rfl rfl (Nat.le_of_ble_eq_true rfl) ?_
  refine x_seq ?_
  refine x_regionL ?_
  refine xl_v v_assign ?_
  refine xl_nil ?_
  refine x_seq ?_
  refine x_seq ?_
  refine x_regionL ?_
  refine xl_v v_move ?_
  refine xl_v v_lss ?_
  refine xl_v v_move ?_
  refine xl_split 14 (fun g14 => ?_) (fun g14 => ?_)
  ·
    refine xl_gs rfl EvO.eq ?_
    refine xl_gs rfl EvO.eq ?_
    refine xl_v (by first | exact v_pickT | exact v_pickF | exact v_pick) ?_
    refine xl_v v_move ?_
    refine xl_gs rfl EvO.eq ?_
    refine xl_gs rfl EvO.eq ?_
    refine xl_gs rfl EvO.eq ?_
    refine xl_v (by first | exact v_pickT | exact v_pickF | exact v_pick) ?_
    refine xl_nil ?_
    refine x_condT ?_
    refine x_seq ?_
    refine x_regionL ?_
    refine xl_call (works_ok _) ?_
    rintro _ w1 ⟨rfl, lk⟩
    refine xl_v v_assign ?_
    refine xl_nil ?_
    refine x_ret ?_
    refine fin1 rfl ?_
    exact ⟨rfl, lkc⟩
  ·
    refine xl_gv rfl EvO.eq v_move ?_
    refine xl_gv rfl EvO.eq v_gtr ?_
    refine xl_v (by first | exact v_pickT | exact v_pickF | exact v_pick) ?_
    refine xl_v v_move ?_
    refine xl_split 18 (fun g18 => ?_) (fun g18 => ?_)
    ·
      refine xl_gs rfl EvO.eq ?_
      refine xl_gs rfl EvO.eq ?_
      refine xl_gs rfl EvO.eq ?_
      refine xl_v (by first | exact v_pickT | exact v_pickF | exact v_pick) ?_
      refine xl_nil ?_
      refine x_condT ?_
      refine x_seq ?_
      refine x_regionL ?_
      refine xl_call (works_ok _) ?_
      rintro _ w2 ⟨rfl, lk⟩
      refine xl_v v_assign ?_
      refine xl_nil ?_
      refine x_ret ?_
      refine fin1 rfl ?_
      exact ⟨rfl, lkc⟩
    ·
      refine xl_gv rfl EvO.eq v_move ?_
      refine xl_gv rfl EvO.eq v_len ?_
      refine xl_gv rfl EvO.eq v_gtr ?_
      refine xl_v (by first | exact v_pickT | exact v_pickF | exact v_pick) ?_
      refine xl_nil ?_
      refine x_condE (fun c1 => ?_) (fun c1 => ?_)
      ·
        refine x_seq ?_
        refine x_regionL ?_
        refine xl_call (works_ok _) ?_
        rintro _ w3 ⟨rfl, lk⟩
        refine xl_v v_assign ?_
        refine xl_nil ?_
        refine x_ret ?_
        refine fin1 rfl ?_
        exact ⟨rfl, lkc⟩
      ·
        have hp : 1 ≤ parts ∧ parts ≤ 4 := by simp at g14 g18; omega
        have hn20 : n ≤ 20 := by simp at c1; omega
        refine x_skip ?_
        refine x_seq ?_
        refine x_regionL ?_
        refine xl_v v_move ?_
        refine xl_call (new_ok parts w) ?_
        rintro _ w4 ⟨hnew, lk1⟩
        rw [if_pos hp] at hnew
        obtain ⟨b, pb, mb, u1, rfl, hM1, hs1⟩ := hnew
        refine xl_v v_move ?_
        refine xl_v v_extract ?_
        refine xl_v v_extract ?_
        refine xl_v v_assign ?_
        refine xl_v v_assign ?_
        refine xl_nil ?_
        refine x_seq ?_
        refine x_regionL ?_
        refine xl_v v_move ?_
        refine xl_call (refNew_ok parts w4) ?_
        rintro _ w5 ⟨⟨F1, D1, hnew, hf1⟩, lk2⟩
        rw [if_pos hp] at hnew
        obtain ⟨rfl, hR1⟩ := hnew
        refine xl_v v_move ?_
        refine xl_v v_extract ?_
        refine xl_v v_extract ?_
        refine xl_e (e_alloc fun br w6 nr lr kr => ?_)
        refine xl_s (e_storeA fun w7 l7 k7 => ?_)
        refine xl_v v_assign ?_
        refine xl_nil ?_
        refine x_seq ?_
        refine x_seq ?_
        refine x_regionL ?_
        refine xl_v v_assign ?_
        refine xl_nil ?_
        refine x_block ?_
        have hSin : Since w w7 br b pb mb u1 (Mach.new parts.toNat) F1 D1 := since_new hp hM1 lk2 hR1 nr.eq (kpc : Keep (OneB br) _ w7) hs1 hf1 Ge.le
        have hbr : w.heap.size ≤ br := by rw [nr.eq]; exact Ge.le
        refine x_loop (fun m τ ds w' => ds = [] ∧ ∃ (k : Nat) (vs : List Value) (M : Mach) (F : Nat → Prop) (D : RD), m = n - k ∧ k ≤ n ∧ Since w w' br b pb mb vs M F D ∧ Ev τ 1 (.slice A n c) ∧ Ev τ 5 (.pointer (some ⟨b, 0, none⟩)) ∧ Ev τ 6 (.int .i64 0) ∧ Ev τ 7 (.pointer (some ⟨br, 0, none⟩)) ∧ Ev τ 9 (.int .i64 (k : Int)) ∧ Blk w' br (.cells (refC D (refOf M)).toArray 51 (0, 0)) ∧ Lk w' w NoB) (n) ?start ?round
        case start =>
          exact ⟨rfl, 0, u1, Mach.new parts.toNat, F1, D1, rfl, Nat.zero_le _, hSin.ext kpc, inferInstance, inferInstance, inferInstance, inferInstance, evc, inferInstance, lkc⟩
        case round =>
          intro m τ8 ds8 w8 hI
          obtain ⟨rfl, k, vs, M, F, D, rfl, hk, hS, e1, e5, e6, e7, e9, kb, lk⟩ := hI
          haveI := subF_since' (S := NoB) (w := w) hS.sm (Nat.le_refl _)
          haveI : NotS (MachF b pb mb vs) br := ⟨hS.nm⟩
          haveI : FLt (MachF b pb mb vs) w8 := ⟨hS.B.m.lt⟩
          refine x_seq ?_
          refine x_seq ?_
          refine x_regionL ?_
          refine xl_v v_move ?_
          refine xl_v v_move ?_
          refine xl_v v_len ?_
          refine xl_v v_lss ?_
          refine xl_nil ?_
          first | refine x_condP (fun c2 => ?_) (fun c2 => ?_) | refine x_condN (fun c2 => ?_) (fun c2 => ?_) | refine x_condE (fun c2 => ?_) (fun c2 => ?_)
          ·
            have hk1 : k < xs.length := by omega
            haveI hoA : OldA w A := old_of_row hrow.row (by rw [flat_len (sz := 5) (fun _ => rfl)]; omega)
            haveI := rowOut_sm hS.sm hoA
            refine x_skip ?_
            refine x_seq ?_
            refine x_block ?_
            refine x_seq ?_
            refine x_drawL (fun i => MachF b pb mb vs i ∨ NewS w8 i) (.take 0 (.take 1 (.take 2 (.take 3 (.take 4 (.take 5 (.take 6 (.fork 7 (.take 8 (.take 9 (.take 10 (.eff 11 (.eff 12 (.take 13 .done)))))) 11 (.eff 7 (.take 8 (.take 9 (.take 10 (.eff 12 (.take 13 .done)))))))))))))) mixed (by kernel_rfl) (fun _ _ _ _ _ h => h) (fun w9 l9 => ?_)
            refine xt_v rfl v_move ?_
            refine xt_v rfl (by first | exact v_loadA | exact v_loadF (by decide) (by omega)) ?_
            refine xt_v rfl v_move ?_
            refine xt_v rfl v_move ?_
            refine xt_v rfl (by first | exact v_indexAddr _ rfl (by omega) (by assumption) | exact v_indexO _ rfl (by omega) (by omega) | exact v_indexF _ (by decide) rfl (by omega) (by omega)) ?_
            refine xt_v rfl (by first | exact v_loadA | exact v_loadF (by decide) (by omega)) ?_
            refine xt_v rfl v_build ?_
            refine xt_fork ?_ ?_
            ·
              refine xt_call rfl (act_ok b pb mb vs M F D ⟨0, 0, 0, 0, 0, xs[k]⟩ w9 (hS.B.ext kpc)) ?_
              rintro _ w10 ⟨⟨vs2, F2, D2, rfl, hB2, hsm, hsf⟩, lka⟩
              refine ⟨kpc, ?_⟩
              have hS2 := hS.step hB2 hsm hsf (Nat.le_trans lk.keep.size Ge.le) (Has.lt : br < w9.heap.size)
              refine xt_v rfl v_move ?_
              refine xt_v rfl v_extract ?_
              refine xt_v rfl v_extract ?_
              refine xt_e rfl (e_alloc fun bx w11 nx lx kx => ?_)
              refine xt_s rfl (e_storeA fun w12 l12 k12 => ?_)
              have hxm : ¬ MachF b pb mb vs2 bx ∧ ¬ F2 bx := by
                have h1 := hS2.B.m.lt
                have h2 := hS2.B.r.lt
                first
                  | exact ⟨fun e => by have := h1 _ e; have := nx.eq; omega, fun e => by have := h2 _ e; have := nx.eq; omega⟩
                  | exact ⟨not_new hsm hS.B.m.lt h1 (.inl ⟨by rw [nx.eq]; exact Ge.le, Has.lt⟩), not_new hsf hS.B.r.lt h2 (.inl ⟨by rw [nx.eq]; exact Ge.le, Has.lt⟩)⟩
              have hS3 := hS2.other (kpc : Keep (OneB bx) _ w12) hxm.1 hxm.2
              refine xt_v rfl v_assign ?_
              refine xt_nil ?_
              refine x_seq ?_
              refine x_regionL ?_
              refine xl_v (by first | exact v_loadA | exact v_loadF (by decide) (by omega)) ?_
              refine xl_s (e_storeA fun w13 l9 k9 => ?_)
              have hS4 := (hS3.ext kpc).cell l9.keep
              refine xl_nil ?_
              refine x_seq ?_
              refine x_regionL ?_
              refine xl_v v_move ?_
              refine xl_v v_not ?_
              refine xl_v v_move ?_
              refine xl_gv rfl EvO.eq v_move ?_
              refine xl_gv rfl EvO.eq (by first | exact v_loadA | exact v_loadF (by decide) (by omega)) ?_
              refine xl_gcall rfl EvO.eq (is_ok b pb mb vs2 (actM M _) F2 D2 w13 (hS4.B.ext kpc)) ?_
              rintro _ w14 ⟨rfl, lki⟩
              refine xl_gv rfl EvO.eq v_not ?_
              refine xl_v (by first | exact v_pickT | exact v_pickF | exact v_pick) ?_
              refine xl_nil ?_
              refine x_condF ?_
              refine x_skip ?_
              refine x_regionL ?_
              refine xl_v v_move ?_
              refine xl_v (v_add (by omega)) ?_
              refine xl_v v_assign ?_
              refine xl_nil ?_
              exact ⟨_, by omega, rfl, k + 1, vs2, actM M _, F2, D2, rfl, by omega, hS4.ext kpc, inferInstance, inferInstance, inferInstance, inferInstance, evc, inferInstance, lkc⟩
            ·
              refine xt_e rfl (e_alloc fun bx w15 nx lx kx => ?_)
              refine xt_call rfl (act_ok b pb mb vs M F D ⟨0, 0, 0, 0, 0, xs[k]⟩ w15 (hS.B.ext kpc)) ?_
              rintro _ w16 ⟨⟨vs2, F2, D2, rfl, hB2, hsm, hsf⟩, lka⟩
              refine ⟨kpc, ?_⟩
              have hS2 := hS.step hB2 hsm hsf (Nat.le_trans lk.keep.size Ge.le) (Has.lt : br < w15.heap.size)
              refine xt_v rfl v_move ?_
              refine xt_v rfl v_extract ?_
              refine xt_v rfl v_extract ?_
              refine xt_s rfl (e_storeA fun w17 l17 k17 => ?_)
              have hxm : ¬ MachF b pb mb vs2 bx ∧ ¬ F2 bx := by
                have h1 := hS2.B.m.lt
                have h2 := hS2.B.r.lt
                first
                  | exact ⟨fun e => by have := h1 _ e; have := nx.eq; omega, fun e => by have := h2 _ e; have := nx.eq; omega⟩
                  | exact ⟨not_new hsm hS.B.m.lt h1 (.inl ⟨by rw [nx.eq]; exact Ge.le, Has.lt⟩), not_new hsf hS.B.r.lt h2 (.inl ⟨by rw [nx.eq]; exact Ge.le, Has.lt⟩)⟩
              have hS3 := hS2.other (kpc : Keep (OneB bx) _ w17) hxm.1 hxm.2
              refine xt_v rfl v_assign ?_
              refine xt_nil ?_
              refine x_seq ?_
              refine x_regionL ?_
              refine xl_v (by first | exact v_loadA | exact v_loadF (by decide) (by omega)) ?_
              refine xl_s (e_storeA fun w18 l9 k9 => ?_)
              have hS4 := (hS3.ext kpc).cell l9.keep
              refine xl_nil ?_
              refine x_seq ?_
              refine x_regionL ?_
              refine xl_v v_move ?_
              refine xl_v v_not ?_
              refine xl_v v_move ?_
              refine xl_gv rfl EvO.eq v_move ?_
              refine xl_gv rfl EvO.eq (by first | exact v_loadA | exact v_loadF (by decide) (by omega)) ?_
              refine xl_gcall rfl EvO.eq (is_ok b pb mb vs2 (actM M _) F2 D2 w18 (hS4.B.ext kpc)) ?_
              rintro _ w19 ⟨rfl, lki⟩
              refine xl_gv rfl EvO.eq v_not ?_
              refine xl_v (by first | exact v_pickT | exact v_pickF | exact v_pick) ?_
              refine xl_nil ?_
              refine x_condF ?_
              refine x_skip ?_
              refine x_regionL ?_
              refine xl_v v_move ?_
              refine xl_v (v_add (by omega)) ?_
              refine xl_v v_assign ?_
              refine xl_nil ?_
              exact ⟨_, by omega, rfl, k + 1, vs2, actM M _, F2, D2, rfl, by omega, hS4.ext kpc, inferInstance, inferInstance, inferInstance, inferInstance, evc, inferInstance, lkc⟩
          ·
            refine x_exit ?_
            refine x_seq ?_
            refine x_regionL ?_
            refine xl_v v_move ?_
            refine xl_call (num_ok _ _) ?_
            rintro _ _ ⟨rfl, rfl⟩
            refine xl_v (v_eqlT rfl) ?_
            refine xl_v v_move ?_
            refine xl_gcall rfl EvO.eq (works_ok _) ?_
            rintro _ w21 ⟨rfl, lk⟩
            refine xl_v (by first | exact v_pickT | exact v_pickF | exact v_pick) ?_
            refine xl_v v_assign ?_
            refine xl_nil ?_
            refine x_ret ?_
            refine fin1 rfl ?_
            exact ⟨rfl, lkc⟩
end Go.Proofs.Ytbihphclmdokeaa
