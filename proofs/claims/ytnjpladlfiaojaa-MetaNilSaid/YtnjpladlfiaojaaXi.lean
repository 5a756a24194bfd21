/-
  The walk's own calculus, ninth part: ranges over functions that tell what lies in blocks of its own. No program is named here.
-/
import Derived.Test.YtnjpladlfiaojaaXh
set_option linter.all false
namespace Go.Wst
/-- What is known of what is told, and the blocks of which that speaks. -/
structure Elem (E : List Value → (Nat → Prop) → World → Prop) : Prop where
  lt : ∀ v Fv W, E v Fv W → ∀ k, Fv k → k < W.heap.size
  keep : ∀ v Fv W W' S, E v Fv W → Keep S W W' → (∀ k, Fv k → ¬ S k) → E v Fv W'
/-- Whoever is yielded to: what is told lies in blocks that came since n, and becomes its own. -/
structure YieldsE (P : Program) (y : Value) (Al : Seen → Prop) (E : List Value → (Nat → Prop) → World → Prop) (I J : Seen → (Nat → Prop) → World → Prop) (w0 : World) (n : Nat) : Prop where
  i : Stable I w0
  j : Stable J w0
  step : ∀ pre v F Fv W, Al (pre ++ [v]) → I pre F W → E v Fv W → (∀ k, Fv k → ¬ F k) → (∀ k, Fv k → n ≤ k) → CallV P y v W (fun r W' => ∃ b F', r = .bool b ∧ (if b = true then I (pre ++ [v]) F' W' else J (pre ++ [v]) F' W') ∧ Keep (fun k => F k ∨ Fv k) W W' ∧ Sub F' (fun k => F k ∨ Fv k) W)
def IterE (P : Program) (g : Value) (Own : Nat → Prop) (Al Fin : Seen → Prop) (E : List Value → (Nat → Prop) → World → Prop) (w : World) : Prop :=
  ∀ y I J F w0, YieldsE P y Al E I J w0 w.heap.size → w0.heap.size ≤ w.heap.size → I [] F w → (∀ k, F k → ¬ Own k) → CallV P g [y] w (fun _ w' => ∃ pre F', ((Fin pre ∧ I pre F' w') ∨ J pre F' w') ∧ Keep F w w' ∧ Sub F' F w)
theorem x_rangeE {P : Program} {N : Nat} {Q : Post} {τ : Tau} {ds : List Deferred} {w : World} {g : Operand} {gf : FuncId} {ga gc : Array Value} {ps : List Nat} {assign body : Code} [hg : EvO N τ g (.func (.func gf) ga gc)]
    (Own : Nat → Prop) (Al Fin : Seen → Prop) (E : List Value → (Nat → Prop) → World → Prop) (hE : Elem E) (hit : ∀ W, Lk W w NoB → IterE P (.func (.func gf) ga gc) Own Al Fin E W) (hOwn : ∀ k, Own k → k < w.heap.size) (hAl : ∀ pre v, Al (pre ++ [v]) → v.length = ps.length)
    (I : Seen → (Nat → Prop) → World → Prop) (J : Exit → Seen → (Nat → Prop) → World → Prop) (F0 : Nat → Prop) (hI : Stable I w) (hJ : ∀ e, Stable (J e) w) (h0 : I [] F0 w) (hF : ∀ k, F0 k → ¬ Own k)
    (B : List Value → Tau → Nat → World → Prop) (hBk : ∀ v τ n W1 W2 S, B v τ n W1 → Keep S W1 W2 → (∀ k, S k → k < n) → B v τ n W2)
    (ha : ∀ l pre v W, Al (pre ++ [v]) → v.length = ps.length → X P (some l) N assign (thn (fun τ1 _ W1 => Lk W1 W NoB ∧ B v τ1 W.heap.size W1) (fun _ _ _ _ => False)) (updL τ ps v) [] W)
    (hb : ∀ l pre v F Fv n W τ1 ds1, Al (pre ++ [v]) → I pre F W → E v Fv W → (∀ k, Fv k → ¬ F k) → (∀ k, Fv k → w.heap.size ≤ k) → (∀ k, F k ∨ Fv k → k < n) → w.heap.size ≤ n → n ≤ W.heap.size → B v τ1 n W → X P (some l) N body (roundQ I J (pre ++ [v]) (fun k => F k ∨ Fv k ∨ n ≤ k) W) τ1 ds1 W)
    (hn : ∀ D pre F W, Fin pre → I pre F W → Keep F0 w W → Sub F F0 w → Blk W D (.deferred (some [])) → w.heap.size ≤ D → ¬ F D → Q .normal τ (markOf D :: ds) W)
    (hj : ∀ D e pre F W, J e pre F W → (codeOf e).isSome = true → Keep F0 w W → Sub F F0 w → Blk W D (.deferred (some [])) → w.heap.size ≤ D → ¬ F D → Q e τ (markOf D :: ds) W) :
    X P none N (.rangeFunc g ps.toArray assign body) Q τ ds w := by
  intro a hrel
  refine wpIn_rangeFunc ?_
  intro fn hfn
  obtain ⟨rec, hrec⟩ : ∃ rec : LoopState → Option Code → Loop, rec = fun st pe => { state := st, pending := pe, fn, tmps := a.tmps, params := ps.toArray, assign, body, defers := w.heap.size } := ⟨_, rfl⟩
  obtain ⟨W1, hW1⟩ : ∃ W1, (w.alloc (.deferred (some []))).alloc (.loop (rec .ready none)) = W1 := ⟨_, rfl⟩
  obtain ⟨l, hl⟩ : ∃ l, l = w.heap.size + 1 := ⟨_, rfl⟩
  have hk1 : Keep NoB w W1 := by rw [← hW1]; exact (Keep.alloc w _).trans (Keep.alloc _ _)
  have hL1 : W1.heap[l]? = some (.loop (rec .ready none)) := by
    rw [← hW1, hl]; have := heap_alloc_new (w.alloc (.deferred (some []))) (.loop (rec .ready none)); rwa [World.size_alloc] at this
  have hD1 : W1.heap[w.heap.size]? = some (.deferred (some [])) := by
    rw [← hW1]; exact ((Keep.alloc (w.alloc (.deferred (some []))) (.loop (rec .ready none))).block _ (by simp) (fun h => h)).trans (heap_alloc_new w _)
  have hF0 := hI.lt _ _ _ h0
  -- the relation, with the loop's record
  obtain ⟨I', hI'⟩ : ∃ I' : Seen → (Nat → Prop) → World → Prop, I' = fun pre F' W => ∃ F, (∀ k, F' k ↔ (F k ∨ k = l)) ∧ ¬ F l ∧ I pre F W ∧ W.heap[l]? = some (.loop (rec .ready none)) ∧ Sub F F0 w ∧ ¬ F w.heap.size := ⟨_, rfl⟩
  obtain ⟨J', hJ'⟩ : ∃ J' : Seen → (Nat → Prop) → World → Prop, J' = fun pre F' W => ∃ F e, (codeOf e).isSome = true ∧ (∀ k, F' k ↔ (F k ∨ k = l)) ∧ ¬ F l ∧ J e pre F W ∧ W.heap[l]? = some (.loop (rec .done (codeOf e))) ∧ Sub F F0 w ∧ ¬ F w.heap.size := ⟨_, rfl⟩
  have hlw : ∀ k, OneB l k → w.heap.size ≤ k := fun k e => by have e' : k = l := e; omega
  have hyields : YieldsE P (.func (.yield l) #[] #[]) Al E I' J' w W1.heap.size := by
    rw [hI', hJ']
    refine ⟨⟨?_, ?_⟩, ⟨?_, ?_⟩, ?_⟩
    · rintro pre F' W ⟨F, h1, h2, h3, h4, _⟩ k hk
      rcases (h1 k).1 hk with h | h
      · exact hI.lt _ _ _ h3 k h
      · rw [h]; exact (Array.getElem?_eq_some_iff.1 h4).1
    · rintro pre F' W W' S ⟨F, h1, h2, h3, h4, h5⟩ hk hs hnew
      exact ⟨F, h1, h2, hI.keep _ _ _ _ _ h3 hk (fun k h => hs k ((h1 k).2 (.inl h))) hnew, (hk.block l (Array.getElem?_eq_some_iff.1 h4).1 (hs l ((h1 l).2 (.inr rfl)))).trans h4, h5⟩
    · rintro pre F' W ⟨F, e, _, h1, h2, h3, h4, _⟩ k hk
      rcases (h1 k).1 hk with h | h
      · exact (hJ e).lt _ _ _ h3 k h
      · rw [h]; exact (Array.getElem?_eq_some_iff.1 h4).1
    · rintro pre F' W W' S ⟨F, e, h0, h1, h2, h3, h4, h5⟩ hk hs hnew
      exact ⟨F, e, h0, h1, h2, (hJ e).keep _ _ _ _ _ h3 hk (fun k h => hs k ((h1 k).2 (.inl h))) hnew, (hk.block l (Array.getElem?_eq_some_iff.1 h4).1 (hs l ((h1 l).2 (.inr rfl)))).trans h4, h5⟩
    · rintro pre v F' Fv W hal ⟨F, h1, h2, h3, h4, h5, h6⟩ hEv hdis hnw
      have hW1s : W1.heap.size = w.heap.size + 2 := by rw [← hW1]; simp
      have hFvl : ¬ Fv l := fun e => hdis l e ((h1 l).2 (.inr rfl))
      have hlt : l < W.heap.size := (Array.getElem?_eq_some_iff.1 h4).1
      have hvl := hAl pre v hal
      have hy := run_yield (P := P) (args := v.toArray) h4 (by rw [hrec]; simp [hvl])
      refine .inr ⟨l, fn, _, assign, body, rfl, by rw [hrec] at hy; exact hy, roundIn_of_wpIn (F := FX none) hfn ?_⟩
      have hz : Rel N (updL τ ps v) [] ⟨(ps.zip v).foldl (fun t (p : Nat × Value) => t.setIfInBounds p.1 p.2) a.tmps, []⟩ := rel_zip ps v τ a.tmps ⟨hrel.size, hrel.get, rfl⟩
      have hzz : (Array.foldl (fun (tmps : Array Value) (x : Nat × Value) => tmps.setIfInBounds x.1 x.2) a.tmps (ps.toArray.zip v.toArray)) = (ps.zip v).foldl (fun t (p : Nat × Value) => t.setIfInBounds p.1 p.2) a.tmps := by
        rw [List.zip_toArray, List.foldl_toArray]
      have h7 := ha l pre v W hal hvl _ hz
      have h8 : Code.wpIn (FX (some l)) 0 P assign (Exit.then (fun a₁ w₁ => ∃ w₂, (Instr.beginRound l).run P w₁ = .ok () w₂ ∧ body.wpIn (FX (some l)) 0 P (roundPost P l (fun e w' => ∃ v_1, e = .returned v_1 ∧ ∃ b F'_1, v_1 = .bool b ∧ (if b = true then (fun pre F' W => ∃ F, (∀ k, F' k ↔ (F k ∨ k = l)) ∧ ¬ F l ∧ I pre F W ∧ W.heap[l]? = some (.loop (rec .ready none)) ∧ Sub F F0 w ∧ ¬ F w.heap.size) (pre ++ [v]) F'_1 w' else (fun pre F' W => ∃ F e, (codeOf e).isSome = true ∧ (∀ k, F' k ↔ (F k ∨ k = l)) ∧ ¬ F l ∧ J e pre F W ∧ W.heap[l]? = some (.loop (rec .done (codeOf e))) ∧ Sub F F0 w ∧ ¬ F w.heap.size) (pre ++ [v]) F'_1 w') ∧ Keep (fun k => F' k ∨ Fv k) W w' ∧ Sub F'_1 (fun k => F' k ∨ Fv k) W)) a₁ w₂) (fun _ _ _ => False))
          ⟨(ps.zip v).foldl (fun t (p : Nat × Value) => t.setIfInBounds p.1 p.2) a.tmps, []⟩ W := by
        refine wpIn_mono h7 ?_
        rintro e a1 W2 ⟨τ1, d1, hr1, hq⟩
        cases e with
        | normal =>
          obtain ⟨⟨hkW⟩, hB⟩ := hq
          have hlt2 : l < W2.heap.size := Nat.lt_of_lt_of_le hlt hkW.size
          have h4' : W2.heap[l]? = some (.loop (rec .ready none)) := (hkW.block l hlt (fun h => h)).trans h4
          have hFlt := hI.lt _ _ _ h3
          refine ⟨_, run_beginRound h4' (by rw [hrec]), ?_⟩
          have hk2 := keep_putObj W2 l (.loop { rec .ready none with state := .busy })
          have hl2 : (W2.putObj l (.loop { rec .ready none with state := .busy })).heap[l]? = some (.loop { rec .ready none with state := .busy }) := World.putObj_heap_same hlt2
          have hi2 := hI.keep _ _ _ _ _ (hI.keep _ _ _ _ _ h3 hkW (fun _ _ h => h) (fun _ h => h.elim)) hk2 (fun k hk e => h2 (by have e' : k = l := e; rw [← e']; exact hk)) hlw
          have hE2 := hE.keep _ _ _ _ _ (hE.keep _ _ _ _ _ hEv hkW (fun _ _ h => h)) hk2 (fun k hk e => hFvl (by have e' : k = l := e; rw [← e']; exact hk))
          have hsz : (W2.putObj l (.loop { rec .ready none with state := .busy })).heap.size = W2.heap.size := by simp [World.putObj]
          have hsW := hkW.size
          have hwW : w.heap.size ≤ W.heap.size := by omega
          have hB2 := hBk _ _ _ _ _ _ hB hk2 (fun k e => by have e' : k = l := e; omega)
          refine wpIn_mono (hb l pre v F Fv W.heap.size _ τ1 d1 hal hi2 hE2 (fun k hk e => hdis k hk ((h1 k).2 (.inl e))) (fun k hk => by have := hnw k hk; omega) (fun k hk => hk.elim (hFlt k) (fun hk => hE.lt _ _ _ hEv k hk)) hwW (by rw [hsz]; exact hsW) hB2 a1 hr1) ?_
          -- what the round's end leaves
          have fin : ∀ (jump : Option Code) (W3 : World) (F3 : Nat → Prop), Keep (fun k => F k ∨ Fv k ∨ W.heap.size ≤ k) (W2.putObj l (.loop { rec .ready none with state := .busy })) W3 → Sub F3 (fun k => F k ∨ Fv k ∨ W.heap.size ≤ k) (W2.putObj l (.loop { rec .ready none with state := .busy })) →
              (Instr.endRound l jump).run P W3 = .ok (.bool jump.isNone) (W3.putObj l (.loop (rec (if jump.isNone then .ready else .done) jump))) ∧
              (W3.putObj l (.loop (rec (if jump.isNone then .ready else .done) jump))).heap[l]? = some (.loop (rec (if jump.isNone then .ready else .done) jump)) ∧
              ¬ F3 l ∧ Keep (fun k => F' k ∨ Fv k) W (W3.putObj l (.loop (rec (if jump.isNone then .ready else .done) jump))) ∧ Sub (fun k => F3 k ∨ k = l) (fun k => F' k ∨ Fv k) W ∧ Sub F3 F0 w ∧ ¬ F3 w.heap.size := by
            intro jump W3 F3 hk3 hs3
            have hnl : ¬ (F l ∨ Fv l ∨ W.heap.size ≤ l) := fun e => e.elim h2 (fun e => e.elim hFvl (fun e => by omega))
            have hl3 := (hk3.block l (by rw [hsz]; exact hlt2) hnl).trans hl2
            have hr := run_endRound (P := P) jump hl3
            have hw2 : w.heap.size ≤ W2.heap.size := by omega
            refine ⟨by rw [hrec] at hr ⊢; exact hr, World.putObj_heap_same (Array.getElem?_eq_some_iff.1 hl3).1, fun h => (hs3 l h).elim hnl (fun e => by rw [hsz] at e; omega), ?_, ?_, ?_, ?_⟩
            · have k0 : Keep (fun k => F' k ∨ Fv k) W W2 := hkW.mono (fun _ _ h => h.elim)
              have k1 : Keep (fun k => F' k ∨ Fv k) W (W2.putObj l (.loop { rec .ready none with state := .busy })) := k0.then hk2 (fun k _ e => .inl ((h1 k).2 (.inr e)))
              have k2 : Keep (fun k => F' k ∨ Fv k) W W3 := k1.then hk3 (fun k hk e => e.elim (fun e => .inl ((h1 k).2 (.inl e))) (fun e => e.elim .inr (fun e => by omega)))
              exact k2.then (keep_putObj W3 l _) (fun k _ e => .inl ((h1 k).2 (.inr e)))
            · rintro k (hk | hk)
              · rcases hs3 k hk with (e | e | e) | e
                · exact .inl (.inl ((h1 k).2 (.inl e)))
                · exact .inl (.inr e)
                · exact .inr e
                · rw [hsz] at e; exact .inr (Nat.le_trans hsW e)
              · exact .inl (.inl ((h1 k).2 (.inr hk)))
            · intro k hk
              rcases hs3 k hk with (e | e | e) | e
              · exact h5 k e
              · have := hnw k e; exact .inr (by omega)
              · exact .inr (by omega)
              · rw [hsz] at e; exact .inr (by omega)
            · intro hk
              rcases hs3 _ hk with (e | e | e) | e
              · exact h6 e
              · have := hnw _ e; omega
              · omega
              · rw [hsz] at e; omega
          rintro e3 a3 W3 ⟨τ3, d3, hr3, hp⟩
          cases e3 with
          | normal =>
            obtain ⟨F3, hi3, hk3, hs3⟩ := hp
            obtain ⟨e1, e2, e3, e4, e5, e6, e7⟩ := fin none W3 F3 hk3 hs3
            have hi4 := hI.keep _ _ _ _ _ hi3 (keep_putObj W3 l (.loop (rec .ready none))) (fun k hk e => e3 (by have e' : k = l := e; rw [← e']; exact hk)) hlw
            exact ⟨_, _, e1, _, rfl, true, _, rfl, by rw [if_pos rfl]; exact ⟨F3, fun k => Iff.rfl, e3, hi4, e2, e6, e7⟩, e4, e5⟩
          | ret =>
            obtain ⟨F3, hi3, hk3, hs3⟩ := hp
            obtain ⟨e1, e2, e3, e4, e5, e6, e7⟩ := fin (some .ret) W3 F3 hk3 hs3
            have hi4 := (hJ .ret).keep _ _ _ _ _ hi3 (keep_putObj W3 l (.loop (rec .done (some .ret)))) (fun k hk e => e3 (by have e' : k = l := e; rw [← e']; exact hk)) hlw
            exact ⟨_, _, e1, _, rfl, false, _, rfl, by rw [if_neg (by simp)]; exact ⟨F3, .ret, rfl, fun k => Iff.rfl, e3, hi4, e2, e6, e7⟩, e4, e5⟩
          | exit id =>
            obtain ⟨F3, hi3, hk3, hs3⟩ := hp
            obtain ⟨e1, e2, e3, e4, e5, e6, e7⟩ := fin (some (.exit id)) W3 F3 hk3 hs3
            have hi4 := (hJ (.exit id)).keep _ _ _ _ _ hi3 (keep_putObj W3 l (.loop (rec .done (some (.exit id))))) (fun k hk e => e3 (by have e' : k = l := e; rw [← e']; exact hk)) hlw
            exact ⟨_, _, e1, _, rfl, false, _, rfl, by rw [if_neg (by simp)]; exact ⟨F3, .exit id, rfl, fun k => Iff.rfl, e3, hi4, e2, e6, e7⟩, e4, e5⟩
          | goto t => exact hp.elim
          | panic ch => exact hp.elim
          | outgrown => exact hp.elim
        | exit id => exact hq.elim
        | goto t => exact hq.elim
        | ret => exact hq.elim
        | panic ch => exact hq.elim
        | outgrown => exact hq.elim
      rw [hrec]
      simp only []
      rw [hzz]
      rw [hrec] at h8
      exact h8
  have hstart : I' [] (fun k => F0 k ∨ k = l) W1 := by
    rw [hI']
    exact ⟨F0, fun k => Iff.rfl, fun e => by have := hF0 l e; omega, hI.keep _ _ _ _ _ h0 hk1 (fun _ _ h => h) (fun _ h => h.elim), hL1, Sub.refl _ _, fun e => by have := hF0 _ e; omega⟩
  have hiter := hit W1 ⟨hk1⟩ (.func (.yield l) #[] #[]) I' J' (fun k => F0 k ∨ k = l) w hyields hk1.size hstart (fun k hk => by
    rcases hk with hk | hk
    · exact hF k hk
    · intro e; have := hOwn k e; omega)
  have hgv := hg.eq
  have post : ∀ (v : Value) (w3 : World), (∃ pre F', ((Fin pre ∧ I' pre F' w3) ∨ J' pre F' w3) ∧ Keep (fun k => F0 k ∨ k = l) W1 w3 ∧ Sub F' (fun k => F0 k ∨ k = l) W1) →
      rangePost (FX none) 0 P l (lift N Q) { a with defers := markOf w.heap.size :: a.defers } (.returned v) w3 := by
    rintro v w3 ⟨pre, F', hor, hk3, hs3⟩
    have hD3 : w3.heap[w.heap.size]? = some (.deferred (some [])) := (hk3.block _ (Array.getElem?_eq_some_iff.1 hD1).1 (fun e => e.elim (fun e => by have := hF0 _ e; omega) (fun e => by omega))).trans hD1
    have hrel2 : Rel N τ (markOf w.heap.size :: ds) { a with defers := markOf w.heap.size :: a.defers } := ⟨hrel.size, hrel.get, by simp [hrel.dfs]⟩
    have hkw : ∀ o, Keep F0 w (w3.putObj l o) := fun o => by
      have k1 : Keep F0 w W1 := hk1.mono (fun _ _ h => h.elim)
      have k2 : Keep F0 w w3 := k1.then hk3 (fun k hk e => e.elim (fun e => e) (fun e => by omega))
      exact k2.then (keep_putObj w3 l o) (fun k hk e => by have e' : k = l := e; omega)
    rcases hor with ⟨hfin, hi⟩ | hjj
    · rw [hI'] at hi
      obtain ⟨F, h1, h2, h3, h4, h5, h6⟩ := hi
      refine ⟨none, _, by have := run_endLoop (P := P) h4 (by rw [hrec]; simp); rw [hrec] at this; exact this, τ, _, hrel2, ?_⟩
      refine hn w.heap.size pre F _ hfin (hI.keep _ _ _ _ _ h3 (keep_putObj w3 l _) (fun k hk e => h2 (by have e' : k = l := e; rw [← e']; exact hk)) hlw) (hkw _) h5 ⟨(World.putObj_heap_other (by omega)).trans hD3⟩ (Nat.le_refl _) h6
    · rw [hJ'] at hjj
      obtain ⟨F, e, hc, h1, h2, h3, h4, h5, h6⟩ := hjj
      have hq := hj w.heap.size e pre F _ ((hJ e).keep _ _ _ _ _ h3 (keep_putObj w3 l (.loop { rec .done (codeOf e) with state := .exhausted })) (fun k hk e => h2 (by have e' : k = l := e; rw [← e']; exact hk)) hlw) hc (hkw _) h5 ⟨(World.putObj_heap_other (by omega)).trans hD3⟩ (Nat.le_refl _) h6
      have hrun : (Instr.endLoop l).run P w3 = .ok (codeOf e) (w3.putObj l (.loop { rec .done (codeOf e) with state := .exhausted })) := by
        subst hrec
        exact run_endLoop (P := P) h4 (by simp)
      refine ⟨codeOf e, _, hrun, ?_⟩
      cases e with
      | ret => exact wpIn_ret ⟨τ, _, hrel2, hq⟩
      | exit id => exact wpIn_exit ⟨τ, _, hrel2, hq⟩
      | normal => simp [codeOf] at hc
      | goto t => simp [codeOf] at hc
      | panic ch => simp [codeOf] at hc
      | outgrown => simp [codeOf] at hc
  have henter := run_enterLoop_outer (P := P) (w := w) fn a.tmps ps.toArray assign body
  rcases hiter with ⟨f, aa, cc, hgf, hf, h3⟩ | ⟨l2, f, t, as, bd, hgf, h2, h3⟩
  · cases hgf
    obtain ⟨fn2, cb, hfn2, hnm, hbd⟩ := hf.ex
    refine ⟨l, [markOf w.heap.size], W1, { target := .fn (.func gf) gc, args := ga ++ #[.func (.yield l) #[] #[]] }, W1, gf, ga ++ #[.func (.yield l) #[] #[]] ++ gc, W1, ?_, ?_, fun _ _ => trivial, ?_, (fun h => by simp [FX] at h), ?_⟩
    · rw [hl, ← hW1, hrec]; exact henter
    · have e1 : a.eval g = .func (.func gf) ga gc := by rw [hrel.eval]; exact hgv
      have e0 : resolve a.eval (rangeCall g l) 0 = Deferred.ofValue (a.eval g) #[.func (.yield l) #[] #[]] := by
        simp [resolve, rangeCall]
        rfl
      rw [e0, e1]
      simp [Deferred.ofValue]
    · simp [invoke, callFunc, program, Sem.run, hfn2, hnm, hbd]
    · refine (callsIn_FX (r := none) (n := 0 - 1)).2 (Calls.mono h3 ?_)
      rintro e w'' ⟨v, rfl, hR⟩
      exact post v w'' hR
  · cases hgf

end Go.Wst
