/-
  Walks, printed by a program of this workplace (wip/tools/sx.py) off the functions' code and a text of contracts.
-/
import Derived.Test.YtbihphclmdokeaaC
set_option linter.all false
set_option maxRecDepth 100000
set_option synthInstance.maxSize 100000
set_option synthInstance.maxHeartbeats 400000
namespace Go.Proofs.Ytbihphclmdokeaa
open Go.Wst
open Go.Wst.Sm
abbrev rpC (q : Rule × Nat) : List Value := [.int .i64 q.1.id, .int .i64 q.1.inp, .int .i64 q.1.out, .int .i64 q.1.mul, .int .i64 q.1.add, .int .i64 (q.2 : Int)]
def rulesV (l : List (Int × Rule × Nat)) : List (Int × Value) := l.map (fun p => (p.1, .agg (rpC p.2).toArray))
abbrev intC (x : Int) : List Value := [.int .i64 x]
abbrev itemC (x : Itm) : List Value := [.int .i64 x.val, .int .i64 x.rule, .int .i64 x.of_]
abbrev itemsC (xs : List Itm) : List Value := xs.flatMap itemC
theorem itemsC_len (xs : List Itm) : (itemsC xs).length = xs.length * 3 := by
  induction xs with
  | nil => rfl
  | cons x xs ih => simp [itemsC, itemC] at *; omega
theorem itemsC_one (xs : List Itm) : ∀ u ∈ itemsC xs, u.oneCell' = true := by
  intro u hu
  simp only [itemsC, itemC, List.mem_flatMap] at hu
  obtain ⟨x, _, hx⟩ := hu
  simp at hx
  rcases hx with rfl | rfl | rfl <;> rfl
theorem itemsC_append (xs ys : List Itm) : itemsC (xs ++ ys) = itemsC xs ++ itemsC ys := by simp [itemsC]
structure MachAt (w : World) (b pb mb : Nat) (vs : List Value) (M : Mach) : Prop where
  ex : ∃ sp : List Value, w.heap[b]? = some (.cells [.slice (some ⟨pb, 0, none⟩) M.parts.length (M.parts.length + sp.length), .map (some mb)].toArray 87 (0, 0)) ∧ w.heap[pb]? = some (.cells (vs ++ sp).toArray 64 (0, 0))
  hs : Sls w 74 3 vs (M.parts.map itemsC)
  hm : MapB w mb (Value.int .i64) (rulesV M.rules)
  d1 : b ≠ pb
  d2 : b ≠ mb
  d3 : pb ≠ mb
  f1 : ¬ SlsF vs b
  f2 : ¬ SlsF vs pb
  f3 : ¬ SlsF vs mb
def MachF (b pb mb : Nat) (vs : List Value) : Nat → Prop := fun k => k = b ∨ k = pb ∨ k = mb ∨ SlsF vs k
theorem MachAt.lt {w : World} {b pb mb : Nat} {vs : List Value} {M : Mach} (h : MachAt w b pb mb vs M) : ∀ k, MachF b pb mb vs k → k < w.heap.size := by
  rintro k (rfl | rfl | rfl | hk)
  · obtain ⟨sp, hb, hp⟩ := h.ex
    exact (Array.getElem?_eq_some_iff.1 hb).1
  · obtain ⟨sp, hb, hp⟩ := h.ex
    exact (Array.getElem?_eq_some_iff.1 hp).1
  · exact h.hm.lt
  · exact h.hs.lt k hk
theorem MachAt.keep {w w' : World} {b pb mb : Nat} {vs : List Value} {M : Mach} {S : Nat → Prop} (h : MachAt w b pb mb vs M) (hk : Keep S w w') (hs : ∀ k, MachF b pb mb vs k → ¬ S k) : MachAt w' b pb mb vs M :=
  ⟨by obtain ⟨sp, hb, hp⟩ := h.ex; exact ⟨sp, (hk.block b (h.lt b (.inl rfl)) (hs b (.inl rfl))).trans hb, (hk.block pb (h.lt pb (.inr (.inl rfl))) (hs pb (.inr (.inl rfl)))).trans hp⟩,
    h.hs.keep hk (fun k hk => hs k (.inr (.inr (.inr hk)))), h.hm.keep hk (hs mb (.inr (.inr (.inl rfl)))), h.d1, h.d2, h.d3, h.f1, h.f2, h.f3⟩
theorem set_app {α : Type} {l m : List α} {k : Nat} {x : α} (h : k < l.length) : (l ++ m).set k x = l.set k x ++ m := List.set_append_left k x h
theorem get_app {α : Type} {l m : List α} {k : Nat} {x : α} (h : l[k]? = some x) : (l ++ m)[k]? = some x := by
  obtain ⟨h1, h2⟩ := List.getElem?_eq_some_iff.1 h
  rw [List.getElem?_append_left h1]; exact h
theorem MachAt.grow {w w' : World} {b pb mb k n' : Nat} {vs sp : List Value} {M : Mach} {V v' : Value} {xs' : List Itm} (h : MachAt w b pb mb vs M) (hV : vs[k]? = some V) (ho : w'.ownsRow 0 74 3 v' n' (itemsC xs'))
    (hk : Keep (fun j => OwnB V j ∨ OneB pb j) w w') (hbs : w.heap[b]? = some (.cells [.slice (some ⟨pb, 0, none⟩) M.parts.length (M.parts.length + sp.length), .map (some mb)].toArray 87 (0, 0))) (hp : w'.heap[pb]? = some (.cells ((vs ++ sp).set k v').toArray 64 (0, 0))) (hn : v'.ownBlock = V.ownBlock ∨ ∃ j, v'.ownBlock = some j ∧ w.heap.size ≤ j) :
    MachAt w' b pb mb (vs.set k v') { M with parts := M.parts.set k xs' } ∧ Sub (MachF b pb mb (vs.set k v')) (MachF b pb mb vs) w := by
  have hVm : ∀ j, V.ownBlock = some j → SlsF vs j := fun j hj => ⟨V, List.mem_of_getElem? hV, hj⟩
  have hnb : ∀ j, ¬ SlsF vs j → j < w.heap.size → v'.ownBlock ≠ some j := fun j hj hlt he => by
    rcases hn with hn | ⟨i, hn, hge⟩
    · exact hj (hVm j (hn ▸ he))
    · rw [hn] at he; cases he; omega
  have hlb := h.lt b (.inl rfl)
  have hlm := h.lt mb (.inr (.inr (.inl rfl)))
  have hlp := h.lt pb (.inr (.inl rfl))
  have nb : ¬ (OwnB V b ∨ OneB pb b) := fun e => e.elim (fun e => h.f1 (hVm b e.symm)) (fun e => h.d1 e)
  have nm : ¬ (OwnB V mb ∨ OneB pb mb) := fun e => e.elim (fun e => h.f3 (hVm mb e.symm)) (fun e => h.d3 e.symm)
  refine ⟨⟨⟨sp, ?_, by rw [← set_app (List.getElem?_eq_some_iff.1 hV).1]; exact hp⟩, ?_, h.hm.keep hk nm, h.d1, h.d2, h.d3, ?_, ?_, ?_⟩, ?_⟩
  · rw [hk.block b hlb nb]; simpa using hbs
  · have := h.hs.set hV ho (fun j hj hne => hk.block j (h.hs.lt j hj) (fun e => e.elim (fun e => hne e.symm) (fun e => h.f2 (e ▸ hj)))) hn
    simpa [List.map_set] using this
  · exact fun e => (slsF_set e).elim h.f1 (hnb b h.f1 hlb)
  · exact fun e => (slsF_set e).elim h.f2 (hnb pb h.f2 hlp)
  · exact fun e => (slsF_set e).elim h.f3 (hnb mb h.f3 hlm)
  · rintro j (rfl | rfl | rfl | hj)
    · exact .inl (.inl rfl)
    · exact .inl (.inr (.inl rfl))
    · exact .inl (.inr (.inr (.inl rfl)))
    · rcases slsF_set hj with hj | hj
      · exact .inl (.inr (.inr (.inr hj)))
      · rcases hn with hn | ⟨i, hn, hge⟩
        · exact .inl (.inr (.inr (.inr (hVm j (hn ▸ hj)))))
        · rw [hn] at hj; cases hj; exact .inr hge
theorem MachAt.ruled {w w' : World} {b pb mb : Nat} {vs : List Value} {M : Mach} {rs : List (Int × Rule × Nat)} (h : MachAt w b pb mb vs M) (hk : Keep (OneB mb) w w') (hm : MapB w' mb (Value.int .i64) (rulesV rs)) : MachAt w' b pb mb vs { M with rules := rs } :=
  ⟨by obtain ⟨sp, hb, hp⟩ := h.ex; exact ⟨sp, (hk.block b (h.lt b (.inl rfl)) (fun e => h.d2 e)).trans hb, (hk.block pb (h.lt pb (.inr (.inl rfl))) (fun e => h.d3 e)).trans hp⟩,
    h.hs.keep hk (fun k hk he => h.f3 (he ▸ hk)), hm, h.d1, h.d2, h.d3, h.f1, h.f2, h.f3⟩
/-- What a walk knows of a machine's partition. -/
theorem MachAt.part {w : World} {b pb mb : Nat} {vs : List Value} {M : Mach} (h : MachAt w b pb mb vs M) {n : Int} (hn : M.hasB n = true) : ∃ A cap, vs[n.toNat]? = some (.slice A (M.part n).length cap) ∧ w.ownsRow 0 74 3 (.slice A (M.part n).length cap) (M.part n).length (itemsC (M.part n)) ∧ RowP w A (itemsC (M.part n)) ∧ (M.part n).length ≤ cap := by
  have hp := Mach.part_eq hn
  have hlt : n.toNat < vs.length := by rw [h.hs.len]; simpa using (List.getElem?_eq_some_iff.1 hp).1
  obtain ⟨m, ho⟩ := h.hs.own n.toNat _ (itemsC (M.part n)) (List.getElem?_eq_getElem hlt) (by simp [hp])
  have hm : m = (M.part n).length := by have := ho.1; rw [itemsC_len] at this; omega
  subst hm
  obtain ⟨A, cap, he, _, h2, h3⟩ := ownsRow_form ho
  exact ⟨A, cap, by rw [← he]; exact List.getElem?_eq_getElem hlt, he ▸ ho, h3, h2⟩

/-- (*waystation/stream.Machine).none -/
theorem none_ok (b mb : Nat) (x : Value) (w : World) [Blk w b (.cells [x, .map (some mb)].toArray 87 (0, 0))] : Ret Try.prog 47 #[.pointer (some ⟨b, 0, none⟩)] w (fun v w' => v = .bool false ∧ w = w') := by
  refine ret_of_x (N := 12) (l := [.pointer (some ⟨b, 0, none⟩)]) Try.func47 rfl rfl (Nat.le_of_ble_eq_true rfl) ?_
  refine x_seq ?_
  refine x_regionL ?_
  refine xl_v v_assign ?_
  refine xl_nil ?_
  refine x_seq ?_
  refine x_regionL ?_
  refine xl_v v_move ?_
  refine xl_v (v_eql_pointerS) ?_
  refine xl_v v_move ?_
  refine xl_gv rfl EvO.eq v_move ?_
  refine xl_gv rfl EvO.eq (by first | exact v_nilCheckP | exact v_nilCheckF | exact v_nilCheckR (by first | assumption | rfl)) ?_
  refine xl_gv rfl EvO.eq (by first | exact v_fieldAddr | exact v_fieldAddrF (by decide) (by omega) | exact v_fieldAddrR (by first | assumption | rfl)) ?_
  refine xl_gv rfl EvO.eq (by first | exact v_load | exact v_loadO (by omega) | exact v_loadFf (by omega) | exact v_loadF0 (by omega)) ?_
  refine xl_gv rfl EvO.eq (v_eql_mapS) ?_
  refine xl_v (by first | exact v_pickT | exact v_pickF | exact v_pick) ?_
  refine xl_v v_assign ?_
  refine xl_nil ?_
  refine x_ret ?_
  refine fin1 rfl ?_
  exact ⟨rfl, rfl⟩

/-- (*waystation/stream.Machine).none -/
theorem none_nil (w : World) : Ret Try.prog 47 #[.pointer none] w (fun v w' => v = .bool true ∧ w = w') := by
  refine ret_of_x (N := 12) (l := [.pointer none]) Try.func47 rfl rfl (Nat.le_of_ble_eq_true rfl) ?_
  refine x_seq ?_
  refine x_regionL ?_
  refine xl_v v_assign ?_
  refine xl_nil ?_
  refine x_seq ?_
  refine x_regionL ?_
  refine xl_v v_move ?_
  refine xl_v (v_eql_pointerN) ?_
  refine xl_v v_move ?_
  refine xl_gs rfl EvO.eq ?_
  refine xl_gs rfl EvO.eq ?_
  refine xl_gs rfl EvO.eq ?_
  refine xl_gs rfl EvO.eq ?_
  refine xl_gs rfl EvO.eq ?_
  refine xl_v (by first | exact v_pickT | exact v_pickF | exact v_pick) ?_
  refine xl_v v_assign ?_
  refine xl_nil ?_
  refine x_ret ?_
  refine fin1 rfl ?_
  exact ⟨rfl, rfl⟩

/-- (waystation/stream.parts).has -/
theorem has_ok (n : Int) (A : Option Addr) (k c : Nat) (w : World) : Ret Try.prog 48 #[.agg #[.slice A k c], .int .i64 n] w (fun v w' => v = .bool (decide (0 ≤ n) && decide (n < (k : Int))) ∧ Lk w' w NoB) := by
  refine ret_of_x (N := 14) (l := [.agg #[.slice A k c], .int .i64 n]) Try.func48 rfl rfl (Nat.le_of_ble_eq_true rfl) ?_
  refine x_seq ?_
  refine x_regionL ?_
  refine xl_e (e_box fun b1 w1 n1 l1 k1 => ?_)
  refine xl_v v_assign ?_
  refine xl_nil ?_
  refine x_seq ?_
  refine x_regionL ?_
  refine xl_v v_move ?_
  refine xl_v v_leq ?_
  refine xl_v v_move ?_
  refine xl_split 7 (fun g7 => ?_) (fun g7 => ?_)
  ·
    refine xl_gv rfl EvO.eq v_move ?_
    refine xl_gv rfl EvO.eq (by first | exact v_fieldAddr | exact v_fieldAddrF (by decide) (by omega) | exact v_fieldAddrR (by first | assumption | rfl)) ?_
    refine xl_gv rfl EvO.eq (by first | exact v_load | exact v_loadO (by omega) | exact v_loadFf (by omega) | exact v_loadF0 (by omega)) ?_
    refine xl_gv rfl EvO.eq v_len ?_
    refine xl_gv rfl EvO.eq v_lss ?_
    refine xl_v (by first | exact v_pickT | exact v_pickF | exact v_pick) ?_
    refine xl_v v_assign ?_
    refine xl_nil ?_
    refine x_ret ?_
    refine fin1 rfl ?_
    exact ⟨by simp_all; try omega, lkc⟩
  ·
    refine xl_gs rfl EvO.eq ?_
    refine xl_gs rfl EvO.eq ?_
    refine xl_gs rfl EvO.eq ?_
    refine xl_gs rfl EvO.eq ?_
    refine xl_gs rfl EvO.eq ?_
    refine xl_v (by first | exact v_pickT | exact v_pickF | exact v_pick) ?_
    refine xl_v v_assign ?_
    refine xl_nil ?_
    refine x_ret ?_
    refine fin1 rfl ?_
    exact ⟨by simp_all; try omega, lkc⟩
end Go.Proofs.Ytbihphclmdokeaa
