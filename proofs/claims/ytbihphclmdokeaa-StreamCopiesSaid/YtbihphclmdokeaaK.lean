/-
  Walks, printed by a program of this workplace (wip/tools/sx.py) off the functions' code and a text of contracts.
-/
import Derived.Test.YtbihphclmdokeaaJ
set_option linter.all false
set_option maxRecDepth 100000
set_option synthInstance.maxSize 100000
set_option synthInstance.maxHeartbeats 400000
namespace Go.Proofs.Ytbihphclmdokeaa
open Go.Wst
open Go.Wst.Sm
/-- Keys of a map, as they are told. -/
def KeysAl (ks : List Int) : Seen → Prop := fun pre => ∃ l rest : List Int, pre = l.map (fun k => [Value.int .i64 k]) ∧ (l ++ rest).Perm ks
def KeysFin (ks : List Int) : Seen → Prop := fun pre => ∃ l : List Int, pre = l.map (fun k => [Value.int .i64 k]) ∧ l.Perm ks

/-- maps.Keys[map[int]waystation/stream.rule,int,waystation/stream.rule] -/
theorem mkeys_ok (m : Option Nat) (w : World) : Ret Try.prog 75 #[.map m] w (fun v w' => ∃ b, v = .func (.func 83) ([] : List Value).toArray [Value.pointer (some ⟨b, 0, none⟩)].toArray ∧ Blk w' b (.cells #[.map m] 85 (0, 0)) ∧ w.heap.size ≤ b ∧ Lk w' w NoB) := by
  refine ret_of_x (N := 4) (l := [.map m]) Try.func75 rfl rfl (Nat.le_of_ble_eq_true rfl) ?_
  refine x_seq ?_
  refine x_regionL ?_
  refine xl_e (e_box fun b w1 nb lb kb => ?_)
  refine xl_v v_assign ?_
  refine xl_nil ?_
  refine x_seq ?_
  refine x_regionL ?_
  refine xl_v v_makeFunc ?_
  refine xl_v v_assign ?_
  refine xl_nil ?_
  refine x_ret ?_
  refine fin1 rfl ?_
  exact ⟨b, rfl, inferInstance, Nat.le_of_eq nb.eq.symm, lkc⟩

/-- maps.Keys[map[int]waystation/stream.rule,int,waystation/stream.rule]$1 -/
theorem mkeys1_ok (y : Value) (b mb : Nat) (kvs : List (Int × Value)) (I J : Seen → (Nat → Prop) → World → Prop) (F : Nat → Prop) (w : World) [Blk w b (.cells #[.map (some mb)] 85 (0, 0))] (hm : MapB w mb (Value.int .i64) kvs) (w0 : World) (hy : YieldsI Try.prog y (KeysAl (kvs.map (·.1))) I J w0) (hw0 : w0.heap.size ≤ w.heap.size) (h0 : I [] F w) (hF : ∀ k, F k → ¬ (k = b ∨ k = mb)) : Ret Try.prog 83 #[y, .pointer (some ⟨b, 0, none⟩)] w (fun _ w' => ∃ pre F', ((KeysFin (kvs.map (·.1)) pre ∧ I pre F' w') ∨ J pre F' w') ∧ Keep F w w' ∧ Sub F' F w) := by
  haveI hmi : MapI w mb _ _ _ := ⟨hm⟩
  have hmlt := hm.lt
  refine ret_of_x (N := 14) (l := [y, .pointer (some ⟨b, 0, none⟩)]) Try.func83 rfl rfl (Nat.le_of_ble_eq_true rfl) ?_
  refine x_seq ?_
  refine x_regionL ?_
  refine xl_v (by first | exact v_load | exact v_loadO (by omega) | exact v_loadFf (by omega) | exact v_loadF0 (by omega)) ?_
  refine xl_e (e_range fun it w1 ni li hit hhas => ?_)
  refine xl_nil ?_
  refine x_block ?_
  have hFlt := hy.i.lt _ _ _ h0
  refine x_loop (fun m τ ds w' => ds = [] ∧ ∃ (ks rest : List (Int × Value)) (Fc : Nat → Prop), m = rest.length ∧ MapIt w' it mb (Value.int .i64) kvs ks rest ∧ I (ks.map (fun p => [Value.int .i64 p.1])) Fc w' ∧ ¬ Fc it ∧ ¬ Fc mb ∧ Keep F w w' ∧ Sub Fc F w ∧ Ev τ 0 y ∧ Ev τ 5 (.pointer (some ⟨it, 0, none⟩))) (kvs.length) ?start ?round
  case start =>
    refine ⟨rfl, [], kvs, F, rfl, hit, hy.i.keep _ _ _ _ _ h0 (kpc : Keep NoB w w1) (fun _ _ h => h) (fun _ h => h.elim), ?_, ?_, (kpc : Keep NoB w w1).mono (fun _ _ h => h.elim), Sub.refl _ _, inferInstance, inferInstance⟩
    · intro e; have := hFlt _ e; rw [ni.eq] at this; omega
    · exact fun e => hF _ e (.inr rfl)
  case round =>
    intro m τ2 ds2 w2 hI
    obtain ⟨rfl, ks, rest, Fc, rfl, hmit, hI, hnit, hnmb, hkF, hsF, e0, e5⟩ := hI
    have hit1 := hmit.lt.1
    have hne : it ≠ mb := fun e => by have := ni.eq; omega
    have hwit : w.heap.size ≤ it := by rw [ni.eq]; exact Ge.le
    refine x_seq ?_
    refine x_regionL ?_
    refine xl_e (e_next hmit hne fun bb qs w3 l1 hb0 hb1 => ?_)
    refine xl_v v_extract ?_
    refine xl_nil ?_
    refine x_seq ?_
    refine x_condE (fun c1 => ?_) (fun c1 => ?_)
    ·
      obtain ⟨⟨k, u⟩, rest', hperm, hmi2⟩ := hb1 c1
      have hI2 := hy.i.keep _ _ _ _ _ hI l1.keep (fun j hj e => hnit (by have e' : j = it := e; rw [← e']; exact hj)) (fun j e => by have e' : j = it := e; omega)
      have hal : KeysAl (kvs.map (·.1)) (ks.map (fun p => [Value.int .i64 p.1]) ++ [[Value.int .i64 k]]) := ⟨ks.map (·.1) ++ [k], rest'.map (·.1), by simp, by
        have := hmi2.perm.map (·.1)
        simpa using this⟩
      refine x_skip ?_
      refine x_block ?_
      refine x_seq ?_
      refine x_regionL ?_
      refine xl_v (v_entry hmi2 (fun h => h) (fun h => h)) ?_
      refine xl_v v_extract ?_
      refine xl_v v_assign ?_
      refine xl_nil ?_
      refine x_seq ?_
      refine x_regionL ?_
      refine xl_v v_move ?_
      refine xl_v v_move ?_
      refine xl_callv (hy.step _ _ Fc w3 hal hI2) ?_
      rintro _ w4 ⟨bb2, F2, rfl, hI3, hk3, hs3⟩
      refine xl_v v_not ?_
      refine xl_nil ?_
      refine x_condE (fun c2 => ?_) (fun c2 => ?_)
      ·
        refine x_ret ?_
        refine fin0r rfl ?_
        rw [if_neg (by simpa using c2)] at hI3
        refine ⟨_, F2, .inr hI3, ?_, ?_⟩
        · refine (hkF.then l1.keep (fun j hj e => by have e' : j = it := e; omega)).then hk3 (fun j hj e => ?_)
          exact (hsF j e).elim id (fun h => by omega)
        · intro j hj
          rcases hs3 j hj with e | e
          · exact hsF j e
          · exact .inr (Nat.le_trans (Nat.le_trans hkF.size l1.keep.size) e)
      ·
        refine x_skip ?_
        refine ⟨_, ?_, rfl, ks ++ [(k, u)], rest', F2, rfl, hmi2.keep hk3 hnit hnmb, ?_, ?_, ?_, ?_, ?_, inferInstance, inferInstance⟩
        · rw [hperm.length_eq]; simp
        · rw [if_pos (by simpa using c2)] at hI3
          simpa using hI3
        · intro e
          rcases hs3 _ e with e | e
          · exact hnit e
          · have := hmi2.lt.1; omega
        · intro e
          rcases hs3 _ e with e | e
          · exact hnmb e
          · have := hmi2.lt.2; omega
        · refine (hkF.then l1.keep (fun j hj e => by have e' : j = it := e; omega)).then hk3 (fun j hj e => ?_)
          exact (hsF j e).elim id (fun h => by omega)
        · intro j hj
          rcases hs3 j hj with e | e
          · exact hsF j e
          · exact .inr (Nat.le_trans (Nat.le_trans hkF.size l1.keep.size) e)
    ·
      refine x_exit ?_
      refine fin0 rfl ?_
      obtain ⟨hrest, hmi2⟩ := hb0 c1
      subst hrest
      refine ⟨_, Fc, .inl ⟨⟨ks.map (·.1), by simp, ?_⟩, hy.i.keep _ _ _ _ _ hI l1.keep (fun j hj e => hnit (by have e' : j = it := e; rw [← e']; exact hj)) (fun j e => by have e' : j = it := e; omega)⟩, hkF.then l1.keep (fun j hj e => by have e' : j = it := e; omega), hsF⟩
      have := hmi2.perm.map (·.1)
      simpa using this
end Go.Proofs.Ytbihphclmdokeaa
