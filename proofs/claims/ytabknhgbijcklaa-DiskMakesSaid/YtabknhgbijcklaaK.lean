/-
  Walks, printed by a program of this workplace (wip/tools/sx.py) off the functions' code and a text of contracts.
-/
import Derived.Test.YtabknhgbijcklaaJ
set_option linter.all false
set_option maxRecDepth 100000
set_option synthInstance.maxSize 100000
set_option synthInstance.maxHeartbeats 400000
namespace Go.Proofs.Ytabknhgbijcklaa
open Go.Wst
open Go.Wst.Dm
theorem byteOk_iff (c : UInt8) : byteOk c = true ↔ (97 ≤ c.toNat ∧ c.toNat ≤ 122) ∨ (48 ≤ c.toNat ∧ c.toNat ≤ 57) ∨ c.toNat = 46 := by
  simp [byteOk, or_assoc]
theorem byteOk_f (c : UInt8) : byteOk c = false ↔ (c.toNat < 97 ∨ 122 < c.toNat) ∧ (c.toNat < 48 ∨ 57 < c.toNat) ∧ c.toNat ≠ 46 := by
  rw [← Bool.not_eq_true, byteOk_iff]
  omega

/-- waystation/waystationref03.Name -/
theorem Name_ok (s : ByteArray) (w : World) (hs : s.size ≤ 1000000000) : Ret Try.prog 19 #[.string s] w (fun v w' => v = .bool (nameOk s) ∧ w = w') := by
  refine ret_of_x (N := 46) (l := [.string s]) Try.func19 rfl rfl (Nat.le_of_ble_eq_true rfl) ?_
  refine x_seq ?_
  refine x_regionL ?_
  refine xl_v v_assign ?_
  refine xl_nil ?_
  refine x_seq ?_
  refine x_seq ?_
  refine x_regionL ?_
  refine xl_v v_move ?_
  refine xl_v v_lens ?_
  refine xl_v v_lss ?_
  refine xl_v v_move ?_
  refine xl_split 7 (fun g7 => ?_) (fun g7 => ?_)
  ·
    refine xl_gs rfl EvO.eq ?_
    refine xl_gs rfl EvO.eq ?_
    refine xl_gs rfl EvO.eq ?_
    refine xl_v (by first | exact v_pickT | exact v_pickF | exact v_pick) ?_
    refine xl_nil ?_
    refine x_condT ?_
    refine x_seq ?_
    refine x_regionL ?_
    refine xl_v v_assign ?_
    refine xl_nil ?_
    refine x_ret ?_
    refine fin1 rfl ?_
    refine ⟨congrArg Value.bool (Eq.symm ?_), rfl⟩
    rw [nameOk_f]
    rintro ⟨h1, h2⟩
    first
      | omega
      | (have g0 := of_decide_eq_true g7; omega)
      | (simp at c1; omega)
  ·
    refine xl_gv rfl EvO.eq v_move ?_
    refine xl_gv rfl EvO.eq v_lens ?_
    refine xl_gv rfl EvO.eq v_gtr ?_
    refine xl_v (by first | exact v_pickT | exact v_pickF | exact v_pick) ?_
    refine xl_nil ?_
    first | refine x_condP (fun c1 => ?_) (fun c1 => ?_) | refine x_condN (fun c1 => ?_) (fun c1 => ?_) | refine x_condE (fun c1 => ?_) (fun c1 => ?_)
    ·
      refine x_seq ?_
      refine x_regionL ?_
      refine xl_v v_assign ?_
      refine xl_nil ?_
      refine x_ret ?_
      refine fin1 rfl ?_
      refine ⟨congrArg Value.bool (Eq.symm ?_), rfl⟩
      rw [nameOk_f]
      rintro ⟨h1, h2⟩
      first
        | omega
        | (have g0 := of_decide_eq_true g7; omega)
        | (simp at c1; omega)
    ·
      have hsz : 1 ≤ s.size ∧ s.size ≤ 24 := by
        have g0 := of_decide_eq_false g7
        first
          | omega
          | (simp at c1; omega)
      refine x_skip ?_
      refine x_seq ?_
      refine x_seq ?_
      refine x_regionL ?_
      refine xl_v v_assign ?_
      refine xl_nil ?_
      refine x_block ?_
      refine x_loop (fun m τ ds w' => ds = [] ∧ w = w' ∧ ∃ k : Nat, m = s.size - k ∧ k ≤ s.size ∧ (∀ j (h : j < s.size), j < k → byteOk (s[j]'h) = true) ∧ Ev τ 0 (.string s) ∧ Ev τ 3 (.int .i64 (k : Int))) (s.size) ?start ?round
      case start =>
        exact ⟨rfl, rfl, 0, rfl, by omega, fun j _ h => by omega, inferInstance, evc⟩
      case round =>
        intro m τ1 ds1 w1 hI
        obtain ⟨rfl, hww, k, rfl, hk, hall, e0, e3⟩ := hI
        refine x_seq ?_
        refine x_seq ?_
        refine x_regionL ?_
        refine xl_v v_move ?_
        refine xl_v v_move ?_
        refine xl_v v_lens ?_
        refine xl_v v_lss ?_
        refine xl_nil ?_
        first | refine x_condP (fun c2 => ?_) (fun c2 => ?_) | refine x_condN (fun c2 => ?_) (fun c2 => ?_) | refine x_condE (fun c2 => ?_) (fun c2 => ?_)
        ·
          have hk1 : k < s.size := by omega
          refine x_skip ?_
          refine x_seq ?_
          refine x_block ?_
          refine x_seq ?_
          refine x_regionL ?_
          refine xl_v v_move ?_
          refine xl_v v_move ?_
          refine xl_v (v_indexS k rfl hk1) ?_
          refine xl_v v_lss ?_
          refine xl_v v_move ?_
          refine xl_split 22 (fun g22 => ?_) (fun g22 => ?_)
          ·
            refine xl_gs rfl EvO.eq ?_
            refine xl_gs rfl EvO.eq ?_
            refine xl_gs rfl EvO.eq ?_
            refine xl_gs rfl EvO.eq ?_
            refine xl_v (by first | exact v_pickT | exact v_pickF | exact v_pick) ?_
            refine xl_v v_move ?_
            refine xl_gv rfl EvO.eq v_move ?_
            refine xl_gv rfl EvO.eq v_move ?_
            refine xl_gv rfl EvO.eq (v_indexS k rfl hk1) ?_
            refine xl_gv rfl EvO.eq v_lss ?_
            refine xl_gv rfl EvO.eq v_move ?_
            refine xl_split 33 (fun g33 => ?_) (fun g33 => ?_)
            ·
              refine xl_gs rfl EvO.eq ?_
              refine xl_gs rfl EvO.eq ?_
              refine xl_gs rfl EvO.eq ?_
              refine xl_gs rfl EvO.eq ?_
              refine xl_gv rfl EvO.eq (by first | exact v_pickT | exact v_pickF | exact v_pick) ?_
              refine xl_v (by first | exact v_pickT | exact v_pickF | exact v_pick) ?_
              refine xl_v v_move ?_
              refine xl_gv rfl EvO.eq v_move ?_
              refine xl_gv rfl EvO.eq v_move ?_
              refine xl_gv rfl EvO.eq (v_indexS k rfl hk1) ?_
              refine xl_gv rfl EvO.eq v_neq ?_
              refine xl_v (by first | exact v_pickT | exact v_pickF | exact v_pick) ?_
              refine xl_nil ?_
              first | refine x_condP (fun c3 => ?_) (fun c3 => ?_) | refine x_condN (fun c3 => ?_) (fun c3 => ?_) | refine x_condE (fun c3 => ?_) (fun c3 => ?_)
              ·
                refine x_seq ?_
                refine x_regionL ?_
                refine xl_v v_assign ?_
                refine xl_nil ?_
                refine x_ret ?_
                refine fin1 rfl ?_
                refine ⟨congrArg Value.bool (Eq.symm ?_), hww⟩
                rw [nameOk_f]
                intro _
                rw [List.all_eq_false]
                refine ⟨s[k]'hk1, List.mem_of_getElem? (toList_get s k hk1), ?_⟩
                rw [Bool.not_eq_true, byteOk_f]
                first
                  | (simp at *; omega)
                  | skip
              ·
                refine x_skip ?_
                refine x_regionL ?_
                refine xl_v v_move ?_
                refine xl_v (v_add (by omega)) ?_
                refine xl_v v_assign ?_
                refine xl_nil ?_
                refine ⟨_, ?_, rfl, hww, k + 1, rfl, by omega, ?_, inferInstance, evc⟩
                · omega
                · intro j hj hj2
                  by_cases e : j = k
                  · subst e
                    rw [← Bool.not_eq_false, byteOk_f]
                    rintro ⟨q1, q2, q3⟩
                    first
                      | (simp at g22; omega)
                      | (simp at c3; omega)
                      | (simp at g28 g22 c3; omega)
                      | (simp at *; omega)
                  · exact hall j hj (by omega)
            ·
              refine xl_gv rfl EvO.eq v_move ?_
              refine xl_gv rfl EvO.eq v_move ?_
              refine xl_gv rfl EvO.eq (v_indexS k rfl hk1) ?_
              refine xl_gv rfl EvO.eq v_gtr ?_
              refine xl_gv rfl EvO.eq (by first | exact v_pickT | exact v_pickF | exact v_pick) ?_
              refine xl_v (by first | exact v_pickT | exact v_pickF | exact v_pick) ?_
              refine xl_v v_move ?_
              refine xl_split 40 (fun g40 => ?_) (fun g40 => ?_)
              ·
                refine xl_gv rfl EvO.eq v_move ?_
                refine xl_gv rfl EvO.eq v_move ?_
                refine xl_gv rfl EvO.eq (v_indexS k rfl hk1) ?_
                refine xl_gv rfl EvO.eq v_neq ?_
                refine xl_v (by first | exact v_pickT | exact v_pickF | exact v_pick) ?_
                refine xl_nil ?_
                first | refine x_condP (fun c3 => ?_) (fun c3 => ?_) | refine x_condN (fun c3 => ?_) (fun c3 => ?_) | refine x_condE (fun c3 => ?_) (fun c3 => ?_)
                ·
                  refine x_seq ?_
                  refine x_regionL ?_
                  refine xl_v v_assign ?_
                  refine xl_nil ?_
                  refine x_ret ?_
                  refine fin1 rfl ?_
                  refine ⟨congrArg Value.bool (Eq.symm ?_), hww⟩
                  rw [nameOk_f]
                  intro _
                  rw [List.all_eq_false]
                  refine ⟨s[k]'hk1, List.mem_of_getElem? (toList_get s k hk1), ?_⟩
                  rw [Bool.not_eq_true, byteOk_f]
                  first
                    | (simp at *; omega)
                    | skip
                ·
                  refine x_skip ?_
                  refine x_regionL ?_
                  refine xl_v v_move ?_
                  refine xl_v (v_add (by omega)) ?_
                  refine xl_v v_assign ?_
                  refine xl_nil ?_
                  refine ⟨_, ?_, rfl, hww, k + 1, rfl, by omega, ?_, inferInstance, evc⟩
                  · omega
                  · intro j hj hj2
                    by_cases e : j = k
                    · subst e
                      rw [← Bool.not_eq_false, byteOk_f]
                      rintro ⟨q1, q2, q3⟩
                      first
                        | (simp at g22; omega)
                        | (simp at c3; omega)
                        | (simp at g28 g22 c3; omega)
                        | (simp at *; omega)
                    · exact hall j hj (by omega)
              ·
                refine xl_gs rfl EvO.eq ?_
                refine xl_gs rfl EvO.eq ?_
                refine xl_gs rfl EvO.eq ?_
                refine xl_gs rfl EvO.eq ?_
                refine xl_v (by first | exact v_pickT | exact v_pickF | exact v_pick) ?_
                refine xl_nil ?_
                refine x_condF ?_
                refine x_skip ?_
                refine x_regionL ?_
                refine xl_v v_move ?_
                refine xl_v (v_add (by omega)) ?_
                refine xl_v v_assign ?_
                refine xl_nil ?_
                refine ⟨_, ?_, rfl, hww, k + 1, rfl, by omega, ?_, inferInstance, evc⟩
                · omega
                · intro j hj hj2
                  by_cases e : j = k
                  · subst e
                    rw [← Bool.not_eq_false, byteOk_f]
                    rintro ⟨q1, q2, q3⟩
                    first
                      | (simp at g22; omega)
                      | (simp at c3; omega)
                      | (simp at g28 g22 c3; omega)
                      | (simp at *; omega)
                  · exact hall j hj (by omega)
          ·
            refine xl_gv rfl EvO.eq v_move ?_
            refine xl_gv rfl EvO.eq v_move ?_
            refine xl_gv rfl EvO.eq (v_indexS k rfl hk1) ?_
            refine xl_gv rfl EvO.eq v_gtr ?_
            refine xl_v (by first | exact v_pickT | exact v_pickF | exact v_pick) ?_
            refine xl_v v_move ?_
            refine xl_split 28 (fun g28 => ?_) (fun g28 => ?_)
            ·
              refine xl_gv rfl EvO.eq v_move ?_
              refine xl_gv rfl EvO.eq v_move ?_
              refine xl_gv rfl EvO.eq (v_indexS k rfl hk1) ?_
              refine xl_gv rfl EvO.eq v_lss ?_
              refine xl_gv rfl EvO.eq v_move ?_
              refine xl_split 33 (fun g33 => ?_) (fun g33 => ?_)
              ·
                refine xl_gs rfl EvO.eq ?_
                refine xl_gs rfl EvO.eq ?_
                refine xl_gs rfl EvO.eq ?_
                refine xl_gs rfl EvO.eq ?_
                refine xl_gv rfl EvO.eq (by first | exact v_pickT | exact v_pickF | exact v_pick) ?_
                refine xl_v (by first | exact v_pickT | exact v_pickF | exact v_pick) ?_
                refine xl_v v_move ?_
                refine xl_gv rfl EvO.eq v_move ?_
                refine xl_gv rfl EvO.eq v_move ?_
                refine xl_gv rfl EvO.eq (v_indexS k rfl hk1) ?_
                refine xl_gv rfl EvO.eq v_neq ?_
                refine xl_v (by first | exact v_pickT | exact v_pickF | exact v_pick) ?_
                refine xl_nil ?_
                first | refine x_condP (fun c3 => ?_) (fun c3 => ?_) | refine x_condN (fun c3 => ?_) (fun c3 => ?_) | refine x_condE (fun c3 => ?_) (fun c3 => ?_)
                ·
                  refine x_seq ?_
                  refine x_regionL ?_
                  refine xl_v v_assign ?_
                  refine xl_nil ?_
                  refine x_ret ?_
                  refine fin1 rfl ?_
                  refine ⟨congrArg Value.bool (Eq.symm ?_), hww⟩
                  rw [nameOk_f]
                  intro _
                  rw [List.all_eq_false]
                  refine ⟨s[k]'hk1, List.mem_of_getElem? (toList_get s k hk1), ?_⟩
                  rw [Bool.not_eq_true, byteOk_f]
                  first
                    | (simp at *; omega)
                    | skip
                ·
                  refine x_skip ?_
                  refine x_regionL ?_
                  refine xl_v v_move ?_
                  refine xl_v (v_add (by omega)) ?_
                  refine xl_v v_assign ?_
                  refine xl_nil ?_
                  refine ⟨_, ?_, rfl, hww, k + 1, rfl, by omega, ?_, inferInstance, evc⟩
                  · omega
                  · intro j hj hj2
                    by_cases e : j = k
                    · subst e
                      rw [← Bool.not_eq_false, byteOk_f]
                      rintro ⟨q1, q2, q3⟩
                      first
                        | (simp at g22; omega)
                        | (simp at c3; omega)
                        | (simp at g28 g22 c3; omega)
                        | (simp at *; omega)
                    · exact hall j hj (by omega)
              ·
                refine xl_gv rfl EvO.eq v_move ?_
                refine xl_gv rfl EvO.eq v_move ?_
                refine xl_gv rfl EvO.eq (v_indexS k rfl hk1) ?_
                refine xl_gv rfl EvO.eq v_gtr ?_
                refine xl_gv rfl EvO.eq (by first | exact v_pickT | exact v_pickF | exact v_pick) ?_
                refine xl_v (by first | exact v_pickT | exact v_pickF | exact v_pick) ?_
                refine xl_v v_move ?_
                refine xl_split 40 (fun g40 => ?_) (fun g40 => ?_)
                ·
                  refine xl_gv rfl EvO.eq v_move ?_
                  refine xl_gv rfl EvO.eq v_move ?_
                  refine xl_gv rfl EvO.eq (v_indexS k rfl hk1) ?_
                  refine xl_gv rfl EvO.eq v_neq ?_
                  refine xl_v (by first | exact v_pickT | exact v_pickF | exact v_pick) ?_
                  refine xl_nil ?_
                  first | refine x_condP (fun c3 => ?_) (fun c3 => ?_) | refine x_condN (fun c3 => ?_) (fun c3 => ?_) | refine x_condE (fun c3 => ?_) (fun c3 => ?_)
                  ·
                    refine x_seq ?_
                    refine x_regionL ?_
                    refine xl_v v_assign ?_
                    refine xl_nil ?_
                    refine x_ret ?_
                    refine fin1 rfl ?_
                    refine ⟨congrArg Value.bool (Eq.symm ?_), hww⟩
                    rw [nameOk_f]
                    intro _
                    rw [List.all_eq_false]
                    refine ⟨s[k]'hk1, List.mem_of_getElem? (toList_get s k hk1), ?_⟩
                    rw [Bool.not_eq_true, byteOk_f]
                    first
                      | (simp at *; omega)
                      | skip
                  ·
                    refine x_skip ?_
                    refine x_regionL ?_
                    refine xl_v v_move ?_
                    refine xl_v (v_add (by omega)) ?_
                    refine xl_v v_assign ?_
                    refine xl_nil ?_
                    refine ⟨_, ?_, rfl, hww, k + 1, rfl, by omega, ?_, inferInstance, evc⟩
                    · omega
                    · intro j hj hj2
                      by_cases e : j = k
                      · subst e
                        rw [← Bool.not_eq_false, byteOk_f]
                        rintro ⟨q1, q2, q3⟩
                        first
                          | (simp at g22; omega)
                          | (simp at c3; omega)
                          | (simp at g28 g22 c3; omega)
                          | (simp at *; omega)
                      · exact hall j hj (by omega)
                ·
                  refine xl_gs rfl EvO.eq ?_
                  refine xl_gs rfl EvO.eq ?_
                  refine xl_gs rfl EvO.eq ?_
                  refine xl_gs rfl EvO.eq ?_
                  refine xl_v (by first | exact v_pickT | exact v_pickF | exact v_pick) ?_
                  refine xl_nil ?_
                  refine x_condF ?_
                  refine x_skip ?_
                  refine x_regionL ?_
                  refine xl_v v_move ?_
                  refine xl_v (v_add (by omega)) ?_
                  refine xl_v v_assign ?_
                  refine xl_nil ?_
                  refine ⟨_, ?_, rfl, hww, k + 1, rfl, by omega, ?_, inferInstance, evc⟩
                  · omega
                  · intro j hj hj2
                    by_cases e : j = k
                    · subst e
                      rw [← Bool.not_eq_false, byteOk_f]
                      rintro ⟨q1, q2, q3⟩
                      first
                        | (simp at g22; omega)
                        | (simp at c3; omega)
                        | (simp at g28 g22 c3; omega)
                        | (simp at *; omega)
                    · exact hall j hj (by omega)
            ·
              refine xl_gs rfl EvO.eq ?_
              refine xl_gs rfl EvO.eq ?_
              refine xl_gs rfl EvO.eq ?_
              refine xl_gs rfl EvO.eq ?_
              refine xl_gs rfl EvO.eq ?_
              refine xl_gu rfl EvO.eq ?_
              refine xl_gu rfl EvO.eq ?_
              refine xl_gu rfl EvO.eq ?_
              refine xl_gu rfl EvO.eq ?_
              refine xl_gs rfl EvO.eq ?_
              refine xl_v (by first | exact v_pickT | exact v_pickF | exact v_pick) ?_
              refine xl_v v_move ?_
              refine xl_gs rfl EvO.eq ?_
              refine xl_gs rfl EvO.eq ?_
              refine xl_gs rfl EvO.eq ?_
              refine xl_gs rfl EvO.eq ?_
              refine xl_v (by first | exact v_pickT | exact v_pickF | exact v_pick) ?_
              refine xl_nil ?_
              refine x_condF ?_
              refine x_skip ?_
              refine x_regionL ?_
              refine xl_v v_move ?_
              refine xl_v (v_add (by omega)) ?_
              refine xl_v v_assign ?_
              refine xl_nil ?_
              refine ⟨_, ?_, rfl, hww, k + 1, rfl, by omega, ?_, inferInstance, evc⟩
              · omega
              · intro j hj hj2
                by_cases e : j = k
                · subst e
                  rw [← Bool.not_eq_false, byteOk_f]
                  rintro ⟨q1, q2, q3⟩
                  first
                    | (simp at g22; omega)
                    | (simp at c3; omega)
                    | (simp at g28 g22 c3; omega)
                    | (simp at *; omega)
                · exact hall j hj (by omega)
        ·
          refine x_exit ?_
          refine x_seq ?_
          refine x_regionL ?_
          refine xl_v v_assign ?_
          refine xl_nil ?_
          refine x_ret ?_
          refine fin1 rfl ?_
          refine ⟨congrArg Value.bool (Eq.symm ?_), hww⟩
          rw [nameOk_iff]
          refine ⟨hsz.1, hsz.2, ?_⟩
          rw [List.all_eq_true]
          intro x hx
          obtain ⟨j, hj, rfl⟩ := List.getElem_of_mem hx
          have hj2 : j < s.size := by rw [toList_len] at hj; exact hj
          have h2 := toList_get s j hj2
          rw [List.getElem?_eq_getElem hj] at h2
          rw [Option.some.inj h2]
          exact hall j hj2 (by omega)
theorem does_len (M : Disk) (t : Thing) : (M.does t).lasts = M.lasts ∧ (M.does t).waits.length ≤ M.waits.length + 1 ∧ (M.does t).room = M.room := by
  unfold Disk.does
  split
  · exact ⟨rfl, by simp, rfl⟩
  · exact ⟨rfl, by omega, rfl⟩
theorem readNo_f {l : Fs} {name : ByteArray} (h : nameOk name = false) : readNo l name = 130 := by rw [readNo, if_pos h]
theorem done_cut (a : ByteArray) (x y : List UInt8) (k : Int) : Dm.done [(a, x)] ⟨1, a, y, k⟩ = [(a, x.take k.toNat)] := by simp [Dm.done, doneL, Thing.of]
abbrev N0 : Disk := ⟨100, [], []⟩
abbrev U0 (name : ByteArray) : Thing := ⟨0, name, [120], 0⟩
abbrev U1 (name : ByteArray) : Thing := ⟨1, name, [], 0⟩
abbrev U2 (name : ByteArray) : Thing := ⟨2, name, [], 0⟩
theorem names_no (name : ByteArray) : N0.doNo (U0 name) = (if nameOk name then 0 else 130) ∧ (N0.does (U0 name)).doNo (U1 name) = (if nameOk name then 0 else 130) ∧ ((N0.does (U0 name)).does (U1 name)).doNo (U2 name) = (if nameOk name then 0 else 130) := by
  cases hn : nameOk name with
  | false =>
    have h1 : N0.doNo (U0 name) = 130 := by rw [doNo_put, if_pos hn]
    have e1 : N0.does (U0 name) = N0 := by rw [Disk.does, if_neg (by rw [h1]; decide)]
    have h2 : N0.doNo (U1 name) = 130 := by rw [doNo_cut, readNo_f hn, if_pos (by decide)]
    have e2 : N0.does (U1 name) = N0 := by rw [Disk.does, if_neg (by rw [h2]; decide)]
    have h3 : N0.doNo (U2 name) = 130 := by rw [doNo_remove, readNo_f hn]
    rw [e1, e2, h1, h2, h3]
    exact ⟨rfl, rfl, rfl⟩
  | true =>
    have h1 : N0.doNo (U0 name) = 0 := by
      rw [doNo_put, if_neg (by rw [hn]; decide)]
      have : usedB N0.files = 0 := rfl
      rw [this]
      rfl
    have e1 : N0.does (U0 name) = ⟨100, [], [U0 name]⟩ := by rw [Disk.does, if_pos h1]; rfl
    have f1 : Disk.files ⟨100, [], [U0 name]⟩ = [(name, [120])] := done_nil name [120] 0
    have h2 : Disk.doNo ⟨100, [], [U0 name]⟩ (U1 name) = 0 := by
      rw [doNo_cut, f1]
      simp [readNo, readB, hn, akey]
    have e2 : Disk.does ⟨100, [], [U0 name]⟩ (U1 name) = ⟨100, [], [U0 name, U1 name]⟩ := by rw [Disk.does, if_pos h2]; rfl
    have f2 : Disk.files ⟨100, [], [U0 name, U1 name]⟩ = [(name, [])] := by
      show Dm.done (Dm.done [] (U0 name)) (U1 name) = _
      rw [done_nil, done_cut]
      rfl
    have h3 : Disk.doNo ⟨100, [], [U0 name, U1 name]⟩ (U2 name) = 0 := by
      rw [doNo_remove, f2]
      simp [readNo, hn, akey]
    rw [h1, e1, h2, e2, h3]
    exact ⟨rfl, rfl, rfl⟩

/-- waystation/waystationlaw03.DiskNames -/
theorem diskNames_ok (name : ByteArray) (w : World) : Ret Try.prog 4 #[.string name] w (fun v w' => v = .bool true ∧ Lk w' w NoB) := by
  obtain ⟨hn1, hn2, hn3⟩ := names_no name
  obtain ⟨q1, q2, q3⟩ := does_len N0 (U0 name)
  obtain ⟨r1, r2, r3⟩ := does_len (N0.does (U0 name)) (U1 name)
  refine ret_of_x (N := 55) (l := [.string name]) Try.func4 rfl rfl (Nat.le_of_ble_eq_true rfl) ?_
  refine x_seq ?_
  refine x_regionL ?_
  refine xl_v v_assign ?_
  refine xl_nil ?_
  refine x_seq ?_
  refine x_seq ?_
  refine x_regionL ?_
  refine xl_v v_move ?_
  refine xl_v v_lens ?_
  refine xl_v v_gtr ?_
  refine xl_nil ?_
  first | refine x_condP (fun c1 => ?_) (fun c1 => ?_) | refine x_condN (fun c1 => ?_) (fun c1 => ?_) | refine x_condE (fun c1 => ?_) (fun c1 => ?_)
  ·
    refine x_seq ?_
    refine x_regionL ?_
    refine xl_call (works_ok w) ?_
    rintro _ w1 ⟨rfl, lkw⟩
    refine xl_v v_assign ?_
    refine xl_nil ?_
    refine x_ret ?_
    refine fin1 rfl ?_
    exact ⟨rfl, lkc⟩
  ·
    refine x_skip ?_
    refine x_seq ?_
    refine x_regionL ?_
    refine xl_call (new2_ok 100 w (by decide)) ?_
    rintro _ w2 ⟨⟨d, rfl, hD0, hgd⟩, lk1⟩
    refine xl_v v_move ?_
    refine xl_v v_extract ?_
    refine xl_v v_extract ?_
    refine xl_v v_assign ?_
    refine xl_v v_assign ?_
    refine xl_nil ?_
    refine x_seq ?_
    refine x_regionL ?_
    refine xl_v v_move ?_
    refine xl_v v_move ?_
    refine xl_e (e_buildSlice1 rfl fun b1 w3 n1 l1 k1 => ?_)
    refine xl_e (e_convConst fun w4 l2 k2 => ?_)
    haveI : Row w4 (some ⟨b1, 0, none⟩) (bytesC [120]) := ⟨row_blk k2⟩
    refine xl_call (put_ok NoB _ d N0 name (some ⟨b1, 0, none⟩) 1 [120] 0 w4 (hD0.ext (kpc : Keep NoB _ w4)) (by decide) (by decide)) ?_
    rintro _ w5 ⟨rfl, hD1, lk3⟩
    rw [hn1]
    refine xl_v v_move ?_
    refine xl_v v_move ?_
    refine xl_call (cut_ok NoB _ d (N0.does (U0 name)) name 0 [] w5 (hD1.ext (kpc : Keep NoB _ w5)) (by decide) (by rw [q1]; have : N0.waits.length = 0 := rfl; simp; omega)) ?_
    rintro _ w6 ⟨rfl, hD2, lk4⟩
    rw [hn2]
    refine xl_v v_move ?_
    refine xl_v v_move ?_
    refine xl_call (remove_ok NoB _ d ((N0.does (U0 name)).does (U1 name)) name 0 [] w6 (hD2.ext (kpc : Keep NoB _ w6)) (by decide) (by rw [r1, q1]; have : N0.waits.length = 0 := rfl; simp; omega)) ?_
    rintro _ w7 ⟨rfl, hD3, lk5⟩
    rw [hn3]
    refine xl_v v_assign ?_
    refine xl_v v_assign ?_
    refine xl_v v_assign ?_
    refine xl_nil ?_
    refine x_seq ?_
    refine x_regionL ?_
    refine xl_v v_assign ?_
    refine xl_nil ?_
    refine x_seq ?_
    refine x_seq ?_
    refine x_regionL ?_
    refine xl_v v_move ?_
    refine xl_call (Name_ok name w7 (by simp at c1; omega)) ?_
    rintro _ _ ⟨rfl, rfl⟩
    refine xl_v v_not ?_
    refine xl_nil ?_
    first | refine x_condP (fun c2 => ?_) (fun c2 => ?_) | refine x_condN (fun c2 => ?_) (fun c2 => ?_) | refine x_condE (fun c2 => ?_) (fun c2 => ?_)
    ·
      have hno : (if nameOk name then (0 : Int) else 130) = 130 := by
        rw [if_neg]
        simpa using c2
      refine x_regionL ?_
      refine xl_v v_assign ?_
      refine xl_nil ?_
      refine x_seq ?_
      refine x_regionL ?_
      refine xl_v v_move ?_
      refine xl_call (num_ok _ _) ?_
      rintro _ _ ⟨rfl, rfl⟩
      refine xl_v (v_congr (u := .bool true) v_eql (by simp)) ?_
      refine xl_v v_move ?_
      refine xl_gv rfl EvO.eq v_move ?_
      refine xl_gcall rfl EvO.eq (num_ok _ _) ?_
      rintro _ _ ⟨rfl, rfl⟩
      refine xl_gv rfl EvO.eq v_move ?_
      refine xl_gv rfl EvO.eq (v_congr (u := .bool true) v_eql (by rw [hno]; simp)) ?_
      refine xl_v (by first | exact v_pickT | exact v_pickF | exact v_pick) ?_
      refine xl_v v_move ?_
      refine xl_gv rfl EvO.eq v_move ?_
      refine xl_gcall rfl EvO.eq (num_ok _ _) ?_
      rintro _ _ ⟨rfl, rfl⟩
      refine xl_gv rfl EvO.eq v_move ?_
      refine xl_gv rfl EvO.eq (v_congr (u := .bool true) v_eql (by rw [hno]; simp)) ?_
      refine xl_v (by first | exact v_pickT | exact v_pickF | exact v_pick) ?_
      refine xl_v v_move ?_
      refine xl_gv rfl EvO.eq v_move ?_
      refine xl_gcall rfl EvO.eq (num_ok _ _) ?_
      rintro _ _ ⟨rfl, rfl⟩
      refine xl_gv rfl EvO.eq v_move ?_
      refine xl_gv rfl EvO.eq (v_congr (u := .bool true) v_eql (by rw [hno]; simp)) ?_
      refine xl_v (by first | exact v_pickT | exact v_pickF | exact v_pick) ?_
      refine xl_v v_move ?_
      refine xl_gcall rfl EvO.eq (works_ok w7) ?_
      rintro _ w13 ⟨rfl, lkw⟩
      refine xl_v (by first | exact v_pickT | exact v_pickF | exact v_pick) ?_
      refine xl_v v_assign ?_
      refine xl_nil ?_
      refine x_ret ?_
      refine fin1 rfl ?_
      exact ⟨rfl, lkc⟩
    ·
      have hno : (if nameOk name then (0 : Int) else 130) = 0 := by
        rw [if_pos]
        simpa using c2
      refine x_skip ?_
      refine x_seq ?_
      refine x_regionL ?_
      refine xl_v v_move ?_
      refine xl_call (num_ok _ _) ?_
      rintro _ _ ⟨rfl, rfl⟩
      refine xl_v (v_congr (u := .bool true) v_eql (by simp)) ?_
      refine xl_v v_move ?_
      refine xl_gv rfl EvO.eq v_move ?_
      refine xl_gcall rfl EvO.eq (num_ok _ _) ?_
      rintro _ _ ⟨rfl, rfl⟩
      refine xl_gv rfl EvO.eq v_move ?_
      refine xl_gv rfl EvO.eq (v_congr (u := .bool true) v_eql (by rw [hno]; simp)) ?_
      refine xl_v (by first | exact v_pickT | exact v_pickF | exact v_pick) ?_
      refine xl_v v_move ?_
      refine xl_gv rfl EvO.eq v_move ?_
      refine xl_gcall rfl EvO.eq (num_ok _ _) ?_
      rintro _ _ ⟨rfl, rfl⟩
      refine xl_gv rfl EvO.eq v_move ?_
      refine xl_gv rfl EvO.eq (v_congr (u := .bool true) v_eql (by rw [hno]; simp)) ?_
      refine xl_v (by first | exact v_pickT | exact v_pickF | exact v_pick) ?_
      refine xl_v v_move ?_
      refine xl_gv rfl EvO.eq v_move ?_
      refine xl_gcall rfl EvO.eq (num_ok _ _) ?_
      rintro _ _ ⟨rfl, rfl⟩
      refine xl_gv rfl EvO.eq v_move ?_
      refine xl_gv rfl EvO.eq (v_congr (u := .bool true) v_eql (by rw [hno]; simp)) ?_
      refine xl_v (by first | exact v_pickT | exact v_pickF | exact v_pick) ?_
      refine xl_v v_move ?_
      refine xl_gcall rfl EvO.eq (works_ok w7) ?_
      rintro _ w18 ⟨rfl, lkw⟩
      refine xl_v (by first | exact v_pickT | exact v_pickF | exact v_pick) ?_
      refine xl_v v_assign ?_
      refine xl_nil ?_
      refine x_ret ?_
      refine fin1 rfl ?_
      exact ⟨rfl, lkc⟩
end Go.Proofs.Ytabknhgbijcklaa
