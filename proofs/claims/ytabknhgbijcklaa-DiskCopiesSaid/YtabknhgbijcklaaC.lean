/-
  Walks, printed by a program of this workplace (wip/tools/sx.py) off the functions' code and a text of contracts.
-/
import Derived.Test.YtabknhgbijcklaaB
set_option linter.all false
set_option maxRecDepth 100000
set_option synthInstance.maxSize 100000
set_option synthInstance.maxHeartbeats 400000
namespace Go.Proofs.Ytabknhgbijcklaa
open Go.Wst
open Go.Wst.Dm
theorem toList_len (s : ByteArray) : s.toList.length = s.size := by rw [ByteArray.toList_eq]; rfl
theorem nameOk_iff (s : ByteArray) : nameOk s = true ↔ 1 ≤ s.size ∧ s.size ≤ 24 ∧ s.toList.all byteOk = true := by
  simp [nameOk, toList_len, and_assoc]
theorem nameOk_f (s : ByteArray) : nameOk s = false ↔ (1 ≤ s.size ∧ s.size ≤ 24 → s.toList.all byteOk = false) := by
  rw [← Bool.not_eq_true, nameOk_iff]
  cases h : s.toList.all byteOk <;> simp
theorem empty_size {s : ByteArray} : s = ⟨#[]⟩ ↔ s.size = 0 := by
  constructor
  · rintro rfl; rfl
  · intro h
    apply ByteArray.ext
    exact Array.eq_empty_of_size_eq_zero h

/-- (*waystation/disk.Disk).named -/
theorem named_ok (d mb ml : Nat) (G : Nat → Prop) (D : LDisk) (M : Disk) (name : ByteArray) (w : World) (h : DiskAt w d mb ml G D) (hs : Stands D M) : Ret Try.prog 40 #[.pointer (some ⟨d, 0, none⟩), .string name] w (fun v w' => v = .int .i64 (if nameOk name then 0 else 130) ∧ Lk w' w NoB) := by
  refine ret_of_x (N := 23) (l := [.pointer (some ⟨d, 0, none⟩), .string name]) Try.func40 rfl rfl (Nat.le_of_ble_eq_true rfl) ?_
  refine x_seq ?_
  refine x_regionL ?_
  refine xl_v v_assign ?_
  refine xl_nil ?_
  refine x_seq ?_
  refine x_regionL ?_
  refine xl_v v_assign ?_
  refine xl_nil ?_
  refine x_seq ?_
  refine x_block ?_
  refine x_seq ?_
  refine x_regionL ?_
  refine xl_v v_move ?_
  refine xl_call (none_ok d mb ml G D M w (h.ext (kpc : Keep NoB w w)) hs) ?_
  rintro _ _ ⟨rfl, rfl⟩
  refine xl_v v_assign ?_
  refine xl_nil ?_
  refine x_condF ?_
  refine x_seq ?_
  refine x_regionL ?_
  refine xl_v v_move ?_
  refine xl_v v_seql ?_
  refine xl_v v_move ?_
  refine xl_split 12 (fun g12 => ?_) (fun g12 => ?_)
  ·
    refine xl_gs rfl EvO.eq ?_
    refine xl_gs rfl EvO.eq ?_
    refine xl_gs rfl EvO.eq ?_
    refine xl_v (by first | exact v_pickT | exact v_pickF | exact v_pick) ?_
    refine xl_v v_move ?_
    refine xl_gs rfl EvO.eq ?_
    refine xl_gs rfl EvO.eq ?_
    refine xl_gs rfl EvO.eq ?_
    refine xl_gs rfl EvO.eq ?_
    refine xl_v (by first | exact v_pickT | exact v_pickF | exact v_pick) ?_
    refine xl_v v_assign ?_
    refine xl_nil ?_
    refine x_condT ?_
    refine x_seq ?_
    refine x_regionL ?_
    refine xl_v v_assign ?_
    refine xl_nil ?_
    refine x_ret ?_
    refine fin1 rfl ?_
    refine ⟨?_, lkc⟩
    rw [if_neg]
    rw [Bool.not_eq_true, nameOk_f]
    rintro ⟨h1, h2⟩
    first
      | exact hi.1 (by simpa using c2)
      | (have g0 := empty_size.1 (of_decide_eq_true g12); omega)
      | (have g0 := of_decide_eq_true g17; omega)
  ·
    refine xl_gv rfl EvO.eq v_move ?_
    refine xl_gv rfl EvO.eq v_lens ?_
    refine xl_gv rfl EvO.eq v_gtr ?_
    refine xl_v (by first | exact v_pickT | exact v_pickF | exact v_pick) ?_
    refine xl_v v_move ?_
    refine xl_split 17 (fun g17 => ?_) (fun g17 => ?_)
    ·
      refine xl_gs rfl EvO.eq ?_
      refine xl_gs rfl EvO.eq ?_
      refine xl_gs rfl EvO.eq ?_
      refine xl_gs rfl EvO.eq ?_
      refine xl_v (by first | exact v_pickT | exact v_pickF | exact v_pick) ?_
      refine xl_v v_assign ?_
      refine xl_nil ?_
      refine x_condT ?_
      refine x_seq ?_
      refine x_regionL ?_
      refine xl_v v_assign ?_
      refine xl_nil ?_
      refine x_ret ?_
      refine fin1 rfl ?_
      refine ⟨?_, lkc⟩
      rw [if_neg]
      rw [Bool.not_eq_true, nameOk_f]
      rintro ⟨h1, h2⟩
      first
        | exact hi.1 (by simpa using c2)
        | (have g0 := empty_size.1 (of_decide_eq_true g12); omega)
        | (have g0 := of_decide_eq_true g17; omega)
    ·
      refine xl_gv rfl EvO.eq v_move ?_
      refine xl_gv rfl EvO.eq v_move ?_
      refine xl_gcall rfl EvO.eq (IdxF_ok name w (by simp at g17; omega)) ?_
      rintro _ w2 ⟨⟨i, rfl, hi⟩, lk1⟩
      refine xl_gv rfl EvO.eq v_geq ?_
      refine xl_v (by first | exact v_pickT | exact v_pickF | exact v_pick) ?_
      refine xl_v v_assign ?_
      refine xl_nil ?_
      first | refine x_condP (fun c2 => ?_) (fun c2 => ?_) | refine x_condN (fun c2 => ?_) (fun c2 => ?_) | refine x_condE (fun c2 => ?_) (fun c2 => ?_)
      ·
        refine x_seq ?_
        refine x_regionL ?_
        refine xl_v v_assign ?_
        refine xl_nil ?_
        refine x_ret ?_
        refine fin1 rfl ?_
        refine ⟨?_, lkc⟩
        rw [if_neg]
        rw [Bool.not_eq_true, nameOk_f]
        rintro ⟨h1, h2⟩
        first
          | exact hi.1 (by simpa using c2)
          | (have g0 := empty_size.1 (of_decide_eq_true g12); omega)
          | (have g0 := of_decide_eq_true g17; omega)
      ·
        refine x_skip ?_
        refine x_seq ?_
        refine x_regionL ?_
        refine xl_v v_assign ?_
        refine xl_nil ?_
        refine x_ret ?_
        refine fin1 rfl ?_
        refine ⟨?_, lkc⟩
        rw [if_pos]
        rw [nameOk_iff]
        refine ⟨?_, ?_, ?_⟩
        · have : ¬ name.size = 0 := fun e => absurd (empty_size.2 e) (of_decide_eq_false g12)
          omega
        · simp at g17; omega
        · cases hb : name.toList.all byteOk with
          | true => rfl
          | false => exact absurd (hi.2 hb) (by simpa using c2)
def thereB (l : List (ByteArray × LB)) (name : ByteArray) : LB := if nameOk name then (akey l name).getD ⟨[], none, 0⟩ else ⟨[], none, 0⟩
def thereNo (l : List (ByteArray × LB)) (name : ByteArray) : Int := if nameOk name = false then 130 else if akey l name = none then 5 else 0
theorem getD_map (o : Option LB) : (o.map lbV).getD (.slice none 0 0) = lbV (o.getD ⟨[], none, 0⟩) := by cases o <;> rfl

/-- (*waystation/disk.Disk).there -/
theorem there_ok (d mb ml : Nat) (G : Nat → Prop) (D : LDisk) (M : Disk) (name : ByteArray) (fid : FuncId) (m : Nat) (l : List (ByteArray × LB)) (w : World) (h : DiskAt w d mb ml G D) (hs : Stands D M) [Fun Try.prog fid] (hF : FilesAt w m G l) (hf : ∀ W, Lk W w NoB → Ret Try.prog fid #[.pointer (some ⟨d, 0, none⟩)] W (fun v w' => v = .agg #[.map (some m)] ∧ Lk w' W NoB)) : Ret Try.prog 47 #[.pointer (some ⟨d, 0, none⟩), .func (.func fid) [Value.pointer (some ⟨d, 0, none⟩)].toArray ([] : List Value).toArray, .string name] w (fun v w' => v = .tuple #[lbV (thereB l name), .int .i64 (thereNo l name)] ∧ Lk w' w NoB) := by
  haveI hmi : MapI w m _ _ _ := ⟨hF.map⟩
  refine ret_of_x (N := 28) (l := [.pointer (some ⟨d, 0, none⟩), .func (.func fid) [Value.pointer (some ⟨d, 0, none⟩)].toArray ([] : List Value).toArray, .string name]) Try.func47 rfl rfl (Nat.le_of_ble_eq_true rfl) ?_
  refine x_seq ?_
  refine x_regionL ?_
  refine xl_v v_assign ?_
  refine xl_v v_assign ?_
  refine xl_nil ?_
  refine x_seq ?_
  refine x_seq ?_
  refine x_regionL ?_
  refine xl_v v_move ?_
  refine xl_v v_move ?_
  refine xl_call (named_ok d mb ml G D M name w (h.ext (kpc : Keep NoB w w)) hs) ?_
  rintro _ w1 ⟨rfl, lk1⟩
  refine xl_v v_assign ?_
  refine xl_nil ?_
  refine x_seq ?_
  refine x_regionL ?_
  refine xl_v v_move ?_
  refine xl_v v_neq ?_
  refine xl_nil ?_
  refine x_condE (fun c1 => ?_) (fun c1 => ?_)
  ·
    have hno : nameOk name = false := by
      cases hn : nameOk name with
      | false => rfl
      | true => rw [if_pos hn] at c1; simp at c1
    refine x_seq ?_
    refine x_regionL ?_
    refine xl_v v_move ?_
    refine xl_v v_assign ?_
    refine xl_v v_assign ?_
    refine xl_nil ?_
    refine x_ret ?_
    refine fin2 rfl ?_
    exact ⟨by simp [outV, thereB, thereNo, hno], lkc⟩
  ·
    have hno : nameOk name = true := by
      cases hn : nameOk name with
      | true => rfl
      | false => rw [hn] at c1; simp at c1
    refine x_skip ?_
    refine x_seq ?_
    refine x_regionL ?_
    refine xl_v v_move ?_
    refine xl_call (hf w1 lkc) ?_
    rintro _ w2 ⟨rfl, lk2⟩
    refine xl_v v_field ?_
    refine xl_v v_move ?_
    refine xl_v (v_lookup2v name (lbV ((akey l name).getD ⟨[], none, 0⟩)) (akey l name).isSome rfl (by rw [fsV_akey, getD_map]) (by rw [fsV_akey]; cases akey l name <;> rfl)) ?_
    refine xl_v v_move ?_
    refine xl_v v_extract ?_
    refine xl_v v_extract ?_
    refine xl_v v_assign ?_
    refine xl_v v_assign ?_
    refine xl_nil ?_
    refine x_seq ?_
    refine x_seq ?_
    refine x_regionL ?_
    refine xl_v v_move ?_
    refine xl_v v_not ?_
    refine xl_nil ?_
    refine x_condE (fun c2 => ?_) (fun c2 => ?_)
    ·
      refine x_seq ?_
      refine x_regionL ?_
      refine xl_v v_assign ?_
      refine xl_v v_assign ?_
      refine xl_nil ?_
      refine x_ret ?_
      refine fin2 rfl ?_
      refine ⟨?_, lkc⟩
      cases hk : akey l name with
      | none => simp [outV, thereB, thereNo, hno, hk]
      | some x => rw [hk] at c2; simp at c2
    ·
      refine x_skip ?_
      refine x_seq ?_
      refine x_regionL ?_
      refine xl_v v_move ?_
      refine xl_v v_assign ?_
      refine xl_v v_assign ?_
      refine xl_nil ?_
      refine x_ret ?_
      refine fin2 rfl ?_
      refine ⟨?_, lkc⟩
      cases hk : akey l name with
      | none => rw [hk] at c2; simp at c2
      | some x => simp [outV, thereB, thereNo, hno, hk]
theorem own_zero {base n c : Nat} {e : TypeId} {A : Option Addr} {xs : List Value} {W : World} (h : W.ownsRow base e 1 (.slice A n c) n xs) : W.ownsRow base e 1 (.slice A 0 c) 0 [] := by
  refine ⟨by simp, ?_⟩
  rcases h.2 with ⟨h1, h2⟩ | ⟨g, cap, cur, h1, h2, h3, h4, h5, h6, h7⟩
  · cases h1; exact .inl ⟨rfl, rfl⟩
  · cases h1; exact .inr ⟨g, _, cur, rfl, h2, h3, by omega, h5, h6, by simp⟩

/-- slices.Grow[[]byte,byte] -/
theorem grow_ok (n : Nat) (w : World) (hn : n ≤ 100000000) : Ret Try.prog 69 #[.slice none 0 0, .int .i64 n] w (fun v w' => (∃ A c, v = .slice A 0 c ∧ w'.ownsRow w.heap.size 5 1 (.slice A 0 c) 0 []) ∧ Lk w' w NoB) := by
  refine ret_of_x (N := 27) (l := [.slice none 0 0, .int .i64 n]) Try.func69 rfl rfl (Nat.le_of_ble_eq_true rfl) ?_
  refine x_seq ?_
  refine x_regionL ?_
  refine xl_v v_assign ?_
  refine xl_nil ?_
  refine x_seq ?_
  refine x_seq ?_
  refine x_regionL ?_
  refine xl_v v_move ?_
  refine xl_v v_lss ?_
  refine xl_nil ?_
  first | refine x_condP (fun c1 => ?_) (fun c1 => ?_) | refine x_condN (fun c1 => ?_) (fun c1 => ?_) | refine x_condE (fun c1 => ?_) (fun c1 => ?_)
  ·
    omega
  ·
    refine x_skip ?_
    refine x_seq ?_
    refine x_seq ?_
    refine x_regionL ?_
    refine xl_v v_move ?_
    refine xl_v v_move ?_
    refine xl_v v_cap ?_
    refine xl_v v_move ?_
    refine xl_v v_len ?_
    refine xl_v (v_sub (by omega)) ?_
    refine xl_v (v_sub (by omega)) ?_
    refine xl_v v_assign ?_
    refine xl_nil ?_
    refine x_seq ?_
    refine x_regionL ?_
    refine xl_v v_move ?_
    refine xl_v v_gtr ?_
    refine xl_nil ?_
    first | refine x_condP (fun c2 => ?_) (fun c2 => ?_) | refine x_condN (fun c2 => ?_) (fun c2 => ?_) | refine x_condE (fun c2 => ?_) (fun c2 => ?_)
    ·
      refine x_regionL ?_
      refine xl_v v_move ?_
      refine xl_v v_move ?_
      refine xl_v v_cap ?_
      refine xl_v (v_sliceH 0 rfl (by omega)) ?_
      refine xl_v v_move ?_
      refine xl_e (e_appendZ (n := n) (by omega) (by omega) rfl (by omega) (by omega) fun Az cz w1 oz lz hcz => ?_)
      refine xl_v v_move ?_
      refine xl_v v_len ?_
      refine xl_v (v_sliceH 0 rfl (by omega)) ?_
      refine xl_v v_assign ?_
      refine xl_nil ?_
      refine x_seq ?_
      refine x_regionL ?_
      refine xl_v v_move ?_
      refine xl_v v_assign ?_
      refine xl_nil ?_
      refine x_ret ?_
      refine fin1 rfl ?_
      first
      | exact ⟨⟨_, _, rfl, own_ext (own_zero oz) lkc⟩, lkc⟩
      | exact ⟨⟨none, 0, rfl, World.ownsRow_nil _ _ _ _⟩, lkc⟩
    ·
      refine x_skip ?_
      refine x_seq ?_
      refine x_regionL ?_
      refine xl_v v_move ?_
      refine xl_v v_assign ?_
      refine xl_nil ?_
      refine x_ret ?_
      refine fin1 rfl ?_
      first
      | exact ⟨⟨_, _, rfl, own_ext (own_zero oz) lkc⟩, lkc⟩
      | exact ⟨⟨none, 0, rfl, World.ownsRow_nil _ _ _ _⟩, lkc⟩
abbrev lbC (x : LB) : List Value := [lbV x]
instance encN_lb : EncN lbC 1 := ⟨fun _ => rfl⟩
theorem bytesC_append (a b : List UInt8) : bytesC a ++ bytesC b = bytesC (a ++ b) := by simp [bytesC]
def lensB (l : List LB) : Nat := (l.map (fun x => x.bytes.length)).sum
theorem lens_take (l : List LB) (k : Nat) (h : k < l.length) : lensB (l.take (k + 1)) = lensB (l.take k) + l[k].bytes.length := by
  unfold lensB
  rw [take_snoc _ k h, List.map_append, List.sum_append]
  simp only [List.map_cons, List.map_nil, List.sum_cons, List.sum_nil, Nat.add_zero]
theorem lens_take_le (l : List LB) (k : Nat) : lensB (l.take k) ≤ lensB l := by
  have : lensB l = lensB (l.take k) + lensB (l.drop k) := by
    simp only [lensB]
    rw [← List.sum_append, ← List.map_append, List.take_append_drop]
  omega
theorem flat_lens (l : List LB) : (l.flatMap (·.bytes)).length = lensB l := by
  induction l with
  | nil => rfl
  | cons a l ih => simp only [List.flatMap_cons, List.length_append, ih, lensB, List.map_cons, List.sum_cons]

/-- slices.Concat[[]byte,byte] -/
theorem concat_ok (A : Option Addr) (n c : Nat) (xs : List LB) (w : World) [hra : RowB w A w (xs.flatMap lbC)] (hrs : ∀ j (h : j < xs.length), RowB w xs[j].A w (bytesC xs[j].bytes)) (hl : xs.length = n) (hn : n ≤ 1000) (hb : lensB xs ≤ 100000000) : Ret Try.prog 45 #[.slice A n c] w (fun v w' => (∃ A' c', v = .slice A' (lensB xs) c' ∧ w'.ownsRow w.heap.size 5 1 v (lensB xs) (bytesC (xs.flatMap (·.bytes)))) ∧ Lk w' w NoB) := by
  refine ret_of_x (N := 36) (l := [.slice A n c]) Try.func45 rfl rfl (Nat.le_of_ble_eq_true rfl) ?_
  refine x_seq ?_
  refine x_regionL ?_
  refine xl_v v_assign ?_
  refine xl_nil ?_
  refine x_seq ?_
  refine x_regionL ?_
  refine xl_v v_assign ?_
  refine xl_nil ?_
  refine x_seq ?_
  refine x_seq ?_
  refine x_regionL ?_
  refine xl_v v_move ?_
  refine xl_v v_len ?_
  refine xl_v v_move ?_
  refine xl_nil ?_
  refine x_block ?_
  refine x_loop (fun m τ ds w' => ds = [] ∧ ∃ k : Nat, m = n - k ∧ k ≤ n ∧ Ev τ 0 (.slice A n c) ∧ Ev τ 3 (.int .i64 (lensB (xs.take k) : Int)) ∧ Ev τ 9 (.slice A n c) ∧ Ev τ 10 (.int .i64 (n : Int)) ∧ Ev τ 11 (.int .i64 (k : Int)) ∧ Lk w' w NoB) (n) ?start ?round
  case start =>
    exact ⟨rfl, 0, rfl, by omega, inferInstance, inferInstance, inferInstance, inferInstance, evc, lkc⟩
  case round =>
    intro m τ1 ds1 w1 hI
    obtain ⟨rfl, k, rfl, hk, e0, e3, e9, e10, e11, lk⟩ := hI
    refine x_seq ?_
    refine x_regionL ?_
    refine xl_v v_lss ?_
    refine xl_nil ?_
    refine x_seq ?_
    first | refine x_condP (fun c1 => ?_) (fun c1 => ?_) | refine x_condN (fun c1 => ?_) (fun c1 => ?_) | refine x_condE (fun c1 => ?_) (fun c1 => ?_)
    ·
      have hk1 : k < xs.length := by omega
      have hlt := lens_take_le xs (k + 1)
      rw [lens_take xs k hk1] at hlt
      have hA := row_some (w := w1) (A := A) (cs := xs.flatMap lbC) inferInstance (by rw [flat_len (sz := 1) (fun _ => rfl)]; omega)
      refine x_skip ?_
      refine x_seq ?_
      refine x_block ?_
      refine x_seq ?_
      refine x_regionL ?_
      refine xl_v (v_indexF k (by decide) rfl (by omega) hk1) ?_
      refine xl_v (v_loadF0 hk1) ?_
      refine xl_v v_assign ?_
      refine xl_nil ?_
      refine x_seq ?_
      refine x_regionL ?_
      refine xl_v v_move ?_
      refine xl_v v_move ?_
      refine xl_v v_len ?_
      refine xl_v (v_add (by omega)) ?_
      refine xl_v v_assign ?_
      refine xl_nil ?_
      refine x_seq ?_
      refine x_regionL ?_
      refine xl_v v_move ?_
      refine xl_v v_lss ?_
      refine xl_nil ?_
      first | refine x_condP (fun c2 => ?_) (fun c2 => ?_) | refine x_condN (fun c2 => ?_) (fun c2 => ?_) | refine x_condE (fun c2 => ?_) (fun c2 => ?_)
      ·
        omega
      ·
        refine x_skip ?_
        refine x_regionL ?_
        refine xl_v (v_add (by omega)) ?_
        refine xl_v v_move ?_
        refine xl_nil ?_
        refine ⟨_, ?_, rfl, k + 1, rfl, by omega, inferInstance, evc (congrArg (Value.int .i64) (by rw [lens_take xs k hk1]; omega)), inferInstance, inferInstance, evc, lkc⟩
        omega
    ·
      refine x_exit ?_
      refine x_seq ?_
      have hkn : k = n := by omega
      have htk : lensB (xs.take k) = lensB xs := by rw [List.take_of_length_le (by omega)]
      rw [htk] at e3
      refine x_regionL ?_
      refine xl_v v_move ?_
      refine xl_call (grow_ok (lensB xs) w1 (by omega)) ?_
      rintro _ w2 ⟨⟨A6, c6, rfl, ho6⟩, lk6⟩
      have hge := (Ge.le : w.heap.size ≤ (w1).heap.size)
      refine xl_v v_assign ?_
      refine xl_nil ?_
      refine x_seq ?_
      refine x_seq ?_
      refine x_regionL ?_
      refine xl_v v_move ?_
      refine xl_v v_len ?_
      refine xl_v v_move ?_
      refine xl_nil ?_
      refine x_block ?_
      have ho6' : World.ownsRow w2 w.heap.size 5 1 (.slice A6 0 c6) 0 [] := own_mono (own_ext ho6 lkc) hge
      refine x_loop (fun m τ ds w' => ds = [] ∧ ∃ (k : Nat) (A7 : Option Addr) (c7 : Nat), m = n - k ∧ k ≤ n ∧ w'.ownsRow w.heap.size 5 1 (.slice A7 (lensB (xs.take k)) c7) (lensB (xs.take k)) (bytesC ((xs.take k).flatMap (·.bytes))) ∧ Ev τ 6 (.slice A7 (lensB (xs.take k)) c7) ∧ Ev τ 25 (.slice A n c) ∧ Ev τ 26 (.int .i64 (n : Int)) ∧ Ev τ 27 (.int .i64 (k : Int)) ∧ Lk w' w NoB) (n) ?start ?round
      case start =>
        exact ⟨rfl, 0, A6, c6, rfl, by omega, by simpa [lensB] using ho6', evc, inferInstance, inferInstance, evc, lkc⟩
      case round =>
        intro m τ3 ds3 w3 hI
        obtain ⟨rfl, k2, A7, c7, rfl, hk2, ho7, e6, e25, e26, e27, lk2⟩ := hI
        haveI : OwnI w3 A7 _ _ _ _ _ _ _ := ⟨ho7⟩
        haveI : NewA A7 w := newA_of ho7 (Nat.le_refl _)
        refine x_seq ?_
        refine x_regionL ?_
        refine xl_v v_lss ?_
        refine xl_nil ?_
        refine x_seq ?_
        first | refine x_condP (fun c3 => ?_) (fun c3 => ?_) | refine x_condN (fun c3 => ?_) (fun c3 => ?_) | refine x_condE (fun c3 => ?_) (fun c3 => ?_)
        ·
          have hk1 : k2 < xs.length := by omega
          have hlt := lens_take_le xs (k2 + 1)
          rw [lens_take xs k2 hk1] at hlt
          haveI hrk : RowB w xs[k2].A w (bytesC xs[k2].bytes) := hrs k2 hk1
          refine x_skip ?_
          refine x_seq ?_
          refine x_block ?_
          refine x_seq ?_
          refine x_regionL ?_
          refine xl_v (v_indexF k2 (by decide) rfl (by omega) hk1) ?_
          refine xl_v (v_loadF0 hk1) ?_
          refine xl_v v_assign ?_
          refine xl_nil ?_
          refine x_regionL ?_
          refine xl_v v_move ?_
          refine xl_v v_move ?_
          refine xl_e (e_app (by simp) (by decide) (by omega) (by omega) Ge.le fun A8 c8 w4 ox lx ax fx => ?_)
          have ho8 : World.ownsRow w4 w.heap.size 5 1 (.slice A8 (lensB (xs.take (k2 + 1))) c8) (lensB (xs.take (k2 + 1))) (bytesC ((xs.take (k2 + 1)).flatMap (·.bytes))) := by
            have := ox.own
            rw [bytesC_append] at this
            rw [lens_take xs k2 hk1, take_snoc _ k2 hk1, List.flatMap_append]
            simpa using this
          refine xl_v v_assign ?_
          refine xl_nil ?_
          refine x_regionL ?_
          refine xl_v (v_add (by omega)) ?_
          refine xl_v v_move ?_
          refine xl_nil ?_
          refine ⟨_, ?_, rfl, k2 + 1, A8, c8, rfl, by omega, ho8, evc (by rw [lens_take xs k2 hk1]), inferInstance, inferInstance, evc, lkc⟩
          omega
        ·
          refine x_exit ?_
          refine x_seq ?_
          refine x_regionL ?_
          refine xl_v v_move ?_
          refine xl_v v_assign ?_
          refine xl_nil ?_
          refine x_ret ?_
          refine fin1 rfl ?_
          have hkn2 : k2 = n := by omega
          have htk2 : lensB (xs.take k2) = lensB xs := by rw [List.take_of_length_le (by omega)]
          rw [List.take_of_length_le (by omega)] at ho7
          refine ⟨⟨A7, c7, by rw [htk2], ?_⟩, lkc⟩
          rw [htk2]
          exact ho7
/-- A map's file of that name. -/
def atB (l : List (ByteArray × LB)) (name : ByteArray) : LB := (akey l name).getD ⟨[], none, 0⟩
theorem atB_mem {l : List (ByteArray × LB)} {name : ByteArray} (h : (akey l name).isSome = true) : (name, atB l name) ∈ l := by
  obtain ⟨x, hx⟩ := Option.isSome_iff_exists.1 h
  have : ∀ l : List (ByteArray × LB), akey l name = some x → (name, x) ∈ l := by
    intro l
    induction l with
    | nil => intro h; cases h
    | cons p l ih =>
      rw [akey_cons]
      split
      · next h => intro e; injection e with e; subst e; subst h; exact List.mem_cons_self ..
      · intro e; exact List.mem_cons_of_mem _ (ih e)
  rw [atB, hx]
  exact this l hx
theorem atB_row {W : World} {m : Nat} {G : Nat → Prop} {l : List (ByteArray × LB)} (h : FilesAt W m G l) (name : ByteArray) : FRow W G (atB l name).A (bytesC (atB l name).bytes) ∧ (atB l name).bytes.length ≤ (atB l name).c := by
  cases hk : akey l name with
  | none => rw [atB, hk]; exact ⟨FRow.nil _ _, Nat.le_refl _⟩
  | some x =>
    have := atB_mem (l := l) (name := name) (by simp [hk])
    exact ⟨h.rows _ this, h.caps _ this⟩
theorem fsP_at (l : List (ByteArray × LB)) (name : ByteArray) : (akey (fsP l) name).getD [] = (atB l name).bytes := by
  rw [fsP_akey, atB]
  cases akey l name <;> rfl
theorem fsV_at (l : List (ByteArray × LB)) (name : ByteArray) : (akey (fsV l) name).getD (.slice none 0 0) = lbV (atB l name) := by
  rw [fsV_akey, getD_map, atB]
theorem map_aput {α β : Type} (f : α → β) (l : List (ByteArray × α)) (k : ByteArray) (v : α) : (aput l k v).map (fun p => (p.1, f p.2)) = aput (l.map (fun p => (p.1, f p.2))) k (f v) := by
  unfold aput
  have e : (l.map (fun p => (p.1, f p.2))).any (fun p => decide (p.1 = k)) = l.any (fun p => decide (p.1 = k)) := by simp [List.any_map, Function.comp_def]
  rw [e]
  split
  · simp only [List.map_map]
    apply List.map_congr_left
    intro p _
    simp only [Function.comp]
    split <;> rfl
  · simp
theorem map_adel {α β : Type} (f : α → β) (l : List (ByteArray × α)) (k : ByteArray) : (adel l k).map (fun p => (p.1, f p.2)) = adel (l.map (fun p => (p.1, f p.2))) k := by
  unfold adel
  rw [List.filter_map]
  rfl
theorem mem_aput {α : Type} {l : List (ByteArray × α)} {k : ByteArray} {v : α} {p : ByteArray × α} (h : p ∈ aput l k v) : p = (k, v) ∨ p ∈ l := by
  unfold aput at h
  split at h
  · obtain ⟨q, hq, e⟩ := List.mem_map.1 h
    split at e
    · exact .inl e.symm
    · exact .inr (e ▸ hq)
  · rcases List.mem_append.1 h with h | h
    · exact .inr h
    · exact .inl (by simpa using h)
theorem mem_adel {α : Type} {l : List (ByteArray × α)} {k : ByteArray} {p : ByteArray × α} (h : p ∈ adel l k) : p ∈ l := (List.mem_filter.1 h).1
theorem le_sum : ∀ (l : List Nat) (a : Nat), a ∈ l → a ≤ l.sum
  | [], _, h => by cases h
  | b :: l, a, h => by
    rw [List.sum_cons]
    rcases List.mem_cons.1 h with rfl | h
    · omega
    · have := le_sum l a h; omega
theorem used_at {l : List (ByteArray × LB)} (hn : (l.map (·.1)).Nodup) (name : ByteArray) : (atB l name).bytes.length ≤ usedB (fsP l) := by
  cases hk : akey l name with
  | none => rw [atB, hk]; exact Nat.zero_le _
  | some x =>
    have hm := atB_mem (l := l) (name := name) (by simp [hk])
    rw [usedB]
    refine le_sum _ _ ?_
    exact List.mem_map.2 ⟨(name, (atB l name).bytes), List.mem_map.2 ⟨_, hm, rfl⟩, rfl⟩

end Go.Proofs.Ytabknhgbijcklaa
