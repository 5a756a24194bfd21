/-
  Walks, printed by a program of this workplace (wip/tools/sx.py) off the functions' code and a text of contracts.
-/
import Derived.Test.YtabknhgbijcklaaTy
import Derived.Test.YtabknhgbijcklaaSd
import Derived.Test.YtabknhgbijcklaaXj
set_option linter.all false
set_option maxRecDepth 100000
set_option synthInstance.maxSize 100000
set_option synthInstance.maxHeartbeats 400000
namespace Go.Proofs.Ytabknhgbijcklaa
open Go.Wst
open Go.Wst.Dm
theorem mixed : Try.prog.follows .mixedOrders = true := by kernel_rfl
/-- A file's bytes where they lie. -/
structure LB where
  bytes : List UInt8
  A : Option Addr
  c : Nat
abbrev lbV (x : LB) : Value := .slice x.A x.bytes.length x.c
def fsV (l : List (ByteArray × LB)) : List (ByteArray × Value) := l.map (fun p => (p.1, lbV p.2))
def fsP (l : List (ByteArray × LB)) : Fs := l.map (fun p => (p.1, p.2.bytes))
structure FilesAt (W : World) (m : Nat) (G : Nat → Prop) (l : List (ByteArray × LB)) : Prop where
  map : MapB W m Value.string (fsV l)
  rows : ∀ p ∈ l, FRow W G p.2.A (bytesC p.2.bytes)
  caps : ∀ p ∈ l, p.2.bytes.length ≤ p.2.c
  lt : ∀ k, G k → k < W.heap.size
  out : ¬ G m
theorem FilesAt.keep {W W' : World} {m : Nat} {G S : Nat → Prop} {l : List (ByteArray × LB)} (h : FilesAt W m G l) (hk : Keep S W W') (hm : ¬ S m) (hG : ∀ k, G k → ¬ S k) : FilesAt W' m G l :=
  ⟨h.map.keep hk hm, fun p hp => (h.rows p hp).keep hk hG, h.caps, fun k e => Nat.lt_of_lt_of_le (h.lt k e) hk.size, h.out⟩
theorem FilesAt.ext {W W' : World} {m : Nat} {G : Nat → Prop} {l : List (ByteArray × LB)} (h : FilesAt W m G l) (hk : Keep NoB W W') : FilesAt W' m G l := h.keep hk (fun h => h) (fun _ _ h => h)
theorem fsV_keys (l : List (ByteArray × LB)) : (fsV l).map (·.1) = l.map (·.1) := by simp [fsV]
theorem fsP_keys (l : List (ByteArray × LB)) : (fsP l).map (·.1) = l.map (·.1) := by simp [fsP]
theorem akey_mapV {α β : Type} (f : α → β) (l : List (ByteArray × α)) (k : ByteArray) : akey (l.map (fun p => (p.1, f p.2))) k = (akey l k).map f := by
  induction l with
  | nil => rfl
  | cons p l ih => rw [List.map_cons, akey_cons, akey_cons, ih]; split <;> rfl
theorem fsV_akey (l : List (ByteArray × LB)) (k : ByteArray) : akey (fsV l) k = (akey l k).map lbV := akey_mapV lbV l k
theorem fsP_akey (l : List (ByteArray × LB)) (k : ByteArray) : akey (fsP l) k = (akey l k).map (·.bytes) := akey_mapV (fun x : LB => x.bytes) l k
theorem FilesAt.nodup {W : World} {m : Nat} {G : Nat → Prop} {l : List (ByteArray × LB)} (h : FilesAt W m G l) : (l.map (·.1)).Nodup := by
  obtain ⟨_, _, _, _, _, _, h1⟩ := h.map
  rwa [fsV_keys] at h1
/-- A rune that no name bears. -/
def oddR (r : Int) : Bool := (decide (r < 97) || decide (122 < r)) && (decide (r < 48) || decide (57 < r)) && !decide (r = 46)

/-- (*waystation/disk.Disk).named$1 -/
theorem odd_ok (r : Int) (w : World) : Ret Try.prog 67 #[.int .i32 r] w (fun v w' => v = .bool (oddR r) ∧ w = w') := by
  refine ret_of_x (N := 21) (l := [.int .i32 r]) Try.func67 rfl rfl (Nat.le_of_ble_eq_true rfl) ?_
  refine x_seq ?_
  refine x_regionL ?_
  refine xl_v v_assign ?_
  refine xl_nil ?_
  refine x_seq ?_
  refine x_regionL ?_
  refine xl_v v_move ?_
  refine xl_v v_lss ?_
  refine xl_v v_move ?_
  refine xl_split 5 (fun g5 => ?_) (fun g5 => ?_)
  ·
    refine xl_gs rfl EvO.eq ?_
    refine xl_gs rfl EvO.eq ?_
    refine xl_v (by first | exact v_pickT | exact v_pickF | exact v_pick) ?_
    refine xl_v v_move ?_
    refine xl_gv rfl EvO.eq v_move ?_
    refine xl_gv rfl EvO.eq v_lss ?_
    refine xl_gv rfl EvO.eq v_move ?_
    refine xl_split 12 (fun g12 => ?_) (fun g12 => ?_)
    ·
      refine xl_gs rfl EvO.eq ?_
      refine xl_gs rfl EvO.eq ?_
      refine xl_gv rfl EvO.eq (by first | exact v_pickT | exact v_pickF | exact v_pick) ?_
      refine xl_v (by first | exact v_pickT | exact v_pickF | exact v_pick) ?_
      refine xl_v v_move ?_
      refine xl_gv rfl EvO.eq v_move ?_
      refine xl_gv rfl EvO.eq v_neq ?_
      refine xl_v (by first | exact v_pickT | exact v_pickF | exact v_pick) ?_
      refine xl_v v_assign ?_
      refine xl_nil ?_
      refine x_ret ?_
      refine fin1 rfl ?_
      refine ⟨congrArg Value.bool ?_, rfl⟩
      simp only [oddR]
      simp_all <;> omega
    ·
      refine xl_gv rfl EvO.eq v_move ?_
      refine xl_gv rfl EvO.eq v_gtr ?_
      refine xl_gv rfl EvO.eq (by first | exact v_pickT | exact v_pickF | exact v_pick) ?_
      refine xl_v (by first | exact v_pickT | exact v_pickF | exact v_pick) ?_
      refine xl_v v_move ?_
      refine xl_split 17 (fun g17 => ?_) (fun g17 => ?_)
      ·
        refine xl_gv rfl EvO.eq v_move ?_
        refine xl_gv rfl EvO.eq v_neq ?_
        refine xl_v (by first | exact v_pickT | exact v_pickF | exact v_pick) ?_
        refine xl_v v_assign ?_
        refine xl_nil ?_
        refine x_ret ?_
        refine fin1 rfl ?_
        refine ⟨congrArg Value.bool ?_, rfl⟩
        simp only [oddR]
        simp_all <;> omega
      ·
        refine xl_gs rfl EvO.eq ?_
        refine xl_gs rfl EvO.eq ?_
        refine xl_v (by first | exact v_pickT | exact v_pickF | exact v_pick) ?_
        refine xl_v v_assign ?_
        refine xl_nil ?_
        refine x_ret ?_
        refine fin1 rfl ?_
        refine ⟨congrArg Value.bool ?_, rfl⟩
        simp only [oddR]
        simp_all <;> omega
  ·
    refine xl_gv rfl EvO.eq v_move ?_
    refine xl_gv rfl EvO.eq v_gtr ?_
    refine xl_v (by first | exact v_pickT | exact v_pickF | exact v_pick) ?_
    refine xl_v v_move ?_
    refine xl_split 9 (fun g9 => ?_) (fun g9 => ?_)
    ·
      refine xl_gv rfl EvO.eq v_move ?_
      refine xl_gv rfl EvO.eq v_lss ?_
      refine xl_gv rfl EvO.eq v_move ?_
      refine xl_split 12 (fun g12 => ?_) (fun g12 => ?_)
      ·
        refine xl_gs rfl EvO.eq ?_
        refine xl_gs rfl EvO.eq ?_
        refine xl_gv rfl EvO.eq (by first | exact v_pickT | exact v_pickF | exact v_pick) ?_
        refine xl_v (by first | exact v_pickT | exact v_pickF | exact v_pick) ?_
        refine xl_v v_move ?_
        refine xl_gv rfl EvO.eq v_move ?_
        refine xl_gv rfl EvO.eq v_neq ?_
        refine xl_v (by first | exact v_pickT | exact v_pickF | exact v_pick) ?_
        refine xl_v v_assign ?_
        refine xl_nil ?_
        refine x_ret ?_
        refine fin1 rfl ?_
        refine ⟨congrArg Value.bool ?_, rfl⟩
        simp only [oddR]
        simp_all <;> omega
      ·
        refine xl_gv rfl EvO.eq v_move ?_
        refine xl_gv rfl EvO.eq v_gtr ?_
        refine xl_gv rfl EvO.eq (by first | exact v_pickT | exact v_pickF | exact v_pick) ?_
        refine xl_v (by first | exact v_pickT | exact v_pickF | exact v_pick) ?_
        refine xl_v v_move ?_
        refine xl_split 17 (fun g17 => ?_) (fun g17 => ?_)
        ·
          refine xl_gv rfl EvO.eq v_move ?_
          refine xl_gv rfl EvO.eq v_neq ?_
          refine xl_v (by first | exact v_pickT | exact v_pickF | exact v_pick) ?_
          refine xl_v v_assign ?_
          refine xl_nil ?_
          refine x_ret ?_
          refine fin1 rfl ?_
          refine ⟨congrArg Value.bool ?_, rfl⟩
          simp only [oddR]
          simp_all <;> omega
        ·
          refine xl_gs rfl EvO.eq ?_
          refine xl_gs rfl EvO.eq ?_
          refine xl_v (by first | exact v_pickT | exact v_pickF | exact v_pick) ?_
          refine xl_v v_assign ?_
          refine xl_nil ?_
          refine x_ret ?_
          refine fin1 rfl ?_
          refine ⟨congrArg Value.bool ?_, rfl⟩
          simp only [oddR]
          simp_all <;> omega
    ·
      refine xl_gs rfl EvO.eq ?_
      refine xl_gs rfl EvO.eq ?_
      refine xl_gs rfl EvO.eq ?_
      refine xl_gu rfl EvO.eq ?_
      refine xl_gu rfl EvO.eq ?_
      refine xl_gs rfl EvO.eq ?_
      refine xl_v (by first | exact v_pickT | exact v_pickF | exact v_pick) ?_
      refine xl_v v_move ?_
      refine xl_gs rfl EvO.eq ?_
      refine xl_gs rfl EvO.eq ?_
      refine xl_v (by first | exact v_pickT | exact v_pickF | exact v_pick) ?_
      refine xl_v v_assign ?_
      refine xl_nil ?_
      refine x_ret ?_
      refine fin1 rfl ?_
      refine ⟨congrArg Value.bool ?_, rfl⟩
      simp only [oddR]
      simp_all <;> omega
theorem toList_get (s : ByteArray) (j : Nat) (h : j < s.size) : s.toList[j]? = some (s[j]'h) := by
  rw [ByteArray.toList_eq, Array.getElem?_toList]
  exact Array.getElem?_eq_getElem h
theorem odd_decode (s : ByteArray) (pos : Nat) (h : pos < s.size) : oddR ((Utf8.decode s pos).1 : Nat) = !byteOk (s[pos]'h) ∧ (byteOk (s[pos]'h) = true → (Utf8.decode s pos).2 = 1) := by
  by_cases ha : (s[pos]'h).toNat < 128
  · rw [decode_ascii s pos h ha]
    refine ⟨?_, fun _ => rfl⟩
    simp only [oddR, byteOk]
    rw [Bool.eq_iff_iff]
    simp
    omega
  · have h1 := decode_odd s pos h (by omega)
    have h2 : byteOk (s[pos]'h) = false := by
      simp only [byteOk]
      rw [Bool.eq_false_iff]
      simp
      omega
    refine ⟨?_, fun e => by rw [h2] at e; cases e⟩
    rw [h2]
    simp only [oddR]
    simp
    omega

/-- strings.indexFunc -/
theorem idxf_ok (s : ByteArray) (w : World) (hs : s.size ≤ 1000000000) : Ret Try.prog 77 #[.string s, .func (.func 67) ([] : List Value).toArray ([] : List Value).toArray, .bool true] w (fun v w' => (∃ i : Int, v = .int .i64 i ∧ (0 ≤ i ↔ s.toList.all byteOk = false)) ∧ Lk w' w NoB) := by
  refine ret_of_x (N := 21) (l := [.string s, .func (.func 67) ([] : List Value).toArray ([] : List Value).toArray, .bool true]) Try.func77 rfl rfl (Nat.le_of_ble_eq_true rfl) ?_
  refine x_seq ?_
  refine x_regionL ?_
  refine xl_v v_assign ?_
  refine xl_nil ?_
  refine x_seq ?_
  refine x_seq ?_
  refine x_regionL ?_
  refine xl_v v_move ?_
  refine xl_e (e_rangeS fun it w1 ni li hit hhas => ?_)
  refine xl_nil ?_
  refine x_block ?_
  refine x_loop (fun m τ ds w' => ds = [] ∧ ∃ (pos : Nat), m = s.size - pos ∧ pos ≤ s.size ∧ StrIt w' it s pos ∧ (∀ j (h : j < s.size), j < pos → byteOk (s[j]'h) = true) ∧ Ev τ 1 (.func (.func 67) ([] : List Value).toArray ([] : List Value).toArray) ∧ Ev τ 2 (.bool true) ∧ Ev τ 10 (.pointer (some ⟨it, 0, none⟩)) ∧ Lk w' w NoB) (s.size) ?start ?round
  case start =>
    exact ⟨rfl, 0, rfl, by omega, hit, fun j _ h => by omega, inferInstance, inferInstance, inferInstance, lkc⟩
  case round =>
    intro m τ2 ds2 w2 hI
    obtain ⟨rfl, pos, rfl, hpos, hst, hall, e1, e2, e10, lk⟩ := hI
    haveI : NotS NoB it := ⟨fun h => h⟩
    haveI sI : SubF (OneB it) NoB w := ⟨fun k hk e => by have e' : k = it := e; have := ni.eq; omega⟩
    refine x_seq ?_
    refine x_regionL ?_
    refine xl_e (e_nextS hst fun bb qs w3 l2 hb0 hb1 => ?_)
    refine xl_v v_extract ?_
    refine xl_nil ?_
    refine x_seq ?_
    refine x_condE (fun c1 => ?_) (fun c1 => ?_)
    ·
      obtain ⟨hps, rfl, hst2⟩ := hb1 c1
      obtain ⟨hod, hwd⟩ := odd_decode s pos hps
      refine x_skip ?_
      refine x_block ?_
      refine x_seq ?_
      refine x_regionL ?_
      refine xl_v v_extract ?_
      refine xl_v v_extract ?_
      refine xl_v v_assign ?_
      refine xl_v v_assign ?_
      refine xl_nil ?_
      refine x_seq ?_
      refine x_regionL ?_
      refine xl_v v_move ?_
      refine xl_v v_move ?_
      refine xl_call (odd_ok _ w3) ?_
      rintro _ _ ⟨rfl, rfl⟩
      refine xl_v v_move ?_
      refine xl_v (v_beql) ?_
      refine xl_nil ?_
      refine x_condE (fun c2 => ?_) (fun c2 => ?_)
      ·
        have hbo : byteOk (s[pos]'hps) = false := by
          rw [hod] at c2
          simpa using c2
        refine x_seq ?_
        refine x_regionL ?_
        refine xl_v v_move ?_
        refine xl_v v_assign ?_
        refine xl_nil ?_
        refine x_ret ?_
        refine fin1 rfl ?_
        refine ⟨⟨pos, rfl, ⟨fun _ => ?_, fun _ => by omega⟩⟩, lkc⟩
        rw [List.all_eq_false]
        exact ⟨s[pos]'hps, List.mem_of_getElem? (toList_get s pos hps), by simp [hbo]⟩
      ·
        have hbo : byteOk (s[pos]'hps) = true := by
          rw [hod] at c2
          simpa using c2
        have hst3 : StrIt w3 it s (pos + 1) := by rw [← hwd hbo]; exact hst2
        refine x_skip ?_
        refine ⟨_, ?_, rfl, pos + 1, rfl, by omega, hst3, ?_, inferInstance, inferInstance, inferInstance, lkc⟩
        · omega
        · intro j hj hj2
          by_cases e : j = pos
          · subst e; exact hbo
          · exact hall j hj (by omega)
    ·
      refine x_exit ?_
      refine x_seq ?_
      refine x_regionL ?_
      refine xl_v v_assign ?_
      refine xl_nil ?_
      refine x_ret ?_
      refine fin1 rfl ?_
      have hps := hb0 (by simpa using c1)
      refine ⟨⟨-1, rfl, ⟨fun h => by omega, fun h => ?_⟩⟩, lkc⟩
      rw [List.all_eq_false] at h
      obtain ⟨x, hx, h1⟩ := h
      obtain ⟨j, hj, hxj⟩ := List.getElem_of_mem hx
      have hj2 : j < s.size := by
        have : s.toList.length = s.size := by rw [ByteArray.toList_eq]; rfl
        omega
      have h2 := toList_get s j hj2
      rw [List.getElem?_eq_getElem hj] at h2
      have h3 := hall j hj2 (by omega)
      rw [← Option.some.inj h2, hxj] at h3
      exact absurd h3 h1

/-- strings.IndexFunc -/
theorem IdxF_ok (s : ByteArray) (w : World) (hs : s.size ≤ 1000000000) : Ret Try.prog 68 #[.string s, .func (.func 67) ([] : List Value).toArray ([] : List Value).toArray] w (fun v w' => (∃ i : Int, v = .int .i64 i ∧ (0 ≤ i ↔ s.toList.all byteOk = false)) ∧ Lk w' w NoB) := by
  refine ret_of_x (N := 8) (l := [.string s, .func (.func 67) ([] : List Value).toArray ([] : List Value).toArray]) Try.func68 rfl rfl (Nat.le_of_ble_eq_true rfl) ?_
  refine x_seq ?_
  refine x_regionL ?_
  refine xl_v v_assign ?_
  refine xl_nil ?_
  refine x_seq ?_
  refine x_regionL ?_
  refine xl_v v_move ?_
  refine xl_v v_move ?_
  refine xl_call (idxf_ok s w hs) ?_
  rintro _ w1 ⟨⟨i, rfl, hi⟩, lk1⟩
  refine xl_v v_assign ?_
  refine xl_nil ?_
  refine x_ret ?_
  refine fin1 rfl ?_
  exact ⟨⟨i, rfl, hi⟩, lkc⟩
end Go.Proofs.Ytabknhgbijcklaa
