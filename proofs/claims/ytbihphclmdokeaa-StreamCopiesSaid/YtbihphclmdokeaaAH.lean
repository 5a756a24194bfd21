/-
  Walks, printed by a program of this workplace (wip/tools/sx.py) off the functions' code and a text of contracts.
-/
import Derived.Test.YtbihphclmdokeaaAB
import Derived.Laws.Externs
import Derived.MapKept
set_option linter.all false
set_option maxRecDepth 100000
set_option synthInstance.maxSize 100000
set_option synthInstance.maxHeartbeats 400000
namespace Go.Proofs.Ytbihphclmdokeaa
open Go.Wst
open Go.Wst.Sm
section
variable {P : Program} {r : Option Nat} {N : Nat} {S : Nat → Prop} {τ : Tau} {w : World} {ty : TypeId}
theorem v_beqlC {x y : Operand} {t t' : TypeId} {a b : Bool} [hx : EvO N τ x (.bool a)] [hy : EvO N τ y (.bool b)] [hu : Und P t .bool] : Val P r N S (.binOp .eql t x y t') ty τ w (.bool (a == b)) := ⟨fun _ => nofun, fun W _ => by
  have h0 : ∀ d, (Op.equalIn (d + 1) t (.bool a) (.bool b)).run P W = .ok (a == b) W := fun d => by simp [Op.equalIn, run_underlying hu.eq]
  have := h0 9999
  simp [execOp, hx.eq, hy.eq, eqGuard, binOp, Op.equal, Op.maxDepth, this]⟩
theorem v_makeInterfaceM {x : Operand} {t k e : TypeId} {v : Value} [hx : EvO N τ x v] [hu : Und P t (.map k e)] : Val P r N S (.makeInterface t x) ty τ w (.iface t v) := ⟨fun _ => nofun, fun W _ => by
  simp [execOp, hx.eq, Instr.makeInterface, run_underlying hu.eq, Sem.run, Result.andThen]⟩
theorem v_typeAssertM {x : Operand} {t xT k e : TypeId} {v : Value} [hx : EvO N τ x (.iface t v)] [hu : Und P t (.map k e)] : Val P r N S (.typeAssert x xT t false) ty τ w v := ⟨fun _ => nofun, fun W _ => by
  simp [execOp, hx.eq, Instr.typeAssert, run_underlying hu.eq, Sem.run, Result.andThen]⟩
end
section
variable {N : Nat} {τ : Tau} {w : World} {ty : TypeId}
theorem run_mapsClone {m : Nat} {es : Array MapEntry} {clock : Nat} (t : TypeId) (hb : w.heap[m]? = some (.map es clock)) :
    (Extern.MapsClone.clone #[.iface t (.map (some m))]).run Try.prog w = .ok (.iface t (.map (some w.heap.size))) (w.alloc (.map es clock)) := by
  have e : Extern.MapsClone.clone #[.iface t (.map (some m))] = (getObj m >>= fun o => match o with
      | .map entries clock => (newObj (.map entries clock) >>= fun n => pure (.iface t (.map (some n))))
      | _ => stuck "maps.clone: a map expected") := rfl
  rw [e]
  simp [MapKept.run_getObj_map hb, Result.andThen, go_sem]
theorem e_mapsClone {g x : Operand} {at_ : Array TypeId} {t : TypeId} {m : Nat} {κ : Type} [DecidableEq κ] {enc : κ → Value} {kvs : List (κ × Value)} {G : Value → World → Prop} [hx : EvO N τ x (.iface t (.map (some m)))] [hg : EvO N τ g (.func (.func 78) ([] : List Value).toArray ([] : List Value).toArray)] [hm : MapI w m κ enc kvs]
    (h : ∀ b w', New b w → Lk w' w NoB → MapI w' b κ enc kvs → G (.iface t (.map (some b))) w') : EffV Try.prog N NoB (.call { callee := .value g, args := #[x], argTypes := at_ }) ty τ w G := by
  obtain ⟨es, clock, h1, h2⟩ := hm.m
  refine ⟨fun _ => nofun, _, w.alloc (.map es clock), ?_, Keep.alloc _ _, h w.heap.size _ ⟨rfl⟩ ⟨Keep.alloc _ _⟩ ⟨⟨es, clock, heap_alloc_new w _, h2⟩⟩⟩
  have e0 : (callFunc 78 #[.iface t (.map (some m))]).run Try.prog w = .ok (.value (.iface t (.map (some w.heap.size)))) (w.alloc (.map es clock)) := by
    rw [run_callFunc_extern Try.func78 (by kernel_rfl) (by kernel_rfl) (by kernel_rfl) (e := Extern.MapsClone.clone) (by kernel_rfl), run_mapsClone t h1]
    rfl
  simp [execOp, resolve, invoke, hg.eq, hx.eq, Deferred.ofValue, e0]
end
/-! lists of slices, one more -/
theorem slsF_snoc {vs : List Value} {v : Value} {k : Nat} : SlsF (vs ++ [v]) k ↔ SlsF vs k ∨ v.ownBlock = some k := by
  constructor
  · rintro ⟨u, hu, hk⟩
    rcases List.mem_append.1 hu with h | h
    · exact .inl ⟨u, h, hk⟩
    · rw [List.mem_singleton.1 h] at hk; exact .inr hk
  · rintro (⟨u, hu, hk⟩ | h)
    · exact ⟨u, List.mem_append_left _ hu, hk⟩
    · exact ⟨v, by simp, h⟩
theorem _root_.Go.Wst.Sls.snoc {w : World} {e : TypeId} {sz n : Nat} {vs : List Value} {xss : List (List Value)} {v : Value} {xs : List Value} (h : Sls w e sz vs xss) (ho : w.ownsRow 0 e sz v n xs) (hn : ∀ k, v.ownBlock = some k → ¬ SlsF vs k) : Sls w e sz (vs ++ [v]) (xss ++ [xs]) := by
  have at_ : ∀ (i : Nat) (u : Value), (vs ++ [v])[i]? = some u → (vs[i]? = some u ∧ i < vs.length) ∨ (i = vs.length ∧ u = v) := fun i u hu => by
    rcases Nat.lt_or_ge i vs.length with h1 | h1
    · rw [List.getElem?_append_left h1] at hu; exact .inl ⟨hu, h1⟩
    · rw [List.getElem?_append_right h1] at hu
      have : i - vs.length = 0 := by
        rcases Nat.eq_zero_or_pos (i - vs.length) with h2 | h2
        · exact h2
        · rw [List.getElem?_eq_none (by simp; omega)] at hu; cases hu
      rw [this] at hu
      simp at hu
      exact .inr ⟨by omega, hu.symm⟩
  refine ⟨by simp [h.len], fun i u ys hu hy => ?_, fun i j u u2 k hu hu2 hk hk2 => ?_⟩
  · rcases at_ i u hu with ⟨h1, h2⟩ | ⟨h1, h2⟩
    · rw [List.getElem?_append_left (by rw [← h.len]; exact h2)] at hy
      exact h.own i u ys h1 hy
    · subst h1; subst h2
      rw [h.len, List.getElem?_append_right (Nat.le_refl _), Nat.sub_self] at hy
      simp at hy
      subst hy
      exact ⟨n, ho⟩
  · rcases at_ i u hu with ⟨h1, h2⟩ | ⟨h1, h2⟩ <;> rcases at_ j u2 hu2 with ⟨h3, h4⟩ | ⟨h3, h4⟩
    · exact h.apart i j u u2 k h1 h3 hk hk2
    · subst h4; exact absurd ⟨u, List.mem_of_getElem? h1, hk⟩ (hn k hk2)
    · subst h2; exact absurd ⟨u2, List.mem_of_getElem? h3, hk2⟩ (hn k hk)
    · rw [h1, h3]
/-! two machines are the same as the document's are -/
theorem perm_of_sub {α : Type} [DecidableEq α] {l m : List α} (hl : l.Nodup) (hm : m.Nodup) (hs : ∀ a ∈ l, a ∈ m) (he : l.length = m.length) : l.Perm m := by
  have hr : ∀ a ∈ m, a ∈ l := fun a ha => by
    apply Classical.byContradiction
    intro hn
    have h1 : (a :: l).Nodup := List.nodup_cons.2 ⟨hn, hl⟩
    have h2 := List.Nodup.length_le_of_subset h1 (show a :: l ⊆ m from fun b hb => by
      rcases List.mem_cons.1 hb with e | e
      · rw [e]; exact ha
      · exact hs b e)
    simp at h2
    omega
  rw [List.perm_iff_count]
  intro a
  rw [hl.count, hm.count]
  by_cases h : a ∈ l
  · rw [if_pos h, if_pos (hs a h)]
  · rw [if_neg h, if_neg (fun e => h (hr a e))]
theorem rows_back {M : Mach} (hok : M.ok) : ((refOf M).rows).map (fun q => (q.1.id, q)) = srt M.rules := by
  simp only [refOf, List.map_map]
  conv => rhs; rw [← List.map_id (srt M.rules)]
  apply List.map_congr_left
  intro p hp
  have := rows_of hok p hp
  show (p.2.1.id, p.2) = p
  rw [this]
theorem same_ref {M N : Mach} (hM : M.ok) (hN : N.ok) : sameM M N = decide (M.parts = N.parts ∧ (refOf M).rows = (refOf N).rows) := by
  rw [Bool.eq_iff_iff]
  unfold sameM
  simp only [Bool.and_eq_true, decide_eq_true_eq, List.all_eq_true]
  have nd : ∀ {M : Mach}, M.ok → M.rules.Nodup := fun h => List.Pairwise.imp (fun h e => h (congrArg _ e)) (List.pairwise_map.1 h.keys)
  constructor
  · rintro ⟨h1, h2, h3⟩
    refine ⟨h1, ?_⟩
    have hp : M.rules.Perm N.rules := perm_of_sub (nd hM) (nd hN) (fun p hp => akey_mem (h3 p hp)) h2
    have hs : srt M.rules = srt N.rules := srt_uniq ((srt_perm _).trans hp) (srt_pair _) hN.keys
    simp only [refOf]
    rw [hs]
  · rintro ⟨h1, h2⟩
    have hs : srt M.rules = srt N.rules := by rw [← rows_back hM, ← rows_back hN, h2]
    have hp : M.rules.Perm N.rules := (srt_perm _).symm.trans (by rw [hs]; exact srt_perm _)
    exact ⟨h1, hp.length_eq, fun p hp' => akey_nodup hN.keys (hp.mem_iff.1 hp')⟩

/-- maps.Clone[map[int]waystation/stream.rule,int,waystation/stream.rule] -/
theorem mclone_ok (m : Nat) (kvs : List (Int × Value)) (w : World) [hm : MapI w m Int (Value.int .i64) kvs] : Ret Try.prog 69 #[.map (some m)] w (fun v w' => ∃ b, v = .map (some b) ∧ MapB w' b (Value.int .i64) kvs ∧ w.heap.size ≤ b ∧ Lk w' w NoB) := by
  refine ret_of_x (N := 9) (l := [.map (some m)]) Try.func69 rfl rfl (Nat.le_of_ble_eq_true rfl) ?_
  refine x_seq ?_
  refine x_regionL ?_
  refine xl_v v_assign ?_
  refine xl_nil ?_
  refine x_seq ?_
  refine x_seq ?_
  refine x_regionL ?_
  refine xl_v v_move ?_
  refine xl_v (v_eql_mapS) ?_
  refine xl_nil ?_
  refine x_condF ?_
  refine x_skip ?_
  refine x_seq ?_
  refine x_regionL ?_
  refine xl_v v_move ?_
  refine xl_v (v_makeInterfaceM) ?_
  refine xl_e (e_mapsClone fun b w1 n1 l1 m1 => ?_)
  refine xl_v (v_typeAssertM) ?_
  refine xl_v v_assign ?_
  refine xl_nil ?_
  refine x_ret ?_
  refine fin1 rfl ?_
  exact ⟨b, rfl, m1.m, Nat.le_of_eq n1.eq.symm, lkc⟩

/-- (*waystation/stream.Machine).Copy$1 -/
theorem copy1_ok (i : Int) (A : Option Addr) (n c : Nat) (xs : List Itm) (w : World) [Row w A (itemsC xs)] (hl : xs.length = n) (hn : n ≤ 100000000) (hA : A.isSome = true ∨ n = 0) : Ret Try.prog 68 #[.int .i64 i, .slice A n c] w (fun v w' => (∃ A' c', v = .slice A' n c' ∧ w'.ownsRow w.heap.size 74 3 v n (itemsC xs)) ∧ Lk w' w NoB) := by
  refine ret_of_x (N := 7) (l := [.int .i64 i, .slice A n c]) Try.func68 rfl rfl (Nat.le_of_ble_eq_true rfl) ?_
  refine x_seq ?_
  refine x_regionL ?_
  refine xl_v v_assign ?_
  refine xl_nil ?_
  refine x_seq ?_
  refine x_regionL ?_
  refine xl_v v_move ?_
  refine xl_call (clonex_ok A n c (itemsC xs) w (by rw [itemsC_len, hl]) hn (itemsC_one _) hA) ?_
  rintro _ w1 ⟨⟨A5, c5, rfl, ho5⟩, lk5⟩
  refine xl_v v_assign ?_
  refine xl_nil ?_
  refine x_ret ?_
  refine fin1 rfl ?_
  exact ⟨⟨A5, c5, rfl, own_mono ho5 Ge.le⟩, lkc⟩

/-- waystation/stream.each[[]waystation/api.Item,[]waystation/api.Item] -/
theorem eachL_ok (A : Option Addr) (n c : Nat) (vs : List Value) (rows : List (List Value)) (f : FuncId) (cl : List Value) (w : World) [Fun Try.prog f] [Row w A vs] (hl : vs.length = n) (hr : rows.length = n) (hn : n ≤ 1000) (hp : ∀ i (h : i < vs.length) (h2 : i < rows.length), ∀ W, Lk W w NoB → Ret Try.prog f ((.int .i64 (i : Int) :: vs[i] :: cl) : List Value).toArray W (fun v w' => (∃ A' m c', v = .slice A' m c' ∧ w'.ownsRow W.heap.size 74 3 v m rows[i]) ∧ Lk w' W NoB)) : Ret Try.prog 67 #[.slice A n c, .func (.func f) ([] : List Value).toArray cl.toArray] w (fun v w' => (∃ A' c' us, v = .slice A' n c' ∧ w'.ownsRow w.heap.size 64 1 v n us ∧ Sls w' 74 3 us rows ∧ ∀ k, SlsF us k → w.heap.size ≤ k ∧ v.ownBlock ≠ some k) ∧ Lk w' w NoB) := by
  refine ret_of_x (N := 24) (l := [.slice A n c, .func (.func f) ([] : List Value).toArray cl.toArray]) Try.func67 rfl rfl (Nat.le_of_ble_eq_true rfl) ?_
  refine x_seq ?_
  refine x_regionL ?_
  refine xl_v v_assign ?_
  refine xl_nil ?_
  refine x_seq ?_
  refine x_regionL ?_
  refine xl_v v_assign ?_
  refine xl_nil ?_
  refine x_seq ?_
  refine x_seq ?_
  refine x_regionL ?_
  refine xl_v v_move ?_
  refine xl_v v_len ?_
  refine xl_v v_move ?_
  refine xl_nil ?_
  refine x_block ?_
  refine x_loop (fun m τ ds w' => ds = [] ∧ ∃ (k : Nat) (V : Value) (us : List Value), m = n - k ∧ k ≤ n ∧ w'.ownsRow w.heap.size 64 1 V k us ∧ Sls w' 74 3 us (rows.take k) ∧ (∀ j, SlsF us j → w.heap.size ≤ j ∧ V.ownBlock ≠ some j) ∧ Ev τ 1 (.func (.func f) ([] : List Value).toArray cl.toArray) ∧ Ev τ 5 V ∧ Ev τ 8 (.slice A n c) ∧ Ev τ 9 (.int .i64 (n : Int)) ∧ Ev τ 10 (.int .i64 (k : Int)) ∧ Lk w' w NoB) (n) ?start ?round
  case start =>
    exact ⟨rfl, 0, _, [], rfl, Nat.zero_le _, World.ownsRow_nil _ _ _ _, by simpa using Sls.nils w 74 3 0, fun j e => absurd e (by rintro ⟨u, hu, _⟩; cases hu), inferInstance, inferInstance, inferInstance, inferInstance, evc, lkc⟩
  case round =>
    intro m τ1 ds1 w1 hI
    obtain ⟨rfl, k, V, us, rfl, hk, hown, hS, hsf, e1, e5, e8, e9, e10, lk⟩ := hI
    refine x_seq ?_
    refine x_regionL ?_
    refine xl_v v_lss ?_
    refine xl_nil ?_
    refine x_seq ?_
    first | refine x_condP (fun c1 => ?_) (fun c1 => ?_) | refine x_condN (fun c1 => ?_) (fun c1 => ?_) | refine x_condE (fun c1 => ?_) (fun c1 => ?_)
    ·
      have hk1 : k < vs.length := by omega
      have hA := row_some (w := w) (A := A) (cs := vs) inferInstance (by omega)
      refine x_skip ?_
      refine x_seq ?_
      refine x_block ?_
      refine x_seq ?_
      refine x_regionL ?_
      refine xl_v v_move ?_
      refine xl_v (v_indexAddr k rfl (by omega) hA) ?_
      refine xl_v (v_loadR (by rw [Nat.mul_one]; exact List.getElem?_eq_getElem hk1)) ?_
      refine xl_v v_assign ?_
      refine xl_v v_assign ?_
      refine xl_nil ?_
      refine x_regionL ?_
      refine xl_v v_move ?_
      refine xl_v v_move ?_
      refine xl_v v_move ?_
      refine xl_v v_move ?_
      refine xl_call (hp k hk1 (by omega) w1 lkc) ?_
      rintro _ w2 ⟨⟨A2, m2, c2, rfl, ho2⟩, lk2⟩
      have hgB : (w1).heap.size ≤ (w1).heap.size := Ge.le
      have hgw : w.heap.size ≤ (w1).heap.size := Ge.le
      refine xl_e (e_buildSlice1 rfl fun b5 w3 n5 l5 k5 => ?_)
      haveI := ownN_of hown (Nat.le_refl _)
      have hge6 : (w1).heap.size ≤ (w3).heap.size := Ge.le
      have h2lt : ∀ j, (Value.slice A2 m2 c2).ownBlock = some j → j < (w3).heap.size := fun j e => Nat.lt_of_lt_of_le (ho2.lt j e).2 Ge.le
      refine xl_e (e_append' (own_ext hown lkc) Ge.le rfl Cell1L.eq (by decide) (.inl rfl) (by omega) (by omega) fun A6 c6 w4 hown2 l6 hn6 => ?_)
      have hkV : Keep (OwnB V) w1 w4 := kpc
      have ho3 := own_mono (own_keep ho2 (kpc : Keep (OwnB V) _ w4) (fun j e e2 => by
        have h1 := (ho2.lt j e).1
        have h2 := (hown.lt j e2.symm).2
        omega)) (Nat.zero_le _)
      have hS6 : Sls w4 74 3 (us ++ [.slice A2 m2 c2]) (rows.take (k + 1)) := by
        rw [take_snoc _ k (by omega)]
        exact (hS.keep hkV (fun j e e2 => (hsf j e).2 e2.symm)).snoc ho3 (fun j e e2 => by
          have h1 := (ho2.lt j e).1
          have h2 := hS.lt j e2
          omega)
      have hf6 : ∀ j, SlsF (us ++ [.slice A2 m2 c2]) j → w.heap.size ≤ j ∧ (Value.slice A6 (k + 1) c6).ownBlock ≠ some j := fun j e => by
        rcases slsF_snoc.1 e with e | e
        · refine ⟨(hsf j e).1, fun e2 => ?_⟩
          rcases hn6 with h | h
          · exact (hsf j e).2 (h ▸ e2)
          · rw [h] at e2; cases e2; have := hS.lt _ e; omega
        · have h1 := (ho2.lt j e).1
          refine ⟨by omega, fun e2 => ?_⟩
          rcases hn6 with h | h
          · have h2 := (hown.lt j (h ▸ e2)).2; omega
          · rw [h] at e2; cases e2; have := h2lt _ e; omega
      refine xl_v v_assign ?_
      refine xl_nil ?_
      refine x_regionL ?_
      refine xl_v (v_add (by omega)) ?_
      refine xl_v v_move ?_
      refine xl_nil ?_
      refine ⟨_, ?_, rfl, k + 1, _, us ++ [.slice A2 m2 c2], rfl, by omega, hown2, hS6, hf6, inferInstance, inferInstance, inferInstance, inferInstance, evc, lkc⟩
      omega
    ·
      refine x_exit ?_
      refine x_seq ?_
      refine x_regionL ?_
      refine xl_v v_move ?_
      refine xl_v v_assign ?_
      refine xl_nil ?_
      refine x_ret ?_
      refine fin1 rfl ?_
      have hkn : k = n := by omega
      subst hkn
      rw [List.take_of_length_le (by omega)] at hS
      obtain ⟨A', c', rfl, _⟩ := ownsRow_form hown
      exact ⟨⟨A', c', us, rfl, hown, hS, hsf⟩, lkc⟩
set_option maxHeartbeats 1000000 in
/-- (*waystation/stream.Machine).Copy -/
theorem copy_ok (b pb mb : Nat) (vs : List Value) (M : Mach) (w : World) (h : MachAt w b pb mb vs M) (hok : M.ok) : Ret Try.prog 37 #[.pointer (some ⟨b, 0, none⟩)] w (fun v w' => (∃ b' pb' mb' vs', v = .pointer (some ⟨b', 0, none⟩) ∧ MachAt w' b' pb' mb' vs' M ∧ ∀ k, MachF b' pb' mb' vs' k → w.heap.size ≤ k) ∧ Lk w' w NoB) := by
  obtain ⟨sp, hbs, hps⟩ := h.ex
  haveI hb : Blk w b _ := ⟨hbs⟩
  haveI hm : MapI w mb _ _ _ := ⟨h.hm⟩
  haveI hrp : Row w (some ⟨pb, 0, none⟩) vs := ⟨row_left (row_blk hps)⟩
  have hvl : vs.length = M.parts.length := by simpa using h.hs.len
  have hfour := hok.four
  have hone := hok.one
  have hfun : ∀ i (hi : i < vs.length) (hi2 : i < (M.parts.map itemsC).length), ∀ W, Lk W w NoB → Ret Try.prog 68 ((.int .i64 (i : Int) :: vs[i] :: []) : List Value).toArray W (fun v w' => (∃ A' m c', v = .slice A' m c' ∧ w'.ownsRow W.heap.size 74 3 v m (M.parts.map itemsC)[i]) ∧ Lk w' W NoB) := by
    intro i hi hi2 W l
    obtain ⟨A, cap, e1, r1⟩ := h.slot i hi (by omega)
    rw [e1]
    haveI hR : Row W A _ := ⟨r1.keep l.keep (fun _ _ h => h)⟩
    have hlong := hok.long _ (List.getElem_mem (by omega : i < M.parts.length))
    refine (copy1_ok (i : Int) A _ cap M.parts[i] W rfl (by omega) (by rcases Nat.eq_zero_or_pos (M.parts[i]).length with h0 | h0; exact .inr h0; exact .inl (row_some hR (by rw [itemsC_len]; omega)))).mono ?_
    rintro v w' ⟨⟨A', c', rfl, ho⟩, lk⟩
    exact ⟨⟨A', _, c', rfl, by simpa using ho⟩, lk⟩
  refine ret_of_x (N := 19) (l := [.pointer (some ⟨b, 0, none⟩)]) Try.func37 rfl rfl (Nat.le_of_ble_eq_true rfl) ?_
  refine x_seq ?_
  refine x_regionL ?_
  refine xl_v v_assign ?_
  refine xl_nil ?_
  refine x_seq ?_
  refine x_seq ?_
  refine x_regionL ?_
  refine xl_v v_move ?_
  refine xl_call (none_ok _ _ _ _) ?_
  rintro _ _ ⟨rfl, rfl⟩
  refine xl_nil ?_
  refine x_condF ?_
  refine x_skip ?_
  refine x_seq ?_
  refine x_drawL (NoB) (allS) (.take 0 (.take 1 (.take 2 (.take 3 (.take 4 (.take 7 (.take 8 (.take 9 (.take 10 (.eff 5 (.take 6 (.eff 11 (.take 12 (.eff 13 (.take 14 .done))))))))))))))) mixed (by kernel_rfl) (fun _ _ _ _ _ h => h) (fun w2 l2 => ?_)
  refine xt_v rfl v_move ?_
  refine xt_v rfl (by first | exact v_nilCheckP | exact v_nilCheckF | exact v_nilCheckR (by first | assumption | rfl)) ?_
  refine xt_v rfl (by first | exact v_fieldAddr | exact v_fieldAddrF (by decide) (by omega) | exact v_fieldAddrR (by first | assumption | rfl)) ?_
  refine xt_v rfl (by first | exact v_fieldAddr | exact v_fieldAddrF (by decide) (by omega) | exact v_fieldAddrR (by first | assumption | rfl)) ?_
  refine xt_v rfl (by first | exact v_load | exact v_loadO (by omega) | exact v_loadFf (by omega) | exact v_loadF0 (by omega)) ?_
  refine xt_v rfl v_move ?_
  refine xt_v rfl (by first | exact v_nilCheckP | exact v_nilCheckF | exact v_nilCheckR (by first | assumption | rfl)) ?_
  refine xt_v rfl (by first | exact v_fieldAddr | exact v_fieldAddrF (by decide) (by omega) | exact v_fieldAddrR (by first | assumption | rfl)) ?_
  refine xt_v rfl (by first | exact v_load | exact v_loadO (by omega) | exact v_loadFf (by omega) | exact v_loadF0 (by omega)) ?_
  refine xt_call rfl (eachL_ok (some ⟨pb, 0, none⟩) M.parts.length (M.parts.length + sp.length) vs (M.parts.map itemsC) 68 [] w2 hvl (by simp) (by omega) (fun i hi hi2 W l => hfun i hi hi2 W ⟨Keep.trans (kpc : Keep NoB w w2) l.keep⟩)) ?_
  rintro _ w3 ⟨⟨A5, c5, us, rfl, ho5, hs5, hf5⟩, lk5⟩
  refine ⟨kpc, ?_⟩
  have hgw5 : w.heap.size ≤ (w2).heap.size := Ge.le
  refine xt_v rfl v_build ?_
  refine xt_call rfl (mclone_ok mb _ w3) ?_
  rintro _ w4 ⟨bm, rfl, hbm, hgm, lk11⟩
  refine ⟨kpc, ?_⟩
  have hl5 : ∀ k, (Value.slice A5 M.parts.length c5).ownBlock = some k → k < (w3).heap.size := fun k e => Nat.lt_of_lt_of_le (ho5.lt k e).2 Ge.le
  have hls5 : ∀ k, SlsF us k → k < (w3).heap.size := fun k e => Nat.lt_of_lt_of_le (hs5.lt k e) Ge.le
  have hgw11 : w.heap.size ≤ (w3).heap.size := Ge.le
  have hbml := hbm.lt
  refine xt_v rfl v_build ?_
  have hgb : bm < (w4).heap.size := Nat.lt_of_lt_of_le hbml Ge.le
  have hgp : ∀ k, k < bm → k < (w4).heap.size := fun k e => by omega
  refine xt_e rfl (e_box fun bb w5 nb lb kb => ?_)
  refine xt_v rfl v_assign ?_
  refine xt_nil ?_
  refine x_ret ?_
  refine fin1 rfl ?_
  have ho6 := own_ext ho5 (lkc : Lk w5 _ NoB)
  have hs6 := hs5.keep (kpc : Keep NoB _ w5) (fun _ _ h => h)
  have hm6 := hbm.keep (kpc : Keep NoB _ w5) (fun h => h)
  have hnb := nb.eq
  rcases ho6.2 with ⟨he, hn0⟩ | ⟨g, cap', cur, he, hbg, hg, hnc, hcm, hcs, htk⟩
  · omega
  · cases he
    have hgl := hl5 g rfl
    have hcl : cur.toList.length = c5 := by simp; omega
    have hnew : ∀ k, MachF bb g bm us k → w.heap.size ≤ k := by
      rintro k (rfl | rfl | rfl | hk)
      · omega
      · omega
      · omega
      · exact Nat.le_trans hgw5 (hf5 k hk).1
    refine ⟨⟨bb, g, bm, us, rfl, ⟨⟨cur.toList.drop M.parts.length, ?_, ?_⟩, hs6, hm6, by omega, by omega, by omega, fun e => ?_, fun e => (hf5 g e).2 rfl, fun e => ?_⟩, hnew⟩, lkc⟩
    · have e1 : M.parts.length + (cur.toList.drop M.parts.length).length = c5 := by rw [List.length_drop, hcl]; omega
      rw [e1]
      exact Blk.eq
    · have e1 : us ++ cur.toList.drop M.parts.length = cur.toList := by
        rw [← htk, Nat.mul_one]
        exact List.take_append_drop _ _
      rw [e1]
      simpa using hg
    · have := hls5 _ e; omega
    · have := hls5 _ e; omega
end Go.Proofs.Ytbihphclmdokeaa
