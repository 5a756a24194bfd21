/-
  Walks, printed by a program of this workplace (wip/tools/sx.py) off the functions' code and a text of contracts.
-/
import Derived.Test.YtabknhgbijcklaaA
import Derived.Laws.Externs
import Derived.MapKept
set_option linter.all false
set_option maxRecDepth 100000
set_option synthInstance.maxSize 100000
set_option synthInstance.maxHeartbeats 400000
namespace Go.Proofs.Ytabknhgbijcklaa
open Go.Wst
open Go.Wst.Dm
section
variable {P : Program} {r : Option Nat} {N : Nat} {S : Nat → Prop} {τ : Tau} {w : World} {ty : TypeId}
theorem v_makeInterfaceM {x : Operand} {t k e : TypeId} {v : Value} [hx : EvO N τ x v] [hu : Und P t (.map k e)] : Val P r N S (.makeInterface t x) ty τ w (.iface t v) := ⟨fun _ => nofun, fun W _ => by
  simp [execOp, hx.eq, Instr.makeInterface, run_underlying hu.eq, Sem.run, Result.andThen]⟩
theorem v_typeAssertM {x : Operand} {t xT k e : TypeId} {v : Value} [hx : EvO N τ x (.iface t v)] [hu : Und P t (.map k e)] : Val P r N S (.typeAssert x xT t false) ty τ w v := ⟨fun _ => nofun, fun W _ => by
  simp [execOp, hx.eq, Instr.typeAssert, run_underlying hu.eq, Sem.run, Result.andThen]⟩
end
section
variable {N : Nat} {τ : Tau} {w : World} {ty : TypeId}
theorem run_mapsClone {m : Nat} {es : Array MapEntry} {clock : Nat} (t : TypeId) (hb : w.heap[m]? = some (.map es clock)) :
    (Extern.MapsClone.clone #[.iface t (.map (some m))]).run Try.prog w = .ok (.iface t (.map (some w.heap.size))) (w.alloc (.map es clock)) := by
  have e : Extern.MapsClone.clone #[.iface t (.map (some m))] = (getObj m >>= fun o => match o with
      | .map entries clock => (newObj (.map entries clock) >>= fun n => pure (.iface t (.map (some n))))
      | _ => stuck "maps.clone: a map expected") := rfl
  rw [e]
  simp [MapKept.run_getObj_map hb, Result.andThen, go_sem]
theorem e_mapsClone {g x : Operand} {at_ : Array TypeId} {t : TypeId} {m : Nat} {κ : Type} [DecidableEq κ] {enc : κ → Value} {kvs : List (κ × Value)} {G : Value → World → Prop} [hx : EvO N τ x (.iface t (.map (some m)))] [hg : EvO N τ g (.func (.func 78) ([] : List Value).toArray ([] : List Value).toArray)] [hm : MapI w m κ enc kvs]
    (h : ∀ b w', New b w → Lk w' w NoB → MapI w' b κ enc kvs → G (.iface t (.map (some b))) w') : EffV Try.prog N NoB (.call { callee := .value g, args := #[x], argTypes := at_ }) ty τ w G := by
  obtain ⟨es, clock, h1, h2⟩ := hm.m
  refine ⟨fun _ => nofun, _, w.alloc (.map es clock), ?_, Keep.alloc _ _, h w.heap.size _ ⟨rfl⟩ ⟨Keep.alloc _ _⟩ ⟨⟨es, clock, heap_alloc_new w _, h2⟩⟩⟩
  have e0 : (callFunc 78 #[.iface t (.map (some m))]).run Try.prog w = .ok (.value (.iface t (.map (some w.heap.size)))) (w.alloc (.map es clock)) := by
    rw [run_callFunc_extern Try.func78 (by kernel_rfl) (by kernel_rfl) (by kernel_rfl) (e := Extern.MapsClone.clone) (by kernel_rfl), run_mapsClone t h1]
    rfl
  simp [execOp, resolve, invoke, hg.eq, hx.eq, Deferred.ofValue, e0]
end
/-- What a thing does, whenever it is done. -/
def Acts (g : Value) (E : Nat → Prop) (t : Thing) (W : World) : Prop :=
  (∀ k, E k → k < W.heap.size) ∧ ∀ (W' : World) (S : Nat → Prop), Keep S W W' → (∀ k, E k → ¬ S k) → ∀ (m : Nat) (G : Nat → Prop) (l : List (ByteArray × LB)) (n : Nat), FilesAt W' m G l → ¬ E m → (t.what = 1 → ∃ b, akey (fsP l) t.name = some b ∧ t.n.toNat ≤ b.length) → n ≤ t.bytes.length → t.bytes.length ≤ 16777216 → usedB (fsP l) ≤ 16777216 →
    CallV Try.prog g [.agg #[.map (some m)], .int .i64 (n : Int)] W' (fun v W'' => v = .tuple #[] ∧ ∃ (G' : Nat → Prop) (l' : List (ByteArray × LB)), FilesAt W'' m G' l' ∧ fsP l' = doneM (fsP l) (tornT t n) ∧ (∀ k, G' k → G k ∨ W'.heap.size ≤ k) ∧ Lk W'' W' (OneB m))
theorem Acts.keep {g : Value} {E S : Nat → Prop} {t : Thing} {W W' : World} (h : Acts g E t W) (hk : Keep S W W') (hs : ∀ k, E k → ¬ S k) : Acts g E t W' :=
  ⟨fun k e => Nat.lt_of_lt_of_le (h.1 k e) hk.size, fun W'' T hT hE => h.2 W'' (fun k => S k ∨ T k) ((hk.mono (fun _ _ e => .inl e)).then hT (fun _ _ e => .inr e)) (fun k e e' => e'.elim (hs k e) (hE k e))⟩
theorem Acts.mono {g : Value} {E E' : Nat → Prop} {t : Thing} {W : World} (h : Acts g E t W) (hE : ∀ k, E k → E' k) (hlt : ∀ k, E' k → k < W.heap.size) : Acts g E' t W :=
  ⟨hlt, fun W' S hk hs m G l n hF hm => h.2 W' S hk (fun k e => hs k (hE k e)) m G l n hF (fun e => hm (hE m e))⟩
structure LThing where
  t : Thing
  g : Value
  one : g.oneCell' = true
def putsI (t : Thing) : Int := if t.what = 0 then (t.bytes.length : Int) else 0
def numI (t : Thing) : Int := if t.what = 1 then t.n else 0
def strB (t : Thing) : ByteArray := if t.what = 0 then ⟨t.bytes.toArray⟩ else ⟨#[]⟩
abbrev thingC (x : LThing) : List Value := [x.g, .int .i64 (putsI x.t), .string x.t.name, .int .i64 x.t.what, .int .i64 (numI x.t), .int .i64 0, .string (strB x.t)]
instance encN_thing : EncN thingC 7 := ⟨fun _ => rfl⟩
structure LDisk where
  room : Int
  cur : List (ByteArray × LB)
  lasts : List (ByteArray × LB)
  waits : List LThing
  A : Option Addr
  c : Nat
/-- A disk where it lies. -/
structure DiskAt (W : World) (d mb ml : Nat) (G : Nat → Prop) (D : LDisk) : Prop where
  hb : W.heap[d]? = some (.cells [.map (some mb), .map (some ml), .slice D.A D.waits.length D.c, .int .i64 D.room].toArray 81 (0, 0))
  cur : FilesAt W mb G D.cur
  las : FilesAt W ml G D.lasts
  row : W.ownsRow 0 88 7 (.slice D.A D.waits.length D.c) D.waits.length (D.waits.flatMap thingC)
  acts : ∀ x ∈ D.waits, Acts x.g G x.t W
  d1 : d ≠ mb
  d2 : d ≠ ml
  d3 : mb ≠ ml
  gd : ¬ G d
  own : ∀ a, D.A = some a → a.block ≠ d ∧ a.block ≠ mb ∧ a.block ≠ ml ∧ ¬ G a.block
/-- What a disk writes. -/
def DiskB (d mb ml : Nat) (A : Option Addr) : Nat → Prop := fun k => k = d ∨ k = mb ∨ k = ml ∨ ∃ a, A = some a ∧ a.block = k
def DiskF (d mb ml : Nat) (A : Option Addr) (G : Nat → Prop) : Nat → Prop := fun k => DiskB d mb ml A k ∨ G k
theorem own_blk {w : World} {base : Nat} {e : TypeId} {sz n m c : Nat} {A : Option Addr} {xs : List Value} (h : w.ownsRow base e sz (.slice A m c) n xs) : ∀ a, A = some a → base ≤ a.block ∧ a.block < w.heap.size := fun a ha => by subst ha; exact h.lt _ rfl
theorem DiskAt.lt {W : World} {d mb ml : Nat} {G : Nat → Prop} {D : LDisk} (h : DiskAt W d mb ml G D) : ∀ k, DiskF d mb ml D.A G k → k < W.heap.size := by
  rintro k ((rfl | rfl | rfl | ⟨a, ha, rfl⟩) | e)
  · exact (Array.getElem?_eq_some_iff.1 h.hb).1
  · exact h.cur.map.lt
  · exact h.las.map.lt
  · exact (own_blk h.row a ha).2
  · exact h.cur.lt k e
theorem DiskAt.keep {W W' : World} {d mb ml : Nat} {G S : Nat → Prop} {D : LDisk} (h : DiskAt W d mb ml G D) (hk : Keep S W W') (hs : ∀ k, DiskF d mb ml D.A G k → ¬ S k) : DiskAt W' d mb ml G D := by
  have hG : ∀ k, G k → ¬ S k := fun k e => hs k (.inr e)
  refine ⟨(hk.block d (h.lt d (.inl (.inl rfl))) (hs d (.inl (.inl rfl)))).trans h.hb, h.cur.keep hk (hs mb (.inl (.inr (.inl rfl)))) hG, h.las.keep hk (hs ml (.inl (.inr (.inr (.inl rfl))))) hG, own_keep h.row hk (fun k e => ?_), fun x hx => (h.acts x hx).keep hk hG, h.d1, h.d2, h.d3, h.gd, h.own⟩
  have e' : ∃ a, D.A = some a ∧ a.block = k := by
    revert e
    cases D.A with
    | none => intro e; cases e
    | some a => intro e; exact ⟨a, rfl, by injection e⟩
  exact hs k (.inl (.inr (.inr (.inr e'))))
theorem DiskAt.ext {W W' : World} {d mb ml : Nat} {G : Nat → Prop} {D : LDisk} (h : DiskAt W d mb ml G D) (hk : Keep NoB W W') : DiskAt W' d mb ml G D := h.keep hk (fun _ _ h => h)
/-- It stands for a plain one. -/
structure Stands (D : LDisk) (M : Disk) : Prop where
  room : D.room = M.room
  waits : D.waits.map (·.t) = M.waits
  cur : Dm.Alike (fsP D.cur) M.files
  las : Dm.Alike (fsP D.lasts) M.lasts
  ok : M.ok
  few : M.lasts.length + M.waits.length ≤ 10000
  lens : ∀ t ∈ M.waits, t.bytes.length ≤ 16777216

/-- (*waystation/disk.Disk).none -/
theorem none_ok (d mb ml : Nat) (G : Nat → Prop) (D : LDisk) (M : Disk) (w : World) (h : DiskAt w d mb ml G D) (hs : Stands D M) : Ret Try.prog 46 #[.pointer (some ⟨d, 0, none⟩)] w (fun v w' => v = .bool false ∧ w = w') := by
  haveI hb : Blk w d _ := ⟨h.hb⟩
  have h1 := hs.ok.one
  have h2 := hs.room
  refine ret_of_x (N := 12) (l := [.pointer (some ⟨d, 0, none⟩)]) Try.func46 rfl rfl (Nat.le_of_ble_eq_true rfl) ?_
  refine x_seq ?_
  refine x_regionL ?_
  refine xl_v v_assign ?_
  refine xl_nil ?_
  refine x_seq ?_
  refine x_regionL ?_
  refine xl_v v_move ?_
  refine xl_v (by first | exact v_eql_pointerS | exact v_eql_pointerN) ?_
  refine xl_v v_move ?_
  refine xl_gv rfl EvO.eq v_move ?_
  refine xl_gv rfl EvO.eq (by first | exact v_nilCheckP | exact v_nilCheckF) ?_
  refine xl_gv rfl EvO.eq (by first | exact v_fieldAddr | exact v_fieldAddrF (by decide) (by omega) | exact v_fieldAddrR (by first | assumption | rfl)) ?_
  refine xl_gv rfl EvO.eq (by first | exact v_load | exact v_loadO (by omega) | exact v_loadFf (by omega) | exact v_loadF0 (by omega)) ?_
  refine xl_gv rfl EvO.eq (v_congr (u := .bool false) v_eql (by simp; omega)) ?_
  refine xl_v (by first | exact v_pickT | exact v_pickF | exact v_pick) ?_
  refine xl_v v_assign ?_
  refine xl_nil ?_
  refine x_ret ?_
  refine fin1 rfl ?_
  exact ⟨rfl, rfl⟩
def lenV : Value → Nat
  | .slice _ n _ => n
  | _ => 0
theorem sum_lens (l : List (ByteArray × LB)) : ((fsV l).map (fun p => lenV p.2)).sum = usedB (fsP l) := by
  rw [usedB]
  congr 1
  simp [fsV, fsP, lenV]

/-- (waystation/disk.files).used -/
theorem used_ok (m : Nat) (G : Nat → Prop) (l : List (ByteArray × LB)) (w : World) (h : FilesAt w m G l) (hu : usedB (fsP l) ≤ 1000000000) : Ret Try.prog 41 #[.agg #[.map (some m)]] w (fun v w' => v = .int .i64 (usedB (fsP l) : Int) ∧ Lk w' w NoB) := by
  haveI hmi : MapI w m _ _ _ := ⟨h.map⟩
  have hmlt := h.map.lt
  refine ret_of_x (N := 18) (l := [.agg #[.map (some m)]]) Try.func41 rfl rfl (Nat.le_of_ble_eq_true rfl) ?_
  refine x_seq ?_
  refine x_regionL ?_
  refine xl_e (e_box fun b1 w1 n1 l1 k1 => ?_)
  refine xl_v v_assign ?_
  refine xl_nil ?_
  refine x_seq ?_
  refine x_regionL ?_
  refine xl_v v_assign ?_
  refine xl_nil ?_
  refine x_seq ?_
  refine x_seq ?_
  refine x_regionL ?_
  refine xl_v (by first | exact v_fieldAddr | exact v_fieldAddrF (by decide) (by omega) | exact v_fieldAddrR (by first | assumption | rfl)) ?_
  refine xl_v (by first | exact v_load | exact v_loadO (by omega) | exact v_loadFf (by omega) | exact v_loadF0 (by omega)) ?_
  refine xl_e (e_range fun it w2 ni li hit hhas => ?_)
  refine xl_nil ?_
  refine x_block ?_
  refine x_loop (fun m' τ ds w' => ds = [] ∧ ∃ (ks rest : List (ByteArray × Value)) (s : Nat), m' = rest.length ∧ MapIt w' it m Value.string (fsV l) ks rest ∧ s = (ks.map (fun p => lenV p.2)).sum ∧ Ev τ 3 (.int .i64 (s : Int)) ∧ Ev τ 8 (.pointer (some ⟨it, 0, none⟩)) ∧ Lk w' w NoB) ((fsV l).length) ?start ?round
  case start =>
    exact ⟨rfl, [], fsV l, 0, rfl, hit, rfl, evc, inferInstance, lkc⟩
  case round =>
    intro m τ3 ds3 w3 hI
    obtain ⟨rfl, ks, rest, s, rfl, hmit, hsum, e3, e8, lk⟩ := hI
    have hitw : w.heap.size ≤ it := by rw [ni.eq]; exact Ge.le
    have hne : it ≠ m := fun e => by omega
    haveI sI : SubF (OneB it) NoB w := ⟨fun k hk e => by have e' : k = it := e; omega⟩
    refine x_seq ?_
    refine x_regionL ?_
    refine xl_e (e_next hmit hne fun bb qs w4 l1 hb0 hb1 => ?_)
    refine xl_v v_extract ?_
    refine xl_nil ?_
    refine x_seq ?_
    refine x_condE (fun c1 => ?_) (fun c1 => ?_)
    ·
      obtain ⟨⟨k, u'⟩, rest', hperm, hmi2⟩ := hb1 c1
      obtain ⟨u, rfl⟩ : ∃ u : LB, u' = lbV u := by
        have h1 : (k, u') ∈ fsV l := hmi2.perm.mem_iff.1 (by simp)
        obtain ⟨p, _, hp⟩ := List.mem_map.1 h1
        exact ⟨p.2, (congrArg Prod.snd hp).symm⟩
      have hle : s + u.bytes.length ≤ usedB (fsP l) := by
        have h1 : ((ks ++ [(k, lbV u)] ++ rest').map (fun p : ByteArray × Value => lenV p.2)).sum = usedB (fsP l) := (hmi2.perm.map (fun p : ByteArray × Value => lenV p.2)).sum_nat.trans (sum_lens l)
        simp only [List.map_append, List.sum_append, List.map_cons, List.map_nil, List.sum_cons, List.sum_nil, show lenV (lbV u) = u.bytes.length from rfl] at h1
        omega
      refine x_skip ?_
      refine x_block ?_
      refine x_seq ?_
      refine x_regionL ?_
      refine xl_v (v_entry hmi2 (fun h => h) (fun h => h)) ?_
      refine xl_v v_extract ?_
      refine xl_v v_assign ?_
      refine xl_nil ?_
      refine x_regionL ?_
      refine xl_v v_move ?_
      refine xl_v v_move ?_
      refine xl_v v_len ?_
      refine xl_v (v_add (by omega)) ?_
      refine xl_v v_assign ?_
      refine xl_nil ?_
      refine ⟨_, ?_, rfl, ks ++ [(k, lbV u)], rest', s + u.bytes.length, rfl, hmi2, ?_, evc, inferInstance, lkc⟩
      · rw [hperm.length_eq]; simp
      · simp [hsum, show lenV (lbV u) = u.bytes.length from rfl]
    ·
      refine x_exit ?_
      refine x_seq ?_
      refine x_regionL ?_
      refine xl_v v_move ?_
      refine xl_v v_assign ?_
      refine xl_nil ?_
      refine x_ret ?_
      refine fin1 rfl ?_
      obtain ⟨hr, hmi3⟩ := hb0 (by simpa using c1)
      subst hr
      refine ⟨?_, lkc⟩
      have h1 : ((ks ++ []).map (fun p : ByteArray × Value => lenV p.2)).sum = usedB (fsP l) := (hmi3.perm.map (fun p : ByteArray × Value => lenV p.2)).sum_nat.trans (sum_lens l)
      rw [hsum, ← h1, List.append_nil]

/-- slices.Clone[[]byte,byte] -/
theorem cloneb_ok (A : Option Addr) (n c : Nat) (cs : List Value) (w : World) [Row w A cs] (hl : cs.length = n * 1) (hn : n ≤ 100000000) (h1 : ∀ u ∈ cs, u.oneCell' = true) (hA : A.isSome = true ∨ n = 0) : Ret Try.prog 42 #[.slice A n c] w (fun v w' => (∃ A' c', v = .slice A' n c' ∧ w'.ownsRow w.heap.size 5 1 v n cs) ∧ Lk w' w NoB) := by
  refine ret_of_x (N := 8) (l := [.slice A n c]) Try.func42 rfl rfl (Nat.le_of_ble_eq_true rfl) ?_
  refine x_seq ?_
  refine x_regionL ?_
  refine xl_v v_assign ?_
  refine xl_nil ?_
  refine x_seq ?_
  refine x_seq ?_
  refine x_regionL ?_
  refine xl_v v_move ?_
  refine xl_v v_eql_slice ?_
  refine xl_nil ?_
  refine x_condE (fun c1 => ?_) (fun c1 => ?_)
  ·
    have hn0 : n = 0 := hA.resolve_left (by cases A <;> simp_all)
    refine x_seq ?_
    refine x_regionL ?_
    refine xl_v v_assign ?_
    refine xl_nil ?_
    refine x_ret ?_
    refine fin1 rfl ?_
    subst hn0
    obtain rfl : cs = [] := List.eq_nil_of_length_eq_zero (by simpa using hl)
    exact ⟨⟨none, 0, rfl, World.ownsRow_nil _ _ _ _⟩, lkc⟩
  ·
    refine x_skip ?_
    refine x_seq ?_
    refine x_regionL ?_
    refine xl_e (e_buildSlice0 fun b0 w1 n0 l0 k0 => ?_)
    refine xl_v v_move ?_
    have ho0 : World.ownsRow w1 w.heap.size 5 1 (.slice (some ⟨b0, 0, none⟩) 0 0) 0 [] := ownsRow_blk (by rw [n0.eq]; exact Nat.le_refl _) k0.eq (by simp) (by omega)
    haveI := ownN_of ho0 (Nat.le_refl _)
    refine xl_e (e_append' ho0 Ge.le hl h1 (by decide) hA (by omega) (by omega) fun A2 c2 w2 ho2 l2 _ => ?_)
    refine xl_v v_assign ?_
    refine xl_nil ?_
    refine x_ret ?_
    refine fin1 rfl ?_
    exact ⟨⟨A2, c2, by rw [Nat.zero_add], by simpa using ho2⟩, lkc⟩

/-- maps.Clone[map[string][]byte,string,[]byte] -/
theorem mclone_ok (m : Nat) (kvs : List (ByteArray × Value)) (w : World) [hm : MapI w m ByteArray Value.string kvs] : Ret Try.prog 70 #[.map (some m)] w (fun v w' => ∃ b, v = .map (some b) ∧ MapB w' b Value.string kvs ∧ w.heap.size ≤ b ∧ Lk w' w NoB) := by
  refine ret_of_x (N := 9) (l := [.map (some m)]) Try.func70 rfl rfl (Nat.le_of_ble_eq_true rfl) ?_
  refine x_seq ?_
  refine x_regionL ?_
  refine xl_v v_assign ?_
  refine xl_nil ?_
  refine x_seq ?_
  refine x_seq ?_
  refine x_regionL ?_
  refine xl_v v_move ?_
  refine xl_v (v_eql_mapS) ?_
  refine xl_nil ?_
  refine x_condF ?_
  refine x_skip ?_
  refine x_seq ?_
  refine x_regionL ?_
  refine xl_v v_move ?_
  refine xl_v (v_makeInterfaceM) ?_
  refine xl_e (e_mapsClone fun b w1 n1 l1 m1 => ?_)
  refine xl_v (v_typeAssertM) ?_
  refine xl_v v_assign ?_
  refine xl_nil ?_
  refine x_ret ?_
  refine fin1 rfl ?_
  exact ⟨b, rfl, m1.m, Nat.le_of_eq n1.eq.symm, lkc⟩

/-- (waystation/disk.files).copied -/
theorem copied_ok (m : Nat) (G : Nat → Prop) (l : List (ByteArray × LB)) (w : World) (h : FilesAt w m G l) : Ret Try.prog 51 #[.agg #[.map (some m)]] w (fun v w' => (∃ b, v = .agg #[.map (some b)] ∧ FilesAt w' b G l ∧ w.heap.size ≤ b) ∧ Lk w' w NoB) := by
  haveI hmi : MapI w m _ _ _ := ⟨h.map⟩
  refine ret_of_x (N := 7) (l := [.agg #[.map (some m)]]) Try.func51 rfl rfl (Nat.le_of_ble_eq_true rfl) ?_
  refine x_seq ?_
  refine x_regionL ?_
  refine xl_e (e_box fun b1 w1 n1 l1 k1 => ?_)
  refine xl_e (e_alloc fun b2 w2 n2 l2 k2 => ?_)
  refine xl_nil ?_
  refine x_seq ?_
  refine x_regionL ?_
  refine xl_v (by first | exact v_fieldAddr | exact v_fieldAddrF (by decide) (by omega) | exact v_fieldAddrR (by first | assumption | rfl)) ?_
  refine xl_v (by first | exact v_load | exact v_loadO (by omega) | exact v_loadFf (by omega) | exact v_loadF0 (by omega)) ?_
  refine xl_call (mclone_ok m (fsV l) w2) ?_
  rintro _ w3 ⟨b, rfl, hb, hgb, lk1⟩
  have hF := h.ext (kpc : Keep NoB w w3)
  have hgw := (Ge.le : w.heap.size ≤ (w2).heap.size)
  have hblt := hb.lt
  have hb2l : b2 < (w2).heap.size := Has.lt
  have hb2g : w.heap.size ≤ b2 := by rw [n2.eq]; exact Ge.le
  refine xl_v v_build ?_
  refine xl_s (e_storeA fun w4 l4 k4 => ?_)
  refine xl_nil ?_
  refine x_ret ?_
  refine finR (rs := [.cell 2 78]) rfl ?_
  exact ⟨⟨b, by simp [outV], ⟨hb.keep (kpc : Keep (OneB b2) _ w4) (fun e => by have e' : b = b2 := e; omega), fun p hp => (hF.rows p hp).keep (kpc : Keep (OneB b2) _ w4) (fun k e e2 => by have := h.lt k e; have e' : k = b2 := e2; omega), h.caps, fun k e => Nat.lt_of_lt_of_le (h.lt k e) Ge.le, fun e => by have := h.lt b e; omega⟩, by omega⟩, lkc⟩

/-- waystation/disk.pick -/
theorem pick_ok (k : Int) (n : Nat) (w : World) (hk : In64 k) (hn : n ≤ 100000000) : Ret Try.prog 72 #[.int .i64 k, .int .i64 n] w (fun v w' => v = .int .i64 (pickN k n : Int) ∧ w = w') := by
  have h1 : -((n : Int) + 1) < k.tmod (n + 1) := Int.lt_tmod_of_pos k (by omega)
  have h2 : k.tmod (n + 1) < (n : Int) + 1 := Int.tmod_lt_of_pos k (by omega)
  refine ret_of_x (N := 16) (l := [.int .i64 k, .int .i64 n]) Try.func72 rfl rfl (Nat.le_of_ble_eq_true rfl) ?_
  refine x_seq ?_
  refine x_regionL ?_
  refine xl_v v_assign ?_
  refine xl_nil ?_
  refine x_seq ?_
  refine x_regionL ?_
  refine xl_v v_move ?_
  refine xl_v v_move ?_
  refine xl_v (v_add (by omega)) ?_
  refine xl_v (v_rem (by omega)) ?_
  refine xl_v v_assign ?_
  refine xl_nil ?_
  refine x_seq ?_
  refine x_seq ?_
  refine x_regionL ?_
  refine xl_v v_move ?_
  refine xl_v v_lss ?_
  refine xl_nil ?_
  first | refine x_condP (fun c1 => ?_) (fun c1 => ?_) | refine x_condN (fun c1 => ?_) (fun c1 => ?_) | refine x_condE (fun c1 => ?_) (fun c1 => ?_)
  ·
    refine x_regionL ?_
    refine xl_v v_move ?_
    refine xl_v v_move ?_
    refine xl_v (v_add (by omega)) ?_
    refine xl_v (v_add (by omega)) ?_
    refine xl_v v_assign ?_
    refine xl_nil ?_
    refine x_seq ?_
    refine x_regionL ?_
    refine xl_v v_move ?_
    refine xl_v v_assign ?_
    refine xl_nil ?_
    refine x_ret ?_
    refine fin1 rfl ?_
    refine ⟨congrArg (Value.int .i64) ?_, rfl⟩
    unfold pickN
    first
      | (rw [if_pos c1]; omega)
      | (rw [if_neg c1]; omega)
  ·
    refine x_skip ?_
    refine x_seq ?_
    refine x_regionL ?_
    refine xl_v v_move ?_
    refine xl_v v_assign ?_
    refine xl_nil ?_
    refine x_ret ?_
    refine fin1 rfl ?_
    refine ⟨congrArg (Value.int .i64) ?_, rfl⟩
    unfold pickN
    first
      | (rw [if_pos c1]; omega)
      | (rw [if_neg c1]; omega)

/-- (*waystation/disk.Disk).stands -/
theorem stands_ok (d mb ml : Nat) (G : Nat → Prop) (D : LDisk) (w : World) (h : DiskAt w d mb ml G D) : Ret Try.prog 48 #[.pointer (some ⟨d, 0, none⟩)] w (fun v w' => v = .agg #[.map (some mb)] ∧ Lk w' w NoB) := by
  haveI hb : Blk w d _ := ⟨h.hb⟩
  refine ret_of_x (N := 7) (l := [.pointer (some ⟨d, 0, none⟩)]) Try.func48 rfl rfl (Nat.le_of_ble_eq_true rfl) ?_
  refine x_seq ?_
  refine x_regionL ?_
  refine xl_e (e_alloc fun b1 w1 n1 l1 k1 => ?_)
  refine xl_nil ?_
  refine x_seq ?_
  refine x_regionL ?_
  refine xl_v v_move ?_
  refine xl_v (by first | exact v_nilCheckP | exact v_nilCheckF) ?_
  refine xl_v (by first | exact v_fieldAddr | exact v_fieldAddrF (by decide) (by omega) | exact v_fieldAddrR (by first | assumption | rfl)) ?_
  refine xl_v (by first | exact v_loadA | exact v_loadF (by decide) (by omega)) ?_
  refine xl_s (e_storeA fun w2 l2 k2 => ?_)
  refine xl_nil ?_
  refine x_ret ?_
  refine finR (rs := [.cell 2 78]) rfl ?_
  exact ⟨by simp [outV], lkc⟩

/-- (*waystation/disk.Disk).lasting -/
theorem lasting_ok (d mb ml : Nat) (G : Nat → Prop) (D : LDisk) (w : World) (h : DiskAt w d mb ml G D) : Ret Try.prog 54 #[.pointer (some ⟨d, 0, none⟩)] w (fun v w' => v = .agg #[.map (some ml)] ∧ Lk w' w NoB) := by
  haveI hb : Blk w d _ := ⟨h.hb⟩
  refine ret_of_x (N := 7) (l := [.pointer (some ⟨d, 0, none⟩)]) Try.func54 rfl rfl (Nat.le_of_ble_eq_true rfl) ?_
  refine x_seq ?_
  refine x_regionL ?_
  refine xl_e (e_alloc fun b1 w1 n1 l1 k1 => ?_)
  refine xl_nil ?_
  refine x_seq ?_
  refine x_regionL ?_
  refine xl_v v_move ?_
  refine xl_v (by first | exact v_nilCheckP | exact v_nilCheckF) ?_
  refine xl_v (by first | exact v_fieldAddr | exact v_fieldAddrF (by decide) (by omega) | exact v_fieldAddrR (by first | assumption | rfl)) ?_
  refine xl_v (by first | exact v_loadA | exact v_loadF (by decide) (by omega)) ?_
  refine xl_s (e_storeA fun w2 l2 k2 => ?_)
  refine xl_nil ?_
  refine x_ret ?_
  refine finR (rs := [.cell 2 78]) rfl ?_
  exact ⟨by simp [outV], lkc⟩

/-- waystation/disk.New -/
theorem new_ok (room : Int) (w : World) : Ret Try.prog 13 #[.int .i64 room] w (fun v w' => (if 1 ≤ room ∧ room ≤ 16777216 then ∃ d mb ml, v = .tuple #[.pointer (some ⟨d, 0, none⟩), .int .i64 0] ∧ DiskAt w' d mb ml NoB ⟨room, [], [], [], none, 0⟩ ∧ w.heap.size ≤ d ∧ w.heap.size ≤ mb ∧ w.heap.size ≤ ml else v = .tuple #[.pointer none, .int .i64 2]) ∧ Lk w' w NoB) := by
  refine ret_of_x (N := 17) (l := [.int .i64 room]) Try.func13 rfl rfl (Nat.le_of_ble_eq_true rfl) ?_
  refine x_seq ?_
  refine x_regionL ?_
  refine xl_v v_assign ?_
  refine xl_v v_assign ?_
  refine xl_nil ?_
  refine x_seq ?_
  refine x_seq ?_
  refine x_regionL ?_
  refine xl_v v_move ?_
  refine xl_v v_lss ?_
  refine xl_v v_move ?_
  refine xl_split 6 (fun g6 => ?_) (fun g6 => ?_)
  ·
    refine xl_gs rfl EvO.eq ?_
    refine xl_gs rfl EvO.eq ?_
    refine xl_v (by first | exact v_pickT | exact v_pickF | exact v_pick) ?_
    refine xl_nil ?_
    refine x_condT ?_
    refine x_seq ?_
    refine x_regionL ?_
    refine xl_v v_assign ?_
    refine xl_v v_assign ?_
    refine xl_nil ?_
    refine x_ret ?_
    refine fin2 rfl ?_
    rw [if_neg (by first | (simp at c1 g6; omega) | (simp at g6; omega))]
    exact ⟨rfl, lkc⟩
  ·
    refine xl_gv rfl EvO.eq v_move ?_
    refine xl_gv rfl EvO.eq v_gtr ?_
    refine xl_v (by first | exact v_pickT | exact v_pickF | exact v_pick) ?_
    refine xl_nil ?_
    first | refine x_condP (fun c1 => ?_) (fun c1 => ?_) | refine x_condN (fun c1 => ?_) (fun c1 => ?_) | refine x_condE (fun c1 => ?_) (fun c1 => ?_)
    ·
      refine x_seq ?_
      refine x_regionL ?_
      refine xl_v v_assign ?_
      refine xl_v v_assign ?_
      refine xl_nil ?_
      refine x_ret ?_
      refine fin2 rfl ?_
      rw [if_neg (by first | (simp at c1 g6; omega) | (simp at g6; omega))]
      exact ⟨rfl, lkc⟩
    ·
      refine x_skip ?_
      refine x_seq ?_
      refine x_regionL ?_
      refine xl_e (e_makeMap fun mb w1 n1 l1 k1 => ?_)
      refine xl_v v_build ?_
      refine xl_e (e_makeMap fun ml w2 n2 l2 k2 => ?_)
      refine xl_v v_build ?_
      refine xl_v v_move ?_
      refine xl_v v_build ?_
      refine xl_e (e_box fun d w3 n3 l3 k3 => ?_)
      refine xl_v v_assign ?_
      refine xl_v v_assign ?_
      refine xl_nil ?_
      refine x_ret ?_
      refine fin2 rfl ?_
      rw [if_pos (by first | (simp at c1 g6; omega) | (simp at g6; omega))]
      have h1 := n1.eq
      have h2 := n2.eq
      have h3 := n3.eq
      have h4 : mb < ml := by rw [h2]; exact Has.lt
      have h5 : ml < d := by rw [h3]; exact Has.lt
      refine ⟨⟨d, mb, ml, rfl, ⟨Blk.eq, ⟨mapB_made Value.string inferInstance, nofun, nofun, fun _ h => h.elim, fun h => h⟩, ⟨mapB_made Value.string inferInstance, nofun, nofun, fun _ h => h.elim, fun h => h⟩, World.ownsRow_nil _ _ _ _, nofun, by omega, by omega, by omega, fun h => h, nofun⟩, ?_, ?_, ?_⟩, lkc⟩
      · rw [h3]; exact Ge.le
      · rw [h1]; exact Nat.le_refl _
      · rw [h2]; exact Ge.le
end Go.Proofs.Ytabknhgbijcklaa
