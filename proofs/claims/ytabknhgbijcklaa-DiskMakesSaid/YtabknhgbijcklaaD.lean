/-
  Walks, printed by a program of this workplace (wip/tools/sx.py) off the functions' code and a text of contracts.
-/
import Derived.Test.YtabknhgbijcklaaC
set_option linter.all false
set_option maxRecDepth 100000
set_option synthInstance.maxSize 100000
set_option synthInstance.maxHeartbeats 400000
namespace Go.Proofs.Ytabknhgbijcklaa
open Go.Wst
open Go.Wst.Dm
theorem row_mapcell {W : World} {m k : Nat} {enc : ByteArray → Value} {kvs : List (ByteArray × Value)} {cs : Array Value} {e : TypeId} {fr : Nat × Nat} (h : MapB W m enc kvs) (hk : W.heap[k]? = some (.cells cs e fr)) : k ≠ m := by
  rintro rfl
  obtain ⟨es, clock, h1, _⟩ := h
  rw [h1] at hk
  cases hk
theorem frow_ne {W : World} {m : Nat} {A : Option Addr} {cs : List Value} {enc : ByteArray → Value} {kvs : List (ByteArray × Value)} (h : MapB W m enc kvs) (hr : RowP W A cs) : cs = [] ∨ ∀ a, A = some a → a.block ≠ m := by
  cases cs with
  | nil => exact .inl rfl
  | cons v cs =>
    refine .inr fun a ha e => ?_
    obtain ⟨a', h1, h2⟩ := hr 0 v rfl
    rw [ha] at h1
    cases h1
    obtain ⟨es, clock, h3, _⟩ := h
    have hb : (a.add 0).block = a.block := block_add a 0
    rw [← e] at h3
    simp [World.cell?, hb, h3] at h2
theorem rowP_take {W : World} {A : Option Addr} {cs ds : List Value} (h : RowP W A (cs ++ ds)) : RowP W A cs := fun j v hv => h j v (by rw [List.getElem?_append_left (List.getElem?_eq_some_iff.1 hv).1]; exact hv)
theorem rowP_bytes {W : World} {A : Option Addr} {xs : List UInt8} (n : Nat) (h : RowP W A (bytesC xs)) : RowP W A (bytesC (xs.take n)) := by
  have : bytesC xs = bytesC (xs.take n) ++ bytesC (xs.drop n) := by rw [bytesC_append, List.take_append_drop]
  rw [this] at h
  exact rowP_take h
theorem own_cap {w : World} {base n c sz : Nat} {e : TypeId} {A : Option Addr} {xs : List Value} (h : w.ownsRow base e sz (.slice A n c) n xs) : n ≤ c := by
  rcases h.2 with ⟨h1, h2⟩ | ⟨g, cap, cur, h1, _, _, h4, _⟩
  · omega
  · cases h1; exact h4

/-- (*waystation/disk.Disk).Put$1 -/
theorem put1_ok (m : Nat) (G : Nat → Prop) (l : List (ByteArray × LB)) (n cn cb : Nat) (name : ByteArray) (x : LB) (w : World) (hF : FilesAt w m G l) [kn : Blk w cn (.cells #[.string name] 9 (0, 0))] [kb : Blk w cb (.cells #[.slice x.A x.bytes.length x.c] 29 (0, 0))] (hx : RowP w x.A (bytesC x.bytes)) (hxc : x.bytes.length ≤ x.c) (hn : n ≤ x.bytes.length) (hxl : x.bytes.length ≤ 16777216) (hu : usedB (fsP l) ≤ 16777216) : Ret Try.prog 44 #[.agg #[.map (some m)], .int .i64 n, .pointer (some ⟨cn, 0, none⟩), .pointer (some ⟨cb, 0, none⟩)] w (fun v w' => v = .tuple #[] ∧ (∃ (G' : Nat → Prop) (l' : List (ByteArray × LB)), FilesAt w' m G' l' ∧ fsP l' = aput (fsP l) name (((akey (fsP l) name).getD []) ++ x.bytes.take n) ∧ (∀ k, G' k → G k ∨ w.heap.size ≤ k)) ∧ Lk w' w (OneB m)) := by
  haveI hmi : MapI w m _ _ _ := ⟨hF.map⟩
  have hmlt := hF.map.lt
  haveI : NeB cn m := ⟨row_mapcell hF.map kn.eq⟩
  haveI : NeB cb m := ⟨row_mapcell hF.map kb.eq⟩
  have hat := atB_row hF name
  have hus := used_at hF.nodup name
  refine ret_of_x (N := 18) (l := [.agg #[.map (some m)], .int .i64 n, .pointer (some ⟨cn, 0, none⟩), .pointer (some ⟨cb, 0, none⟩)]) Try.func44 rfl rfl (Nat.le_of_ble_eq_true rfl) ?_
  refine x_seq ?_
  refine x_regionL ?_
  refine xl_e (e_box fun b1 w1 n1 l1 k1 => ?_)
  refine xl_nil ?_
  refine x_drawL (OneB m) (.take 0 (.take 1 (.take 2 (.take 3 (.take 4 (.take 5 (.take 7 (.take 8 (.take 9 (.eff 6 (.eff 10 (.eff 11 (.last 12))))))))))))) mixed (by kernel_rfl) (fun _ _ _ _ _ h => h) (fun w2 l2 => ?_)
  refine xt_v rfl (by first | exact v_fieldAddr | exact v_fieldAddrF (by decide) (by omega) | exact v_fieldAddrR (by first | assumption | rfl)) ?_
  refine xt_v rfl (by first | exact v_load | exact v_loadO (by omega) | exact v_loadFf (by omega) | exact v_loadF0 (by omega)) ?_
  refine xt_v rfl (by first | exact v_load | exact v_loadO (by omega) | exact v_loadFf (by omega) | exact v_loadF0 (by omega)) ?_
  refine xt_v rfl (by first | exact v_fieldAddr | exact v_fieldAddrF (by decide) (by omega) | exact v_fieldAddrR (by first | assumption | rfl)) ?_
  refine xt_v rfl (by first | exact v_load | exact v_loadO (by omega) | exact v_loadFf (by omega) | exact v_loadF0 (by omega)) ?_
  refine xt_v rfl (by first | exact v_load | exact v_loadO (by omega) | exact v_loadFf (by omega) | exact v_loadF0 (by omega)) ?_
  refine xt_v rfl (by first | exact v_load | exact v_loadO (by omega) | exact v_loadFf (by omega) | exact v_loadF0 (by omega)) ?_
  refine xt_v rfl v_move ?_
  refine xt_v rfl (v_sliceH n rfl (by omega)) ?_
  refine xt_e rfl (e_v (v_lookup1v (r := none) name (lbV (atB l name)) rfl (fsV_at l name)) ?_)
  refine xt_e rfl (e_buildSliceN rfl fun bs w3 ns ls ks => ?_)
  haveI : Row w3 (some ⟨bs, 0, none⟩) ([atB l name, ⟨x.bytes.take n, x.A, x.c⟩].flatMap lbC) := ⟨by
    have h1 := row_blk ks.eq
    have h2 : (x.bytes.take n).length = n := by simp; omega
    have h3 : lbV ⟨x.bytes.take n, x.A, x.c⟩ = .slice x.A n x.c := by
      show Value.slice x.A (x.bytes.take n).length x.c = _
      rw [h2]
    have e : [atB l name, ⟨x.bytes.take n, x.A, x.c⟩].flatMap lbC = [lbV (atB l name), .slice x.A n x.c] := by rw [← h3]; rfl
    rw [e]
    exact h1⟩
  have hrow1 : RowP w3 (atB l name).A (bytesC (atB l name).bytes) := (hat.1.keep (kpc : Keep NoB w w3) (fun _ _ h => h)).row
  have hrow2 : RowP w3 x.A (bytesC (x.bytes.take n)) := rowP_bytes n (hx.keep (kpc : Keep NoB w w3) (fun _ _ h => h))
  have hgw := (Ge.le : w.heap.size ≤ (w3).heap.size)
  refine xt_call rfl (concat_ok (some ⟨bs, 0, none⟩) 2 2 [atB l name, ⟨x.bytes.take n, x.A, x.c⟩] w3 (hra := rowB_of Row.row) (fun j h => by
      match j, h with
      | 0, _ => exact rowB_of hrow1
      | 1, _ => exact rowB_of hrow2) rfl (by omega) (by simp [lensB]; omega)) ?_
  rintro _ w4 ⟨⟨A2, c2, rfl, ho2⟩, lk2⟩
  refine ⟨kpc, ?_⟩
  have hFm := hF.ext (kpc : Keep NoB w w4)
  have hfl : ([atB l name, ⟨x.bytes.take n, x.A, x.c⟩] : List LB).flatMap (·.bytes) = (atB l name).bytes ++ x.bytes.take n := by simp
  have hl2 : lensB [atB l name, ⟨x.bytes.take n, x.A, x.c⟩] = ((atB l name).bytes ++ x.bytes.take n).length := by simp [lensB]
  refine xt_lastS rfl (e_mapUpdate name rfl fun w5 l12 m12 => ?_)
  refine fin0 rfl ?_
  have hcap := own_cap ho2
  rw [hl2] at ho2 hcap m12
  rw [hfl] at ho2
  refine ⟨rfl, ⟨fun k => G k ∨ (∃ a, A2 = some a ∧ a.block = k), aput l name ⟨(atB l name).bytes ++ x.bytes.take n, A2, c2⟩, ⟨?_, ?_, ?_, ?_, ?_⟩, ?_, ?_⟩, lkc⟩
  · have e : fsV (aput l name ⟨(atB l name).bytes ++ x.bytes.take n, A2, c2⟩) = aput (fsV l) name (.slice A2 ((atB l name).bytes ++ x.bytes.take n).length c2) := map_aput lbV l name _
    rw [e]
    exact m12.m
  · intro p hp
    rcases mem_aput hp with rfl | hp
    · refine ⟨(FRow.of_own ho2).row.keep (kpc : Keep (OneB m) _ w5) ?_, fun a ha => .inr ⟨a, ha, rfl⟩⟩
      intro a ha e
      have h1 := (own_blk ho2 a ha).1
      have e' : a.block = m := e
      omega
    · exact ((hF.rows p hp).keep (kpc : Keep (OneB m) w w5) (fun k e e2 => hF.out (by have e' : k = m := e2; exact e' ▸ e))).mono (fun k e => .inl e)
  · intro p hp
    rcases mem_aput hp with rfl | hp
    · exact hcap
    · exact hF.caps p hp
  · rintro k (e | ⟨a, ha, rfl⟩)
    · exact Nat.lt_of_lt_of_le (hF.lt k e) Ge.le
    · exact Nat.lt_of_lt_of_le (own_blk ho2 a ha).2 Ge.le
  · rintro (e | ⟨a, ha, e⟩)
    · exact hF.out e
    · have h1 := (own_blk ho2 a ha).1
      omega
  · have e : fsP (aput l name ⟨(atB l name).bytes ++ x.bytes.take n, A2, c2⟩) = aput (fsP l) name ((atB l name).bytes ++ x.bytes.take n) := map_aput (fun y : LB => y.bytes) l name _
    rw [e, fsP_at]
  · rintro k (e | ⟨a, ha, rfl⟩)
    · exact .inl e
    · exact .inr (Nat.le_trans hgw (own_blk ho2 a ha).1)

/-- (*waystation/disk.Disk).Cut$1 -/
theorem cut1_ok (m : Nat) (G : Nat → Prop) (l : List (ByteArray × LB)) (n k cn cb : Nat) (name : ByteArray) (w : World) (hF : FilesAt w m G l) [kn : Blk w cn (.cells #[.string name] 9 (0, 0))] [kb : Blk w cb (.cells #[.int .i64 (k : Int)] 3 (0, 0))] (hk : ∃ b, akey (fsP l) name = some b ∧ k ≤ b.length) : Ret Try.prog 49 #[.agg #[.map (some m)], .int .i64 n, .pointer (some ⟨cn, 0, none⟩), .pointer (some ⟨cb, 0, none⟩)] w (fun v w' => v = .tuple #[] ∧ (∃ (l' : List (ByteArray × LB)), FilesAt w' m G l' ∧ fsP l' = aput (fsP l) name (((akey (fsP l) name).getD []).take k)) ∧ Lk w' w (OneB m)) := by
  haveI hmi : MapI w m _ _ _ := ⟨hF.map⟩
  have hmlt := hF.map.lt
  haveI : NeB cn m := ⟨row_mapcell hF.map kn.eq⟩
  haveI : NeB cb m := ⟨row_mapcell hF.map kb.eq⟩
  have hat := atB_row hF name
  have hkl : k ≤ (atB l name).bytes.length := by
    obtain ⟨b, h1, h2⟩ := hk
    have := fsP_at l name
    rw [h1] at this
    rw [← this]
    exact h2
  refine ret_of_x (N := 16) (l := [.agg #[.map (some m)], .int .i64 n, .pointer (some ⟨cn, 0, none⟩), .pointer (some ⟨cb, 0, none⟩)]) Try.func49 rfl rfl (Nat.le_of_ble_eq_true rfl) ?_
  refine x_seq ?_
  refine x_regionL ?_
  refine xl_e (e_box fun b1 w1 n1 l1 k1 => ?_)
  refine xl_nil ?_
  refine x_drawL (OneB m) (.take 0 (.take 1 (.take 2 (.take 3 (.take 4 (.take 5 (.take 7 (.take 8 (.eff 6 (.take 9 (.last 10))))))))))) mixed (by kernel_rfl) (fun _ _ _ _ _ h => h) (fun w2 l2 => ?_)
  refine xt_v rfl (by first | exact v_fieldAddr | exact v_fieldAddrF (by decide) (by omega) | exact v_fieldAddrR (by first | assumption | rfl)) ?_
  refine xt_v rfl (by first | exact v_load | exact v_loadO (by omega) | exact v_loadFf (by omega) | exact v_loadF0 (by omega)) ?_
  refine xt_v rfl (by first | exact v_load | exact v_loadO (by omega) | exact v_loadFf (by omega) | exact v_loadF0 (by omega)) ?_
  refine xt_v rfl (by first | exact v_fieldAddr | exact v_fieldAddrF (by decide) (by omega) | exact v_fieldAddrR (by first | assumption | rfl)) ?_
  refine xt_v rfl (by first | exact v_load | exact v_loadO (by omega) | exact v_loadFf (by omega) | exact v_loadF0 (by omega)) ?_
  refine xt_v rfl (by first | exact v_load | exact v_loadO (by omega) | exact v_loadFf (by omega) | exact v_loadF0 (by omega)) ?_
  refine xt_v rfl (by first | exact v_load | exact v_loadO (by omega) | exact v_loadFf (by omega) | exact v_loadF0 (by omega)) ?_
  refine xt_v rfl (by first | exact v_load | exact v_loadO (by omega) | exact v_loadFf (by omega) | exact v_loadF0 (by omega)) ?_
  refine xt_e rfl (e_v (v_lookup1v (r := none) name (lbV (atB l name)) rfl (fsV_at l name)) ?_)
  refine xt_v rfl (v_slice3 k k rfl rfl (Nat.le_refl _) (by omega)) ?_
  refine xt_lastS rfl (e_mapUpdate name rfl fun w3 l12 m12 => ?_)
  refine fin0 rfl ?_
  have htl : ((atB l name).bytes.take k).length = k := by simp; omega
  have hFm := hF.ext (kpc : Keep NoB w w)
  refine ⟨rfl, ⟨aput l name ⟨(atB l name).bytes.take k, (atB l name).A, k⟩, ⟨?_, ?_, ?_, ?_, hF.out⟩, ?_⟩, lkc⟩
  · have e : fsV (aput l name ⟨(atB l name).bytes.take k, (atB l name).A, k⟩) = aput (fsV l) name (.slice (atB l name).A k k) := by
      have := map_aput lbV l name ⟨(atB l name).bytes.take k, (atB l name).A, k⟩
      rw [show lbV ⟨(atB l name).bytes.take k, (atB l name).A, k⟩ = .slice (atB l name).A k k by show Value.slice _ ((atB l name).bytes.take k).length _ = _; rw [htl]] at this
      exact this
    rw [e]
    exact m12.m
  · intro p hp
    have hkeep : ∀ (A : Option Addr) (cs : List Value), FRow w G A cs → FRow w3 G A cs := fun A cs h => h.keep (kpc : Keep (OneB m) w w3) (fun j e e2 => hF.out (by have e' : j = m := e2; exact e' ▸ e))
    rcases mem_aput hp with rfl | hp
    · exact hkeep _ _ ⟨rowP_bytes k hat.1.row, hat.1.blk⟩
    · exact hkeep _ _ (hF.rows p hp)
  · intro p hp
    rcases mem_aput hp with rfl | hp
    · show ((atB l name).bytes.take k).length ≤ k
      omega
    · exact hF.caps p hp
  · exact fun j e => Nat.lt_of_lt_of_le (hF.lt j e) Ge.le
  · have e : fsP (aput l name ⟨(atB l name).bytes.take k, (atB l name).A, k⟩) = aput (fsP l) name ((atB l name).bytes.take k) := map_aput (fun y : LB => y.bytes) l name _
    rw [e, fsP_at]

/-- (*waystation/disk.Disk).Remove$1 -/
theorem remove1_ok (m : Nat) (G : Nat → Prop) (l : List (ByteArray × LB)) (n cn : Nat) (name : ByteArray) (w : World) (hF : FilesAt w m G l) [kn : Blk w cn (.cells #[.string name] 9 (0, 0))] : Ret Try.prog 50 #[.agg #[.map (some m)], .int .i64 n, .pointer (some ⟨cn, 0, none⟩)] w (fun v w' => v = .tuple #[] ∧ (∃ (l' : List (ByteArray × LB)), FilesAt w' m G l' ∧ fsP l' = adel (fsP l) name) ∧ Lk w' w (OneB m)) := by
  haveI hmi : MapI w m _ _ _ := ⟨hF.map⟩
  have hmlt := hF.map.lt
  refine ret_of_x (N := 8) (l := [.agg #[.map (some m)], .int .i64 n, .pointer (some ⟨cn, 0, none⟩)]) Try.func50 rfl rfl (Nat.le_of_ble_eq_true rfl) ?_
  refine x_seq ?_
  refine x_regionL ?_
  refine xl_e (e_box fun b1 w1 n1 l1 k1 => ?_)
  refine xl_nil ?_
  refine x_regionL ?_
  refine xl_v (by first | exact v_fieldAddr | exact v_fieldAddrF (by decide) (by omega) | exact v_fieldAddrR (by first | assumption | rfl)) ?_
  refine xl_v (by first | exact v_load | exact v_loadO (by omega) | exact v_loadFf (by omega) | exact v_loadF0 (by omega)) ?_
  refine xl_v (by first | exact v_load | exact v_loadO (by omega) | exact v_loadFf (by omega) | exact v_loadF0 (by omega)) ?_
  refine xl_e0 (e_delete name rfl fun w2 l12 m12 => ?_)
  refine xl_nil ?_
  refine fin0 rfl ?_
  refine ⟨rfl, ⟨adel l name, ⟨?_, ?_, ?_, ?_, hF.out⟩, ?_⟩, lkc⟩
  · have e : fsV (adel l name) = adel (fsV l) name := map_adel lbV l name
    rw [e]
    exact m12.m
  · exact fun p hp => (hF.rows p (mem_adel hp)).keep (kpc : Keep (OneB m) w w2) (fun j e e2 => hF.out (by have e' : j = m := e2; exact e' ▸ e))
  · exact fun p hp => hF.caps p (mem_adel hp)
  · exact fun j e => Nat.lt_of_lt_of_le (hF.lt j e) Ge.le
  · exact map_adel (fun y : LB => y.bytes) l name
theorem thing_put {name : ByteArray} {bytes : List UInt8} {n : Nat} {l : Fs} {k : Int} : doneM l (tornT ⟨0, name, bytes, k⟩ n) = aput l name ((akey l name).getD [] ++ bytes.take n) := rfl
/-- What Put does whenever it is done. -/
theorem acts_put (cn cb : Nat) (name : ByteArray) (x : LB) (k : Int) (W : World) (kn : W.heap[cn]? = some (.cells #[.string name] 9 (0, 0))) (kb : W.heap[cb]? = some (.cells #[.slice x.A x.bytes.length x.c] 29 (0, 0))) (hx : RowP W x.A (bytesC x.bytes)) (hxc : x.bytes.length ≤ x.c) (hA : ∀ a, x.A = some a → a.block < W.heap.size) :
    Acts (.func (.func 44) ([] : List Value).toArray [Value.pointer (some ⟨cn, 0, none⟩), Value.pointer (some ⟨cb, 0, none⟩)].toArray) (fun j => j = cn ∨ j = cb ∨ ∃ a, x.A = some a ∧ a.block = j) ⟨0, name, x.bytes, k⟩ W := by
  have hcn := (Array.getElem?_eq_some_iff.1 kn).1
  have hcb := (Array.getElem?_eq_some_iff.1 kb).1
  refine ⟨?_, ?_⟩
  · rintro j (rfl | rfl | ⟨a, ha, rfl⟩)
    · exact hcn
    · exact hcb
    · exact hA a ha
  · intro W' S hk hs m G l n hF hm _ hn hl hu
    haveI : Blk W' cn (.cells #[.string name] 9 (0, 0)) := ⟨(hk.block cn hcn (hs cn (.inl rfl))).trans kn⟩
    haveI : Blk W' cb (.cells #[.slice x.A x.bytes.length x.c] 29 (0, 0)) := ⟨(hk.block cb hcb (hs cb (.inr (.inl rfl)))).trans kb⟩
    refine CallV.of_ret ((put1_ok m G l n cn cb name x W' hF (hx.keep hk (fun a ha => hs _ (.inr (.inr ⟨a, ha, rfl⟩)))) hxc hn hl hu).mono ?_)
    rintro v w' ⟨rfl, ⟨G', l', h1, h2, h3⟩, lk⟩
    exact ⟨rfl, G', l', h1, h2, h3, lk⟩
theorem acts_cut (cn cb : Nat) (name : ByteArray) (bytes : List UInt8) (z : Int) (hz : 0 ≤ z) (W : World) (kn : W.heap[cn]? = some (.cells #[.string name] 9 (0, 0))) (kb : W.heap[cb]? = some (.cells #[.int .i64 z] 3 (0, 0))) :
    Acts (.func (.func 49) ([] : List Value).toArray [Value.pointer (some ⟨cn, 0, none⟩), Value.pointer (some ⟨cb, 0, none⟩)].toArray) (fun j => j = cn ∨ j = cb) ⟨1, name, bytes, z⟩ W := by
  obtain ⟨k, rfl⟩ := Int.eq_ofNat_of_zero_le hz
  have hcn := (Array.getElem?_eq_some_iff.1 kn).1
  have hcb := (Array.getElem?_eq_some_iff.1 kb).1
  refine ⟨?_, ?_⟩
  · rintro j (rfl | rfl)
    · exact hcn
    · exact hcb
  · intro W' S hk hs m G l n hF hm h1 hn hl hu
    haveI : Blk W' cn (.cells #[.string name] 9 (0, 0)) := ⟨(hk.block cn hcn (hs cn (.inl rfl))).trans kn⟩
    haveI : Blk W' cb (.cells #[.int .i64 (k : Int)] 3 (0, 0)) := ⟨(hk.block cb hcb (hs cb (.inr rfl))).trans kb⟩
    refine CallV.of_ret ((cut1_ok m G l n k cn cb name W' hF (by simpa using h1 rfl)).mono ?_)
    rintro v w' ⟨rfl, ⟨l', h1, h2⟩, lk⟩
    exact ⟨rfl, G, l', h1, h2, fun _ e => .inl e, lk⟩
theorem acts_remove (cn : Nat) (name : ByteArray) (bytes : List UInt8) (k : Int) (W : World) (kn : W.heap[cn]? = some (.cells #[.string name] 9 (0, 0))) :
    Acts (.func (.func 50) ([] : List Value).toArray [Value.pointer (some ⟨cn, 0, none⟩)].toArray) (fun j => j = cn) ⟨2, name, bytes, k⟩ W := by
  have hcn := (Array.getElem?_eq_some_iff.1 kn).1
  refine ⟨?_, ?_⟩
  · rintro j rfl
    exact hcn
  · intro W' S hk hs m G l n hF hm _ hn hl hu
    haveI : Blk W' cn (.cells #[.string name] 9 (0, 0)) := ⟨(hk.block cn hcn (hs cn rfl)).trans kn⟩
    refine CallV.of_ret ((remove1_ok m G l n cn name W' hF).mono ?_)
    rintro v w' ⟨rfl, ⟨l', h1, h2⟩, lk⟩
    exact ⟨rfl, G, l', h1, h2, fun _ e => .inl e, lk⟩

end Go.Proofs.Ytabknhgbijcklaa
