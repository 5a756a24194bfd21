/- A part of the walks through the log and its document, and of the law in plain Lean: R. -/
import Derived.Test.YtigmfcgeljjgnaaGreatDoorJ16
set_option linter.all false
set_option maxRecDepth 100000
set_option synthInstance.maxSize 100000
set_option synthInstance.maxHeartbeats 400000
namespace Go.Proofs.YtigmfcgeljjgnaaGreatDoor
open Go.Wst
open Go.Wst.Dm
structure FRowE (w:World) (F:Nat->Prop) (A:Option Addr) (cs:List Value):Prop where
 row:RowP w A cs
 blk:cs=[]\/∀ a,A=some a->F a.block
theorem FRowE.keep {w w':World} {F S:Nat->Prop} {A:Option Addr} {cs:List Value} (h:FRowE w F A cs) (hk:Keep S w w') (hs:∀ k,F k->¬ S k):FRowE w' F A cs:=by
 rcases h.blk with e | e
 ·subst e;exact ⟨fun j v h=>by simp at h,.inl rfl⟩
 ·exact ⟨h.row.keep hk (fun a ha=>hs _ (e a ha)),.inr e⟩
theorem FRowE.mono {w:World} {F G:Nat->Prop} {A:Option Addr} {cs:List Value} (h:FRowE w F A cs) (hs:∀ k,F k->G k):FRowE w G A cs:=⟨h.row,h.blk.imp id (fun e a ha=>hs _ (e a ha))⟩
theorem FRowE.lt {w:World} {A:Option Addr} {cs:List Value} (h:RowP w A cs) (hn:cs≠[]):∀ a,A=some a->a.block<w.heap.size:=(rowB_of h).far.resolve_left hn
structure LRef where
 room:Int
 lasts:List (ByteArray×LB)
 A:Option Addr
 c:Nat
 waits:List LT
 B:Option Addr
 e:Nat
abbrev refC (R:LRef):List Value:=[.int .i64 R.room,.slice R.A R.lasts.length R.c,.slice R.B R.waits.length R.e]
structure RefAt (W:World) (F:Nat->Prop) (R:LRef):Prop where
 lasts:FsRow W F R.A R.lasts
 row:FRow W F R.B (R.waits.flatMap thC)
 items:∀ x∈R.waits,FRowE W F x.A (bytesC x.t.bytes)
 caps:∀ x∈R.waits,x.t.bytes.length<=x.c
 cap:R.waits.length<=R.e
structure RefS (R:LRef) (M:Disk):Prop where
 room:R.room=M.room
 lasts:fsP R.lasts=M.lasts
 waits:R.waits.map (·.t)=M.waits
 ok:M.ok
 few:M.lasts.length+M.waits.length<=1000000
 lens:∀ t∈M.waits,t.bytes.length<=16777216
theorem RefAt.lt {W:World} {F:Nat->Prop} {R:LRef} (h:RefAt W F R):∀ k,F k->k<W.heap.size:=h.lasts.lt
theorem RefAt.keep {W W':World} {F S:Nat->Prop} {R:LRef} (h:RefAt W F R) (hk:Keep S W W') (hs:∀ k,F k->¬ S k):RefAt W' F R:=
 ⟨h.lasts.keep hk hs,h.row.keep hk hs,fun x hx=>(h.items x hx).keep hk hs,h.caps,h.cap⟩
theorem RefAt.ext {W W':World} {F:Nat->Prop} {R:LRef} (h:RefAt W F R) (hk:Keep NoB W W'):RefAt W' F R:=h.keep hk (fun _ _ h=>h)
theorem RefS.len {R:LRef} {M:Disk} (h:RefS R M):R.waits.length=M.waits.length:=by rw [<- h.waits];simp
theorem RefS.llen {R:LRef} {M:Disk} (h:RefS R M):R.lasts.length=M.lasts.length:=by rw [<- h.lasts,fsP_len]
theorem RefS.get {R:LRef} {M:Disk} (h:RefS R M) {k:Nat} (hk:k<R.waits.length):M.waits[k]?=some R.waits[k].t:=by
 rw [<- h.waits];simp [hk]
def RefZ:LRef:=⟨0,[],none,0,[],none,0⟩
theorem refAt_nil (W:World) (F:Nat->Prop) (hF:∀ k,F k->k<W.heap.size) (room:Int):RefAt W F ⟨room,[],none,0,[],none,0⟩:=⟨⟨FRow.nil _ _,nofun,nofun,hF⟩,FRow.nil _ _,nofun,nofun,Nat.le_refl _⟩
theorem take_snoc3 {α:Type} {l:List α} {k:Nat} {x:α} (h:l[k]?=some x):l.take (k+1)=l.take k++[x]:=by
 obtain ⟨hk,e⟩:=List.getElem?_eq_some_iff.1 h
 rw [List.take_succ_eq_append_getElem hk,e]
theorem okT_cut {room:Int} {l:Fs} {t:Thing} (h:okT room l t):t.what=1->∀ b,akey l t.name=some b->0<=t.n/\t.n<=b.length:=by
 intro h1 b hb
 rcases h.2 with ⟨e,_⟩ | ⟨_,b2,hb2,h2⟩ | ⟨e,_⟩
 ·omega
 ·rw [hb] at hb2;cases hb2;exact h2
 ·omega
theorem good_at {room:Int} {l:Fs} {ts:List Thing} {k:Nat} {t:Thing} (h:Dm.Good room l ts) (hk:ts[k]?=some t):okT room ((ts.take k).foldl Dm.done l) t:=by
 obtain ⟨h1,e⟩:=List.getElem?_eq_some_iff.1 hk
 exact e ▸ h.at_ k h1
theorem akey_first {l:List (ByteArray×LB)} {k:Nat} {name:ByteArray} (hk:k<l.length) (h:∀ j (hj:j<l.length),j<k->l[j].1≠name) (hn:l[k].1=name):akey (fsP l) name=some l[k].2.bytes:=by
 have e:fsP l=fsP (l.take k)++(l[k].1,l[k].2.bytes) :: fsP (l.drop (k+1)):=by
  conv=>lhs;rw [<- List.take_append_drop k l,List.drop_eq_getElem_cons hk]
  simp only [fsP,List.map_append,List.map_cons]
 rw [e,akey_append,akey_cons,if_pos hn,akey_none.2,Option.none_or]
 intro p hp
 obtain ⟨q,hq,rfl⟩:=List.mem_map.1 hp
 obtain ⟨j,hj,rfl⟩:=List.getElem_of_mem hq
 have h2:j<k/\j<l.length:=by rw [List.length_take] at hj;omega
 have:=h j h2.2 h2.1
 simpa using this
theorem used_append (a b:Fs):usedB (a++b)=usedB a+usedB b:=by simp [usedB]
theorem used_take {l:List (ByteArray×LB)} {k:Nat} (hk:k<l.length):usedB (fsP (l.take (k+1)))=usedB (fsP (l.take k))+l[k].2.bytes.length:=by
 rw [List.take_succ_eq_append_getElem hk,fsP_snoc,used_append]
 simp [usedB]
theorem used_take_le (l:List (ByteArray×LB)) (k:Nat):usedB (fsP (l.take k))<=usedB (fsP l):=by
 have e:usedB (fsP l)=usedB (fsP (l.take k))+usedB (fsP (l.drop k)):=by
  rw [<- used_append];congr 1
  conv=>lhs;rw [<- List.take_append_drop k l]
  simp only [fsP,List.map_append]
 omega
theorem refnew_ok (room:Int) (w:World):Ret Tryz.prog 12 #[.int .i64 room] w (fun v w'=>(if 1<=room/\room<=16777216 then v=.tuple #[.agg (refC ⟨room,[],none,0,[],none,0⟩).toArray,.int .i64 0] else v=.tuple #[.agg (refC RefZ).toArray,.int .i64 2])/\Lk w' w NoB):=by
 refine ret_of_x (N:=13) (l:=[.int .i64 room]) Tryz.func12 rfl rfl (Nat.le_of_ble_eq_true rfl) ?_
 refine xq ?_
 refine xl_e (e_alloc fun b1 w1 n1 l1 k1=>?_)
 refine xz ?_
 refine x_seq (xq (xm (xl_v v_lss (xm ?_))))
 refine xl_split 6 (fun g6=>?_) (fun g6=>?_)
 ·refine xl_gs rfl EvO.eq (xl_gs rfl EvO.eq (xl_Pk ?_))
  refine xl_nil ?_
  refine x_condT ?_
  refine xq (xl_v v_build ?_)
  refine xl_s (e_storeA fun w2 l2 k2=>?_)
  refine xz ?_
  refine x_ret ?_
  refine finR (rs:=[.cell 2 34,.tmp 3]) rfl ?_
  refine ⟨?_,lkc⟩
  rw [if_neg (by first | (simp at c1 g6;omega) | (simp at g6;omega))]
  rfl
 refine xl_gv rfl EvO.eq v_move (xl_gv rfl EvO.eq v_gtr (xl_Pk ?_))
 refine xl_nil ?_
 refine x_condE (fun c1=>?_) (fun c1=>?_)
 ·refine xq (xl_v v_build ?_)
  refine xl_s (e_storeA fun w3 l3 k3=>?_)
  refine xz ?_
  refine x_ret ?_
  refine finR (rs:=[.cell 2 34,.tmp 3]) rfl ?_
  refine ⟨?_,lkc⟩
  rw [if_neg (by first | (simp at c1 g6;omega) | (simp at g6;omega))]
  rfl
 refine x_skip (xq (xm (xl_v v_build ?_)))
 refine xl_s (e_storeA fun w4 l4 k4=>?_)
 refine xz ?_
 refine x_ret ?_
 refine finR (rs:=[.cell 2 34,.tmp 3]) rfl ?_
 refine ⟨?_,lkc⟩
 rw [if_pos (by first | (simp at c1 g6;omega) | (simp at g6;omega))]
 rfl
theorem reffiles_ok (R:LRef) (M:Disk) (F:Nat->Prop) (w:World) (h:RefAt w F R) (hs:RefS R M):Ret Tryz.prog 66 #[.agg (refC R).toArray] w (fun v w'=>(∃ (A':Option Addr) (c':Nat) (l:List (ByteArray×LB)) (F':Nat->Prop),v=.slice A' l.length c'/\fsP l=M.files/\FsRow w' F' A' l/\∀ k,F' k->F k\/w.heap.size<=k)/\Lk w' w NoB):=by
 haveI hrB:RowB w R.B w (R.waits.flatMap thC):=rowB_of h.row.row
 have hwl:=hs.len
 have hll:=hs.llen
 have hfew:=hs.few
 have hmost:=hs.ok.most
 refine ret_of_x (N:=22) (l:=[.agg (refC R).toArray]) Tryz.func66 rfl rfl (Nat.le_of_ble_eq_true rfl) ?_
 refine xq ?_
 refine xl_e (e_box fun b1 w1 n1 l1 k1=>?_)
 refine xz ?_
 refine xq (xl_Fb ?_)
 refine xl_Lc ?_
 refine xz ?_
 refine x_seq (xq (xz ?_))
 refine x_block ?_
 refine x_loop (fun m τ ds w'=>ds=[]/\∃ (k:Nat) (l:List (ByteArray×LB)) (A7:Option Addr) (c7:Nat) (F7:Nat->Prop),m=R.waits.length - k/\k<=R.waits.length/\fsP l=(M.waits.take k).foldl Dm.done M.lasts/\FsRow w' F7 A7 l/\(∀ j,F7 j->F j\/w.heap.size<=j)/\Ev τ 1 (.pointer (some ⟨b1,0,none⟩))/\Ev τ 3 (.slice A7 l.length c7)/\Ev τ 4 (.int .i64 (k:Int))/\Lk w' w1 NoB) (R.waits.length) ?start ?round
 case start=>
  exact ⟨rfl,0,R.lasts,R.A,R.c,F,rfl,by omega,hs.lasts,h.lasts.ext (kpc:Keep NoB w w1),fun j e=>.inl e,ii,ii,evc,lkc⟩
 case round=>
  intro m τ2 ds2 w2 hI
  obtain ⟨rfl,k,l,A7,c7,F7,rfl,hk,hq,hr7,hF7,e1,e3,e4,lk⟩:=hI
  refine x_seq (xq (xm (xl_Fb ?_)))
  refine xl_Lc ?_
  refine xl_v v_len (xl_v v_lss (xl_nil ?_))
  refine x_if (fun c1=>?_) (fun c1=>?_)
  ·have hk1:k<R.waits.length:=by omega
   have hgd:=good_at hs.ok.good (hs.get hk1)
   have hgt:=hs.ok.good.take k
   have hln:=fold_len (M.waits.take k) M.lasts
   have hlk:l.length<=1000000:=by
    rw [<- fsP_len,hq]
    have:(M.waits.take k).length<=k:=by simp;omega
    omega
   have huk:usedB (fsP l)<=16777216:=by
    have:=hgt.fold
    rw [hq];omega
   refine x_skip (x_seq (x_block (x_regionL (xm (xl_Fb ?_)))))
   refine xl_Lc ?_
   refine xm ?_
   refine xl_v (v_indexF k (by decide) rfl (by omega) hk1) ?_
   refine xl_Lb ?_
   refine xl_call (done_ok A7 c7 l F7 R.waits[k] w2 (hr7.ext (kpc:Keep NoB w2 w2)) ((h.items _ (List.getElem_mem hk1)).keep (kpc:Keep NoB w w2) (fun _ _ h=>h)).row hgd.what (by rw [hq];exact okT_cut hgd) hlk (hs.lens _ (List.mem_of_getElem? (hs.get hk1))) huk (by rw [hq];exact (hgt.rise hs.ok.rise).nodup)) ?_
   rintro _ w3 ⟨⟨A8,c8,l8,F8,rfl,hf8,hr8,hF8⟩,lk8⟩
   refine xz ?_
   refine x_regionL (xm ?_)
   refine xl_v (v_add (by omega)) ?_
   refine xz ?_
   refine ⟨_,?_,rfl,k+1,l8,A8,c8,F8,rfl,by omega,?_,hr8.ext (kpc:Keep NoB _ w3),fun j e=>?_,ii,ii,evc,lkc⟩
   ·omega
   ·rw [hf8,hq,take_snoc3 (hs.get hk1),List.foldl_append];rfl
   ·rcases hF8 j e with e | e
    ·exact hF7 j e
    ·exact .inr (Nat.le_trans Ge.le e)
  refine x_exit (xq (xm (xz ?_)))
  refine x_ret ?_
  refine fin1 rfl ?_
  have hke:k=M.waits.length:=by omega
  refine ⟨⟨A7,c7,l,F7,rfl,?_,hr7.ext (kpc:Keep NoB _ w2),hF7⟩,lkc⟩
  rw [hq,hke,List.take_length]
  rfl
theorem find_ok (A:Option Addr) (c:Nat) (l:List (ByteArray×LB)) (F:Nat->Prop) (name:ByteArray) (w:World) (h:FsRow w F A l) (hl:l.length<=1000000):Ret Tryz.prog 80 #[.slice A l.length c,.string name] w (fun v w'=>(∃ i:Int,v=.int .i64 i/\(i=-1/\akey (fsP l) name=none\/∃ (k:Nat) (hk:k<l.length),i=(k:Int)/\l[k].1=name/\akey (fsP l) name=some l[k].2.bytes))/\Lk w' w NoB):=by
 haveI hrA:RowB w A w (l.flatMap fileC):=rowB_of h.row.row
 refine ret_of_x (N:=20) (l:=[.slice A l.length c,.string name]) Tryz.func80 rfl rfl (Nat.le_of_ble_eq_true rfl) ?_
 refine xq (xz ?_)
 refine x_seq (xq (xz ?_))
 refine x_block ?_
 refine x_loop (fun m τ ds w'=>ds=[]/\∃ k:Nat,m=l.length - k/\k<=l.length/\(∀ j (hj:j<l.length),j<k->l[j].1≠name)/\Ev τ 0 (.slice A l.length c)/\Ev τ 1 (.string name)/\Ev τ 5 (.int .i64 (k:Int))/\Lk w' w NoB) (l.length) ?start ?round
 case start=>
  exact ⟨rfl,0,rfl,by omega,fun j _ h=>by omega,ii,ii,evc,lkc⟩
 case round=>
  intro m τ1 ds1 w1 hI
  obtain ⟨rfl,k,rfl,hk,hall,e0,e1,e5,lk⟩:=hI
  refine x_seq (xq (xm (xm (xl_v v_len (xl_v v_lss (xl_nil ?_))))))
  refine x_if (fun c1=>?_) (fun c1=>?_)
  ·have hk1:k<l.length:=by omega
   refine x_skip (x_seq (x_block (xq (xm (xm ?_)))))
   refine xl_v (v_indexF k (by decide) rfl (by omega) hk1) ?_
   refine xl_Fb ?_
   refine xl_v (v_loadF0 hk1) ?_
   refine xm ?_
   refine xl_v (v_seql) ?_
   refine xl_nil ?_
   refine x_if (fun c2=>?_) (fun c2=>?_)
   ·refine xq (xm (xz ?_))
    refine x_ret ?_
    refine fin1 rfl ?_
    have hnm:l[k].1=name:=by first | exact c2 | simpa using c2
    refine ⟨⟨_,rfl,.inr ⟨k,hk1,rfl,hnm,?_⟩⟩,lkc⟩
    exact akey_first hk1 (fun j hj h2=>hall j hj h2) hnm
   refine x_skip (x_regionL (xm ?_))
   refine xl_v (v_add (by omega)) ?_
   refine xz ?_
   refine ⟨_,?_,rfl,k+1,rfl,by omega,fun j hj h2=>?_,ii,ii,evc,lkc⟩
   ·omega
   ·by_cases e:j=k
    ·subst e;exact fun e=>by first | exact c2 e | (simp [e] at c2)
    ·exact hall j hj (by omega)
  refine x_exit (xq (xz ?_))
  refine x_ret ?_
  refine fin1 rfl ?_
  refine ⟨⟨_,rfl,.inl ⟨rfl,akey_none.2 ?_⟩⟩,lkc⟩
  intro p hp
  obtain ⟨q,hq,rfl⟩:=List.mem_map.1 hp
  obtain ⟨j,hj,rfl⟩:=List.getElem_of_mem hq
  exact hall j hj (by omega)
theorem refused_ok (A:Option Addr) (c:Nat) (l:List (ByteArray×LB)) (F:Nat->Prop) (w:World) (h:FsRow w F A l) (hl:l.length<=1000000) (hu:usedB (fsP l)<=1000000000):Ret Tryz.prog 81 #[.slice A l.length c] w (fun v w'=>v=.int .i64 (usedB (fsP l):Int)/\Lk w' w NoB):=by
 haveI hrA:RowB w A w (l.flatMap fileC):=rowB_of h.row.row
 refine ret_of_x (N:=20) (l:=[.slice A l.length c]) Tryz.func81 rfl rfl (Nat.le_of_ble_eq_true rfl) ?_
 refine xq (xz ?_)
 refine xq (xz ?_)
 refine x_seq (xq (xz ?_))
 refine x_block ?_
 refine x_loop (fun m τ ds w'=>ds=[]/\∃ k:Nat,m=l.length - k/\k<=l.length/\Ev τ 0 (.slice A l.length c)/\Ev τ 3 (.int .i64 (usedB (fsP (l.take k)):Int))/\Ev τ 4 (.int .i64 (k:Int))/\Lk w' w NoB) (l.length) ?start ?round
 case start=>
  exact ⟨rfl,0,rfl,by omega,ii,evc,evc,lkc⟩
 case round=>
  intro m τ1 ds1 w1 hI
  obtain ⟨rfl,k,rfl,hk,e0,e3,e4,lk⟩:=hI
  refine x_seq (xq (xm (xm (xl_v v_len (xl_v v_lss (xl_nil ?_))))))
  refine x_if (fun c1=>?_) (fun c1=>?_)
  ·have hk1:k<l.length:=by omega
   have hle:=used_take_le l (k+1)
   have hut:=used_take hk1
   refine x_skip (x_seq (x_block (x_regionL (xm (xm (xm ?_))))))
   refine xl_v (v_indexF k (by decide) rfl (by omega) hk1) ?_
   refine xl_Fb ?_
   refine xl_v (v_loadFf hk1) ?_
   refine xl_v v_len ?_
   refine xl_v (v_add (by omega)) ?_
   refine xz ?_
   refine x_regionL (xm ?_)
   refine xl_v (v_add (by omega)) ?_
   refine xz ?_
   refine ⟨_,?_,rfl,k+1,rfl,by omega,ii,evc (congrArg (Value.int .i64) (by rw [used_take hk1];omega)),evc,lkc⟩
   omega
  refine x_exit (xq (xm (xz ?_)))
  refine x_ret ?_
  refine fin1 rfl ?_
  have hke:k=l.length:=by omega
  refine ⟨?_,lkc⟩
  rw [hke,List.take_length]
end Go.Proofs.YtigmfcgeljjgnaaGreatDoor
