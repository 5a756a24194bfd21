/- A part of the walks through the log and its document, and of the law in plain Lean: I GI GJ GO. -/
import Derived.Test.YtigmfcgeljjgnaaGreatDoorJ13
set_option linter.all false
set_option maxRecDepth 100000
set_option synthInstance.maxSize 100000
set_option synthInstance.maxHeartbeats 400000
namespace Go.Proofs.YtigmfcgeljjgnaaGreatDoor
open Go.Wst
open Go.Wst.Dm
def NoE:List Value->(Nat->Prop)->World->Prop:=fun _ Fv _=>∀ k,¬ Fv k
theorem noE_elem:Elem NoE:=⟨fun _ _ _ h k e=>absurd e (h k),fun _ _ _ _ _ h _ _=>h⟩
theorem iterE_of {P:Program} {g:Value} {Own:Nat->Prop} {Al Fin:Seen->Prop} {w:World} (h:IterI P g Own Al Fin w):IterE P g Own Al Fin NoE w:=
 fun y I J F w0 hy hw0 h0 hF=>h y I J F w0 ⟨hy.i,hy.j,fun pre v F W hal hI=>(hy.step pre v F NoB W hal hI (fun k h=>h) (fun k h=>h.elim) (fun k h=>h.elim)).mono (by
  rintro r W' ⟨b,F',h1,h2,h3,h4⟩
  exact ⟨b,F',h1,h2,h3.mono (fun k _ e=>e.elim id (fun e=>e.elim)),fun k e=>(h4 k e).imp (fun e=>e.elim id (fun e=>e.elim)) id⟩)⟩ hw0 h0 hF
theorem alT_last {tl:List (Nat×LThing)} {pre:Seen} {v:List Value} (h:AlT tl (pre++[v])):∃ h:pre.length<tl.length,v=tellT tl[pre.length]:=by
 obtain ⟨h1,h2⟩:=h
 have hl:pre.length<tl.length:=by simp at h1;omega
 refine ⟨hl,?_⟩
 have h3:=congrArg (fun l=>l[pre.length]?) h2
 simp [hl] at h3
 exact h3
theorem alT_len {tl:List (Nat×LThing)} {pre:Seen} {v:List Value} (h:AlT tl (pre++[v])):v.length=2:=by
 obtain ⟨h1,rfl⟩:=alT_last h
 rfl
theorem finT_len {tl:List (Nat×LThing)} {pre:Seen} (h:FinT tl pre):pre.length=tl.length:=by
 rw [h];simp
abbrev partsT (tl:List (Nat×LThing)):List Thing:=tl.map (fun p=>tornT p.2.t p.1)
theorem told_len (ws:List LThing) (k:Nat) (torn:Int):(told ws k torn).length<=ws.length:=by
 rw [told,List.length_append,List.length_map,List.length_take]
 by_cases h:k<ws.length
 ·have:(lastT ws k torn).length<=1:=by
   rw [lastT,List.getElem?_eq_getElem h]
   dsimp only
   split<;>simp
  omega
 ·rw [last_len h];simp;omega
theorem crash_shape (M:Disk) (keep torn:Int):(M.crash keep torn).room=M.room/\(M.crash keep torn).waits=[]:=by
 unfold Disk.crash
 dsimp only
 split
 ·exact ⟨rfl,rfl⟩
 ·split<;>exact ⟨rfl,rfl⟩
theorem told_pure {M:Disk} {ws:List LThing} {keep torn:Int} (hw:ws.map (·.t)=M.waits) (hr:Rise M.lasts) (hg:Dm.Good M.room M.lasts M.waits) :
    Dm.Good M.room M.lasts (partsT (told ws (pickN keep ws.length) torn))/\(partsT (told ws (pickN keep ws.length) torn)).foldl Dm.done M.lasts=(M.crash keep torn).lasts/\∀ p∈told ws (pickN keep ws.length) torn,p.2∈ws/\p.1<=p.2.t.bytes.length:=by
 have hl:M.waits.length=ws.length:=by rw [<- hw];simp
 obtain ⟨kk,hkk⟩:∃ kk,kk=pickN keep ws.length:=⟨_,rfl⟩
 have hc:M.crash keep torn=(match M.waits[kk]? with
     | none=>⟨M.room,(M.waits.take kk).foldl Dm.done M.lasts,[]⟩
     | some t=>if t.what=0/\0<pickN torn t.bytes.length then ⟨M.room,Dm.done ((M.waits.take kk).foldl Dm.done M.lasts) (tornT t (pickN torn t.bytes.length)),[]⟩ else ⟨M.room,(M.waits.take kk).foldl Dm.done M.lasts,[]⟩):=by
  rw [Disk.crash,hl,<- hkk]
  rfl
 have hwk:M.waits[kk]?=(ws[kk]?).map (·.t):=by rw [<- hw,List.getElem?_map]
 have h1:((ws.take kk).map (fun x=>(putsN x.t,x.t))).map (·.2)=M.waits.take kk:=by rw [<- hw];simp [List.map_take,Function.comp_def]
 have h2:partsT ((ws.take kk).map (fun x=>(putsN x.t,x)))=((ws.take kk).map (fun x=>(putsN x.t,x.t))).map (fun p=>tornT p.2 p.1):=by simp [partsT,Function.comp_def]
 obtain ⟨g1,g2⟩:=Dm.Good.torn (ts:=(ws.take kk).map (fun x=>(putsN x.t,x.t))) (h1 ▸ hg.take kk) (by
  rintro p hp h0
  obtain ⟨x,_,rfl⟩:=List.mem_map.1 hp
  show x.t.bytes.length<=putsN x.t
  unfold putsN
  rw [if_pos h0]
  exact Nat.le_refl _)
 rw [<- h2] at g1 g2
 rw [h1] at g2
 have hmem:∀ p∈(ws.take kk).map (fun x=>(putsN x.t,x)),p.2∈ws/\p.1<=p.2.t.bytes.length:=by
  rintro p hp
  obtain ⟨x,hx,rfl⟩:=List.mem_map.1 hp
  exact ⟨List.mem_of_mem_take hx,putsN_le _⟩
 rw [<- hkk]
 cases hx:ws[kk]? with
 | none=>
   have e:told ws kk torn=(ws.take kk).map (fun x=>(putsN x.t,x)):=by simp [told,lastT,hx]
   rw [e,hc,hwk,hx]
   exact ⟨g1,g2,hmem⟩
 | some x=>
   obtain ⟨hk1,hxe⟩:=List.getElem?_eq_some_iff.1 hx
   by_cases h0:0<pickN torn (putsN x.t)
   ·have hw0:x.t.what=0:=by
     apply Decidable.byContradiction
     intro hne
     have:=pickN_le torn (putsN x.t)
     unfold putsN at this h0
     rw [if_neg hne] at this h0
     omega
    have hpn:putsN x.t=x.t.bytes.length:=by unfold putsN;rw [if_pos hw0]
    have e:told ws kk torn=(ws.take kk).map (fun x=>(putsN x.t,x))++[(pickN torn (putsN x.t),x)]:=by
     simp [told,lastT,hx,h0]
    have e2:partsT (told ws kk torn)=partsT ((ws.take kk).map (fun x=>(putsN x.t,x)))++[tornT x.t (pickN torn x.t.bytes.length)]:=by
     rw [e,<- hpn];simp [partsT]
    have hok:okT M.room ((M.waits.take kk).foldl Dm.done M.lasts) x.t:=by
     have:=hg.at_ kk (by omega)
     have e3:M.waits[kk]'(by omega)=x.t:=by
      have h5:M.waits[kk]?=some x.t:=by rw [hwk,hx];rfl
      exact (List.getElem?_eq_some_iff.1 h5).2
     rwa [e3] at this
    rw [e2,hc,hwk,hx]
    refine ⟨Dm.Good.snoc' hr g1 (by rw [g2];exact okT_torn hok),?_,?_⟩
    ·rw [List.foldl_append,g2]
     simp only [Option.map_some]
     rw [if_pos ⟨hw0,hpn ▸ h0⟩]
     rfl
    ·rw [e]
     intro p hp
     rcases List.mem_append.1 hp with hp | hp
     ·exact hmem p hp
     ·have e4:p=(pickN torn (putsN x.t),x):=by simpa using hp
      rw [e4]
      exact ⟨List.mem_of_getElem? hx,by have:=pickN_le torn (putsN x.t);have:=putsN_le x.t;show pickN torn (putsN x.t)<=x.t.bytes.length;omega⟩
   ·have e:told ws kk torn=(ws.take kk).map (fun x=>(putsN x.t,x)):=by simp [told,lastT,hx,h0]
    rw [e,hc,hwk,hx]
    refine ⟨g1,?_,hmem⟩
    simp only [Option.map_some]
    rw [if_neg]
    ·exact g2
    ·rintro ⟨h3,h4⟩
     have hpn:putsN x.t=x.t.bytes.length:=by unfold putsN;rw [if_pos h3]
     exact h0 (hpn ▸ h4)
def CrashI (m2:Nat) (G:Nat->Prop) (L0:Fs) (tl:List (Nat×LThing)) (wb:World):Seen->(Nat->Prop)->World->Prop:=fun pre F W=>
 ∃ (Gn:Nat->Prop) (l:List (ByteArray×LB)),FilesAt W m2 (fun k=>G k\/Gn k) l/\fsP l=(partsT (tl.take pre.length)).foldl doneM L0/\(∀ k,F k↔k=m2\/Gn k)/\(∀ k,Gn k->wb.heap.size<=k)/\Keep (OneB m2) wb W
theorem crashI_stable {m2:Nat} {G:Nat->Prop} {L0:Fs} {tl:List (Nat×LThing)} {wb:World} (hG:∀ k,G k->k<wb.heap.size):Stable (CrashI m2 G L0 tl wb) wb:=by
 refine ⟨?_,?_⟩
 ·rintro pre F W ⟨Gn,l,h1,_,h3,h4,_⟩ k hk
  rcases (h3 k).1 hk with rfl | e
  ·exact h1.map.lt
  ·exact h1.lt k (.inr e)
 ·rintro pre F W W' S ⟨Gn,l,h1,h2,h3,h4,h5⟩ hk hs hn
  refine ⟨Gn,l,h1.keep hk (hs m2 ((h3 m2).2 (.inl rfl))) (fun k e e2=>?_),h2,h3,h4,h5.then hk (fun k hlt hS=>by have:=hn k hS;omega)⟩
  rcases e with e | e
  ·have:=hG k e;have:=hn k e2;omega
  ·exact hs k ((h3 k).2 (.inr e)) e2
theorem keeps_ok (d:Nat) (keep torn:Int) (w:World):Ret Tryz.prog 87 #[.pointer (some ⟨d,0,none⟩),.agg #[.int .i64 keep,.int .i64 torn]] w (fun v w'=>(∃ cc cd,v=.func (.func 108) ([]:List Value).toArray [Value.pointer (some ⟨cc,0,none⟩),Value.pointer (some ⟨cd,0,none⟩)].toArray/\w'.heap[cc]?=some (.cells #[.int .i64 keep,.int .i64 torn] 75 (0,0))/\w'.heap[cd]?=some (.cells #[.pointer (some ⟨d,0,none⟩)] 24 (0,0))/\w.heap.size<=cc/\w.heap.size<=cd)/\Lk w' w NoB):=by
 refine ret_of_x (N:=6) (l:=[.pointer (some ⟨d,0,none⟩),.agg #[.int .i64 keep,.int .i64 torn]]) Tryz.func87 rfl rfl (Nat.le_of_ble_eq_true rfl) ?_
 refine xq ?_
 refine xl_e (e_box fun b1 w1 n1 l1 k1=>?_)
 refine xl_e (e_box fun b2 w2 n2 l2 k2=>?_)
 refine xz ?_
 refine xq (xl_v v_makeFunc (xz ?_))
 refine x_ret ?_
 refine fin1 rfl ?_
 exact ⟨⟨b2,b1,rfl,Blk.eq,Blk.eq,by rw [n2.eq];exact Ge.le,by rw [n1.eq];exact Ge.le⟩,lkc⟩
theorem keepsIter (cc cd d mb ml:Nat) (G:Nat->Prop) (D:LDisk) (keep torn:Int) (w:World) [hbc:Blk w cc (.cells #[.int .i64 keep,.int .i64 torn] 75 (0,0))] [hbd:Blk w cd (.cells #[.pointer (some ⟨d,0,none⟩)] 24 (0,0))] (hD:DiskAt w d mb ml G D) (hfew:D.waits.length<=1000000) (hk:In64 keep) (ht:In64 torn) (hlen:∀ x∈D.waits,x.t.bytes.length<=16777216) :
    IterI Tryz.prog (.func (.func 108) ([]:List Value).toArray [Value.pointer (some ⟨cc,0,none⟩),Value.pointer (some ⟨cd,0,none⟩)].toArray) (fun k=>k=cc\/k=cd\/DiskF d mb ml D.A G k) (AlT (told D.waits (pickN keep D.waits.length) torn)) (FinT (told D.waits (pickN keep D.waits.length) torn)) w:=
 fun y I J F w0 hy hw0 h0 hF=>CallV.of_ret (keeps1_ok y cc cd d mb ml G D keep torn I J F w hD hfew hk ht hlen w0 hy hw0 h0 hF)
theorem crash_ok (P R:Nat->Prop) (d:Nat) (M:Disk) (keep torn:Int) (w:World) (h:DiskW P R d M w) (hk:In64 keep) (ht:In64 torn):Ret Tryz.prog 41 #[.pointer (some ⟨d,0,none⟩),.agg #[.int .i64 keep,.int .i64 torn]] w (fun v w'=>(∃ x,v=.tuple #[.pointer (some ⟨x,0,none⟩),.int .i64 0]/\DiskW P (fun k=>k<w.heap.size) x (M.crash keep torn) w'/\w.heap.size<=x)/\Lk w' w NoB):=by
 obtain ⟨mb,ml,G,D,hD,hS,hP,hR⟩:=h
 haveI hb:Blk w d _:=⟨hD.hb⟩
 have hwl:D.waits.length=M.waits.length:=by rw [<- hS.waits];simp
 have hfew:=hS.few
 have hlens:∀ x∈D.waits,x.t.bytes.length<=16777216:=fun x hx=>hS.lens x.t (by rw [<- hS.waits];exact List.mem_map.2 ⟨x,hx,rfl⟩)
 obtain ⟨hgood,hfold,htl⟩:=told_pure (keep:=keep) (torn:=torn) hS.waits hS.ok.rise hS.ok.good
 obtain ⟨tl,htld⟩:∃ tl,tl=told D.waits (pickN keep D.waits.length) torn:=⟨_,rfl⟩
 rw [<- htld] at hgood hfold htl
 have hroom:=hS.room
 refine ret_of_x (N:=35) (l:=[.pointer (some ⟨d,0,none⟩),.agg #[.int .i64 keep,.int .i64 torn]]) Tryz.func41 rfl rfl (Nat.le_of_ble_eq_true rfl) ?_
 refine xq ?_
 refine xl_e (e_box fun b1 w1 n1 l1 k1=>?_)
 refine xa (xz ?_)
 refine x_seq (xq (xm ?_))
 refine xl_call (none_ok d mb ml G D M w1 (hD.ext (kpc:Keep NoB w w1)) hS) ?_
 rintro _ _ ⟨rfl,rfl⟩
 refine xl_nil ?_
 refine x_condF ?_
 refine x_skip (xq (xm (xl_Nc ?_)))
 refine xl_Fb ?_
 refine xl_Lb ?_
 refine xl_call (copied_ok ml G D.lasts w1 (hD.las.ext (kpc:Keep NoB w w1))) ?_
 rintro _ w3 ⟨⟨m2,rfl,hF2,hg2⟩,lk1⟩
 have hgp:=(Ge.le:w.heap.size<=(w1).heap.size)
 have hm2l:=hF2.map.lt
 refine xl_e (e_alloc fun b6 w4 n6 l6 k6=>?_)
 refine xl_s (e_storeA fun w5 l5 k5=>?_)
 refine xl_nil ?_
 refine x_seq (xq (xm (xl_Lb ?_)))
 refine xl_call (keeps_ok d keep torn w5) ?_
 rintro _ w6 ⟨⟨cc,cd,rfl,hcc,hcd,hgc,hgd⟩,lk2⟩
 haveI:Blk w6 cc _:=⟨hcc⟩
 haveI:Blk w6 cd _:=⟨hcd⟩
 have hm2p:m2<(w5).heap.size:=Nat.lt_of_lt_of_le hm2l Ge.le
 have hb6p:b6<(w5).heap.size:=Has.lt
 refine xl_nil ?_
 refine x_block ?_
 have hDw:=hD.ext (kpc:Keep NoB w w6)
 have hFw:=hF2.keep (kpc:Keep (OneB b6) _ w6) (fun e=>by have e':m2=b6:=e;have:=n6.eq;omega) (fun k e e2=>by have:=hD.cur.lt k e;have e':k=b6:=e2;have:=n6.eq;have:=lk1.keep.size;omega)
 haveI kb6:Blk w6 b6 _:=ii
 have hwE:=(Ge.le:w.heap.size<=(w6).heap.size)
 have hb6l:b6<(w6).heap.size:=Has.lt
 have hm2w:=hFw.map.lt
 have hdl:=hD.lt d (.inl (.inl rfl))
 haveI:NeB d m2:=⟨by omega⟩
 haveI kbd:Blk w6 d _:=ii
 haveI:NeB b6 m2:=⟨by have:=n6.eq;omega⟩
 have hG2:∀ k,G k->k<w.heap.size:=hD.cur.lt
 obtain ⟨wS,hwS⟩:∃ x,x=w6:=⟨_,rfl⟩
 refine x_rangeE (ps:=[19,20]) (fun k=>k=cc\/k=cd\/DiskF d mb ml D.A G k) (AlT tl) (FinT tl) (NoE) (noE_elem) (fun W l=>iterE_of (htld ▸ keepsIter cc cd d mb ml G D keep torn W (hDw.ext (kpc:Keep NoB w6 W)) (by omega) hk ht hlens)) (by rintro k (rfl | rfl | e);exact Has.lt;exact Has.lt;exact hDw.lt k e) (fun pre v h=>alT_len h) (CrashI m2 G (fsP D.lasts) tl w6) (fun _ _ _ _=>False) (OneB m2) (crashI_stable (fun k e=>hDw.cur.lt k e)) (fun _=>⟨fun _ _ _ h=>h.elim,fun _ _ _ _ _ h=>h.elim⟩) (⟨NoB,D.lasts,hFw.mono (fun k e=>.inl e) (fun k e=>e.elim (fun e=>hFw.lt k e) (fun e=>e.elim)) (fun e=>e.elim hFw.out (fun e=>e)),rfl,fun k=>⟨fun e=>.inl e,fun e=>e.elim id (fun e=>e.elim)⟩,fun k e=>e.elim,Keep.refl _ _⟩) (fun k hk e=>by have e':k=m2:=hk;subst e';rcases e with e | e | e;omega;omega;have:=hD.lt _ e;omega) (fun v τ n W=>∃ (p:Nat×LThing) (c8:Nat),v=tellT p/\Ev τ 6 (.pointer (some ⟨b6,0,none⟩))/\Ev τ 7 (.int .i64 (p.1:Int))/\Ev τ 8 (.pointer (some ⟨c8,0,none⟩))/\W.heap[c8]?=some (.cells (thingC p.2).toArray 132 (0,0))/\n<=c8) (by rintro v τ n W1 W2 S ⟨p,c8,h1,h2,h3,h4,h5,h6⟩ hk hs;exact ⟨p,c8,h1,h2,h3,h4,(hk.block c8 (Array.getElem?_eq_some_iff.1 h5).1 (fun e=>by have:=hs _ e;omega)).trans h5,h6⟩) ?assign ?body ?normal ?jump
 case assign=>
  intro l7 pre v7 w7 hal hv7
  obtain ⟨hj,rfl⟩:=alT_last hal
  simp only [updL,tellT]
  refine xq (xz ?_)
  refine x_regionL ?_
  refine xl_e (e_alloc fun c8 w8 n8 l8 k8=>?_)
  refine xl_s (e_storeA fun w9 l9 k9=>?_)
  refine xl_nil ?_
  exact ⟨lkc,tl[pre.length],c8,rfl,ii,ii,ii,Blk.eq,by rw [n8.eq];exact Nat.le_refl _⟩
 case body=>
  intro l pre v F Fv nb w10 τ10 ds10 hal hI hE hdis hnew hlt hnb hnbw hB
  obtain ⟨Gn,l,hFl,hfl,hFe,hGn,hkw⟩:=hI
  obtain ⟨hj,rfl⟩:=alT_last hal
  obtain ⟨p,c8,hv,e6,e7,e8,hc8,hnc⟩:=hB
  obtain ⟨q,hq⟩:∃ q,q=tl[pre.length]:=⟨_,rfl⟩
  rw [<- hq] at hv
  have hv':=hv
  injection hv with hv1 hv2
  injection hv2 with hv3 _
  injection hv1 with _ hv1
  injection hv3 with hv3
  rw [<- hv3] at hc8
  rw [<- hv1] at e7
  obtain ⟨hqw,hqn⟩:=htl q (hq ▸ List.getElem_mem hj)
  haveI lkB:Lk w10 _ (OneB m2):=⟨hkw⟩
  haveI:Blk w10 b6 _:=ii
  haveI:Blk w10 c8 _:=⟨hc8⟩
  have hact:=hDw.acts q.2 hqw
  have htake:partsT (tl.take (pre.length+1))=partsT (tl.take pre.length)++[tornT q.2.t q.1]:=by
   rw [take_snoc _ _ hj,hq]
   simp only [partsT,List.map_append,List.map_cons,List.map_nil]
  have hgk:=hgood.take pre.length
  have hal2:Dm.Alike (fsP l) ((partsT (tl.take pre.length)).foldl Dm.done M.lasts):=by
   rw [hfl]
   have e:partsT (tl.take pre.length)=(partsT tl).take pre.length:=by simp [partsT,List.map_take]
   rw [e]
   exact hS.las.fold hgk
  have hokq:okT M.room ((partsT (tl.take pre.length)).foldl Dm.done M.lasts) (tornT q.2.t q.1):=by
   have h9:=hgood.at_ pre.length (by simpa [partsT] using hj)
   have e:(partsT tl).take pre.length=partsT (tl.take pre.length):=by simp [partsT,List.map_take]
   have e2:(partsT tl)[pre.length]'(by simpa [partsT] using hj)=tornT q.2.t q.1:=by simp [partsT,hq]
   rwa [e,e2] at h9
  have hul:usedB (fsP l)<=16777216:=by
   have h9:=hal2.used
   have e:partsT (tl.take pre.length)=(partsT tl).take pre.length:=by simp [partsT,List.map_take]
   have h10:=(hgood.take pre.length).fold
   rw [<- e] at h10
   have:=hS.ok.most
   omega
  have hpreq:q.2.t.what=1->∃ b,akey (fsP l) q.2.t.name=some b/\q.2.t.n.toNat<=b.length:=by
   intro h1
   rw [hal2.eq]
   rcases hokq.2 with ⟨e,_⟩ | ⟨_,b,hb,h2,h3⟩ | ⟨e,_⟩
   ·have e':q.2.t.what=0:=e;omega
   ·exact ⟨b,hb,by have e':(tornT q.2.t q.1).n=q.2.t.n:=rfl;omega⟩
   ·have e':q.2.t.what=2:=e;omega
  have hGm:∀ k,G k->¬ OneB m2 k:=fun k e e2=>by have e':k=m2:=e2;have:=hG2 k e;omega
  refine x_block (x_regionL (xl_Fb ?_))
  refine xl_Lc ?_
  refine xl_Lb ?_
  refine xm ?_
  refine xl_callv (hact.2 w10 (OneB m2) (hkw.then (kpc:Keep NoB w10 w10) (fun _ _ h=>h.elim)) hGm m2 (fun k=>G k\/Gn k) l q.1 (hFl.ext (kpc:Keep NoB w10 w10)) (fun e=>hFl.out (.inl e)) hpreq hqn (hlens q.2 hqw) hul) ?_
  rintro _ w11 ⟨rfl,G1,l1,hF1,hl1,hG1,lk4⟩
  refine xl_nil ?_
  refine ⟨fun j=>j=m2\/(Gn j\/((w10).heap.size<=j/\G1 j)),⟨fun j=>Gn j\/((w10).heap.size<=j/\G1 j),l1,?_,?_,fun _=>Iff.rfl,?_,?_⟩,?_,?_⟩
  ·refine hF1.mono (fun j e=>?_) (fun j e=>?_) ?_
   ·rcases hG1 j e with (e2 | e2) | e2
    ·exact .inl e2
    ·exact .inr (.inl e2)
    ·exact .inr (.inr ⟨e2,e⟩)
   ·rcases e with e | e | ⟨_,e⟩
    ·exact Nat.lt_of_lt_of_le (hG2 j e) (Nat.le_trans hwE (Nat.le_trans hkw.size Ge.le))
    ·exact Nat.lt_of_lt_of_le (hFl.lt j (.inr e)) Ge.le
    ·exact hF1.lt j e
   ·rintro (e | e | ⟨_,e⟩)
    ·exact hFl.out (.inl e)
    ·exact hFl.out (.inr e)
    ·exact hF1.out e
  ·rw [List.length_append,List.length_singleton,htake,List.foldl_append,<- hfl]
   exact hl1
  ·rintro j (e | ⟨e,_⟩)
   ·exact hGn j e
   ·have:=hkw.size
    omega
  ·exact hkw.then (kpc:Keep (OneB m2) w10 w11) (fun j hj e=>e)
  ·exact (kpc:Keep (OneB m2) w10 w11).mono (fun j _ e=>.inl ((hFe j).2 (.inl e)))
  ·rintro j (e | e | ⟨e,_⟩)
   ·exact .inl (.inl ((hFe j).2 (.inl e)))
   ·exact .inl (.inl ((hFe j).2 (.inr e)))
   ·exact .inr (by omega)
 case normal=>
  intro D12 pre F w12 hfin hI hkF hsF hD12 hge12 hnF12
  obtain ⟨Gn,l,hFl,hfl,hFe,hGn,hkw⟩:=hI
  have hjn:=finT_len hfin
  rw [hjn,List.take_of_length_le (Nat.le_refl _)] at hfl
  haveI lkB:Lk w12 _ (OneB m2):=⟨hkF⟩
  haveI:Blk w12 b6 _:=ii
  haveI sM:SubF (OneB m2) NoB w:=⟨fun k hk e=>by have e':k=m2:=e;omega⟩
  have hDg:=hge12
  have hDn:=hnF12
  have hDl:D12<(w12).heap.size:=Has.lt
  have hDw2:w.heap.size<=D12:=Nat.le_trans hwE hDg
  haveI sD:SubF (fun k=>k∈[D12]) NoB w:=⟨fun k hk e=>by simp at e;omega⟩
  have hDm:D12≠m2:=fun e=>hDn ((hFe _).2 (.inl e))
  have hDG:∀ k,(G k\/Gn k)->k≠D12:=fun k e e2=>by
   subst e2
   rcases e with e | e
   ·have:=hG2 _ e;omega
   ·exact hDn ((hFe _).2 (.inr e))
  refine x_seq ?_
  refine x_drawL (NoB) (allS) (.take 0 (.take 1 (.take 3 (.take 4 (.take 5 (.take 6 (.eff 2 (.take 7 (.eff 8 (.take 9 (.take 10 .done))))))))))) mixed (by kernel_rfl) (fun _ _ _ _ _ h=>h) (fun w13 l13=>?_)
  refine xt_Lb rfl ?_
  refine xt_Lb rfl ?_
  refine xt_v rfl v_move (xt_Nc rfl ?_)
  refine xt_Fb rfl ?_
  refine xt_Lc rfl ?_
  refine xt_call rfl (copied_ok m2 (fun k=>G k\/Gn k) l w13 (hFl.ext (kpc:Keep NoB _ w13))) ?_
  rintro _ w14 ⟨⟨m3,rfl,hF3,hg3⟩,lk5⟩
  refine ⟨kpc,?_⟩
  have hm3l:=hF3.map.lt
  have hDp:D12<(w13).heap.size:=Has.lt
  have hm2p3:m2<(w13).heap.size:=Nat.lt_of_lt_of_le hFl.map.lt Ge.le
  have hszp:=(Ge.le:w.heap.size<=(w13).heap.size)
  have hs12:∀ k,(G k\/Gn k)->k<(w13).heap.size:=fun k e=>Nat.lt_of_lt_of_le (hFl.lt k e) Ge.le
  refine xt_v rfl v_build ?_
  refine xt_e rfl (e_box fun x w15 nx lx kx=>?_)
  have hx3:m3<x:=by rw [nx.eq];exact Nat.lt_of_lt_of_le hm3l Ge.le
  haveI:NotS (fun k=>k∈[D12]) x:=⟨fun e=>by have e':=List.mem_singleton.1 e;omega⟩
  refine xt_v rfl v_assign (xt_v rfl v_assign (xt_nil ?_))
  refine x_ret ?_
  refine finM (rs:=[.tmp 4,.tmp 5]) rfl [D12] rfl (by simpa using (Blk.eq:(w15).heap[D12]?=_)) (by simp) (fun w16 lm16=>⟨_,ii,?_⟩)
  obtain ⟨hc1,hc2⟩:=crash_shape M keep torn
  have hff:(M.crash keep torn).files=(M.crash keep torn).lasts:=by rw [Disk.files,hc2];rfl
  have hali:Dm.Alike (fsP l) (M.crash keep torn).lasts:=by
   rw [hfl,<- hfold]
   exact hS.las.fold hgood
  have hnD:∀ k,k≠D12->¬ (k∈[D12]):=fun k hk e=>hk (List.mem_singleton.1 e)
  have hAt:DiskAt w16 x m2 m3 (fun k=>G k\/Gn k) ⟨D.room,l,l,[],none,0⟩:=⟨by simpa using (Blk.eq:(w16).heap[x]?=_),hFl.keep (kpc:Keep (fun k=>k∈[D12]) _ w16) (hnD _ (fun e=>hDm e.symm)) (fun k e=>hnD k (hDG k e)),hF3.keep (kpc:Keep (fun k=>k∈[D12]) _ w16) (hnD _ (by omega)) (fun k e=>hnD k (hDG k e)),World.ownsRow_nil _ _ _ _,nofun,by omega,by omega,by omega,fun e=>by rcases e with e | e;have:=hG2 _ e;omega;have:=hs12 _ (.inr e);omega,nofun⟩
  refine ⟨⟨x,by simp [outV],⟨m2,m3,_,_,hAt,⟨hroom.trans hc1.symm,by rw [hc2];rfl,by rw [hff];exact hali,hali,hS.ok.crash keep torn,?_,by rw [hc2];nofun⟩,fun k e=>?_,fun k e=>?_⟩,by omega⟩,lkc⟩
  ·rw [hc2,<- hfold]
   have h1:=fold_len (partsT tl) M.lasts
   have h2:(partsT tl).length<=M.waits.length:=by
    have:=told_len D.waits (pickN keep D.waits.length) torn
    rw [<- htld] at this
    simp [partsT]
    omega
   simp only [List.length_nil]
   omega
  ·obtain ⟨q1,q2⟩:=hP k e
   refine ⟨Nat.lt_of_lt_of_le q1 Ge.le,?_⟩
   rintro ((e2 | e2 | e2 | ⟨a,ha,_⟩) | e2 | e2)
   ·omega
   ·omega
   ·omega
   ·cases ha
   ·exact q2 (.inr e2)
   ·have:=hGn k e2;omega
  ·refine ⟨Nat.lt_of_lt_of_le e Ge.le,?_⟩
   rintro (e2 | e2 | e2 | ⟨a,ha,_⟩)
   ·omega
   ·omega
   ·omega
   ·cases ha
 case jump=>
  exact fun _ _ _ _ _ h=>h.elim
end Go.Proofs.YtigmfcgeljjgnaaGreatDoor
namespace Go.Proofs.YtigmfcgeljjgnaaGreatDoor
open Go.Wst
open Go.Wst.Dm Go.Wst.Sg
def AlG (tl:Seen):Seen->Prop:=fun pre=>pre.length<=tl.length/\pre=tl.take pre.length
def FinG (tl:Seen):Seen->Prop:=fun pre=>pre=tl
theorem alG_step {tl:Seen} {k:Nat} (h:k<tl.length):AlG tl (tl.take k++[tl[k]]):=by
 have h1:tl.take k++[tl[k]]=tl.take (k+1):=(take_snoc tl k h).symm
 rw [h1]
 refine ⟨by rw [List.length_take];omega,?_⟩
 rw [List.length_take,Nat.min_eq_left (by omega)]
theorem alG_last {tl:Seen} {pre:Seen} {v:List Value} (h:AlG tl (pre++[v])):∃ hl:pre.length<tl.length,v=tl[pre.length]/\pre=tl.take pre.length:=by
 obtain ⟨h1,h2⟩:=h
 have hl:pre.length<tl.length:=by simp at h1;omega
 refine ⟨hl,?_⟩
 rw [List.length_append,List.length_cons,List.length_nil,Nat.zero_add,take_snoc tl _ hl] at h2
 have h3:=List.append_inj h2 (by rw [List.length_take,Nat.min_eq_left (by omega)])
 exact ⟨by simpa using h3.2,h3.1⟩
def tlF (l:List En):Seen:=(List.range l.length).map (fun k=>[Value.int .i64 ((frames (l.take (k+1))).length:Int),.agg (enC (l.getD k En.zero)).toArray])
theorem tlF_len (l:List En):(tlF l).length=l.length:=by simp [tlF]
theorem tlF_get {l:List En} {k:Nat} (h:k<l.length) (h2:k<(tlF l).length):(tlF l)[k]=[Value.int .i64 ((frames (l.take (k+1))).length:Int),.agg (enC l[k]).toArray]:=by
 simp [tlF,List.getD_eq_getElem?_getD,List.getElem?_eq_getElem h]
def ScanAt (c:Nat) (w:World):Prop:=∃ (a b:Value) (y:Int),w.heap[c]?=some (.cells #[a,b,.int .i64 y] 148 (0,0))
def WhyW (c:Nat) (w w':World):Prop:=Keep (OneB c) w w'/\∃ (a b:Value) (y x:Int),w.heap[c]?=some (.cells #[a,b,.int .i64 y] 148 (0,0))/\w'.heap[c]?=some (.cells #[a,b,.int .i64 x] 148 (0,0))
abbrev framesV (bw bb:Nat):Value:=.func (.func 125) ([]:List Value).toArray [ptrV bw,ptrV bb].toArray
set_option maxHeartbeats 1000000 in
theorem frames1_ok (y:Value) (bw bb c:Nat) (G:Nat->Prop) (A:Option Addr) (n cap:Nat) (bs:By) (I J:Seen->(Nat->Prop)->World->Prop) (F:Nat->Prop) (w:World) [kbw:Blk w bw (.cells #[.pointer (some ⟨c,2,none⟩)] 169 (0,0))] [kbb:Blk w bb (.cells #[.slice A n cap] 60 (0,0))] (hr:FRow w G A (bytesC bs)) (hl:bs.length=n) (hn:n<=100000000) (hcap:n<=cap) (w0:World) (hy:YieldsE Tryz.prog y (AlG (tlF (allB bs))) NoE I J w0 w.heap.size) (hRd:∀ pre F W,I pre F W->ScanAt c W) (hWr:∀ pre F W W',I pre F W->WhyW c W W'->I pre F W') (hFc:F c) (hw0:w0.heap.size<=w.heap.size) (h0:I [] F w) (hF:∀ k,F k->¬ (k=bw\/k=bb\/G k)):Ret Tryz.prog 125 #[y,ptrV bw,ptrV bb] w (fun _ w'=>∃ pre F',((FinG (tlF (allB bs)) pre/\I pre F' w')\/J pre F' w')/\Keep F w w'/\Sub F' F w):=by
 obtain ⟨a0,b0,y0,hc0⟩:=hRd _ _ _ h0
 haveI kc0:Blk w c (.cells #[a0,b0,.int .i64 y0] 148 (0,0)):=⟨hc0⟩
 obtain ⟨l,hl0⟩:∃ l,l=allB bs:=⟨_,rfl⟩
 rw [<- hl0] at hy ⊢
 have hcl:c<w.heap.size:=(Array.getElem?_eq_some_iff.1 hc0).1
 have hbwc:bw≠c:=fun e=>hF c hFc (.inl e.symm)
 have hbbc:bb≠c:=fun e=>hF c hFc (.inr (.inl e.symm))
 haveI:NeB bw c:=⟨hbwc⟩
 haveI:NeB bb c:=⟨hbbc⟩
 refine ret_of_x (N:=35) (l:=[y,ptrV bw,ptrV bb]) Tryz.func125 rfl rfl (Nat.le_of_ble_eq_true rfl) ?_
 refine xq (xz ?_)
 refine xq (xl_Lc ?_)
 refine xl_Nc ?_
 refine xl_s (e_store fun w1 l1 k1=>?_)
 refine xl_nil ?_
 have hI0:I [] F w1:=hWr _ _ _ _ h0 ⟨kpc,a0,b0,y0,0,hc0,Blk.eq⟩
 have hk0:Keep F w w1:=(kpc:Keep (OneB c) w w1).mono (fun k _ e=>by have e':k=c:=e;rw [e'];exact hFc)
 refine x_block ?_
 refine x_loop (fun t τ ds w'=>ds=[]/\∃ (k:Nat) (Fc:Nat->Prop),t=l.length - k/\k<=l.length/\I ((tlF l).take k) Fc w'/\Keep F w w'/\Sub Fc F w/\(frames (l.take k)).length<=n/\allB (bs.drop (frames (l.take k)).length)=l.drop k/\Ev τ 0 y/\Ev τ 1 (ptrV bw)/\Ev τ 2 (ptrV bb)/\Ev τ 4 (.int .i64 ((frames (l.take k)).length:Int))) (l.length) ?start ?round
 case start=>
  exact ⟨rfl,0,F,rfl,Nat.zero_le _,hI0,hk0,Sub.refl _ _,Nat.zero_le _,by rw [hl0];rfl,ii,ii,ii,evc⟩
 case round=>
  intro m τ2 ds2 w2 hI
  obtain ⟨rfl,k,Fc,rfl,hk,hI,hkF,hsF,hat,hdrop,e0,e1,e2,e4⟩:=hI
  obtain ⟨at',hat'⟩:∃ x,x=(frames (l.take k)).length:=⟨_,rfl⟩
  rw [<- hat'] at hat hdrop e4
  haveI kbw1:Blk w2 bw (.cells #[.pointer (some ⟨c,2,none⟩)] 169 (0,0)):=⟨(hkF.block bw (Array.getElem?_eq_some_iff.1 kbw.eq).1 (fun e=>hF _ e (.inl rfl))).trans kbw.eq⟩
  haveI kbb1:Blk w2 bb (.cells #[.slice A n cap] 60 (0,0)):=⟨(hkF.block bb (Array.getElem?_eq_some_iff.1 kbb.eq).1 (fun e=>hF _ e (.inr (.inl rfl)))).trans kbb.eq⟩
  have hr1:=hr.keep hkF (fun j hj e=>hF _ e (.inr (.inr hj)))
  obtain ⟨a1,b1,y1,hc1⟩:=hRd _ _ _ hI
  haveI kc1:Blk w2 c (.cells #[a1,b1,.int .i64 y1] 148 (0,0)):=⟨hc1⟩
  have hBw:w.heap.size<=(w2).heap.size:=hkF.size
  refine x_seq (xq (xm (xl_Lc ?_)))
  refine xl_v v_len (xl_v v_lss (xl_nil ?_))
  refine x_if (fun c1=>?_) (fun c1=>?_)
  ·refine x_skip (x_block (x_seq ?_))
   obtain ⟨A1,hA1⟩:∃ A1,A1=(if cap=at' then A else A.map (·.add (at'*1))):=⟨_,rfl⟩
   haveI hrA:Row w2 A1 (bytesC (bs.drop at')):=⟨by rw [hA1];exact brow_drop hr1.row (by omega)⟩
   obtain ⟨e,m,no,hrd⟩:∃ e m no,readF (bs.drop at')=(e,m,no):=⟨_,_,_,rfl⟩
   refine x_regionL (xl_Lc ?_)
   refine xm ?_
   refine xl_v (v_congr (u:=.slice A1 (n - at') (cap - at')) (v_sliceL at' rfl (by omega)) (by rw [hA1])) ?_
   refine xl_call (wread_ok A1 (n - at') (cap - at') (bs.drop at') w2 (by rw [List.length_drop,hl]) (by omega) (by omega)) ?_
   rintro _ w3 ⟨rfl,lk3⟩
   simp only [hrd]
   refine xm (xl_v v_extract (xl_v v_extract (xl_v v_extract ?_)))
   refine xl_e (e_alloc fun b4 w4 n4 l4 k4=>?_)
   refine xl_s (e_storeA fun w5 l5 k5=>?_)
   refine xa (xz ?_)
   refine x_seq (xq (xm (xl_v v_neq (xl_nil ?_))))
   refine x_if (fun c2=>?_) (fun c2=>?_)
   ·have hno:no≠0:=by simpa using c2
    have hend:l.drop k=[]:=by rw [<- hdrop];exact allB_bad hrd hno
    have hkl:k=l.length:=by have:=congrArg List.length hend;simp at this;omega
    refine xq ?_
    have hI4:I ((tlF l).take k) Fc w5:=hy.i.keep _ _ _ _ _ hI (kpc:Keep NoB w2 w5) (fun _ _ h=>h) (fun _ h=>h.elim)
    have hc4:(w5).heap[c]?=some (.cells #[a1,b1,.int .i64 y1] 148 (0,0)):=Blk.eq
    have hkF4:Keep F w w5:=hkF.then (kpc:Keep NoB w2 w5) (fun _ _ h=>h.elim)
    obtain ⟨w4,hw4⟩:∃ x,x=w5:=⟨_,rfl⟩
    have hkp:Keep NoB w4 w5:=by rw [hw4];exact Keep.refl _ _
    rw [<- hw4] at hI4 hc4 hkF4
    refine xl_Lc ?_
    refine xm (xl_Nc ?_)
    refine xl_s (e_store fun w6 l6 k6=>?_)
    refine xl_nil ?_
    refine x_ret ?_
    refine fin0r rfl ?_
    have hk5:Keep (OneB c) w4 w6:=by rw [hw4];exact kpc
    refine ⟨_,Fc,.inl ⟨?_,hWr _ _ _ _ hI4 ⟨hk5,a1,b1,y1,no,hc4,Blk.eq⟩⟩,hkF4.then hk5 (fun j _ e=>by have e':j=c:=e;rw [e'];exact hFc),hsF⟩
    rw [FinG,List.take_of_length_le (by rw [tlF_len];omega)]
   have hno:no=0:=by simpa using c2
   subst hno
   have hcons:=allB_cons hrd
   rw [hdrop] at hcons
   have hk1:k<l.length:=by
    rcases Nat.lt_or_ge k l.length with h | h
    ·exact h
    ·rw [List.drop_of_length_le h] at hcons;cases hcons
   rw [List.drop_eq_getElem_cons hk1] at hcons
   injection hcons with hl1 hl2
   have hkt:k<(tlF l).length:=by rw [tlF_len];exact hk1
   obtain ⟨hR,hm,hb⟩:=Go.Wst.Sg.read_ok hrd
   have hfl:=frame_len hR
   have hml:m<=n - at':=by
    have:=congrArg List.length hb
    simp at this
    omega
   have hatk:((at':Int)+(m:Int))=((frames (l.take (k+1))).length:Int):=by
    rw [take_snoc l k hk1,frames,List.flatMap_append,List.length_append,<- frames,<- hat',hl1,hm]
    simp
   refine x_skip (xq (xm (xm ?_)))
   refine xl_v (v_add (by omega)) ?_
   refine xz ?_
   refine xq (xm (xm (xl_Lb ?_)))
   have hal:AlG (tlF l) ((tlF l).take k++[(tlF l)[k]]):=alG_step hkt
   have hI4:I ((tlF l).take k) Fc w5:=hy.i.keep _ _ _ _ _ hI (kpc:Keep NoB w2 w5) (fun _ _ h=>h) (fun _ h=>h.elim)
   have htl:(tlF l)[k]=[Value.int .i64 ((at':Int)+(m:Int)),.agg (enC e).toArray]:=by rw [tlF_get hk1 hkt,hatk,hl1]
   rw [htl] at hal
   refine xl_callv (hy.step _ _ Fc NoB w5 hal hI4 (fun _ h=>h) (fun _ h=>h.elim) (fun _ h=>h.elim)) ?_
   rintro _ w7 ⟨bo,F2,rfl,hI3,hk3,hs3⟩
   have hkB:Keep Fc w2 w7:=((kpc:Keep NoB w2 w5).mono (fun _ _ h=>h.elim)).then hk3 (fun j hj e=>e.elim id (fun e=>e.elim))
   have hkw:Keep F w w7:=hkF.then hkB (fun j hj e=>(hsF j e).elim id (fun h=>by omega))
   have hsw:Sub F2 F w:=by
    intro j hj
    rcases hs3 j hj with (e | e) | e
    ·exact hsF j e
    ·exact e.elim
    ·have:=(Ge.le:(w2).heap.size<=(w5).heap.size);exact .inr (by omega)
   refine xl_v v_not (xl_nil ?_)
   refine x_condE (fun c3=>?_) (fun c3=>?_)
   ·refine x_ret ?_
    refine fin0r rfl ?_
    rw [if_neg (by simpa using c3)] at hI3
    exact ⟨_,F2,.inr hI3,hkw,hsw⟩
   refine x_skip ?_
   rw [if_pos (by simpa using c3)] at hI3
   refine ⟨_,?_,rfl,k+1,F2,rfl,by omega,?_,hkw,hsw,?_,?_,ii,ii,ii,evc (congrArg (Value.int .i64) hatk)⟩
   ·omega
   ·rw [take_snoc (tlF l) k hkt,htl];exact hI3
   ·omega
   ·rw [show (frames (l.take (k+1))).length=at'+m by omega,<- List.drop_drop,hl2]
  refine x_exit ?_
  refine fin0 rfl ?_
  have hdn:at'=n:=by omega
  have hend:l.drop k=[]:=by rw [<- hdrop,List.drop_of_length_le (by omega)];rfl
  have hkl:k=l.length:=by have:=congrArg List.length hend;simp at this;omega
  refine ⟨_,Fc,.inl ⟨?_,hI⟩,hkF,hsF⟩
  rw [FinG,List.take_of_length_le (by rw [tlF_len];omega)]
theorem frames_ge {l:List En} (h:∀ e∈l,Right e):9*l.length<=(frames l).length:=by
 induction l with
 | nil=>simp [frames]
 | cons e l ih=>
   have h1:=(frame_len (h e List.mem_cons_self)).1
   have h2:=ih (fun x hx=>h x (List.mem_cons_of_mem _ hx))
   simp [frames] at h2 ⊢
   omega
theorem allB_len (b:By):9*(allB b).length<=b.length:=by
 obtain ⟨h1,r,h2,_⟩:=allB_spec b
 have h3:=frames_ge h1
 have h4:=congrArg List.length h2
 simp at h4
 omega
theorem itframes_ok (c:Nat) (A:Option Addr) (n cap:Nat) (w:World):Ret Tryz.prog 110 #[.slice A n cap,.pointer (some ⟨c,2,none⟩)] w (fun v w'=>(∃ bw bb,v=framesV bw bb/\w'.heap[bw]?=some (.cells #[.pointer (some ⟨c,2,none⟩)] 169 (0,0))/\w'.heap[bb]?=some (.cells #[.slice A n cap] 60 (0,0))/\w.heap.size<=bw/\w.heap.size<=bb)/\Lk w' w NoB):=by
 refine ret_of_x (N:=6) (l:=[.slice A n cap,.pointer (some ⟨c,2,none⟩)]) Tryz.func110 rfl rfl (Nat.le_of_ble_eq_true rfl) ?_
 refine xq ?_
 refine xl_e (e_box fun bb w1 n2 l2 k2=>?_)
 refine xl_e (e_box fun bw w2 n3 l3 k3=>?_)
 refine xz ?_
 refine xq (xl_v v_makeFunc (xz ?_))
 refine x_ret ?_
 refine fin1 rfl ?_
 exact ⟨⟨bw,bb,rfl,Blk.eq,Blk.eq,by rw [n3.eq];exact Ge.le,by rw [n2.eq];exact Nat.le_refl _⟩,lkc⟩
def AllE (l:List En) (c:Nat) (wb:World):Seen->(Nat->Prop)->World->Prop:=fun pre F W=>
 ∃ (k:Nat) (V:Value) (g y:Int),pre=(tlF l).take k/\k<=l.length/\W.heap[c]?=some (.cells #[V,.int .i64 g,.int .i64 y] 148 (0,0))/\W.ownsRow wb.heap.size 84 6 V k ((l.take k).flatMap enC)/\(∀ j,F j↔(j=c\/V.ownBlock=some j))/\Keep (OneB c) wb W
theorem allE_stable {l:List En} {c:Nat} {wb:World}:Stable (AllE l c wb) wb:=by
 refine ⟨?_,?_⟩
 ·rintro pre F W ⟨k,V,g,y,_,_,h1,h2,h3,_⟩ j hj
  rcases (h3 j).1 hj with e | e
  ·subst e;exact (Array.getElem?_eq_some_iff.1 h1).1
  ·exact (h2.lt j e).2
 ·rintro pre F W W' S ⟨k,V,g,y,h0,h0',h1,h2,h3,h4⟩ hk hs hn
  exact ⟨k,V,g,y,h0,h0',(hk.block c (Array.getElem?_eq_some_iff.1 h1).1 (hs c ((h3 c).2 (.inl rfl)))).trans h1,own_keep h2 hk (fun j hj=>hs j ((h3 j).2 (.inr hj))),h3,h4.then hk (fun j hlt hS=>by have:=hn j hS;omega)⟩
theorem allE_rd {l:List En} {c:Nat} {wb:World}:∀ pre F W,AllE l c wb pre F W->ScanAt c W:=by
 rintro pre F W ⟨k,V,g,y,_,_,h1,_⟩
 exact ⟨_,_,_,h1⟩
theorem allE_wr {l:List En} {c:Nat} {wb:World} (hc:c<wb.heap.size):∀ pre F W W',AllE l c wb pre F W->WhyW c W W'->AllE l c wb pre F W':=by
 rintro pre F W W' ⟨k,V,g,y,h0,h0',h1,h2,h3,h4⟩ ⟨hk,a,b,y2,x,h5,h6⟩
 rw [h1] at h5
 simp only [Option.some.injEq,Obj.cells.injEq,and_true] at h5
 have h7:=congrArg Array.toList h5
 simp only [List.cons.injEq,and_true] at h7
 obtain ⟨rfl,rfl,_⟩:=h7
 exact ⟨k,V,g,x,h0,h0',h6,own_keep h2 hk (fun j hj e=>by have e':j=c:=e;have:=(h2.lt j hj).1;omega),h3,h4.trans hk⟩
set_option maxHeartbeats 1000000 in
theorem wall_ok (G:Nat->Prop) (A:Option Addr) (n cap:Nat) (bs:By) (w:World) (hr:FRow w G A (bytesC bs)) (hG:∀ k,G k->k<w.heap.size) (hl:bs.length=n) (hn:n<=100000000) (hcap:n<=cap):Ret Tryz.prog 91 #[.slice A n cap] w (fun v w'=>(∃ A' c' g y,v=.agg #[.slice A' (allB bs).length c',.int .i64 g,.int .i64 y]/\w'.ownsRow w.heap.size 84 6 (.slice A' (allB bs).length c') (allB bs).length ((allB bs).flatMap enC))/\Lk w' w NoB):=by
 refine ret_of_x (N:=19) (l:=[.slice A n cap]) Tryz.func91 rfl rfl (Nat.le_of_ble_eq_true rfl) ?_
 refine xq ?_
 refine xl_e (e_alloc fun c w1 nc lc kc=>?_)
 refine xl_nil ?_
 refine x_seq (xq (xm (xl_Fb ?_)))
 refine xl_call (itframes_ok c A n cap w1) ?_
 rintro _ w2 ⟨⟨bw,bb,rfl,hbw,hbb,hgw,hgb⟩,lk2⟩
 haveI kbw:Blk w2 bw _:=⟨hbw⟩
 haveI kbb:Blk w2 bb _:=⟨hbb⟩
 refine xl_nil ?_
 refine x_block ?_
 have hcw:w.heap.size<=c:=Nat.le_of_eq nc.eq.symm
 have hcl:c<(w2).heap.size:=Has.lt
 obtain ⟨es,hl0⟩:∃ es,es=allB bs:=⟨_,rfl⟩
 have hlen:=allB_len bs
 rw [<- hl0] at hlen ⊢
 have hcp:c<bw/\c<bb:=by
  have h1:=(Array.getElem?_eq_some_iff.1 kc.eq).1
  exact ⟨by omega,by omega⟩
 have hszB:=(Ge.le:w.heap.size<=(w2).heap.size)
 obtain ⟨wS,hwS⟩:∃ x,x=w2:=⟨_,rfl⟩
 have hkwS:Keep NoB w wS:=by rw [hwS];exact kpc
 have hi0:AllE es c wS [] (OneB c) w2:=⟨0,.slice none 0 0,0,0,rfl,Nat.zero_le _,Blk.eq,World.ownsRow_nil _ _ _ _,fun k=>⟨fun e=>.inl e,fun e=>e.elim id (fun e=>by cases e)⟩,by rw [hwS];exact Keep.refl _ _⟩
 refine x_rangeX (ps:=[8,9]) (fun k=>k=bw\/k=bb\/G k) (AlG (tlF es)) (FinG (tlF es)) (NoE) (noE_elem) c (ScanAt c) (WhyW c) hcl (fun _ _ h=>h.1) (fun W lW=>fun y I J F w0 _ hy h1 h2 h3 hw0 h0 hF=>CallV.of_ret (frames1_ok y bw bb c G A n cap bs I J F W (hr.keep (kpc:Keep NoB w W) (fun _ _ h=>h)) hl hn hcap w0 (by rw [<- hl0];exact hy) h1 h2 h3 hw0 h0 hF |>.mono (fun v w' h=>by rw [<- hl0] at h;exact h))) (by rintro k (rfl | rfl | e);exact Has.lt;exact Has.lt;exact Nat.lt_of_lt_of_le (hG k e) hszB) (fun pre v h=>(by obtain ⟨h1,h2,_⟩:=alG_last h;rw [h2,tlF_get (by rw [tlF_len] at h1;exact h1) h1];rfl)) (AllE es c wS) (fun _ _ _ _=>False) (OneB c) (hwS ▸ allE_stable) (fun _=>⟨fun _ _ _ h=>h.elim,fun _ _ _ _ _ h=>h.elim⟩) allE_rd (hwS ▸ allE_wr hcl) rfl (hi0) (fun k hk e=>by have e':k=c:=hk;subst e';rcases e with e | e | e;omega;omega;have:=hG _ e;omega) (fun v τ n' W=>∃ (a:Int) (e:En) (c4:Nat),v=[.int .i64 a,.agg (enC e).toArray]/\Ev τ 2 (ptrV c)/\Ev τ 3 (.int .i64 a)/\Ev τ 4 (ptrV c4)/\W.heap[c4]?=some (.cells (enC e).toArray 84 (0,0))/\n'<=c4) (by rintro v τ n W1 W2 S ⟨a,e,c4,h1,h2,h3,h4,h5,h6⟩ hk hs;exact ⟨a,e,c4,h1,h2,h3,h4,(hk.block c4 (Array.getElem?_eq_some_iff.1 h5).1 (fun e=>by have:=hs _ e;omega)).trans h5,h6⟩) ?assign ?body ?normal ?jump
 case assign=>
  intro l3 pre v3 w3 hal hv3
  obtain ⟨hpl,hv,_⟩:=alG_last hal
  have hpl2:pre.length<es.length:=by rw [tlF_len] at hpl;exact hpl
  rw [tlF_get hpl2 hpl] at hv
  subst hv
  simp only [updL]
  refine xq (xz ?_)
  refine x_regionL ?_
  refine xl_e (e_alloc fun c4 w4 n4 l4 k4=>?_)
  refine xl_s (e_storeA fun w5 l5 k5=>?_)
  refine xl_nil ?_
  exact ⟨lkc,_,es[pre.length],c4,rfl,ii,ii,ii,Blk.eq,by rw [n4.eq];exact Nat.le_refl _⟩
 case body=>
  intro l pre v F Fv nb w6 τ6 ds6 hal hI hE hdis hnew hlt hnb hnbw hB
  obtain ⟨k,V,g,y,hpre,hk,hcb,hown,hFe,hkw⟩:=hI
  obtain ⟨hpl,hv,_⟩:=alG_last hal
  have hpl2:pre.length<es.length:=by rw [tlF_len] at hpl;exact hpl
  have hplk:pre.length=k:=by rw [hpre,List.length_take,tlF_len];omega
  have hk1:k<es.length:=by omega
  rw [tlF_get hpl2 hpl] at hv
  obtain ⟨a,e,c4,hve,e2,e3,e4,hc4,hnc⟩:=hB
  rw [hv] at hve
  simp only [List.cons.injEq,Value.int.injEq,Value.agg.injEq,and_true,true_and] at hve
  obtain ⟨rfl,hve2⟩:=hve
  rw [<- hve2] at hc4
  have hplk':es[pre.length]=es[k]:=by simp only [hplk]
  rw [hplk'] at hc4
  haveI kcB:Blk w6 c (.cells #[V,.int .i64 g,.int .i64 y] 148 (0,0)):=⟨hcb⟩
  obtain ⟨AV,cV,rfl,_⟩:=ownsRow_form hown
  haveI kc4:Blk w6 c4 (.cells (enC es[k]).toArray 84 (0,0)):=⟨hc4⟩
  have hszS:wS.heap.size<=(w6).heap.size:=hkw.size
  haveI nbc:NotS (OwnB (.slice AV k cV)) c:=⟨fun e=>by have h1:=(hown.lt _ (Eq.symm e)).1;rw [hwS] at h1;omega⟩
  refine x_block (x_regionL (xl_Fb ?_))
  refine xl_Lc ?_
  refine xl_Lb ?_
  refine xl_e (e_buildSliceM (vs:=enC es[k]) rfl rfl (by simp) fun b13 w7 n13 l13 k13=>?_)
  refine xl_e (e_append' (own_ext hown lkc) (Nat.le_trans hszS Ge.le) rfl Cell1L.eq (by decide) (.inl rfl) (by omega) (by omega) fun A4 c4' w8 ho4 l4 hn4=>?_)
  refine xm (xl_Fb ?_)
  refine xl_s (e_store fun w9 l9 k9=>?_)
  refine xl_Fb ?_
  refine xl_s (e_store fun w10 l10 k10=>?_)
  refine xl_nil ?_
  haveI s1:SubF (OwnB (.slice AV k cV)) (fun j=>F j\/Fv j\/nb<=j) w6:=⟨fun j _ e=>.inl ((hFe j).2 (.inr (Eq.symm e)))⟩
  haveI s2:SubF (OneB c) (fun j=>F j\/Fv j\/nb<=j) w6:=⟨fun j _ e=>.inl ((hFe j).2 (.inl e))⟩
  have hcw2:(w10).heap[c]?=some (.cells #[.slice A4 (k+1) c4',.int .i64 ((frames (es.take (pre.length+1))).length:Int),.int .i64 y] 148 (0,0)):=Blk.eq
  have hown5:=own_keep ho4 (kpc:Keep (OneB c) _ w10) (fun j hj e=>by have e':j=c:=e;have h1:=(ho4.lt j hj).1;rw [hwS] at h1;omega)
  refine ⟨fun j=>j=c\/(Value.slice A4 (k+1) c4').ownBlock=some j,⟨k+1,_,_,_,?_,hk1,hcw2,?_,fun j=>Iff.rfl,?_⟩,kpc,?_⟩
  ·have h1:=take_snoc (tlF es) k (by rw [tlF_len];exact hk1)
   rw [h1,<- hpre,tlF_get hk1 (by rw [tlF_len];exact hk1),hv]
   simp only [hplk]
  ·rw [take_snoc es k hk1,List.flatMap_append,List.flatMap_cons,List.flatMap_nil,List.append_nil]
   exact hown5
  ·exact hkw.then (kpc:Keep (fun j=>F j\/Fv j\/nb<=j) w6 w10) (fun j hlt e=>by
    rcases e with e | e | e
    ·rcases (hFe j).1 e with e | e
     ·exact e
     ·have:=(hown.lt j e).1;omega
    ·exact absurd e (hE j)
    ·rw [hwS] at hlt
     omega)
  ·rintro j (hj | hj)
   ·exact .inl (.inl ((hFe j).2 (.inl hj)))
   ·rcases hn4 with h5 | h5
    ·exact .inl (.inl ((hFe j).2 (.inr (h5 ▸ hj))))
    ·rw [h5] at hj
     cases hj
     exact .inr Ge.le
 case normal=>
  intro D11 pre F w11 hfin hI hkF hsF hD11 hge11 hnF11
  obtain ⟨k,V,g,y,hpre,hk,hcb,hown,hFe,hkw⟩:=hI
  have hkl:k=es.length:=by
   have h1:pre=tlF es:=hfin
   have h2:=congrArg List.length hpre
   rw [h1,List.length_take,tlF_len] at h2
   omega
  subst hkl
  rw [List.take_of_length_le (Nat.le_refl _)] at hown
  haveI kcB:Blk w11 c (.cells #[V,.int .i64 g,.int .i64 y] 148 (0,0)):=⟨hcb⟩
  haveI lkF:Lk w11 _ (OneB c):=⟨hkF⟩
  obtain ⟨AV,cV,rfl,_⟩:=ownsRow_form hown
  have hDw:w.heap.size<=D11:=Nat.le_trans hkwS.size (by rw [hwS];exact hge11)
  haveI:NeB D11 c:=⟨fun e=>by have:=hge11;omega⟩
  haveI nD:NotS (fun k=>k∈[D11]) c:=⟨fun e=>by simp at e;have:=hge11;omega⟩
  haveI sD:SubF (fun k=>k∈[D11]) NoB w:=⟨fun k hk e=>by simp at e;omega⟩
  refine xq (xl_Lb ?_)
  refine xl_s (e_storeA fun w12 l12 k12=>?_)
  have hown12:=own_keep hown (kpc:Keep (OneB c) _ w12) (fun j hj e=>by have e':j=c:=e;have h1:=(hown.lt j hj).1;rw [hwS] at h1;omega)
  refine xl_nil ?_
  refine x_ret ?_
  refine finM (rs:=[.cell 2 148]) rfl [D11] rfl (by simpa using (Blk.eq:(w12).heap[D11]?=_)) (by simp) (fun w13 lm13=>⟨_,ii,?_⟩)
  refine ⟨⟨AV,cV,g,y,rfl,?_⟩,lkc⟩
  exact own_mono (own_keep hown12 lm13.keep (fun j hj e=>by
   have e':j=D11:=by simpa using e
   have h1:=hown.lt j hj
   exact hnF11 ((hFe _).2 (.inr (e' ▸ hj))))) hkwS.size
 case jump=>
  exact fun _ _ _ _ _ h=>h.elim
set_option maxHeartbeats 1000000 in
theorem dread_ok (A:Option Addr) (n c:Nat) (bs:By) (w:World) [hr0:Row w A (bytesC bs)] (hl:bs.length=n) (hn:n<=100000000) (hc:n<=c):Ret Tryz.prog 152 #[.slice A n c] w (ReadR bs w):=by
 haveI hr:RowB w A w (bytesC bs):=rowB_of hr0.row
 refine ret_of_x (N:=56) (l:=[.slice A n c]) Tryz.func152 rfl rfl (Nat.le_of_ble_eq_true rfl) ?_
 refine xq ?_
 refine xl_e (e_alloc fun b2 w1 nb2 lb2 kb2=>?_)
 refine xa (xz ?_)
 refine x_seq (xq (xm (xl_v v_len (xl_v v_lss (xl_nil ?_)))))
 refine x_if (fun c1=>?_) (fun c1=>?_)
 ·refine xq (xl_v v_build ?_)
  refine xl_s (e_storeA fun w2 l2 k2=>?_)
  refine xa (xz ?_)
  refine x_ret ?_
  refine finR (rs:=[.cell 2 84,.tmp 3,.tmp 4]) rfl ?_
  exact ⟨by unfold readF;rw [if_pos (by omega)];rfl,lkc⟩
 refine x_skip (x_seq ?_)
 have h4:4<bs.length:=by omega
 obtain ⟨m,hm⟩:∃ m,m=(bs.getD 4 0).toNat:=⟨_,rfl⟩
 have hm':m=bs[4].toNat:=by rw [hm,List.getD_eq_getElem?_getD,List.getElem?_eq_getElem h4];rfl
 have hm256:=(bs[4]).toNat_lt
 refine x_regionL (xm ?_)
 refine xl_v (v_indexO 4 rfl (by omega) h4) ?_
 refine xl_v (v_loadO (k:=4) h4) ?_
 refine xl_v (v_congr (u:=.int .i64 (m:Int)) v_convert (congrArg (Value.int .i64) (by rw [hm'];exact wrap_in (by omega) (by omega)))) ?_
 refine xz ?_
 refine x_seq (xq (xm (xl_v v_eql (xm ?_))))
 refine xl_split 18 (fun g18=>?_) (fun g18=>?_)
 ·have g4:=of_decide_eq_true g18
  refine xl_gs rfl EvO.eq (xl_gs rfl EvO.eq (xl_Pk ?_))
  refine xl_nil ?_
  refine x_condT ?_
  refine xq (xl_v v_build ?_)
  refine xl_s (e_storeA fun w3 l3 k3=>?_)
  refine xa (xz ?_)
  refine x_ret ?_
  refine finR (rs:=[.cell 2 84,.tmp 3,.tmp 4]) rfl ?_
  exact ⟨by unfold readF;rw [if_neg (by omega)];simp only [<- hm];rw [if_pos (by omega)];rfl,lkc⟩
 have g4:=of_decide_eq_false g18
 refine xl_gv rfl EvO.eq v_move (xl_gv rfl EvO.eq v_gtr (xl_Pk ?_))
 refine xl_nil ?_
 refine x_if (fun c2=>?_) (fun c2=>?_)
 ·refine xq (xl_v v_build ?_)
  refine xl_s (e_storeA fun w4 l4 k4=>?_)
  refine xa (xz ?_)
  refine x_ret ?_
  refine finR (rs:=[.cell 2 84,.tmp 3,.tmp 4]) rfl ?_
  exact ⟨by unfold readF;rw [if_neg (by omega)];simp only [<- hm];rw [if_pos (by omega)];rfl,lkc⟩
 refine x_skip (x_seq (xq (xm (xl_v v_len (xm ?_)))))
 refine xl_v (v_add (by omega)) ?_
 refine xl_v v_lss (xl_nil ?_)
 refine x_if (fun c3=>?_) (fun c3=>?_)
 ·refine xq (xl_v v_build ?_)
  refine xl_s (e_storeA fun w5 l5 k5=>?_)
  refine xa (xz ?_)
  refine x_ret ?_
  refine finR (rs:=[.cell 2 84,.tmp 3,.tmp 4]) rfl ?_
  exact ⟨by unfold readF;rw [if_neg (by omega)];simp only [<- hm];rw [if_neg (by omega),if_pos (by omega)];rfl,lkc⟩
 refine x_skip (x_seq (x_seq ?_))
 have hm35:1<=m/\m<=35:=by omega
 obtain ⟨xs,hxs⟩:∃ xs,xs=(bs.drop 5).take m:=⟨_,rfl⟩
 have hxl:xs.length=m:=by rw [hxs];simp;omega
 obtain ⟨Ab,hAb⟩:∃ Ab,Ab=(if c=5 then A else A.map (·.add (5*1))):=⟨_,rfl⟩
 haveI hrb:RowB w Ab w (bytesC xs):=rowB_of (by rw [hxs,hAb];exact brow_take (brow_drop hr.row (by omega)) m)
 haveI hrt:RowB w A w (bytesC (bs.take (5+m))):=rowB_of (brow_take hr.row _)
 have hread:readF bs=if framed xs≠bs.take (5+m) then ((En.zero,0,110):En×Nat×Int) else match parse xs with | some e=>((e,5+m,0):En×Nat×Int) | none=>(En.zero,0,121):=by
  unfold readF
  rw [if_neg (by omega)]
  simp only [<- hm,<- hxs]
  rw [if_neg (by omega),if_neg (by omega)]
  split
  ·rfl
  ·cases parse xs<;>rfl
 refine x_drawL (NoB) (allS) (.take 0 (.take 1 (.take 2 (.take 3 (.take 6 (.take 7 (.take 8 (.take 9 (.take 10 (.eff 4 (.take 5 (.take 11 .done)))))))))))) mixed (by kernel_rfl) (fun _ _ _ _ _ h=>h) (fun w6 l6=>?_)
 refine xt_v rfl v_move (xt_v rfl v_move ?_)
 refine xt_v rfl (v_add (by omega)) ?_
 refine xt_v rfl (v_congr (u:=.slice Ab m (c - 5)) (v_sliceLH 5 (5+m) rfl (by omega) (by omega) (by omega)) (by rw [hAb,Nat.add_sub_cancel_left])) ?_
 refine xt_v rfl v_move (xt_v rfl v_move ?_)
 refine xt_v rfl (v_add (by omega)) ?_
 refine xt_v rfl (v_sliceH (5+m) rfl (by omega)) ?_
 haveI hrt2:Row w6 A (bytesC (bs.take (5+m))):=⟨hrt.keep (kpc:Keep NoB w w6) (fun _ h=>h.elim) |>.row⟩
 refine xt_v rfl (v_bytesStr (xs:=bs.take (5+m)) (by rw [List.length_take];omega)) ?_
 refine xt_call rfl (dframed_ok Ab m (c - 5) xs w6 hxl (by omega)) ?_
 rintro _ w7 ⟨⟨A8,c8,rfl,ho8⟩,lk8⟩
 refine ⟨kpc,?_⟩
 haveI o8:OwnI w7 A8 _ _ _ _ _ _ _:=⟨ho8⟩
 refine xt_v rfl (v_bytesStr (xs:=framed xs) rfl) ?_
 refine xt_v rfl (v_sneq) ?_
 refine xt_nil ?_
 refine x_condE (fun c4=>?_) (fun c4=>?_)
 ·have hbad:framed xs≠bs.take (5+m):=fun h=>by rw [h] at c4;simp at c4
  refine xq (xl_v v_build ?_)
  refine xl_s (e_storeA fun w8 l8 k8=>?_)
  refine xa (xz ?_)
  refine x_ret ?_
  refine finR (rs:=[.cell 2 84,.tmp 3,.tmp 4]) rfl ?_
  exact ⟨by rw [hread,if_pos hbad];rfl,lkc⟩
 have hgood:framed xs=bs.take (5+m):=by
  have h:=c4
  simp only [Bool.not_eq_false',decide_eq_true_eq,str_eq] at h
  exact h
 have hread2:readF bs=match parse xs with | some e=>((e,5+m,0):En×Nat×Int) | none=>(En.zero,0,121):=by
  rw [hread,if_neg (fun h=>h hgood)]
 refine x_skip (xq (xm (xm ?_)))
 refine xl_v (v_add (by omega)) ?_
 refine xl_v (v_congr (u:=.slice Ab m (c - 5)) (v_sliceLH 5 (5+m) rfl (by omega) (by omega) (by omega)) (by rw [hAb,Nat.add_sub_cancel_left])) ?_
 refine xl_call (dentry_ok Ab m (c - 5) xs w7 hxl (by omega) (by omega) (by omega)) ?_
 rintro _ w9 ⟨⟨e,ok,rfl,hE⟩,lk10⟩
 refine xm (xl_v v_extract (xl_v v_extract ?_))
 refine xl_e (e_alloc fun b10 w10 n10 l10 k10=>?_)
 refine xl_s (e_storeA fun w11 l11 k11=>?_)
 refine xz ?_
 refine x_seq (xq (xm (xl_v v_not (xl_nil ?_))))
 refine x_condE (fun c5=>?_) (fun c5=>?_)
 ·have hp:parse xs=none:=by
   rcases hE with ⟨h,_⟩ | ⟨_,h⟩
   ·rw [h] at c5;cases c5
   ·exact h
  refine xq (xl_v v_build ?_)
  refine xl_s (e_storeA fun w12 l12 k12=>?_)
  refine xa (xz ?_)
  refine x_ret ?_
  refine finR (rs:=[.cell 2 84,.tmp 3,.tmp 4]) rfl ?_
  exact ⟨by rw [hread2,hp];rfl,lkc⟩
 have hp:parse xs=some e:=by
  rcases hE with ⟨_,h⟩ | ⟨h,_⟩
  ·exact h
  ·rw [h] at c5;cases c5
 refine x_skip (xq (xl_Lb ?_))
 refine xm ?_
 refine xl_v (v_congr (u:=.int .i64 ((5+m:Nat):Int)) (v_add (by omega)) (congrArg (Value.int .i64) (by omega))) ?_
 refine xl_s (e_storeA fun w13 l13 k13=>?_)
 refine xa (xz ?_)
 refine x_ret ?_
 refine finR (rs:=[.cell 2 84,.tmp 3,.tmp 4]) rfl ?_
 exact ⟨by rw [hread2,hp];rfl,lkc⟩
set_option maxHeartbeats 1000000 in
theorem dall_ok (A:Option Addr) (n c:Nat) (bs:By) (w:World) [hr0:Row w A (bytesC bs)] (hl:bs.length=n) (hn:n<=100000000) (hc:n<=c):Ret Tryz.prog 118 #[.slice A n c] w (fun v w'=>(∃ A' c' g y,v=.tuple #[.slice A' (allB bs).length c',.int .i64 g,.int .i64 y]/\w'.ownsRow w.heap.size 84 6 (.slice A' (allB bs).length c') (allB bs).length ((allB bs).flatMap enC))/\Lk w' w NoB):=by
 haveI hr:RowB w A w (bytesC bs):=rowB_of hr0.row
 obtain ⟨l,hl0⟩:∃ l,l=allB bs:=⟨_,rfl⟩
 have hlen:=allB_len bs
 rw [<- hl0] at hlen ⊢
 have hrow:∀ at',RowP w (if c=at' then A else A.map (·.add (at'*1))) (bytesC (bs.drop at')):=fun at'=>brow_drop hr.row (by omega)
 refine ret_of_x (N:=36) (l:=[.slice A n c]) Tryz.func118 rfl rfl (Nat.le_of_ble_eq_true rfl) ?_
 refine xq (xa (xa (xz ?_)))
 refine xq (xz ?_)
 refine xq (xz ?_)
 refine x_seq (x_block ?_)
 refine x_loop (fun t τ ds w'=>ds=[]/\∃ (k:Nat) (A5:Option Addr) (c5:Nat),t=l.length - k/\k<=l.length/\(frames (l.take k)).length<=n/\allB (bs.drop (frames (l.take k)).length)=l.drop k/\w'.ownsRow w.heap.size 84 6 (.slice A5 k c5) k ((l.take k).flatMap enC)/\Ev τ 0 (.slice A n c)/\Ev τ 5 (.slice A5 k c5)/\Ev τ 6 (.int .i64 ((frames (l.take k)).length:Int))/\Lk w' w NoB) (l.length) ?start ?round
 case start=>
  exact ⟨rfl,0,none,0,rfl,Nat.zero_le _,Nat.zero_le _,by rw [hl0];rfl,World.ownsRow_nil _ _ _ _,ii,ii,evc,lkc⟩
 case round=>
  intro m τ1 ds1 w1 hI
  obtain ⟨rfl,k,A5,c5,rfl,hk,hat,hdrop,hown,e0,e5,e6,lk⟩:=hI
  haveI:=ownN_of hown (Nat.le_refl _)
  obtain ⟨at',hat'⟩:∃ x,x=(frames (l.take k)).length:=⟨_,rfl⟩
  rw [<- hat'] at hat hdrop e6
  haveI hrA:Row w1 (if c=at' then A else A.map (·.add (at'*1))) (bytesC (bs.drop at')):=⟨(rowB_of (hrow at')).keep (kpc:Keep NoB w w1) (fun _ h=>h.elim) |>.row⟩
  obtain ⟨e,m,no,hrd⟩:∃ e m no,readF (bs.drop at')=(e,m,no):=⟨_,_,_,rfl⟩
  refine x_seq (xq (xm (xm (xl_v v_len (xl_v v_lss (xl_nil ?_))))))
  refine x_if (fun c1=>?_) (fun c1=>?_)
  ·refine x_skip (x_block (xq (xm (xm ?_))))
   refine xl_v (v_sliceL at' rfl (by omega)) ?_
   refine xl_call (dread_ok _ (n - at') (c - at') (bs.drop at') w1 (by rw [List.length_drop,hl]) (by omega) (by omega)) ?_
   rintro _ w2 ⟨rfl,lk3⟩
   simp only [hrd]
   refine xm (xl_v v_extract (xl_v v_extract (xl_v v_extract ?_)))
   refine xl_e (e_alloc fun b3 w3 n3 l3 k3=>?_)
   refine xl_s (e_storeA fun w4 l4 k4=>?_)
   refine xa (xz ?_)
   refine x_seq (xq (xm (xl_v v_neq (xl_nil ?_))))
   refine x_if (fun c2=>?_) (fun c2=>?_)
   ·have hno:no≠0:=by simpa using c2
    have hend:l.drop k=[]:=by rw [<- hdrop];exact allB_bad hrd hno
    have hkl:k=l.length:=by have:=congrArg List.length hend;simp at this;omega
    subst hkl
    rw [List.take_of_length_le (Nat.le_refl _)] at hown
    refine xq (xm (xm (xm (xa (xa (xz ?_))))))
    refine x_ret ?_
    refine fin3 rfl ?_
    exact ⟨⟨A5,c5,_,_,rfl,own_ext hown lkc⟩,lkc⟩
   have hno:no=0:=by simpa using c2
   subst hno
   have hcons:=allB_cons hrd
   rw [hdrop] at hcons
   have hk1:k<l.length:=by
    rcases Nat.lt_or_ge k l.length with h | h
    ·exact h
    ·rw [List.drop_of_length_le h] at hcons;cases hcons
   rw [List.drop_eq_getElem_cons hk1] at hcons
   injection hcons with hl1 hl2
   obtain ⟨hR,hm,hb⟩:=Go.Wst.Sg.read_ok hrd
   have hfl:=frame_len hR
   have hml:m<=n - at':=by
    have:=congrArg List.length hb
    simp at this
    omega
   have hatk:((at':Int)+(m:Int))=((frames (l.take (k+1))).length:Int):=by
    rw [take_snoc l k hk1,frames,List.flatMap_append,List.length_append,<- frames,<- hat',hl1,hm]
    simp
   refine x_skip (xq (xm (xl_Lb ?_)))
   refine xl_e (e_buildSliceM (vs:=enC e) rfl rfl (by simp) fun b13 w5 n13 l13 k13=>?_)
   refine xl_e (e_append' (own_ext hown lkc) Ge.le rfl Cell1L.eq (by decide) (.inl rfl) (by omega) (by omega) fun A6 c6 w6 ho6 l6 hn6=>?_)
   refine xz ?_
   refine x_regionL (xm (xm ?_))
   refine xl_v (v_add (by omega)) ?_
   refine xz ?_
   refine ⟨_,?_,rfl,k+1,A6,c6,rfl,by omega,by omega,?_,?_,ii,ii,evc (congrArg (Value.int .i64) hatk),lkc⟩
   ·omega
   ·rw [show (frames (l.take (k+1))).length=at'+m by omega,<- List.drop_drop,hl2]
   ·rw [take_snoc l k hk1,List.flatMap_append,List.flatMap_cons,List.flatMap_nil,List.append_nil,hl1]
    exact ho6
  have hend:l.drop k=[]:=by rw [<- hdrop,List.drop_of_length_le (by omega)];rfl
  have hkl:k=l.length:=by have:=congrArg List.length hend;simp at this;omega
  subst hkl
  rw [List.take_of_length_le (Nat.le_refl _)] at hown
  refine x_exit (xq (xm (xm (xa (xa (xz ?_))))))
  refine x_ret ?_
  refine fin3 rfl ?_
  exact ⟨⟨A5,c5,_,_,rfl,own_ext hown lkc⟩,lkc⟩
theorem en_ne {a b:En}:(!(decide (a.epoch=b.epoch) && (decide (a.id=b.id) && (decide (a.num=b.num) && (decide (a.seq=b.seq) && (decide (a.kind=b.kind) && (decide (a.val=b.val) && true)))))))=!decide (a=b):=by
 congr 1
 rw [Bool.eq_iff_iff]
 cases a;cases b
 simp
theorem same_ok (A:Option Addr) (n c:Nat) (xs:List En) (B:Option Addr) (n' c':Nat) (ys:List En) (w:World) [hra0:Row w A (xs.flatMap enC)] [hrb0:Row w B (ys.flatMap enC)] (hl:xs.length=n) (hl':ys.length=n') (hn:n<=1000000) (hn':n'<=1000000):Ret Tryz.prog 19 #[.slice A n c,.slice B n' c'] w (fun v w'=>v=.bool (decide (xs=ys))/\Lk w' w NoB):=by
 haveI:RowB w A w (xs.flatMap enC):=rowB_of hra0.row
 haveI:RowB w B w (ys.flatMap enC):=rowB_of hrb0.row
 refine ret_of_x (N:=26) (l:=[.slice A n c,.slice B n' c']) Tryz.func19 rfl rfl (Nat.le_of_ble_eq_true rfl) ?_
 refine xq (xz ?_)
 refine x_seq (xq (xm (xl_v v_len (xm (xl_v v_len (xl_v v_neq (xl_nil ?_)))))))
 refine x_if (fun c1=>?_) (fun c1=>?_)
 ·refine xq (xz ?_)
  refine x_ret ?_
  refine fin1 rfl ?_
  exact ⟨by rw [decide_eq_false];intro e;subst e;omega,lkc⟩
 refine x_skip (x_seq (xq (xz ?_)))
 refine x_block ?_
 refine x_loop (fun m τ ds w'=>ds=[]/\∃ k:Nat,m=n - k/\k<=n/\xs.take k=ys.take k/\Ev τ 0 (.slice A n c)/\Ev τ 1 (.slice B n' c')/\Ev τ 5 (.int .i64 (k:Int))/\Lk w' w NoB) (n) ?start ?round
 case start=>
  exact ⟨rfl,0,rfl,Nat.zero_le _,by simp,ii,ii,evc,lkc⟩
 case round=>
  intro m τ1 ds1 w1 hI
  obtain ⟨rfl,k,rfl,hk,heq,e0,e1,e5,lk⟩:=hI
  refine x_seq (xq (xm (xm (xl_v v_len (xl_v v_lss (xl_nil ?_))))))
  refine x_if (fun c2=>?_) (fun c2=>?_)
  ·have hnn:n=n':=by omega
   have hk1:k<xs.length:=by omega
   have hk2:k<ys.length:=by omega
   refine x_skip (x_seq (x_block (x_seq ?_)))
   refine x_drawL (NoB) (allS) (.take 0 (.take 1 (.take 2 (.take 3 (.take 4 (.take 5 (.take 6 (.take 7 (.take 8 .done))))))))) mixed (by kernel_rfl) (fun _ _ _ _ _ h=>h) (fun w2 l2=>?_)
   refine xt_v rfl v_move (xt_v rfl v_move ?_)
   refine xt_v rfl (v_indexF k (by decide) rfl (by omega) hk1) ?_
   refine xt_v rfl (v_loadF (k:=k) (by decide) hk1) ?_
   refine xt_v rfl v_move (xt_v rfl v_move ?_)
   refine xt_v rfl (v_indexF k (by decide) rfl (by omega) hk2) ?_
   refine xt_v rfl (v_loadF (k:=k) (by decide) hk2) ?_
   refine xt_v rfl (v_congr (u:=.bool (!decide (xs[k]=ys[k]))) v_neq_struct (congrArg Value.bool en_ne)) ?_
   refine xt_nil ?_
   refine x_condE (fun c3=>?_) (fun c3=>?_)
   ·have hne:xs[k]≠ys[k]:=by simpa using c3
    refine xq (xz ?_)
    refine x_ret ?_
    refine fin1 rfl ?_
    refine ⟨?_,lkc⟩
    rw [decide_eq_false]
    intro e
    subst e
    exact hne rfl
   have heqk:xs[k]=ys[k]:=by simpa using c3
   refine x_skip (x_regionL (xm ?_))
   refine xl_v (v_add (by omega)) ?_
   refine xz ?_
   refine ⟨_,?_,rfl,k+1,rfl,by omega,?_,ii,ii,evc,lkc⟩
   ·omega
   ·rw [take_snoc xs k hk1,take_snoc ys k hk2,heq,heqk]
  refine x_exit (xq (xz ?_))
  refine x_ret ?_
  refine fin1 rfl ?_
  refine ⟨?_,lkc⟩
  have hnn:n=n':=by omega
  rw [decide_eq_true]
  rw [List.take_of_length_le (by omega),List.take_of_length_le (by omega)] at heq
  exact heq
end Go.Proofs.YtigmfcgeljjgnaaGreatDoor
