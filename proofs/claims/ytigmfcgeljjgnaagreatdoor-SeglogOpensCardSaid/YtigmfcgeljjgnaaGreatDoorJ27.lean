/- A part of the walks through the log and its document, and of the law in plain Lean: HK HL HM. -/
import Derived.Test.YtigmfcgeljjgnaaGreatDoorJ26
set_option linter.all false
set_option maxRecDepth 100000
set_option synthInstance.maxSize 100000
set_option synthInstance.maxHeartbeats 400000
namespace Go.Proofs.YtigmfcgeljjgnaaGreatDoor
open Go.Wst
open Go.Wst.Dm Go.Wst.Sg
structure PairL (P R:Nat->Prop) (b:Nat) (L:LLog) (M:Disk) (r:RLog) (W:World):Prop where
 ex:∃ F,LogW P (fun k=>R k\/F k) b L M W/\RLogW W F r M/\∀ k,F k->¬ P k
 name:r.name=L.name
 per:r.per=L.per
 sure:r.sure=L.sure
 few:r.sure<=4096
 inv:LogI M.files L.name L.per L.es
theorem LogW.wideF {P R F F':Nat->Prop} {b:Nat} {L:LLog} {M:Disk} {w W:World} (h:LogW P (fun k=>R k\/F k) b L M w) (hk:Keep NoB w W) (hF:∀ k,F' k->F k\/w.heap.size<=k) (hl:∀ k,F' k->k<W.heap.size):LogW (wide P w W) (wide (fun k=>R k\/F' k) w W) b L M W:=
 h.keep hk (fun _ _ h=>h.elim) (fun k e=>by
  rcases e with e | e
  ·exact ⟨Nat.lt_of_lt_of_le (h.lt.1 k e) hk.size,.inl e⟩
  ·exact ⟨e.2,.inr e.1⟩) (fun k e=>by
  rcases e with (e | e) | e
  ·exact ⟨Nat.lt_of_lt_of_le (h.lt.2.1 k (.inl e)) hk.size,.inl (.inl e)⟩
  ·refine ⟨hl k e,?_⟩
   rcases hF k e with e2 | e2
   ·exact .inl (.inr e2)
   ·exact .inr e2
  ·exact ⟨e.2,.inr e.1⟩)
theorem PairL.made {P R F F' S:Nat->Prop} {b b':Nat} {L L':LLog} {M M':Disk} {r':RLog} {w w4 Wp Wq We:World} (h:LogW P (fun k=>R k\/F k) b L M w) (hFP:∀ k,F k->k<w.heap.size/\¬ P k) (h2:LogW (wide P w Wp) (wide (fun k=>R k\/F' k) w Wp) b' L' M' Wq) (hr:RLogW Wp F' r' M') (hF':∀ k,F' k->F k\/w4.heap.size<=k) (hw4:w.heap.size<=w4.heap.size) (hwp:w4.heap.size<=Wp.heap.size) (lk:Lk Wq Wp (NotP (wide (fun k=>R k\/F' k) w Wp))) (hk:Keep S Wq We) (hS:∀ k,S k->w.heap.size<=k/\k<w4.heap.size) (hn:r'.name=L'.name) (hp:r'.per=L'.per) (hs:r'.sure=L'.sure) (hfew:r'.sure<=4096) (hI:LogI M'.files L'.name L'.per L'.es):PairL P R b' L' M' r' We:=by
 have hlt:=h.lt
 have hRl:=hr.at_.lt
 have hr2:RLogW Wq F' r' M':=hr.keep lk.keep (fun k e e2=>e2 (.inl (.inr e)))
 have hr3:RLogW We F' r' M':=hr2.keep hk (fun k e e2=>by
  obtain ⟨q1,q2⟩:=hS k e2
  rcases hF' k e with e3 | e3
  ·have:=(hFP k e3).1;omega
  ·omega)
 refine ⟨⟨F',h2.keep hk (fun k hk e=>.inr ⟨(hS k e).1,by have:=(hS k e).2;omega⟩) (fun k e=>?_) (fun k e=>?_),hr3,fun k e e2=>?_⟩,hn,hp,hs,hfew,hI⟩
 ·exact ⟨Nat.lt_of_lt_of_le (h2.lt.1 k (.inl e)) hk.size,.inl (.inl e)⟩
 ·exact ⟨Nat.lt_of_lt_of_le (h2.lt.2.1 k (.inl e)) hk.size,.inl (.inl e)⟩
 ·rcases hF' k e with e3 | e3
  ·exact (hFP k e3).2 e2
  ·have:=hlt.1 k e2;omega
structure LA where
 what:Int
 xs:List En
 A:Option Addr
 c:Nat
 n:Int
 keep:Int
 torn:Int
abbrev actC (x:LA):List Value:=[.int .i64 x.what,.slice x.A x.xs.length x.c,.int .i64 x.n,.int .i64 x.keep,.int .i64 x.torn]
theorem nok_L {P R:Nat->Prop} {b:Nat} {L:LLog} {M:Disk} {W:World} (h:LogW P R b L M W) (n:Nat):nameOk (fileN L.name n)=true:=nameOk_file h.name n
theorem trunc2_ok (P R:Nat->Prop) (b:Nat) (L:LLog) (M:Disk) (n:Int) (w:World) (h:LogW P R b L M w) (hn:In64 n) (hfew:M.lasts.length+M.waits.length+(ownFiles M.files L.name).length<=999990) (hI:LogI M.files L.name L.per L.es) :
    Ret Tryz.prog 17 #[ptrV b,.int .i64 n] w (fun v w'=>(∃ L2 M2 no,v=.int .i64 no/\LogW P R b L2 M2 w'/\L2.name=L.name/\L2.per=L.per/\LogI M2.files L.name L.per L2.es/\fat M2<=fat M/\M2.waits.length<=M.waits.length+4097/\(if n<0\/(L.es.length:Int)<n then no=4/\M2=M/\L2.sure=L.sure else no=0/\M2=truncM M L.name L.per L.es n.toNat/\L2.sure=min L.sure n.toNat)/\L2.d=L.d)/\Lk w' w (NotP R)):=by
 refine (truncate_ok P R b L M n w h hn hfew).mono ?_
 rintro v w' ⟨hres,lk⟩
 refine ⟨?_,lk⟩
 by_cases hc:n<0\/(L.es.length:Int)<n
 ·rw [if_pos hc] at hres
  exact ⟨L,M,4,hres.1,hres.2,rfl,rfl,hI,Nat.le_refl _,by omega,by rw [if_pos hc];exact ⟨rfl,rfl,rfl⟩,rfl⟩
 ·rw [if_neg hc] at hres
  obtain ⟨z4,L2,z5,z6,z7,z8,z9,z10⟩:=hres
  have hT:=hI.trunc h.ok h.name h.per1 (nok_L h) (n:=n.toNat) (by omega)
  have hf:=fat_trunc M L.name L.per L.es n.toNat
  have ho:=own_few h.ok hI h.per1
  have hl:=hI.len
  exact ⟨L2,_,0,z4,z5,z7,z8,by rw [z6];exact hT,hf.1,by omega,by rw [if_neg hc];exact ⟨rfl,rfl,z10⟩,z9⟩
set_option maxHeartbeats 2000000 in
theorem act4_ok (P R:Nat->Prop) (b:Nat) (L:LLog) (M:Disk) (r:RLog) (x:LA) (e k:Nat) (w:World) (tt:TypeId) (tr:Nat×Nat) [htab:Blk w 0 (.cells tabA tt tr)] (h:PairL P R b L M r w) (h0:R 0) (hE:fat M<=e) (hW:M.waits.length<=k) (he:e<=150000) (hek:e+1<=k) (hk:k<=400000) (hxn:x.xs.length<=9223372036854775807) (hx:RowP w x.A (x.xs.flatMap enC)) (hxR:x.xs≠[]->∀ a,x.A=some a->R a.block) (hn:In64 x.n) (hkp:In64 x.keep) (htn:In64 x.torn):Ret Tryz.prog 37 #[ptrV b,.agg (rlogC r).toArray,.agg (actC x).toArray] w (fun v w'=>(∃ b' L' M' r',v=.tuple #[ptrV b',.agg (rlogC r').toArray,.bool true]/\PairL P R b' L' M' r' w'/\fat M'<=e+4096/\M'.waits.length<=k+4097/\L'.name=L.name/\L'.per=L.per)/\Lk w' w (NotP R)):=by
 obtain ⟨F,hL,hR,hFP⟩:=h.ex
 have hFl:∀ j,F j->j<w.heap.size/\¬ P j:=fun j e=>⟨hR.at_.lt j e,hFP j e⟩
 haveI kb:Blk w b (.cells (logC L).toArray 100 (0,0)):=⟨hL.at_⟩
 have hnm:=h.name
 have hpr:=h.per
 have hsu:=h.sure
 have hI:=h.inv
 have hp1:=hL.per1
 have hlen:=hL.len
 have hm:=hL.ok
 have htold:(Go.Wst.Sg.told M.files r.name r.per).1=L.es:=by rw [hnm,hpr];exact hI.told hp1
 have hfl:=fat_lasts M
 have hff:=fat_files M
 have hof:=own_few hm hI hp1
 have happ:=hI.appD hp1 x.xs M L.es hm
 have hA:=hI.appAll hp1 x.xs M L.es hm
 have hAl:=hA.2.len
 have hf:=app_n L.name L.per x.xs M L.es
 have hcnt:(appD r.name r.per M x.xs).2.1<=4096:=by
  rw [hnm,hpr,happ]
  show (appAll L.name L.per M L.es x.xs).2.2.1<=4096
  omega
 haveI:NotS (NotP R) 0:=⟨fun e=>e h0⟩
 haveI i9:SubF NoB (NotP R) w:=⟨fun _ _ e=>e.elim⟩
 have hltL:=hL.lt
 refine ret_of_x (N:=123) (l:=[ptrV b,.agg (rlogC r).toArray,.agg (actC x).toArray]) Tryz.func37 rfl rfl (Nat.le_of_ble_eq_true rfl) ?_
 refine xq ?_
 refine xl_e (e_box fun b4 w1 nb4 lb4 kb4=>?_)
 refine xl_e (e_box fun b5 w2 nb5 lb5 kb5=>?_)
 refine xa ?_
 refine xl_e (e_alloc fun b7 w3 nb7 lb7 kb7=>?_)
 refine xz ?_
 refine x_seq (x_seq ?_)
 have hb7:w.heap.size<=b7/\b7<(w3).heap.size:=⟨by rw [nb7.eq];exact Ge.le,Has.lt⟩
 have hb4:w.heap.size<=b4/\b4<(w3).heap.size:=⟨by rw [nb4.eq];exact Ge.le,Has.lt⟩
 have hb5:w.heap.size<=b5/\b5<(w3).heap.size:=⟨by rw [nb5.eq];exact Ge.le,Has.lt⟩
 have hw0:w.heap.size<=(w3).heap.size:=Ge.le
 refine x_regionL (xl_Fb ?_)
 refine xl_Lc ?_
 refine xl_nil ?_
 refine x_block (xq (xl_v v_eql (xz ?_)))
 refine x_if (fun c1=>?_) (fun c1=>?_)
 ·have hw0:x.what=0:=by simpa using c1
  refine xq (xl_Lb ?_)
  refine xl_Fb ?_
  refine xl_Lc ?_
  refine xl_call (refappend_ok F r M x.A x.xs.length x.c x.xs w3 tt tr (hR.ext (kpc:Keep NoB w w3)) (hx.keep (kpc:Keep NoB w w3) (fun _ _ h=>h)) rfl (by omega) (by omega)) ?_
  rintro _ w4 ⟨⟨r',F',rfl,hR',q1,q2,q3,hF'⟩,lk3⟩
  rw [hnm,hpr] at hR' ⊢
  rw [happ] at hR' ⊢
  obtain ⟨wa4,hwa4⟩:∃ z,z=w3:=⟨_,rfl⟩
  have h74:b7<wa4.heap.size/\w.heap.size<=wa4.heap.size:=by rw [hwa4];exact ⟨Has.lt,Ge.le⟩
  rw [<- hwa4] at hF'
  obtain ⟨waR,hwaR⟩:∃ z,z=w4:=⟨_,rfl⟩
  have hR4:wa4.heap.size<=waR.heap.size:=by rw [hwa4,hwaR];exact Ge.le
  refine xm (xl_v v_extract (xl_v v_extract (xl_v v_extract ?_)))
  refine xl_e (e_alloc fun b9 w5 nb9 lb9 kb9=>?_)
  refine xl_s (e_storeA fun w6 l6 k6=>?_)
  refine xa (xz ?_)
  have hb9:waR.heap.size<=b9:=by rw [hwaR,nb9.eq];exact Ge.le
  have hRw:RLogW w6 F' r' (appAll L.name L.per M L.es x.xs).1:=hR'.keep (kpc:Keep (OneB b9) _ w6) (fun j e e2=>by
   have e':j=b9:=e2
   have:=hR'.at_.lt j e
   rw [<- hwaR] at this
   omega)
  refine xq (xm (xl_Fb ?_))
  refine xl_Lc ?_
  refine xl_call (append_ok (wide P w w6) (wide (fun k=>R k\/F' k) w w6) b L M x.A x.xs.length x.c x.xs w6 (hL.wideF (kpc:Keep NoB w w6) (fun j e=>(hF' j e).imp id (fun e=>by omega)) (hRw.ext (kpc:Keep NoB _ w6)).at_.lt) (hx.keep (kpc:Keep NoB w w6) (fun _ _ h=>h)) (fun hne a ha=>.inl (.inl (hxR hne a ha))) rfl (by omega) (by omega)) ?_
  rintro _ w7 ⟨rfl,⟨L2,hL2,p1,p2,p3,p4,p5⟩,lk4⟩
  have hRp:=hRw.ext (kpc:Keep NoB _ w6)
  have h4p:wa4.heap.size<=(w6).heap.size:=by rw [hwa4];exact Ge.le
  refine xm (xl_v v_extract (xl_v v_extract (xa (xz ?_))))
  refine x_seq ?_
  refine x_drawL (OneB b7) (allS) (.take 0 (.take 1 (.take 2 (.take 3 (.take 4 (.take 5 (.take 6 (.take 8 (.eff 7 (.take 9 (.take 10 (.take 11 (.eff 12 (.take 13 .done)))))))))))))) mixed (by kernel_rfl) (fun _ _ _ _ _ h=>h) (fun w8 l8=>?_)
  refine xt_v rfl v_move (xt_Lb rfl ?_)
  refine xt_v rfl v_move (xt_v rfl v_move ?_)
  refine xt_v rfl (v_congr (u:=.bool true) v_eql (by simp)) ?_
  refine xt_v rfl v_move (xt_gv rfl rfl EvO.eq v_move (xt_gv rfl rfl EvO.eq v_move ?_))
  refine xt_gcall rfl rfl EvO.eq (num4_ok _ _) ?_
  rintro _ _ ⟨rfl,rfl⟩
  refine ⟨kpc,?_⟩
  refine xt_gv rfl rfl EvO.eq (v_congr (u:=.bool true) v_eql (by simp)) ?_
  refine xt_Pk rfl ?_
  refine xt_v rfl v_assign ?_
  refine xt_s rfl (e_storeA fun w10 l10 k10=>?_)
  refine xt_v rfl v_assign (xt_nil ?_)
  refine x_ret ?_
  refine finR (rs:=[.tmp 6,.cell 7 38,.tmp 8]) rfl ?_
  exact ⟨⟨b,L2,_,r',by simp [outV],PairL.made hL (fun j e=>hFl j e) hL2 hRp hF' h74.2 h4p lk4 (kpc:Keep (OneB b7) _ w10) (fun j e=>by have e':j=b7:=e;omega) (by rw [q1,p2,hnm]) (by rw [q2,p3,hpr]) (by rw [q3,p5,hsu]) (by rw [q3];exact h.few) (by rw [p1,p2,p3];exact hA.2),by omega,by omega,p2,p3⟩,lkc⟩
 refine xq (xl_v v_eql (xz ?_))
 refine x_if (fun c2=>?_) (fun c2=>?_)
 ·have hw1:x.what=1:=by simpa using c2
  refine xq (xl_Lb ?_)
  refine xl_Fb ?_
  refine xl_Lc ?_
  refine xl_call (reftruncate_ok F r M x.n w3 tt tr (hR.ext (kpc:Keep NoB w w3)) hn (by have:=h.few;omega) (by rw [hnm];omega)) ?_
  rintro _ w11 ⟨⟨r',F',M',no,rfl,hR',q1,q2,hF',hres⟩,lk3⟩
  rw [htold,hnm,hpr] at hres
  obtain ⟨wa4,hwa4⟩:∃ z,z=w3:=⟨_,rfl⟩
  have h74:b7<wa4.heap.size/\w.heap.size<=wa4.heap.size:=by rw [hwa4];exact ⟨Has.lt,Ge.le⟩
  rw [<- hwa4] at hF'
  obtain ⟨waR,hwaR⟩:∃ z,z=w11:=⟨_,rfl⟩
  have hR4:wa4.heap.size<=waR.heap.size:=by rw [hwa4,hwaR];exact Ge.le
  refine xm (xl_v v_extract (xl_v v_extract ?_))
  refine xl_e (e_alloc fun b9 w12 nb9 lb9 kb9=>?_)
  refine xl_s (e_storeA fun w13 l13 k13=>?_)
  refine xz ?_
  have hb9:waR.heap.size<=b9:=by rw [hwaR,nb9.eq];exact Ge.le
  have hRw:RLogW w13 F' r' M':=hR'.keep (kpc:Keep (OneB b9) _ w13) (fun j e e2=>by
   have e':j=b9:=e2
   have:=hR'.at_.lt j e
   rw [<- hwaR] at this
   omega)
  obtain ⟨wT,hwT⟩:∃ z,z=w13:=⟨_,rfl⟩
  refine x_seq ?_
  have hLw:=hL.wideF (kpc:Keep NoB w w13) (fun j e=>(hF' j e).imp id (fun e=>by omega)) hRw.at_.lt
  obtain ⟨wS,hwS⟩:∃ z,z=w13:=⟨_,rfl⟩
  have h4p:wa4.heap.size<=wS.heap.size:=by rw [hwa4,hwS];exact Ge.le
  haveI hnS7:NotS (NotP (wide (fun k=>R k\/F' k) w w13)) b7:=⟨fun e=>e (.inr ⟨hb7.1,Has.lt⟩)⟩
  haveI hnS9:NotS (NotP (wide (fun k=>R k\/F' k) w w13)) b9:=⟨fun e=>e (.inr ⟨by omega,Has.lt⟩)⟩
  haveI hnS5:NotS (NotP (wide (fun k=>R k\/F' k) w w13)) b5:=⟨fun e=>e (.inr ⟨hb5.1,Has.lt⟩)⟩
  refine x_drawL (NotP (wide (fun k=>R k\/F' k) w w13)) (allS) (.take 0 (.take 1 (.take 2 (.take 3 (.take 4 (.takeA 7 (.eff 5 (.eff 6 (.takeA 8 (.take 9 (.free 10 (.take 11 .done)))))))))))) mixed (by kernel_rfl) (fun _ _ _ _ _ h=>h) (fun w14 l14=>?_)
  refine xt_v rfl v_move (xt_Lb rfl ?_)
  refine xt_v rfl v_move (xt_Fb rfl ?_)
  refine xt_Lc rfl ?_
  refine xt_av rfl v_move ?_
  refine xt_call rfl (trunc2_ok _ _ b L M x.n w14 (hLw.ext (kpc:Keep NoB _ w14)) hn (by omega) hI) ?_
  rintro _ w15 ⟨⟨L2,M2,no2,rfl,hL2,p2,p3,hI2,hf1,hf2,hres2,_⟩,lk4⟩
  refine ⟨kpc,?_⟩
  obtain ⟨rfl,rfl,p5,hsm⟩:no2=no/\M2=M'/\r'.sure=L2.sure/\r'.sure<=4096:=by
   have hfw:=h.few
   by_cases hc:x.n<0\/(L.es.length:Int)<x.n
   ·rw [if_pos hc] at hres hres2
    exact ⟨by rw [hres.1,hres2.1],by rw [hres.2.1,hres2.2.1],by rw [hres.2.2,hres2.2.2,hsu],by rw [hres.2.2];exact hfw⟩
   ·rw [if_neg hc] at hres hres2
    exact ⟨by rw [hres.1,hres2.1],by rw [hres.2.1,hres2.2.1],by rw [hres.2.2,hres2.2.2,hsu],by rw [hres.2.2];omega⟩
  have lk4':Lk w15 wS (NotP (wide (fun k=>R k\/F' k) w wS)):=by rw [hwS];exact lkc
  refine xt_call rfl (num4_ok _ _) ?_
  rintro _ _ ⟨rfl,rfl⟩
  refine ⟨kpc,?_⟩
  refine xt_av rfl (v_congr (u:=.bool true) v_eql (by simp)) ?_
  refine xt_v rfl v_assign ?_
  refine xt_fs rfl (e_storeA fun w17 l17 k17=>?_)
  refine xt_v rfl v_assign (xt_nil ?_)
  refine x_ret ?_
  refine finR (rs:=[.tmp 6,.cell 7 38,.tmp 8]) rfl ?_
  rw [hwS] at h4p lk4'
  exact ⟨⟨b,L2,M2,r',by simp [outV],PairL.made hL (fun j e=>hFl j e) hL2 hRw hF' h74.2 h4p lk4' (kpc:Keep (OneB b7) _ w17) (fun j e=>by have e':j=b7:=e;omega) (by rw [q1,p2,hnm]) (by rw [q2,p3,hpr]) p5 hsm (by rw [p2,p3];exact hI2),by omega,by omega,p2,p3⟩,lkc⟩
 refine xq (xl_v v_eql (xz ?_))
 refine x_if (fun c3=>?_) (fun c3=>?_)
 ·have hw2:x.what=2:=by simpa using c3
  refine xq (xm (xl_Lb ?_))
  refine xl_call (refFlush_ok F r M w3 tt tr (hR.ext (kpc:Keep NoB w w3))) ?_
  rintro _ w18 ⟨⟨r',F',rfl,hR',q1,q2,q3,hF'⟩,lk3⟩
  obtain ⟨wa4,hwa4⟩:∃ z,z=w3:=⟨_,rfl⟩
  have h74:b7<wa4.heap.size/\w.heap.size<=wa4.heap.size:=by rw [hwa4];exact ⟨Has.lt,Ge.le⟩
  rw [<- hwa4] at hF'
  have hts:(Go.Wst.Sg.told M.flush.files r.name r.per).1=L.es:=htold
  rw [hts] at q3
  have hRw:=hR'
  refine xm ?_
  refine xl_call (lflush_ok (wide P w w18) (wide (fun k=>R k\/F' k) w w18) b L M w18 (hL.wideF (kpc:Keep NoB w w18) (fun j e=>(hF' j e).imp id (fun e=>by omega)) (hRw.ext (kpc:Keep NoB _ w18)).at_.lt)) ?_
  rintro _ w19 ⟨rfl,hL2,lk4⟩
  have hRp:=hRw.ext (kpc:Keep NoB _ w18)
  have h4p:wa4.heap.size<=(w18).heap.size:=by rw [hwa4];exact Ge.le
  refine xl_call (num4_ok _ _) ?_
  rintro _ _ ⟨rfl,rfl⟩
  refine xl_v (v_congr (u:=.bool true) v_eql (by simp)) ?_
  refine xa ?_
  refine xl_s (e_storeA fun w21 l21 k21=>?_)
  refine xz ?_
  refine x_ret ?_
  refine finR (rs:=[.tmp 6,.cell 7 38,.tmp 8]) rfl ?_
  have hf:=fat_flush M
  exact ⟨⟨b,_,M.flush,r',by simp [outV],PairL.made hL (fun j e=>hFl j e) hL2 hRp hF' h74.2 h4p lk4 (kpc:Keep (OneB b7) _ w21) (fun j e=>by have e':j=b7:=e;omega) (by rw [q1,hnm]) (by rw [q2,hpr]) q3 (by rw [q3];exact hlen) hI,by omega,by rw [hf.2];simp,rfl,rfl⟩,lkc⟩
 refine x_skip (x_seq ?_)
 refine x_drawL (NoB) (allS) (.take 0 (.take 2 (.take 3 (.eff 1 (.eff 4 (.take 5 (.take 6 (.take 7 (.take 8 (.take 9 .done)))))))))) mixed (by kernel_rfl) (fun _ _ _ _ _ h=>h) (fun w22 l22=>?_)
 refine xt_v rfl v_move (xt_Fb rfl ?_)
 refine xt_Lb rfl ?_
 refine xt_call rfl (ldisk_ok b L w22) ?_
 rintro _ _ ⟨rfl,rfl⟩
 refine ⟨kpc,?_⟩
 refine xt_call rfl (crash_ok _ _ L.d M x.keep x.torn w22 ((hL.widen (kpc:Keep NoB w w22)).disk) hkp htn) ?_
 rintro _ w24 ⟨⟨d2,rfl,hX,hgx⟩,lk11⟩
 refine ⟨kpc,?_⟩
 obtain ⟨wa4,hwa4⟩:∃ z,z=w22:=⟨_,rfl⟩
 have h74:b7<wa4.heap.size/\w.heap.size<=wa4.heap.size:=by rw [hwa4];exact ⟨Has.lt,Ge.le⟩
 have h454:b4<wa4.heap.size/\b5<wa4.heap.size:=by rw [hwa4];exact ⟨Has.lt,Has.lt⟩
 rw [<- hwa4] at hX hgx
 obtain ⟨M3,hM3⟩:∃ M3,M3=M.crash x.keep x.torn:=⟨_,rfl⟩
 have hm3:M3.ok:=by rw [hM3];exact hm.crash _ _
 have hf3:fat M3<=fat M/\M3.waits=[]:=by rw [hM3];exact fat_crash M _ _
 have hw3:M3.waits.length=0:=by rw [hf3.2];rfl
 have hl3:=fat_lasts M3
 rw [<- hM3] at hX
 have hpi:1<=(r.per:Int)/\(r.per:Int)<=256:=⟨by have:=hR.per1;omega,by have:=hR.per2;omega⟩
 have hok:logName r.name=true/\1<=(r.per:Int)/\(r.per:Int)<=256:=⟨hR.name,hpi.1,hpi.2⟩
 have hnz:=hR.size
 refine xt_v rfl v_move (xt_v rfl v_extract (xt_v rfl v_extract (xt_v rfl v_assign (xt_v rfl v_assign (xt_nil ?_)))))
 refine xq (xm (xl_Fb ?_))
 refine xl_Lc ?_
 refine xl_Fb ?_
 refine xl_Lc ?_
 refine xl_call (open2_ok' (wide P w wa4) (fun k=>k<wa4.heap.size) d2 M3 r.name (r.per:Int) w24 ((hX.narrow (fun k e=>.inl e) (fun k e=>e)).ext (kpc:Keep NoB _ w24)) (by omega) (by omega) (by omega)) ?_
 rintro _ w25 ⟨hres,lk12⟩
 rw [if_pos hok] at hres
 obtain ⟨b2,L2,rfl,hL2,p2,p3,p4,p5,p6,p7,p8⟩:=hres
 rw [Int.toNat_natCast] at hL2 p5 p3
 have hLo:=(hL2:LogW _ _ b2 L2 _ _)
 obtain ⟨waO,hwaO⟩:∃ z,z=w25:=⟨_,rfl⟩
 haveI:SubF (NotP (fun k=>k<wa4.heap.size)) (NotP R) w:=⟨fun k hk e=>absurd (show k<wa4.heap.size by omega) e⟩
 haveI:NotS (NotP (fun k=>k<wa4.heap.size)) b4:=⟨fun e=>e (by omega)⟩
 haveI:NotS (NotP (fun k=>k<wa4.heap.size)) b5:=⟨fun e=>e (by omega)⟩
 haveI:NotS (NotP (fun k=>k<wa4.heap.size)) b7:=⟨fun e=>e (by omega)⟩
 haveI:NotS (NotP (fun k=>k<wa4.heap.size)) 0:=⟨fun e=>e (by have:=(Array.getElem?_eq_some_iff.1 htab.eq).1;omega)⟩
 refine xm (xl_v v_extract (xl_v v_extract (xa (xz ?_))))
 refine x_seq ?_
 refine x_drawL (NewS w25) (allS) (.take 0 (.take 1 (.take 2 (.take 3 (.take 4 (.take 5 (.take 6 (.take 7 (.take 9 (.take 10 (.take 11 (.take 12 (.fork 8 (.fork 13 (.take 14 (.take 15 (.take 16 (.eff 17 (.eff 18 (.take 19 .done)))))) 17 (.eff 13 (.take 14 (.take 15 (.take 16 (.eff 18 (.take 19 .done))))))) 17 (.eff 8 (.eff 13 (.take 14 (.take 15 (.take 16 (.eff 18 (.take 19 .done)))))))))))))))))))) mixed (by kernel_rfl) (fun _ _ _ _ _ h=>h) (fun w26 l26=>?_)
 refine xt_Fb rfl ?_
 refine xt_Lb rfl ?_
 refine xt_Fb rfl ?_
 refine xt_Fb rfl ?_
 refine xt_Lc rfl ?_
 refine xt_Fb rfl ?_
 refine xt_Fb rfl ?_
 refine xt_Lc rfl ?_
 refine xt_Fb rfl ?_
 refine xt_Lc rfl ?_
 refine xt_Fb rfl ?_
 refine xt_Lc rfl ?_
 refine xt_fork ?_ ?_
 ·refine xt_call rfl (refcrash_ok r.R M F x.keep x.torn w26 (hR.at_.keep (kpc:Keep (NotP (fun k=>k<wa4.heap.size)) w w26) (fun j e e2=>e2 (by have:=(hFl j e).1;omega))) hR.s hkp htn) ?_
  rintro _ w27 ⟨⟨R3,F3,rfl,hs3,hR3,hF3⟩,lk13⟩
  refine ⟨kpc,?_⟩
  rw [<- hM3] at hs3
  have hwOp:waO.heap.size<=(w26).heap.size:=by rw [hwaO];exact Ge.le
  obtain ⟨waP,hwaP⟩:∃ z,z=w26:=⟨_,rfl⟩
  obtain ⟨waC,hwaC⟩:∃ z,z=w27:=⟨_,rfl⟩
  have hF3l:=hR3.lt
  rw [<- hwaP] at hF3 hwOp
  rw [<- hwaC] at hF3l
  refine xt_fork ?_ ?_
  ·refine xt_call rfl (refopen_ok F3 R3 M3 r.name (r.per:Int) w27 tt tr (hR3.ext (kpc:Keep NoB _ w27)) hs3 (by omega) (by omega) (by omega)) ?_
   rintro _ w28 ⟨hres,lk14⟩
   refine ⟨kpc,?_⟩
   rw [if_pos hok] at hres
   obtain ⟨r4,F4,rfl,hR4,s1,s2,s3,hF4⟩:=hres
   rw [Int.toNat_natCast] at hR4 s2 s3
   have hwPQ:waP.heap.size<=(w27).heap.size:=by rw [hwaP];exact Ge.le
   obtain ⟨waQ,hwaQ⟩:∃ z,z=w27:=⟨_,rfl⟩
   obtain ⟨waD,hwaD⟩:∃ z,z=w28:=⟨_,rfl⟩
   have hF4l:=hR4.at_.lt
   rw [<- hwaQ] at hF4 hwPQ
   rw [<- hwaD] at hF4l
   refine xt_v rfl v_move (xt_v rfl v_extract (xt_v rfl v_extract ?_))
   refine xt_e rfl (e_alloc fun b20 w29 nb20 lb20 kb20=>?_)
   refine xt_s rfl (e_storeA fun w30 l30 k30=>?_)
   refine xt_v rfl v_assign (xt_nil ?_)
   have hB20:waO.heap.size<=b20:=by rw [hwaO,nb20.eq];exact Ge.le
   have hord1:b20<waQ.heap.size\/waD.heap.size<=b20:=by
    first
     | exact .inl (by rw [hwaQ];exact Has.lt)
     | exact .inr (by rw [hwaD,nb20.eq];exact Ge.le)
   have hord2:b20<waP.heap.size\/waC.heap.size<=b20:=by
    first
     | exact .inl (by rw [hwaP];exact Has.lt)
     | exact .inr (by rw [hwaC,nb20.eq];exact Ge.le)
   have hw4O:wa4.heap.size<=waO.heap.size:=by rw [hwa4,hwaO];exact Ge.le
   have hR5:RLogW w30 F4 r4 (openM M3 r.name r.per):=hR4.keep (kpc:Keep (OneB b20) _ w30) (fun j e e2=>by
    have e':j=b20:=e2
    have h1:=hF4l j e
    rcases hF4 j e with e3 | e3
    ·have h2:=hF3l j e3
     rcases hF3 j e3 with e4 | e4
     ·have:=(hFl j e4).1;omega
     ·omega
    ·omega)
   refine x_seq ?_
   refine x_drawL (OneB b7) (allS) (.take 0 (.take 1 (.take 2 (.take 4 (.take 7 (.eff 3 (.eff 5 (.take 6 (.take 8 (.take 9 (.take 10 (.eff 11 (.take 12 .done))))))))))))) mixed (by kernel_rfl) (fun _ _ _ _ _ h=>h) (fun w31 l31=>?_)
   refine xt_v rfl v_move (xt_Lb rfl ?_)
   refine xt_v rfl v_move (xt_v rfl v_move (xt_v rfl v_move ?_))
   refine xt_call rfl (num4_ok _ _) ?_
   rintro _ _ ⟨rfl,rfl⟩
   refine ⟨kpc,?_⟩
   refine xt_call rfl (num4_ok _ _) ?_
   rintro _ _ ⟨rfl,rfl⟩
   refine ⟨kpc,?_⟩
   refine xt_v rfl (v_add (by omega)) ?_
   refine xt_v rfl (v_add (by omega)) ?_
   refine xt_v rfl v_eql ?_
   refine xt_v rfl v_assign ?_
   refine xt_s rfl (e_storeA fun w34 l34 k34=>?_)
   refine xt_v rfl v_assign (xt_nil ?_)
   refine x_ret ?_
   refine finR (rs:=[.tmp 6,.cell 7 38,.tmp 8]) rfl ?_
   have hf:=fat_open M3 r.name r.per
   have hO:=open_I hm3 (name:=r.name) (per:=r.per) hR.per1 (fun n=>nameOk_file hR.name n)
   have hF4a:∀ j,F4 j->F j\/waO.heap.size<=j:=fun j e=>by
    rcases hF4 j e with e3 | e3
    ·rcases hF3 j e3 with e4 | e4
     ·exact .inl e4
     ·exact .inr (by omega)
    ·exact .inr (by omega)
   have hR6:RLogW w34 F4 r4 (openM M3 r.name r.per):=hR5.keep (kpc:Keep (OneB b7) _ w34) (fun j e e2=>by
    have e':j=b7:=e2
    rcases hF4a j e with e3 | e3
    ·have:=(hFl j e3).1;omega
    ·omega)
   have hL6:LogW P (fun k=>R k\/F4 k) b2 L2 (openM M3 r.name r.per) w34:=hL2.keep (kpc:Keep (OneB b7) _ w34) (fun j _ e=>.inr ⟨by have e':j=b7:=e;omega,by have e':j=b7:=e;omega⟩) (fun j e=>⟨Nat.lt_of_lt_of_le (hltL.1 j e) Ge.le,.inl (.inl e)⟩) (fun j e=>by
    rcases e with e | e
    ·have h1:=hltL.2.1 j (.inl e)
     exact ⟨Nat.lt_of_lt_of_le h1 Ge.le,.inl (show j<wa4.heap.size by omega)⟩
    ·refine ⟨hR6.at_.lt j e,?_⟩
     rcases hF4a j e with e3 | e3
     ·have:=(hFl j e3).1
      exact .inl (show j<wa4.heap.size by omega)
     ·exact .inr (by rw [hwaO] at e3;exact e3))
   refine ⟨⟨b2,L2,openM M3 r.name r.per,r4,by simp [outV],⟨⟨F4,hL6,hR6,fun j e e2=>?_⟩,by rw [s1,p2],by rw [s2,p3],by rw [s3,p6,p5],?_,by rw [p2,p3,p5];exact hO.2⟩,by omega,by omega,by rw [p2,hnm],by rw [p3,hpr]⟩,lkc⟩
   ·rcases hF4a j e with e3 | e3
    ·exact (hFl j e3).2 e2
    ·have:=hltL.1 j e2;omega
   ·rw [s3]
    have:=tolds_len M3.files r.name (per:=r.per) hR.per1
    split<;>omega
  refine xt_e rfl (e_alloc fun b20 w35 nb20 lb20 kb20=>?_)
  refine xt_call rfl (refopen_ok F3 R3 M3 r.name (r.per:Int) w35 tt tr (hR3.ext (kpc:Keep NoB _ w35)) hs3 (by omega) (by omega) (by omega)) ?_
  rintro _ w36 ⟨hres,lk14⟩
  refine ⟨kpc,?_⟩
  rw [if_pos hok] at hres
  obtain ⟨r4,F4,rfl,hR4,s1,s2,s3,hF4⟩:=hres
  rw [Int.toNat_natCast] at hR4 s2 s3
  have hwPQ:waP.heap.size<=(w35).heap.size:=by rw [hwaP];exact Ge.le
  obtain ⟨waQ,hwaQ⟩:∃ z,z=w35:=⟨_,rfl⟩
  obtain ⟨waD,hwaD⟩:∃ z,z=w36:=⟨_,rfl⟩
  have hF4l:=hR4.at_.lt
  rw [<- hwaQ] at hF4 hwPQ
  rw [<- hwaD] at hF4l
  refine xt_v rfl v_move (xt_v rfl v_extract (xt_v rfl v_extract ?_))
  refine xt_s rfl (e_storeA fun w37 l37 k37=>?_)
  refine xt_v rfl v_assign (xt_nil ?_)
  have hB20:waO.heap.size<=b20:=by rw [hwaO,nb20.eq];exact Ge.le
  have hord1:b20<waQ.heap.size\/waD.heap.size<=b20:=by
   exact .inl (by rw [hwaQ];exact Has.lt)
  have hord2:b20<waP.heap.size\/waC.heap.size<=b20:=by
   first
    | exact .inl (by rw [hwaP];exact Has.lt)
    | exact .inr (by rw [hwaC,nb20.eq];exact Ge.le)
  have hw4O:wa4.heap.size<=waO.heap.size:=by rw [hwa4,hwaO];exact Ge.le
  have hR5:RLogW w37 F4 r4 (openM M3 r.name r.per):=hR4.keep (kpc:Keep (OneB b20) _ w37) (fun j e e2=>by
   have e':j=b20:=e2
   have h1:=hF4l j e
   rcases hF4 j e with e3 | e3
   ·have h2:=hF3l j e3
    rcases hF3 j e3 with e4 | e4
    ·have:=(hFl j e4).1;omega
    ·omega
   ·omega)
  refine x_seq ?_
  refine x_drawL (OneB b7) (allS) (.take 0 (.take 1 (.take 2 (.take 4 (.take 7 (.eff 3 (.eff 5 (.take 6 (.take 8 (.take 9 (.take 10 (.eff 11 (.take 12 .done))))))))))))) mixed (by kernel_rfl) (fun _ _ _ _ _ h=>h) (fun w38 l38=>?_)
  refine xt_v rfl v_move (xt_Lb rfl ?_)
  refine xt_v rfl v_move (xt_v rfl v_move (xt_v rfl v_move ?_))
  refine xt_call rfl (num4_ok _ _) ?_
  rintro _ _ ⟨rfl,rfl⟩
  refine ⟨kpc,?_⟩
  refine xt_call rfl (num4_ok _ _) ?_
  rintro _ _ ⟨rfl,rfl⟩
  refine ⟨kpc,?_⟩
  refine xt_v rfl (v_add (by omega)) ?_
  refine xt_v rfl (v_add (by omega)) ?_
  refine xt_v rfl v_eql ?_
  refine xt_v rfl v_assign ?_
  refine xt_s rfl (e_storeA fun w41 l41 k41=>?_)
  refine xt_v rfl v_assign (xt_nil ?_)
  refine x_ret ?_
  refine finR (rs:=[.tmp 6,.cell 7 38,.tmp 8]) rfl ?_
  have hf:=fat_open M3 r.name r.per
  have hO:=open_I hm3 (name:=r.name) (per:=r.per) hR.per1 (fun n=>nameOk_file hR.name n)
  have hF4a:∀ j,F4 j->F j\/waO.heap.size<=j:=fun j e=>by
   rcases hF4 j e with e3 | e3
   ·rcases hF3 j e3 with e4 | e4
    ·exact .inl e4
    ·exact .inr (by omega)
   ·exact .inr (by omega)
  have hR6:RLogW w41 F4 r4 (openM M3 r.name r.per):=hR5.keep (kpc:Keep (OneB b7) _ w41) (fun j e e2=>by
   have e':j=b7:=e2
   rcases hF4a j e with e3 | e3
   ·have:=(hFl j e3).1;omega
   ·omega)
  have hL6:LogW P (fun k=>R k\/F4 k) b2 L2 (openM M3 r.name r.per) w41:=hL2.keep (kpc:Keep (OneB b7) _ w41) (fun j _ e=>.inr ⟨by have e':j=b7:=e;omega,by have e':j=b7:=e;omega⟩) (fun j e=>⟨Nat.lt_of_lt_of_le (hltL.1 j e) Ge.le,.inl (.inl e)⟩) (fun j e=>by
   rcases e with e | e
   ·have h1:=hltL.2.1 j (.inl e)
    exact ⟨Nat.lt_of_lt_of_le h1 Ge.le,.inl (show j<wa4.heap.size by omega)⟩
   ·refine ⟨hR6.at_.lt j e,?_⟩
    rcases hF4a j e with e3 | e3
    ·have:=(hFl j e3).1
     exact .inl (show j<wa4.heap.size by omega)
    ·exact .inr (by rw [hwaO] at e3;exact e3))
  refine ⟨⟨b2,L2,openM M3 r.name r.per,r4,by simp [outV],⟨⟨F4,hL6,hR6,fun j e e2=>?_⟩,by rw [s1,p2],by rw [s2,p3],by rw [s3,p6,p5],?_,by rw [p2,p3,p5];exact hO.2⟩,by omega,by omega,by rw [p2,hnm],by rw [p3,hpr]⟩,lkc⟩
  ·rcases hF4a j e with e3 | e3
   ·exact (hFl j e3).2 e2
   ·have:=hltL.1 j e2;omega
  ·rw [s3]
   have:=tolds_len M3.files r.name (per:=r.per) hR.per1
   split<;>omega
 refine xt_e rfl (e_alloc fun b20 w42 nb20 lb20 kb20=>?_)
 refine xt_call rfl (refcrash_ok r.R M F x.keep x.torn w42 (hR.at_.keep (kpc:Keep (NotP (fun k=>k<wa4.heap.size)) w w42) (fun j e e2=>e2 (by have:=(hFl j e).1;omega))) hR.s hkp htn) ?_
 rintro _ w43 ⟨⟨R3,F3,rfl,hs3,hR3,hF3⟩,lk13⟩
 refine ⟨kpc,?_⟩
 rw [<- hM3] at hs3
 have hwOp:waO.heap.size<=(w42).heap.size:=by rw [hwaO];exact Ge.le
 obtain ⟨waP,hwaP⟩:∃ z,z=w42:=⟨_,rfl⟩
 obtain ⟨waC,hwaC⟩:∃ z,z=w43:=⟨_,rfl⟩
 have hF3l:=hR3.lt
 rw [<- hwaP] at hF3 hwOp
 rw [<- hwaC] at hF3l
 refine xt_call rfl (refopen_ok F3 R3 M3 r.name (r.per:Int) w43 tt tr (hR3.ext (kpc:Keep NoB _ w43)) hs3 (by omega) (by omega) (by omega)) ?_
 rintro _ w44 ⟨hres,lk14⟩
 refine ⟨kpc,?_⟩
 rw [if_pos hok] at hres
 obtain ⟨r4,F4,rfl,hR4,s1,s2,s3,hF4⟩:=hres
 rw [Int.toNat_natCast] at hR4 s2 s3
 have hwPQ:waP.heap.size<=(w43).heap.size:=by rw [hwaP];exact Ge.le
 obtain ⟨waQ,hwaQ⟩:∃ z,z=w43:=⟨_,rfl⟩
 obtain ⟨waD,hwaD⟩:∃ z,z=w44:=⟨_,rfl⟩
 have hF4l:=hR4.at_.lt
 rw [<- hwaQ] at hF4 hwPQ
 rw [<- hwaD] at hF4l
 refine xt_v rfl v_move (xt_v rfl v_extract (xt_v rfl v_extract ?_))
 refine xt_s rfl (e_storeA fun w45 l45 k45=>?_)
 refine xt_v rfl v_assign (xt_nil ?_)
 have hB20:waO.heap.size<=b20:=by rw [hwaO,nb20.eq];exact Ge.le
 have hord1:b20<waQ.heap.size\/waD.heap.size<=b20:=by
  exact .inl (by rw [hwaQ];exact Has.lt)
 have hord2:b20<waP.heap.size\/waC.heap.size<=b20:=by
  exact .inl (by rw [hwaP];exact Has.lt)
 have hw4O:wa4.heap.size<=waO.heap.size:=by rw [hwa4,hwaO];exact Ge.le
 have hR5:RLogW w45 F4 r4 (openM M3 r.name r.per):=hR4.keep (kpc:Keep (OneB b20) _ w45) (fun j e e2=>by
  have e':j=b20:=e2
  have h1:=hF4l j e
  rcases hF4 j e with e3 | e3
  ·have h2:=hF3l j e3
   rcases hF3 j e3 with e4 | e4
   ·have:=(hFl j e4).1;omega
   ·omega
  ·omega)
 refine x_seq ?_
 refine x_drawL (OneB b7) (allS) (.take 0 (.take 1 (.take 2 (.take 4 (.take 7 (.eff 3 (.eff 5 (.take 6 (.take 8 (.take 9 (.take 10 (.eff 11 (.take 12 .done))))))))))))) mixed (by kernel_rfl) (fun _ _ _ _ _ h=>h) (fun w46 l46=>?_)
 refine xt_v rfl v_move (xt_Lb rfl ?_)
 refine xt_v rfl v_move (xt_v rfl v_move (xt_v rfl v_move ?_))
 refine xt_call rfl (num4_ok _ _) ?_
 rintro _ _ ⟨rfl,rfl⟩
 refine ⟨kpc,?_⟩
 refine xt_call rfl (num4_ok _ _) ?_
 rintro _ _ ⟨rfl,rfl⟩
 refine ⟨kpc,?_⟩
 refine xt_v rfl (v_add (by omega)) ?_
 refine xt_v rfl (v_add (by omega)) ?_
 refine xt_v rfl v_eql ?_
 refine xt_v rfl v_assign ?_
 refine xt_s rfl (e_storeA fun w49 l49 k49=>?_)
 refine xt_v rfl v_assign (xt_nil ?_)
 refine x_ret ?_
 refine finR (rs:=[.tmp 6,.cell 7 38,.tmp 8]) rfl ?_
 have hf:=fat_open M3 r.name r.per
 have hO:=open_I hm3 (name:=r.name) (per:=r.per) hR.per1 (fun n=>nameOk_file hR.name n)
 have hF4a:∀ j,F4 j->F j\/waO.heap.size<=j:=fun j e=>by
  rcases hF4 j e with e3 | e3
  ·rcases hF3 j e3 with e4 | e4
   ·exact .inl e4
   ·exact .inr (by omega)
  ·exact .inr (by omega)
 have hR6:RLogW w49 F4 r4 (openM M3 r.name r.per):=hR5.keep (kpc:Keep (OneB b7) _ w49) (fun j e e2=>by
  have e':j=b7:=e2
  rcases hF4a j e with e3 | e3
  ·have:=(hFl j e3).1;omega
  ·omega)
 have hL6:LogW P (fun k=>R k\/F4 k) b2 L2 (openM M3 r.name r.per) w49:=hL2.keep (kpc:Keep (OneB b7) _ w49) (fun j _ e=>.inr ⟨by have e':j=b7:=e;omega,by have e':j=b7:=e;omega⟩) (fun j e=>⟨Nat.lt_of_lt_of_le (hltL.1 j e) Ge.le,.inl (.inl e)⟩) (fun j e=>by
  rcases e with e | e
  ·have h1:=hltL.2.1 j (.inl e)
   exact ⟨Nat.lt_of_lt_of_le h1 Ge.le,.inl (show j<wa4.heap.size by omega)⟩
  ·refine ⟨hR6.at_.lt j e,?_⟩
   rcases hF4a j e with e3 | e3
   ·have:=(hFl j e3).1
    exact .inl (show j<wa4.heap.size by omega)
   ·exact .inr (by rw [hwaO] at e3;exact e3))
 refine ⟨⟨b2,L2,openM M3 r.name r.per,r4,by simp [outV],⟨⟨F4,hL6,hR6,fun j e e2=>?_⟩,by rw [s1,p2],by rw [s2,p3],by rw [s3,p6,p5],?_,by rw [p2,p3,p5];exact hO.2⟩,by omega,by omega,by rw [p2,hnm],by rw [p3,hpr]⟩,lkc⟩
 ·rcases hF4a j e with e3 | e3
  ·exact (hFl j e3).2 e2
  ·have:=hltL.1 j e2;omega
 ·rw [s3]
  have:=tolds_len M3.files r.name (per:=r.per) hR.per1
  split<;>omega
instance encN_act:EncN actC 5:=⟨fun _=>rfl⟩
theorem few4_ok (A:Option Addr) (n c:Nat) (xs:List LA) (w:World) [hra:RowB w A w (xs.flatMap actC)] (hl:xs.length=n) (hn:n<=9223372036854775807):Ret Tryz.prog 26 #[.slice A n c] w (fun v w'=>(∃ fb,v=.bool fb/\(fb=true->n<=30))/\Lk w' w NoB):=by
 refine ret_of_x (N:=30) (l:=[.slice A n c]) Tryz.func26 rfl rfl (Nat.le_of_ble_eq_true rfl) ?_
 refine xq (xz ?_)
 refine xq (xz ?_)
 refine x_seq (xq (xz ?_))
 refine x_block ?_
 refine x_loop (fun t τ ds w'=>ds=[]/\∃ (k:Nat) (s:Int),t=31 - k/\k<=n/\k<=31/\Ev τ 0 (.slice A n c)/\Ev τ 3 (.int .i64 s)/\Ev τ 4 (.int .i64 (k:Int))/\Lk w' w NoB) (31) ?start ?round
 case start=>
  exact ⟨rfl,0,0,rfl,Nat.zero_le _,by decide,ii,ii,evc,lkc⟩
 case round=>
  intro m τ1 ds1 w1 hI
  obtain ⟨rfl,k,s,rfl,hk,hk31,e0,e3,e4,lk⟩:=hI
  refine x_seq (xq (xm (xm (xl_v v_len (xl_v v_lss (xm ?_))))))
  refine xl_split 9 (fun g9=>?_) (fun g9=>?_)
  ·have g3:=of_decide_eq_true g9
   refine xl_gv rfl EvO.eq v_move (xl_gv rfl EvO.eq v_leq (xl_Pk ?_))
   refine xl_nil ?_
   refine x_if (fun c1=>?_) (fun c1=>?_)
   ·have hk1:k<xs.length:=by omega
    refine x_skip (x_seq (x_block (x_regionL (xm (xm (xm ?_))))))
    refine xl_v (v_indexF k (by decide) rfl (by omega) hk1) ?_
    refine xl_Fb ?_
    refine xl_v (v_loadFf hk1) ?_
    refine xl_v v_len ?_
    refine xl_v (v_addw) ?_
    refine xz ?_
    refine x_regionL (xm ?_)
    refine xl_v (v_add (by omega)) ?_
    refine xz ?_
    refine ⟨_,?_,rfl,k+1,_,rfl,by omega,by omega,ii,ii,evc,lkc⟩
    omega
   refine x_exit (xq (xm (xl_v v_len (xl_v v_leq (xm ?_)))))
   refine xl_split 26 (fun g26=>?_) (fun g26=>?_)
   ·have g6:=of_decide_eq_true g26
    refine xl_gv rfl EvO.eq v_move (xl_gv rfl EvO.eq v_leq (xl_Pk ?_))
    refine xz ?_
    refine x_ret ?_
    refine fin1 rfl ?_
    first
    | exact ⟨⟨_,rfl,fun _=>by omega⟩,lkc⟩
    | exact ⟨⟨_,rfl,fun e=>by cases e⟩,lkc⟩
   have g6:=of_decide_eq_false g26
   refine xl_gs rfl EvO.eq (xl_gs rfl EvO.eq (xl_Pk ?_))
   refine xz ?_
   refine x_ret ?_
   refine fin1 rfl ?_
   first
   | exact ⟨⟨_,rfl,fun _=>by omega⟩,lkc⟩
   | exact ⟨⟨_,rfl,fun e=>by cases e⟩,lkc⟩
  have g3:=of_decide_eq_false g9
  refine xl_gs rfl EvO.eq (xl_gs rfl EvO.eq (xl_Pk ?_))
  refine xl_nil ?_
  refine x_condF ?_
  refine x_exit (xq (xm (xl_v v_len (xl_v v_leq (xm ?_)))))
  refine xl_split 26 (fun g26=>?_) (fun g26=>?_)
  ·have g6:=of_decide_eq_true g26
   refine xl_gv rfl EvO.eq v_move (xl_gv rfl EvO.eq v_leq (xl_Pk ?_))
   refine xz ?_
   refine x_ret ?_
   refine fin1 rfl ?_
   first
   | exact ⟨⟨_,rfl,fun _=>by omega⟩,lkc⟩
   | exact ⟨⟨_,rfl,fun e=>by cases e⟩,lkc⟩
  have g6:=of_decide_eq_false g26
  refine xl_gs rfl EvO.eq (xl_gs rfl EvO.eq (xl_Pk ?_))
  refine xz ?_
  refine x_ret ?_
  refine fin1 rfl ?_
  first
  | exact ⟨⟨_,rfl,fun _=>by omega⟩,lkc⟩
  | exact ⟨⟨_,rfl,fun e=>by cases e⟩,lkc⟩
theorem new3_ok (room:Int) (w:World) (hm:1<=room/\room<=16777216) :
    Ret Tryz.prog 10 #[.int .i64 room] w (fun v w'=>(∃ d,v=.tuple #[.pointer (some ⟨d,0,none⟩),.int .i64 0]/\DiskW (fun k=>k<w.heap.size) (fun k=>k<w.heap.size) d ⟨room,[],[]⟩ w'/\w.heap.size<=d)/\Lk w' w NoB):=by
 refine (new_ok room w).mono ?_
 rintro v w' ⟨h,lk⟩
 rw [if_pos hm] at h
 obtain ⟨d,mb,ml,rfl,h1,h2,h3,h4⟩:=h
 exact ⟨⟨d,rfl,DiskW.new h1 hm (fun k e=>⟨Nat.lt_of_lt_of_le e lk.keep.size,by omega,by omega,by omega⟩) (fun k e=>⟨Nat.lt_of_lt_of_le e lk.keep.size,by omega,by omega,by omega⟩),h2⟩,lk⟩
theorem refS_new {room:Int} (hm:1<=room/\room<=16777216):RefS ⟨room,[],none,0,[],none,0⟩ ⟨room,[],[]⟩:=⟨rfl,rfl,rfl,⟨hm.1,hm.2,by simp [Rise],nofun,by show ((0:Nat):Int)<=room;omega⟩,by simp,nofun⟩
theorem logI_nil (name:ByteArray) (per:Nat):LogI [] name per []:=⟨by simp,rfl,by simp,fun n _ h=>absurd rfl h,fun j h=>by simp at h⟩
theorem told_nil (name:ByteArray) {per:Nat} (hp:1<=per):(Go.Wst.Sg.told [] name per).1=[]:=(logI_nil name per).told hp
theorem open_nil (room:Int) (name:ByteArray) {per:Nat} (hp:1<=per):openM ⟨room,[],[]⟩ name per=⟨room,[],[]⟩:=LogI.again (M:=⟨room,[],[]⟩) (logI_nil name per) hp
theorem PairL.lt {P R:Nat->Prop} {b:Nat} {L:LLog} {M:Disk} {r:RLog} {W:World} (h:PairL P R b L M r W):(∀ k,P k->k<W.heap.size)/\∀ k,R k->k<W.heap.size:=by
 obtain ⟨F,h1,h2,h3⟩:=h.ex
 exact ⟨h1.lt.1,fun k e=>h1.lt.2.1 k (.inl e)⟩
theorem PairL.keep {P R:Nat->Prop} {b:Nat} {L:LLog} {M:Disk} {r:RLog} {W W':World} {S:Nat->Prop} (h:PairL P R b L M r W) (hk:Keep S W W') (hs:∀ k,k<W.heap.size->S k->P k) {P' R':Nat->Prop} (hP:∀ k,P' k->k<W'.heap.size/\(P k\/W.heap.size<=k)) (hR:∀ k,R' k->k<W'.heap.size/\(R k\/W.heap.size<=k)):PairL P' R' b L M r W':=by
 obtain ⟨F,h1,h2,h3⟩:=h.ex
 refine ⟨⟨F,h1.keep hk hs hP (fun k e=>?_),h2.keep hk (fun k e e2=>h3 k e (hs k (h2.at_.lt k e) e2)),fun k e e2=>?_⟩,h.name,h.per,h.sure,h.few,h.inv⟩
 ·rcases e with e | e
  ·obtain ⟨q1,q2⟩:=hR k e
   exact ⟨q1,q2.imp .inl id⟩
  ·exact ⟨Nat.lt_of_lt_of_le (h2.at_.lt k e) hk.size,.inl (.inr e)⟩
 ·obtain ⟨q1,q2⟩:=hP k e2
  rcases q2 with q2 | q2
  ·exact h3 k e q2
  ·have:=h2.at_.lt k e;omega
theorem PairL.cell {P R:Nat->Prop} {b:Nat} {L:LLog} {M:Disk} {r:RLog} {W W':World} {S:Nat->Prop} (h:PairL P R b L M r W) (hk:Keep S W W') (hs:∀ k,k<W.heap.size->S k->P k):PairL P R b L M r W':=
 h.keep hk hs (fun k e=>⟨Nat.lt_of_lt_of_le (h.lt.1 k e) hk.size,.inl e⟩) (fun k e=>⟨Nat.lt_of_lt_of_le (h.lt.2 k e) hk.size,.inl e⟩)
theorem PairL.ext {P R:Nat->Prop} {b:Nat} {L:LLog} {M:Disk} {r:RLog} {W W':World} (h:PairL P R b L M r W) (hk:Keep NoB W W'):PairL P R b L M r W':=h.cell hk (fun _ _ h=>h.elim)
theorem is4p_ok (P R:Nat->Prop) (b:Nat) (L:LLog) (M:Disk) (r:RLog) (w:World) (tt:TypeId) (tr:Nat×Nat) [htab:Blk w 0 (.cells tabA tt tr)] (h:PairL P R b L M r w) :
    Ret Tryz.prog 35 #[ptrV b,.agg (rlogC r).toArray] w (fun v w'=>v=.bool true/\Lk w' w NoB):=by
 obtain ⟨F,h1,h2,h3⟩:=h.ex
 exact is4_ok P _ b L M r F w tt tr h1 h2 h.name h.per h.sure h.inv
def nameP:ByteArray:=⟨#[112]⟩
theorem nameP_ok:logName nameP=true:=by decide +kernel
theorem blk_pos0 {w:World} {o:Obj} (h:Blk w 0 o):0<w.heap.size:=(Array.getElem?_eq_some_iff.1 h.eq).1
theorem PairL.new {P R Pw F4:Nat->Prop} {b:Nat} {L:LLog} {r:RLog} {room:Int} {name:ByteArray} {per:Nat} {w3 wQ W:World} (hL:LogW Pw Pw b L (openM ⟨room,[],[]⟩ name per) w3) (hp:1<=per) (hk:Keep NoB w3 W) (hr:RLogW W F4 r (openM ⟨room,[],[]⟩ name per)) (h1:L.name=name) (h2:L.per=per) (h3:L.es=(Go.Wst.Sg.told [] name per).1) (h4:L.sure=0) (h5:r.name=name) (h6:r.per=per) (h7:r.sure=0) (hF:∀ k,F4 k->wQ.heap.size<=k) (hQ:w3.heap.size<=wQ.heap.size) (hFP:∀ k,F4 k->¬ P k) (hP:∀ k,P k->k<W.heap.size/\(Pw k\/w3.heap.size<=k)) (hR:∀ k,R k->k<W.heap.size/\(Pw k\/w3.heap.size<=k)):PairL P R b L ⟨room,[],[]⟩ r W:=by
 have ho:=open_nil room name hp
 rw [ho] at hL hr
 refine ⟨⟨F4,hL.keep hk (fun _ _ h=>h.elim) hP (fun k e=>?_),hr,hFP⟩,by rw [h5,h1],by rw [h6,h2],by rw [h7,h4],by omega,?_⟩
 ·rcases e with e | e
  ·exact hR k e
  ·exact ⟨hr.at_.lt k e,.inr (by have:=hF k e;omega)⟩
 ·rw [h3,told_nil name hp,h1,h2]
  exact logI_nil name per
set_option maxHeartbeats 2000000 in
theorem played4_ok (room per:Int) (A:Option Addr) (n c:Nat) (xs:List LA) (w w00:World) (tt:TypeId) (tr:Nat×Nat) [htab:Blk w 0 (.cells tabA tt tr)] (hm:1<=room/\room<=16777216) (hper:1<=per/\per<=256) [hra:RowB w A w00 (xs.flatMap actC)] (hrs:∀ j (h:j<xs.length),RowB w xs[j].A w00 (xs[j].xs.flatMap enC)) (hns:∀ j (h:j<xs.length),In64 xs[j].n/\In64 xs[j].keep/\In64 xs[j].torn/\xs[j].xs.length<=9223372036854775807) (hl:xs.length=n) (hn:n<=31) (hge:w00.heap.size<=w.heap.size) (hw00:0<w00.heap.size):Ret Tryz.prog 27 #[.int .i64 room,.int .i64 per,.slice A n c] w (fun v w'=>(∃ b L M r,v=.tuple #[ptrV b,.agg (rlogC r).toArray,.bool true]/\PairL (fun k=>w00.heap.size<=k/\k<w.heap.size) (fun k=>k<w.heap.size) b L M r w'/\fat M<=4096*n/\M.waits.length<=140000+4097*n/\L.name=nameP/\L.per=per.toNat)/\Lk w' w NoB):=by
 haveI:Ge w w00:=⟨hge⟩
 obtain ⟨pn,hpn⟩:∃ pn:Nat,pn=per.toNat:=⟨_,rfl⟩
 have hok:logName nameP=true/\1<=per/\per<=256:=⟨nameP_ok,hper.1,hper.2⟩
 have h0:=blk_pos0 htab
 have hnz:nameP.size=1:=by decide +kernel
 refine ret_of_x (N:=79) (l:=[.int .i64 room,.int .i64 per,.slice A n c]) Tryz.func27 rfl rfl (Nat.le_of_ble_eq_true rfl) ?_
 refine xq (xa ?_)
 refine xl_e (e_alloc fun b7 w1 nb7 lb7 kb7=>?_)
 refine xz ?_
 refine xq (xm ?_)
 refine xl_call (new3_ok room w1 hm) ?_
 rintro _ w2 ⟨⟨d,rfl,hD0,hgd⟩,lk1⟩
 obtain ⟨wa1,hwa1⟩:∃ z,z=w1:=⟨_,rfl⟩
 have h71:b7<wa1.heap.size/\w.heap.size<=wa1.heap.size/\w.heap.size<=b7:=by rw [hwa1];exact ⟨Has.lt,Ge.le,by rw [nb7.eq];exact Ge.le⟩
 rw [<- hwa1] at hD0
 obtain ⟨wa2,hwa2⟩:∃ z,z=w2:=⟨_,rfl⟩
 refine xm (xl_v v_extract (xl_v v_extract (xa (xz ?_))))
 refine xq (xm ?_)
 refine xl_call (refnew_ok room w2) ?_
 rintro _ w3 ⟨hnw,lk2⟩
 rw [if_pos hm] at hnw
 obtain rfl:=hnw
 refine xm (xl_v v_extract (xl_v v_extract ?_))
 refine xl_e (e_alloc fun b11 w4 nb11 lb11 kb11=>?_)
 refine xl_s (e_storeA fun w5 l5 k5=>?_)
 refine xz ?_
 refine x_seq ?_
 have hb11:wa2.heap.size<=b11/\b11<(w5).heap.size:=⟨by rw [hwa2,nb11.eq];exact Ge.le,Has.lt⟩
 haveI:NotS (NotP (wide (fun k=>k<wa1.heap.size) wa2 w5)) b11:=⟨fun e=>e (.inr hb11)⟩
 haveI:NotS (NotP (wide (fun k=>k<wa1.heap.size) wa2 w5)) b7:=⟨fun e=>e (.inl h71.1)⟩
 haveI:NotS (NotP (wide (fun k=>k<wa1.heap.size) wa2 w5)) 0:=⟨fun e=>e (.inl (show 0<wa1.heap.size by omega))⟩
 haveI:SubF (NotP (wide (fun k=>k<wa1.heap.size) wa2 w5)) NoB w:=⟨fun k hk e=>e (.inl (show k<wa1.heap.size by omega))⟩
 refine x_regionL (xm (xm ?_))
 refine xl_call (open2_ok' (wide (fun k=>k<wa1.heap.size) wa2 w5) (wide (fun k=>k<wa1.heap.size) wa2 w5) d ⟨room,[],[]⟩ nameP per w5 (by have h9:=hD0.wide (kpc:Keep NoB _ w5);rw [<- hwa2] at h9;exact h9) (by omega) (by omega) (by simp)) ?_
 rintro _ w6 ⟨hres,lk3⟩
 rw [if_pos hok] at hres
 obtain ⟨b,L,rfl,hL,p2,p3,p4,p5,p6,p7,p8⟩:=hres
 rw [<- hpn] at hL p5 p3
 have p9:L.sure=0:=by rw [p6,if_pos rfl,p5];rw [show Disk.files ⟨room,[],[]⟩=[] from rfl,told_nil nameP (by omega)];rfl
 obtain ⟨wa3,hwa3⟩:∃ z,z=w5:=⟨_,rfl⟩
 have h3p:b11<wa3.heap.size/\wa2.heap.size<=wa3.heap.size/\wa1.heap.size<=wa3.heap.size/\w.heap.size<=wa3.heap.size:=by rw [hwa3,hwa2,hwa1];exact ⟨Has.lt,Ge.le,Ge.le,Ge.le⟩
 obtain ⟨wa4,hwa4⟩:∃ z,z=w6:=⟨_,rfl⟩
 refine xm (xl_v v_extract (xl_v v_extract (xa (xz ?_))))
 refine xq (xl_Lb ?_)
 refine xm ?_
 refine xl_call (refopen_ok NoB ⟨room,[],none,0,[],none,0⟩ ⟨room,[],[]⟩ nameP per w6 tt tr (refAt_nil _ _ (fun k e=>e.elim) _) (refS_new hm) (by omega) (by omega) (by simp)) ?_
 rintro _ w7 ⟨hres,lk4⟩
 rw [if_pos hok] at hres
 obtain ⟨r4,F4,rfl,hR4,s1,s2,s3,hF4⟩:=hres
 rw [<- hpn] at hR4 s2 s3
 have s4:r4.sure=0:=by rw [s3,if_pos rfl,show Disk.files ⟨room,[],[]⟩=[] from rfl,told_nil nameP (by omega)];rfl
 obtain ⟨wa5,hwa5⟩:∃ z,z=w6:=⟨_,rfl⟩
 obtain ⟨wa6,hwa6⟩:∃ z,z=w7:=⟨_,rfl⟩
 have h45:wa4.heap.size<=wa5.heap.size/\wa3.heap.size<=wa4.heap.size/\wa5.heap.size<=wa6.heap.size:=by rw [hwa4,hwa5,hwa3,hwa6];exact ⟨Ge.le,Ge.le,Ge.le⟩
 have hF4l:=hR4.at_.lt
 rw [<- hwa5] at hF4
 rw [<- hwa6] at hF4l
 have hF4a:∀ k,F4 k->wa5.heap.size<=k:=fun k e=>(hF4 k e).resolve_left (fun e=>e)
 refine xm (xl_v v_extract (xl_v v_extract ?_))
 refine xl_e (e_alloc fun b15 w8 nb15 lb15 kb15=>?_)
 refine xl_s (e_storeA fun w9 l9 k9=>?_)
 refine xz ?_
 refine xq (xm ?_)
 refine xl_call (num4_ok _ _) ?_
 rintro _ _ ⟨rfl,rfl⟩
 refine xm ?_
 refine xl_call (num4_ok _ _) ?_
 rintro _ _ ⟨rfl,rfl⟩
 refine xl_v (v_add (by omega)) ?_
 refine xm ?_
 refine xl_v (v_add (by omega)) ?_
 refine xm ?_
 refine xl_v (v_add (by omega)) ?_
 refine xl_v v_eql (xz ?_)
 refine x_seq (xq (xz ?_))
 refine x_block ?_
 have hb15:wa6.heap.size<=b15/\b15<(w9).heap.size:=⟨by rw [hwa6,nb15.eq];exact Ge.le,Has.lt⟩
 have hszw:=(Ge.le:w.heap.size<=(w9).heap.size)
 obtain ⟨P,hPd⟩:∃ P:Nat->Prop,P=fun k=>(w00.heap.size<=k/\k<w.heap.size)\/k=b7\/k=b11\/k=b15:=⟨_,rfl⟩
 obtain ⟨R,hRd⟩:∃ R:Nat->Prop,R=fun k=>k<w.heap.size\/k=b7\/k=b11\/k=b15:=⟨_,rfl⟩
 have hRw:RLogW w9 F4 r4 (openM ⟨room,[],[]⟩ nameP pn):=hR4.keep (kpc:Keep (OneB b15) _ w9) (fun j e e2=>by
  have e':j=b15:=e2
  have:=hF4l j e
  omega)
 have hPR:∀ k,(k<w.heap.size\/k=b7\/k=b11\/k=b15)->k<(w9).heap.size/\(wide (fun k=>k<wa1.heap.size) wa2 wa3 k\/wa4.heap.size<=k):=fun k e=>by
  rcases e with e | e | e | e
  ·exact ⟨by omega,.inl (.inl (show k<wa1.heap.size by omega))⟩
  ·exact ⟨by omega,.inl (.inl (show k<wa1.heap.size by omega))⟩
  ·exact ⟨by omega,.inl (.inr ⟨by omega,by omega⟩)⟩
  ·exact ⟨by omega,.inr (by omega)⟩
 have hP0:PairL P R b L ⟨room,[],[]⟩ r4 w9:=by
  rw [<- hwa3,<- hwa4] at hL
  refine PairL.new (wQ:=wa5) hL (by omega) (by rw [hwa4];exact kpc) hRw p2 p3 p5 p9 s1 s2 s4 hF4a (by omega) (fun k e e2=>?_) (fun k e=>?_) (fun k e=>?_)
  ·have h1:=hF4a k e
   have h2:=hF4l k e
   rw [hPd] at e2
   rcases e2 with e2 | e2 | e2 | e2<;>omega
  ·rw [hPd] at e
   exact hPR k (e.imp (fun e=>e.2) id)
  ·rw [hRd] at e
   exact hPR k e
 haveI:SubF (NotP R) NoB w:=⟨fun k hk e=>e (by rw [hRd];exact .inl hk)⟩
 haveI:Above (NotP R) w00:=⟨fun k e=>Nat.le_of_not_lt (fun h=>e (by rw [hRd];exact .inl (by omega)))⟩
 haveI:NotS (NotP R) b7:=⟨fun e=>e (by rw [hRd];exact .inr (.inl rfl))⟩
 haveI:NotS (NotP R) b11:=⟨fun e=>e (by rw [hRd];exact .inr (.inr (.inl rfl)))⟩
 haveI:NotS (NotP R) b15:=⟨fun e=>e (by rw [hRd];exact .inr (.inr (.inr rfl)))⟩
 have hR0:R 0:=by rw [hRd];exact .inl h0
 have hb7r:(w9).heap[b7]?=_:=Blk.eq
 refine x_loop (fun m τ ds w'=>ds=[]/\∃ (k b:Nat) (L:LLog) (M:Disk) (r:RLog),m=n - k/\k<=n/\PairL P R b L M r w'/\fat M<=4096*k/\M.waits.length<=140000+4097*k/\L.name=nameP/\L.per=pn/\w'.heap[b15]?=some (.cells (rlogC r).toArray 38 (0,0))/\w'.heap[b7]?=some (.cells (rlogC RLogZ).toArray 38 (0,0))/\Ev τ 2 (.slice A n c)/\Ev τ 7 (ptrV b7)/\Ev τ 13 (ptrV b)/\Ev τ 15 (ptrV b15)/\Ev τ 17 (.bool true)/\Ev τ 18 (.int .i64 (k:Int))/\Lk w' w NoB) (n) ?start ?round
 case start=>
  exact ⟨rfl,0,b,L,_,_,rfl,by omega,hP0,by simp [fat,puts],by simp,p2,p3,Blk.eq,hb7r,ii,ii,ii,ii,ii,evc,lkc⟩
 case round=>
  intro m τ12 ds12 w12 hI
  obtain ⟨rfl,k,b,L,M,r,rfl,hk,hP,hcm,hcw,hnm,hpr,hb15r,hb7r,e2,e7,e13,e15,e17,e18,lk⟩:=hI
  haveI:Blk w12 b15 _:=⟨hb15r⟩
  haveI:Blk w12 b7 _:=⟨hb7r⟩
  refine x_seq (xq (xm (xm (xl_v v_len (xl_v v_lss (xm ?_))))))
  refine xl_split 55 (fun g55=>?_) (fun g55=>?_)
  ·have hk1:k<xs.length:=by simp at g55;omega
   haveI hrx:RowB w xs[k].A w00 (xs[k].xs.flatMap enC):=hrs k hk1
   have hAlt:∀ a,A=some a->a.block<w00.heap.size:=hra.far.resolve_left (by
    intro e
    have h1:(xs.flatMap actC).length=xs.length*5:=flat_len (enc:=actC) (sz:=5) (fun _=>rfl) xs
    rw [e] at h1
    simp at h1
    omega)
   haveI:RowOut (fun j=>NotP R j\/OneB b15 j) A:=⟨fun a ha e=>by
    have h1:=hAlt a ha
    rcases e with e | e
    ·exact e (by rw [hRd];exact .inl (by omega))
    ·have e':a.block=b15:=e
     omega⟩
   refine xl_gv rfl EvO.eq v_move (xl_Pk ?_)
   refine xl_nil ?_
   refine x_condT ?_
   refine x_skip (x_seq (x_block ?_))
   refine x_drawL (fun j=>NotP R j\/OneB b15 j) (allS) (.take 0 (.take 2 (.take 3 (.take 4 (.take 5 (.eff 1 (.eff 6 (.take 7 (.take 8 (.take 9 (.take 10 (.take 11 (.eff 12 (.take 13 .done)))))))))))))) mixed (by kernel_rfl) (fun _ _ _ _ _ h=>h) (fun w13 l13=>?_)
   refine xt_v rfl v_move (xt_v rfl v_move (xt_v rfl v_move ?_))
   refine xt_v rfl (v_indexF k (by decide) rfl (by omega) hk1) ?_
   refine xt_Lb rfl ?_
   refine xt_e rfl (e_v (v_loadA (r:=none)) ?_)
   refine xt_call rfl (act4_ok P R b L M r xs[k] (4096*k) (140000+4097*k) w13 tt tr (hP.ext (kpc:Keep NoB _ w13)) hR0 hcm hcw (by omega) (by omega) (by omega) (hns k hk1).2.2.2 (ii:RowB w13 xs[k].A w00 (xs[k].xs.flatMap enC)).row (fun hn0 a ha=>by
         have h1:=hrx.far.resolve_left (fun e=>by
          have h2:(xs[k].xs.flatMap enC).length=xs[k].xs.length*6:=flat_len (enc:=enC) (sz:=6) (fun _=>rfl) _
          rw [e] at h2
          have:=List.length_pos_iff.2 hn0
          simp at h2
          omega) a ha
         rw [hRd];exact .inl (by omega)) (hns k hk1).1 (hns k hk1).2.1 (hns k hk1).2.2.1) ?_
   rintro _ w14 ⟨⟨b2,L2,M2,r2,rfl,hP2,z1,z2,z3,z4⟩,lk3⟩
   refine ⟨kpc,?_⟩
   have hsz:=lk3.keep.size
   refine xt_v rfl v_move (xt_v rfl v_extract (xt_v rfl v_extract (xt_v rfl v_extract (xt_v rfl v_assign ?_))))
   refine xt_s rfl (e_storeA fun w15 l15 k15=>?_)
   refine xt_v rfl v_assign (xt_nil ?_)
   have hPn:=hP2.cell (kpc:Keep (OneB b15) _ w15) (fun k _ e=>by rw [hPd];exact .inr (.inr (.inr e)))
   have hb7n:(w15).heap[b7]?=_:=Blk.eq
   refine x_regionL (xm ?_)
   refine xl_v (v_add (by omega)) ?_
   refine xz ?_
   refine ⟨_,?_,rfl,k+1,b2,L2,M2,r2,rfl,by omega,hPn,by omega,by omega,by rw [z3,hnm],by rw [z4,hpr],Blk.eq,hb7n,ii,ii,ii,ii,ii,evc,lkc⟩
   omega
  refine xl_gs rfl EvO.eq (xl_Pk ?_)
  refine xl_nil ?_
  refine x_condF ?_
  refine x_exit (x_seq ?_)
  refine x_drawL (OneB b7) (allS) (.take 0 (.take 1 (.take 2 (.take 3 (.take 4 (.take 5 (.eff 6 (.take 7 (.take 8 (.eff 9 (.take 10 .done))))))))))) mixed (by kernel_rfl) (fun _ _ _ _ _ h=>h) (fun w16 l16=>?_)
  refine xt_v rfl v_move (xt_Lb rfl ?_)
  refine xt_v rfl v_move (xt_v rfl v_move (xt_gv rfl rfl EvO.eq v_move ?_))
  refine xt_gLb rfl rfl EvO.eq ?_
  refine xt_gcall rfl rfl EvO.eq (is4p_ok P R b L M r w16 tt tr (hP.ext (kpc:Keep NoB _ w16))) ?_
  rintro _ w17 ⟨rfl,lk4⟩
  refine ⟨kpc,?_⟩
  refine xt_Pk rfl ?_
  refine xt_v rfl v_assign ?_
  refine xt_s rfl (e_storeA fun w18 l18 k18=>?_)
  refine xt_v rfl v_assign (xt_nil ?_)
  refine x_ret ?_
  refine finR (rs:=[.tmp 6,.cell 7 38,.tmp 8]) rfl ?_
  have hkn:k=n:=by simp at g55;omega
  subst hkn
  exact ⟨⟨b,L,M,r,by simp [outV],hP.keep (kpc:Keep (OneB b7) _ w18) (fun k _ e=>by rw [hPd];exact .inr (.inl e)) (fun k e=>⟨Nat.lt_of_lt_of_le e.2 Ge.le,.inl (by rw [hPd];exact .inl e)⟩) (fun k e=>⟨Nat.lt_of_lt_of_le e Ge.le,.inl (by rw [hRd];exact .inl e)⟩),hcm,hcw,hnm,by rw [hpr,hpn]⟩,lkc⟩
end Go.Proofs.YtigmfcgeljjgnaaGreatDoor
