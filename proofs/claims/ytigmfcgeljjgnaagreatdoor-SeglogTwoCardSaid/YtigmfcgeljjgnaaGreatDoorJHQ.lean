/- A part of the walks through the log and its document, and of the law in plain Lean: HQ. -/
import Derived.Test.YtigmfcgeljjgnaaGreatDoorJHQ0
set_option linter.all false
set_option maxRecDepth 100000
set_option synthInstance.maxSize 100000
set_option synthInstance.maxHeartbeats 400000
namespace Go.Proofs.YtigmfcgeljjgnaaGreatDoor
open Go.Wst
open Go.Wst.Dm Go.Wst.Sg
def nameA:ByteArray:=⟨#[97]⟩
def nameB:ByteArray:=⟨#[98]⟩
theorem nameA_ok:logName nameA=true:=by decide +kernel
theorem nameB_ok:logName nameB=true:=by decide +kernel
theorem file_AB (n m:Nat):fileN nameA n≠fileN nameB m:=fun e=>by
 have h1:=congrArg (fun s:ByteArray=>s.toList.head?) e
 unfold fileN at h1
 simp only [strOf_list] at h1
 have ha:nameA.toList=[97]:=by decide +kernel
 have hb:nameB.toList=[98]:=by decide +kernel
 rw [ha,hb] at h1
 simp at h1
theorem akey_does_ne {M:Disk} (hm:M.ok) {t:Thing} (hw:okWhat t) {k:ByteArray} (hk:k≠t.name):akey (M.does t).files k=akey M.files k:=by
 by_cases h0:M.doNo t=0
 ·rw [akey_does hm hw h0,if_neg hk]
 ·rw [Disk.does,if_neg h0]
theorem app_other {name:ByteArray} {per:Nat} {k:ByteArray} (hk:∀ n,k≠fileN name n):∀ (xs:List En) (M:Disk) (es:List En),M.ok->akey (appAll name per M es xs).1.files k=akey M.files k
 | [],M,es,_=>rfl
 | x :: xs,M,es,hm=>by
   rw [Sg.appAll]
   split
   ·show akey (appAll name per (M.does (putT name per es.length x)) (es++[x]) xs).1.files k=_
    rw [app_other hk xs _ _ (hm.does (.inl rfl)),akey_does_ne hm (.inl rfl) (hk _)]
   ·rfl
theorem trunc_other {M:Disk} (hm:M.ok) {name:ByteArray} {per:Nat} {es:List En} {n:Nat} {k:ByteArray} (hk:∀ n,k≠fileN name n):akey (truncM M name per es n).files k=akey M.files k:=by
 have hf:¬ fromB name n k=true:=fun e=>by
  unfold fromB at e
  split at e
  ·next q hq=>exact hk q (own_some hq).1
  ·cases e
 have h1:akey (doAll M ((fallOwn M.files (fromB name n)).map rmT)).files k=akey M.files k:=by rw [akey_fall hm,if_neg hf]
 unfold truncM
 split
 ·rw [akey_does_ne (doAll_ok _ M hm (rm_ok _)) (.inr (.inl rfl)) (hk _),h1]
 ·exact h1
theorem app_two {name:ByteArray} {per:Nat} (hp:1<=per) (hok:∀ n,nameOk (fileN name n)=true) {M M':Disk} {es xs:List En} (hm:M.ok) (hm':M'.ok) (h:LogI M.files name per es) (h':LogI M'.files name per es) (hr:((40*xs.length:Nat):Int)+usedB M.files<=M.room) (hr':((40*xs.length:Nat):Int)+usedB M'.files<=M'.room):(appAll name per M es xs).2=(appAll name per M' es xs).2:=by
 rw [(app_room hok xs M es hm fr40 hr).1,(app_room hok xs M' es hm' fr40 hr').1]
structure TwoW (R:Nat->Prop) (bx bz:Nat) (Lx Lz:LLog) (M:Disk) (W:World):Prop where
 x:LogW (fun k=>R k\/k=bz\/AB Lz.A k) (fun k=>R k\/k=bz\/AB Lz.A k) bx Lx M W
 z:LogW (fun k=>R k\/k=bx\/AB Lx.A k) (fun k=>R k\/k=bx\/AB Lx.A k) bz Lz M W
 d:Lz.d=Lx.d
theorem TwoW.swap {R:Nat->Prop} {bx bz:Nat} {Lx Lz:LLog} {M:Disk} {W:World} (h:TwoW R bx bz Lx Lz M W):TwoW R bz bx Lz Lx M W:=⟨h.z,h.x,h.d.symm⟩
theorem TwoW.did {R:Nat->Prop} {bx bz:Nat} {Lx Lx' Lz:LLog} {M M':Disk} {W W':World} (h:TwoW R bx bz Lx Lz M W) (h2:LogW (fun k=>R k\/k=bz\/AB Lz.A k) (fun k=>R k\/k=bz\/AB Lz.A k) bx Lx' M' W') (hd:Lx'.d=Lx.d) (hk:Keep (NotP (fun k=>R k\/k=bz\/AB Lz.A k)) W W'):TwoW R bx bz Lx' Lz M' W':=by
 have hz:=h.z
 refine ⟨h2,h2.turn (by rw [hd];exact h.d) ((hk.block bz hz.lt.2.2.1 (fun e=>e (.inr (.inl rfl)))).trans hz.at_) (own_keep hz.row hk (fun k hk2 e=>e (.inr (.inr (AB_own hk2.symm))))) hz.nb (fun k e=>hz.pb k (.inl (.inl e))) hz.name hz.per1 hz.per2 hz.len hz.right,by rw [hd];exact h.d⟩
theorem TwoW.widen {R:Nat->Prop} {bx bz:Nat} {Lx Lz:LLog} {M:Disk} {W W':World} (h:TwoW R bx bz Lx Lz M W) (hk:Keep NoB W W'):TwoW (wide R W W') bx bz Lx Lz M W':=by
 have key:∀ {b1 b2:Nat} {L1 L2:LLog},LogW (fun k=>R k\/k=b2\/AB L2.A k) (fun k=>R k\/k=b2\/AB L2.A k) b1 L1 M W->LogW (fun k=>wide R W W' k\/k=b2\/AB L2.A k) (fun k=>wide R W W' k\/k=b2\/AB L2.A k) b1 L1 M W':=by
  intro b1 b2 L1 L2 h
  have h1:∀ k,(wide R W W' k\/k=b2\/AB L2.A k)->k<W'.heap.size/\((R k\/k=b2\/AB L2.A k)\/W.heap.size<=k):=fun k e=>by
   rcases e with (e | e) | e
   ·exact ⟨Nat.lt_of_lt_of_le (h.lt.1 k (.inl e)) hk.size,.inl (.inl e)⟩
   ·exact ⟨e.2,.inr e.1⟩
   ·exact ⟨Nat.lt_of_lt_of_le (h.lt.1 k (.inr e)) hk.size,.inl (.inr e)⟩
  exact h.keep hk (fun _ _ h=>h.elim) h1 h1
 exact ⟨key h.x,key h.z,h.d⟩
theorem TwoW.cell {R S:Nat->Prop} {bx bz:Nat} {Lx Lz:LLog} {M:Disk} {W W':World} (h:TwoW R bx bz Lx Lz M W) (hk:Keep S W W') (hs:∀ k,S k->R k):TwoW R bx bz Lx Lz M W':=⟨h.x.cell hk (fun k _ e=>.inl (hs k e)),h.z.cell hk (fun k _ e=>.inl (hs k e)),h.d⟩
theorem TwoW.wider {R S:Nat->Prop} {bx bz:Nat} {Lx Lz:LLog} {M:Disk} {W W':World} (h:TwoW R bx bz Lx Lz M W) (hk:Keep S W W') (hs:∀ k,k<W.heap.size->S k->R k):TwoW (wide R W W') bx bz Lx Lz M W':=by
 have key:∀ {b1 b2:Nat} {L1 L2:LLog},LogW (fun k=>R k\/k=b2\/AB L2.A k) (fun k=>R k\/k=b2\/AB L2.A k) b1 L1 M W->LogW (fun k=>wide R W W' k\/k=b2\/AB L2.A k) (fun k=>wide R W W' k\/k=b2\/AB L2.A k) b1 L1 M W':=by
  intro b1 b2 L1 L2 h
  have h1:∀ k,(wide R W W' k\/k=b2\/AB L2.A k)->k<W'.heap.size/\((R k\/k=b2\/AB L2.A k)\/W.heap.size<=k):=fun k e=>by
   rcases e with (e | e) | e
   ·exact ⟨Nat.lt_of_lt_of_le (h.lt.1 k (.inl e)) hk.size,.inl (.inl e)⟩
   ·exact ⟨e.2,.inr e.1⟩
   ·exact ⟨Nat.lt_of_lt_of_le (h.lt.1 k (.inr e)) hk.size,.inl (.inr e)⟩
  exact h.keep hk (fun k hk2 e=>.inl (hs k hk2 e)) h1 h1
 exact ⟨key h.x,key h.z,h.d⟩
theorem TwoW.mk2 {R:Nat->Prop} {bx bz:Nat} {Lx Lz:LLog} {M:Disk} {W0 W:World} (hx:LogW R R bx Lx M W0) (hz:LogW (fun k=>R k\/k=bx\/AB Lx.A k) (fun k=>R k\/k=bx\/AB Lx.A k) bz Lz M W) (hd:Lz.d=Lx.d) (hk:Keep (NotP (fun k=>R k\/k=bx\/AB Lx.A k)) W0 W):TwoW R bx bz Lx Lz M W:=
 ⟨hz.turn hd.symm ((hk.block bx hx.lt.2.2.1 (fun e=>e (.inr (.inl rfl)))).trans hx.at_) (own_keep hx.row hk (fun k hk2 e=>e (.inr (.inr (AB_own hk2.symm))))) hx.nb (fun k e=>hx.pb k (.inl e)) hx.name hx.per1 hx.per2 hx.len hx.right,hz,hd⟩
theorem newM_ok:Disk.ok ⟨100000,[],[]⟩:=⟨by decide,by decide,by simp [Rise],nofun,by show ((0:Nat):Int)<=100000;omega⟩
theorem two_app {xs ys:List En} (h1:xs.length<=30) (h2:ys.length<=30):∃ M1 M2 Mq esx esz i1 i2 no1 no2,appAll nameA 2 ⟨100000,[],[]⟩ [] xs=(M1,esx,i1,no1)/\appAll nameB 3 M1 [] ys=(M2,esz,i2,no2)/\appAll nameB 3 ⟨100000,[],[]⟩ [] ys=(Mq,esz,i2,no2)/\M1.ok/\M2.ok/\Mq.ok/\LogI M1.files nameA 2 esx/\LogI M2.files nameA 2 esx/\LogI M2.files nameB 3 esz/\LogI Mq.files nameB 3 esz/\LogI M1.files nameB 3 []/\i1<=30/\i2<=30/\fat M1<=30/\M1.waits.length<=30/\fat M2<=60/\M2.waits.length<=60/\esx.length<=30:=by
 obtain ⟨⟨M1,esx,i1,no1⟩,e1⟩:∃ z,z=appAll nameA 2 ⟨100000,[],[]⟩ [] xs:=⟨_,rfl⟩
 obtain ⟨⟨M2,esz,i2,no2⟩,e2⟩:∃ z,z=appAll nameB 3 M1 [] ys:=⟨_,rfl⟩
 obtain ⟨⟨Mq,esq,iq,noq⟩,e3⟩:∃ z,z=appAll nameB 3 ⟨100000,[],[]⟩ [] ys:=⟨_,rfl⟩
 have hokA:=fun n=>nameOk_file nameA_ok n
 have hokB:=fun n=>nameOk_file nameB_ok n
 have a1:=LogI.appAll (name:=nameA) (per:=2) (by decide) xs ⟨100000,[],[]⟩ [] newM_ok (logI_nil nameA 2)
 have a2:=app_n nameA 2 xs ⟨100000,[],[]⟩ []
 have a3:=app_room hokA (per:=2) (c:=40) xs ⟨100000,[],[]⟩ [] newM_ok fr40 (by show ((40*xs.length:Nat):Int)+((0:Nat):Int)<=100000;omega)
 rw [<- e1] at a1 a2 a3
 simp only at a1 a2 a3
 have u1:usedB M1.files<=1200:=by have h9:usedB M1.files<=0+40*xs.length:=a3.2.2.1;omega
 have hB1:LogI M1.files nameB 3 []:=(logI_nil nameB 3).congr (fun n _=>by
  have h9:=app_other (name:=nameA) (per:=2) (k:=fileN nameB n) (fun m e=>file_AB m n e.symm) xs ⟨100000,[],[]⟩ [] newM_ok
  rw [<- e1] at h9
  exact h9)
 have r1:M1.room=100000:=a3.2.2.2
 have b1:=LogI.appAll (per:=3) (by decide) ys M1 [] a1.1 hB1
 have b2:=app_n nameB 3 ys M1 []
 have b0:=app_two (per:=3) (by decide) hokB a1.1 newM_ok hB1 (logI_nil nameB 3) (xs:=ys) (by rw [r1];omega) (by show ((40*ys.length:Nat):Int)+((0:Nat):Int)<=100000;omega)
 have c1:=LogI.appAll (name:=nameB) (per:=3) (by decide) ys ⟨100000,[],[]⟩ [] newM_ok (logI_nil nameB 3)
 rw [<- e2] at b1 b2 b0
 rw [<- e3] at b0 c1
 simp only at b1 b2 c1
 have b0':(esz,i2,no2)=(esq,iq,noq):=b0
 injection b0' with f1 f2
 injection f2 with f2 f3
 subst f1;subst f2;subst f3
 have hA2:LogI M2.files nameA 2 esx:=a1.2.congr (fun n _=>by
  have h9:=app_other (name:=nameB) (per:=3) (k:=fileN nameA n) (fun m e=>file_AB n m e) ys M1 [] a1.1
  rw [<- e2] at h9
  exact h9)
 have z0:fat ⟨100000,[],[]⟩=0:=rfl
 have z1:(Disk.waits ⟨100000,[],[]⟩).length=0:=rfl
 have z2:([]:List En).length=0:=rfl
 exact ⟨M1,M2,Mq,esx,esz,i1,i2,no1,no2,e1.symm,e2.symm,e3.symm,a1.1,b1.1,c1.1,a1.2,hA2,b1.2,c1.2,hB1,by omega,by omega,by omega,by omega,by omega,by omega,by omega⟩
theorem two_cut {M1 M2:Disk} {es esz:List En} (hm1:M1.ok) (hm2:M2.ok) (h1:LogI M1.files nameA 2 es) (h2:LogI M2.files nameA 2 es) (hz:LogI M2.files nameB 3 esz) {n:Nat} (hn:n<=es.length):(truncM M1 nameA 2 es n).ok/\(truncM M2 nameA 2 es n).ok/\LogI (truncM M1 nameA 2 es n).files nameA 2 (es.take n)/\LogI (truncM M2 nameA 2 es n).files nameA 2 (es.take n)/\LogI (truncM M2 nameA 2 es n).files nameB 3 esz:=
 ⟨trunc_ok2 hm1 _ _ _ _,trunc_ok2 hm2 _ _ _ _,h1.trunc hm1 nameA_ok (by decide) (fun n=>nameOk_file nameA_ok n) hn,h2.trunc hm2 nameA_ok (by decide) (fun n=>nameOk_file nameA_ok n) hn,hz.congr (fun k _=>trunc_other hm2 (fun m e=>file_AB m k e.symm))⟩
def OffB (b1 b2 lo:Nat) (F:Nat->Prop):Prop:=∀ k,F k->lo<=k/\k≠b1/\k≠b2
theorem OffB.more {b1 b2 lo sz:Nat} {F F':Nat->Prop} (h:OffB b1 b2 lo F) (hF:∀ k,F' k->F k\/sz<=k) (h0:lo<=sz) (h1:b1<sz) (h2:b2<sz):OffB b1 b2 lo F':=fun k e=>by
 rcases hF k e with e | e
 ·exact h k e
 ·exact ⟨by omega,by omega,by omega⟩
set_option maxHeartbeats 4000000 in
theorem seglogTwo_ok (A B:Option Addr) (c cb:Nat) (xs ys:List En) (m:Int) (w:World) (tt:TypeId) (tr:Nat×Nat) [htab:Blk w 0 (.cells tabA tt tr)] (hra:RowP w A (xs.flatMap enC)) (hrb:RowP w B (ys.flatMap enC)) (hn:xs.length<=9223372036854775807) (hn2:ys.length<=9223372036854775807) (hm:In64 m):Ret Tryz.prog 3 #[.slice A xs.length c,.slice B ys.length cb,.int .i64 m] w (fun v w'=>v=.bool true/\Lk w' w NoB):=by
 have h0:=blk_pos0 htab
 refine ret_of_x (N:=169) (l:=[.slice A xs.length c,.slice B ys.length cb,.int .i64 m]) Tryz.func3 rfl rfl (Nat.le_of_ble_eq_true rfl) ?_
 refine xq (xz ?_)
 refine x_seq (xq (xm (xl_v v_len (xl_v v_gtr (xm ?_)))))
 refine xl_split 32 (fun g32=>?_) (fun g32=>?_)
 ·have g1:=of_decide_eq_true g32
  refine xl_gs rfl EvO.eq (xl_gs rfl EvO.eq (xl_gs rfl EvO.eq (xl_Pk ?_)))
  refine xl_nil ?_
  refine x_condT ?_
  refine xq ?_
  refine xl_call (works4_ok w) ?_
  rintro _ w1 ⟨rfl,lkw⟩
  refine xz ?_
  refine x_ret ?_
  refine fin1 rfl ?_
  exact ⟨rfl,lkc⟩
 have g1:=of_decide_eq_false g32
 refine xl_gv rfl EvO.eq v_move (xl_gv rfl EvO.eq v_len (xl_gv rfl EvO.eq v_gtr (xl_Pk ?_)))
 refine xl_nil ?_
 refine x_if (fun c1=>?_) (fun c1=>?_)
 ·refine xq ?_
  refine xl_call (works4_ok w) ?_
  rintro _ w2 ⟨rfl,lkw⟩
  refine xz ?_
  refine x_ret ?_
  refine fin1 rfl ?_
  exact ⟨rfl,lkc⟩
 refine x_skip (xq ?_)
 refine xl_call (new3_ok 100000 w (by decide)) ?_
 rintro _ w3 ⟨⟨d,rfl,hD0,hgd⟩,lk3⟩
 have hxs:xs.length<=30:=by omega
 have hys:ys.length<=30:=by first | omega | (simp at c1;omega)
 obtain ⟨M1,M2,Mq,esx,esz,i1,i2,no1,no2,e1,e2,e3,om1,om2,omq,I1,I2,Iz2,Iq,Iz1,n1,n2,n3,n4,n5,n6,n7⟩:=two_app hxs hys
 obtain ⟨wa1,hwa1⟩:∃ z,z=w:=⟨_,rfl⟩
 have h1w:w.heap.size<=wa1.heap.size:=by rw [hwa1];exact Ge.le
 rw [<- hwa1] at hD0
 obtain ⟨R0,hR0⟩:∃ R0:Nat->Prop,R0=fun k=>k<wa1.heap.size:=⟨_,rfl⟩
 rw [<- hR0] at hD0
 have hR0w:∀ k,k<w.heap.size->R0 k:=fun k e=>by rw [hR0];show k<wa1.heap.size;omega
 haveI sF0:SubF (NotP R0) NoB w:=⟨fun k hk e=>e (hR0w k hk)⟩
 haveI:NotS (NotP R0) 0:=⟨fun e=>e (hR0w 0 h0)⟩
 refine xm (xl_v v_extract (xl_v v_extract (xa (xz ?_))))
 refine xq (xm ?_)
 refine xl_call (open2_ok' R0 R0 d ⟨100000,[],[]⟩ nameA 2 w3 (hD0.ext (kpc:Keep NoB _ w3)) (by decide +kernel) (by decide) (by simp)) ?_
 rintro _ w4 ⟨hres,lk4⟩
 rw [if_pos ⟨nameA_ok,by decide,by decide⟩] at hres
 obtain ⟨bx,Lx,rfl,hLx,p2,p3,p4,p5,p6,p7,p8⟩:=hres
 rw [show (2:Int).toNat=2 from rfl] at hLx p3 p5
 rw [open_nil 100000 nameA (by decide)] at hLx
 rw [show Disk.files ⟨100000,[],[]⟩=[] from rfl,told_nil nameA (by decide)] at p5
 obtain ⟨wa4,hwa4⟩:∃ z,z=w4:=⟨_,rfl⟩
 obtain ⟨R0x,hR0x⟩:∃ R0x:Nat->Prop,R0x=fun k=>R0 k\/k=bx\/AB Lx.A k:=⟨_,rfl⟩
 have hdx:DiskW R0x R0x d ⟨100000,[],[]⟩ w4:=by have h9:=hLx.disk;rw [p4] at h9;rw [hR0x];exact h9
 rw [<- hwa4] at hLx
 haveI sF0x:SubF (NotP R0x) NoB w:=⟨fun k hk e=>e (by rw [hR0x];exact .inl (hR0w k hk))⟩
 haveI:NotS (NotP R0x) 0:=⟨fun e=>e (by rw [hR0x];exact .inl (hR0w 0 h0))⟩
 refine xm (xl_v v_extract (xl_v v_extract (xa (xz ?_))))
 refine xq (xm ?_)
 refine xl_call (open2_ok' R0x R0x d ⟨100000,[],[]⟩ nameB 3 w4 (hdx.ext (kpc:Keep NoB _ w4)) (by decide +kernel) (by decide) (by simp)) ?_
 rintro _ w5 ⟨hres,lk5⟩
 rw [if_pos ⟨nameB_ok,by decide,by decide⟩] at hres
 obtain ⟨bz,Lz,rfl,hLz,s2,s3,s4,s5,s6,s7,s8⟩:=hres
 rw [show (3:Int).toNat=3 from rfl] at hLz s3 s5
 rw [open_nil 100000 nameB (by decide)] at hLz
 rw [show Disk.files ⟨100000,[],[]⟩=[] from rfl,told_nil nameB (by decide)] at s5
 obtain ⟨wa5,hwa5⟩:∃ z,z=w5:=⟨_,rfl⟩
 have hT0:TwoW R0 bx bz Lx Lz ⟨100000,[],[]⟩ wa5:=TwoW.mk2 hLx (by rw [hwa5,<- hR0x];exact hLz) (by rw [s4,p4]) (by rw [hwa4,hwa5,<- hR0x];exact kpc)
 refine xm (xl_v v_extract (xl_v v_extract (xa (xz ?_))))
 refine xq ?_
 refine xl_call (refnew_ok 100000 w5) ?_
 rintro _ w6 ⟨hnw,lk6⟩
 rw [if_pos (by decide)] at hnw
 obtain rfl:=hnw
 refine xm (xl_v v_extract (xl_v v_extract ?_))
 refine xl_e (e_alloc fun b13 w7 nb13 lb13 kb13=>?_)
 refine xl_s (e_storeA fun w8 l8 k8=>?_)
 refine xz ?_
 refine xq (xl_Lb ?_)
 refine xl_call (refopen_ok NoB ⟨100000,[],none,0,[],none,0⟩ ⟨100000,[],[]⟩ nameA 2 w8 tt tr (refAt_nil _ _ (fun k e=>e.elim) _) (refS_new (by decide)) (by decide +kernel) (by decide) (by simp)) ?_
 rintro _ w9 ⟨hres,lk7⟩
 rw [if_pos ⟨nameA_ok,by decide,by decide⟩] at hres
 obtain ⟨rp,Fp,rfl,hRp,v1,v2,v3,hFp⟩:=hres
 rw [show (2:Int).toNat=2 from rfl] at hRp v2 v3
 rw [open_nil 100000 nameA (by decide)] at hRp
 have hRpl:=hRp.at_.lt
 obtain ⟨waP,hwaP⟩:∃ z,z=w8:=⟨_,rfl⟩
 obtain ⟨waQ,hwaQ⟩:∃ z,z=w9:=⟨_,rfl⟩
 have h5P:wa5.heap.size<=waP.heap.size:=by rw [hwa5,hwaP];exact Ge.le
 rw [<- hwaP] at hFp
 rw [<- hwaQ] at hRpl hRp
 refine xm (xl_v v_extract (xl_v v_extract ?_))
 refine xl_e (e_alloc fun b15 w10 nb15 lb15 kb15=>?_)
 refine xl_s (e_storeA fun w11 l11 k11=>?_)
 refine xz ?_
 refine xq (xl_Lb ?_)
 refine xl_call (refopen_ok NoB ⟨100000,[],none,0,[],none,0⟩ ⟨100000,[],[]⟩ nameB 3 w11 tt tr (refAt_nil _ _ (fun k e=>e.elim) _) (refS_new (by decide)) (by decide +kernel) (by decide) (by simp)) ?_
 rintro _ w12 ⟨hres,lk8⟩
 rw [if_pos ⟨nameB_ok,by decide,by decide⟩] at hres
 obtain ⟨rq,Fq,rfl,hRq,v4,v5,v6,hFq⟩:=hres
 rw [show (3:Int).toNat=3 from rfl] at hRq v5
 rw [open_nil 100000 nameB (by decide)] at hRq
 have hRql:=hRq.at_.lt
 obtain ⟨waR,hwaR⟩:∃ z,z=w11:=⟨_,rfl⟩
 obtain ⟨waS,hwaS⟩:∃ z,z=w12:=⟨_,rfl⟩
 have h5R:wa5.heap.size<=waR.heap.size/\b15<waR.heap.size/\waQ.heap.size<=b15:=by rw [hwa5,hwaR,hwaQ];exact ⟨Ge.le,Has.lt,by rw [nb15.eq];exact Ge.le⟩
 rw [<- hwaR] at hFq
 rw [<- hwaS] at hRql hRq
 refine xm (xl_v v_extract (xl_v v_extract ?_))
 refine xl_e (e_alloc fun b17 w13 nb17 lb17 kb17=>?_)
 refine xl_s (e_storeA fun w14 l14 k14=>?_)
 refine xz ?_
 refine x_seq ?_
 obtain ⟨wa9,hwa9⟩:∃ z,z=w14:=⟨_,rfl⟩
 have h17:waS.heap.size<=b17/\b17<wa9.heap.size/\waS.heap.size<=wa9.heap.size/\waR.heap.size<=waS.heap.size/\waP.heap.size<=waQ.heap.size:=by rw [hwaS,hwa9,hwaR,hwaP,hwaQ];exact ⟨by rw [nb17.eq];exact Ge.le,Has.lt,Ge.le,Ge.le,Ge.le⟩
 have oP:OffB b15 b17 wa5.heap.size Fp:=fun k e=>by
  have h1:=(hFp k e).resolve_left (fun e=>e)
  have h2:=hRpl k e
  omega
 have oQ:OffB b15 b17 wa5.heap.size Fq:=fun k e=>by
  have h1:=(hFq k e).resolve_left (fun e=>e)
  have h2:=hRql k e
  omega
 have hRp9:RLogW w14 Fp rp ⟨100000,[],[]⟩:=by
  have h9:RLogW waQ Fp rp ⟨100000,[],[]⟩:=hRp
  rw [hwaQ] at h9
  exact h9.keep (kpc:Keep NoB _ w14) (fun _ _ e=>e)
 have hRq9:RLogW w14 Fq rq ⟨100000,[],[]⟩:=by
  have h9:RLogW waS Fq rq ⟨100000,[],[]⟩:=hRq
  rw [hwaS] at h9
  exact h9.keep (kpc:Keep NoB _ w14) (fun _ _ e=>e)
 have hDp:appD rp.name rp.per ⟨100000,[],[]⟩ xs=(M1,i1,no1):=by
  rw [v1,v2,LogI.appD (by decide) xs ⟨100000,[],[]⟩ [] newM_ok (logI_nil nameA 2),e1]
 have hDq:appD rq.name rq.per ⟨100000,[],[]⟩ ys=(Mq,i2,no2):=by
  rw [v4,v5,LogI.appD (by decide) ys ⟨100000,[],[]⟩ [] newM_ok (logI_nil nameB 3),e3]
 refine x_regionL (xl_Lb ?_)
 refine xm ?_
 refine xl_call (refappend_ok Fp rp ⟨100000,[],[]⟩ A xs.length c xs w14 tt tr (hRp9.ext (kpc:Keep NoB _ w14)) (hra.keep (kpc:Keep NoB w w14) (fun _ _ h=>h)) rfl hn (by rw [hDp];simp;omega)) ?_
 rintro _ w15 ⟨⟨rp1,Fp1,rfl,hRp1,y1,y2,y3,hFp1⟩,lk9⟩
 rw [hDp] at hRp1 ⊢
 have h9p:wa9.heap.size<=(w14).heap.size:=by rw [hwa9];exact Ge.le
 have oP1:=oP.more hFp1 (by omega) (by omega) (by omega)
 refine xm (xl_v v_extract (xl_v v_extract (xl_v v_extract ?_)))
 refine xl_s (e_storeA fun w16 l16 k16=>?_)
 refine xa (xz ?_)
 refine x_seq ?_
 have hRpA:RLogW w16 Fp1 rp1 M1:=hRp1.keep (kpc:Keep (OneB b15) _ w16) (fun k e e2=>(oP1 k e).2.1 e2)
 have hRqA:RLogW w16 Fq rq ⟨100000,[],[]⟩:=hRq9.keep (kpc:Keep (OneB b15) _ w16) (fun k e e2=>(oQ k e).2.1 e2)
 obtain ⟨waA,hwaA⟩:∃ z,z=w16:=⟨_,rfl⟩
 have hTA:TwoW (wide R0 wa5 waA) bx bz Lx Lz ⟨100000,[],[]⟩ waA:=hT0.widen (by rw [hwa5,hwaA];exact kpc)
 obtain ⟨R1,hR1⟩:∃ R1,R1=wide R0 wa5 waA:=⟨_,rfl⟩
 rw [<- hR1] at hTA
 have hR1w:∀ k,k<w.heap.size->R1 k:=fun k e=>by rw [hR1];exact .inl (hR0w k e)
 have hR1n:∀ k,wa5.heap.size<=k->k<waA.heap.size->R1 k:=fun k q1 q2=>by rw [hR1];exact .inr ⟨q1,q2⟩
 have h9A:wa9.heap.size<=waA.heap.size:=by rw [hwa9,hwaA];exact Ge.le
 obtain ⟨T1,hT1⟩:∃ T1:Nat->Prop,T1=fun k=>R1 k\/k=bz\/AB Lz.A k:=⟨_,rfl⟩
 haveI sF1:SubF (NotP T1) NoB w:=⟨fun k hk e=>e (by rw [hT1];exact .inl (hR1w k hk))⟩
 haveI:NotS (NotP T1) 0:=⟨fun e=>e (by rw [hT1];exact .inl (hR1w 0 h0))⟩
 haveI:NotS (NotP T1) b13:=⟨fun e=>e (by rw [hT1];exact .inl (hR1n _ (by rw [nb13.eq,hwa5];exact Ge.le) (by rw [hwaA];exact Has.lt)))⟩
 haveI:NotS (NotP T1) b15:=⟨fun e=>e (by rw [hT1];exact .inl (hR1n _ (by omega) (by omega)))⟩
 haveI:NotS (NotP T1) b17:=⟨fun e=>e (by rw [hT1];exact .inl (hR1n _ (by omega) (by omega)))⟩
 refine x_regionL (xm (xm ?_))
 refine xl_call (append_ok T1 T1 bx Lx ⟨100000,[],[]⟩ A xs.length c xs w16 (by have h9:=hTA.x;rw [<- hT1,hwaA] at h9;exact h9.ext (kpc:Keep NoB _ w16)) (hra.keep (kpc:Keep NoB w w16) (fun _ _ h=>h)) (fun hne a ha=>by rw [hT1];exact .inl (hR1w _ (ens_lt hra hne a ha))) rfl hn (by simp;omega)) ?_
 rintro _ w17 ⟨rfl,⟨Lx1,hLx1,t1,t2,t3,t4,t5⟩,lk10⟩
 rw [p2,p3,p5,e1] at hLx1 t1 ⊢
 rw [p2] at t2
 rw [p3] at t3
 obtain ⟨waB,hwaB⟩:∃ z,z=w17:=⟨_,rfl⟩
 have hTB:TwoW R1 bx bz Lx1 Lz M1 w17:=hTA.did (by rw [<- hT1];exact hLx1) t4 (by rw [<- hT1,hwaA];exact kpc)
 have hRpB:RLogW w17 Fp1 rp1 M1:=hRpA.keep (kpc:Keep (NotP T1) _ w17) (fun k e e2=>e2 (by rw [hT1];exact .inl (hR1n k (oP1 k e).1 (by rw [hwaA];exact hRpA.at_.lt k e))))
 have hRqB:RLogW w17 Fq rq ⟨100000,[],[]⟩:=hRqA.keep (kpc:Keep (NotP T1) _ w17) (fun k e e2=>e2 (by rw [hT1];exact .inl (hR1n k (oQ k e).1 (by rw [hwaA];exact hRqA.at_.lt k e))))
 refine xm (xl_v v_extract (xl_v v_extract (xa (xz ?_))))
 refine xq (xl_Lb ?_)
 refine xm ?_
 refine xl_call (refappend_ok Fq rq ⟨100000,[],[]⟩ B ys.length cb ys w17 tt tr (hRqB.ext (kpc:Keep NoB _ w17)) (hrb.keep (kpc:Keep NoB w w17) (fun _ _ h=>h)) rfl hn2 (by rw [hDq];simp;omega)) ?_
 rintro _ w18 ⟨⟨rq1,Fq1,rfl,hRq1,y4,y5,y6,hFq1⟩,lk11⟩
 rw [hDq] at hRq1 ⊢
 have hAp:waA.heap.size<=(w17).heap.size:=by rw [hwaA];exact Ge.le
 have hBp:waB.heap.size<=(w17).heap.size:=by rw [hwaB];exact Ge.le
 have oQ1:=oQ.more hFq1 (by omega) (by omega) (by omega)
 refine xm (xl_v v_extract (xl_v v_extract (xl_v v_extract ?_)))
 refine xl_s (e_storeA fun w19 l19 k19=>?_)
 refine xa (xz ?_)
 refine x_seq ?_
 have hRqC:RLogW w19 Fq1 rq1 Mq:=hRq1.keep (kpc:Keep (OneB b17) _ w19) (fun k e e2=>(oQ1 k e).2.2 e2)
 have hRpC:RLogW w19 Fp1 rp1 M1:=hRpB.keep (kpc:Keep (OneB b17) _ w19) (fun k e e2=>(oP1 k e).2.2 e2)
 obtain ⟨waC,hwaC⟩:∃ z,z=w19:=⟨_,rfl⟩
 have hAC:waA.heap.size<=waC.heap.size:=by rw [hwaA,hwaC];exact Ge.le
 have hRpl:=hRpC.at_.lt
 have hRql:=hRqC.at_.lt
 rw [<- hwaC] at hRpl hRql
 obtain ⟨R2,hR2⟩:∃ R2,R2=wide R1 waB waC:=⟨_,rfl⟩
 have hTC:TwoW R2 bx bz Lx1 Lz M1 waC:=by
  rw [hR2,hwaB,hwaC]
  exact hTB.wider (kpc:Keep (OneB b17) _ _) (fun k _ e=>by have e':k=b17:=e;subst e';exact hR1n _ (by omega) (by omega))
 have hBC:waA.heap.size<=waB.heap.size:=by rw [hwaA,hwaB];exact Ge.le
 have hR2a:∀ k,R1 k->R2 k:=fun k e=>by rw [hR2];exact .inl e
 have hR2n:∀ k,(R1 k\/waB.heap.size<=k)->k<waC.heap.size->R2 k:=fun k q1 q2=>by
  rcases q1 with q1 | q1
  ·exact hR2a k q1
  ·rw [hR2];exact .inr ⟨q1,q2⟩
 have hFpR:∀ k,Fp1 k->R2 k:=fun k e=>by
  rcases Nat.lt_or_ge k waA.heap.size with q | q
  ·exact hR2a k (hR1n k (oP1 k e).1 q)
  ·have h1:=hRpA.at_.lt k e
   rw [<- hwaA] at h1
   omega
 have hFqR:∀ k,Fq1 k->R2 k:=fun k e=>by
  rcases hFq1 k e with q | q
  ·have h1:=hRqA.at_.lt k q
   rw [<- hwaA] at h1
   exact hR2a k (hR1n k (oQ k q).1 h1)
  ·exact hR2n k (.inr (by have:waB.heap.size<=_:=hBp;omega)) (hRql k e)
 obtain ⟨T2,hT2⟩:∃ T2:Nat->Prop,T2=fun k=>R2 k\/k=bx\/AB Lx1.A k:=⟨_,rfl⟩
 haveI sF2:SubF (NotP T2) NoB w:=⟨fun k hk e=>e (by rw [hT2];exact .inl (hR2a k (hR1w k hk)))⟩
 haveI:NotS (NotP T2) 0:=⟨fun e=>e (by rw [hT2];exact .inl (hR2a _ (hR1w 0 h0)))⟩
 haveI:NotS (NotP T2) b15:=⟨fun e=>e (by rw [hT2];exact .inl (hR2a _ (hR1n _ (by omega) (by omega))))⟩
 haveI:NotS (NotP T2) b17:=⟨fun e=>e (by rw [hT2];exact .inl (hR2a _ (hR1n _ (by omega) (by omega))))⟩
 refine x_regionL (xm (xm ?_))
 refine xl_call (append_ok T2 T2 bz Lz M1 B ys.length cb ys w19 (by have h9:=hTC.z;rw [<- hT2,hwaC] at h9;exact h9.ext (kpc:Keep NoB _ w19)) (hrb.keep (kpc:Keep NoB w w19) (fun _ _ h=>h)) (fun hne a ha=>by rw [hT2];exact .inl (hR2a _ (hR1w _ (ens_lt hrb hne a ha)))) rfl hn2 (by have:=fat_lasts M1;omega)) ?_
 rintro _ w20 ⟨rfl,⟨Lz1,hLz1,t6,t7,t8,t9,t10⟩,lk12⟩
 rw [s2,s3,s5,e2] at hLz1 t6 ⊢
 rw [s2] at t7
 rw [s3] at t8
 obtain ⟨waD,hwaD⟩:∃ z,z=w20:=⟨_,rfl⟩
 have hTD:TwoW R2 bx bz Lx1 Lz1 M2 w20:=(hTC.swap.did (by rw [<- hT2];exact hLz1) t9 (by rw [<- hT2,hwaC];exact kpc)).swap
 have hRpD:RLogW w20 Fp1 rp1 M1:=hRpC.keep (kpc:Keep (NotP T2) _ w20) (fun k e e2=>e2 (by rw [hT2];exact .inl (hFpR k e)))
 have hRqD:RLogW w20 Fq1 rq1 Mq:=hRqC.keep (kpc:Keep (NotP T2) _ w20) (fun k e e2=>e2 (by rw [hT2];exact .inl (hFqR k e)))
 have hrn:rp1.name=nameA:=by rw [y1,v1]
 have hrp:rp1.per=2:=by rw [y2,v2]
 have htp:(Go.Wst.Sg.told M1.files rp1.name rp1.per).1=esx:=by rw [hrn,hrp];exact I1.told (by decide)
 refine xm (xl_v v_extract (xl_v v_extract (xa (xz ?_))))
 refine xq (xl_Lb ?_)
 refine xm ?_
 refine xl_call (reftruncate_ok Fp1 rp1 M1 m w20 tt tr (hRpD.ext (kpc:Keep NoB _ w20)) hm (by rw [y3,v3];split<;>first | omega | (have:=tolds_len (Disk.files ⟨100000,[],[]⟩) nameA (per:=2) (by decide);omega)) (by rw [hrn];have:=fat_lasts M1;have:=own_few om1 I1 (by decide);omega)) ?_
 rintro _ w21 ⟨⟨rp2,Fp2,Mp2,no3,rfl,hRp2,x1,x2,hFp2,hres⟩,lk13⟩
 rw [htp,hrn,hrp] at hres
 have hDp2:waD.heap.size<=(w20).heap.size:=by rw [hwaD];exact Ge.le
 have hCD:waC.heap.size<=waD.heap.size:=by rw [hwaC,hwaD];exact Ge.le
 have oP2:=oP1.more hFp2 (by omega) (by omega) (by omega)
 refine xm (xl_v v_extract (xl_v v_extract ?_))
 refine xl_s (e_storeA fun w22 l22 k22=>?_)
 refine xz ?_
 refine x_seq ?_
 have hRpE:RLogW w22 Fp2 rp2 Mp2:=hRp2.keep (kpc:Keep (OneB b15) _ w22) (fun k e e2=>(oP2 k e).2.1 e2)
 have hRqE:RLogW w22 Fq1 rq1 Mq:=hRqD.keep (kpc:Keep (OneB b15) _ w22) (fun k e e2=>(oQ1 k e).2.1 e2)
 obtain ⟨waE,hwaE⟩:∃ z,z=w22:=⟨_,rfl⟩
 have hDE:waD.heap.size<=waE.heap.size:=by rw [hwaD,hwaE];exact Ge.le
 have hRpEl:=hRpE.at_.lt
 rw [<- hwaE] at hRpEl
 obtain ⟨R3,hR3⟩:∃ R3,R3=wide R2 waD waE:=⟨_,rfl⟩
 have hTE:TwoW R3 bx bz Lx1 Lz1 M2 waE:=by
  rw [hR3,hwaD,hwaE]
  exact hTD.wider (kpc:Keep (OneB b15) _ _) (fun k _ e=>by have e':k=b15:=e;subst e';exact hR2a _ (hR1n _ (by omega) (by omega)))
 have hR3a:∀ k,R2 k->R3 k:=fun k e=>by rw [hR3];exact .inl e
 have hFpR3:∀ k,Fp2 k->R3 k:=fun k e=>by
  rcases hFp2 k e with q | q
  ·exact hR3a k (hFpR k q)
  ·rw [hR3];exact .inr ⟨by omega,hRpEl k e⟩
 obtain ⟨T3,hT3⟩:∃ T3:Nat->Prop,T3=fun k=>R3 k\/k=bz\/AB Lz1.A k:=⟨_,rfl⟩
 haveI sF3:SubF (NotP T3) NoB w:=⟨fun k hk e=>e (by rw [hT3];exact .inl (hR3a k (hR2a k (hR1w k hk))))⟩
 haveI:NotS (NotP T3) 0:=⟨fun e=>e (by rw [hT3];exact .inl (hR3a _ (hR2a _ (hR1w 0 h0))))⟩
 haveI:NotS (NotP T3) b15:=⟨fun e=>e (by rw [hT3];exact .inl (hR3a _ (hR2a _ (hR1n _ (by omega) (by omega)))))⟩
 haveI:NotS (NotP T3) b17:=⟨fun e=>e (by rw [hT3];exact .inl (hR3a _ (hR2a _ (hR1n _ (by omega) (by omega)))))⟩
 refine x_regionL (xm (xm ?_))
 refine xl_call (trunc2_ok T3 T3 bx Lx1 M2 m w22 (by have h9:=hTE.x;rw [<- hT3,hwaE] at h9;exact h9.ext (kpc:Keep NoB _ w22)) hm (by rw [t2];have:=fat_lasts M2;have:=own_few om2 I2 (by decide);omega) (by rw [t1,t2,t3];exact I2)) ?_
 rintro _ w23 ⟨⟨Lx2,M3,no4,rfl,hLx2,z2,z3,hI2,hf1,hf2,hres2,hd2⟩,lk14⟩
 rw [t1,t2,t3] at hres2
 have hTF:TwoW R3 bx bz Lx2 Lz1 M3 w23:=hTE.did (by rw [<- hT3];exact hLx2) hd2 (by rw [<- hT3,hwaE];exact kpc)
 rw [t2,t3] at hI2
 obtain ⟨hno,om3,omp,J1,J2,J3⟩:no4=no3/\M3.ok/\Mp2.ok/\LogI Mp2.files nameA 2 Lx2.es/\LogI M3.files nameA 2 Lx2.es/\LogI M3.files nameB 3 esz:=by
  by_cases hc:m<0\/(esx.length:Int)<m
  ·rw [if_pos hc] at hres hres2
   obtain ⟨b1,b2,b3⟩:=hres
   obtain ⟨b4,b5,b6⟩:=hres2
   subst b2;subst b5
   have h9:Lx2.es=esx:=(hI2.told (by decide)).symm.trans (I2.told (by decide))
   rw [h9]
   exact ⟨by rw [b1,b4],om2,om1,I1,I2,Iz2⟩
  ·rw [if_neg hc] at hres hres2
   obtain ⟨b1,b2,b3⟩:=hres
   obtain ⟨b4,b5,b6⟩:=hres2
   subst b2;subst b5
   obtain ⟨d1,d2,d3,d4,d5⟩:=two_cut om1 om2 I1 I2 Iz2 (n:=m.toNat) (by omega)
   have h9:Lx2.es=esx.take m.toNat:=(hI2.told (by decide)).symm.trans (d4.told (by decide))
   rw [h9]
   exact ⟨by rw [b1,b4],d2,d1,d3,d4,d5⟩
 subst hno
 have hRpF:RLogW w23 Fp2 rp2 Mp2:=hRpE.keep (kpc:Keep (NotP T3) _ w23) (fun k e e2=>e2 (by rw [hT3];exact .inl (hFpR3 k e)))
 have hRqF:RLogW w23 Fq1 rq1 Mq:=hRqE.keep (kpc:Keep (NotP T3) _ w23) (fun k e e2=>e2 (by rw [hT3];exact .inl (hR3a k (hFqR k e))))
 have u1:(Go.Wst.Sg.told Mp2.files rp2.name rp2.per).1=Lx2.es:=by rw [x1,x2,hrn,hrp];exact J1.told (by decide)
 have u2:(Go.Wst.Sg.told Mq.files rq1.name rq1.per).1=esz:=by rw [y4,y5,v4,v5];exact Iq.told (by decide)
 have u3:ownFiles M3.files Lx2.name=ownFiles Mp2.files rp2.name:=by rw [z2,t2,x1,hrn];exact LogI.same om3 omp J2 J1 (by decide)
 have u4:ownFiles M3.files Lz1.name=ownFiles Mq.files rq1.name:=by rw [t7,y4,v4];exact LogI.same om3 omq J3 Iq (by decide)
 have l1:=J1.len
 have l2:=Iq.len
 have l3:(ownFiles M3.files Lx2.name).length<=4096:=by rw [z2,t2];have:=own_few om3 J2 (by decide);omega
 have l4:(ownFiles M3.files Lz1.name).length<=4096:=by rw [t7];have:=own_few om3 J3 (by decide);omega
 refine xz ?_
 refine x_seq ?_
 refine x_drawL (NoB) (allS) (.take 0 (.take 2 (.take 5 (.eff 1 (.eff 3 (.take 4 (.eff 6 (.take 7 (.take 8 (.take 9 (.take 10 (.take 11 (.take 12 (.take 13 (.take 14 (.take 15 (.take 16 (.take 17 (.take 18 (.take 19 (.take 20 (.take 22 (.eff 21 (.take 23 (.take 24 (.take 25 (.take 26 (.take 28 (.eff 27 (.take 29 (.take 30 (.take 31 (.take 32 (.take 34 (.eff 33 (.take 35 (.take 36 (.take 37 (.take 38 (.take 40 (.eff 39 (.eff 41 (.eff 42 (.take 43 (.take 44 (.take 45 (.take 47 (.eff 46 (.eff 48 (.eff 49 (.take 50 (.take 51 (.take 52 (.take 54 (.eff 53 (.eff 55 (.eff 56 (.take 57 (.take 58 (.take 59 (.take 61 (.eff 60 (.eff 62 (.eff 63 (.take 64 (.take 65 (.eff 66 (.take 67 (.take 68 .done))))))))))))))))))))))))))))))))))))))))))))))))))))))))))))))))))))) mixed (by kernel_rfl) (fun _ _ _ _ _ h=>h) (fun w24 l24=>?_)
 refine xt_v rfl v_move (xt_v rfl v_move (xt_v rfl v_move ?_))
 refine xt_call rfl (num4_ok _ _) ?_
 rintro _ _ ⟨rfl,rfl⟩
 refine ⟨kpc,?_⟩
 refine xt_call rfl (num4_ok _ _) ?_
 rintro _ _ ⟨rfl,rfl⟩
 refine ⟨kpc,?_⟩
 refine xt_v rfl (v_add (by omega)) ?_
 refine xt_call rfl (num4_ok _ _) ?_
 rintro _ _ ⟨rfl,rfl⟩
 refine ⟨kpc,?_⟩
 refine xt_v rfl (v_add (by omega)) ?_
 refine xt_v rfl (v_congr (u:=.bool true) v_eql (by simp)) ?_
 refine xt_v rfl v_move (xt_gv rfl rfl EvO.eq v_move (xt_gv rfl rfl EvO.eq v_move ?_))
 refine xt_gv rfl rfl EvO.eq (v_congr (u:=.bool true) v_eql (by simp)) ?_
 refine xt_Pk rfl ?_
 refine xt_v rfl v_move (xt_gv rfl rfl EvO.eq v_move (xt_gv rfl rfl EvO.eq v_move ?_))
 refine xt_gv rfl rfl EvO.eq (v_congr (u:=.bool true) v_eql (by simp)) ?_
 refine xt_Pk rfl ?_
 refine xt_v rfl v_move (xt_gv rfl rfl EvO.eq v_move (xt_gv rfl rfl EvO.eq v_move ?_))
 refine xt_gcall rfl rfl EvO.eq (num4_ok _ _) ?_
 rintro _ _ ⟨rfl,rfl⟩
 refine ⟨kpc,?_⟩
 refine xt_gv rfl rfl EvO.eq (v_congr (u:=.bool true) v_eql (by simp)) ?_
 refine xt_Pk rfl ?_
 refine xt_v rfl v_move (xt_gv rfl rfl EvO.eq v_move (xt_gv rfl rfl EvO.eq v_move ?_))
 refine xt_gcall rfl rfl EvO.eq (num4_ok _ _) ?_
 rintro _ _ ⟨rfl,rfl⟩
 refine ⟨kpc,?_⟩
 refine xt_gv rfl rfl EvO.eq (v_congr (u:=.bool true) v_eql (by simp)) ?_
 refine xt_Pk rfl ?_
 refine xt_v rfl v_move (xt_gv rfl rfl EvO.eq v_move (xt_gv rfl rfl EvO.eq v_move ?_))
 refine xt_gcall rfl rfl EvO.eq (num4_ok _ _) ?_
 rintro _ _ ⟨rfl,rfl⟩
 refine ⟨kpc,?_⟩
 refine xt_gv rfl rfl EvO.eq (v_congr (u:=.bool true) v_eql (by simp)) ?_
 refine xt_Pk rfl ?_
 refine xt_v rfl v_move (xt_gv rfl rfl EvO.eq v_move ?_)
 refine xt_gLb rfl rfl EvO.eq ?_
 refine xt_gcall rfl rfl EvO.eq (lall_ok _ _ bx Lx2 M3 w24 (hTF.x.ext (kpc:Keep NoB _ w24))) ?_
 rintro _ w31 ⟨⟨A39,c39,rfl,ho39⟩,lk39⟩
 refine ⟨kpc,?_⟩
 refine xt_gcall rfl rfl EvO.eq (refall_ok Fp2 rp2 Mp2 w31 tt tr (hRpF.ext (kpc:Keep NoB _ w31))) ?_
 rintro _ w32 ⟨⟨A41,c41,rfl,ho41⟩,lk41⟩
 refine ⟨kpc,?_⟩
 rw [u1] at ho41 ⊢
 refine xt_gcall rfl rfl EvO.eq ((haveI:Row w32 A39 (Lx2.es.flatMap enC):=⟨own_row (own_ext ho39 (lkc:Lk w32 _ NoB))⟩;haveI:Row w32 A41 (Lx2.es.flatMap enC):=⟨own_row (own_ext ho41 (lkc:Lk w32 _ NoB))⟩;same_ok A39 _ c39 Lx2.es A41 _ c41 Lx2.es w32 rfl rfl (by omega) (by omega))) ?_
 rintro _ w33 ⟨rfl,lk42⟩
 refine ⟨kpc,?_⟩
 rw [decide_eq_true rfl]
 refine xt_Pk rfl ?_
 refine xt_v rfl v_move (xt_gv rfl rfl EvO.eq v_move ?_)
 refine xt_gLb rfl rfl EvO.eq ?_
 refine xt_gcall rfl rfl EvO.eq (lall_ok _ _ bz Lz1 M3 w33 (hTF.z.ext (kpc:Keep NoB _ w33))) ?_
 rintro _ w34 ⟨⟨A46,c46,rfl,ho46⟩,lk46⟩
 refine ⟨kpc,?_⟩
 rw [t6] at ho46 ⊢
 refine xt_gcall rfl rfl EvO.eq (refall_ok Fq1 rq1 Mq w34 tt tr (hRqF.ext (kpc:Keep NoB _ w34))) ?_
 rintro _ w35 ⟨⟨A48,c48,rfl,ho48⟩,lk48⟩
 refine ⟨kpc,?_⟩
 rw [u2] at ho48 ⊢
 refine xt_gcall rfl rfl EvO.eq ((haveI:Row w35 A46 (esz.flatMap enC):=⟨own_row (own_ext ho46 (lkc:Lk w35 _ NoB))⟩;haveI:Row w35 A48 (esz.flatMap enC):=⟨own_row (own_ext ho48 (lkc:Lk w35 _ NoB))⟩;same_ok A46 _ c46 esz A48 _ c48 esz w35 rfl rfl (by omega) (by omega))) ?_
 rintro _ w36 ⟨rfl,lk49⟩
 refine ⟨kpc,?_⟩
 rw [decide_eq_true rfl]
 refine xt_Pk rfl ?_
 refine xt_v rfl v_move (xt_gv rfl rfl EvO.eq v_move ?_)
 refine xt_gLb rfl rfl EvO.eq ?_
 refine xt_gcall rfl rfl EvO.eq (lfiles_ok _ _ bx Lx2 M3 w36 (hTF.x.ext (kpc:Keep NoB _ w36))) ?_
 rintro _ w37 ⟨⟨A53,c53,rfl,ho53⟩,lk53⟩
 refine ⟨kpc,?_⟩
 refine xt_gcall rfl rfl EvO.eq (refFiles_ok Fp2 rp2 Mp2 w37 (hRpF.ext (kpc:Keep NoB _ w37))) ?_
 rintro _ w38 ⟨⟨A55,c55,rfl,ho55⟩,lk55⟩
 refine ⟨kpc,?_⟩
 rw [<- u3] at ho55 ⊢
 refine xt_gcall rfl rfl EvO.eq (sameS_ok A53 A55 _ c53 _ c55 _ _ w38 (own_row (own_ext ho53 (lkc:Lk w38 _ NoB))) (own_row (own_ext ho55 (lkc:Lk w38 _ NoB))) rfl rfl (by omega) (by omega)) ?_
 rintro _ w39 ⟨rfl,lk56⟩
 refine ⟨kpc,?_⟩
 rw [decide_eq_true rfl]
 refine xt_Pk rfl ?_
 refine xt_v rfl v_move (xt_gv rfl rfl EvO.eq v_move ?_)
 refine xt_gLb rfl rfl EvO.eq ?_
 refine xt_gcall rfl rfl EvO.eq (lfiles_ok _ _ bz Lz1 M3 w39 (hTF.z.ext (kpc:Keep NoB _ w39))) ?_
 rintro _ w40 ⟨⟨A60,c60,rfl,ho60⟩,lk60⟩
 refine ⟨kpc,?_⟩
 refine xt_gcall rfl rfl EvO.eq (refFiles_ok Fq1 rq1 Mq w40 (hRqF.ext (kpc:Keep NoB _ w40))) ?_
 rintro _ w41 ⟨⟨A62,c62,rfl,ho62⟩,lk62⟩
 refine ⟨kpc,?_⟩
 rw [<- u4] at ho62 ⊢
 refine xt_gcall rfl rfl EvO.eq (sameS_ok A60 A62 _ c60 _ c62 _ _ w41 (own_row (own_ext ho60 (lkc:Lk w41 _ NoB))) (own_row (own_ext ho62 (lkc:Lk w41 _ NoB))) rfl rfl (by omega) (by omega)) ?_
 rintro _ w42 ⟨rfl,lk63⟩
 refine ⟨kpc,?_⟩
 rw [decide_eq_true rfl]
 refine xt_Pk rfl ?_
 refine xt_v rfl v_move ?_
 refine xt_gcall rfl rfl EvO.eq (works4_ok w42) ?_
 rintro _ w43 ⟨rfl,lkw⟩
 refine ⟨kpc,?_⟩
 refine xt_Pk rfl ?_
 refine xt_v rfl v_assign (xt_nil ?_)
 refine x_ret ?_
 refine fin1 rfl ?_
 exact ⟨rfl,lkc⟩
end Go.Proofs.YtigmfcgeljjgnaaGreatDoor
