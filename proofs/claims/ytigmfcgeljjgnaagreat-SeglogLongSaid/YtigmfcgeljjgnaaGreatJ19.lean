/- A part of the walks through the log and its document, and of the law in plain Lean: HN HS Xz. -/
import Derived.Test.YtigmfcgeljjgnaaGreatJ18
import Derived.ProofKit
import Derived.Deep.Slices
set_option linter.all false
set_option maxRecDepth 100000
set_option synthInstance.maxSize 100000
set_option synthInstance.maxHeartbeats 400000
namespace Go.Proofs.YtigmfcgeljjgnaaGreat
open Go.Wst
open Go.Wst.Dm Go.Wst.Sg
theorem nok_P (n:Nat):nameOk (fileN nameP n)=true:=nameOk_file nameP_ok n
theorem does_room (M:Disk) (t:Thing):(M.does t).room=M.room:=by unfold Disk.does;split<;>rfl
theorem doAll_room:∀ (ts:List Thing) (M:Disk),(doAll M ts).room=M.room
 | [],M=>rfl
 | t :: ts,M=>by
   show (doAll (M.does t) ts).room=_
   rw [doAll_room ts,does_room]
theorem used_less {M:Disk} (hm:M.ok) {t:Thing} (hw:t.what=1\/t.what=2):usedB (M.does t).files<=usedB M.files:=by
 by_cases h0:M.doNo t=0
 ·rw [foldl_snoc h0]
  have h1:=used_done (l:=M.files) (t:=t) hm.files.1 (.inr hw)
  have h2:((t.look (akey M.files t.name)).getD []).length<=((akey M.files t.name).getD []).length:=by
   unfold Thing.look
   rw [if_neg (by omega)]
   split
   ·cases akey M.files t.name with
    | none=>simp
    | some b=>simp;omega
   ·simp
  omega
 ·rw [Disk.does,if_neg h0]
  exact Nat.le_refl _
theorem used_doAll:∀ (ts:List Thing) (M:Disk),M.ok->(∀ t∈ts,t.what=1\/t.what=2)->usedB (doAll M ts).files<=usedB M.files
 | [],M,_,_=>Nat.le_refl _
 | t :: ts,M,hm,h=>by
   have h0:=h t List.mem_cons_self
   have h1:=used_doAll ts (M.does t) (hm.does (.inr h0)) (fun u hu=>h u (List.mem_cons_of_mem _ hu))
   have h2:=used_less hm h0
   show usedB (doAll (M.does t) ts).files<=_
   omega
theorem rm_12 (l:List ByteArray):∀ t∈l.map rmT,t.what=1\/t.what=2:=fun t ht=>by
 obtain ⟨f,_,rfl⟩:=List.mem_map.1 ht
 exact .inr rfl
theorem used_trunc {M:Disk} (hm:M.ok) (name:ByteArray) (per:Nat) (es:List En) (n:Nat):usedB (truncM M name per es n).files<=usedB M.files/\(truncM M name per es n).room=M.room:=by
 have h1:=used_doAll _ M hm (rm_12 (fallOwn M.files (fromB name n)))
 have h2:=doAll_room ((fallOwn M.files (fromB name n)).map rmT) M
 unfold truncM
 split
 ·have h3:=used_less (doAll_ok _ M hm (rm_ok (fallOwn M.files (fromB name n)))) (t:=cutT (fileN name (n / per*per)) (frames ((es.take n).drop (n / per*per))).length) (.inl rfl)
  exact ⟨by omega,by rw [does_room,h2]⟩
 ·exact ⟨h1,h2⟩
theorem LogI.torn1 {M:Disk} {name:ByteArray} {per:Nat} {es:List En} {x:En} (hm:M.ok) (h:LogI M.files name per es) (hp:1<=per) (h0:appNo M name per es x=0) {n:Nat} (hn:n<(frame x).length):(Go.Wst.Sg.told (done M.files (tornT (putT name per es.length x) n)) name per).1=es:=by
 have hl:=h.len
 obtain ⟨hI,hd⟩:=h.put hm hp h0
 have hR:Right x:=hI.right x (by simp)
 refine LogJ.told ?_ hp
 have hdm:=Nat.div_mul_le_self es.length per
 have hdl:es.length<es.length / per*per+per:=by
  have h1:=Nat.mod_lt es.length (show per > 0 by omega)
  have h2:=Nat.div_add_mod es.length per
  rw [Nat.mul_comm] at h2
  omega
 have hL:es.length<4096:=by have:=hI.len;simp at this;omega
 obtain ⟨b,hb⟩:∃ b,b=es.length / per*per:=⟨_,rfl⟩
 rw [<- hb] at hdm hdl
 have hk:∀ n',n'<1000000->akey (done M.files (tornT (putT name per es.length x) n)) (fileN name n')=if n'=b then some ((akey M.files (fileN name b)).getD []++(frame x).take n) else akey M.files (fileN name n'):=by
  intro n' hn'
  rw [akey_torn hm _ rfl]
  show (if fileN name n'=fileN name (es.length / per*per) then _ else _)=_
  rw [<- hb]
  by_cases e:n'=b
  ·rw [if_pos e,if_pos (by rw [e])]
   simp only [putT,<- hb]
  ·rw [if_neg e,if_neg (fileN_ne hn' (by omega) e)]
 refine ⟨h.right,h.rise,hl,fun j hj=>?_,fun j hj=>?_⟩
 ·obtain ⟨r,h8,h9⟩:=h.seg j hj
  rw [hk _ (by omega)]
  by_cases e:j*per=b
  ·rw [if_pos e]
   rw [e] at h8 h9 ⊢
   rw [h9 (.inl hdl),List.append_nil] at h8
   exact ⟨(frame x).take n,by rw [h8];rfl,fun _=>allB_torn hR hn⟩
  ·rw [if_neg e]
   exact ⟨r,h8,fun h10=>by rw [h9 (.inl h10)];rfl⟩
 ·rw [hk _ (by omega)]
  by_cases e:j*per=b
  ·rw [if_pos e,h.own_none (n:=b) (by omega) (by omega)]
   exact allB_torn hR hn
  ·rw [if_neg e,h.own_none (by omega) (by omega)]
   rfl
def wx1:En:=⟨1,-1,0,0,1,1⟩
def wx2:En:=⟨1,-1,0,0,1,2⟩
def wx3:En:=⟨2,-1,0,0,1,3⟩
def wx4:En:=⟨3,-1,0,0,1,9⟩
theorem fr40 {xs:List En}:∀ x∈xs,Right x->(frame x).length<=40:=fun x _ h=>(frame_len h).2
theorem work1:(appAll nameP 2 ⟨1000,[],[]⟩ [] [wx1,wx2,wx3]).2=([wx1,wx2,wx3],3,0)/\(appAll nameP 2 ⟨1000,[],[]⟩ [] [wx1,wx2,wx3]).1.ok/\LogI (appAll nameP 2 ⟨1000,[],[]⟩ [] [wx1,wx2,wx3]).1.files nameP 2 [wx1,wx2,wx3]/\usedB (appAll nameP 2 ⟨1000,[],[]⟩ [] [wx1,wx2,wx3]).1.files<=120/\(appAll nameP 2 ⟨1000,[],[]⟩ [] [wx1,wx2,wx3]).1.room=1000:=by
 have hm:Disk.ok ⟨1000,[],[]⟩:=⟨by decide,by decide,by simp [Rise],nofun,by show ((0:Nat):Int)<=1000;omega⟩
 obtain ⟨h1,h2,h3,h4⟩:=app_room nok_P (per:=2) (c:=40) [wx1,wx2,wx3] ⟨1000,[],[]⟩ [] hm fr40 (by show ((40*3:Nat):Int)+((0:Nat):Int)<=1000;omega)
 have he:appE [] [wx1,wx2,wx3]=([wx1,wx2,wx3],3,0):=by decide +kernel
 have hI:=(LogI.appAll (name:=nameP) (per:=2) (by decide) [wx1,wx2,wx3] ⟨1000,[],[]⟩ [] hm (logI_nil nameP 2)).2
 rw [h1,he] at hI
 exact ⟨by rw [h1,he],h2,hI,h3,h4⟩
theorem work_files {M:Disk} (hm:M.ok) (h:LogI M.files nameP 2 [wx1,wx2,wx3]):ownFiles M.files nameP=[fileN nameP 0,fileN nameP 2]:=by
 refine rise_uniq blt_irrefl (fun a b=>blt_asymm) (own_rise hm nameP) (by decide +kernel) (fun f=>(h.mem (by decide) f).trans ?_)
 simp only [List.mem_cons,List.not_mem_nil,or_false]
 constructor
 ·rintro ⟨j,h1,rfl⟩
  have h2:j*2<3:=h1
  rcases j with _ | _ | j
  ·exact .inl rfl
  ·exact .inr rfl
  ·omega
 ·rintro (rfl | rfl)
  ·exact ⟨0,by decide,rfl⟩
  ·exact ⟨1,by decide,rfl⟩
theorem work2 {M:Disk} (hm:M.ok) (h:LogI M.files nameP 2 [wx1,wx2,wx3]) (hu:usedB M.files<=120) (hr:M.room=1000):(truncM M nameP 2 [wx1,wx2,wx3] 1).flush.ok/\LogI (truncM M nameP 2 [wx1,wx2,wx3] 1).flush.files nameP 2 [wx1]/\usedB (truncM M nameP 2 [wx1,wx2,wx3] 1).flush.files<=120/\(truncM M nameP 2 [wx1,wx2,wx3] 1).flush.room=1000:=by
 have h1:=h.trunc hm nameP_ok (by decide) nok_P (n:=1) (by decide)
 have h2:=used_trunc hm nameP 2 [wx1,wx2,wx3] 1
 exact ⟨(trunc_ok2 hm _ _ _ _).flush,h1,Nat.le_trans h2.1 hu,h2.2.trans hr⟩
theorem work3 {M:Disk} (hm:M.ok) (h:LogI M.files nameP 2 [wx1]) (hu:usedB M.files<=120) (hr:M.room=1000) (hw:M.waits=[]):(appAll nameP 2 M [wx1] [wx4]).2=([wx1,wx4],1,0)/\((appAll nameP 2 M [wx1] [wx4]).1.crash 0 3).waits=[]/\(Go.Wst.Sg.told ((appAll nameP 2 M [wx1] [wx4]).1.crash 0 3).files nameP 2).1=[wx1]:=by
 have hR4:Right wx4:=by decide +kernel
 have hl:=frame_len hR4
 obtain ⟨h1,h2,h3,h4⟩:=app_room nok_P (per:=2) (c:=40) [wx4] M [wx1] hm fr40 (by rw [hr];show ((40*1:Nat):Int)+_<=_;omega)
 have he:appE [wx1] [wx4]=([wx1,wx4],1,0):=by decide +kernel
 have h0:appNo M nameP 2 [wx1] wx4=0:=by
  rw [appNo_room nok_P (fun _=>by rw [hr];omega)]
  decide +kernel
 have hA:(appAll nameP 2 M [wx1] [wx4]).1=M.does (putT nameP 2 1 wx4):=by
  rw [appAll,if_pos h0]
  rfl
 have hd:M.doNo (putT nameP 2 1 wx4)=0:=(h.put hm (by decide) h0).2
 have hD:M.does (putT nameP 2 1 wx4)=⟨M.room,M.lasts,[putT nameP 2 1 wx4]⟩:=by
  rw [Disk.does,if_pos hd,hw]
  rfl
 have hf:M.files=M.lasts:=by unfold Disk.files;rw [hw];rfl
 have hpk:pickN 3 (frame wx4).length=3:=by
  have h9:(3:Int).tmod (((frame wx4).length:Int)+1)=3:=by
   rw [Int.tmod_eq_emod_of_nonneg (by decide),Int.emod_eq_of_lt (by decide) (by omega)]
  unfold pickN
  rw [h9]
  rfl
 have hc:(M.does (putT nameP 2 1 wx4)).crash 0 3=⟨M.room,done M.lasts (tornT (putT nameP 2 1 wx4) 3),[]⟩:=by
  rw [hD]
  unfold Disk.crash
  have h8:pickN 0 1=0:=by decide
  simp only [List.length_singleton,h8,List.take_zero,List.foldl_nil,List.getElem?_cons_zero]
  rw [if_pos (by first | exact ⟨rfl,by show 0<pickN 3 (frame wx4).length;rw [hpk];decide⟩ | exact ⟨trivial,by show 0<pickN 3 (frame wx4).length;rw [hpk];decide⟩)]
  show (⟨M.room,done M.lasts (tornT (putT nameP 2 1 wx4) (pickN 3 (frame wx4).length)),[]⟩:Disk)=_
  rw [hpk]
 refine ⟨by rw [h1,he],by rw [hA,hc],?_⟩
 rw [hA,hc]
 have h9:=LogI.torn1 hm h (by decide) h0 (n:=3) (by omega)
 rw [hf] at h9
 exact h9
theorem row_blk0 {w:World} {b:Nat} {t:TypeId} {xs:List En} (h:Blk w b (.cells (xs.flatMap enC).toArray t (0,0))):RowP w (some ⟨b,0,none⟩) (xs.flatMap enC):=row_blk h.eq
instance (priority:=low) subF_wide2 (Q T:Nat->Prop) (w W w0:World) [h:SubF (NotP Q) T w0]:SubF (NotP (wide Q w W)) T w0:=⟨fun k hk e=>h.sub k hk (fun q=>e (.inl q))⟩
theorem ens_lt {w:World} {A:Option Addr} {xs:List En} (hra:RowP w A (xs.flatMap enC)) (hne:xs≠[]) (a:Addr) (ha:A=some a):a.block<w.heap.size:=(rowB_of hra).far.resolve_left (by
    intro e
    have h1:(xs.flatMap enC).length=xs.length*6:=flat_len (enc:=enC) (sz:=6) (fun _=>rfl) xs
    rw [e] at h1
    have:=List.length_pos_iff.2 hne
    simp at h1
    omega) a ha
set_option maxHeartbeats 2000000 in
theorem works4_ok (w:World):Ret Tryz.prog 7 #[] w (fun v w'=>v=.bool true/\Lk w' w NoB):=by
 refine ret_of_x (N:=104) (l:=[]) Tryz.func7 rfl rfl (Nat.le_of_ble_eq_true rfl) ?_
 refine xq (xz ?_)
 refine xq ?_
 refine xl_call (new3_ok 1000 w (by decide)) ?_
 rintro _ w1 ⟨⟨d,rfl,hD0,hgd⟩,lk1⟩
 obtain ⟨wa1,hwa1⟩:∃ z,z=w:=⟨_,rfl⟩
 have h1w:w.heap.size<=wa1.heap.size:=by rw [hwa1];exact Ge.le
 rw [<- hwa1] at hD0
 obtain ⟨R0,hR0⟩:∃ R0:Nat->Prop,R0=fun k=>k<wa1.heap.size:=⟨_,rfl⟩
 rw [<- hR0] at hD0
 haveI sF0:SubF (NotP R0) NoB w:=⟨fun k hk e=>e (by rw [hR0];show k<wa1.heap.size;omega)⟩
 refine xm (xl_v v_extract (xl_v v_extract (xa (xz ?_))))
 refine xq (xm ?_)
 refine xl_call (open2_ok' R0 R0 d ⟨1000,[],[]⟩ nameP 2 w1 (hD0.ext (kpc:Keep NoB _ w1)) (by decide +kernel) (by decide) (by simp)) ?_
 rintro _ w2 ⟨hres,lk2⟩
 rw [if_pos ⟨nameP_ok,by decide,by decide⟩] at hres
 obtain ⟨b,L,rfl,hL,p2,p3,p4,p5,p6,p7,p8⟩:=hres
 rw [show (2:Int).toNat=2 from rfl] at hL p3 p5
 rw [open_nil 1000 nameP (by decide)] at hL
 rw [show Disk.files ⟨1000,[],[]⟩=[] from rfl,told_nil nameP (by decide)] at p5
 obtain ⟨wa2,hwa2⟩:∃ z,z=w2:=⟨_,rfl⟩
 rw [<- hwa2] at hL
 refine xm (xl_v v_extract (xl_v v_extract (xa (xz ?_))))
 refine xq (xm ?_)
 refine xl_call (data4_ok 1 1 w2) ?_
 rintro _ w3 ⟨rfl,lkd1⟩
 refine xl_call (data4_ok 1 2 w3) ?_
 rintro _ w4 ⟨rfl,lkd2⟩
 refine xl_call (data4_ok 2 3 w4) ?_
 rintro _ w5 ⟨rfl,lkd3⟩
 refine xl_e (e_buildSliceM (vs:=[wx1,wx2,wx3].flatMap enC) rfl rfl (by simp [wx1,wx2,wx3]) fun b28 w6 n28 l28 k28=>?_)
 refine xl_call (append_ok (wide R0 wa2 w6) (wide R0 wa2 w6) b L ⟨1000,[],[]⟩ (some ⟨b28,0,none⟩) 3 3 [wx1,wx2,wx3] w6 (hL.widen (by rw [hwa2];exact kpc)) (row_blk0 k28) (fun _ a ha=>by cases ha;exact .inr ⟨by rw [hwa2,n28.eq];exact Ge.le,Has.lt⟩) rfl (by decide) (by simp)) ?_
 rintro _ w7 ⟨rfl,⟨L1,hL1,q1,q2,q3,q4,q5⟩,lk3⟩
 obtain ⟨u1,u2,u3,u4,u5⟩:=work1
 have un:=app_n nameP 2 [wx1,wx2,wx3] ⟨1000,[],[]⟩ []
 rw [u1] at un
 rw [p2,p3,p5] at hL1 q1 ⊢
 rw [p2] at q2
 rw [p3] at q3
 rw [p4] at q4
 rw [u1] at q1 ⊢
 simp only at q1 un ⊢
 have un1:fat (appAll nameP 2 ⟨1000,[],[]⟩ [] [wx1,wx2,wx3]).1<=3/\(appAll nameP 2 ⟨1000,[],[]⟩ [] [wx1,wx2,wx3]).1.waits.length<=3:=⟨un.2.2.1,un.2.2.2⟩
 clear un u1
 generalize (appAll nameP 2 ⟨1000,[],[]⟩ [] [wx1,wx2,wx3]).1=M1 at hL1 u2 u3 u4 u5 un1
 obtain ⟨R1,hR1⟩:∃ R1,R1=wide R0 wa2 w6:=⟨_,rfl⟩
 rw [<- hR1] at hL1 lk3
 haveI sF1:SubF (NotP R1) NoB w:=by rw [hR1];infer_instance
 have hL1w:=hL1
 obtain ⟨wa3,hwa3⟩:∃ z,z=w7:=⟨_,rfl⟩
 rw [<- hwa3] at hL1
 have hl1:=fat_lasts M1
 refine xm (xl_v v_extract (xl_v v_extract (xa (xz ?_))))
 refine xq (xm ?_)
 refine xl_call (lfiles_ok R1 R1 b L1 M1 w7 (by rw [hwa3] at hL1;exact hL1.ext kpc)) ?_
 rintro _ w8 ⟨⟨A7,c7,rfl,ho7⟩,lk4⟩
 rw [q2,work_files u2 u3] at ho7 ⊢
 haveI hr7:Row w8 A7 (strs [fileN nameP 0,fileN nameP 2]):=⟨own_row ho7⟩
 have h7b:=own_blk ho7
 have h37:wa3.heap.size<=(w7).heap.size:=by rw [hwa3];exact Ge.le
 obtain ⟨wa4,hwa4⟩:∃ z,z=w8:=⟨_,rfl⟩
 have hA7:∀ a,A7=some a->wa3.heap.size<=a.block/\a.block<wa4.heap.size:=fun a ha=>⟨by have:=(h7b a ha).1;omega,by rw [hwa4];exact (h7b a ha).2⟩
 refine xz ?_
 refine x_seq ?_
 have h44:wa4.heap.size<=(w8).heap.size:=by rw [hwa4];exact Ge.le
 haveI rO1:RowOut (NotP (wide R1 wa3 w8)) A7:=⟨fun a ha e=>e (.inr ⟨(hA7 a ha).1,by have:=(hA7 a ha).2;omega⟩)⟩
 refine x_regionL (xm ?_)
 refine xl_call (truncate_ok (wide R1 wa3 w8) (wide R1 wa3 w8) b L1 M1 1 w8 (hL1.widen (by rw [hwa3];exact kpc)) (by decide) (by rw [q2,work_files u2 u3];simp;omega)) ?_
 rintro _ w9 ⟨hres,lk5⟩
 rw [if_neg (by rw [q1];simp),q1,q2,q3] at hres
 obtain ⟨rfl,L2,hL2,z1,z2,z3,z4,z5⟩:=hres
 rw [show (1:Int).toNat=1 from rfl] at hL2 z1
 obtain ⟨y1,y2,y3,y4⟩:=work2 u2 u3 u4 u5
 have yf:=fat_trunc M1 nameP 2 [wx1,wx2,wx3] 1
 have yg:=fat_flush (truncM M1 nameP 2 [wx1,wx2,wx3] 1)
 obtain ⟨R2,hR2⟩:∃ R2,R2=wide R1 wa3 w8:=⟨_,rfl⟩
 rw [<- hR2] at hL2 lk5 rO1
 haveI sF2:SubF (NotP R2) NoB w:=by rw [hR2];infer_instance
 refine xm ?_
 refine xl_call (lflush_ok R2 R2 b L2 _ w9 (hL2.ext (kpc:Keep NoB _ w9))) ?_
 rintro _ w10 ⟨rfl,hL3,lk6⟩
 obtain ⟨M3,hM3⟩:∃ M3,M3=(truncM M1 nameP 2 [wx1,wx2,wx3] 1).flush:=⟨_,rfl⟩
 rw [<- hM3] at hL3 y1 y2 y3 y4 yg
 have hl3:=fat_lasts M3
 obtain ⟨wa5,hwa5⟩:∃ z,z=w10:=⟨_,rfl⟩
 rw [<- hwa5] at hL3
 refine xa (xz ?_)
 refine xq (xm ?_)
 refine xl_call (data4_ok 3 9 w10) ?_
 rintro _ w11 ⟨rfl,lkd4⟩
 refine xl_e (e_buildSliceM (vs:=[wx4].flatMap enC) rfl rfl (by simp [wx4]) fun b40 w12 n40 l40 k40=>?_)
 refine xl_call (append_ok (wide R2 wa5 w12) (wide R2 wa5 w12) b { L2 with sure:=L2.es.length } M3 (some ⟨b40,0,none⟩) 1 1 [wx4] w12 (hL3.widen (by rw [hwa5];exact kpc)) (row_blk0 k40) (fun _ a ha=>by cases ha;exact .inr ⟨by rw [hwa5,n40.eq];exact Ge.le,Has.lt⟩) rfl (by decide) (by rw [yg.2];simp;omega)) ?_
 rintro _ w13 ⟨rfl,⟨L4,hL4,x1,x2,x3,x4,x5⟩,lk7⟩
 rw [show ({ L2 with sure:=L2.es.length }:LLog).name=nameP from z2,show ({ L2 with sure:=L2.es.length }:LLog).per=2 from z3,show ({ L2 with sure:=L2.es.length }:LLog).es=[wx1] from z1] at hL4 x1 ⊢
 obtain ⟨t1,t2,t3⟩:=work3 y1 y2 y3 y4 yg.2
 have tn:=app_n nameP 2 [wx4] M3 [wx1]
 rw [t1] at x1 tn ⊢
 simp only at x1 tn ⊢
 have tn1:fat (appAll nameP 2 M3 [wx1] [wx4]).1<=4:=by have:=tn.2.2.1;omega
 clear tn t1
 generalize (appAll nameP 2 M3 [wx1] [wx4]).1=M4 at hL4 t2 t3 tn1
 obtain ⟨R3,hR3⟩:∃ R3,R3=wide R2 wa5 w12:=⟨_,rfl⟩
 rw [<- hR3] at hL4 lk7
 haveI sF3:SubF (NotP R3) NoB w:=by rw [hR3];infer_instance
 haveI rO2:RowOut (NotP R3) A7:=⟨fun a ha e=>rO1.out a ha (fun e2=>e (by rw [hR3];exact .inl e2))⟩
 have hd4:L4.d=d:=by rw [x4];show L2.d=d;rw [z4,q4]
 have fc:=fat_crash M4 0 3
 have hl5:=fat_lasts (M4.crash 0 3)
 refine xl_nil ?_
 refine xq (xm (xl_v v_build ?_))
 refine xl_call (crash_ok _ _ d M4 0 3 w13 (by have h9:=hL4.disk;rw [hd4] at h9;exact h9.ext (kpc:Keep NoB _ w13)) (by decide) (by decide)) ?_
 rintro _ w14 ⟨⟨x,rfl,hX,hgx⟩,lk8⟩
 obtain ⟨R5,hR5⟩:∃ R5:Nat->Prop,R5=fun k=>k<(w13).heap.size:=⟨_,rfl⟩
 have h6b:b<(w13).heap.size:=Nat.lt_of_lt_of_le hL4.lt.2.2.1 Ge.le
 have h6w:w.heap.size<=(w13).heap.size/\wa4.heap.size<=(w13).heap.size:=⟨Ge.le,by rw [hwa4];exact Ge.le⟩
 haveI sF5:SubF (NotP R5) NoB w:=⟨fun k hk e=>e (by rw [hR5];show k<_;omega)⟩
 haveI rO5:RowOut (NotP R5) A7:=⟨fun a ha e=>e (by rw [hR5];have:=(hA7 a ha).2;show a.block<_;omega)⟩
 haveI nS5:NotS (NotP R5) b:=⟨fun e=>e (by rw [hR5];exact h6b)⟩
 haveI kb4:Blk w14 b (.cells (logC L4).toArray 69 (0,0)):=⟨(hL4.ext (kpc:Keep NoB _ w14)).at_⟩
 rw [<- hR5] at hX
 refine xm (xl_v v_extract (xl_v v_extract (xa (xz ?_))))
 refine xq (xm ?_)
 refine xl_call (open2_ok' _ R5 x (M4.crash 0 3) nameP 2 w14 (hX.ext (kpc:Keep NoB _ w14)) (by decide +kernel) (by decide) (by rw [fc.2];simp;omega)) ?_
 rintro _ w15 ⟨hres,lk9⟩
 rw [if_pos ⟨nameP_ok,by decide,by decide⟩] at hres
 obtain ⟨b12,L5,rfl,hL5,s2,s3,s4,s5,s6,s7,s8⟩:=hres
 rw [show (2:Int).toNat=2 from rfl,t3] at s5
 rw [if_pos t2,s5] at s6
 haveI kb5:Blk w15 b12 (.cells (logC L5).toArray 69 (0,0)):=⟨hL5.at_⟩
 refine xm (xl_v v_extract (xl_v v_extract (xa (xz ?_))))
 refine xq (xm ?_)
 refine xl_call (num4_ok _ _) ?_
 rintro _ _ ⟨rfl,rfl⟩
 refine xm ?_
 refine xl_call (num4_ok _ _) ?_
 rintro _ _ ⟨rfl,rfl⟩
 refine xl_v (v_add (by omega)) ?_
 refine xm ?_
 refine xl_call (num4_ok _ _) ?_
 rintro _ _ ⟨rfl,rfl⟩
 refine xl_v (v_add (by omega)) ?_
 refine xm ?_
 refine xl_call (num4_ok _ _) ?_
 rintro _ _ ⟨rfl,rfl⟩
 refine xl_v (v_add (by omega)) ?_
 refine xm ?_
 refine xl_call (num4_ok _ _) ?_
 rintro _ _ ⟨rfl,rfl⟩
 refine xl_v (v_add (by omega)) ?_
 refine xm ?_
 refine xl_call (num4_ok _ _) ?_
 rintro _ _ ⟨rfl,rfl⟩
 refine xl_v (v_add (by omega)) ?_
 refine xm ?_
 refine xl_call (num4_ok _ _) ?_
 rintro _ _ ⟨rfl,rfl⟩
 refine xl_v (v_add (by omega)) ?_
 refine xl_v (v_congr (u:=.bool true) v_eql (by simp)) ?_
 refine xm (xl_gv rfl EvO.eq v_move ?_)
 refine xl_gv rfl EvO.eq (v_congr (u:=.bool true) v_eql (by simp)) ?_
 refine xl_Pk ?_
 refine xm (xl_gv rfl EvO.eq v_move (xl_gv rfl EvO.eq v_len ?_))
 refine xl_gv rfl EvO.eq (v_congr (u:=.bool true) v_eql (by simp)) ?_
 refine xl_Pk ?_
 refine xm (xl_gv rfl EvO.eq v_move ?_)
 refine xl_gv rfl EvO.eq (v_indexAddr 1 rfl (by decide) (row_some hr7 (by simp [strs]))) ?_
 refine xl_gv rfl EvO.eq (v_loadR (v:=.string (fileN nameP 2)) (by simp [strs])) ?_
 refine xl_gv rfl EvO.eq (v_congr (u:=.bool true) v_seql (congrArg Value.bool (decide_eq_true (by decide +kernel)))) ?_
 refine xl_Pk ?_
 refine xm (xl_gv rfl EvO.eq v_move ?_)
 refine xl_gcall rfl EvO.eq (llen_ok b12 L5 w15) ?_
 rintro _ _ ⟨rfl,rfl⟩
 refine xl_gv rfl EvO.eq (v_congr (u:=.bool true) v_eql (by simp [s5])) ?_
 refine xl_Pk ?_
 refine xm (xl_gv rfl EvO.eq v_move ?_)
 refine xl_gcall rfl EvO.eq (lsure_ok b12 L5 w15) ?_
 rintro _ _ ⟨rfl,rfl⟩
 refine xl_gv rfl EvO.eq (v_congr (u:=.bool true) v_eql (by simp [s6])) ?_
 refine xl_Pk ?_
 refine xm (xl_gv rfl EvO.eq v_move ?_)
 refine xl_gcall rfl EvO.eq (llen_ok b L4 w15) ?_
 rintro _ _ ⟨rfl,rfl⟩
 refine xl_gv rfl EvO.eq (v_congr (u:=.bool true) v_eql (by simp [x1])) ?_
 refine xl_Pk ?_
 refine xz ?_
 refine x_ret ?_
 refine fin1 rfl ?_
 exact ⟨rfl,lkc⟩
structure SL where
 xs:List En
 A:Option Addr
 c:Nat
abbrev slC (s:SL):Value:=.slice s.A s.xs.length s.c
structure LastI (st:List SL) (L:LLog) (M:Disk) (k:Nat):Prop where
 hist:Hist (fun s=>∃ x∈st,x.xs=s) (L.es.take L.sure) L.name L.per M
 inv:LogI M.files L.name L.per L.es
 now:∃ x∈st,x.xs=L.es
 sure:L.sure<=L.es.length
 fat:fat M<=4096*k
 waits:M.waits.length<=140000+4097*k
theorem stoodL {st:List SL} {x:SL} (s:List En):(∃ y∈st,y.xs=s)->∃ y∈st++[x],y.xs=s:=fun ⟨y,hy,e⟩=>⟨y,List.mem_append_left _ hy,e⟩
theorem LastI.start {L:LLog} (h1:L.es=[]) (h2:L.sure=0) (hp:1<=L.per):LastI [⟨[],none,0⟩] L ⟨10000,[],[]⟩ 0:=by
 have hP:Part (fun s=>∃ x∈[(⟨[],none,0⟩:SL)],x.xs=s) (L.es.take L.sure) L.name L.per []:=by
  rw [h1]
  refine ⟨⟨[],⟨_,List.mem_cons_self,rfl⟩,?_⟩,?_⟩
  ·rw [told_nil L.name hp];exact List.prefix_refl _
  ·rw [told_nil L.name hp,List.take_nil];exact List.prefix_refl _
 refine ⟨⟨fun j hj=>?_,fun j t n ht=>by cases ht⟩,by rw [h1];exact logI_nil _ _,⟨_,List.mem_cons_self,h1.symm⟩,by omega,by simp [Go.Proofs.YtigmfcgeljjgnaaGreat.fat,puts],by simp⟩
 show Part _ _ _ _ (List.foldl Dm.done [] (([]:List Thing).take j))
 rw [List.take_nil]
 exact hP
theorem LastI.stay {st:List SL} {L:LLog} {M:Disk} {k:Nat} (h:LastI st L M k) (x:SL):LastI (st++[x]) L M (k+1):=by
 have h1:=h.fat
 have h2:=h.waits
 exact ⟨h.hist.mono stoodL (List.prefix_refl _),h.inv,stoodL _ h.now,h.sure,by omega,by omega⟩
theorem LastI.app {st:List SL} {L L':LLog} {M:Disk} {k:Nat} (h:LastI st L M k) (hm:M.ok) (hp:1<=L.per) (xs:List En) (he:L'.es=(appAll L.name L.per M L.es xs).2.1) (hn:L'.name=L.name) (hpr:L'.per=L.per) (hs:L'.sure=L.sure) (x:SL) (hx:x.xs=L'.es):LastI (st++[x]) L' (appAll L.name L.per M L.es xs).1 (k+1):=by
 have hA:=LogI.appAll hp xs M L.es hm h.inv
 have hpre:=app_pre L.name L.per xs M L.es
 have hn':=app_n L.name L.per xs M L.es
 have hl:=hA.2.len
 have hsl:=hpre.length_le
 have hsu:=h.sure
 have h1:=h.fat
 have h2:=h.waits
 have htk:L'.es.take L'.sure=L.es.take L.sure:=by
  rw [he,hs]
  obtain ⟨r,hr⟩:=hpre
  rw [<- hr,List.take_append_of_le_length hsu]
 refine ⟨?_,by rw [he,hn,hpr];exact hA.2,⟨x,by simp,hx⟩,by rw [he,hs];omega,by omega,by omega⟩
 rw [htk,hn,hpr]
 exact Hist.appAll hp xs M L.es hm h.inv (List.take_prefix _ _) (h.hist.mono stoodL (List.prefix_refl _)) ⟨x,by simp,by rw [hx,he]⟩
theorem LastI.trunc {st:List SL} {L L2:LLog} {M M2:Disk} {k:Nat} (h:LastI st L M k) (hm:M.ok) (hname:logName L.name=true) (hp:1<=L.per) {n no:Int} (hn2:L2.name=L.name) (hp2:L2.per=L.per) (hI2:LogI M2.files L.name L.per L2.es) (hf1:Go.Proofs.YtigmfcgeljjgnaaGreat.fat M2<=Go.Proofs.YtigmfcgeljjgnaaGreat.fat M) (hf2:M2.waits.length<=M.waits.length+4097) (hres:if n<0\/(L.es.length:Int)<n then no=4/\M2=M/\L2.sure=L.sure else no=0/\M2=truncM M L.name L.per L.es n.toNat/\L2.sure=min L.sure n.toNat) (x:SL) (hx:x.xs=L2.es):LastI (st++[x]) L2 M2 (k+1):=by
 have h1:=h.fat
 have h2:=h.waits
 have hsu:=h.sure
 by_cases hc:n<0\/(L.es.length:Int)<n
 ·rw [if_pos hc] at hres
  obtain ⟨_,rfl,hs⟩:=hres
  have he:L2.es=L.es:=(hI2.told hp).symm.trans (h.inv.told hp)
  exact ⟨by rw [he,hs,hn2,hp2];exact h.hist.mono stoodL (List.prefix_refl _),by rw [hn2,hp2];exact hI2,⟨x,by simp,hx⟩,by rw [hs,he];exact hsu,by omega,by omega⟩
 ·rw [if_neg hc] at hres
  obtain ⟨_,rfl,hs⟩:=hres
  have hle:n.toNat<=L.es.length:=by omega
  have hT:=h.inv.trunc hm hname hp (nameOk_file hname) hle
  have he:L2.es=L.es.take n.toNat:=(hI2.told hp).symm.trans (hT.told hp)
  have hp':L2.es.take L2.sure=L.es.take (min L.sure n.toNat):=by
   rw [he,hs,List.take_take,Nat.min_eq_left (Nat.min_le_right _ _)]
  refine ⟨?_,by rw [hn2,hp2];exact hI2,⟨x,by simp,hx⟩,by rw [hs,he,List.length_take];omega,by omega,by omega⟩
  rw [hp',hn2,hp2]
  exact Hist.trunc hm hname hp (nameOk_file hname) h.inv hle (stoodL _ h.now) (List.take_prefix_take_left (Nat.min_le_right _ _)) (h.hist.mono stoodL (List.take_prefix_take_left (Nat.min_le_left _ _)))
theorem LastI.flush {st:List SL} {L:LLog} {M:Disk} {k:Nat} (h:LastI st L M k) (hp:1<=L.per) (x:SL) (hx:x.xs=L.es):LastI ([]++[x]) { L with sure:=L.es.length } M.flush (k+1):=by
 have h1:=h.fat
 have hf:=fat_flush M
 refine ⟨?_,h.inv,⟨x,by simp,hx⟩,Nat.le_refl _,by omega,by rw [hf.2];simp⟩
 show Hist _ (L.es.take L.es.length) L.name L.per M.flush
 rw [List.take_of_length_le (Nat.le_refl _)]
 exact Hist.flush hp h.inv ⟨x,by simp,hx⟩
def StI (R:Nat->Prop) (W:World) (S:Option Addr) (st:List SL):Prop:=∀ x∈st,RowP W x.A (x.xs.flatMap enC)/\x.xs.length<=4096/\x.xs.length<=x.c/\∀ a,x.A=some a->R a.block/\∀ s,S=some s->a.block≠s.block
theorem StI.call {R T:Nat->Prop} {W W':World} {S:Option Addr} {st:List SL} (h:StI R W S st) (hk:Keep T W W') (hT:∀ k,T k->¬ R k):StI R W' S st:=fun x hx=>by
 obtain ⟨h1,h2,h3,h4⟩:=h x hx
 exact ⟨h1.keep hk (fun a ha e=>hT _ e (h4 a ha).1),h2,h3,h4⟩
theorem StI.push {R:Nat->Prop} {W We:World} {S S':Option Addr} {st:List SL} {n c:Nat} (h:StI R W S st) (hk:Keep (OwnB (.slice S n c)) W We) (hS:∀ s,S'=some s->(∃ t,S=some t/\t.block=s.block)\/W.heap.size<=s.block) (hR:∀ k,R k->k<W.heap.size) (x:SL) (hx:RowP We x.A (x.xs.flatMap enC)) (hl:x.xs.length<=4096) (hc:x.xs.length<=x.c) (ha:∀ a,x.A=some a->W.heap.size<=a.block/\a.block<We.heap.size/\∀ s,S'=some s->a.block≠s.block):StI (wide R W We) We S' (st++[x]):=fun y hy=>by
 rcases List.mem_append.1 hy with hy | hy
 ·obtain ⟨h1,h2,h3,h4⟩:=h y hy
  refine ⟨h1.keep hk (fun a ha e=>?_),h2,h3,fun a ha=>⟨.inl (h4 a ha).1,fun s hs e=>?_⟩⟩
  ·obtain ⟨s,hs,e2⟩:=ownB_ex e
   exact (h4 a ha).2 s hs e2.symm
  ·rcases hS s hs with ⟨t,ht,e2⟩ | e2
   ·exact (h4 a ha).2 t ht (e.trans e2.symm)
   ·have:=hR _ (h4 a ha).1
    omega
 ·obtain rfl:y=x:=by simpa using hy
  exact ⟨hx,hl,hc,fun a h9=>⟨.inr ⟨(ha a h9).1,(ha a h9).2.1⟩,(ha a h9).2.2⟩⟩
theorem row_takeE {w:World} {A:Option Addr} {xs:List En} (h:RowP w A (xs.flatMap enC)) (k:Nat):RowP w A ((xs.take k).flatMap enC):=by
 have e:xs.flatMap enC=(xs.take k).flatMap enC++(xs.drop k).flatMap enC:=by rw [<- List.flatMap_append,List.take_append_drop]
 intro j v hv
 exact h j v (by rw [e,List.getElem?_append_left (List.getElem?_eq_some_iff.1 hv).1];exact hv)
set_option maxHeartbeats 8000000 in
theorem seglogLasts_ok (per:Int) (A:Option Addr) (n c:Nat) (xs:List LA) (kp tn:Int) (w:World) [hra:Row w A (xs.flatMap actC)] (hrs:∀ j (h:j<xs.length),RowP w xs[j].A (xs[j].xs.flatMap enC)) (hns:∀ j (h:j<xs.length),In64 xs[j].n/\In64 xs[j].keep/\In64 xs[j].torn/\xs[j].xs.length<=9223372036854775807) (hl:xs.length=n) (hn:n<=9223372036854775807) (hkp:In64 kp) (htn:In64 tn):Ret Tryz.prog 3 #[.int .i64 per,.slice A n c,.agg #[.int .i64 kp,.int .i64 tn]] w (fun v w'=>v=.bool true/\Lk w' w NoB):=by
 haveI hrb:RowB w A w (xs.flatMap actC):=rowB_of hra.row
 have hnz:nameP.size=1:=by decide +kernel
 refine ret_of_x (N:=146) (l:=[.int .i64 per,.slice A n c,.agg #[.int .i64 kp,.int .i64 tn]]) Tryz.func3 rfl rfl (Nat.le_of_ble_eq_true rfl) ?_
 refine xq ?_
 refine xl_e (e_box fun b5 w1 nb5 lb5 kb5=>?_)
 refine xz ?_
 refine x_seq (xq (xm ?_))
 refine xl_call (right4_ok 1 per w1) ?_
 rintro _ _ ⟨rfl,rfl⟩
 refine xl_v v_not (xm ?_)
 refine xl_split 24 (fun g24=>?_) (fun g24=>?_)
 ·have g1:¬ (1<=(1:Int)/\(1:Int)<=100000/\1<=per/\per<=256):=by simp only [Bool.not_eq_true',decide_eq_false_iff_not] at g24;exact g24
  refine xl_gs rfl EvO.eq (xl_gs rfl EvO.eq (xl_gs rfl EvO.eq (xl_Pk ?_)))
  refine xl_nil ?_
  refine x_condT ?_
  refine xq ?_
  refine xl_call (works4_ok w1) ?_
  rintro _ w3 ⟨rfl,lkw⟩
  refine xz ?_
  refine x_ret ?_
  refine fin1 rfl ?_
  exact ⟨rfl,lkc⟩
 have g1:1<=(1:Int)/\(1:Int)<=100000/\1<=per/\per<=256:=by simp only [Bool.not_eq_false',decide_eq_true_eq] at g24;exact g24
 refine xl_gv rfl EvO.eq v_move ?_
 refine xl_gcall rfl EvO.eq (few4_ok A n c xs w1 (hra:=rowB_of (ii:Row w1 A (xs.flatMap actC)).row) hl hn) ?_
 rintro _ w4 ⟨⟨fb,rfl,hfb⟩,lkf⟩
 refine xl_gv rfl EvO.eq v_not (xl_Pk ?_)
 refine xl_nil ?_
 refine x_if (fun c1=>?_) (fun c1=>?_)
 ·refine xq ?_
  refine xl_call (works4_ok w4) ?_
  rintro _ w5 ⟨rfl,lkw⟩
  refine xz ?_
  refine x_ret ?_
  refine fin1 rfl ?_
  exact ⟨rfl,lkc⟩
 refine x_skip (xq ?_)
 refine xl_call (new3_ok 10000 w4 (by decide)) ?_
 rintro _ w6 ⟨⟨d,rfl,hD0,hgd⟩,lk1⟩
 have hn30:n<=30:=hfb (by simpa using c1)
 obtain ⟨wa1,hwa1⟩:∃ z,z=w4:=⟨_,rfl⟩
 have h1w:w.heap.size<=wa1.heap.size/\b5<wa1.heap.size:=by rw [hwa1];exact ⟨Ge.le,Has.lt⟩
 rw [<- hwa1] at hD0
 obtain ⟨R0,hR0⟩:∃ R0:Nat->Prop,R0=fun k=>k<wa1.heap.size:=⟨_,rfl⟩
 rw [<- hR0] at hD0
 haveI sF0:SubF (NotP R0) NoB w:=⟨fun k hk e=>e (by rw [hR0];show k<wa1.heap.size;omega)⟩
 haveI nS5:NotS (NotP R0) b5:=⟨fun e=>e (by rw [hR0];exact h1w.2)⟩
 obtain ⟨pn,hpn⟩:∃ pn:Nat,pn=per.toNat:=⟨_,rfl⟩
 refine xm (xl_v v_extract (xl_v v_extract (xa (xz ?_))))
 refine xq (xm (xm ?_))
 refine xl_call (open2_ok' R0 R0 d ⟨10000,[],[]⟩ nameP per w6 (hD0.ext (kpc:Keep NoB _ w6)) (by omega) (by omega) (by simp)) ?_
 rintro _ w7 ⟨hres,lk2⟩
 rw [if_pos ⟨nameP_ok,g1.2.2.1,g1.2.2.2⟩] at hres
 obtain ⟨b,L,rfl,hL,p2,p3,p4,p5,p6,p7,p8⟩:=hres
 rw [<- hpn] at hL p3 p5
 rw [open_nil 10000 nameP (by omega)] at hL
 rw [show Disk.files ⟨10000,[],[]⟩=[] from rfl,told_nil nameP (by omega)] at p5
 rw [if_pos rfl,p5] at p6
 obtain ⟨waO,hwaO⟩:∃ z,z=w7:=⟨_,rfl⟩
 have hsO:wa1.heap.size<=waO.heap.size:=by rw [hwa1,hwaO];exact Ge.le
 rw [<- hwaO] at hL
 refine xm (xl_v v_extract (xl_v v_extract (xa (xz ?_))))
 refine x_seq (xq (xm ?_))
 refine xl_call (num4_ok _ _) ?_
 rintro _ _ ⟨rfl,rfl⟩
 refine xm ?_
 refine xl_call (num4_ok _ _) ?_
 rintro _ _ ⟨rfl,rfl⟩
 refine xl_v (v_add (by omega)) ?_
 refine xl_v (v_congr (u:=.bool false) v_neq (by simp)) ?_
 refine xl_nil ?_
 refine x_condF ?_
 refine x_skip (xq ?_)
 refine xl_e (e_buildSlice1 rfl fun b46 w10 n46 l46 k46=>?_)
 refine xz ?_
 refine x_seq (xq (xz ?_))
 refine x_block ?_
 have hL0:LogW (wide R0 waO w10) (wide R0 waO w10) b L ⟨10000,[],[]⟩ w10:=hL.widen (by rw [hwaO];exact kpc)
 have hb46:waO.heap.size<=b46/\b46<(w10).heap.size:=⟨by rw [hwaO,n46.eq];exact Ge.le,Has.lt⟩
 have ho46:World.ownsRow w10 wa1.heap.size 37 1 (.slice (some ⟨b46,0,none⟩) 1 1) 1 ([(⟨[],none,0⟩:SL)].map slC):=ownsRow_blk (by omega) Blk.eq (by simp) (by omega)
 have hb5r:(w10).heap[b5]?=_:=Blk.eq
 have hSt0:StI (wide R0 waO w10) w10 (some ⟨b46,0,none⟩) [⟨[],none,0⟩]:=fun x hx=>by
  obtain rfl:x=⟨[],none,0⟩:=by simpa using hx
  exact ⟨fun j v hv=>by simp at hv,by simp,by simp,nofun⟩
 refine x_loop (fun m τ ds w'=>ds=[]/\∃ (k:Nat) (L:LLog) (M:Disk) (R:Nat->Prop) (st:List SL) (S:Option Addr) (cs:Nat),m=n - k/\k<=n/\LogW R R b L M w'/\LastI st L M k/\L.d=d/\L.name=nameP/\L.per=pn/\(∀ j,j<wa1.heap.size->R j)/\StI R w' S st/\w'.ownsRow wa1.heap.size 37 1 (.slice S st.length cs) st.length (st.map slC)/\(∀ a,S=some a->R a.block)/\st.length<=k+1/\w'.heap[b5]?=some (.cells #[.int .i64 kp,.int .i64 tn] 24 (0,0))/\Ev τ 0 (.int .i64 per)/\Ev τ 1 (.slice A n c)/\Ev τ 5 (ptrV b5)/\Ev τ 7 (ptrV d)/\Ev τ 9 (ptrV b)/\Ev τ 11 (.slice S st.length cs)/\Ev τ 12 (.int .i64 (k:Int))/\Lk w' w NoB) (n) ?start ?round
 case start=>
  exact ⟨rfl,0,L,_,_,[⟨[],none,0⟩],_,_,rfl,by omega,hL0,LastI.start p5 p6 (by omega),p4,p2,p3,fun j e=>.inl (by rw [hR0];exact e),hSt0,ho46,fun a ha=>by cases ha;exact .inr hb46,by simp,hb5r,ii,ii,ii,ii,ii,ii,evc,lkc⟩
 case round=>
  intro m τ11 ds11 w11 hI
  obtain ⟨rfl,k,L,M,R,st,S,cs,rfl,hk,hL,hI1,hd,hnm,hpr,hRw,hSt,hO,hSR,hstl,hb5r,e0,e1,e5,e7,e9,e11,e12,lk⟩:=hI
  haveI:Blk w11 b5 _:=⟨hb5r⟩
  haveI:OwnI w11 S _ _ _ _ _ _ _:=⟨hO⟩
  haveI:NewA S w:=newA_of hO h1w.1
  haveI:RowOut (NotP R) S:=⟨fun a ha e=>e (hSR a ha)⟩
  haveI:SubF (NotP R) NoB w:=⟨fun j hj e=>e (hRw j (by omega))⟩
  haveI:SubF NoB (NotP R) w11:=⟨fun _ _ e=>e.elim⟩
  haveI:NotS (NotP R) b5:=⟨fun e=>e (hRw _ h1w.2)⟩
  have hfl:=fat_lasts M
  have hif:=hI1.fat
  have hiw:=hI1.waits
  have hm:=hL.ok
  have hp1:=hL.per1
  refine x_seq (xq (xm (xm (xl_v v_len (xl_v v_lss (xl_nil ?_))))))
  refine x_if (fun c3=>?_) (fun c3=>?_)
  ·have hk1:k<xs.length:=by omega
   obtain ⟨hk64,_,_,hkl⟩:=hns k hk1
   refine x_skip (x_seq (x_block (xq (xm (xm ?_)))))
   refine xl_v (v_indexF k (by decide) rfl (by omega) hk1) ?_
   refine xl_Lb ?_
   refine xl_e (e_alloc fun b13 w12 nb13 lb13 kb13=>?_)
   refine xl_s (e_storeA fun w13 l13 k13=>?_)
   refine xl_nil ?_
   refine x_cut (fun τ ds w'=>ds=[]/\∃ (L2:LLog) (M2:Disk) (st2:List SL) (S2:Option Addr) (cs2:Nat),LogW R R b L2 M2 w'/\(∀ x:SL,x.xs=L2.es->LastI (st2++[x]) L2 M2 (k+1))/\L2.d=d/\L2.name=nameP/\L2.per=pn/\StI R w' S2 st2/\w'.ownsRow wa1.heap.size 37 1 (.slice S2 st2.length cs2) st2.length (st2.map slC)/\(∀ a,S2=some a->R a.block)/\st2.length<=k+1/\w'.heap[b5]?=some (.cells #[.int .i64 kp,.int .i64 tn] 24 (0,0))/\Ev τ 0 (.int .i64 per)/\Ev τ 1 (.slice A n c)/\Ev τ 5 (ptrV b5)/\Ev τ 7 (ptrV d)/\Ev τ 9 (ptrV b)/\Ev τ 11 (.slice S2 st2.length cs2)/\Ev τ 12 (.int .i64 (k:Int))/\Lk w' w NoB) ?_ ?_
   ·refine xq (xl_Fb ?_)
    refine xl_Lc ?_
    refine xl_nil ?_
    refine x_block (xq (xl_v v_eql (xz ?_)))
    refine x_if (fun c4=>?_) (fun c4=>?_)
    ·refine x_regionL (xm (xl_Fb ?_))
     refine xl_Lc ?_
     refine xl_call (append_ok R R b L M xs[k].A xs[k].xs.length xs[k].c xs[k].xs w13 (hL.ext (kpc:Keep NoB w11 w13)) ((hrs k hk1).keep (kpc:Keep NoB w w13) (fun _ _ h=>h)) (fun hne a ha=>hRw _ (by have:=ens_lt (hrs k hk1) hne a ha;omega)) rfl hkl (by omega)) ?_
     rintro _ w14 ⟨rfl,⟨L2,hL2,q1,q2,q3,q4,q5⟩,lk3⟩
     refine xl_nil ?_
     have hcL:LogW R R b L2 _ w14:=hL2.ext (kpc:Keep NoB _ w14)
     have hcI:=fun x hx=>hI1.app hm hp1 xs[k].xs q1 q2 q3 q5 x hx
     have hcd:=q4.trans hd
     have hcn:=q2.trans hnm
     have hcp:=q3.trans hpr
     have hcS:=hSt.call (kpc:Keep (NotP R) w11 w14) (fun _ h=>h)
     have hcO:=(OwnI.own:World.ownsRow w14 _ _ _ (.slice S _ cs) _ _)
     have hcR:=hSR
     first
     | exact ⟨rfl,_,_,st,S,cs,hcL,hcI,hcd,hcn,hcp,hcS,hcO,hcR,hstl,Blk.eq,ii,ii,ii,ii,ii,ii,ii,lkc⟩
     | exact ⟨rfl,_,_,[],none,0,hcL,hcI,hcd,hcn,hcp,hcS,hcO,hcR,Nat.zero_le _,Blk.eq,ii,ii,ii,ii,ii,ii,ii,lkc⟩
    refine xq (xl_v v_eql (xz ?_))
    refine x_if (fun c5=>?_) (fun c5=>?_)
    ·refine x_regionL (xm (xl_Fb ?_))
     refine xl_Lc ?_
     refine xl_call (trunc2_ok R R b L M xs[k].n w13 (hL.ext (kpc:Keep NoB w11 w13)) hk64 (by have:=own_few hm hI1.inv hp1;have:=hI1.inv.len;omega) hI1.inv) ?_
     rintro _ w15 ⟨⟨L2,M2,no2,rfl,hL2,q2,q3,hI2,hf1,hf2,hres2,q4⟩,lk3⟩
     refine xl_nil ?_
     have hcL:LogW R R b L2 _ w15:=hL2.ext (kpc:Keep NoB _ w15)
     have hcI:=fun x hx=>hI1.trunc hm hL.name hp1 q2 q3 hI2 hf1 hf2 hres2 x hx
     have hcd:=q4.trans hd
     have hcn:=q2.trans hnm
     have hcp:=q3.trans hpr
     have hcS:=hSt.call (kpc:Keep (NotP R) w11 w15) (fun _ h=>h)
     have hcO:=(OwnI.own:World.ownsRow w15 _ _ _ (.slice S _ cs) _ _)
     have hcR:=hSR
     first
     | exact ⟨rfl,_,_,st,S,cs,hcL,hcI,hcd,hcn,hcp,hcS,hcO,hcR,hstl,Blk.eq,ii,ii,ii,ii,ii,ii,ii,lkc⟩
     | exact ⟨rfl,_,_,[],none,0,hcL,hcI,hcd,hcn,hcp,hcS,hcO,hcR,Nat.zero_le _,Blk.eq,ii,ii,ii,ii,ii,ii,ii,lkc⟩
    refine xq (xl_v v_eql (xz ?_))
    refine x_if (fun c6=>?_) (fun c6=>?_)
    ·refine xq (xm ?_)
     refine xl_call (lflush_ok R R b L M w13 (hL.ext (kpc:Keep NoB w11 w13))) ?_
     rintro _ w16 ⟨rfl,hL2,lk3⟩
     refine xl_nil ?_
     refine x_regionL (xz ?_)
     have hcL:LogW R R b _ _ w16:=hL2.ext (kpc:Keep NoB _ w16)
     have hcI:=fun x hx=>hI1.flush hp1 x hx
     have hcd:=hd
     have hcn:=hnm
     have hcp:=hpr
     have hcS:StI R w16 none []:=fun x hx=>by cases hx
     have hcO:World.ownsRow w16 wa1.heap.size 37 1 (.slice none 0 0) 0 []:=World.ownsRow_nil _ _ _ _
     have hcR:∀ a,(none:Option Addr)=some a->R a.block:=nofun
     first
     | exact ⟨rfl,_,_,st,S,cs,hcL,hcI,hcd,hcn,hcp,hcS,hcO,hcR,hstl,Blk.eq,ii,ii,ii,ii,ii,ii,ii,lkc⟩
     | exact ⟨rfl,_,_,[],none,0,hcL,hcI,hcd,hcn,hcp,hcS,hcO,hcR,Nat.zero_le _,Blk.eq,ii,ii,ii,ii,ii,ii,ii,lkc⟩
    have hcL:LogW R R b L M w13:=hL.ext (kpc:Keep NoB w11 w13)
    have hcI:=fun (x:SL) (_:x.xs=L.es)=>hI1.stay x
    have hcd:=hd
    have hcn:=hnm
    have hcp:=hpr
    have hcS:=hSt.call (kpc:Keep (NotP R) w11 w13) (fun _ h=>h)
    have hcO:=(OwnI.own:World.ownsRow w13 _ _ _ (.slice S _ cs) _ _)
    have hcR:=hSR
    refine x_skip ?_
    first
    | exact ⟨rfl,_,_,st,S,cs,hcL,hcI,hcd,hcn,hcp,hcS,hcO,hcR,hstl,Blk.eq,ii,ii,ii,ii,ii,ii,ii,lkc⟩
    | exact ⟨rfl,_,_,[],none,0,hcL,hcI,hcd,hcn,hcp,hcS,hcO,hcR,Nat.zero_le _,Blk.eq,ii,ii,ii,ii,ii,ii,ii,lkc⟩
   intro τ17 ds17 w17 hI
   obtain ⟨rfl,L2,M2,st2,S2,cs2,hL2,hI2,hd2,hn2,hp2,hSt2,hO2,hSR2,hst2l,hb5r,e0,e1,e5,e7,e9,e11,e12,lk⟩:=hI
   haveI:Blk w17 b5 _:=⟨hb5r⟩
   haveI:OwnI w17 S2 _ _ _ _ _ _ _:=⟨hO2⟩
   haveI:NewA S2 w:=newA_of hO2 h1w.1
   haveI:NotS (OwnB (.slice S2 st2.length cs2)) b5:=⟨fun e=>by
    obtain ⟨s,hs,e2⟩:=ownB_ex e
    have:=(own_blk hO2 s hs).1
    omega⟩
   have hlen2:=hL2.len
   have hAC:wa1.heap.size<=(w17).heap.size:=Nat.le_trans (Nat.le_of_lt_succ (Nat.lt_succ_of_le (Nat.le_of_not_lt fun h9=>absurd (hRw _ h9) (fun h8=>absurd (hL2.lt.1 _ h8) (Nat.lt_irrefl _))))) (Nat.le_refl _)
   obtain ⟨wC,hwC⟩:∃ z,z=w17:=⟨_,rfl⟩
   rw [<- hwC] at hL2 hSt2
   have hS2b:=own_blk hO2
   rw [<- hwC] at hS2b
   have hOC:=hO2
   rw [<- hwC] at hOC
   refine x_regionL (xm (xm ?_))
   refine xl_call (lall_ok R R b L2 M2 w17 (hL2.ext (show Keep NoB wC w17 by rw [hwC];exact kpc))) ?_
   rintro _ w18 ⟨⟨A77,c77,rfl,ho77⟩,lk77⟩
   have h77b:=own_blk ho77
   have h77c:=own_cap ho77
   haveI:NewA A77 w17:=newA_of ho77 (Nat.le_refl _)
   haveI:OwnI w18 A77 _ _ _ _ _ _ _:=⟨ho77⟩
   have hwCp:wC.heap.size<=(w17).heap.size:=by rw [hwC];exact Ge.le
   obtain ⟨wD,hwD⟩:∃ z,z=w18:=⟨_,rfl⟩
   have hwCD:wC.heap.size<=wD.heap.size:=by rw [hwC,hwD];exact Ge.le
   have hAD:wa1.heap.size<=wD.heap.size:=Nat.le_trans hAC (by rw [hwD];exact Ge.le)
   have h77w:∀ a,A77=some a->wC.heap.size<=a.block/\a.block<wD.heap.size:=fun a ha=>⟨Nat.le_trans hwCp (h77b a ha).1,by rw [hwD];exact (h77b a ha).2⟩
   refine xl_e (e_buildSlice1 rfl fun b19 w19 n19 l19 k19=>?_)
   refine xl_e (e_app (by simp) (by decide) (by omega) (by omega) (Nat.le_trans hAD (show wD.heap.size<=(w19).heap.size by rw [hwD];exact Ge.le)) fun A79 c79 w20 ox lx ax fx=>?_)
   refine xz ?_
   have hkA:Keep (OwnB (.slice S2 st2.length cs2)) wC w20:=by rw [hwC];exact kpc
   have hwE:wD.heap.size<=(w20).heap.size/\wC.heap.size<=(w20).heap.size:=by rw [hwD,hwC];exact ⟨Ge.le,Ge.le⟩
   have hfx:∀ s,A79=some s->(∃ t,S2=some t/\t.block=s.block)\/wD.heap.size<=s.block:=fun s hs=>by
    rcases fx.or s hs with ⟨t,ht,e⟩ | e
    ·exact .inl ⟨t,ht,by first | exact e | exact e.symm | exact congrArg _ e⟩
    ·exact .inr (by rw [e,hwD];exact Ge.le)
   have h79b:=own_blk (OwnI.own:World.ownsRow w20 _ _ _ (.slice A79 _ c79) _ _)
   have hLe:LogW (wide R wC w20) (wide R wC w20) b L2 M2 w20:=hL2.keep hkA (fun j _ e=>by obtain ⟨s,hs,e2⟩:=ownB_ex e;rw [<- e2];exact hSR2 s hs) (fun j e=>by
    rcases e with e | e
    ·exact ⟨Nat.lt_of_lt_of_le (hL2.lt.1 j e) hwE.2,.inl e⟩
    ·exact ⟨e.2,.inr e.1⟩) (fun j e=>by
    rcases e with e | e
    ·exact ⟨Nat.lt_of_lt_of_le (hL2.lt.1 j e) hwE.2,.inl e⟩
    ·exact ⟨e.2,.inr e.1⟩)
   have hSR3:∀ a,A79=some a->wide R wC w20 a.block:=fun a ha=>by
    rcases hfx a ha with ⟨t,ht,e⟩ | e
    ·rw [<- e];exact .inl (hSR2 t ht)
    ·exact .inr ⟨by omega,(h79b a ha).2⟩
   have hr77:RowP w20 A77 (L2.es.flatMap enC):=(ii:Row w20 A77 (L2.es.flatMap enC)).row
   have hSt3:StI (wide R wC w20) w20 A79 (st2++[⟨L2.es,A77,c77⟩]):=hSt2.push hkA (fun s hs=>(hfx s hs).imp id (fun e=>by omega)) hL2.lt.1 ⟨L2.es,A77,c77⟩ hr77 hlen2 h77c (fun a ha=>⟨(h77w a ha).1,by have:=(h77w a ha).2;omega,fun s hs e=>by
    rcases hfx s hs with ⟨t,ht,e2⟩ | e2
    ·have h1:=(hS2b t ht).2
     have h2:=(h77w a ha).1
     omega
    ·have:=(h77w a ha).2;omega⟩)
   refine x_regionL (xm ?_)
   refine xl_v (v_add (by omega)) ?_
   refine xz ?_
   refine ⟨_,?_,rfl,k+1,L2,M2,wide R wC w20,st2++[⟨L2.es,A77,c77⟩],A79,c79,rfl,by omega,hLe,hI2 _ rfl,hd2,hn2,hp2,fun j e=>.inl (hRw j e),hSt3,?_,hSR3,by simp;omega,Blk.eq,ii,ii,ii,ii,ii,evc (by simp),evc,lkc⟩
   ·omega
   ·have:=(OwnI.own:World.ownsRow w20 _ _ _ (.slice A79 _ c79) _ _)
    simpa using this
  refine x_exit (x_seq ?_)
  haveI kbL:Blk w11 b (.cells (logC L).toArray 69 (0,0)):=⟨(hL.ext (kpc:Keep NoB w11 w11)).at_⟩
  have hsur:=hI1.sure
  refine x_regionL (xm ?_)
  refine xl_call (lall_ok R R b L M w11 (hL.ext (kpc:Keep NoB w11 w11))) ?_
  rintro _ w21 ⟨⟨A81,c81,rfl,ho81⟩,lk81⟩
  have h81c:=own_cap ho81
  have h81b:=own_blk ho81
  haveI:NewA A81 w11:=newA_of ho81 (Nat.le_refl _)
  haveI:OwnI w21 A81 _ _ _ _ _ _ _:=⟨ho81⟩
  refine xm ?_
  refine xl_call (lsure_ok b L w21) ?_
  rintro _ _ ⟨rfl,rfl⟩
  refine xl_v (v_sliceH L.sure rfl (by omega)) ?_
  refine xz ?_
  refine xq (xm (xl_Lb ?_))
  refine xl_call (crash_ok _ _ d M kp tn w21 (by have h9:=hL.disk;rw [hd] at h9;exact h9.ext (kpc:Keep NoB w11 w21)) hkp htn) ?_
  rintro _ w23 ⟨⟨x5,rfl,hX,hgx⟩,lk8⟩
  obtain ⟨R5,hR5⟩:∃ R5:Nat->Prop,R5=fun k=>k<(w21).heap.size:=⟨_,rfl⟩
  have h6w:w.heap.size<=(w21).heap.size/\(w11).heap.size<=(w21).heap.size:=⟨Ge.le,Ge.le⟩
  haveI sF5:SubF (NotP R5) NoB w:=⟨fun k hk e=>e (by rw [hR5];show k<_;omega)⟩
  haveI sF6:SubF NoB (NotP R5) w11:=⟨fun _ _ e=>e.elim⟩
  haveI rO5:RowOut (NotP R5) A81:=⟨fun a ha e=>e (by rw [hR5];have:=(h81b a ha).2;show a.block<_;omega)⟩
  haveI rS5:RowOut (NotP R5) S:=⟨fun a ha e=>e (by rw [hR5];have:=hL.lt.1 _ (hSR a ha);show a.block<_;omega)⟩
  have hRR5:∀ j,NotP R5 j->¬ R j:=fun j h1 h2=>h1 (by rw [hR5];have:=hL.lt.1 j h2;show j<_;omega)
  rw [<- hR5] at hX
  have hfc:=fat_crash M kp tn
  have hl5:=fat_lasts (M.crash kp tn)
  obtain ⟨⟨s,⟨xst,hxst,hxe⟩,hps⟩,hpp⟩:=hI1.hist.crash kp tn
  refine xm (xl_v v_extract (xl_v v_extract (xa (xz ?_))))
  refine xq (xm (xm ?_))
  refine xl_call (open2_ok' _ R5 x5 (M.crash kp tn) nameP per w23 (hX.ext (kpc:Keep NoB _ w23)) (by omega) (by omega) (by rw [hfc.2];simp;omega)) ?_
  rintro _ w24 ⟨hres,lk9⟩
  rw [if_pos ⟨nameP_ok,g1.2.2.1,g1.2.2.2⟩] at hres
  obtain ⟨b17,L5,rfl,hL5,s2,s3,s4,s5,s6,s7,s8⟩:=hres
  rw [<- hpn] at hL5 s3 s5
  rw [hnm,hpr,<- s5] at hps hpp
  have hppl:=hpp.length_le
  rw [List.length_take,Nat.min_eq_left hsur] at hppl
  have hppt:L5.es.take L.sure=L.es.take L.sure:=by
   have h9:=List.prefix_iff_eq_take.1 hpp
   rw [List.length_take,Nat.min_eq_left hsur] at h9
   exact h9.symm
  have hl5s:=hL5.len
  have hls:=hL.len
  haveI kb5:Blk w24 b17 (.cells (logC L5).toArray 69 (0,0)):=⟨hL5.at_⟩
  refine xm (xl_v v_extract (xl_v v_extract (xa (xz ?_))))
  refine x_seq (xq (xm ?_))
  refine xl_call (num4_ok _ _) ?_
  rintro _ _ ⟨rfl,rfl⟩
  refine xm ?_
  refine xl_call (num4_ok _ _) ?_
  rintro _ _ ⟨rfl,rfl⟩
  refine xl_v (v_add (by omega)) ?_
  refine xl_v (v_congr (u:=.bool false) v_neq (by simp)) ?_
  refine xm (xl_gv rfl EvO.eq v_move ?_)
  refine xl_gcall rfl EvO.eq (llen_ok b17 L5 w24) ?_
  rintro _ _ ⟨rfl,rfl⟩
  refine xl_gv rfl EvO.eq v_move (xl_gv rfl EvO.eq v_len ?_)
  refine xl_gv rfl EvO.eq (v_congr (u:=.bool false) v_lss (congrArg Value.bool (decide_eq_false (by omega)))) ?_
  refine xl_Pk ?_
  refine xl_nil ?_
  refine x_condF ?_
  refine x_skip (xq (xm ?_))
  refine xl_call (lall_ok _ _ b17 L5 _ w24 (hL5.ext (kpc:Keep NoB _ w24))) ?_
  rintro _ w28 ⟨⟨A111,c111,rfl,ho111⟩,lk111⟩
  have h111c:=own_cap ho111
  refine xz ?_
  refine x_seq (xq (xz ?_))
  refine x_block ?_
  have hr111:RowP w28 A111 (L5.es.flatMap enC):=own_row (own_ext ho111 (lkc:Lk w28 _ NoB))
  have hr81:RowP w28 A81 (L.es.flatMap enC):=own_row (OwnI.own:World.ownsRow w28 _ _ _ (.slice A81 _ c81) _ _)
  have hrS:RowP w28 S (st.map slC):=own_row (OwnI.own:World.ownsRow w28 _ _ _ (.slice S _ cs) _ _)
  have hStL:StI R w28 S st:=hSt.call (kpc:Keep (NotP R5) w11 w28) hRR5
  refine x_loop (fun m τ ds w'=>ds=[]/\∃ k2:Nat,m=st.length - k2/\k2<=st.length/\(∀ i (h:i<st.length),i<k2->¬ L5.es <+: st[i].xs)/\Ev τ 11 (.slice S st.length cs)/\Ev τ 14 (.slice A81 L.sure c81)/\Ev τ 19 (.slice A111 L5.es.length c111)/\Ev τ 20 (.int .i64 (k2:Int))/\Lk w' w28 NoB) (st.length) ?start ?round
  case start=>
   exact ⟨rfl,0,rfl,Nat.zero_le _,fun i _ h=>absurd h (Nat.not_lt_zero _),ii,ii,ii,evc,lkc⟩
  case round=>
   intro m τ29 ds29 w29 hI
   obtain ⟨rfl,k2,rfl,hk2,hnot,e11,e14,e19,e20,lk2_⟩:=hI
   have hr111w:RowP w29 A111 (L5.es.flatMap enC):=hr111.keep lk2_.keep (fun _ _ h=>h)
   haveI:Row w29 S (st.map slC):=⟨hrS.keep lk2_.keep (fun _ _ h=>h)⟩
   have hr81w:RowP w29 A81 (L.es.flatMap enC):=hr81.keep lk2_.keep (fun _ _ h=>h)
   refine x_seq (xq (xm (xm (xl_v v_len (xl_v v_lss (xl_nil ?_))))))
   refine x_if (fun c8=>?_) (fun c8=>?_)
   ·have hk2x:k2<st.length:=by omega
    obtain ⟨hrx,hx1,hx2,_⟩:=hStL st[k2] (List.getElem_mem hk2x)
    obtain ⟨Ay,hAy⟩:∃ z,z=st[k2].A:=⟨_,rfl⟩
    obtain ⟨cy,hcy⟩:∃ z,z=st[k2].c:=⟨_,rfl⟩
    obtain ⟨ys,hys⟩:∃ z,z=st[k2].xs:=⟨_,rfl⟩
    have hslc:slC st[k2]=.slice Ay ys.length cy:=by rw [hAy,hys,hcy]
    rw [<- hys] at hx1 hx2
    rw [<- hcy] at hx2
    have hryw:RowP w29 Ay (ys.flatMap enC):=by rw [hAy,hys];exact hrx.keep lk2_.keep (fun _ _ h=>h)
    clear hrx hAy hcy
    refine x_skip (x_seq (x_block (xq (xm (xl_v v_len (xm (xm ?_)))))))
    refine xl_v (v_indexO k2 rfl (by omega) hk2x) ?_
    refine xl_v (v_congr (u:=.slice Ay ys.length cy) (v_loadO hk2x) hslc) ?_
    refine xl_v v_len (xl_v v_leq (xm ?_))
    refine xl_split 126 (fun g126=>?_) (fun g126=>?_)
    ·have h8:=of_decide_eq_true g126
     refine xl_gv rfl EvO.eq v_move (xl_gv rfl EvO.eq v_move (xl_gv rfl EvO.eq v_move ?_))
     refine xl_gv rfl EvO.eq (v_indexO k2 rfl (by omega) hk2x) ?_
     refine xl_gv rfl EvO.eq (v_congr (u:=.slice Ay ys.length cy) (v_loadO hk2x) hslc) ?_
     refine xl_gv rfl EvO.eq v_move (xl_gv rfl EvO.eq v_len ?_)
     refine xl_gv rfl EvO.eq (v_sliceH L5.es.length rfl (by omega)) ?_
     refine xl_gcall rfl EvO.eq (same_ok (hra0:=⟨hr111w.keep (kpc:Keep NoB w29 w29) (fun _ _ h=>h)⟩) (hrb0:=⟨row_takeE (hryw.keep (kpc:Keep NoB w29 w29) (fun _ _ h=>h)) _⟩) A111 L5.es.length c111 L5.es Ay L5.es.length cy (ys.take L5.es.length) w29 rfl (by rw [List.length_take];omega) (by omega) (by omega)) ?_
     rintro _ w30 ⟨rfl,lkS⟩
     refine xl_Pk ?_
     refine xl_nil ?_
     refine x_if (fun c9=>?_) (fun c9=>?_)
     ·refine xq (xm (xm (xl_v v_len ?_)))
      refine xl_v (v_sliceH L.sure rfl (by omega)) ?_
      refine xm ?_
      refine xl_call (same_ok (hra0:=⟨row_takeE (hr111w.keep (kpc:Keep NoB w29 w30) (fun _ _ h=>h)) _⟩) (hrb0:=⟨row_takeE (hr81w.keep (kpc:Keep NoB w29 w30) (fun _ _ h=>h)) _⟩) A111 L.sure c111 (L5.es.take L.sure) A81 L.sure c81 (L.es.take L.sure) w30 (by rw [List.length_take];omega) (by rw [List.length_take];omega) (by omega) (by omega)) ?_
      rintro _ w31 ⟨rfl,lk31⟩
      rw [decide_eq_true hppt]
      refine xm ?_
      refine xl_gcall rfl EvO.eq (works4_ok w31) ?_
      rintro _ w32 ⟨rfl,lkw⟩
      refine xl_Pk ?_
      refine xz ?_
      refine x_ret ?_
      refine fin1 rfl ?_
      exact ⟨rfl,lkc⟩
     first
     | have hc9:¬ L5.es=ys.take L5.es.length:=by simpa using c9
     | skip
     refine x_skip (x_regionL (xm ?_))
     refine xl_v (v_add (by omega)) ?_
     refine xz ?_
     refine ⟨_,?_,rfl,k2+1,rfl,by omega,fun i h hi hpf=>?_,ii,ii,ii,evc,lkc⟩
     ·omega
     ·rcases Nat.lt_or_ge i k2 with e | e
      ·exact hnot i h e hpf
      ·obtain rfl:i=k2:=by omega
       first
        | (have h9:=List.prefix_iff_eq_take.1 hpf;rw [<- hys] at h9;exact hc9 h9)
        | (have:=hpf.length_le;rw [<- hys] at this;omega)
    have h8:=of_decide_eq_false g126
    refine xl_gs rfl EvO.eq (xl_gs rfl EvO.eq (xl_gs rfl EvO.eq (xl_gs rfl EvO.eq (xl_gs rfl EvO.eq (xl_gs rfl EvO.eq (xl_gs rfl EvO.eq (xl_gs rfl EvO.eq (xl_gs rfl EvO.eq (xl_Pk ?_)))))))))
    refine xl_nil ?_
    refine x_condF ?_
    refine x_skip (x_regionL (xm ?_))
    refine xl_v (v_add (by omega)) ?_
    refine xz ?_
    refine ⟨_,?_,rfl,k2+1,rfl,by omega,fun i h hi hpf=>?_,ii,ii,ii,evc,lkc⟩
    ·omega
    ·rcases Nat.lt_or_ge i k2 with e | e
     ·exact hnot i h e hpf
     ·obtain rfl:i=k2:=by omega
      first
       | (have h9:=List.prefix_iff_eq_take.1 hpf;rw [<- hys] at h9;exact hc9 h9)
       | (have:=hpf.length_le;rw [<- hys] at this;omega)
   have hk2x:k2=st.length:=by omega
   obtain ⟨i,hi,rfl⟩:=List.getElem_of_mem hxst
   exact absurd (by rw [hxe];exact hps) (hnot i hi (by omega))
end Go.Proofs.YtigmfcgeljjgnaaGreat
namespace Go.Wst
open Go.ChangeShapes Go.WideShapes Go.ChangeAt Go.RowKit Go.Deep
section
variable {H:Type} {enc:TypeId×Value->H} {P:Program}
theorem post_below {f:Func} {s:ChangeSpec} {apart fresh handsOn again:Bool} {W W':World} {args:Array Value} {v:Value} {ds gs:List (DataW H)} {before pa pv:List MemPlace}
    (hW:DataW.Whole enc P f.params.toList s.vars apart W args.toList ds gs before)
    (hres:∀ (b:Nat) (sp:Nat->Bool) (hd:Bool),DataW.TrodAll enc P W' b sp hd f.resultTypes.toList (v.resultList f.resultTypes.size) (s.fn H (ds++gs)).results [])
    (hargs:∀ sp:Nat->Bool,(∀ p∈before,sp p.block=true)->DataW.TrodAll enc P W' 0 sp true f.params.toList args.toList (s.fn H (ds++gs)).args pa)
    (hvars:∀ sp:Nat->Bool,(∀ p∈before,sp p.block=true)->DataW.TrodVars enc P W' sp s.vars (s.fn H (ds++gs)).vars pv)
    (hps:before=pa++pv) (hb:Below W.heap.size W W')
    (hok:∀ (j:Nat) (t:TypeId) (r:Value),f.resultTypes[j]?=some t->(v.resultList f.resultTypes.size)[j]?=some r->Value.okWide P W' .any 0 t r) :
    s.post enc P f apart fresh handsOn again W args v W':=by
  have hlt:∀ p∈before,p.block<W.heap.size:=fun p hp=>hW.lt p hp
  have hold:∀ p∈before,(fun b=>decide (b<W.heap.size)) p.block=true:=fun p hp=>by simpa using hlt p hp
  refine ⟨ds,gs,before,[],pa,pv,hW,hres _ _ _,hargs _ hold,hvars _ hold,World.keptBut_mono (fun p hp=>⟨hp,?_⟩) (hb.frame (·∈before)),fun _=>?_⟩
  · rw [hps,List.mem_append] at hp
    exact Or.inr hp
  obtain ⟨_,_,_,_,_,hz,hn⟩:=hW
  refine ⟨hok,_,_,([]++pa)++pv,⟨[]++pa,pv,trodAll_append (hargs _ (fun _ _=>rfl)) (hres _ _ _),hvars _ (fun _ _=>rfl),rfl,?_,?_⟩,?_⟩
  · intro b off hp
    have hin:MemPlace.cell b off∈before:=by rw [hps];simpa using hp
    rw [hb.frozen (hlt _ hin)]
    exact hz b off hin
  · intro ha
    have:=hn ha
    rw [hps] at this
    simpa using this
  intro p hp _
  rw [hps]
  simpa using hp
theorem trodAll_stays (hl:laidOutB P=true) {W W':World} (sp:Nat->Bool):∀ (ts:List TypeId) (vs:List Value) (ds:List (DataW H)) (ps:List MemPlace),(∀ t∈ts,P.readableRec t=true/\t<P.types.size) ->
    DataW.TrodAll enc P W 0 (fun _=>true) true ts vs ds ps->Below W.heap.size W W'->(∀ x∈ps,x.block<W.heap.size)->(∀ x∈ps,sp x.block=true)->DataW.TrodAll enc P W' 0 sp true ts vs ds ps
  | [],[],[],_,_,h,_,_,_=>h
  | t :: ts,v :: vs,d :: ds,ps,ht,h,hb,hlt,hsp=>by
    obtain ⟨p,q,h1,h2,rfl⟩:=h
    obtain ⟨r1,r2⟩:=ht t (List.mem_cons_self ..)
    exact ⟨p,q,WideElems.Trod_stays hl r1 r2 h1 (fun x hx=>hb.same (hlt x (List.mem_append_left _ hx))) (fun x hx=>hsp x (List.mem_append_left _ hx)),
      trodAll_stays hl sp ts vs ds q (fun t ht'=>ht t (List.mem_cons_of_mem _ ht')) h2 hb (fun x hx=>hlt x (List.mem_append_right _ hx)) (fun x hx=>hsp x (List.mem_append_right _ hx)),rfl⟩
  | [],_ :: _,_,_,_,h,_,_,_=>h.elim
  | [],[],_ :: _,_,_,h,_,_,_=>h.elim
  | _ :: _,[],_,_,_,h,_,_,_=>h.elim
  | _ :: _,_ :: _,[],_,_,h,_,_,_=>h.elim
theorem law_post {f:Func} {s:ChangeSpec} {apart fresh handsOn again:Bool} {W W':World} {args:Array Value} {ds gs:List (DataW H)} {before:List MemPlace} {tb:TypeId} (hl:laidOutB P=true)
    (hW:DataW.Whole enc P f.params.toList s.vars apart W args.toList ds gs before) (hv:s.vars=[]) (hr:f.resultTypes=#[tb]) (hu:P.underlying tb=some .bool)
    (hfn:gs=[]->(s.fn H (ds++gs)).results=[.lit (.bool true)]/\(s.fn H (ds++gs)).args=ds/\(s.fn H (ds++gs)).vars=[])
    (ht0:f.params.toList.all (fun t=>P.readableRec t && decide (t<P.types.size))=true) (hk:Keep NoB W W'):s.post enc P f apart fresh handsOn again W args (.bool true) W':=by
  have ht:∀ t∈f.params.toList,P.readableRec t=true/\t<P.types.size:=fun t h=>by simpa using List.all_eq_true.1 ht0 t h
  have hb:Below W.heap.size W W':=Ext.below hk
  have hW':=hW
  obtain ⟨p,q,hA,hV,rfl,hfz,hnd⟩:=hW
  rw [hv] at hV
  obtain ⟨rfl,rfl⟩:=trodVars_none hV
  obtain ⟨e1,e2,e3⟩:=hfn rfl
  refine post_below (pa:=p) (pv:=[]) hW' ?_ ?_ ?_ rfl hb ?_
  · intro b sp hd
    rw [hr,e1]
    exact trodAll_mk1 (shut_bool hu true)
  · intro sp hsp
    rw [e2]
    refine trodAll_stays hl sp _ _ _ _ ht hA hb (fun x hx=>hW'.lt x (by simpa using hx)) (fun x hx=>hsp x (by simpa using hx))
  · intro sp hsp
    rw [hv,e3]
    rfl
  exact ok_one hr rfl (okWide_bool_mk hu true)
end
section
variable {H:Type} {enc:TypeId×Value->H} {P:Program} {w:World} {base:Nat} {spare:Nat->Bool} {held:Bool}
theorem choose_list {α:Type} {R:Nat->α->Prop}:∀ (n:Nat),(∀ i,i<n->∃ a,R i a)->∃ xs:List α,xs.length=n/\∀ i (h:i<xs.length),R i xs[i]
  | 0,_=>⟨[],rfl,by simp⟩
  | n+1,h=>by
    obtain ⟨xs,hl,hx⟩:=choose_list n (fun i hi=>h i (by omega))
    obtain ⟨a,ha⟩:=h n (by omega)
    refine ⟨xs++[a],by simp [hl],fun i hi=>?_⟩
    by_cases hin:i<xs.length
    · rw [List.getElem_append_left hin];exact hx i hin
    have:i=n:=by simp at hi;omega
    subst this
    rw [List.getElem_append_right (by omega)]
    simpa [hl] using ha
theorem open_rows {α:Type} {ea:α->List Value} {Q:α->Prop} {sz:Nat} {t e:TypeId} {fuel:Nat} {cs:List Value} {x:DataW H×List MemPlace} (hsz:∀ a,(ea a).length=sz) (ht:P.underlying t=some (.slice e)) (hC:P.cellsOf e=sz)
    (hel:∀ fuel cs x,DataW.trod enc P w base spare held fuel e cs=some x->∃ a,cs=ea a/\Q a) (h:DataW.trod enc P w base spare held fuel t cs=some x) :
    ∃ (A:Option Addr) (n c:Nat) (xs:List α),cs=[.slice A n c]/\xs.length=n/\RowP w A (xs.flatMap ea)/\(∀ a∈xs,Q a)/\(A.isSome=true\/n=0)/\n<=9223372036854775807:=by
  rcases open_slice ht h with ⟨rfl,_⟩ | ⟨a,len,cap,m,n,D,Pl,rfl,hb,hl,hm,hmm,_,hi⟩
  · exact ⟨none,0,0,[],rfl,rfl,fun j v hv=>by simp at hv,by simp,.inr rfl,by omega⟩
  have hlm:len<=m:=by rw [hmm];split<;>omega
  obtain ⟨xs,hxl,hx⟩:=choose_list (R:=fun i b=>w.cells? base (a.add (i*sz)) sz=some (ea b)/\Q b) len (fun i hil=>by
    obtain ⟨cs',h1,h2⟩:=hi i (by omega)
    rw [hC] at h1
    obtain ⟨b,rfl,hQ⟩:=hel _ _ _ h2
    exact ⟨b,h1,hQ⟩)
  refine ⟨some a,len,cap,xs,rfl,hxl,?_,?_,.inl rfl,by simp only [maxLen] at hm;omega⟩
  · intro j v hv
    refine ⟨a,rfl,?_⟩
    have hjl:=(List.getElem?_eq_some_iff.1 hv).1
    rw [flat_len hsz] at hjl
    have hpos:0<sz:=Nat.pos_of_ne_zero (fun e=>by subst e;simp at hjl)
    have hq:j / sz<xs.length:=Nat.div_lt_of_lt_mul (by rw [Nat.mul_comm];exact hjl)
    obtain ⟨h1,_⟩:=hx (j / sz) hq
    obtain ⟨_,h2,h3⟩:=World.cells?_some h1
    have hr:j % sz<(ea xs[j / sz]).length:=by rw [hsz];exact Nat.mod_lt _ hpos
    have h4:=flat_get hsz xs (j / sz) hq (j % sz) _ (List.getElem?_eq_getElem hr)
    have hj:j / sz*sz+j % sz=j:=by rw [Nat.mul_comm];exact Nat.div_add_mod j sz
    rw [hj,hv] at h4
    have h5:=h3 (j % sz) (by rw [hsz] at hr;exact hr)
    rw [add_add,hj] at h5
    rw [h5,List.getElem?_eq_getElem hr,h4]
  intro b hb'
  obtain ⟨i,hi',rfl⟩:=List.mem_iff_getElem.1 hb'
  exact (hx i hi').2
theorem wf_i64 {n:Int} (h:(Lit.int .i64 n).wf=true):-9223372036854775808<=n/\n<=9223372036854775807:=by
  simpa [Lit.wf,IntKind.min,IntKind.max,IntKind.signed,IntKind.bits] using h
theorem trod_field {t:TypeId} {fs:Array Field} {fuel:Nat} {cs:List Value} {x:DataW H×List MemPlace} (ht:P.underlying t=some (.struct fs)) (h:DataW.trod enc P w base spare held fuel t cs=some x) :
    cs.length=P.cellsOf t/\∀ (i:Nat) (f:Field),fs[i]?=some f->∃ n y,DataW.trod enc P w base spare held n f.type ((cs.drop f.offset).take (P.cellsOf f.type))=some y:=by
  obtain ⟨xs,n,_,_,hl,hx,hi⟩:=DataW.trod_struct ht h
  refine ⟨hl,fun i f hf=>?_⟩
  have hil:i<xs.length:=by rw [hx];exact (Array.getElem?_eq_some_iff.1 hf).1
  exact ⟨n,xs[i],(hi i f hf).trans (List.getElem?_eq_getElem hil)⟩
theorem trod_at {t:TypeId} {pl:List (Nat×Nat×TypeId)} {fuel:Nat} {cs:List Value} {x:DataW H×List MemPlace} (hp:∃ fs,P.underlying t=some (.struct fs)/\fs.toList.map (fun f=>(f.offset,P.cellsOf f.type,f.type))=pl) (h:DataW.trod enc P w base spare held fuel t cs=some x) :
    ∀ (i:Nat) (off sz:Nat) (ft:TypeId),pl[i]?=some (off,sz,ft)->∃ n y,DataW.trod enc P w base spare held n ft ((cs.drop off).take sz)=some y:=by
  obtain ⟨fs,h1,rfl⟩:=hp
  obtain ⟨_,h2⟩:=trod_field h1 h
  intro i off sz ft hi
  rw [List.getElem?_map] at hi
  cases hf:fs.toList[i]? with
  | none=>simp [hf] at hi
  | some f=>
    simp only [hf,Option.map_some,Option.some.injEq,Prod.mk.injEq] at hi
    obtain ⟨rfl,rfl,rfl⟩:=hi
    exact h2 i f (by simpa using hf)
end
end Go.Wst
