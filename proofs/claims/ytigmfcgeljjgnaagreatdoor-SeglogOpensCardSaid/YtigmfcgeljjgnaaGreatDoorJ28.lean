/- A part of the walks through the log and its document, and of the law in plain Lean: HN Xz Rb04. -/
import Derived.Test.YtigmfcgeljjgnaaGreatDoorJ27
import Derived.ProofKit
import Derived.Deep.Slices
import Derived.LaidMore
import Derived.Lib.LaidTab
import Derived.OpenShut
import Derived.Stop.Joined
set_option linter.all false
set_option maxRecDepth 100000
set_option synthInstance.maxSize 100000
set_option synthInstance.maxHeartbeats 400000
namespace Go.Proofs.YtigmfcgeljjgnaaGreatDoor
open Go.Wst
open Go.Wst.Dm Go.Wst.Sg
theorem nok_P (n:Nat):nameOk (fileN nameP n)=true:=nameOk_file nameP_ok n
theorem does_room (M:Disk) (t:Thing):(M.does t).room=M.room:=by unfold Disk.does;split<;>rfl
theorem doAll_room:∀ (ts:List Thing) (M:Disk),(doAll M ts).room=M.room
 | [],M=>rfl
 | t :: ts,M=>by
   show (doAll (M.does t) ts).room=_
   rw [doAll_room ts,does_room]
theorem used_less {M:Disk} (hm:M.ok) {t:Thing} (hw:t.what=1\/t.what=2):usedB (M.does t).files<=usedB M.files:=by
 by_cases h0:M.doNo t=0
 ·rw [foldl_snoc h0]
  have h1:=used_done (l:=M.files) (t:=t) hm.files.1 (.inr hw)
  have h2:((t.look (akey M.files t.name)).getD []).length<=((akey M.files t.name).getD []).length:=by
   unfold Thing.look
   rw [if_neg (by omega)]
   split
   ·cases akey M.files t.name with
    | none=>simp
    | some b=>simp;omega
   ·simp
  omega
 ·rw [Disk.does,if_neg h0]
  exact Nat.le_refl _
theorem used_doAll:∀ (ts:List Thing) (M:Disk),M.ok->(∀ t∈ts,t.what=1\/t.what=2)->usedB (doAll M ts).files<=usedB M.files
 | [],M,_,_=>Nat.le_refl _
 | t :: ts,M,hm,h=>by
   have h0:=h t List.mem_cons_self
   have h1:=used_doAll ts (M.does t) (hm.does (.inr h0)) (fun u hu=>h u (List.mem_cons_of_mem _ hu))
   have h2:=used_less hm h0
   show usedB (doAll (M.does t) ts).files<=_
   omega
theorem rm_12 (l:List ByteArray):∀ t∈l.map rmT,t.what=1\/t.what=2:=fun t ht=>by
 obtain ⟨f,_,rfl⟩:=List.mem_map.1 ht
 exact .inr rfl
theorem used_trunc {M:Disk} (hm:M.ok) (name:ByteArray) (per:Nat) (es:List En) (n:Nat):usedB (truncM M name per es n).files<=usedB M.files/\(truncM M name per es n).room=M.room:=by
 have h1:=used_doAll _ M hm (rm_12 (fallOwn M.files (fromB name n)))
 have h2:=doAll_room ((fallOwn M.files (fromB name n)).map rmT) M
 unfold truncM
 split
 ·have h3:=used_less (doAll_ok _ M hm (rm_ok (fallOwn M.files (fromB name n)))) (t:=cutT (fileN name (n / per*per)) (frames ((es.take n).drop (n / per*per))).length) (.inl rfl)
  exact ⟨by omega,by rw [does_room,h2]⟩
 ·exact ⟨h1,h2⟩
theorem LogI.torn1 {M:Disk} {name:ByteArray} {per:Nat} {es:List En} {x:En} (hm:M.ok) (h:LogI M.files name per es) (hp:1<=per) (h0:appNo M name per es x=0) {n:Nat} (hn:n<(frame x).length):(Go.Wst.Sg.told (done M.files (tornT (putT name per es.length x) n)) name per).1=es:=by
 have hl:=h.len
 obtain ⟨hI,hd⟩:=h.put hm hp h0
 have hR:Right x:=hI.right x (by simp)
 refine LogJ.told ?_ hp
 have hdm:=Nat.div_mul_le_self es.length per
 have hdl:es.length<es.length / per*per+per:=by
  have h1:=Nat.mod_lt es.length (show per > 0 by omega)
  have h2:=Nat.div_add_mod es.length per
  rw [Nat.mul_comm] at h2
  omega
 have hL:es.length<4096:=by have:=hI.len;simp at this;omega
 obtain ⟨b,hb⟩:∃ b,b=es.length / per*per:=⟨_,rfl⟩
 rw [<- hb] at hdm hdl
 have hk:∀ n',n'<1000000->akey (done M.files (tornT (putT name per es.length x) n)) (fileN name n')=if n'=b then some ((akey M.files (fileN name b)).getD []++(frame x).take n) else akey M.files (fileN name n'):=by
  intro n' hn'
  rw [akey_torn hm _ rfl]
  show (if fileN name n'=fileN name (es.length / per*per) then _ else _)=_
  rw [<- hb]
  by_cases e:n'=b
  ·rw [if_pos e,if_pos (by rw [e])]
   simp only [putT,<- hb]
  ·rw [if_neg e,if_neg (fileN_ne hn' (by omega) e)]
 refine ⟨h.right,h.rise,hl,fun j hj=>?_,fun j hj=>?_⟩
 ·obtain ⟨r,h8,h9⟩:=h.seg j hj
  rw [hk _ (by omega)]
  by_cases e:j*per=b
  ·rw [if_pos e]
   rw [e] at h8 h9 ⊢
   rw [h9 (.inl hdl),List.append_nil] at h8
   exact ⟨(frame x).take n,by rw [h8];rfl,fun _=>allB_torn hR hn⟩
  ·rw [if_neg e]
   exact ⟨r,h8,fun h10=>by rw [h9 (.inl h10)];rfl⟩
 ·rw [hk _ (by omega)]
  by_cases e:j*per=b
  ·rw [if_pos e,h.own_none (n:=b) (by omega) (by omega)]
   exact allB_torn hR hn
  ·rw [if_neg e,h.own_none (by omega) (by omega)]
   rfl
def wx1:En:=⟨1,-1,0,0,1,1⟩
def wx2:En:=⟨1,-1,0,0,1,2⟩
def wx3:En:=⟨2,-1,0,0,1,3⟩
def wx4:En:=⟨3,-1,0,0,1,9⟩
theorem fr40 {xs:List En}:∀ x∈xs,Right x->(frame x).length<=40:=fun x _ h=>(frame_len h).2
theorem work1:(appAll nameP 2 ⟨1000,[],[]⟩ [] [wx1,wx2,wx3]).2=([wx1,wx2,wx3],3,0)/\(appAll nameP 2 ⟨1000,[],[]⟩ [] [wx1,wx2,wx3]).1.ok/\LogI (appAll nameP 2 ⟨1000,[],[]⟩ [] [wx1,wx2,wx3]).1.files nameP 2 [wx1,wx2,wx3]/\usedB (appAll nameP 2 ⟨1000,[],[]⟩ [] [wx1,wx2,wx3]).1.files<=120/\(appAll nameP 2 ⟨1000,[],[]⟩ [] [wx1,wx2,wx3]).1.room=1000:=by
 have hm:Disk.ok ⟨1000,[],[]⟩:=⟨by decide,by decide,by simp [Rise],nofun,by show ((0:Nat):Int)<=1000;omega⟩
 obtain ⟨h1,h2,h3,h4⟩:=app_room nok_P (per:=2) (c:=40) [wx1,wx2,wx3] ⟨1000,[],[]⟩ [] hm fr40 (by show ((40*3:Nat):Int)+((0:Nat):Int)<=1000;omega)
 have he:appE [] [wx1,wx2,wx3]=([wx1,wx2,wx3],3,0):=by decide +kernel
 have hI:=(LogI.appAll (name:=nameP) (per:=2) (by decide) [wx1,wx2,wx3] ⟨1000,[],[]⟩ [] hm (logI_nil nameP 2)).2
 rw [h1,he] at hI
 exact ⟨by rw [h1,he],h2,hI,h3,h4⟩
theorem work_files {M:Disk} (hm:M.ok) (h:LogI M.files nameP 2 [wx1,wx2,wx3]):ownFiles M.files nameP=[fileN nameP 0,fileN nameP 2]:=by
 refine rise_uniq blt_irrefl (fun a b=>blt_asymm) (own_rise hm nameP) (by decide +kernel) (fun f=>(h.mem (by decide) f).trans ?_)
 simp only [List.mem_cons,List.not_mem_nil,or_false]
 constructor
 ·rintro ⟨j,h1,rfl⟩
  have h2:j*2<3:=h1
  rcases j with _ | _ | j
  ·exact .inl rfl
  ·exact .inr rfl
  ·omega
 ·rintro (rfl | rfl)
  ·exact ⟨0,by decide,rfl⟩
  ·exact ⟨1,by decide,rfl⟩
theorem work2 {M:Disk} (hm:M.ok) (h:LogI M.files nameP 2 [wx1,wx2,wx3]) (hu:usedB M.files<=120) (hr:M.room=1000):(truncM M nameP 2 [wx1,wx2,wx3] 1).flush.ok/\LogI (truncM M nameP 2 [wx1,wx2,wx3] 1).flush.files nameP 2 [wx1]/\usedB (truncM M nameP 2 [wx1,wx2,wx3] 1).flush.files<=120/\(truncM M nameP 2 [wx1,wx2,wx3] 1).flush.room=1000:=by
 have h1:=h.trunc hm nameP_ok (by decide) nok_P (n:=1) (by decide)
 have h2:=used_trunc hm nameP 2 [wx1,wx2,wx3] 1
 exact ⟨(trunc_ok2 hm _ _ _ _).flush,h1,Nat.le_trans h2.1 hu,h2.2.trans hr⟩
theorem work3 {M:Disk} (hm:M.ok) (h:LogI M.files nameP 2 [wx1]) (hu:usedB M.files<=120) (hr:M.room=1000) (hw:M.waits=[]):(appAll nameP 2 M [wx1] [wx4]).2=([wx1,wx4],1,0)/\((appAll nameP 2 M [wx1] [wx4]).1.crash 0 3).waits=[]/\(Go.Wst.Sg.told ((appAll nameP 2 M [wx1] [wx4]).1.crash 0 3).files nameP 2).1=[wx1]:=by
 have hR4:Right wx4:=by decide +kernel
 have hl:=frame_len hR4
 obtain ⟨h1,h2,h3,h4⟩:=app_room nok_P (per:=2) (c:=40) [wx4] M [wx1] hm fr40 (by rw [hr];show ((40*1:Nat):Int)+_<=_;omega)
 have he:appE [wx1] [wx4]=([wx1,wx4],1,0):=by decide +kernel
 have h0:appNo M nameP 2 [wx1] wx4=0:=by
  rw [appNo_room nok_P (fun _=>by rw [hr];omega)]
  decide +kernel
 have hA:(appAll nameP 2 M [wx1] [wx4]).1=M.does (putT nameP 2 1 wx4):=by
  rw [appAll,if_pos h0]
  rfl
 have hd:M.doNo (putT nameP 2 1 wx4)=0:=(h.put hm (by decide) h0).2
 have hD:M.does (putT nameP 2 1 wx4)=⟨M.room,M.lasts,[putT nameP 2 1 wx4]⟩:=by
  rw [Disk.does,if_pos hd,hw]
  rfl
 have hf:M.files=M.lasts:=by unfold Disk.files;rw [hw];rfl
 have hpk:pickN 3 (frame wx4).length=3:=by
  have h9:(3:Int).tmod (((frame wx4).length:Int)+1)=3:=by
   rw [Int.tmod_eq_emod_of_nonneg (by decide),Int.emod_eq_of_lt (by decide) (by omega)]
  unfold pickN
  rw [h9]
  rfl
 have hc:(M.does (putT nameP 2 1 wx4)).crash 0 3=⟨M.room,done M.lasts (tornT (putT nameP 2 1 wx4) 3),[]⟩:=by
  rw [hD]
  unfold Disk.crash
  have h8:pickN 0 1=0:=by decide
  simp only [List.length_singleton,h8,List.take_zero,List.foldl_nil,List.getElem?_cons_zero]
  rw [if_pos (by first | exact ⟨rfl,by show 0<pickN 3 (frame wx4).length;rw [hpk];decide⟩ | exact ⟨trivial,by show 0<pickN 3 (frame wx4).length;rw [hpk];decide⟩)]
  show (⟨M.room,done M.lasts (tornT (putT nameP 2 1 wx4) (pickN 3 (frame wx4).length)),[]⟩:Disk)=_
  rw [hpk]
 refine ⟨by rw [h1,he],by rw [hA,hc],?_⟩
 rw [hA,hc]
 have h9:=LogI.torn1 hm h (by decide) h0 (n:=3) (by omega)
 rw [hf] at h9
 exact h9
theorem row_blk0 {w:World} {b:Nat} {t:TypeId} {xs:List En} (h:Blk w b (.cells (xs.flatMap enC).toArray t (0,0))):RowP w (some ⟨b,0,none⟩) (xs.flatMap enC):=row_blk h.eq
instance (priority:=low) subF_wide2 (Q T:Nat->Prop) (w W w0:World) [h:SubF (NotP Q) T w0]:SubF (NotP (wide Q w W)) T w0:=⟨fun k hk e=>h.sub k hk (fun q=>e (.inl q))⟩
theorem ens_lt {w:World} {A:Option Addr} {xs:List En} (hra:RowP w A (xs.flatMap enC)) (hne:xs≠[]) (a:Addr) (ha:A=some a):a.block<w.heap.size:=(rowB_of hra).far.resolve_left (by
    intro e
    have h1:(xs.flatMap enC).length=xs.length*6:=flat_len (enc:=enC) (sz:=6) (fun _=>rfl) xs
    rw [e] at h1
    have:=List.length_pos_iff.2 hne
    simp at h1
    omega) a ha
set_option maxHeartbeats 2000000 in
theorem works4_ok (w:World):Ret Tryz.prog 9 #[] w (fun v w'=>v=.bool true/\Lk w' w NoB):=by
 refine ret_of_x (N:=104) (l:=[]) Tryz.func9 rfl rfl (Nat.le_of_ble_eq_true rfl) ?_
 refine xq (xz ?_)
 refine xq ?_
 refine xl_call (new3_ok 1000 w (by decide)) ?_
 rintro _ w1 ⟨⟨d,rfl,hD0,hgd⟩,lk1⟩
 obtain ⟨wa1,hwa1⟩:∃ z,z=w:=⟨_,rfl⟩
 have h1w:w.heap.size<=wa1.heap.size:=by rw [hwa1];exact Ge.le
 rw [<- hwa1] at hD0
 obtain ⟨R0,hR0⟩:∃ R0:Nat->Prop,R0=fun k=>k<wa1.heap.size:=⟨_,rfl⟩
 rw [<- hR0] at hD0
 haveI sF0:SubF (NotP R0) NoB w:=⟨fun k hk e=>e (by rw [hR0];show k<wa1.heap.size;omega)⟩
 refine xm (xl_v v_extract (xl_v v_extract (xa (xz ?_))))
 refine xq (xm ?_)
 refine xl_call (open2_ok' R0 R0 d ⟨1000,[],[]⟩ nameP 2 w1 (hD0.ext (kpc:Keep NoB _ w1)) (by decide +kernel) (by decide) (by simp)) ?_
 rintro _ w2 ⟨hres,lk2⟩
 rw [if_pos ⟨nameP_ok,by decide,by decide⟩] at hres
 obtain ⟨b,L,rfl,hL,p2,p3,p4,p5,p6,p7,p8⟩:=hres
 rw [show (2:Int).toNat=2 from rfl] at hL p3 p5
 rw [open_nil 1000 nameP (by decide)] at hL
 rw [show Disk.files ⟨1000,[],[]⟩=[] from rfl,told_nil nameP (by decide)] at p5
 obtain ⟨wa2,hwa2⟩:∃ z,z=w2:=⟨_,rfl⟩
 rw [<- hwa2] at hL
 refine xm (xl_v v_extract (xl_v v_extract (xa (xz ?_))))
 refine xq (xm ?_)
 refine xl_call (data4_ok 1 1 w2) ?_
 rintro _ w3 ⟨rfl,lkd1⟩
 refine xl_call (data4_ok 1 2 w3) ?_
 rintro _ w4 ⟨rfl,lkd2⟩
 refine xl_call (data4_ok 2 3 w4) ?_
 rintro _ w5 ⟨rfl,lkd3⟩
 refine xl_e (e_buildSliceM (vs:=[wx1,wx2,wx3].flatMap enC) rfl rfl (by simp [wx1,wx2,wx3]) fun b28 w6 n28 l28 k28=>?_)
 refine xl_call (append_ok (wide R0 wa2 w6) (wide R0 wa2 w6) b L ⟨1000,[],[]⟩ (some ⟨b28,0,none⟩) 3 3 [wx1,wx2,wx3] w6 (hL.widen (by rw [hwa2];exact kpc)) (row_blk0 k28) (fun _ a ha=>by cases ha;exact .inr ⟨by rw [hwa2,n28.eq];exact Ge.le,Has.lt⟩) rfl (by decide) (by simp)) ?_
 rintro _ w7 ⟨rfl,⟨L1,hL1,q1,q2,q3,q4,q5⟩,lk3⟩
 obtain ⟨u1,u2,u3,u4,u5⟩:=work1
 have un:=app_n nameP 2 [wx1,wx2,wx3] ⟨1000,[],[]⟩ []
 rw [u1] at un
 rw [p2,p3,p5] at hL1 q1 ⊢
 rw [p2] at q2
 rw [p3] at q3
 rw [p4] at q4
 rw [u1] at q1 ⊢
 simp only at q1 un ⊢
 have un1:fat (appAll nameP 2 ⟨1000,[],[]⟩ [] [wx1,wx2,wx3]).1<=3/\(appAll nameP 2 ⟨1000,[],[]⟩ [] [wx1,wx2,wx3]).1.waits.length<=3:=⟨un.2.2.1,un.2.2.2⟩
 clear un u1
 generalize (appAll nameP 2 ⟨1000,[],[]⟩ [] [wx1,wx2,wx3]).1=M1 at hL1 u2 u3 u4 u5 un1
 obtain ⟨R1,hR1⟩:∃ R1,R1=wide R0 wa2 w6:=⟨_,rfl⟩
 rw [<- hR1] at hL1 lk3
 haveI sF1:SubF (NotP R1) NoB w:=by rw [hR1];infer_instance
 have hL1w:=hL1
 obtain ⟨wa3,hwa3⟩:∃ z,z=w7:=⟨_,rfl⟩
 rw [<- hwa3] at hL1
 have hl1:=fat_lasts M1
 refine xm (xl_v v_extract (xl_v v_extract (xa (xz ?_))))
 refine xq (xm ?_)
 refine xl_call (lfiles_ok R1 R1 b L1 M1 w7 (by rw [hwa3] at hL1;exact hL1.ext kpc)) ?_
 rintro _ w8 ⟨⟨A7,c7,rfl,ho7⟩,lk4⟩
 rw [q2,work_files u2 u3] at ho7 ⊢
 haveI hr7:Row w8 A7 (strs [fileN nameP 0,fileN nameP 2]):=⟨own_row ho7⟩
 have h7b:=own_blk ho7
 have h37:wa3.heap.size<=(w7).heap.size:=by rw [hwa3];exact Ge.le
 obtain ⟨wa4,hwa4⟩:∃ z,z=w8:=⟨_,rfl⟩
 have hA7:∀ a,A7=some a->wa3.heap.size<=a.block/\a.block<wa4.heap.size:=fun a ha=>⟨by have:=(h7b a ha).1;omega,by rw [hwa4];exact (h7b a ha).2⟩
 refine xz ?_
 refine x_seq ?_
 have h44:wa4.heap.size<=(w8).heap.size:=by rw [hwa4];exact Ge.le
 haveI rO1:RowOut (NotP (wide R1 wa3 w8)) A7:=⟨fun a ha e=>e (.inr ⟨(hA7 a ha).1,by have:=(hA7 a ha).2;omega⟩)⟩
 refine x_regionL (xm ?_)
 refine xl_call (truncate_ok (wide R1 wa3 w8) (wide R1 wa3 w8) b L1 M1 1 w8 (hL1.widen (by rw [hwa3];exact kpc)) (by decide) (by rw [q2,work_files u2 u3];simp;omega)) ?_
 rintro _ w9 ⟨hres,lk5⟩
 rw [if_neg (by rw [q1];simp),q1,q2,q3] at hres
 obtain ⟨rfl,L2,hL2,z1,z2,z3,z4,z5⟩:=hres
 rw [show (1:Int).toNat=1 from rfl] at hL2 z1
 obtain ⟨y1,y2,y3,y4⟩:=work2 u2 u3 u4 u5
 have yf:=fat_trunc M1 nameP 2 [wx1,wx2,wx3] 1
 have yg:=fat_flush (truncM M1 nameP 2 [wx1,wx2,wx3] 1)
 obtain ⟨R2,hR2⟩:∃ R2,R2=wide R1 wa3 w8:=⟨_,rfl⟩
 rw [<- hR2] at hL2 lk5 rO1
 haveI sF2:SubF (NotP R2) NoB w:=by rw [hR2];infer_instance
 refine xm ?_
 refine xl_call (lflush_ok R2 R2 b L2 _ w9 (hL2.ext (kpc:Keep NoB _ w9))) ?_
 rintro _ w10 ⟨rfl,hL3,lk6⟩
 obtain ⟨M3,hM3⟩:∃ M3,M3=(truncM M1 nameP 2 [wx1,wx2,wx3] 1).flush:=⟨_,rfl⟩
 rw [<- hM3] at hL3 y1 y2 y3 y4 yg
 have hl3:=fat_lasts M3
 obtain ⟨wa5,hwa5⟩:∃ z,z=w10:=⟨_,rfl⟩
 rw [<- hwa5] at hL3
 refine xa (xz ?_)
 refine xq (xm ?_)
 refine xl_call (data4_ok 3 9 w10) ?_
 rintro _ w11 ⟨rfl,lkd4⟩
 refine xl_e (e_buildSliceM (vs:=[wx4].flatMap enC) rfl rfl (by simp [wx4]) fun b40 w12 n40 l40 k40=>?_)
 refine xl_call (append_ok (wide R2 wa5 w12) (wide R2 wa5 w12) b { L2 with sure:=L2.es.length } M3 (some ⟨b40,0,none⟩) 1 1 [wx4] w12 (hL3.widen (by rw [hwa5];exact kpc)) (row_blk0 k40) (fun _ a ha=>by cases ha;exact .inr ⟨by rw [hwa5,n40.eq];exact Ge.le,Has.lt⟩) rfl (by decide) (by rw [yg.2];simp;omega)) ?_
 rintro _ w13 ⟨rfl,⟨L4,hL4,x1,x2,x3,x4,x5⟩,lk7⟩
 rw [show ({ L2 with sure:=L2.es.length }:LLog).name=nameP from z2,show ({ L2 with sure:=L2.es.length }:LLog).per=2 from z3,show ({ L2 with sure:=L2.es.length }:LLog).es=[wx1] from z1] at hL4 x1 ⊢
 obtain ⟨t1,t2,t3⟩:=work3 y1 y2 y3 y4 yg.2
 have tn:=app_n nameP 2 [wx4] M3 [wx1]
 rw [t1] at x1 tn ⊢
 simp only at x1 tn ⊢
 have tn1:fat (appAll nameP 2 M3 [wx1] [wx4]).1<=4:=by have:=tn.2.2.1;omega
 clear tn t1
 generalize (appAll nameP 2 M3 [wx1] [wx4]).1=M4 at hL4 t2 t3 tn1
 obtain ⟨R3,hR3⟩:∃ R3,R3=wide R2 wa5 w12:=⟨_,rfl⟩
 rw [<- hR3] at hL4 lk7
 haveI sF3:SubF (NotP R3) NoB w:=by rw [hR3];infer_instance
 haveI rO2:RowOut (NotP R3) A7:=⟨fun a ha e=>rO1.out a ha (fun e2=>e (by rw [hR3];exact .inl e2))⟩
 have hd4:L4.d=d:=by rw [x4];show L2.d=d;rw [z4,q4]
 have fc:=fat_crash M4 0 3
 have hl5:=fat_lasts (M4.crash 0 3)
 refine xl_nil ?_
 refine xq (xm (xl_v v_build ?_))
 refine xl_call (crash_ok _ _ d M4 0 3 w13 (by have h9:=hL4.disk;rw [hd4] at h9;exact h9.ext (kpc:Keep NoB _ w13)) (by decide) (by decide)) ?_
 rintro _ w14 ⟨⟨x,rfl,hX,hgx⟩,lk8⟩
 obtain ⟨R5,hR5⟩:∃ R5:Nat->Prop,R5=fun k=>k<(w13).heap.size:=⟨_,rfl⟩
 have h6b:b<(w13).heap.size:=Nat.lt_of_lt_of_le hL4.lt.2.2.1 Ge.le
 have h6w:w.heap.size<=(w13).heap.size/\wa4.heap.size<=(w13).heap.size:=⟨Ge.le,by rw [hwa4];exact Ge.le⟩
 haveI sF5:SubF (NotP R5) NoB w:=⟨fun k hk e=>e (by rw [hR5];show k<_;omega)⟩
 haveI rO5:RowOut (NotP R5) A7:=⟨fun a ha e=>e (by rw [hR5];have:=(hA7 a ha).2;show a.block<_;omega)⟩
 haveI nS5:NotS (NotP R5) b:=⟨fun e=>e (by rw [hR5];exact h6b)⟩
 haveI kb4:Blk w14 b (.cells (logC L4).toArray 100 (0,0)):=⟨(hL4.ext (kpc:Keep NoB _ w14)).at_⟩
 rw [<- hR5] at hX
 refine xm (xl_v v_extract (xl_v v_extract (xa (xz ?_))))
 refine xq (xm ?_)
 refine xl_call (open2_ok' _ R5 x (M4.crash 0 3) nameP 2 w14 (hX.ext (kpc:Keep NoB _ w14)) (by decide +kernel) (by decide) (by rw [fc.2];simp;omega)) ?_
 rintro _ w15 ⟨hres,lk9⟩
 rw [if_pos ⟨nameP_ok,by decide,by decide⟩] at hres
 obtain ⟨b12,L5,rfl,hL5,s2,s3,s4,s5,s6,s7,s8⟩:=hres
 rw [show (2:Int).toNat=2 from rfl,t3] at s5
 rw [if_pos t2,s5] at s6
 haveI kb5:Blk w15 b12 (.cells (logC L5).toArray 100 (0,0)):=⟨hL5.at_⟩
 refine xm (xl_v v_extract (xl_v v_extract (xa (xz ?_))))
 refine xq (xm ?_)
 refine xl_call (num4_ok _ _) ?_
 rintro _ _ ⟨rfl,rfl⟩
 refine xm ?_
 refine xl_call (num4_ok _ _) ?_
 rintro _ _ ⟨rfl,rfl⟩
 refine xl_v (v_add (by omega)) ?_
 refine xm ?_
 refine xl_call (num4_ok _ _) ?_
 rintro _ _ ⟨rfl,rfl⟩
 refine xl_v (v_add (by omega)) ?_
 refine xm ?_
 refine xl_call (num4_ok _ _) ?_
 rintro _ _ ⟨rfl,rfl⟩
 refine xl_v (v_add (by omega)) ?_
 refine xm ?_
 refine xl_call (num4_ok _ _) ?_
 rintro _ _ ⟨rfl,rfl⟩
 refine xl_v (v_add (by omega)) ?_
 refine xm ?_
 refine xl_call (num4_ok _ _) ?_
 rintro _ _ ⟨rfl,rfl⟩
 refine xl_v (v_add (by omega)) ?_
 refine xm ?_
 refine xl_call (num4_ok _ _) ?_
 rintro _ _ ⟨rfl,rfl⟩
 refine xl_v (v_add (by omega)) ?_
 refine xl_v (v_congr (u:=.bool true) v_eql (by simp)) ?_
 refine xm (xl_gv rfl EvO.eq v_move ?_)
 refine xl_gv rfl EvO.eq (v_congr (u:=.bool true) v_eql (by simp)) ?_
 refine xl_Pk ?_
 refine xm (xl_gv rfl EvO.eq v_move (xl_gv rfl EvO.eq v_len ?_))
 refine xl_gv rfl EvO.eq (v_congr (u:=.bool true) v_eql (by simp)) ?_
 refine xl_Pk ?_
 refine xm (xl_gv rfl EvO.eq v_move ?_)
 refine xl_gv rfl EvO.eq (v_indexAddr 1 rfl (by decide) (row_some hr7 (by simp [strs]))) ?_
 refine xl_gv rfl EvO.eq (v_loadR (v:=.string (fileN nameP 2)) (by simp [strs])) ?_
 refine xl_gv rfl EvO.eq (v_congr (u:=.bool true) v_seql (congrArg Value.bool (decide_eq_true (by decide +kernel)))) ?_
 refine xl_Pk ?_
 refine xm (xl_gv rfl EvO.eq v_move ?_)
 refine xl_gcall rfl EvO.eq (llen_ok b12 L5 w15) ?_
 rintro _ _ ⟨rfl,rfl⟩
 refine xl_gv rfl EvO.eq (v_congr (u:=.bool true) v_eql (by simp [s5])) ?_
 refine xl_Pk ?_
 refine xm (xl_gv rfl EvO.eq v_move ?_)
 refine xl_gcall rfl EvO.eq (lsure_ok b12 L5 w15) ?_
 rintro _ _ ⟨rfl,rfl⟩
 refine xl_gv rfl EvO.eq (v_congr (u:=.bool true) v_eql (by simp [s6])) ?_
 refine xl_Pk ?_
 refine xm (xl_gv rfl EvO.eq v_move ?_)
 refine xl_gcall rfl EvO.eq (llen_ok b L4 w15) ?_
 rintro _ _ ⟨rfl,rfl⟩
 refine xl_gv rfl EvO.eq (v_congr (u:=.bool true) v_eql (by simp [x1])) ?_
 refine xl_Pk ?_
 refine xz ?_
 refine x_ret ?_
 refine fin1 rfl ?_
 exact ⟨rfl,lkc⟩
end Go.Proofs.YtigmfcgeljjgnaaGreatDoor
namespace Go.Wst
open Go.ChangeShapes Go.WideShapes Go.ChangeAt Go.RowKit Go.Deep
section
variable {H:Type} {enc:TypeId×Value->H} {P:Program}
theorem post_below {f:Func} {s:ChangeSpec} {apart fresh handsOn again:Bool} {W W':World} {args:Array Value} {v:Value} {ds gs:List (DataW H)} {before pa pv:List MemPlace}
    (hW:DataW.Whole enc P f.params.toList s.vars apart W args.toList ds gs before)
    (hres:∀ (b:Nat) (sp:Nat->Bool) (hd:Bool),DataW.TrodAll enc P W' b sp hd f.resultTypes.toList (v.resultList f.resultTypes.size) (s.fn H (ds++gs)).results [])
    (hargs:∀ sp:Nat->Bool,(∀ p∈before,sp p.block=true)->DataW.TrodAll enc P W' 0 sp true f.params.toList args.toList (s.fn H (ds++gs)).args pa)
    (hvars:∀ sp:Nat->Bool,(∀ p∈before,sp p.block=true)->DataW.TrodVars enc P W' sp s.vars (s.fn H (ds++gs)).vars pv)
    (hps:before=pa++pv) (hb:Below W.heap.size W W')
    (hok:∀ (j:Nat) (t:TypeId) (r:Value),f.resultTypes[j]?=some t->(v.resultList f.resultTypes.size)[j]?=some r->Value.okWide P W' .any 0 t r) :
    s.post enc P f apart fresh handsOn again W args v W':=by
  have hlt:∀ p∈before,p.block<W.heap.size:=fun p hp=>hW.lt p hp
  have hold:∀ p∈before,(fun b=>decide (b<W.heap.size)) p.block=true:=fun p hp=>by simpa using hlt p hp
  refine ⟨ds,gs,before,[],pa,pv,hW,hres _ _ _,hargs _ hold,hvars _ hold,World.keptBut_mono (fun p hp=>⟨hp,?_⟩) (hb.frame (·∈before)),fun _=>?_⟩
  · rw [hps,List.mem_append] at hp
    exact Or.inr hp
  obtain ⟨_,_,_,_,_,hz,hn⟩:=hW
  refine ⟨hok,_,_,([]++pa)++pv,⟨[]++pa,pv,trodAll_append (hargs _ (fun _ _=>rfl)) (hres _ _ _),hvars _ (fun _ _=>rfl),rfl,?_,?_⟩,?_⟩
  · intro b off hp
    have hin:MemPlace.cell b off∈before:=by rw [hps];simpa using hp
    rw [hb.frozen (hlt _ hin)]
    exact hz b off hin
  · intro ha
    have:=hn ha
    rw [hps] at this
    simpa using this
  intro p hp _
  rw [hps]
  simpa using hp
theorem trodAll_stays (hl:laidOutB P=true) {W W':World} (sp:Nat->Bool):∀ (ts:List TypeId) (vs:List Value) (ds:List (DataW H)) (ps:List MemPlace),(∀ t∈ts,P.readableRec t=true/\t<P.types.size) ->
    DataW.TrodAll enc P W 0 (fun _=>true) true ts vs ds ps->Below W.heap.size W W'->(∀ x∈ps,x.block<W.heap.size)->(∀ x∈ps,sp x.block=true)->DataW.TrodAll enc P W' 0 sp true ts vs ds ps
  | [],[],[],_,_,h,_,_,_=>h
  | t :: ts,v :: vs,d :: ds,ps,ht,h,hb,hlt,hsp=>by
    obtain ⟨p,q,h1,h2,rfl⟩:=h
    obtain ⟨r1,r2⟩:=ht t (List.mem_cons_self ..)
    exact ⟨p,q,WideElems.Trod_stays hl r1 r2 h1 (fun x hx=>hb.same (hlt x (List.mem_append_left _ hx))) (fun x hx=>hsp x (List.mem_append_left _ hx)),
      trodAll_stays hl sp ts vs ds q (fun t ht'=>ht t (List.mem_cons_of_mem _ ht')) h2 hb (fun x hx=>hlt x (List.mem_append_right _ hx)) (fun x hx=>hsp x (List.mem_append_right _ hx)),rfl⟩
  | [],_ :: _,_,_,_,h,_,_,_=>h.elim
  | [],[],_ :: _,_,_,h,_,_,_=>h.elim
  | _ :: _,[],_,_,_,h,_,_,_=>h.elim
  | _ :: _,_ :: _,[],_,_,h,_,_,_=>h.elim
theorem law_post {f:Func} {s:ChangeSpec} {apart fresh handsOn again:Bool} {W W':World} {args:Array Value} {ds gs:List (DataW H)} {before:List MemPlace} {tb:TypeId} (hl:laidOutB P=true)
    (hW:DataW.Whole enc P f.params.toList s.vars apart W args.toList ds gs before) (hv:s.vars=[]) (hr:f.resultTypes=#[tb]) (hu:P.underlying tb=some .bool)
    (hfn:gs=[]->(s.fn H (ds++gs)).results=[.lit (.bool true)]/\(s.fn H (ds++gs)).args=ds/\(s.fn H (ds++gs)).vars=[])
    (ht0:f.params.toList.all (fun t=>P.readableRec t && decide (t<P.types.size))=true) (hk:Keep NoB W W'):s.post enc P f apart fresh handsOn again W args (.bool true) W':=by
  have ht:∀ t∈f.params.toList,P.readableRec t=true/\t<P.types.size:=fun t h=>by simpa using List.all_eq_true.1 ht0 t h
  have hb:Below W.heap.size W W':=Ext.below hk
  have hW':=hW
  obtain ⟨p,q,hA,hV,rfl,hfz,hnd⟩:=hW
  rw [hv] at hV
  obtain ⟨rfl,rfl⟩:=trodVars_none hV
  obtain ⟨e1,e2,e3⟩:=hfn rfl
  refine post_below (pa:=p) (pv:=[]) hW' ?_ ?_ ?_ rfl hb ?_
  · intro b sp hd
    rw [hr,e1]
    exact trodAll_mk1 (shut_bool hu true)
  · intro sp hsp
    rw [e2]
    refine trodAll_stays hl sp _ _ _ _ ht hA hb (fun x hx=>hW'.lt x (by simpa using hx)) (fun x hx=>hsp x (by simpa using hx))
  · intro sp hsp
    rw [hv,e3]
    rfl
  exact ok_one hr rfl (okWide_bool_mk hu true)
end
section
variable {H:Type} {enc:TypeId×Value->H} {P:Program} {w:World} {base:Nat} {spare:Nat->Bool} {held:Bool}
theorem choose_list {α:Type} {R:Nat->α->Prop}:∀ (n:Nat),(∀ i,i<n->∃ a,R i a)->∃ xs:List α,xs.length=n/\∀ i (h:i<xs.length),R i xs[i]
  | 0,_=>⟨[],rfl,by simp⟩
  | n+1,h=>by
    obtain ⟨xs,hl,hx⟩:=choose_list n (fun i hi=>h i (by omega))
    obtain ⟨a,ha⟩:=h n (by omega)
    refine ⟨xs++[a],by simp [hl],fun i hi=>?_⟩
    by_cases hin:i<xs.length
    · rw [List.getElem_append_left hin];exact hx i hin
    have:i=n:=by simp at hi;omega
    subst this
    rw [List.getElem_append_right (by omega)]
    simpa [hl] using ha
theorem open_rows {α:Type} {ea:α->List Value} {Q:α->Prop} {sz:Nat} {t e:TypeId} {fuel:Nat} {cs:List Value} {x:DataW H×List MemPlace} (hsz:∀ a,(ea a).length=sz) (ht:P.underlying t=some (.slice e)) (hC:P.cellsOf e=sz)
    (hel:∀ fuel cs x,DataW.trod enc P w base spare held fuel e cs=some x->∃ a,cs=ea a/\Q a) (h:DataW.trod enc P w base spare held fuel t cs=some x) :
    ∃ (A:Option Addr) (n c:Nat) (xs:List α),cs=[.slice A n c]/\xs.length=n/\RowP w A (xs.flatMap ea)/\(∀ a∈xs,Q a)/\(A.isSome=true\/n=0)/\n<=9223372036854775807:=by
  rcases open_slice ht h with ⟨rfl,_⟩ | ⟨a,len,cap,m,n,D,Pl,rfl,hb,hl,hm,hmm,_,hi⟩
  · exact ⟨none,0,0,[],rfl,rfl,fun j v hv=>by simp at hv,by simp,.inr rfl,by omega⟩
  have hlm:len<=m:=by rw [hmm];split<;>omega
  obtain ⟨xs,hxl,hx⟩:=choose_list (R:=fun i b=>w.cells? base (a.add (i*sz)) sz=some (ea b)/\Q b) len (fun i hil=>by
    obtain ⟨cs',h1,h2⟩:=hi i (by omega)
    rw [hC] at h1
    obtain ⟨b,rfl,hQ⟩:=hel _ _ _ h2
    exact ⟨b,h1,hQ⟩)
  refine ⟨some a,len,cap,xs,rfl,hxl,?_,?_,.inl rfl,by simp only [maxLen] at hm;omega⟩
  · intro j v hv
    refine ⟨a,rfl,?_⟩
    have hjl:=(List.getElem?_eq_some_iff.1 hv).1
    rw [flat_len hsz] at hjl
    have hpos:0<sz:=Nat.pos_of_ne_zero (fun e=>by subst e;simp at hjl)
    have hq:j / sz<xs.length:=Nat.div_lt_of_lt_mul (by rw [Nat.mul_comm];exact hjl)
    obtain ⟨h1,_⟩:=hx (j / sz) hq
    obtain ⟨_,h2,h3⟩:=World.cells?_some h1
    have hr:j % sz<(ea xs[j / sz]).length:=by rw [hsz];exact Nat.mod_lt _ hpos
    have h4:=flat_get hsz xs (j / sz) hq (j % sz) _ (List.getElem?_eq_getElem hr)
    have hj:j / sz*sz+j % sz=j:=by rw [Nat.mul_comm];exact Nat.div_add_mod j sz
    rw [hj,hv] at h4
    have h5:=h3 (j % sz) (by rw [hsz] at hr;exact hr)
    rw [add_add,hj] at h5
    rw [h5,List.getElem?_eq_getElem hr,h4]
  intro b hb'
  obtain ⟨i,hi',rfl⟩:=List.mem_iff_getElem.1 hb'
  exact (hx i hi').2
theorem wf_i64 {n:Int} (h:(Lit.int .i64 n).wf=true):-9223372036854775808<=n/\n<=9223372036854775807:=by
  simpa [Lit.wf,IntKind.min,IntKind.max,IntKind.signed,IntKind.bits] using h
theorem trod_field {t:TypeId} {fs:Array Field} {fuel:Nat} {cs:List Value} {x:DataW H×List MemPlace} (ht:P.underlying t=some (.struct fs)) (h:DataW.trod enc P w base spare held fuel t cs=some x) :
    cs.length=P.cellsOf t/\∀ (i:Nat) (f:Field),fs[i]?=some f->∃ n y,DataW.trod enc P w base spare held n f.type ((cs.drop f.offset).take (P.cellsOf f.type))=some y:=by
  obtain ⟨xs,n,_,_,hl,hx,hi⟩:=DataW.trod_struct ht h
  refine ⟨hl,fun i f hf=>?_⟩
  have hil:i<xs.length:=by rw [hx];exact (Array.getElem?_eq_some_iff.1 hf).1
  exact ⟨n,xs[i],(hi i f hf).trans (List.getElem?_eq_getElem hil)⟩
theorem trod_at {t:TypeId} {pl:List (Nat×Nat×TypeId)} {fuel:Nat} {cs:List Value} {x:DataW H×List MemPlace} (hp:∃ fs,P.underlying t=some (.struct fs)/\fs.toList.map (fun f=>(f.offset,P.cellsOf f.type,f.type))=pl) (h:DataW.trod enc P w base spare held fuel t cs=some x) :
    ∀ (i:Nat) (off sz:Nat) (ft:TypeId),pl[i]?=some (off,sz,ft)->∃ n y,DataW.trod enc P w base spare held n ft ((cs.drop off).take sz)=some y:=by
  obtain ⟨fs,h1,rfl⟩:=hp
  obtain ⟨_,h2⟩:=trod_field h1 h
  intro i off sz ft hi
  rw [List.getElem?_map] at hi
  cases hf:fs.toList[i]? with
  | none=>simp [hf] at hi
  | some f=>
    simp only [hf,Option.map_some,Option.some.injEq,Prod.mk.injEq] at hi
    obtain ⟨rfl,rfl,rfl⟩:=hi
    exact h2 i f (by simpa using hf)
end
end Go.Wst
namespace Go.Proofs.YtigmfcgeljjgnaaGreatDoor
open Go.Wst Go.Wst.Dm Go.Wst.Sg
open Go.ChangeShapes Go.WideShapes Go.ChangeAt Go.RowKit Go.Deep
theorem ownK:ownKnob Tryz.prog.godebug=none:=by kernel_rfl
theorem laidK:laidOutB Tryz.prog=true:=by kernel_rfl
theorem agg_of {w:World} {r:Reach} {b:Nat} {t:TypeId} {fs:Array Field} {v:Value} {cs:List Value} (hs:Tryz.prog.underlying t=some (.struct fs)) (hv:Value.okWide Tryz.prog w r b t v) (hc:v.cells.toList=cs):v=.agg cs.toArray:=by
  obtain ⟨c,rfl,_⟩:=okWide_struct hs hv
  subst hc
  simp [Value.cells]
theorem slice_of {w:World} {r:Reach} {b:Nat} {t e:TypeId} {v u:Value} (hs:Tryz.prog.underlying t=some (.slice e)) (hv:Value.okWide Tryz.prog w r b t v) (hc:v.cells.toList=[u]):v=u:=by
  obtain ⟨a,l,c,rfl⟩:=okWide_slice hs hv
  simpa [Value.cells] using hc
theorem int_of {w:World} {r:Reach} {b:Nat} {t:TypeId} {v u:Value} {k:IntKind} (hs:Tryz.prog.underlying t=some (.int k)) (hv:Value.okWide Tryz.prog w r b t v) (hc:v.cells.toList=[u]):v=u:=by
  obtain ⟨n,rfl⟩:=okWide_int hs hv
  simpa [Value.cells] using hc
theorem string_of {w:World} {r:Reach} {b:Nat} {t:TypeId} {v u:Value} (hs:Tryz.prog.underlying t=some .string) (hv:Value.okWide Tryz.prog w r b t v) (hc:v.cells.toList=[u]):v=u:=by
  obtain ⟨n,rfl⟩:=okWide_string hs hv
  simpa [Value.cells] using hc
section
variable {H:Type} {enc:TypeId×Value->H} {w:World} {base:Nat} {spare:Nat->Bool} {held:Bool}
theorem wf_i64 {n:Int} (h:(Lit.int .i64 n).wf=true):In64 n:=by
  have h1:-9223372036854775808<=n/\n<=9223372036854775807:=by
    simpa [Lit.wf,IntKind.min,IntKind.max,IntKind.signed,IntKind.bits] using h
  exact h1
theorem wf_byte {n:Int} (h:(Lit.int .u8 n).wf=true):0<=n/\n<=255:=by
  simpa [Lit.wf,IntKind.min,IntKind.max,IntKind.signed,IntKind.bits] using h
theorem open_str {fuel:Nat} {cs:List Value} {x:DataW H×List MemPlace} (h:DataW.trod enc Tryz.prog w base spare held fuel 9 cs=some x):∃ s:ByteArray,cs=[.string s]/\s.size<=maxLen:=by
  obtain ⟨s,h1,_,h2⟩:=DataW.trod_string Tryz.underlying9 h
  exact ⟨s,h1,h2⟩
theorem open_bytes3 {fuel:Nat} {cs:List Value} {x:DataW H×List MemPlace} (h:DataW.trod enc Tryz.prog w base spare held fuel 60 cs=some x) :
    ∃ (A:Option Addr) (n c:Nat) (bs:List UInt8),cs=[.slice A n c]/\bs.length=n/\RowP w A (bytesC bs)/\n<=c/\True/\n<=9223372036854775807:=by
  have hcap:∀ A n c,cs=[.slice A n c]->n<=c:=by
    intro A n c e
    rcases DataW.trod_slice Tryz.underlying60 h with ⟨h1,_⟩ | ⟨a,len,cap,_,_,_,_,h1,_,_,h2,_⟩
    · rw [e] at h1;cases h1;omega
    rw [e] at h1;cases h1;exact h2
  obtain ⟨A,n,c,xs,rfl,hl,hr,hq,_,hn⟩:=open_rows (ea:=fun i:Int=>[Value.int .u8 i]) (Q:=fun i=>0<=i/\i<=255) (sz:=1) (fun _=>rfl) Tryz.underlying60 (by kernel_rfl) (fun fuel cs x h=>by
    obtain ⟨n,rfl,_,hw⟩:=DataW.trod_int Tryz.underlying5 h
    exact ⟨n,rfl,wf_byte hw⟩) h
  refine ⟨A,n,c,xs.map (fun i=>UInt8.ofNat i.toNat),rfl,by simp [hl],?_,hcap _ _ _ rfl,trivial,hn⟩
  have e:bytesC (xs.map (fun i=>UInt8.ofNat i.toNat))=xs.flatMap (fun i:Int=>[Value.int .u8 i]):=by
    clear hr hl h
    induction xs with
    | nil=>rfl
    | cons a xs ih=>
      have h1:=hq a (by simp)
      have h2:=ih (fun b hb=>hq b (by simp [hb]))
      simp only [bytesC,List.map_cons,List.flatMap_cons,List.singleton_append] at h2 ⊢
      rw [h2]
      congr 1
      simp only [byteC,UInt8.toNat_ofNat']
      congr 1
      have:a.toNat<256:=by omega
      omega
  rw [e]
  exact hr
theorem open_thing (fuel:Nat) (cs:List Value) (x:DataW H×List MemPlace) (h:DataW.trod enc Tryz.prog w base spare held fuel 62 cs=some x) :
    ∃ a:LT,cs=thC a/\RowP w a.A (bytesC a.t.bytes)/\In64 a.t.n/\a.t.bytes.length<=a.c/\a.t.name.size<=9223372036854775807:=by
  have hl:cs.length=4:=(trod_field Tryz.underlying62 h).1.trans (by kernel_rfl)
  have ha:=trod_at (pl:=[(0,1,3),(1,1,9),(2,1,60),(3,1,3)]) ⟨_,Tryz.underlying62,by kernel_rfl⟩ h
  match cs,hl with
  | [c0,c1,c2,c3],_=>
    obtain ⟨_,_,h0⟩:=ha 0 _ _ _ rfl
    obtain ⟨_,_,h1⟩:=ha 1 _ _ _ rfl
    obtain ⟨_,_,h2⟩:=ha 2 _ _ _ rfl
    obtain ⟨_,_,h3⟩:=ha 3 _ _ _ rfl
    obtain ⟨n0,e0,_,_⟩:=DataW.trod_int Tryz.underlying3 h0
    obtain ⟨s1,e1,hz1⟩:=open_str h1
    obtain ⟨A,m,c,bs,e2,hbl,hr,hcap,_,_⟩:=open_bytes3 h2
    obtain ⟨n3,e3,_,hw⟩:=DataW.trod_int Tryz.underlying3 h3
    simp at e0 e1 e2 e3
    subst e0;subst e1;subst e2;subst e3;subst hbl
    exact ⟨⟨⟨n0,s1,bs,n3⟩,A,c⟩,rfl,hr,wf_i64 hw,hcap,hz1⟩
theorem open_things {fuel:Nat} {cs:List Value} {x:DataW H×List MemPlace} (h:DataW.trod enc Tryz.prog w base spare held fuel 32 cs=some x) :
    ∃ (A:Option Addr) (n c:Nat) (xs:List LT),cs=[.slice A n c]/\xs.length=n/\RowP w A (xs.flatMap thC)/\(∀ a∈xs,RowP w a.A (bytesC a.t.bytes)/\In64 a.t.n/\a.t.bytes.length<=a.c/\a.t.name.size<=9223372036854775807)/\(A.isSome=true\/n=0)/\n<=9223372036854775807:=by
  refine open_rows (Q:=fun a:LT=>RowP w a.A (bytesC a.t.bytes)/\In64 a.t.n/\a.t.bytes.length<=a.c/\a.t.name.size<=9223372036854775807) (ea:=thC) (sz:=4) (fun _=>rfl) Tryz.underlying32 (by kernel_rfl) (fun fuel cs x h=>?_) h
  exact open_thing _ _ _ h
theorem open_crash (fuel:Nat) (cs:List Value) (x:DataW H×List MemPlace) (h:DataW.trod enc Tryz.prog w base spare held fuel 75 cs=some x) :
    ∃ a b:Int,cs=[.int .i64 a,.int .i64 b]/\In64 a/\In64 b:=by
  have hl:cs.length=2:=(trod_field Tryz.underlying75 h).1.trans (by kernel_rfl)
  have ha:=trod_at (pl:=[(0,1,3),(1,1,3)]) ⟨_,Tryz.underlying75,by kernel_rfl⟩ h
  match cs,hl with
  | [c0,c1],_=>
    obtain ⟨_,_,h0⟩:=ha 0 _ _ _ rfl
    obtain ⟨_,_,h1⟩:=ha 1 _ _ _ rfl
    obtain ⟨n0,e0,_,hw0⟩:=DataW.trod_int Tryz.underlying3 h0
    obtain ⟨n1,e1,_,hw1⟩:=DataW.trod_int Tryz.underlying3 h1
    simp at e0 e1
    subst e0;subst e1
    exact ⟨n0,n1,rfl,wf_i64 hw0,wf_i64 hw1⟩
theorem open_ent (fuel:Nat) (cs:List Value) (x:DataW H×List MemPlace) (h:DataW.trod enc Tryz.prog w base spare held fuel 84 cs=some x) :
    ∃ a:En,cs=enC a/\True:=by
  have hl:cs.length=6:=(trod_field Tryz.underlying84 h).1.trans (by kernel_rfl)
  have ha:=trod_at (pl:=[(0,1,2),(1,1,3),(2,1,2),(3,1,2),(4,1,82),(5,1,2)]) ⟨_,Tryz.underlying84,by kernel_rfl⟩ h
  match cs,hl with
  | [c0,c1,c2,c3,c4,c5],_=>
    obtain ⟨_,_,h0⟩:=ha 0 _ _ _ rfl
    obtain ⟨_,_,h1⟩:=ha 1 _ _ _ rfl
    obtain ⟨_,_,h2⟩:=ha 2 _ _ _ rfl
    obtain ⟨_,_,h3⟩:=ha 3 _ _ _ rfl
    obtain ⟨_,_,h4⟩:=ha 4 _ _ _ rfl
    obtain ⟨_,_,h5⟩:=ha 5 _ _ _ rfl
    obtain ⟨n0,e0,_,_⟩:=DataW.trod_int Tryz.underlying2 h0
    obtain ⟨n1,e1,_,_⟩:=DataW.trod_int Tryz.underlying3 h1
    obtain ⟨n2,e2,_,_⟩:=DataW.trod_int Tryz.underlying2 h2
    obtain ⟨n3,e3,_,_⟩:=DataW.trod_int Tryz.underlying2 h3
    obtain ⟨n4,e4,_,_⟩:=DataW.trod_int Tryz.underlying82 h4
    obtain ⟨n5,e5,_,_⟩:=DataW.trod_int Tryz.underlying2 h5
    simp at e0 e1 e2 e3 e4 e5
    subst e0;subst e1;subst e2;subst e3;subst e4;subst e5
    exact ⟨⟨n0,n1,n2,n3,n4,n5⟩,rfl,trivial⟩
theorem open_ents {fuel:Nat} {cs:List Value} {x:DataW H×List MemPlace} (h:DataW.trod enc Tryz.prog w base spare held fuel 22 cs=some x) :
    ∃ (A:Option Addr) (n c:Nat) (xs:List En),cs=[.slice A n c]/\xs.length=n/\RowP w A (xs.flatMap enC)/\(∀ a∈xs,True)/\(A.isSome=true\/n=0)/\n<=9223372036854775807:=by
  refine open_rows (Q:=fun _:En=>True) (ea:=enC) (sz:=6) (fun _=>rfl) Tryz.underlying22 (by kernel_rfl) (fun fuel cs x h=>?_) h
  exact open_ent _ _ _ h
theorem open_act (fuel:Nat) (cs:List Value) (x:DataW H×List MemPlace) (h:DataW.trod enc Tryz.prog w base spare held fuel 77 cs=some x) :
    ∃ a:LA,cs=actC a/\RowP w a.A (a.xs.flatMap enC)/\(In64 a.n/\In64 a.keep/\In64 a.torn/\a.xs.length<=9223372036854775807):=by
  have hl:cs.length=5:=(trod_field Tryz.underlying77 h).1.trans (by kernel_rfl)
  have ha:=trod_at (pl:=[(0,1,3),(1,1,22),(2,1,3),(3,2,75)]) ⟨_,Tryz.underlying77,by kernel_rfl⟩ h
  match cs,hl with
  | [c0,c1,c2,c3,c4],_=>
    obtain ⟨_,_,h0⟩:=ha 0 _ _ _ rfl
    obtain ⟨_,_,h1⟩:=ha 1 _ _ _ rfl
    obtain ⟨_,_,h2⟩:=ha 2 _ _ _ rfl
    obtain ⟨_,_,h3⟩:=ha 3 _ _ _ rfl
    obtain ⟨n0,e0,_,_⟩:=DataW.trod_int Tryz.underlying3 h0
    obtain ⟨A,m,c,xs,e1,hxl,hr,_,_,hm⟩:=open_ents h1
    obtain ⟨n2,e2,_,hw2⟩:=DataW.trod_int Tryz.underlying3 h2
    obtain ⟨a3,b3,e3,hw3,hw4⟩:=open_crash _ _ _ h3
    simp at e0 e1 e2 e3
    obtain ⟨e3,e4⟩:=e3
    subst e0;subst e1;subst e2;subst e3;subst e4;subst hxl
    exact ⟨⟨n0,xs,A,c,n2,a3,b3⟩,rfl,hr,wf_i64 hw2,hw3,hw4,hm⟩
theorem open_acts {fuel:Nat} {cs:List Value} {x:DataW H×List MemPlace} (h:DataW.trod enc Tryz.prog w base spare held fuel 54 cs=some x) :
    ∃ (A:Option Addr) (n c:Nat) (xs:List LA),cs=[.slice A n c]/\xs.length=n/\RowP w A (xs.flatMap actC)/\(∀ a∈xs,RowP w a.A (a.xs.flatMap enC)/\(In64 a.n/\In64 a.keep/\In64 a.torn/\a.xs.length<=9223372036854775807))/\(A.isSome=true\/n=0)/\n<=9223372036854775807:=by
  refine open_rows (Q:=fun a:LA=>RowP w a.A (a.xs.flatMap enC)/\(In64 a.n/\In64 a.keep/\In64 a.torn/\a.xs.length<=9223372036854775807)) (ea:=actC) (sz:=5) (fun _=>rfl) Tryz.underlying54 (by kernel_rfl) (fun fuel cs x h=>?_) h
  exact open_act _ _ _ h
end
def laidL:List (String×DataW Unit):=[("math/bits.deBruijn32tab",Rows.laid_math_bits_deBruijn32tab),("math/bits.deBruijn64tab",Rows.laid_math_bits_deBruijn64tab),("internal/strconv.uint64pow10",Rows.laid_internal_strconv_uint64pow10)]
theorem door_met (os:Os) (args:Array Value):laidMetH Tryz.prog laidL ((World.doorLaid Tryz.prog 400 os).forCall (fun _ _=>0) ⟨#[],args,[]⟩).memory:=
  laidMetH_of_parts3 (fuel:=8) (laidMet_of_run' 8 (by kernel_rfl) (by kernel_rfl)) (by kernel_rfl) (by kernel_rfl)
theorem tab_laid {W:World} (h:laidMetH Tryz.prog laidL W):∃ (tt:TypeId) (tr:Nat×Nat),W.heap[0]?=some (.cells tabA tt tr):=by
  rw [MakeChecks.laidMetH_plain _ _ _ (by kernel_rfl)] at h
  obtain ⟨ps,⟨g0,t0,cs0,f0,p0,q0,hg0,ht0,hv0,hd0,⟨g1,t1,cs1,f1,p1,q1,hg1,ht1,hv1,hd1,⟨g2,t2,cs2,f2,p2,q2,hg2,ht2,hv2,hd2,_,_⟩,_⟩,_⟩,_,_⟩:=h
  have hp:Tryz.prog.globalNamed "internal/strconv.uint64pow10"=some 0:=by kernel_rfl
  obtain rfl:=Option.some.inj (hp.symm.trans hg2)
  have hty:∃ t e n,(Tryz.prog.globals[0]?).map (·.type)=some t/\Tryz.prog.underlying t=some (.array n e)/\Tryz.prog.underlying e=some (.int .u64)/\Tryz.prog.cellsOf e=1/\Tryz.prog.cellsOf t=n:=⟨243,206,20,by kernel_rfl,Tryz.underlying243,Tryz.underlying206,by kernel_rfl,by kernel_rfl⟩
  obtain ⟨t,e,n,a1,a2,a3,a4,a5⟩:=hty
  obtain rfl:=Option.some.inj (a1.symm.trans ht2)
  refine tab_of ?_
  unfold Lib.TabIs
  rw [hv2,<- Lib.cells_of_tab a2 a3 a4 a5 (show DataW.trod _ _ _ _ _ _ _ _ _=some (Lib.tabData .u64 Lib.pow10Tab,_) from hd2)]
end Go.Proofs.YtigmfcgeljjgnaaGreatDoor
