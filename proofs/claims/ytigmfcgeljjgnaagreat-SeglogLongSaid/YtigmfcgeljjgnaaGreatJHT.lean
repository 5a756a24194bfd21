/- A part of the walks through the log and its document, and of the law in plain Lean: HT. -/
import Derived.Test.YtigmfcgeljjgnaaGreatJ20
set_option linter.all false
set_option maxRecDepth 100000
set_option synthInstance.maxSize 100000
set_option synthInstance.maxHeartbeats 400000
namespace Go.Proofs.YtigmfcgeljjgnaaGreat
open Go.Wst
open Go.Wst.Dm Go.Wst.Sg
def longZ (n k:Nat):List En:=longE k++List.replicate (n - k) En.zero
theorem longZ_len {n k:Nat} (h:k<=n):(longZ n k).length=n:=by
 unfold longZ
 rw [List.length_append,longE_len,List.length_replicate]
 omega
theorem longZ_zero (n:Nat):longZ n 0=List.replicate n En.zero:=rfl
theorem longZ_end (n:Nat):longZ n n=longE n:=by
 unfold longZ
 rw [Nat.sub_self]
 exact List.append_nil _
theorem longZ_set {n k:Nat} (h:k<n):(longZ n k).set k (dataE k)=longZ n (k+1):=by
 unfold longZ
 obtain ⟨m,hm⟩:∃ m,n - k=m+1:=⟨n - k - 1,by omega⟩
 rw [hm,show n - (k+1)=m by omega,List.set_append,if_neg (by rw [longE_len];omega),longE_len,Nat.sub_self,List.replicate_succ,List.set_cons_zero,longE_snoc,List.append_assoc]
 rfl
theorem longE_take {n:Nat}:(longE (n+1)).take n=longE n:=by
 rw [longE_snoc]
 exact List.take_left' (longE_len n)
theorem longS_ok:logName longS=true:=by decide +kernel
theorem long_right {n:Nat} (h:n<=8192):∀ x∈longE n,Right x->(frame x).length<=10:=fun x hx _=>by
 obtain ⟨i,hi,rfl⟩:=longE_mem hx
 exact dataE_len (by omega)
theorem long1:(appAll longS 256 ⟨100000,[],[]⟩ [] (longE 4097)).2=(longE 4096,4096,3)/\(appAll longS 256 ⟨100000,[],[]⟩ [] (longE 4097)).1.ok/\LogI (appAll longS 256 ⟨100000,[],[]⟩ [] (longE 4097)).1.files longS 256 (longE 4096)/\usedB (appAll longS 256 ⟨100000,[],[]⟩ [] (longE 4097)).1.files<=40970/\(appAll longS 256 ⟨100000,[],[]⟩ [] (longE 4097)).1.room=100000/\fat (appAll longS 256 ⟨100000,[],[]⟩ [] (longE 4097)).1<=4096/\(appAll longS 256 ⟨100000,[],[]⟩ [] (longE 4097)).1.waits.length<=4096:=by
 have hm:Disk.ok ⟨100000,[],[]⟩:=⟨by decide,by decide,by simp [Rise],nofun,by show ((0:Nat):Int)<=100000;omega⟩
 have hu0:usedB (Disk.files ⟨100000,[],[]⟩)=0:=rfl
 have hf0:fat ⟨100000,[],[]⟩=0:=rfl
 have hw0:List.length (Disk.waits ⟨100000,[],[]⟩)=0:=rfl
 obtain ⟨h1,h2,h3,h4⟩:=app_room (name:=longS) (per:=256) (nameOk_file longS_ok) (c:=10) (longE 4097) ⟨100000,[],[]⟩ [] hm (long_right (by omega)) (by rw [longE_len,hu0];show ((10*4097:Nat):Int)+((0:Nat):Int)<=100000;omega)
 have hI:=(LogI.appAll (name:=longS) (per:=256) (by decide) (longE 4097) ⟨100000,[],[]⟩ [] hm (logI_nil longS 256)).2
 have hn:=app_n longS 256 (longE 4097) ⟨100000,[],[]⟩ []
 rw [longE_len,hu0] at h3
 rw [h1,app_long] at hI hn
 rw [hf0,hw0] at hn
 exact ⟨by rw [h1,app_long],h2,hI,by omega,h4,by have:=hn.2.2.1;simp only at this;omega,by have:=hn.2.2.2;simp only at this;omega⟩
theorem long2 {M:Disk} (hu:usedB M.files<=40970) (hr:M.room=100000):appAll longS 256 M (longE 4096) [dataE 0]=(M,longE 4096,0,3):=by
 have h1:appNo M longS 256 (longE 4096) (dataE 0)=3:=by
  rw [appNo_room (nameOk_file longS_ok) (fun _=>by rw [hr];have:=dataE_len (i:=0) (by decide);omega)]
  unfold noE
  rw [if_neg (fun e=>e (dataE_right (by omega))),if_pos (by rw [longE_len];omega)]
 rw [appAll,h1]
 rfl
set_option maxHeartbeats 4000000 in
theorem seglogLong_ok (w:World):Ret Tryz.prog 4 #[] w (fun v w'=>v=.bool true/\Lk w' w NoB):=by
 have hnz:longS.size=4:=by decide +kernel
 obtain ⟨ls,hls⟩:∃ z,z=longE 4096:=⟨_,rfl⟩
 obtain ⟨lz,hlz⟩:∃ z,z=longE 4097:=⟨_,rfl⟩
 have hlsl:ls.length=4096:=by rw [hls,longE_len]
 have hlzl:lz.length=4097:=by rw [hlz,longE_len]
 have hlzt:lz.take 4096=ls:=by rw [hlz,hls];exact longE_take
 refine ret_of_x (N:=102) (l:=[]) Tryz.func4 rfl rfl (Nat.le_of_ble_eq_true rfl) ?_
 refine xq (xz ?_)
 refine xq ?_
 refine xl_call (new3_ok 100000 w (by decide)) ?_
 rintro _ w1 ⟨⟨d,rfl,hD0,hgd⟩,lk1⟩
 obtain ⟨wa1,hwa1⟩:∃ z,z=w:=⟨_,rfl⟩
 have h1w:w.heap.size<=wa1.heap.size:=by rw [hwa1];exact Ge.le
 rw [<- hwa1] at hD0
 obtain ⟨R0,hR0⟩:∃ R0:Nat->Prop,R0=fun k=>k<wa1.heap.size:=⟨_,rfl⟩
 rw [<- hR0] at hD0
 haveI sF0:SubF (NotP R0) NoB w:=⟨fun k hk e=>e (by rw [hR0];show k<wa1.heap.size;omega)⟩
 refine xm (xl_v v_extract (xl_v v_extract (xa (xz ?_))))
 refine xq (xm ?_)
 refine xl_call (open2_ok' R0 R0 d ⟨100000,[],[]⟩ longS 256 w1 (hD0.ext (kpc:Keep NoB _ w1)) (by omega) (by decide) (by simp)) ?_
 rintro _ w2 ⟨hres,lk2⟩
 rw [if_pos ⟨longS_ok,by decide,by decide⟩] at hres
 obtain ⟨b,L,rfl,hL,p2,p3,p4,p5,p6,p7,p8⟩:=hres
 rw [show (256:Int).toNat=256 from rfl] at hL p3 p5
 rw [open_nil 100000 longS (by decide)] at hL
 rw [show Disk.files ⟨100000,[],[]⟩=[] from rfl,told_nil longS (by decide)] at p5
 obtain ⟨waO,hwaO⟩:∃ z,z=w2:=⟨_,rfl⟩
 have hsO:wa1.heap.size<=waO.heap.size:=by rw [hwa1,hwaO];exact Ge.le
 rw [<- hwaO] at hL
 refine xm (xl_v v_extract (xl_v v_extract (xa (xz ?_))))
 refine xq ?_
 refine xl_e (e_makeSliceM (enc:=enC) 4097 4097 En.zero (by decide) rfl rfl rfl (Nat.le_refl _) (by omega) (by omega) fun g w3 ng lg kg=>?_)
 refine xz ?_
 refine x_seq (xq (xz ?_))
 refine x_block ?_
 obtain ⟨R,hR⟩:∃ R,R=wide R0 waO w3:=⟨_,rfl⟩
 have hL0:LogW R R b L ⟨100000,[],[]⟩ w3:=by rw [hR];exact hL.widen (by rw [hwaO];exact kpc)
 have hgO:waO.heap.size<=g/\g<(w3).heap.size:=⟨by rw [hwaO,ng.eq];exact Ge.le,Has.lt⟩
 have hRg:R g:=by rw [hR];exact .inr hgO
 have hog:World.ownsRow w3 waO.heap.size 51 6 (.slice (some ⟨g,0,none⟩) 4097 4097) 4097 ((longZ 4097 0).flatMap enC):=ownsRow_blk hgO.1 (by rw [longZ_zero];exact Blk.eq) (by rw [flat_len (sz:=6) (fun _=>rfl),longZ_len (by omega)]) (by omega)
 clear kg
 haveI sFR:SubF (NotP R) NoB w:=⟨fun j hj e=>e (by rw [hR];exact .inl (by rw [hR0];show j<wa1.heap.size;omega))⟩
 refine x_loop (fun m τ ds w'=>ds=[]/\∃ k:Nat,m=4097 - k/\k<=4097/\LogW R R b L ⟨100000,[],[]⟩ w'/\w'.ownsRow waO.heap.size 51 6 (.slice (some ⟨g,0,none⟩) 4097 4097) 4097 ((longZ 4097 k).flatMap enC)/\Ev τ 2 (.int .i64 0)/\Ev τ 4 (.int .i64 0)/\Ev τ 3 (ptrV b)/\Ev τ 5 (.slice (some ⟨g,0,none⟩) 4097 4097)/\Ev τ 6 (.int .i64 (k:Int))/\Lk w' w NoB) (4097) ?start ?round
 case start=>
  exact ⟨rfl,0,rfl,by omega,hL0,hog,ii,ii,ii,ii,evc,lkc⟩
 case round=>
  intro m τ4 ds4 w4 hI
  obtain ⟨rfl,k,rfl,hk,hLk,ho,e2,e4,e3,e5,e6,lk⟩:=hI
  haveI:OwnI w4 (some ⟨g,0,none⟩) _ _ _ _ _ _ _:=⟨ho⟩
  haveI:NewA (some ⟨g,0,none⟩) w:=newA_of ho (by omega)
  refine x_seq (xq (xm (xm (xl_v v_len (xl_v v_lss (xl_nil ?_))))))
  refine x_if (fun c1=>?_) (fun c1=>?_)
  ·have hk1:k<4097:=by omega
   refine x_skip (x_seq (x_block (x_regionL (xm (xm (xm ?_))))))
   refine xl_call (data4_ok 1 (k:Int) w4) ?_
   rintro _ w5 ⟨rfl,lkd1⟩
   refine xl_v (v_indexAddr k rfl (by omega) rfl) ?_
   refine xl_s (e_storeOwn (vs:=enC (dataE k)) (own_ext ho (lkc:Lk w5 _ NoB)) (by omega) (by decide) fun w6 l75 ho75=>?_)
   rw [flat_set (enc:=enC) (fun _=>rfl) (longZ 4097 k) k (dataE k) (by rw [longZ_len hk];exact hk1),longZ_set hk1] at ho75
   refine xl_nil ?_
   refine x_regionL (xm ?_)
   refine xl_v (v_add (by omega)) ?_
   refine xz ?_
   refine ⟨_,?_,rfl,k+1,rfl,by omega,hLk.cell (kpc:Keep (OwnB (.slice (some ⟨g,0,none⟩) 4097 4097)) w4 w6) (fun j _ e=>by obtain ⟨a,ha,e2⟩:=ownB_ex e;cases ha;rw [<- e2];exact hRg),ho75,ii,ii,ii,ii,evc,lkc⟩
   omega
  obtain rfl:k=4097:=by omega
  rw [longZ_end,<- hlz] at ho
  have hrz:=own_row ho
  haveI rOg0:RowOut (NotP R) (some ⟨g,0,none⟩):=⟨fun a ha e=>by cases ha;exact e hRg⟩
  haveI:SubF NoB (NotP R) w4:=⟨fun _ _ e=>e.elim⟩
  refine x_exit (xq (xm (xm ?_)))
  refine xl_call (append_ok R R b L ⟨100000,[],[]⟩ (some ⟨g,0,none⟩) 4097 4097 lz w4 (hLk.ext (kpc:Keep NoB w4 w4)) (hrz.keep (kpc:Keep NoB w4 w4) (fun _ _ h=>h)) (fun _ a ha=>by cases ha;exact hRg) hlzl (by omega) (by simp)) ?_
  rintro _ w7 ⟨rfl,⟨L1,hL1,q1,q2,q3,q4,q5⟩,lk3⟩
  obtain ⟨u1,u2,u3,u4,u5,u6,u7⟩:=long1
  rw [p2,p3,p5] at hL1 q1 ⊢
  rw [p2] at q2
  rw [p3] at q3
  rw [<- hls,<- hlz] at u1
  rw [<- hls,<- hlz] at u3
  rw [<- hlz] at u2 u4 u5 u6 u7
  rw [u1] at q1 ⊢
  simp only at q1 ⊢
  clear u1
  generalize (appAll longS 256 ⟨100000,[],[]⟩ [] lz).1=M1 at hL1 u2 u3 u4 u5 u6 u7
  have hl1:=fat_lasts M1
  refine xm (xl_v v_extract (xl_v v_extract (xa (xz ?_))))
  refine xq (xm ?_)
  refine xl_call (lcopy_ok R R b L1 M1 w7 (hL1.ext (kpc:Keep NoB _ w7))) ?_
  rintro _ w8 ⟨⟨b2,L2,Q,rfl,hQ,hLo,c1_,c2_,c3_,c4_⟩,lkC⟩
  obtain ⟨wC,hwC⟩:∃ z,z=w7:=⟨_,rfl⟩
  have hgC:g<wC.heap.size/\w.heap.size<=wC.heap.size:=by rw [hwC];exact ⟨Nat.lt_of_lt_of_le (own_blk ho _ rfl).2 Ge.le,Ge.le⟩
  rw [<- hwC] at hQ
  haveI kb2:Blk w8 b2 (.cells (logC L2).toArray 69 (0,0)):=⟨hQ.log.at_⟩
  obtain ⟨RC,hRC⟩:∃ RC:Nat->Prop,RC=fun k=>k<wC.heap.size\/k=b2\/AB L2.A k:=⟨_,rfl⟩
  have hD2:=hQ.log.disk
  rw [<- hRC] at hD2
  haveI sFC:SubF (NotP RC) NoB w:=⟨fun j hj e=>e (by rw [hRC];exact .inl (by omega))⟩
  haveI rOg:RowOut (NotP RC) (some ⟨g,0,none⟩):=⟨fun a ha e=>by cases ha;exact e (by rw [hRC];exact .inl hgC.1)⟩
  haveI:SubF NoB (NotP RC) w4:=⟨fun _ _ e=>e.elim⟩
  refine xl_call (ldisk_ok b2 L2 w8) ?_
  rintro _ _ ⟨rfl,rfl⟩
  refine xl_call (open2_ok' _ RC L2.d M1 longS 256 w8 (hD2.ext (kpc:Keep NoB _ w8)) (by omega) (by decide) (by omega)) ?_
  rintro _ w10 ⟨hres,lk9⟩
  rw [if_pos ⟨longS_ok,by decide,by decide⟩] at hres
  obtain ⟨b9,L9,rfl,hL9,s2,s3,s4,s5,s6,s7,s8⟩:=hres
  rw [show (256:Int).toNat=256 from rfl] at hL9 s3 s5
  rw [LogI.again u3 (by decide)] at hL9
  rw [u3.told (by decide)] at s5
  obtain ⟨wa9,hwa9⟩:∃ z,z=w10:=⟨_,rfl⟩
  rw [<- hwa9] at hL9
  refine xm (xl_v v_extract (xl_v v_extract (xa (xz ?_))))
  refine xq (xm ?_)
  refine xl_call (data4_ok 1 0 w10) ?_
  rintro _ w11 ⟨rfl,lkd2⟩
  refine xl_e (e_buildSliceM (vs:=[dataE 0].flatMap enC) rfl rfl (by simp [dataE]) fun b50 w12 n50 l50 k50=>?_)
  refine xl_call (append_ok (wide _ wa9 w12) (wide RC wa9 w12) b9 L9 M1 (some ⟨b50,0,none⟩) 1 1 [dataE 0] w12 (hL9.widen (by rw [hwa9];exact kpc)) (row_blk0 k50) (fun _ a ha=>by cases ha;exact .inr ⟨by rw [hwa9,n50.eq];exact Ge.le,Has.lt⟩) rfl (by decide) (by simp;omega)) ?_
  rintro _ w13 ⟨rfl,⟨L10,hL10,t1,t2,t3,t4,t5⟩,lk10⟩
  rw [s2,s3,s5,hls,long2 u4 u5,<- hls] at hL10 t1 ⊢
  simp only at hL10 t1 ⊢
  rw [s2] at t2
  rw [s3] at t3
  haveI rOg2:RowOut (NotP (wide RC wa9 w12)) (some ⟨g,0,none⟩):=⟨fun a ha e=>rOg.out a ha (fun e2=>e (.inl e2))⟩
  haveI kb10:Blk w13 b9 (.cells (logC L10).toArray 69 (0,0)):=⟨hL10.at_⟩
  obtain ⟨P10,hP10⟩:∃ P10:Nat->Prop,LogW P10 (wide RC wa9 w12) b9 L10 M1 w13:=⟨_,hL10⟩
  have hrg:RowP w13 (some ⟨g,0,none⟩) (lz.flatMap enC):=by
   have h9:=own_row (OwnI.own:World.ownsRow w13 _ _ _ (.slice (some ⟨g,0,none⟩) _ 4097) _ _)
   rw [longZ_end,<- hlz] at h9
   exact h9
  have hrg2:RowP w13 (some ⟨g,0,none⟩) (ls.flatMap enC):=by
   have h9:=row_takeE hrg 4096
   rw [hlzt] at h9
   exact h9
  obtain ⟨waZ,hwaZ⟩:∃ z,z=w13:=⟨_,rfl⟩
  rw [<- hwaZ] at hP10 hrg2
  refine xm (xl_v v_extract (xl_v v_extract (xa (xz ?_))))
  refine x_seq ?_
  refine x_drawL (NoB) (allS) (.take 0 (.take 2 (.take 5 (.eff 1 (.eff 3 (.take 4 (.eff 6 (.take 7 (.take 8 (.take 9 (.take 10 (.take 11 (.take 12 (.take 13 (.take 14 (.eff 15 (.take 16 (.take 17 (.take 18 (.take 19 (.eff 20 (.take 21 (.take 22 (.take 23 (.take 24 (.take 25 (.take 26 (.take 27 (.take 28 (.eff 29 (.take 30 (.take 31 (.take 32 (.take 33 (.eff 34 (.take 35 (.take 36 (.take 37 (.take 38 (.take 39 (.take 41 (.take 42 (.eff 40 (.eff 43 (.take 44 (.take 45 (.eff 46 (.take 47 (.take 48 .done))))))))))))))))))))))))))))))))))))))))))))))))) mixed (by kernel_rfl) (fun _ _ _ _ _ h=>h) (fun w14 l14=>?_)
  refine xt_v rfl v_move (xt_v rfl v_move (xt_v rfl v_move ?_))
  refine xt_call rfl (num4_ok _ _) ?_
  rintro _ _ ⟨rfl,rfl⟩
  refine ⟨kpc,?_⟩
  refine xt_call rfl (num4_ok _ _) ?_
  rintro _ _ ⟨rfl,rfl⟩
  refine ⟨kpc,?_⟩
  refine xt_v rfl (v_add (by omega)) ?_
  refine xt_call rfl (num4_ok _ _) ?_
  rintro _ _ ⟨rfl,rfl⟩
  refine ⟨kpc,?_⟩
  refine xt_v rfl (v_add (by omega)) ?_
  refine xt_v rfl (v_congr (u:=.bool true) v_eql (by simp)) ?_
  refine xt_v rfl v_move (xt_gv rfl rfl EvO.eq v_move ?_)
  refine xt_gv rfl rfl EvO.eq (v_congr (u:=.bool true) v_eql (by simp)) ?_
  refine xt_Pk rfl ?_
  refine xt_v rfl v_move (xt_gv rfl rfl EvO.eq v_move ?_)
  refine xt_gcall rfl rfl EvO.eq (num4_ok _ _) ?_
  rintro _ _ ⟨rfl,rfl⟩
  refine ⟨kpc,?_⟩
  refine xt_gv rfl rfl EvO.eq (v_congr (u:=.bool true) v_eql (by simp)) ?_
  refine xt_Pk rfl ?_
  refine xt_v rfl v_move (xt_gv rfl rfl EvO.eq v_move ?_)
  refine xt_gcall rfl rfl EvO.eq (llen_ok b9 L10 w14) ?_
  rintro _ _ ⟨rfl,rfl⟩
  refine ⟨kpc,?_⟩
  refine xt_gv rfl rfl EvO.eq (v_congr (u:=.bool true) v_eql (by rw [t1,hlsl];simp)) ?_
  refine xt_Pk rfl ?_
  refine xt_v rfl v_move (xt_gv rfl rfl EvO.eq v_move ?_)
  refine xt_gv rfl rfl EvO.eq (v_congr (u:=.bool true) v_eql (by simp)) ?_
  refine xt_Pk rfl ?_
  refine xt_v rfl v_move (xt_gv rfl rfl EvO.eq v_move ?_)
  refine xt_gcall rfl rfl EvO.eq (num4_ok _ _) ?_
  rintro _ _ ⟨rfl,rfl⟩
  refine ⟨kpc,?_⟩
  refine xt_gv rfl rfl EvO.eq (v_congr (u:=.bool true) v_eql (by simp)) ?_
  refine xt_Pk rfl ?_
  refine xt_v rfl v_move (xt_gv rfl rfl EvO.eq v_move ?_)
  refine xt_gcall rfl rfl EvO.eq (lfiles_ok P10 _ b9 L10 M1 w14 (hP10.ext (by rw [hwaZ];exact kpc))) ?_
  rintro _ w21 ⟨⟨A88,c88,rfl,ho88⟩,lk34⟩
  refine ⟨kpc,?_⟩
  rw [t2,long_files u2 u3 hlsl] at ho88 ⊢
  refine xt_gv rfl rfl EvO.eq v_len ?_
  refine xt_gv rfl rfl EvO.eq (v_congr (u:=.bool true) v_eql (by simp)) ?_
  refine xt_Pk rfl ?_
  refine xt_v rfl v_move (xt_gv rfl rfl EvO.eq v_move (xt_gv rfl rfl EvO.eq v_move ?_))
  refine xt_gv rfl rfl EvO.eq (v_sliceH 4096 rfl (by omega)) ?_
  refine xt_gcall rfl rfl EvO.eq (lall_ok P10 _ b9 L10 M1 w21 (hP10.ext (by rw [hwaZ];exact kpc))) ?_
  rintro _ w22 ⟨⟨A94,c94,rfl,ho94⟩,lk40⟩
  refine ⟨kpc,?_⟩
  rw [t1,hlsl] at ho94 ⊢
  refine xt_gcall rfl rfl EvO.eq (same_ok (hra0:=⟨own_row (own_ext ho94 (lkc:Lk w22 _ NoB))⟩) (hrb0:=⟨hrg2.keep (show Keep NoB waZ w22 by rw [hwaZ];exact kpc) (fun _ _ h=>h)⟩) A94 4096 c94 ls (some ⟨g,0,none⟩) 4096 4097 ls w22 hlsl hlsl (by omega) (by omega)) ?_
  rintro _ w23 ⟨rfl,lk43⟩
  refine ⟨kpc,?_⟩
  rw [decide_eq_true (rfl:ls=ls)]
  refine xt_Pk rfl ?_
  refine xt_v rfl v_move ?_
  refine xt_gcall rfl rfl EvO.eq (works4_ok w23) ?_
  rintro _ w24 ⟨rfl,lkw⟩
  refine ⟨kpc,?_⟩
  refine xt_Pk rfl ?_
  refine xt_v rfl v_assign (xt_nil ?_)
  refine x_ret ?_
  refine fin1 rfl ?_
  exact ⟨rfl,lkc⟩
end Go.Proofs.YtigmfcgeljjgnaaGreat
