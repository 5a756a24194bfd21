/- A part of the walks through the log and its document, and of the law in plain Lean: HH HI HJ. -/
import Derived.Test.YtigmfcgeljjgnaaGreatDoorJ25
set_option linter.all false
set_option maxRecDepth 100000
set_option synthInstance.maxSize 100000
set_option synthInstance.maxHeartbeats 400000
namespace Go.Proofs.YtigmfcgeljjgnaaGreatDoor
open Go.Wst
open Go.Wst.Dm Go.Wst.Sg
set_option maxHeartbeats 2000000 in
theorem reftruncate_ok (F:Nat->Prop) (r:RLog) (M:Disk) (n:Int) (w:World) (tt:TypeId) (tr:Nat×Nat) [htab:Blk w 0 (.cells tabA tt tr)] (h:RLogW w F r M) (hn:In64 n) (hsure:r.sure<=100000) (hfew:M.lasts.length+M.waits.length+(ownFiles M.files r.name).length<=999990):Ret Tryz.prog 16 #[.agg (rlogC r).toArray,.int .i64 n] w (fun v w'=>(∃ (r':RLog) (F':Nat->Prop) (M':Disk) (no:Int),v=.tuple #[.agg (rlogC r').toArray,.int .i64 no]/\RLogW w' F' r' M'/\r'.name=r.name/\r'.per=r.per/\(∀ k,F' k->F k\/w.heap.size<=k)/\(if n<0\/((Go.Wst.Sg.told M.files r.name r.per).1.length:Int)<n then no=4/\M'=M/\r'.sure=r.sure else no=0/\M'=truncM M r.name r.per (Go.Wst.Sg.told M.files r.name r.per).1 n.toNat/\r'.sure=min r.sure n.toNat))/\Lk w' w NoB):=by
 have hns:=h.size
 have hp1:=h.per1
 have hp2:=h.per2
 have htl:=tolds_len M.files r.name (per:=r.per) hp1
 have htR:=tolds_right M.files r.name (per:=r.per) hp1
 obtain ⟨es,hes⟩:∃ es,es=(Go.Wst.Sg.told M.files r.name r.per).1:=⟨_,rfl⟩
 rw [<- hes] at htl htR ⊢
 refine ret_of_x (N:=67) (l:=[.agg (rlogC r).toArray,.int .i64 n]) Tryz.func16 rfl rfl (Nat.le_of_ble_eq_true rfl) ?_
 refine xq ?_
 refine xl_e (e_box fun b2 w1 nb2 lb2 kb2=>?_)
 refine xl_e (e_alloc fun b4 w2 nb4 lb4 kb4=>?_)
 refine xz ?_
 refine xq (xl_Lb ?_)
 refine xl_call (refall_ok F r M w2 tt tr (h.ext (kpc:Keep NoB w w2))) ?_
 rintro _ w3 ⟨⟨A6,c6,rfl,ho6⟩,lk6⟩
 simp only [<- hes] at ho6 ⊢
 have hb2w:w.heap.size<=b2:=Nat.le_of_eq nb2.eq.symm
 have hb4w:w.heap.size<=b4:=by rw [nb4.eq];exact Ge.le
 have hb2p:b2<(w2).heap.size:=Has.lt
 have hb4p:b4<(w2).heap.size:=Has.lt
 have hFl:=h.at_.lt
 have hcap6:=own_cap ho6
 have hb6:=own_blk ho6
 refine xz ?_
 refine x_seq (xq (xm (xl_v v_lss (xm ?_))))
 refine xl_split 12 (fun g12=>?_) (fun g12=>?_)
 ·have g2:=of_decide_eq_true g12
  refine xl_gs rfl EvO.eq (xl_gs rfl EvO.eq (xl_gs rfl EvO.eq (xl_gs rfl EvO.eq (xl_Pk ?_))))
  refine xl_nil ?_
  refine x_condT ?_
  refine xq (xl_Lb ?_)
  refine xl_s (e_storeA fun w4 l4 k4=>?_)
  refine xz ?_
  refine x_ret ?_
  refine finR (rs:=[.cell 4 38,.tmp 5]) rfl ?_
  refine ⟨⟨r,F,M,4,rfl,⟨h.at_.ext (kpc:Keep NoB w w4),h.s,h.name,h.per1,h.per2⟩,rfl,rfl,fun k e=>.inl e,?_⟩,lkc⟩
  rw [if_pos (by first | exact .inl (by omega) | exact .inr (by omega) | exact .inr (by simp at c1;omega))]
  exact ⟨rfl,rfl,rfl⟩
 have g2:=of_decide_eq_false g12
 refine xl_gv rfl EvO.eq v_move (xl_gv rfl EvO.eq v_move (xl_gv rfl EvO.eq v_len (xl_gv rfl EvO.eq v_gtr (xl_Pk ?_))))
 refine xl_nil ?_
 refine x_if (fun c1=>?_) (fun c1=>?_)
 ·refine xq (xl_Lb ?_)
  refine xl_s (e_storeA fun w5 l5 k5=>?_)
  refine xz ?_
  refine x_ret ?_
  refine finR (rs:=[.cell 4 38,.tmp 5]) rfl ?_
  refine ⟨⟨r,F,M,4,rfl,⟨h.at_.ext (kpc:Keep NoB w w5),h.s,h.name,h.per1,h.per2⟩,rfl,rfl,fun k e=>.inl e,?_⟩,lkc⟩
  rw [if_pos (by first | exact .inl (by omega) | exact .inr (by omega) | exact .inr (by simp at c1;omega))]
  exact ⟨rfl,rfl,rfl⟩
 have hin:0<=n/\n<=(es.length:Int):=by first | omega | (simp at c1;omega)
 obtain ⟨m,rfl⟩:∃ m:Nat,n=(m:Int):=⟨n.toNat,by omega⟩
 have hm:m<=es.length:=by omega
 refine x_skip (xq (xl_Lb ?_))
 refine xm ?_
 refine xl_call (refremove_ok F r M m w3 (h.ext (kpc:Keep NoB w w3)) (by omega) hfew) ?_
 rintro _ w6 ⟨⟨r',F',rfl,hL',q1,q2,q3,hF'⟩,lk4⟩
 obtain ⟨M1,hM1⟩:∃ M1,M1=doAll M ((fallOwn M.files (fromB r.name m)).map rmT):=⟨_,rfl⟩
 rw [<- hM1] at hL'
 have hszR:b2<(w3).heap.size/\b4<(w3).heap.size/\w.heap.size<=(w3).heap.size:=⟨Has.lt,Has.lt,Ge.le⟩
 obtain ⟨wL,hwL⟩:∃ x,x=w3:=⟨_,rfl⟩
 rw [<- hwL] at hszR hF'
 have hM1l:M1.lasts.length+M1.waits.length<=999990:=by
  rw [hM1]
  have h7:=doAll_few ((fallOwn M.files (fromB r.name m)).map rmT) M
  have h8:(fallOwn M.files (fromB r.name m)).length<=(ownFiles M.files r.name).length:=by
   rw [<- fall_filter M.files r.name _ fromB_own]
   refine Nat.le_trans (List.length_filter_le _ _) ?_
   rw [List.length_reverse]
   exact Nat.le_refl _
  rw [List.length_map] at h7
  omega
 obtain ⟨R1,nm1,per1,sure1⟩:=r'
 simp only at q1 q2 q3
 subst q1 q2 q3
 refine xl_s (e_storeA fun w7 l7 k7=>?_)
 refine xl_nil ?_
 have hAt1:RefAt w7 F' R1:=hL'.at_.keep (kpc:Keep (OneB b2) _ w7) (fun j e e2=>by
  have e':j=b2:=e2
  rcases hF' j e with e3 | e3
  ·have:=hFl j e3;omega
  ·omega)
 have hS1:RefS R1 M1:=hL'.s
 have hpe:(RLog.mk R1 r.name r.per r.sure).per=r.per:=rfl
 obtain ⟨bq,hbq⟩:∃ bq,bq=m / r.per:=⟨_,rfl⟩
 have hdm:=Nat.div_mul_le_self m r.per
 have hdl:=Nat.div_le_self m r.per
 rw [<- hbq] at hdm hdl
 refine x_seq ?_
 refine x_drawL (NoB) (allS) (.take 0 (.take 1 (.take 2 (.take 3 (.take 4 (.take 5 (.take 6 (.take 7 .done)))))))) mixed (by kernel_rfl) (fun _ _ _ _ _ h=>h) (fun w8 l8=>?_)
 refine xt_v rfl v_move (xt_Fb rfl ?_)
 refine xt_Lc rfl ?_
 refine xt_v rfl (v_congr (u:=.int .i64 (bq:Int)) (v_quo (by show (r.per:Int)≠0;omega)) (congrArg (Value.int .i64) (by show IntKind.i64.wrap ((m:Int).tdiv (r.per:Int))=_;rw [tdivN,<- hbq];exact wrap_in (by omega) (by omega)))) ?_
 refine xt_Fb rfl ?_
 refine xt_Lc rfl ?_
 refine xt_v rfl (v_congr (u:=.int .i64 ((bq*r.per:Nat):Int)) (v_mul (by show In64 ((bq:Int)*(r.per:Int));rw [<- Int.natCast_mul];omega)) (congrArg (Value.int .i64) (Int.natCast_mul _ _).symm)) ?_
 refine xt_v rfl v_assign (xt_nil ?_)
 refine x_cut (fun τ ds w'=>ds=[]/\(∃ (R2:LRef) (F2:Nat->Prop),RefAt w' F2 R2/\RefS R2 (truncM M r.name r.per es m)/\(∀ j,F2 j->F j\/wL.heap.size<=j)/\Blk w' b2 (.cells (rlogC ⟨R2,r.name,r.per,r.sure⟩).toArray 38 (0,0)))/\Ev τ 1 (.int .i64 (m:Int))/\Ev τ 2 (ptrV b2)/\Ev τ 4 (ptrV b4)/\Blk w' b4 (.cells (rlogC RLogZ).toArray 38 (0,0))/\Lk w' w NoB) ?_ ?_
 ·refine x_seq ?_
  obtain ⟨first,hfirst⟩:∃ x,x=bq*r.per:=⟨_,rfl⟩
  rw [<- hfirst] at hdm ⊢
  have hff:m / r.per*r.per=first:=by rw [hfirst,hbq]
  have hAt6:=hAt1.ext (kpc:Keep NoB _ w8)
  refine x_regionL (xm (xm (xl_v v_gtr (xm ?_))))
  refine xl_split 32 (fun g32=>?_) (fun g32=>?_)
  ·have g6:=of_decide_eq_true g32
   refine xl_gv rfl EvO.eq v_move (xl_gv rfl EvO.eq v_move (xl_gv rfl EvO.eq v_len (xl_gv rfl EvO.eq v_move ?_)))
   refine xl_gFb rfl EvO.eq ?_
   refine xl_gLc rfl EvO.eq ?_
   refine xl_gv rfl EvO.eq (v_add (by omega)) ?_
   refine xl_gv rfl EvO.eq v_min (xl_gv rfl EvO.eq v_lss (xl_Pk ?_))
   refine xl_nil ?_
   refine x_if (fun c2=>?_) (fun c2=>?_)
   ·have g7:first<m/\m<min es.length (first+r.per):=⟨by omega,by omega⟩
    obtain ⟨sl,hsl⟩:∃ sl,sl=(es.take m).drop first:=⟨_,rfl⟩
    have hsll:sl.length=m - first:=by rw [hsl];simp;omega
    have hslR:∀ e∈sl,Right e:=fun e he=>htR e (List.mem_of_mem_take (List.mem_of_mem_drop (by rw [<- hsl];exact he)))
    have hfl:=frames_len hslR
    obtain ⟨As,hAs⟩:∃ As,As=(if c6=first then A6 else A6.map (·.add (first*6))):=⟨_,rfl⟩
    have hro:RowP w8 A6 (es.flatMap enC):=by
     refine (own_row ho6).keep (kpc:Keep (OneB b2) _ w8) (fun a ha e=>?_)
     have e':a.block=b2:=e
     have:=(hb6 a ha).1
     omega
    have hrs:RowP w8 As (sl.flatMap enC):=by
     have h1:=row_take hro (m*6)
     rw [<- flat_take (sz:=6) (fun _=>rfl)] at h1
     have h2:=row_drop (k:=first) (sz:=6) (n:=m) (c:=c6) h1 (by rw [flat_len (sz:=6) (fun _=>rfl)];simp;omega) (by omega)
     rw [<- flat_drop (sz:=6) (fun _=>rfl),<- hsl,<- hAs] at h2
     exact h2
    refine x_drawL (NoB) (allS) (.take 0 (.take 1 (.take 2 (.take 3 (.take 4 (.take 6 (.take 7 (.take 8 (.take 9 (.eff 5 (.eff 10 (.take 11 (.take 12 (.eff 13 (.take 14 (.take 15 (.takeA 16 (.take 17 (.free 18 .done))))))))))))))))))) mixed (by kernel_rfl) (fun _ _ _ _ _ h=>h) (fun w9 l9=>?_)
    refine xt_Fb rfl ?_
    refine xt_Lb rfl ?_
    refine xt_Fb rfl ?_
    refine xt_Lc rfl ?_
    refine xt_v rfl v_move (xt_v rfl v_move (xt_v rfl v_move (xt_v rfl v_move ?_)))
    refine xt_v rfl (v_congr (u:=.slice As sl.length (c6 - first)) (v_sliceLH first m rfl rfl (by omega) (by omega)) (by rw [hAs,hsll])) ?_
    refine xt_call rfl (refFile_ok r.name first w9 tt tr (by omega) (by omega)) ?_
    rintro _ w10 ⟨rfl,lk75⟩
    refine ⟨kpc,?_⟩
    refine xt_call rfl (dframes_ok (hr0:=rowB_of (hrs.keep (kpc:Keep NoB _ w10) (fun _ _ h=>h))) As sl.length (c6 - first) sl w10 rfl (by omega) hslR) ?_
    rintro _ w11 ⟨⟨A10,c10,rfl,ho10⟩,lk710⟩
    refine ⟨kpc,?_⟩
    refine xt_v rfl v_len ?_
    refine xt_v rfl v_build ?_
    refine xt_call rfl (refdo_ok R1 M1 F' ⟨cutT (fileN r.name first) (frames sl).length,none,0⟩ w11 (hAt6.ext (kpc:Keep NoB _ w11)) hS1 (by omega) (fun j v h=>by simp [bytesC] at h) (Nat.le_refl _) (by simp) (.inr (.inl rfl)) (by have:=nameOk_size (nameOk_file h.name first);show (fileN r.name _).size<=_;omega) (by show In64 ((frames sl).length:Int);omega)) ?_
    rintro _ w12 ⟨⟨R2,F2,rfl,hs2,hR2,hF2⟩,lkd⟩
    refine ⟨kpc,?_⟩
    have hszP:wL.heap.size<=(w11).heap.size:=by rw [hwL];exact Ge.le
    refine xt_v rfl v_move (xt_v rfl v_extract ?_)
    refine xt_av rfl v_extract ?_
    refine xt_Fb rfl ?_
    refine xt_fs rfl (e_storeA fun w13 l13 k13=>?_)
    refine xt_nil ?_
    have hF3:∀ j,F2 j->F j\/wL.heap.size<=j:=fun j e=>by
     rcases hF2 j e with e2 | e2 | ⟨e2,_⟩
     ·exact hF' j e2
     ·exact .inr (by omega)
     ·exact absurd rfl e2
    have hnext:∃ (R2:LRef) (F2:Nat->Prop),RefAt w13 F2 R2/\RefS R2 (truncM M r.name r.per es m)/\(∀ j,F2 j->F j\/wL.heap.size<=j)/\Blk w13 b2 (.cells (rlogC ⟨R2,r.name,r.per,r.sure⟩).toArray 38 (0,0)):=by
     refine ⟨R2,F2,hR2.keep (kpc:Keep (OneB b2) _ w13) (fun j e e2=>?_),?_,hF3,ii⟩
     ·have e':j=b2:=e2
      rcases hF3 j e with e3 | e3
      ·have:=hFl j e3;omega
      ·omega
     ·unfold truncM
      rw [hff,if_pos g7,<- hM1,<- hsl]
      exact hs2
    have hno:¬ (first<m/\m<min es.length (first+r.per))->truncM M r.name r.per es m=M1:=fun hh=>by
     unfold truncM
     rw [hff,if_neg hh,hM1]
    exact ⟨rfl,hnext,ii,ii,ii,ii,lkc⟩
   refine x_skip ?_
   have hno:¬ (first<m/\m<min es.length (first+r.per))->truncM M r.name r.per es m=M1:=fun hh=>by
    unfold truncM
    rw [hff,if_neg hh,hM1]
   first
    | exact ⟨rfl,hnext,ii,ii,ii,ii,lkc⟩
    | exact ⟨rfl,⟨R1,F',hAt6,by rw [hno (by omega)];exact hS1,hF',ii⟩,ii,ii,ii,ii,lkc⟩
  have g6:=of_decide_eq_false g32
  refine xl_gs rfl EvO.eq (xl_gs rfl EvO.eq (xl_gs rfl EvO.eq (xl_gs rfl EvO.eq (xl_gs rfl EvO.eq (xl_gs rfl EvO.eq (xl_gs rfl EvO.eq (xl_gs rfl EvO.eq (xl_gs rfl EvO.eq (xl_Pk ?_)))))))))
  refine xl_nil ?_
  refine x_condF ?_
  refine x_skip ?_
  have hno:¬ (first<m/\m<min es.length (first+r.per))->truncM M r.name r.per es m=M1:=fun hh=>by
   unfold truncM
   rw [hff,if_neg hh,hM1]
  first
   | exact ⟨rfl,hnext,ii,ii,ii,ii,lkc⟩
   | exact ⟨rfl,⟨R1,F',hAt6,by rw [hno (by omega)];exact hS1,hF',ii⟩,ii,ii,ii,ii,lkc⟩
 intro τ14 ds14 w14 hI
 obtain ⟨rfl,⟨R2,F2,hAt2,hS2,hF2,kb22⟩,e1,e2,e4,kb42,lk8⟩:=hI
 refine xq (xl_Fb ?_)
 refine xl_Lc ?_
 refine xm ?_
 refine xl_v (v_congr (u:=.int .i64 ((min r.sure m:Nat):Int)) v_min (congrArg (Value.int .i64) (by show min (r.sure:Int) (m:Int)=_;omega))) ?_
 refine xl_Fb ?_
 refine xl_s (e_store fun w15 l15 k15=>?_)
 refine xl_nil ?_
 refine xq (xl_Lb ?_)
 refine xl_s (e_storeA fun w16 l16 k16=>?_)
 refine xz ?_
 refine x_ret ?_
 refine finR (rs:=[.cell 4 38,.tmp 5]) rfl ?_
 refine ⟨⟨⟨R2,r.name,r.per,min r.sure m⟩,F2,truncM M r.name r.per es m,0,rfl,⟨hAt2.keep (kpc:Keep (fun j=>OneB b2 j\/OneB b4 j) _ w16) (fun j e e2=>?_),hS2,h.name,h.per1,h.per2⟩,rfl,rfl,fun j e=>(hF2 j e).imp id (fun e=>by omega),?_⟩,lkc⟩
 ·have e':j=b2\/j=b4:=e2
  rcases hF2 j e with e3 | e3
  ·have:=hFl j e3;omega
  ·omega
 ·rw [if_neg (by omega),Int.toNat_natCast]
  exact ⟨rfl,rfl,rfl⟩
theorem num4_ok (e:Int) (w:World):Ret Tryz.prog 18 #[.int .i64 e] w (fun v w'=>v=.int .i64 e/\w=w'):=by
 refine ret_of_x (N:=4) (l:=[.int .i64 e]) Tryz.func18 rfl rfl (Nat.le_of_ble_eq_true rfl) ?_
 refine xq (xz ?_)
 refine xq (xm (xz ?_))
 refine x_ret ?_
 refine fin1 rfl ?_
 exact ⟨rfl,rfl⟩
theorem data4_ok (e x:Int) (w:World):Ret Tryz.prog 39 #[.int .i64 e,.int .i64 x] w (fun v w'=>v=.agg (enC ⟨e,-1,0,0,1,x⟩).toArray/\Lk w' w NoB):=by
 refine ret_of_x (N:=8) (l:=[.int .i64 e,.int .i64 x]) Tryz.func39 rfl rfl (Nat.le_of_ble_eq_true rfl) ?_
 refine xq ?_
 refine xl_e (e_alloc fun b4 w1 nb4 lb4 kb4=>?_)
 refine xl_nil ?_
 refine xq (xm (xm (xl_v v_build ?_)))
 refine xl_s (e_storeA fun w2 l2 k2=>?_)
 refine xl_nil ?_
 refine x_ret ?_
 refine finR (rs:=[.cell 4 84]) rfl ?_
 exact ⟨rfl,lkc⟩
theorem right4_ok (room per:Int) (w:World):Ret Tryz.prog 25 #[.int .i64 room,.int .i64 per] w (fun v w'=>v=.bool (decide (1<=room/\room<=100000/\1<=per/\per<=256))/\w=w'):=by
 refine ret_of_x (N:=19) (l:=[.int .i64 room,.int .i64 per]) Tryz.func25 rfl rfl (Nat.le_of_ble_eq_true rfl) ?_
 refine xq (xz ?_)
 refine xq (xm (xl_v v_geq (xm ?_)))
 refine xl_split 7 (fun g7=>?_) (fun g7=>?_)
 ·refine xl_gv rfl EvO.eq v_move (xl_gv rfl EvO.eq v_leq (xl_Pk ?_))
  refine xm ?_
  refine xl_split 11 (fun g11=>?_) (fun g11=>?_)
  ·refine xl_gv rfl EvO.eq v_move (xl_gv rfl EvO.eq v_geq (xl_Pk ?_))
   refine xm ?_
   refine xl_split 15 (fun g15=>?_) (fun g15=>?_)
   ·refine xl_gv rfl EvO.eq v_move (xl_gv rfl EvO.eq v_leq (xl_Pk ?_))
    refine xz ?_
    refine x_ret ?_
    refine fin1 rfl ?_
    refine ⟨congrArg Value.bool ?_,rfl⟩
    (simp_all;done)
   refine xl_gs rfl EvO.eq (xl_gs rfl EvO.eq (xl_Pk ?_))
   refine xz ?_
   refine x_ret ?_
   refine fin1 rfl ?_
   refine ⟨congrArg Value.bool ?_,rfl⟩
   first | (simp_all;done) | (simp_all;omega) | (simp_all;intros;omega)
  refine xl_gs rfl EvO.eq (xl_gs rfl EvO.eq (xl_Pk ?_))
  refine xm (xl_gs rfl EvO.eq (xl_gs rfl EvO.eq (xl_Pk ?_)))
  refine xz ?_
  refine x_ret ?_
  refine fin1 rfl ?_
  refine ⟨congrArg Value.bool ?_,rfl⟩
  first | (simp_all;done) | (simp_all;omega) | (simp_all;intros;omega)
 refine xl_gs rfl EvO.eq (xl_gs rfl EvO.eq (xl_Pk ?_))
 refine xm (xl_gs rfl EvO.eq (xl_gs rfl EvO.eq (xl_Pk ?_)))
 refine xm (xl_gs rfl EvO.eq (xl_gs rfl EvO.eq (xl_Pk ?_)))
 refine xz ?_
 refine x_ret ?_
 refine fin1 rfl ?_
 refine ⟨congrArg Value.bool ?_,rfl⟩
 first | (simp_all;done) | (simp_all;omega) | (simp_all;intros;omega)
theorem files4_ok (P R:Nat->Prop) (d:Nat) (M:Disk) (w:World) (h:DiskW P R d M w):Ret Tryz.prog 83 #[.pointer (some ⟨d,0,none⟩)] w (fun v w'=>(∃ (A:Option Addr) (c:Nat) (l:List (ByteArray×LB)) (F:Nat->Prop),v=.slice A l.length c/\fsP l=M.files/\FsRow w' F A l/\∀ k,F k->w.heap.size<=k)/\Lk w' w NoB):=by
 obtain ⟨hok0,hfew0⟩:=h.ok
 have hfl:=files_len hfew0
 refine ret_of_x (N:=38) (l:=[.pointer (some ⟨d,0,none⟩)]) Tryz.func83 rfl rfl (Nat.le_of_ble_eq_true rfl) ?_
 refine xq (xz ?_)
 refine xq (xz ?_)
 refine xq (xm ?_)
 refine xl_call (names_ok P R d M w (h.ext (kpc:Keep NoB w w))) ?_
 rintro _ w1 ⟨⟨A4,c4,rfl,ho4⟩,lk1⟩
 refine xz ?_
 refine x_seq (xq (xz ?_))
 refine x_block ?_
 have ho4':=own_ext ho4 (lkc:Lk w1 _ NoB)
 have hr4:Row w1 A4 (strs (M.files.map (·.1))):=⟨(FRow.of_own ho4').row⟩
 have hA4l:=own_blk ho4'
 have hgL:=(Ge.le:w.heap.size<=(w1).heap.size)
 refine x_loop (fun m τ ds w'=>ds=[]/\∃ (k:Nat) (q:List (ByteArray×LB)) (A7:Option Addr) (c7:Nat) (F:Nat->Prop),m=M.files.length - k/\k<=M.files.length/\fsP q=M.files.take k/\w'.ownsRow (w1).heap.size 125 2 (.slice A7 q.length c7) q.length (q.flatMap fileC)/\(∀ p∈q,FRow w' F p.2.A (bytesC p.2.bytes)/\p.2.bytes.length<=p.2.c)/\(∀ j,F j->j<w'.heap.size/\(w1).heap.size<=j/\∀ a,A7=some a->a.block≠j)/\Ev τ 0 (.pointer (some ⟨d,0,none⟩))/\Ev τ 3 (.slice A7 q.length c7)/\Ev τ 4 (.slice A4 M.files.length c4)/\Ev τ 5 (.int .i64 (k:Int))/\Lk w' w1 NoB) (M.files.length) ?start ?round
 case start=>
  exact ⟨rfl,0,[],none,0,NoB,rfl,by omega,rfl,World.ownsRow_nil _ _ _ _,nofun,fun j e=>e.elim,ii,ii,ii,evc,lkc⟩
 case round=>
  intro m τ2 ds2 w2 hI
  obtain ⟨rfl,k,q,A7,c7,F,rfl,hk,hq,ho7,hrw,hF,e0,e3,e4,e5,lk⟩:=hI
  haveI:OwnI w2 A7 _ _ _ _ _ _ _:=⟨ho7⟩
  haveI:=newA_of ho7 (Nat.le_refl _)
  haveI hr4w:Row w2 A4 (strs (M.files.map (·.1))):=⟨hr4.row.keep lk.keep (fun _ _ h=>h)⟩
  have hLB:=lk.keep.size
  have hql:q.length=k:=by
   have:=congrArg List.length hq
   rw [fsP_len,List.length_take] at this
   omega
  have hDk:DiskW P R d M w2:=h.ext (kpc:Keep NoB w w2)
  refine x_seq (xq (xm (xm (xl_v v_len (xl_v v_lss (xl_nil ?_))))))
  refine x_if (fun c1=>?_) (fun c1=>?_)
  ·have hk1:k<M.files.length:=by omega
   obtain ⟨hrn,hrb⟩:=file_read hok0 hk1
   refine x_skip (x_seq (x_block (xq (xm (xm (xm ?_))))))
   refine xl_v (v_indexAddr k rfl (by omega) (row_some hr4w (by simp [strs];omega))) ?_
   refine xl_v (v_loadR (v:=.string M.files[k].1) (by rw [Nat.mul_one];simp [hk1])) ?_
   refine xl_call (read_ok P R d M M.files[k].1 w2 (hDk.ext (kpc:Keep NoB w2 w2))) ?_
   rintro _ w3 ⟨⟨A9,c9,rfl,ho9⟩,lk9⟩
   rw [hrb] at ho9 ⊢
   rw [hrn]
   have hcap9:=own_cap ho9
   haveI:NewA A9 w2:=newA_of ho9 (Nat.le_refl _)
   haveI:OwnI w3 A9 _ _ _ _ _ _ _:=⟨ho9⟩
   have hszp:=(Ge.le:(w2).heap.size<=(w2).heap.size)
   refine xm (xl_v v_extract (xl_v v_extract (xa (xz ?_))))
   refine xq (xm ?_)
   refine xl_call (num4_ok _ _) ?_
   rintro _ _ ⟨rfl,rfl⟩
   refine xl_v (v_congr (u:=.bool true) v_eql (by simp)) ?_
   refine xl_nil ?_
   refine x_condT ?_
   refine x_regionL (xm (xm (xm ?_)))
   refine xl_v (v_indexAddr k rfl (by omega) (row_some hr4w (by simp [strs];omega))) ?_
   refine xl_v (v_loadR (v:=.string M.files[k].1) (by rw [Nat.mul_one];simp [hk1])) ?_
   refine xm (xl_v v_build ?_)
   refine xl_e (e_buildSlice1 rfl fun b5 w5 n5 l5 k5=>?_)
   have hsA:=(Ge.le:(w2).heap.size<=(w5).heap.size)
   have ho9a:=own_blk (OwnI.own:World.ownsRow w5 _ _ _ (.slice A9 _ c9) _ _)
   refine xl_e (e_app (by simp) (by decide) (by omega) (by omega) Ge.le fun A8 c8 w6 ox lx ax fx=>?_)
   have hkA:Keep (OwnB (.slice A7 q.length c7)) w2 w6:=kpc
   have hr9:RowP w6 A9 (bytesC M.files[k].2):=(ii:Row w6 A9 (bytesC M.files[k].2)).row
   have ho9w:=(OwnI.own:World.ownsRow w6 _ _ _ (.slice A9 _ c9) _ _)
   have hszx:=lx.keep.size
   refine xz ?_
   refine x_regionL (xm ?_)
   refine xl_v (v_add (by omega)) ?_
   refine xz ?_
   refine ⟨_,?_,rfl,k+1,q++[(M.files[k].1,⟨M.files[k].2,A9,c9⟩)],A8,c8,fun j=>F j\/(∃ a,A9=some a/\a.block=j),rfl,by omega,?_,?_,?_,?_,ii,evc (by simp),ii,evc,lkc⟩
   ·omega
   ·rw [List.take_succ_eq_append_getElem hk1,<- hq]
    simp [fsP]
   ·have:=own_ext ox.own (lkc:Lk w6 _ NoB)
    simpa using this
   ·intro p hp
    rcases List.mem_append.1 hp with hp | hp
    ·obtain ⟨g1,g2⟩:=hrw p hp
     exact ⟨(g1.keep hkA (fun j e e2=>by obtain ⟨a,ha,e3⟩:=ownB_ex e2;exact (hF j e).2.2 a ha e3)).mono (fun j e=>.inl e),g2⟩
    ·have e:p=(M.files[k].1,⟨M.files[k].2,A9,c9⟩):=by simpa using hp
     subst e
     exact ⟨⟨hr9,fun a ha=>.inr ⟨a,ha,rfl⟩⟩,hcap9⟩
   ·rintro j (e | ⟨a,ha,e⟩)
    ·obtain ⟨g1,g2,g3⟩:=hF j e
     refine ⟨Nat.lt_of_lt_of_le g1 hkA.size,g2,fun b hb e4=>?_⟩
     rcases fx.or b hb with ⟨c,hc,e5⟩ | e5
     ·exact g3 c hc (by omega)
     ·omega
    ·have g1:=own_blk ho9w a ha
     have g2:=ho9a a ha
     refine ⟨by omega,by omega,fun b hb e4=>?_⟩
     rcases fx.or b hb with ⟨c,hc,e5⟩ | e5
     ·have:=(own_blk ho7 c hc).2;omega
     ·omega
  refine x_exit (xq (xm (xz ?_)))
  refine x_ret ?_
  refine fin1 rfl ?_
  have hkn:k=M.files.length:=by omega
  refine ⟨⟨A7,c7,q,fun j=>F j\/∃ a,A7=some a/\a.block=j,rfl,by rw [hq,List.take_of_length_le (by omega)],⟨⟨(FRow.of_own ho7).row,fun a ha=>.inr ⟨a,ha,rfl⟩⟩,fun p hp=>((hrw p hp).1).mono (fun j e=>.inl e),fun p hp=>(hrw p hp).2,fun j e=>?_⟩,fun j e=>?_⟩,lkc⟩
  ·rcases e with e | ⟨a,ha,e⟩
   ·exact (hF j e).1
   ·have:=(own_blk ho7 a ha).2;omega
  ·rcases e with e | ⟨a,ha,e⟩
   ·have:=(hF j e).2.1;omega
   ·have:=(own_blk ho7 a ha).1;omega
theorem disks4_ok (P R:Nat->Prop) (d:Nat) (M:Disk) (Rf:LRef) (F:Nat->Prop) (w:World) (h:DiskW P R d M w) (hR:RefAt w F Rf) (hs:RefS Rf M):Ret Tryz.prog 34 #[ptrV d,.agg (refC Rf).toArray] w (fun v w'=>v=.bool true/\Lk w' w NoB):=by
 have hwl:=hs.len
 have hfl:=files_len hs.few
 have hfl8:Rf.lasts.length<=1000000:=by rw [<- fsP_len,hs.lasts];have:=hs.few;omega
 refine ret_of_x (N:=38) (l:=[ptrV d,.agg (refC Rf).toArray]) Tryz.func34 rfl rfl (Nat.le_of_ble_eq_true rfl) ?_
 refine xq ?_
 refine xl_e (e_box fun b1 w1 n1 l1 k1=>?_)
 refine xz ?_
 refine xq (xm (xl_v v_build ?_))
 refine xl_call (crash_ok P R d M 0 0 w1 (h.ext (kpc:Keep NoB w w1)) ⟨by decide,by decide⟩ ⟨by decide,by decide⟩) ?_
 rintro _ w2 ⟨⟨x,rfl,hX,hgx⟩,lk1⟩
 refine xm (xl_v v_extract (xl_v v_extract (xa (xz ?_))))
 refine x_seq ?_
 refine x_drawL (NoB) (allS) (.take 0 (.eff 1 (.take 2 (.take 3 (.take 4 (.take 6 (.eff 5 (.eff 7 (.eff 8 (.take 9 (.take 10 (.take 11 (.take 13 (.take 14 (.eff 12 (.eff 15 (.take 16 (.take 17 (.take 18 (.take 20 (.take 21 (.take 22 (.eff 19 (.take 23 (.take 24 (.take 25 .done)))))))))))))))))))))))))) mixed (by kernel_rfl) (fun _ _ _ _ _ h=>h) (fun w3 l3=>?_)
 refine xt_v rfl v_move ?_
 refine xt_call rfl (num4_ok _ _) ?_
 rintro _ _ ⟨rfl,rfl⟩
 refine ⟨kpc,?_⟩
 refine xt_v rfl (v_congr (u:=.bool true) v_eql (by simp)) ?_
 refine xt_v rfl v_move (xt_gv rfl rfl EvO.eq v_move ?_)
 refine xt_gLb rfl rfl EvO.eq ?_
 refine xt_gcall rfl rfl EvO.eq (files4_ok P R d M w3 (h.ext (kpc:Keep NoB w w3))) ?_
 rintro _ w5 ⟨⟨A9,c9,q9,F9,rfl,hf9,hr9,hF9⟩,lk2⟩
 refine ⟨kpc,?_⟩
 have hq9:q9.length<=1000000:=by rw [<- fsP_len,hf9];exact hfl
 refine xt_gcall rfl rfl EvO.eq (reffiles_ok Rf M F w5 (hR.ext (kpc:Keep NoB w w5)) hs) ?_
 rintro _ w6 ⟨⟨A6,c6,q6,F6,rfl,hf6,hr6,hF6⟩,lk3⟩
 refine ⟨kpc,?_⟩
 have hq6:q6.length<=1000000:=by rw [<- fsP_len,hf6];exact hfl
 refine xt_gcall rfl rfl EvO.eq (sameFiles_ok A9 A6 c9 c6 q9 q6 F9 F6 w6 (hr9.ext (kpc:Keep NoB _ w6)) (hr6.ext (kpc:Keep NoB _ w6)) (by omega) (by omega)) ?_
 rintro _ w7 ⟨rfl,lk4⟩
 refine ⟨kpc,?_⟩
 rw [decide_eq_true (show fsP q9=fsP q6 by rw [hf9,hf6])]
 refine xt_Pk rfl ?_
 refine xt_v rfl v_move (xt_gv rfl rfl EvO.eq v_move ?_)
 refine xt_gFb rfl rfl EvO.eq ?_
 refine xt_gLc rfl rfl EvO.eq ?_
 refine xt_gcall rfl rfl EvO.eq (files4_ok P _ x (M.crash 0 0) w7 (hX.ext (kpc:Keep NoB _ w7))) ?_
 rintro _ w8 ⟨⟨A21,c21,q21,F21,rfl,hf21,hr21,hF21⟩,lk5⟩
 refine ⟨kpc,?_⟩
 have hq21:q21.length<=1000000:=by rw [<- fsP_len,hf21];exact files_len hX.ok.2
 refine xt_gcall rfl rfl EvO.eq (sameFiles_ok A21 Rf.A c21 Rf.c q21 Rf.lasts F21 F w8 (hr21.ext (kpc:Keep NoB _ w8)) (hR.lasts.ext (kpc:Keep NoB w w8)) (by omega) (by omega)) ?_
 rintro _ w9 ⟨rfl,lk6⟩
 refine ⟨kpc,?_⟩
 rw [decide_eq_true (show fsP q21=fsP Rf.lasts by rw [hf21,crash_files,crash_none,hs.lasts])]
 refine xt_Pk rfl ?_
 refine xt_v rfl v_move (xt_gv rfl rfl EvO.eq v_move ?_)
 refine xt_gFb rfl rfl EvO.eq ?_
 refine xt_gLc rfl rfl EvO.eq ?_
 refine xt_gv rfl rfl EvO.eq v_len ?_
 refine xt_gcall rfl rfl EvO.eq (waits_ok P R d M w9 (h.ext (kpc:Keep NoB w w9))) ?_
 rintro _ w10 ⟨rfl,lk7⟩
 refine ⟨kpc,?_⟩
 refine xt_gv rfl rfl EvO.eq (v_congr (u:=.bool true) v_eql (by simp [hwl])) ?_
 refine xt_Pk rfl ?_
 refine xt_v rfl v_assign (xt_nil ?_)
 refine x_ret ?_
 refine fin1 rfl ?_
 exact ⟨rfl,lkc⟩
theorem sameS_ok (A B:Option Addr) (n c n' c':Nat) (xs ys:List ByteArray) (w:World) (hxr:RowP w A (strs xs)) (hyr:RowP w B (strs ys)) (hl:xs.length=n) (hl':ys.length=n') (hn:n<=1000000) (hn':n'<=1000000):Ret Tryz.prog 22 #[.slice A n c,.slice B n' c'] w (fun v w'=>v=.bool (decide (xs=ys))/\Lk w' w NoB):=by
 refine ret_of_x (N:=26) (l:=[.slice A n c,.slice B n' c']) Tryz.func22 rfl rfl (Nat.le_of_ble_eq_true rfl) ?_
 refine xq (xz ?_)
 refine x_seq (xq (xm (xl_v v_len (xm (xl_v v_len (xl_v v_neq (xl_nil ?_)))))))
 refine x_if (fun c1=>?_) (fun c1=>?_)
 ·refine xq (xz ?_)
  refine x_ret ?_
  refine fin1 rfl ?_
  refine ⟨congrArg Value.bool (Eq.symm (decide_eq_false fun e=>?_)),lkc⟩
  subst e
  omega
 have hnn:n=n':=by first | omega | (simp at c1;omega)
 refine x_skip (x_seq (xq (xz ?_)))
 refine x_block ?_
 refine x_loop (fun t τ ds w'=>ds=[]/\∃ k:Nat,t=n - k/\k<=n/\xs.take k=ys.take k/\Ev τ 0 (.slice A n c)/\Ev τ 1 (.slice B n' c')/\Ev τ 5 (.int .i64 (k:Int))/\Lk w' w NoB) (n) ?start ?round
 case start=>
  exact ⟨rfl,0,rfl,Nat.zero_le _,by simp,ii,ii,evc,lkc⟩
 case round=>
  intro m τ1 ds1 w1 hI
  obtain ⟨rfl,k,rfl,hk,heq,e0,e1,e5,lk⟩:=hI
  haveI hxw:Row w1 A (strs xs):=⟨hxr.keep lk.keep (fun _ _ h=>h)⟩
  haveI hyw:Row w1 B (strs ys):=⟨hyr.keep lk.keep (fun _ _ h=>h)⟩
  refine x_seq (xq (xm (xm (xl_v v_len (xl_v v_lss (xl_nil ?_))))))
  refine x_if (fun c2=>?_) (fun c2=>?_)
  ·have hk1:k<xs.length:=by omega
   have hk2:k<ys.length:=by omega
   refine x_skip (x_seq (x_block (x_seq ?_)))
   refine x_drawL (NoB) (allS) (.take 0 (.take 1 (.take 2 (.take 3 (.take 4 (.take 5 (.take 6 (.take 7 (.take 8 .done))))))))) mixed (by kernel_rfl) (fun _ _ _ _ _ h=>h) (fun w2 l2=>?_)
   refine xt_v rfl v_move (xt_v rfl v_move ?_)
   refine xt_v rfl (v_indexAddr k rfl (by omega) (row_some hxw (by simp [strs];omega))) ?_
   refine xt_v rfl (v_loadR (v:=.string xs[k]) (by rw [Nat.mul_one];simp [hk1])) ?_
   refine xt_v rfl v_move (xt_v rfl v_move ?_)
   refine xt_v rfl (v_indexAddr k rfl (by omega) (row_some hyw (by simp [strs];omega))) ?_
   refine xt_v rfl (v_loadR (v:=.string ys[k]) (by rw [Nat.mul_one];simp [hk2])) ?_
   refine xt_v rfl v_sneq ?_
   refine xt_nil ?_
   refine x_if (fun c3=>?_) (fun c3=>?_)
   ·refine xq (xz ?_)
    refine x_ret ?_
    refine fin1 rfl ?_
    refine ⟨congrArg Value.bool (Eq.symm (decide_eq_false fun e=>?_)),lkc⟩
    subst e
    simp at c3
   refine x_skip (x_regionL (xm ?_))
   refine xl_v (v_add (by omega)) ?_
   refine xz ?_
   refine ⟨_,?_,rfl,k+1,rfl,by omega,?_,ii,ii,evc,lkc⟩
   ·omega
   ·rw [take_snoc xs k hk1,take_snoc ys k hk2,heq]
    have e9:xs[k]=ys[k]:=by first | exact c3 | simpa using c3
    rw [e9]
  refine x_exit (xq (xz ?_))
  refine x_ret ?_
  refine fin1 rfl ?_
  have hkn:k=n:=by omega
  rw [List.take_of_length_le (by omega),List.take_of_length_le (by omega)] at heq
  exact ⟨congrArg Value.bool (decide_eq_true heq).symm,lkc⟩
theorem doneL_less (t:Thing) (h:t.what≠0):∀ (l:Fs) (there:Bool),(doneL t l there).length<=l.length
 | [],there=>by rw [doneL,if_neg (fun e=>h e.2)];simp
 | f :: l,there=>by
   rw [doneL,List.length_append,List.length_append,if_neg (fun e=>h e.2.1)]
   have h1:=doneL_less t h l (there || decide (t.what=0/\blt t.name f.1) || decide (f.1=t.name))
   have h2:(if f.1=t.name then t.of f else [f]).length<=1:=by
    split
    ·exact of_len t f
    ·simp
   simp only [List.length_nil,List.length_cons]
   omega
def puts (ts:List Thing):Nat:=(ts.filter (fun t=>decide (t.what=0))).length
theorem puts_cons (t:Thing) (ts:List Thing):puts (t :: ts)=(if t.what=0 then 1 else 0)+puts ts:=by
 unfold puts
 rw [List.filter_cons]
 by_cases h:t.what=0
 ·simp [h];omega
 ·simp [h]
theorem puts_app (a b:List Thing):puts (a++b)=puts a+puts b:=by simp [puts]
theorem fold_less:∀ (ts:List Thing) (l:Fs),(ts.foldl Dm.done l).length<=l.length+puts ts
 | [],l=>by simp
 | t :: ts,l=>by
   have h1:=fold_less ts (Dm.done l t)
   rw [puts_cons]
   simp only [List.foldl_cons]
   by_cases h:t.what=0
   ·have h2:=done_len l t
    rw [if_pos h]
    omega
   ·have h2:(Dm.done l t).length<=l.length:=doneL_less t h l false
    rw [if_neg h]
    omega
def fat (M:Disk):Nat:=M.lasts.length+puts M.waits
theorem fat_files (M:Disk):M.files.length<=fat M:=fold_less _ _
theorem fat_lasts (M:Disk):M.lasts.length<=fat M:=Nat.le_add_right _ _
theorem fat_does (M:Disk) (t:Thing):fat (M.does t)<=fat M+(if t.what=0 then 1 else 0)/\(M.does t).waits.length<=M.waits.length+1:=by
 unfold Disk.does
 split
 ·unfold fat
  simp only [puts_app,puts_cons,List.length_append,List.length_singleton]
  simp [puts]
  omega
 ·omega
theorem fat_does0 (M:Disk) {t:Thing} (h:t.what≠0):fat (M.does t)<=fat M:=by
 have:=(fat_does M t).1
 rw [if_neg h] at this
 omega
theorem fat_doAll:∀ (ts:List Thing) (M:Disk),(∀ t∈ts,t.what≠0)->fat (doAll M ts)<=fat M/\(doAll M ts).waits.length<=M.waits.length+ts.length
 | [],M,_=>⟨Nat.le_refl _,Nat.le_refl _⟩
 | t :: ts,M,h=>by
   have h1:=fat_doAll ts (M.does t) (fun u hu=>h u (List.mem_cons_of_mem _ hu))
   have h2:=fat_does0 M (h t List.mem_cons_self)
   have h3:=(fat_does M t).2
   show fat (doAll (M.does t) ts)<=_/\(doAll (M.does t) ts).waits.length<=_
   rw [List.length_cons]
   omega
theorem fat_flush (M:Disk):fat M.flush<=fat M/\M.flush.waits=[]:=⟨fat_files M,rfl⟩
theorem puts_take (ts:List Thing) (k:Nat):puts (ts.take k)<=puts ts:=by
 conv=>rhs;rw [<- List.take_append_drop k ts,puts_app]
 omega
theorem fat_crash (M:Disk) (keep torn:Int):fat (M.crash keep torn)<=fat M/\(M.crash keep torn).waits=[]:=by
 have h1:=fold_less (M.waits.take (pickN keep M.waits.length)) M.lasts
 have h2:=puts_take M.waits (pickN keep M.waits.length)
 unfold Disk.crash
 dsimp only
 split
 ·exact ⟨by unfold fat;simp only [puts,List.filter_nil,List.length_nil];simp only [puts] at h1 h2;omega,rfl⟩
 ·next t ht=>
  split
  ·next hh=>
   refine ⟨?_,rfl⟩
   have h3:=done_len ((M.waits.take (pickN keep M.waits.length)).foldl Dm.done M.lasts) (tornT t (pickN torn t.bytes.length))
   have h4:puts (M.waits.take (pickN keep M.waits.length))+1<=puts M.waits:=by
    obtain ⟨hk,e⟩:=List.getElem?_eq_some_iff.1 ht
    conv=>rhs;rw [<- List.take_append_drop (pickN keep M.waits.length) M.waits,puts_app,List.drop_eq_getElem_cons hk,puts_cons,e,if_pos hh.1]
    omega
   unfold fat
   simp only [puts,List.filter_nil,List.length_nil]
   simp only [puts] at h1 h2 h4
   omega
  ·exact ⟨by unfold fat;simp only [puts,List.filter_nil,List.length_nil];simp only [puts] at h1 h2;omega,rfl⟩
theorem app_n (name:ByteArray) (per:Nat):∀ (xs:List En) (M:Disk) (es:List En),(appAll name per M es xs).2.1.length=es.length+(appAll name per M es xs).2.2.1/\(appAll name per M es xs).2.2.1<=xs.length/\fat (appAll name per M es xs).1<=fat M+(appAll name per M es xs).2.2.1/\(appAll name per M es xs).1.waits.length<=M.waits.length+(appAll name per M es xs).2.2.1
 | [],M,es=>⟨rfl,Nat.le_refl _,Nat.le_refl _,Nat.le_refl _⟩
 | x :: xs,M,es=>by
   rw [Sg.appAll]
   split
   ·obtain ⟨h1,h2,h3,h4⟩:=app_n name per xs (M.does (putT name per es.length x)) (es++[x])
    have h5:=fat_does M (putT name per es.length x)
    rw [if_pos rfl] at h5
    rw [List.length_append,List.length_singleton] at h1
    rw [List.length_cons]
    dsimp only
    omega
   ·exact ⟨rfl,Nat.zero_le _,Nat.le_refl _,Nat.le_refl _⟩
theorem nodup_le {α:Type}:∀ (l l':List α),l.Nodup->(∀ a∈l,a∈l')->l.length<=l'.length
 | [],l',_,_=>Nat.zero_le _
 | a :: l,l',hn,h=>by
   obtain ⟨s,t,rfl⟩:=List.append_of_mem (h a List.mem_cons_self)
   rw [List.nodup_cons] at hn
   have ih:=nodup_le l (s++t) hn.2 (fun b hb=>by
    rcases List.mem_append.1 (h b (List.mem_cons_of_mem _ hb)) with e | e
    ·exact List.mem_append_left _ e
    ·rcases List.mem_cons.1 e with e | e
     ·exact absurd (e ▸ hb) hn.1
     ·exact List.mem_append_right _ e)
   simp only [List.length_append,List.length_cons] at ih ⊢
   omega
theorem own_few {M:Disk} {name:ByteArray} {per:Nat} {es:List En} (hm:M.ok) (h:LogI M.files name per es) (hp:1<=per):(ownFiles M.files name).length<=es.length:=by
 have h1:=nodup_le (ownFiles M.files name) ((List.range es.length).map (fileN name)) (List.Pairwise.imp (fun h=>blt_ne h) (own_rise hm name)) (fun f hf=>by
  obtain ⟨j,h2,rfl⟩:=(h.mem hp f).1 hf
  exact List.mem_map.2 ⟨_,List.mem_range.2 h2,rfl⟩)
 simpa using h1
theorem fall_len (fs:Fs) (p:ByteArray->Bool):(fallOwn fs p).length<=fs.length:=by
 unfold fallOwn
 rw [List.length_reverse]
 exact Nat.le_trans (List.length_filter_le _ _) (by simp)
theorem rm_what (l:List ByteArray):∀ t∈l.map rmT,t.what≠0:=fun t ht=>by
 obtain ⟨f,_,rfl⟩:=List.mem_map.1 ht
 show (2:Int)≠0
 decide
theorem fat_trunc (M:Disk) (name:ByteArray) (per:Nat) (es:List En) (n:Nat):fat (truncM M name per es n)<=fat M/\(truncM M name per es n).waits.length<=M.waits.length+(ownFiles M.files name).length+1:=by
 have h1:=fat_doAll _ M (rm_what (fallOwn M.files (fromB name n)))
 have h2:(fallOwn M.files (fromB name n)).length<=(ownFiles M.files name).length:=by
  rw [<- fall_filter M.files name _ fromB_own]
  refine Nat.le_trans (List.length_filter_le _ _) ?_
  rw [List.length_reverse]
  exact Nat.le_refl _
 rw [List.length_map] at h1
 unfold truncM
 split
 ·have h4:=fat_does0 (doAll M ((fallOwn M.files (fromB name n)).map rmT)) (t:=cutT (fileN name (n / per*per)) (frames ((es.take n).drop (n / per*per))).length) (show (1:Int)≠0 by decide)
  have h5:=(fat_does (doAll M ((fallOwn M.files (fromB name n)).map rmT)) (cutT (fileN name (n / per*per)) (frames ((es.take n).drop (n / per*per))).length)).2
  omega
 ·omega
theorem mend_what (fs:Fs) (name:ByteArray) (per:Nat):∀ t∈mendT fs name per,t.what≠0:=fun t ht=>by
 unfold mendT at ht
 split at ht
 ·cases ht
 ·split at ht
  ·simp only [List.mem_singleton] at ht;rw [ht];show (2:Int)≠0;decide
  ·split at ht
   ·simp only [List.mem_singleton] at ht;rw [ht];show (1:Int)≠0;decide
   ·cases ht
theorem fat_open (M:Disk) (name:ByteArray) (per:Nat):fat (openM M name per)<=fat M/\(openM M name per).waits.length<=M.waits.length+fat M+1:=by
 have h1:=fat_doAll _ M (mend_what M.files name per)
 have h2:=mend_len M.files name per
 unfold openM
 have h3:=fat_doAll _ (doAll M (mendT M.files name per)) (rm_what (fallOwn (doAll M (mendT M.files name per)).files (strayB name per (Go.Wst.Sg.told M.files name per).1.length)))
 have h4:=fall_len (doAll M (mendT M.files name per)).files (strayB name per (Go.Wst.Sg.told M.files name per).1.length)
 have h5:=fat_files (doAll M (mendT M.files name per))
 rw [List.length_map] at h3
 omega
theorem LogW.widen {P R:Nat->Prop} {b:Nat} {L:LLog} {M:Disk} {w W:World} (h:LogW P R b L M w) (hk:Keep NoB w W):LogW (wide P w W) (wide R w W) b L M W:=
 h.keep hk (fun _ _ h=>h.elim) (fun k e=>by
  rcases e with e | e
  ·exact ⟨Nat.lt_of_lt_of_le (h.lt.1 k e) hk.size,.inl e⟩
  ·exact ⟨e.2,.inr e.1⟩) (fun k e=>by
  rcases e with e | e
  ·exact ⟨Nat.lt_of_lt_of_le (h.lt.2.1 k e) hk.size,.inl e⟩
  ·exact ⟨e.2,.inr e.1⟩)
theorem LogW.narrow {P R P' R':Nat->Prop} {b:Nat} {L:LLog} {M:Disk} {W:World} (h:LogW P' R' b L M W) (hP:∀ k,P k->P' k) (hR:∀ k,R k->R' k):LogW P R b L M W:=
 h.keep (Keep.refl NoB _) (fun _ _ h=>h.elim) (fun k e=>⟨h.lt.1 k (hP k e),.inl (hP k e)⟩) (fun k e=>⟨h.lt.2.1 k (hR k e),.inl (hR k e)⟩)
theorem LogW.ok {P R:Nat->Prop} {b:Nat} {L:LLog} {M:Disk} {W:World} (h:LogW P R b L M W):M.ok:=h.disk.ok.1
set_option maxHeartbeats 1000000 in
theorem is4_ok (P R:Nat->Prop) (b:Nat) (L:LLog) (M:Disk) (r:RLog) (F:Nat->Prop) (w:World) (tt:TypeId) (tr:Nat×Nat) [htab:Blk w 0 (.cells tabA tt tr)] (h:LogW P R b L M w) (hr:RLogW w F r M) (hn:r.name=L.name) (hp:r.per=L.per) (hsu:r.sure=L.sure) (hI:LogI M.files L.name L.per L.es):Ret Tryz.prog 35 #[ptrV b,.agg (rlogC r).toArray] w (fun v w'=>v=.bool true/\Lk w' w NoB):=by
 haveI kb:Blk w b (.cells (logC L).toArray 100 (0,0)):=⟨h.at_⟩
 have hlen:=h.len
 have htold:(Go.Wst.Sg.told M.files r.name r.per).1=L.es:=by rw [hn,hp];exact hI.told h.per1
 refine ret_of_x (N:=40) (l:=[ptrV b,.agg (rlogC r).toArray]) Tryz.func35 rfl rfl (Nat.le_of_ble_eq_true rfl) ?_
 refine xq ?_
 refine xl_e (e_box fun b3 w1 nb3 lb3 kb3=>?_)
 refine xz ?_
 refine xq (xl_Lb ?_)
 refine xl_call (refall_ok F r M w1 tt tr (hr.ext (kpc:Keep NoB w w1))) ?_
 rintro _ w2 ⟨⟨A5,c5,rfl,ho5⟩,lk5⟩
 rw [htold] at ho5 ⊢
 refine xz ?_
 refine x_seq ?_
 refine x_drawL (NoB) (allS) (.take 0 (.take 2 (.eff 1 (.eff 3 (.take 4 (.take 5 (.take 7 (.take 8 (.eff 6 (.take 9 (.take 10 (.take 11 (.take 12 (.take 14 (.take 15 (.eff 13 (.take 16 (.take 17 (.take 18 (.take 19 (.take 21 (.eff 20 (.eff 22 (.eff 23 (.take 24 (.take 25 (.take 26 (.take 28 (.take 29 (.eff 27 (.eff 30 (.take 31 (.take 32 .done))))))))))))))))))))))))))))))))) mixed (by kernel_rfl) (fun _ _ _ _ _ h=>h) (fun w3 l3=>?_)
 refine xt_v rfl v_move (xt_v rfl v_move ?_)
 refine xt_call rfl (lall_ok P R b L M w3 (h.ext (kpc:Keep NoB w w3))) ?_
 rintro _ w4 ⟨⟨A9,c9,rfl,ho9⟩,lk9⟩
 refine ⟨kpc,?_⟩
 refine xt_call rfl ((haveI:Row w4 A9 (L.es.flatMap enC):=⟨own_row (own_ext ho9 (lkc:Lk w4 _ NoB))⟩;haveI:Row w4 A5 (L.es.flatMap enC):=⟨own_row (own_ext ho5 (lkc:Lk w4 _ NoB))⟩;same_ok A9 _ c9 L.es A5 _ c5 L.es w4 rfl rfl (by omega) (by omega))) ?_
 rintro _ w5 ⟨rfl,lk23⟩
 refine ⟨kpc,?_⟩
 rw [decide_eq_true rfl]
 refine xt_v rfl v_move (xt_gv rfl rfl EvO.eq v_move (xt_gv rfl rfl EvO.eq v_move (xt_gv rfl rfl EvO.eq v_len ?_)))
 refine xt_gcall rfl rfl EvO.eq (llen_ok b L w5) ?_
 rintro _ _ ⟨rfl,rfl⟩
 refine ⟨kpc,?_⟩
 refine xt_gv rfl rfl EvO.eq (v_congr (u:=.bool true) v_eql (by simp)) ?_
 refine xt_Pk rfl ?_
 refine xt_v rfl v_move (xt_gv rfl rfl EvO.eq v_move ?_)
 refine xt_gFb rfl rfl EvO.eq ?_
 refine xt_gLc rfl rfl EvO.eq ?_
 refine xt_gcall rfl rfl EvO.eq (lsure_ok b L w5) ?_
 rintro _ _ ⟨rfl,rfl⟩
 refine ⟨kpc,?_⟩
 refine xt_gv rfl rfl EvO.eq (v_congr (u:=.bool true) v_eql (by simp [hsu])) ?_
 refine xt_Pk rfl ?_
 refine xt_v rfl v_move (xt_gv rfl rfl EvO.eq v_move ?_)
 refine xt_gLb rfl rfl EvO.eq ?_
 refine xt_gcall rfl rfl EvO.eq (lfiles_ok P R b L M w5 (h.ext (kpc:Keep NoB w w5))) ?_
 rintro _ w8 ⟨⟨A20,c20,rfl,ho20⟩,lk20⟩
 refine ⟨kpc,?_⟩
 refine xt_gcall rfl rfl EvO.eq (refFiles_ok F r M w8 (hr.ext (kpc:Keep NoB w w8))) ?_
 rintro _ w9 ⟨⟨A22,c22,rfl,ho22⟩,lk22⟩
 refine ⟨kpc,?_⟩
 rw [hn] at ho22 ⊢
 have hof:(ownFiles M.files L.name).length<=1000000:=Nat.le_trans (own_le _ _) hr.s.flen
 refine xt_gcall rfl rfl EvO.eq (sameS_ok A20 A22 _ c20 _ c22 _ _ w9 (own_row (own_ext ho20 (lkc:Lk w9 _ NoB))) (own_row (own_ext ho22 (lkc:Lk w9 _ NoB))) rfl rfl (by omega) (by omega)) ?_
 rintro _ w10 ⟨rfl,lk23b⟩
 refine ⟨kpc,?_⟩
 rw [decide_eq_true rfl]
 refine xt_Pk rfl ?_
 refine xt_v rfl v_move (xt_gv rfl rfl EvO.eq v_move ?_)
 refine xt_gFb rfl rfl EvO.eq ?_
 refine xt_gLb rfl rfl EvO.eq ?_
 refine xt_gcall rfl rfl EvO.eq (ldisk_ok b L w10) ?_
 rintro _ _ ⟨rfl,rfl⟩
 refine ⟨kpc,?_⟩
 refine xt_gcall rfl rfl EvO.eq (disks4_ok _ _ L.d M r.R F w10 (h.disk.ext (kpc:Keep NoB w w10)) (hr.at_.ext (kpc:Keep NoB w w10)) hr.s) ?_
 rintro _ w12 ⟨rfl,lk30⟩
 refine ⟨kpc,?_⟩
 refine xt_Pk rfl ?_
 refine xt_v rfl v_assign (xt_nil ?_)
 refine x_ret ?_
 refine fin1 rfl ?_
 exact ⟨rfl,lkc⟩
end Go.Proofs.YtigmfcgeljjgnaaGreatDoor
