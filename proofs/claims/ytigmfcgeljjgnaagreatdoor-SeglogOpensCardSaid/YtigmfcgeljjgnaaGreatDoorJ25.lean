/- A part of the walks through the log and its document, and of the law in plain Lean: HF HG. -/
import Derived.Test.YtigmfcgeljjgnaaGreatDoorJ24
set_option linter.all false
set_option maxRecDepth 100000
set_option synthInstance.maxSize 100000
set_option synthInstance.maxHeartbeats 400000
namespace Go.Proofs.YtigmfcgeljjgnaaGreatDoor
open Go.Wst
open Go.Wst.Dm Go.Wst.Sg
def RLogZ:RLog:=⟨RefZ,⟨#[]⟩,0,0⟩
theorem mend_len (fs:Fs) (name:ByteArray) (per:Nat):(mendT fs name per).length<=1:=by
 unfold mendT
 split
 ·simp
 ·split
  ·simp
  ·split<;>simp
set_option maxHeartbeats 2000000 in
theorem refopen_ok (F:Nat->Prop) (Rf:LRef) (M:Disk) (name:ByteArray) (per:Int) (w:World) (tt:TypeId) (tr:Nat×Nat) [htab:Blk w 0 (.cells tabA tt tr)] (hAt:RefAt w F Rf) (hS:RefS Rf M) (hs:name.size<=1000000000) (hper:In64 per) (hfew:2*(M.lasts.length+M.waits.length)<=999900):Ret Tryz.prog 13 #[.agg (refC Rf).toArray,.string name,.int .i64 per] w (fun v w'=>(if logName name=true/\1<=per/\per<=256 then ∃ (r':RLog) (F':Nat->Prop),v=.tuple #[.agg (rlogC r').toArray,.int .i64 0]/\RLogW w' F' r' (openM M name per.toNat)/\r'.name=name/\r'.per=per.toNat/\r'.sure=(if M.waits=[] then (Go.Wst.Sg.told M.files name per.toNat).1.length else 0)/\∀ k,F' k->F k\/w.heap.size<=k else v=.tuple #[.agg (rlogC RLogZ).toArray,.int .i64 2])/\Lk w' w NoB):=by
 refine ret_of_x (N:=120) (l:=[.agg (refC Rf).toArray,.string name,.int .i64 per]) Tryz.func13 rfl rfl (Nat.le_of_ble_eq_true rfl) ?_
 refine xq ?_
 refine xl_e (e_box fun b3 w1 nb3 lb3 kb3=>?_)
 refine xl_e (e_alloc fun b6 w2 nb6 lb6 kb6=>?_)
 refine xz ?_
 refine x_cut (fun τ ds w'=>ds=[]/\(logName name=true/\1<=per/\per<=256)/\Ev τ 1 (.string name)/\Ev τ 2 (.int .i64 per)/\Ev τ 3 (ptrV b3)/\Ev τ 6 (ptrV b6)/\Blk w' b3 (.cells (refC Rf).toArray 34 (0,0))/\Blk w' b6 (.cells (rlogC RLogZ).toArray 38 (0,0))/\Lk w' w NoB) ?_ ?_
 ·refine xq (xm ?_)
  refine xl_call (refName_ok name w2 hs) ?_
  rintro _ _ ⟨rfl,rfl⟩
  refine xl_v v_not (xm ?_)
  refine xl_split 19 (fun g19=>?_) (fun g19=>?_)
  ·have g4:logName name=false:=by simpa using g19
   refine xl_gs rfl EvO.eq (xl_gs rfl EvO.eq (xl_Pk ?_))
   refine xm (xl_gs rfl EvO.eq (xl_gs rfl EvO.eq (xl_Pk ?_)))
   refine xl_nil ?_
   refine x_condT ?_
   refine xq (xl_v v_build ?_)
   refine xl_s (e_storeA fun w4 l4 k4=>?_)
   refine xz ?_
   refine x_ret ?_
   refine finR (rs:=[.cell 6 38,.tmp 7]) rfl ?_
   refine ⟨?_,lkc⟩
   rw [if_neg]
   ·rfl
   ·rintro ⟨q1,q2,q3⟩
    first
     | omega
     | (rw [g4] at q1;cases q1)
  have g4:logName name=true:=by simpa using g19
  refine xl_gv rfl EvO.eq v_move (xl_gv rfl EvO.eq v_lss (xl_Pk ?_))
  refine xm ?_
  refine xl_split 23 (fun g23=>?_) (fun g23=>?_)
  ·have g5:=of_decide_eq_true g23
   refine xl_gs rfl EvO.eq (xl_gs rfl EvO.eq (xl_Pk ?_))
   refine xl_nil ?_
   refine x_condT ?_
   refine xq (xl_v v_build ?_)
   refine xl_s (e_storeA fun w5 l5 k5=>?_)
   refine xz ?_
   refine x_ret ?_
   refine finR (rs:=[.cell 6 38,.tmp 7]) rfl ?_
   refine ⟨?_,lkc⟩
   rw [if_neg]
   ·rfl
   ·rintro ⟨q1,q2,q3⟩
    omega
  have g5:=of_decide_eq_false g23
  refine xl_gv rfl EvO.eq v_move (xl_gv rfl EvO.eq v_gtr (xl_Pk ?_))
  refine xl_nil ?_
  refine x_if (fun c1=>?_) (fun c1=>?_)
  ·refine xq (xl_v v_build ?_)
   refine xl_s (e_storeA fun w6 l6 k6=>?_)
   refine xz ?_
   refine x_ret ?_
   refine finR (rs:=[.cell 6 38,.tmp 7]) rfl ?_
   refine ⟨?_,lkc⟩
   rw [if_neg]
   ·rfl
   ·rintro ⟨q1,q2,q3⟩
    omega
  refine x_skip ?_
  refine ⟨rfl,⟨g4,?_,?_⟩,ii,ii,ii,ii,ii,ii,lkc⟩
  ·omega
  ·omega
 intro τ7 ds7 w7 hI
 obtain ⟨rfl,hok,e1,e2,e3,e6,kb3,kb6,lk3⟩:=hI
 obtain ⟨pn,rfl⟩:∃ pn:Nat,per=(pn:Int):=⟨per.toNat,by omega⟩
 refine xq (xl_Lb ?_)
 refine xm (xm (xl_v v_build ?_))
 refine xl_e (e_alloc fun b8 w8 nb8 lb8 kb8=>?_)
 refine xl_s (e_storeA fun w9 l9 k9=>?_)
 refine xl_nil ?_
 have hL0:RLogW w9 F ⟨Rf,name,pn,0⟩ M:=⟨hAt.ext (kpc:Keep NoB w w9),hS,hok.1,by show 1<=pn;omega,by show pn<=256;omega⟩
 have hns:name.size<=8:=hL0.size
 refine xq (xl_Lb ?_)
 refine xl_call (reftold_ok F ⟨Rf,name,pn,0⟩ M w9 tt tr (hL0.ext (kpc:Keep NoB _ w9))) ?_
 rintro _ w10 ⟨⟨A9,c9,rfl,ho9⟩,lk4⟩
 obtain ⟨es,fz,hT⟩:∃ es fz,Go.Wst.Sg.told M.files name pn=(es,fz):=⟨_,_,rfl⟩
 obtain ⟨i0,hi0,hTI⟩:=told_spec M.files name (per:=pn) (by omega)
 rw [hT] at hi0 hTI
 simp only at hi0 hTI
 have hfz:=hTI.few
 have hel:=hTI.len
 rw [<- hi0] at hfz
 simp only [hT] at ho9 ⊢
 obtain ⟨good,hgood⟩:∃ good,good=(frames (es.drop fz)).length:=⟨_,rfl⟩
 rw [<- hgood]
 have hgl:good<=40*4096:=by
  rw [hgood]
  refine Nat.le_trans (frames_len (fun e he=>hTI.right e (List.mem_of_mem_drop he))) ?_
  rw [List.length_drop]
  omega
 obtain ⟨sz,hsz⟩:∃ sz,sz=fileI M.files name fz:=⟨_,rfl⟩
 rw [<- hsz]
 have hm1:∀ bt,akey M.files (fileN name fz)=some bt->sz=(bt.length:Int)/\mendT M.files name pn=if good=0 then [rmT (fileN name fz)] else if good<bt.length then [cutT (fileN name fz) good] else []:=fun bt hbt=>by
  refine ⟨by rw [hsz,fileI_some hbt],?_⟩
  unfold mendT
  rw [hT]
  simp only [hbt,<- hgood]
 have hm0:akey M.files (fileN name fz)=none->sz=-1/\mendT M.files name pn=[]:=fun hbt=>by
  refine ⟨by rw [hsz,fileI_none hbt],?_⟩
  unfold mendT
  rw [hT]
  simp only [hbt]
 have hwl:=hS.len
 refine xm (xl_v v_extract (xl_v v_extract (xl_v v_extract (xl_v v_extract (xa (xa (xa (xz ?_))))))))
 refine x_cut (fun τ ds w'=>ds=[]/\Ev τ 1 (.string name)/\Ev τ 2 (.int .i64 (pn:Int))/\Ev τ 6 (ptrV b6)/\Ev τ 8 (ptrV b8)/\Ev τ 9 (.slice A9 es.length c9)/\Ev τ 10 (.int .i64 (fz:Int))/\Ev τ 11 (.int .i64 (good:Int))/\Ev τ 12 (.int .i64 sz)/\Blk w' b6 (.cells (rlogC RLogZ).toArray 38 (0,0))/\Blk w' b8 (.cells (rlogC ⟨Rf,name,pn,if M.waits=[] then es.length else 0⟩).toArray 38 (0,0))/\Lk w' w NoB) ?_ ?_
 ·refine xq (xl_Fb ?_)
  refine xl_Lc ?_
  refine xl_v v_len (xl_v v_eql (xl_nil ?_))
  refine x_if (fun c2=>?_) (fun c2=>?_)
  ·refine x_regionL (xm (xl_v v_len (xl_Fb ?_)))
   refine xl_s (e_store fun w11 l11 k11=>?_)
   refine xl_nil ?_
   first
   | (have hz:M.waits=[]:=List.eq_nil_of_length_eq_zero (by omega)
      refine ⟨rfl,ii,ii,ii,ii,ii,ii,ii,ii,ii,?_,lkc⟩
      rw [if_pos hz]
      infer_instance)
   | (have hz:¬ M.waits=[]:=fun e=>by rw [e] at hwl;have h0:Rf.waits.length=0:=hwl;omega
      refine ⟨rfl,ii,ii,ii,ii,ii,ii,ii,ii,ii,?_,lkc⟩
      rw [if_neg hz]
      infer_instance)
  refine x_skip ?_
  first
  | (have hz:M.waits=[]:=List.eq_nil_of_length_eq_zero (by omega)
     refine ⟨rfl,ii,ii,ii,ii,ii,ii,ii,ii,ii,?_,lkc⟩
     rw [if_pos hz]
     infer_instance)
  | (have hz:¬ M.waits=[]:=fun e=>by rw [e] at hwl;have h0:Rf.waits.length=0:=hwl;omega
     refine ⟨rfl,ii,ii,ii,ii,ii,ii,ii,ii,ii,?_,lkc⟩
     rw [if_neg hz]
     infer_instance)
 intro τ12 ds12 w12 hI
 obtain ⟨rfl,e1,e2,e6,e8,e9,e10,e11,e12,kb62,kb82,lk7⟩:=hI
 obtain ⟨sure,hsure⟩:∃ sure,sure=(if M.waits=[] then es.length else 0):=⟨_,rfl⟩
 rw [<- hsure] at kb82
 have hb6w:w.heap.size<=b6:=by rw [nb6.eq];exact Ge.le
 have hb8w:w.heap.size<=b8:=by rw [nb8.eq];exact Ge.le
 have hFl:=hAt.lt
 have hAt7:=hAt.ext (kpc:Keep NoB w w12)
 obtain ⟨w7,hw7⟩:∃ x,x=w12:=⟨_,rfl⟩
 have hb8l:b8<w7.heap.size:=by rw [hw7];exact Has.lt
 obtain ⟨M1,hM1⟩:∃ M1,M1=if (good:Int)<sz/\0<good then M.does (cutT (fileN name fz) good) else M:=⟨_,rfl⟩
 have hb6l:b6<w7.heap.size:=by rw [hw7];exact Has.lt
 refine x_cut (fun τ ds w'=>ds=[]/\(∃ (R2:LRef) (F2:Nat->Prop),RefAt w' F2 R2/\RefS R2 M1/\(∀ j,F2 j->F j\/w7.heap.size<=j)/\Blk w' b8 (.cells (rlogC ⟨R2,name,pn,sure⟩).toArray 38 (0,0)))/\Ev τ 1 (.string name)/\Ev τ 2 (.int .i64 (pn:Int))/\Ev τ 6 (ptrV b6)/\Ev τ 8 (ptrV b8)/\Ev τ 9 (.slice A9 es.length c9)/\Ev τ 10 (.int .i64 (fz:Int))/\Ev τ 11 (.int .i64 (good:Int))/\Ev τ 12 (.int .i64 sz)/\Blk w' b6 (.cells (rlogC RLogZ).toArray 38 (0,0))/\Lk w' w7 (OneB b8)) ?_ ?_
 ·refine xq (xm (xm (xl_v v_gtr (xm ?_))))
  refine xl_split 49 (fun g49=>?_) (fun g49=>?_)
  ·have g7:=of_decide_eq_true g49
   refine xl_gv rfl EvO.eq v_move (xl_gv rfl EvO.eq v_gtr (xl_Pk ?_))
   refine xl_nil ?_
   refine x_if (fun c3=>?_) (fun c3=>?_)
   ·obtain ⟨bt,hbt⟩:∃ bt,akey M.files (fileN name fz)=some bt:=by
     cases hh:akey M.files (fileN name fz) with
     | none=>have:=(hm0 hh).1;omega
     | some bt=>exact ⟨bt,rfl⟩
    have hm2:=hm1 bt hbt
    refine x_drawL (OneB b8) (allS) (.take 0 (.take 2 (.take 3 (.take 5 (.fork 1 (.eff 4 (.take 6 (.eff 7 (.take 8 (.take 9 (.take 10 (.take 11 (.eff 12 .done)))))))) 4 (.take 6 (.eff 1 (.eff 7 (.take 8 (.take 9 (.take 10 (.take 11 (.eff 12 .done))))))))))))) mixed (by kernel_rfl) (fun _ _ _ _ _ h=>h) (fun w13 l13=>?_)
    refine xt_Fb rfl ?_
    refine xt_v rfl v_move (xt_v rfl v_move (xt_v rfl v_move ?_))
    refine xt_fork ?_ ?_
    ·refine xt_e rfl (e_v (v_loadA (r:=none)) ?_)
     refine xt_call rfl (refFile_ok name fz w13 tt tr (by omega) (by omega)) ?_
     rintro _ w14 ⟨rfl,lk84⟩
     refine ⟨kpc,?_⟩
     refine xt_v rfl v_build ?_
     refine xt_call rfl (refdo_ok Rf M F ⟨cutT (fileN name fz) good,none,0⟩ w14 (hAt.ext (kpc:Keep NoB w w14)) hS (by omega) (fun j v h=>by simp [bytesC] at h) (Nat.le_refl _) (by simp) (.inr (.inl rfl)) (by have:=nameOk_size (nameOk_file hok.1 fz);show (fileN name fz).size<=_;omega) (by show In64 (good:Int);omega)) ?_
     rintro _ w15 ⟨⟨R2,F2,rfl,hs2,hR2,hF2⟩,lkd⟩
     refine ⟨kpc,?_⟩
     have hszB:w.heap.size<=(w14).heap.size:=Ge.le
     have hszB7:w7.heap.size<=(w14).heap.size:=by rw [hw7];exact Ge.le
     refine xt_v rfl v_move (xt_v rfl v_extract (xt_v rfl v_extract (xt_Fb rfl ?_)))
     refine xt_s rfl (e_storeA fun w16 l16 k16=>?_)
     refine xt_nil ?_
     have hF3:∀ j,F2 j->F j\/w7.heap.size<=j:=fun j e=>by
      rcases hF2 j e with e2 | e2 | ⟨e2,_⟩
      ·exact .inl e2
      ·exact .inr (by omega)
      ·exact absurd rfl e2
     have hnext:∃ (R2:LRef) (F2:Nat->Prop),RefAt w16 F2 R2/\RefS R2 M1/\(∀ j,F2 j->F j\/w7.heap.size<=j)/\Blk w16 b8 (.cells (rlogC ⟨R2,name,pn,sure⟩).toArray 38 (0,0)):=by
      refine ⟨R2,F2,hR2.keep (kpc:Keep (OneB b8) _ w16) (fun j e e2=>?_),by rw [hM1,if_pos ⟨by omega,by omega⟩];exact hs2,hF3,ii⟩
      have e':j=b8:=e2
      rcases hF3 j e with e3 | e3
      ·have:=hFl j e3;omega
      ·omega
     first
     | exact ⟨rfl,hnext,ii,ii,ii,ii,ii,ii,ii,ii,ii,by rw [hw7];exact lkc⟩
     | exact ⟨rfl,⟨Rf,F,hAt.ext (kpc:Keep NoB w w16),by rw [hM1,if_neg (by omega)];exact hS,fun j e=>.inl e,ii⟩,ii,ii,ii,ii,ii,ii,ii,ii,ii,by rw [hw7];exact ⟨(Keep.refl _ _)⟩⟩
     | exact ⟨rfl,⟨Rf,F,hAt.ext (kpc:Keep NoB w w16),by rw [hM1,if_neg (by revert c3;simp;omega)];exact hS,fun j e=>.inl e,ii⟩,ii,ii,ii,ii,ii,ii,ii,ii,ii,by rw [hw7];exact ⟨(Keep.refl _ _)⟩⟩
    refine xt_call rfl (refFile_ok name fz w13 tt tr (by omega) (by omega)) ?_
    rintro _ w17 ⟨rfl,lk84⟩
    refine ⟨kpc,?_⟩
    refine xt_v rfl v_build ?_
    refine xt_e rfl (e_v (v_loadA (r:=none)) ?_)
    refine xt_call rfl (refdo_ok Rf M F ⟨cutT (fileN name fz) good,none,0⟩ w17 (hAt.ext (kpc:Keep NoB w w17)) hS (by omega) (fun j v h=>by simp [bytesC] at h) (Nat.le_refl _) (by simp) (.inr (.inl rfl)) (by have:=nameOk_size (nameOk_file hok.1 fz);show (fileN name fz).size<=_;omega) (by show In64 (good:Int);omega)) ?_
    rintro _ w18 ⟨⟨R2,F2,rfl,hs2,hR2,hF2⟩,lkd⟩
    refine ⟨kpc,?_⟩
    have hszB:w.heap.size<=(w17).heap.size:=Ge.le
    have hszB7:w7.heap.size<=(w17).heap.size:=by rw [hw7];exact Ge.le
    refine xt_v rfl v_move (xt_v rfl v_extract (xt_v rfl v_extract (xt_Fb rfl ?_)))
    refine xt_s rfl (e_storeA fun w19 l19 k19=>?_)
    refine xt_nil ?_
    have hF3:∀ j,F2 j->F j\/w7.heap.size<=j:=fun j e=>by
     rcases hF2 j e with e2 | e2 | ⟨e2,_⟩
     ·exact .inl e2
     ·exact .inr (by omega)
     ·exact absurd rfl e2
    have hnext:∃ (R2:LRef) (F2:Nat->Prop),RefAt w19 F2 R2/\RefS R2 M1/\(∀ j,F2 j->F j\/w7.heap.size<=j)/\Blk w19 b8 (.cells (rlogC ⟨R2,name,pn,sure⟩).toArray 38 (0,0)):=by
     refine ⟨R2,F2,hR2.keep (kpc:Keep (OneB b8) _ w19) (fun j e e2=>?_),by rw [hM1,if_pos ⟨by omega,by omega⟩];exact hs2,hF3,ii⟩
     have e':j=b8:=e2
     rcases hF3 j e with e3 | e3
     ·have:=hFl j e3;omega
     ·omega
    first
    | exact ⟨rfl,hnext,ii,ii,ii,ii,ii,ii,ii,ii,ii,by rw [hw7];exact lkc⟩
    | exact ⟨rfl,⟨Rf,F,hAt.ext (kpc:Keep NoB w w19),by rw [hM1,if_neg (by omega)];exact hS,fun j e=>.inl e,ii⟩,ii,ii,ii,ii,ii,ii,ii,ii,ii,by rw [hw7];exact ⟨(Keep.refl _ _)⟩⟩
    | exact ⟨rfl,⟨Rf,F,hAt.ext (kpc:Keep NoB w w19),by rw [hM1,if_neg (by revert c3;simp;omega)];exact hS,fun j e=>.inl e,ii⟩,ii,ii,ii,ii,ii,ii,ii,ii,ii,by rw [hw7];exact ⟨(Keep.refl _ _)⟩⟩
   refine x_skip ?_
   first
   | exact ⟨rfl,hnext,ii,ii,ii,ii,ii,ii,ii,ii,ii,by rw [hw7];exact lkc⟩
   | exact ⟨rfl,⟨Rf,F,hAt.ext (kpc:Keep NoB w w12),by rw [hM1,if_neg (by omega)];exact hS,fun j e=>.inl e,ii⟩,ii,ii,ii,ii,ii,ii,ii,ii,ii,by rw [hw7];exact ⟨(Keep.refl _ _)⟩⟩
   | exact ⟨rfl,⟨Rf,F,hAt.ext (kpc:Keep NoB w w12),by rw [hM1,if_neg (by revert c3;simp;omega)];exact hS,fun j e=>.inl e,ii⟩,ii,ii,ii,ii,ii,ii,ii,ii,ii,by rw [hw7];exact ⟨(Keep.refl _ _)⟩⟩
  have g7:=of_decide_eq_false g49
  refine xl_gs rfl EvO.eq (xl_gs rfl EvO.eq (xl_Pk ?_))
  refine xl_nil ?_
  refine x_condF ?_
  refine x_skip ?_
  first
  | exact ⟨rfl,hnext,ii,ii,ii,ii,ii,ii,ii,ii,ii,by rw [hw7];exact lkc⟩
  | exact ⟨rfl,⟨Rf,F,hAt.ext (kpc:Keep NoB w w12),by rw [hM1,if_neg (by omega)];exact hS,fun j e=>.inl e,ii⟩,ii,ii,ii,ii,ii,ii,ii,ii,ii,by rw [hw7];exact ⟨(Keep.refl _ _)⟩⟩
  | exact ⟨rfl,⟨Rf,F,hAt.ext (kpc:Keep NoB w w12),by rw [hM1,if_neg (by revert c3;simp;omega)];exact hS,fun j e=>.inl e,ii⟩,ii,ii,ii,ii,ii,ii,ii,ii,ii,by rw [hw7];exact ⟨(Keep.refl _ _)⟩⟩
 intro τ20 ds20 w20 hI
 obtain ⟨rfl,⟨R2,F2,hAt2,hS2,hF2,kb83⟩,e1,e2,e6,e8,e9,e10,e11,e12,kb63,lk9⟩:=hI
 haveI lk7w:Lk w7 w NoB:=by rw [hw7];exact lk7
 obtain ⟨w9,hw9⟩:∃ x,x=w20:=⟨_,rfl⟩
 have hsz9:=lk9.keep.size
 have hM1l:M1.lasts.length+M1.waits.length<=M.lasts.length+M.waits.length+1:=by
  rw [hM1]
  split
  ·exact doNo_few M _
  ·omega
 refine x_cut (fun τ ds w'=>ds=[]/\(∃ (R2:LRef) (F2:Nat->Prop),RefAt w' F2 R2/\RefS R2 (doAll M (mendT M.files name pn))/\(∀ j,F2 j->F j\/w7.heap.size<=j)/\Blk w' b8 (.cells (rlogC ⟨R2,name,pn,sure⟩).toArray 38 (0,0)))/\Ev τ 1 (.string name)/\Ev τ 2 (.int .i64 (pn:Int))/\Ev τ 6 (ptrV b6)/\Ev τ 8 (ptrV b8)/\Ev τ 9 (.slice A9 es.length c9)/\Blk w' b6 (.cells (rlogC RLogZ).toArray 38 (0,0))/\Lk w' w7 (OneB b8)) ?_ ?_
 ·refine xq (xm (xl_v v_geq (xm ?_)))
  refine xl_split 67 (fun g67=>?_) (fun g67=>?_)
  ·have g9:=of_decide_eq_true g67
   refine xl_gv rfl EvO.eq v_move (xl_gv rfl EvO.eq v_eql (xl_Pk ?_))
   refine xl_nil ?_
   refine x_if (fun c4=>?_) (fun c4=>?_)
   ·obtain ⟨bt,hbt⟩:∃ bt,akey M.files (fileN name fz)=some bt:=by
     cases hh:akey M.files (fileN name fz) with
     | none=>have:=(hm0 hh).1;omega
     | some bt=>exact ⟨bt,rfl⟩
    have hm2:=hm1 bt hbt
    have hM1e:M1=M:=by rw [hM1,if_neg (by omega)]
    have hmd:doAll M (mendT M.files name pn)=M1.does (rmT (fileN name fz)):=by rw [hm2.2,if_pos (by omega),hM1e];rfl
    refine x_drawL (OneB b8) (allS) (.take 0 (.take 2 (.take 3 (.fork 1 (.eff 4 (.take 5 (.eff 6 (.take 7 (.take 8 (.take 9 (.take 10 (.eff 11 .done)))))))) 4 (.take 5 (.eff 1 (.eff 6 (.take 7 (.take 8 (.take 9 (.take 10 (.eff 11 .done)))))))))))) mixed (by kernel_rfl) (fun _ _ _ _ _ h=>h) (fun w21 l21=>?_)
    refine xt_Fb rfl ?_
    refine xt_v rfl v_move (xt_v rfl v_move ?_)
    refine xt_fork ?_ ?_
    ·refine xt_e rfl (e_v (v_loadA (r:=none)) ?_)
     refine xt_call rfl (refFile_ok name fz w21 tt tr (by omega) (by omega)) ?_
     rintro _ w22 ⟨rfl,lk104⟩
     refine ⟨kpc,?_⟩
     refine xt_v rfl v_build ?_
     refine xt_call rfl (refdo_ok R2 M1 F2 ⟨rmT (fileN name fz),none,0⟩ w22 (hAt2.ext (kpc:Keep NoB _ w22)) hS2 (by omega) (fun j v h=>by simp [bytesC] at h) (Nat.le_refl _) (by simp) (.inr (.inr rfl)) (by have:=nameOk_size (nameOk_file hok.1 fz);show (fileN name fz).size<=_;omega) (by show In64 (0:Int);decide)) ?_
     rintro _ w23 ⟨⟨R3,F3,rfl,hs3,hR3,hF3⟩,lkd⟩
     refine ⟨kpc,?_⟩
     have hszB:w7.heap.size<=(w22).heap.size:=Ge.le
     refine xt_v rfl v_move (xt_v rfl v_extract (xt_v rfl v_extract (xt_Fb rfl ?_)))
     refine xt_s rfl (e_storeA fun w24 l24 k24=>?_)
     refine xt_nil ?_
     have hF4:∀ j,F3 j->F j\/w7.heap.size<=j:=fun j e=>by
      rcases hF3 j e with e2 | e2 | ⟨e2,_⟩
      ·exact hF2 j e2
      ·exact .inr (by omega)
      ·exact absurd rfl e2
     have hnext:∃ (R2:LRef) (F2:Nat->Prop),RefAt w24 F2 R2/\RefS R2 (doAll M (mendT M.files name pn))/\(∀ j,F2 j->F j\/w7.heap.size<=j)/\Blk w24 b8 (.cells (rlogC ⟨R2,name,pn,sure⟩).toArray 38 (0,0)):=by
      refine ⟨R3,F3,hR3.keep (kpc:Keep (OneB b8) _ w24) (fun j e e2=>?_),by rw [hmd];exact hs3,hF4,ii⟩
      have e':j=b8:=e2
      rcases hF4 j e with e3 | e3
      ·have:=hFl j e3;omega
      ·omega
     have hmf:¬ (0<=sz/\good=0)->doAll M (mendT M.files name pn)=M1:=fun hh=>by
      rw [hM1]
      cases hbt:akey M.files (fileN name fz) with
      | none=>
        have:=hm0 hbt
        rw [this.2,if_neg (by omega)]
        rfl
      | some bt=>
        have:=hm1 bt hbt
        rw [this.2,if_neg (by omega)]
        by_cases hg:good<bt.length
        ·rw [if_pos hg,if_pos ⟨by omega,by omega⟩]
         rfl
        ·rw [if_neg hg,if_neg (by omega)]
         rfl
     exact ⟨rfl,hnext,ii,ii,ii,ii,ii,ii,lkc⟩
    refine xt_call rfl (refFile_ok name fz w21 tt tr (by omega) (by omega)) ?_
    rintro _ w25 ⟨rfl,lk104⟩
    refine ⟨kpc,?_⟩
    refine xt_v rfl v_build ?_
    refine xt_e rfl (e_v (v_loadA (r:=none)) ?_)
    refine xt_call rfl (refdo_ok R2 M1 F2 ⟨rmT (fileN name fz),none,0⟩ w25 (hAt2.ext (kpc:Keep NoB _ w25)) hS2 (by omega) (fun j v h=>by simp [bytesC] at h) (Nat.le_refl _) (by simp) (.inr (.inr rfl)) (by have:=nameOk_size (nameOk_file hok.1 fz);show (fileN name fz).size<=_;omega) (by show In64 (0:Int);decide)) ?_
    rintro _ w26 ⟨⟨R3,F3,rfl,hs3,hR3,hF3⟩,lkd⟩
    refine ⟨kpc,?_⟩
    have hszB:w7.heap.size<=(w25).heap.size:=Ge.le
    refine xt_v rfl v_move (xt_v rfl v_extract (xt_v rfl v_extract (xt_Fb rfl ?_)))
    refine xt_s rfl (e_storeA fun w27 l27 k27=>?_)
    refine xt_nil ?_
    have hF4:∀ j,F3 j->F j\/w7.heap.size<=j:=fun j e=>by
     rcases hF3 j e with e2 | e2 | ⟨e2,_⟩
     ·exact hF2 j e2
     ·exact .inr (by omega)
     ·exact absurd rfl e2
    have hnext:∃ (R2:LRef) (F2:Nat->Prop),RefAt w27 F2 R2/\RefS R2 (doAll M (mendT M.files name pn))/\(∀ j,F2 j->F j\/w7.heap.size<=j)/\Blk w27 b8 (.cells (rlogC ⟨R2,name,pn,sure⟩).toArray 38 (0,0)):=by
     refine ⟨R3,F3,hR3.keep (kpc:Keep (OneB b8) _ w27) (fun j e e2=>?_),by rw [hmd];exact hs3,hF4,ii⟩
     have e':j=b8:=e2
     rcases hF4 j e with e3 | e3
     ·have:=hFl j e3;omega
     ·omega
    have hmf:¬ (0<=sz/\good=0)->doAll M (mendT M.files name pn)=M1:=fun hh=>by
     rw [hM1]
     cases hbt:akey M.files (fileN name fz) with
     | none=>
       have:=hm0 hbt
       rw [this.2,if_neg (by omega)]
       rfl
     | some bt=>
       have:=hm1 bt hbt
       rw [this.2,if_neg (by omega)]
       by_cases hg:good<bt.length
       ·rw [if_pos hg,if_pos ⟨by omega,by omega⟩]
        rfl
       ·rw [if_neg hg,if_neg (by omega)]
        rfl
    exact ⟨rfl,hnext,ii,ii,ii,ii,ii,ii,lkc⟩
   refine x_skip ?_
   have hmf:¬ (0<=sz/\good=0)->doAll M (mendT M.files name pn)=M1:=fun hh=>by
    rw [hM1]
    cases hbt:akey M.files (fileN name fz) with
    | none=>
      have:=hm0 hbt
      rw [this.2,if_neg (by omega)]
      rfl
    | some bt=>
      have:=hm1 bt hbt
      rw [this.2,if_neg (by omega)]
      by_cases hg:good<bt.length
      ·rw [if_pos hg,if_pos ⟨by omega,by omega⟩]
       rfl
      ·rw [if_neg hg,if_neg (by omega)]
       rfl
   first
    | exact ⟨rfl,hnext,ii,ii,ii,ii,ii,ii,lkc⟩
    | exact ⟨rfl,⟨R2,F2,hAt2,by rw [hmf (by omega)];exact hS2,hF2,ii⟩,ii,ii,ii,ii,ii,ii,lkc⟩
  have g9:=of_decide_eq_false g67
  refine xl_gs rfl EvO.eq (xl_gs rfl EvO.eq (xl_Pk ?_))
  refine xl_nil ?_
  refine x_condF ?_
  refine x_skip ?_
  have hmf:¬ (0<=sz/\good=0)->doAll M (mendT M.files name pn)=M1:=fun hh=>by
   rw [hM1]
   cases hbt:akey M.files (fileN name fz) with
   | none=>
     have:=hm0 hbt
     rw [this.2,if_neg (by omega)]
     rfl
   | some bt=>
     have:=hm1 bt hbt
     rw [this.2,if_neg (by omega)]
     by_cases hg:good<bt.length
     ·rw [if_pos hg,if_pos ⟨by omega,by omega⟩]
      rfl
     ·rw [if_neg hg,if_neg (by omega)]
      rfl
  first
   | exact ⟨rfl,hnext,ii,ii,ii,ii,ii,ii,lkc⟩
   | exact ⟨rfl,⟨R2,F2,hAt2,by rw [hmf (by omega)];exact hS2,hF2,ii⟩,ii,ii,ii,ii,ii,ii,lkc⟩
 intro τ28 ds28 w28 hI
 obtain ⟨rfl,⟨R2,F2,hAt2,hS2,hF2,kb83⟩,e1,e2,e6,e8,e9,kb63,lk9⟩:=hI
 haveI lk7w:Lk w7 w NoB:=by rw [hw7];exact lk7
 obtain ⟨M2,hM2⟩:∃ M2,M2=doAll M (mendT M.files name pn):=⟨_,rfl⟩
 rw [<- hM2] at hS2
 have hsz9:=lk9.keep.size
 have hM2l:M2.lasts.length+M2.waits.length<=M.lasts.length+M.waits.length+1:=by
  rw [hM2]
  have h7:=doAll_few (mendT M.files name pn) M
  have h8:=mend_len M.files name pn
  omega
 have hL2:RLogW w28 F2 ⟨R2,name,pn,sure⟩ M2:=⟨hAt2,hS2,hok.1,by show 1<=pn;omega,by show pn<=256;omega⟩
 refine xq (xl_Lb ?_)
 refine xl_call (refFiles_ok F2 ⟨R2,name,pn,sure⟩ M2 w28 (hL2.ext (kpc:Keep NoB _ w28))) ?_
 rintro _ w29 ⟨⟨A13,c13,rfl,ho13⟩,lk13⟩
 obtain ⟨ks,hks⟩:∃ ks,ks=ownFiles M2.files name:=⟨_,rfl⟩
 simp only [<- hks] at ho13 ⊢
 have hksl:ks.length<=M2.lasts.length+M2.waits.length:=by rw [hks];exact Nat.le_trans (own_le _ _) (fold_len _ _)
 have hb8p:b8<(w28).heap.size:=Has.lt
 refine xz ?_
 refine x_seq (xq (xm (xl_v v_len ?_)))
 refine xl_v (v_sub (by omega)) ?_
 refine xz ?_
 refine x_block ?_
 have ho13L:=own_ext ho13 (lkc:Lk w29 _ NoB)
 have hr13L:RowP w29 A13 (strs ks):=own_row ho13L
 have h13l:=own_blk ho13
 have hAtL:=hL2.at_.ext (kpc:Keep NoB _ w29)
 have hkey:∀ i (hi:i<ks.length),ks[i].size<=24/\∃ q,ownN name ks[i]=some q:=fun i hi=>by
  have h1:ks[i]∈ownFiles M2.files name:=by rw [<- hks];exact List.getElem_mem hi
  exact own_key hS2.ok.files.2.2 h1
 have h7L:w7.heap.size<=(w29).heap.size:=Ge.le
 refine x_loop (fun t τ ds w'=>ds=[]/\∃ (x:Int) (R1:LRef) (F1:Nat->Prop),t=(x+1).toNat/\-1<=x/\x<ks.length/\RefAt w' F1 R1/\RefS R1 (rmM M2 ks (strayB name pn es.length) (x+1).toNat)/\(∀ j,F1 j->F j\/w7.heap.size<=j)/\Blk w' b8 (.cells (rlogC ⟨R1,name,pn,sure⟩).toArray 38 (0,0))/\Ev τ 1 (.string name)/\Ev τ 2 (.int .i64 (pn:Int))/\Ev τ 6 (ptrV b6)/\Ev τ 8 (ptrV b8)/\Ev τ 9 (.slice A9 es.length c9)/\Ev τ 13 (.slice A13 ks.length c13)/\Ev τ 14 (.int .i64 x)/\Lk w' w29 (OneB b8)) (ks.length) ?start ?round
 case start=>
  exact ⟨rfl,(ks.length:Int) - 1,R2,F2,by omega,by omega,by omega,hAtL,by rw [show ((ks.length:Int) - 1+1).toNat=ks.length by omega,rmM_top];exact hS2,hF2,ii,ii,ii,ii,ii,ii,ii,ii,⟨(Keep.refl _ _)⟩⟩
 case round=>
  intro m τ30 ds30 w30 hI
  obtain ⟨rfl,x,R1,F1,rfl,hx1,hx2,hAt1,hS1,hF1,kb81,e1,e2,e6,e8,e9,e13,e14,lk⟩:=hI
  haveI:RowOut (OneB b8) A13:=⟨fun a ha e=>by have:=(h13l a ha).1;have e':a.block=b8:=e;omega⟩
  haveI hr13:Row w30 A13 (strs ks):=⟨hr13L.keep lk.keep (fun a ha e=>by have:=(h13l a ha).1;have e':a.block=b8:=e;omega)⟩
  refine x_seq (xq (xm (xl_v v_geq (xl_nil ?_))))
  refine x_if (fun c5=>?_) (fun c5=>?_)
  ·obtain ⟨i,rfl⟩:∃ i:Nat,x=(i:Int):=⟨x.toNat,by omega⟩
   rw [show ((i:Int)+1).toNat=i+1 by omega] at hS1
   have hi:i<ks.length:=by omega
   obtain ⟨hfs,q,hq⟩:=hkey i hi
   have hq6:=(own_some hq).2
   have hown:=ownI_some hq
   have hfew1:=rmM_few M2 ks (strayB name pn es.length) (i+1)
   refine x_skip (x_seq (x_block (xq (xm (xm (xm ?_))))))
   refine xl_v (v_indexAddr i rfl (by omega) (row_some hr13 (by simp [strs];omega))) ?_
   refine xl_v (v_loadR (v:=.string ks[i]) (by rw [Nat.mul_one];simp [hi])) ?_
   refine xl_call (refown_ok name ks[i] w30 (by omega) (by omega)) ?_
   rintro _ _ ⟨rfl,rfl⟩
   rw [hown]
   refine xz ?_
   refine xq (xm (xm ?_))
   refine xl_v (v_congr (u:=.int .i64 ((q % pn:Nat):Int)) (v_rem (by omega)) (congrArg (Value.int .i64) (tmodN q pn))) ?_
   refine xl_v v_neq (xm ?_)
   refine xl_split 101 (fun g101=>?_) (fun g101=>?_)
   ·have g16:¬ q % pn=0:=by simp only [Bool.not_eq_true',decide_eq_false_iff_not] at g101;omega
    have hp:strayB name pn es.length ks[i]=true:=by
     unfold strayB
     rw [hq]
     simp
     omega
    refine xl_gs rfl EvO.eq (xl_gs rfl EvO.eq (xl_gs rfl EvO.eq (xl_gs rfl EvO.eq (xl_Pk ?_))))
    refine xl_nil ?_
    refine x_condT ?_
    refine x_drawL (OneB b8) (allS) (.take 0 (.take 2 (.take 3 (.take 4 (.take 5 (.take 6 (.eff 1 (.eff 7 (.take 8 (.take 9 (.take 10 (.take 11 (.eff 12 .done))))))))))))) mixed (by kernel_rfl) (fun _ _ _ _ _ h=>h) (fun w32 l32=>?_)
    refine xt_Fb rfl ?_
    refine xt_v rfl v_move (xt_v rfl v_move ?_)
    refine xt_v rfl (v_indexAddr i rfl (by omega) (row_some hr13 (by simp [strs];omega))) ?_
    refine xt_v rfl (v_loadR (v:=.string ks[i]) (by rw [Nat.mul_one];simp [hi])) ?_
    refine xt_v rfl v_build ?_
    refine xt_e rfl (e_v (v_loadA (r:=none)) ?_)
    refine xt_call rfl (refdo_ok R1 _ F1 ⟨rmT ks[i],none,0⟩ w32 (hAt1.ext (kpc:Keep NoB w30 w32)) hS1 (by omega) (fun j v h=>by simp [bytesC] at h) (Nat.le_refl _) (by simp) (.inr (.inr rfl)) (by show ks[i].size<=_;omega) (show In64 0 by decide)) ?_
    rintro _ w33 ⟨⟨R3,F3,rfl,hs3,hR3,hF3⟩,lkd⟩
    refine ⟨kpc,?_⟩
    have hszB:w7.heap.size<=(w32).heap.size:=Ge.le
    refine xt_v rfl v_move (xt_v rfl v_extract (xt_v rfl v_extract (xt_Fb rfl ?_)))
    refine xt_s rfl (e_storeA fun w34 l34 k34=>?_)
    refine xt_nil ?_
    have hF4:∀ j,F3 j->F j\/w7.heap.size<=j:=fun j e=>by
     rcases hF3 j e with e2 | e2 | ⟨e2,_⟩
     ·exact hF1 j e2
     ·exact .inr (by omega)
     ·exact absurd rfl e2
    have hnext:∃ (R2:LRef) (F2:Nat->Prop),RefAt w34 F2 R2/\RefS R2 (rmM M2 ks (strayB name pn es.length) i)/\(∀ j,F2 j->F j\/w7.heap.size<=j)/\Blk w34 b8 (.cells (rlogC ⟨R2,name,pn,sure⟩).toArray 38 (0,0)):=by
     refine ⟨R3,F3,hR3.keep (kpc:Keep (OneB b8) _ w34) (fun j e e2=>?_),by rw [rmM_step hi,if_pos hp];exact hs3,hF4,ii⟩
     have e':j=b8:=e2
     rcases hF4 j e with e3 | e3
     ·have:=hFl j e3;omega
     ·omega
    refine x_regionL (xm ?_)
    refine xl_v (v_sub (by omega)) ?_
    refine xz ?_
    obtain ⟨R2,F2,p1,p2,p3,p4⟩:=hnext
    haveI:=p4
    exact ⟨_,by omega,rfl,(i:Int) - 1,R2,F2,rfl,by omega,by omega,p1,by rw [show ((i:Int) - 1+1).toNat=i by omega];exact p2,p3,p4,ii,ii,ii,ii,ii,ii,ii,lkc⟩
   have g16:q % pn=0:=by simp only [Bool.not_eq_false',decide_eq_true_eq] at g101;omega
   refine xl_gv rfl EvO.eq v_move (xl_gv rfl EvO.eq v_move (xl_gv rfl EvO.eq v_len (xl_gv rfl EvO.eq v_geq (xl_Pk ?_))))
   refine xl_nil ?_
   refine x_if (fun c6=>?_) (fun c6=>?_)
   ·have hp:strayB name pn es.length ks[i]=true:=by
     unfold strayB
     rw [hq]
     simp
     omega
    refine x_drawL (OneB b8) (allS) (.take 0 (.take 2 (.take 3 (.take 4 (.take 5 (.take 6 (.eff 1 (.eff 7 (.take 8 (.take 9 (.take 10 (.take 11 (.eff 12 .done))))))))))))) mixed (by kernel_rfl) (fun _ _ _ _ _ h=>h) (fun w35 l35=>?_)
    refine xt_Fb rfl ?_
    refine xt_v rfl v_move (xt_v rfl v_move ?_)
    refine xt_v rfl (v_indexAddr i rfl (by omega) (row_some hr13 (by simp [strs];omega))) ?_
    refine xt_v rfl (v_loadR (v:=.string ks[i]) (by rw [Nat.mul_one];simp [hi])) ?_
    refine xt_v rfl v_build ?_
    refine xt_e rfl (e_v (v_loadA (r:=none)) ?_)
    refine xt_call rfl (refdo_ok R1 _ F1 ⟨rmT ks[i],none,0⟩ w35 (hAt1.ext (kpc:Keep NoB w30 w35)) hS1 (by omega) (fun j v h=>by simp [bytesC] at h) (Nat.le_refl _) (by simp) (.inr (.inr rfl)) (by show ks[i].size<=_;omega) (show In64 0 by decide)) ?_
    rintro _ w36 ⟨⟨R3,F3,rfl,hs3,hR3,hF3⟩,lkd⟩
    refine ⟨kpc,?_⟩
    have hszB:w7.heap.size<=(w35).heap.size:=Ge.le
    refine xt_v rfl v_move (xt_v rfl v_extract (xt_v rfl v_extract (xt_Fb rfl ?_)))
    refine xt_s rfl (e_storeA fun w37 l37 k37=>?_)
    refine xt_nil ?_
    have hF4:∀ j,F3 j->F j\/w7.heap.size<=j:=fun j e=>by
     rcases hF3 j e with e2 | e2 | ⟨e2,_⟩
     ·exact hF1 j e2
     ·exact .inr (by omega)
     ·exact absurd rfl e2
    have hnext:∃ (R2:LRef) (F2:Nat->Prop),RefAt w37 F2 R2/\RefS R2 (rmM M2 ks (strayB name pn es.length) i)/\(∀ j,F2 j->F j\/w7.heap.size<=j)/\Blk w37 b8 (.cells (rlogC ⟨R2,name,pn,sure⟩).toArray 38 (0,0)):=by
     refine ⟨R3,F3,hR3.keep (kpc:Keep (OneB b8) _ w37) (fun j e e2=>?_),by rw [rmM_step hi,if_pos hp];exact hs3,hF4,ii⟩
     have e':j=b8:=e2
     rcases hF4 j e with e3 | e3
     ·have:=hFl j e3;omega
     ·omega
    refine x_regionL (xm ?_)
    refine xl_v (v_sub (by omega)) ?_
    refine xz ?_
    obtain ⟨R2,F2,p1,p2,p3,p4⟩:=hnext
    haveI:=p4
    exact ⟨_,by omega,rfl,(i:Int) - 1,R2,F2,rfl,by omega,by omega,p1,by rw [show ((i:Int) - 1+1).toNat=i by omega];exact p2,p3,p4,ii,ii,ii,ii,ii,ii,ii,lkc⟩
   have hp:¬ strayB name pn es.length ks[i]=true:=by
    unfold strayB
    rw [hq]
    simp
    omega
   have hnext:∃ (R2:LRef) (F2:Nat->Prop),RefAt w30 F2 R2/\RefS R2 (rmM M2 ks (strayB name pn es.length) i)/\(∀ j,F2 j->F j\/w7.heap.size<=j)/\Blk w30 b8 (.cells (rlogC ⟨R2,name,pn,sure⟩).toArray 38 (0,0)):=⟨R1,F1,hAt1.ext (kpc:Keep NoB w30 w30),by rw [rmM_step hi,if_neg hp];exact hS1,hF1,ii⟩
   refine x_skip (x_regionL (xm ?_))
   refine xl_v (v_sub (by omega)) ?_
   refine xz ?_
   obtain ⟨R2,F2,p1,p2,p3,p4⟩:=hnext
   haveI:=p4
   exact ⟨_,by omega,rfl,(i:Int) - 1,R2,F2,rfl,by omega,by omega,p1,by rw [show ((i:Int) - 1+1).toNat=i by omega];exact p2,p3,p4,ii,ii,ii,ii,ii,ii,ii,lkc⟩
  rw [show (x+1).toNat=0 by omega] at hS1
  refine x_exit (xq (xl_Lb ?_))
  refine xl_s (e_storeA fun w38 l38 k38=>?_)
  refine xz ?_
  refine x_ret ?_
  refine finR (rs:=[.cell 6 38,.tmp 7]) rfl ?_
  have hend:rmM M2 ks (strayB name pn es.length) 0=openM M name pn:=by
   rw [hks,rmM_end strayB_own]
   unfold openM
   rw [<- hM2,hT]
  rw [hend] at hS1
  rw [if_pos hok,Int.toNat_natCast,hT]
  refine ⟨⟨⟨R1,name,pn,sure⟩,F1,rfl,⟨hAt1.keep (kpc:Keep (OneB b6) _ w38) (fun j e e2=>?_),hS1,hok.1,by show 1<=pn;omega,by show pn<=256;omega⟩,rfl,rfl,hsure,fun j e=>(hF1 j e).imp id (fun e=>by omega)⟩,lkc⟩
  have e':j=b6:=e2
  rcases hF1 j e with e3 | e3
  ·have:=hFl j e3;omega
  ·omega
theorem tolds_len (fs:Fs) (name:ByteArray) {per:Nat} (hp:1<=per):(Go.Wst.Sg.told fs name per).1.length<=4096:=by
 obtain ⟨i,_,h⟩:=told_spec fs name hp
 exact h.len
theorem tolds_right (fs:Fs) (name:ByteArray) {per:Nat} (hp:1<=per):∀ e∈(Go.Wst.Sg.told fs name per).1,Right e:=by
 obtain ⟨i,_,h⟩:=told_spec fs name hp
 exact h.right
set_option maxHeartbeats 2000000 in
theorem refappend_ok (F:Nat->Prop) (r:RLog) (M:Disk) (A:Option Addr) (n c:Nat) (xs:List En) (w:World) (tt:TypeId) (tr:Nat×Nat) [htab:Blk w 0 (.cells tabA tt tr)] (h:RLogW w F r M) (hx:RowP w A (xs.flatMap enC)) (hl:xs.length=n) (hn:n<=9223372036854775807) (hfew:M.lasts.length+M.waits.length+(appD r.name r.per M xs).2.1<=999990):Ret Tryz.prog 14 #[.agg (rlogC r).toArray,.slice A n c] w (fun v w'=>(∃ (r':RLog) (F':Nat->Prop),v=.tuple #[.agg (rlogC r').toArray,.int .i64 ((appD r.name r.per M xs).2.1:Int),.int .i64 (appD r.name r.per M xs).2.2]/\RLogW w' F' r' (appD r.name r.per M xs).1/\r'.name=r.name/\r'.per=r.per/\r'.sure=r.sure/\∀ k,F' k->F k\/w.heap.size<=k)/\Lk w' w NoB):=by
 have hns:=h.size
 have hp1:=h.per1
 have hp2:=h.per2
 haveI hrx:Row w A (xs.flatMap enC):=⟨hx⟩
 refine ret_of_x (N:=87) (l:=[.agg (rlogC r).toArray,.slice A n c]) Tryz.func14 rfl rfl (Nat.le_of_ble_eq_true rfl) ?_
 refine xq ?_
 refine xl_e (e_box fun b2 w1 nb2 lb2 kb2=>?_)
 refine xl_e (e_alloc fun b4 w2 nb4 lb4 kb4=>?_)
 refine xa (xz ?_)
 refine x_seq (xq (xz ?_))
 refine x_block ?_
 have hb2w:w.heap.size<=b2:=Nat.le_of_eq nb2.eq.symm
 have hb4w:w.heap.size<=b4:=by rw [nb4.eq];exact Ge.le
 have hAtL:=h.at_.ext (kpc:Keep NoB w w2)
 have hFl:=h.at_.lt
 obtain ⟨wL,hwL⟩:∃ x,x=w2:=⟨_,rfl⟩
 have hb2l:b2<wL.heap.size:=by rw [hwL];exact Has.lt
 have hb4l:b4<wL.heap.size:=by rw [hwL];exact Has.lt
 have hszL:w.heap.size<=wL.heap.size:=by rw [hwL];exact Ge.le
 have hxl:∀ a,A=some a->xs≠[]->a.block<w.heap.size:=fun a ha hne=>(rowB_of hx).far.resolve_left (by
  intro e
  have h1:(xs.flatMap enC).length=xs.length*6:=flat_len (enc:=enC) (sz:=6) (fun _=>rfl) xs
  rw [e] at h1
  have:=List.length_pos_iff.2 hne
  simp at h1
  omega) a ha
 refine x_loop (fun t τ ds w'=>ds=[]/\∃ (k:Nat) (R1:LRef) (F1:Nat->Prop) (M1:Disk),t=n - k/\k<=n/\RefAt w' F1 R1/\RefS R1 M1/\(∀ j,F1 j->F j\/wL.heap.size<=j)/\M1.lasts.length+M1.waits.length<=M.lasts.length+M.waits.length+k/\appD r.name r.per M xs=((appD r.name r.per M1 (xs.drop k)).1,(appD r.name r.per M1 (xs.drop k)).2.1+k,(appD r.name r.per M1 (xs.drop k)).2.2)/\Blk w' b2 (.cells (rlogC ⟨R1,r.name,r.per,r.sure⟩).toArray 38 (0,0))/\Ev τ 1 (.slice A n c)/\Ev τ 2 (ptrV b2)/\Ev τ 4 (ptrV b4)/\Ev τ 7 (.int .i64 (k:Int))/\Lk w' w2 (OneB b2)) (n) ?start ?round
 case start=>
  exact ⟨rfl,0,r.R,F,M,rfl,Nat.zero_le _,hAtL,h.s,fun j e=>.inl e,by omega,by simp,ii,ii,ii,ii,evc,⟨(Keep.refl _ _)⟩⟩
 case round=>
  intro m τ3 ds3 w3 hI
  obtain ⟨rfl,k,R1,F1,M1,rfl,hk,hAt1,hS1,hF1,hfew1,happ,kb21,e1,e2,e4,e7,lk⟩:=hI
  have hL1:RLogW w3 F1 ⟨R1,r.name,r.per,r.sure⟩ M1:=⟨hAt1,hS1,h.name,h.per1,h.per2⟩
  have htl:=tolds_len M1.files r.name (per:=r.per) hp1
  obtain ⟨es,hes⟩:∃ es,es=(Go.Wst.Sg.told M1.files r.name r.per).1:=⟨_,rfl⟩
  have hkn:k<=(appD r.name r.per M xs).2.1:=by rw [happ];exact Nat.le_add_left _ _
  have hszB:wL.heap.size<=(w3).heap.size:=by rw [hwL];exact lk.keep.size
  have hend:∀ (W W':World) (F2:Nat->Prop) (R2:LRef) (M2:Disk),RefAt W F2 R2->RefS R2 M2->Keep (OneB b4) W W'->(∀ j,F2 j->F j\/wL.heap.size<=j)->RLogW W' F2 ⟨R2,r.name,r.per,r.sure⟩ M2/\∀ j,F2 j->F j\/w.heap.size<=j:=fun W W' F2 R2 M2 q1 q2 q3 q4=>⟨⟨q1.keep q3 (fun j e e2=>by
   have e':j=b4:=e2
   rcases q4 j e with e3 | e3
   ·have:=hFl j e3;omega
   ·omega),q2,h.name,h.per1,h.per2⟩,fun j e=>(q4 j e).imp id (fun e=>by omega)⟩
  refine x_seq (xq (xm (xm (xl_v v_len (xl_v v_lss (xl_nil ?_))))))
  refine x_if (fun c1=>?_) (fun c1=>?_)
  ·have hk1:k<xs.length:=by omega
   have hne:xs≠[]:=fun e=>by rw [e] at hk1;simp at hk1
   haveI:RowOut (OneB b2) A:=⟨fun a ha e=>by have:=hxl a ha hne;have e':a.block=b2:=e;omega⟩
   haveI hrx1:Row w3 A (xs.flatMap enC):=⟨hx.keep (kpc:Keep (OneB b2) w w3) (fun a ha e=>by have:=hxl a ha hne;have e':a.block=b2:=e;omega)⟩
   have hstop:∀ no:Int,appNo M1 r.name r.per es xs[k]=no->no≠0->appD r.name r.per M xs=(M1,k,no):=fun no h1 h2=>by
    rw [happ,List.drop_eq_getElem_cons hk1,appD,<- hes,h1,if_neg h2]
    simp
   refine x_skip (x_seq (x_block (xq (xl_Lb ?_))))
   refine xl_call (refall_ok F1 ⟨R1,r.name,r.per,r.sure⟩ M1 w3 tt tr (hL1.ext (kpc:Keep NoB w3 w3))) ?_
   rintro _ w4 ⟨⟨A8,c8,rfl,ho8⟩,lk8⟩
   simp only [<- hes] at ho8 htl ⊢
   haveI hr8:Row w4 A8 (es.flatMap enC):=⟨own_row ho8⟩
   have hA8l:=own_blk ho8
   refine xz ?_
   refine x_seq (xq (xm (xm ?_)))
   refine xl_v (v_indexF k (by decide) rfl (by omega) hk1) ?_
   refine xl_v (v_loadF (k:=k) (by decide) hk1) ?_
   refine xl_call (dright_ok xs[k] w4) ?_
   rintro _ w5 ⟨rfl,lk5⟩
   refine xl_v v_not (xl_nil ?_)
   refine x_if (fun c2=>?_) (fun c2=>?_)
   ·refine xq (xl_Lb ?_)
    refine xm ?_
    refine xl_s (e_storeA fun w6 l6 k6=>?_)
    refine xa (xz ?_)
    refine x_ret ?_
    refine finR (rs:=[.cell 4 38,.tmp 5,.tmp 6]) rfl ?_
    have hR:¬ Right xs[k]:=by simpa using c2
    have hno:appNo M1 r.name r.per es xs[k]=2:=by unfold appNo;rw [if_pos hR]
    have hst:=hstop 2 hno (by decide)
    rw [hst]
    have hE:=hend _ w6 F1 R1 M1 (hAt1.ext (kpc:Keep NoB w3 _)) hS1 (kpc:Keep (OneB b4) w3 w6) hF1
    exact ⟨⟨_,F1,rfl,hE.1,rfl,rfl,rfl,hE.2⟩,lkc⟩
   have hR:Right xs[k]:=by simpa using c2
   refine x_skip (x_seq (xq (xm (xl_v v_len (xl_v v_geq (xl_nil ?_))))))
   refine x_if (fun c3=>?_) (fun c3=>?_)
   ·refine xq (xl_Lb ?_)
    refine xm ?_
    refine xl_s (e_storeA fun w7 l7 k7=>?_)
    refine xa (xz ?_)
    refine x_ret ?_
    refine finR (rs:=[.cell 4 38,.tmp 5,.tmp 6]) rfl ?_
    have hno:appNo M1 r.name r.per es xs[k]=3:=by unfold appNo;rw [if_neg (fun e=>e hR),if_pos (by omega)]
    have hst:=hstop 3 hno (by decide)
    rw [hst]
    have hE:=hend _ w7 F1 R1 M1 (hAt1.ext (kpc:Keep NoB w3 _)) hS1 (kpc:Keep (OneB b4) w3 w7) hF1
    exact ⟨⟨_,F1,rfl,hE.1,rfl,rfl,rfl,hE.2⟩,lkc⟩
   refine x_skip ?_
   refine x_cut (fun τ ds w'=>ds=[]/\¬ (es≠[]/\xs[k].epoch<lastE 0 es)/\es.length<4096/\Ev τ 1 (.slice A n c)/\Ev τ 2 (ptrV b2)/\Ev τ 4 (ptrV b4)/\Ev τ 7 (.int .i64 (k:Int))/\Ev τ 8 (.slice A8 es.length c8)/\Lk w' w3 NoB) ?_ ?_
   ·refine x_seq ?_
    refine x_drawL (NoB) (allS) (.take 0 (.take 1 (.take 2 (.take 3 (.take 4 (.take 5 (.take 6 (.take 7 (.take 8 (.take 9 (.take 10 (.take 11 (.take 12 (.take 13 (.take 14 (.take 15 (.take 16 (.take 17 .done)))))))))))))))))) mixed (by kernel_rfl) (fun _ _ _ _ _ h=>h) (fun w8 l8=>?_)
    refine xt_v rfl v_move (xt_v rfl v_len ?_)
    refine xt_v rfl v_gtr ?_
    refine xt_v rfl v_move ?_
    refine xt_split 36 (fun g36=>?_) (fun g36=>?_)
    ·have g9:=of_decide_eq_true g36
     have hne8:es.length≠0:=by omega
     refine xt_gv rfl rfl EvO.eq v_move (xt_gv rfl rfl EvO.eq v_move ?_)
     refine xt_gv rfl rfl EvO.eq (v_indexF k (by decide) rfl (by omega) hk1) ?_
     refine xt_gFb rfl rfl EvO.eq ?_
     refine xt_gv rfl rfl EvO.eq (v_loadF0 hk1) ?_
     refine xt_gv rfl rfl EvO.eq v_move (xt_gv rfl rfl EvO.eq v_move (xt_gv rfl rfl EvO.eq v_len ?_))
     refine xt_gv rfl rfl EvO.eq (v_sub (by omega)) ?_
     refine xt_gv rfl rfl EvO.eq (v_indexF (es.length - 1) (by decide) (by omega) (by omega) (by omega)) ?_
     refine xt_gFb rfl rfl EvO.eq ?_
     refine xt_gv rfl rfl EvO.eq (v_congr (u:=.int .i64 (lastE 0 es)) (v_loadF0 (by omega)) (by rw [lastE_get hne8])) ?_
     refine xt_gv rfl rfl EvO.eq v_lss ?_
     refine xt_Pk rfl ?_
     refine xt_nil ?_
     refine x_if (fun c4=>?_) (fun c4=>?_)
     ·refine xq (xl_Lb ?_)
      refine xm ?_
      refine xl_s (e_storeA fun w9 l9 k9=>?_)
      refine xa (xz ?_)
      refine x_ret ?_
      refine finR (rs:=[.cell 4 38,.tmp 5,.tmp 6]) rfl ?_
      have hno:appNo M1 r.name r.per es xs[k]=140:=by unfold appNo;rw [if_neg (fun e=>e hR),if_neg (by omega),if_pos ⟨fun e=>by rw [e] at hne8;simp at hne8,by omega⟩]
      have hst:=hstop 140 hno (by decide)
      rw [hst]
      have hE:=hend _ w9 F1 R1 M1 (hAt1.ext (kpc:Keep NoB w3 _)) hS1 (kpc:Keep (OneB b4) w3 w9) hF1
      exact ⟨⟨_,F1,rfl,hE.1,rfl,rfl,rfl,hE.2⟩,lkc⟩
     refine x_skip ?_
     refine ⟨rfl,?_,by omega,ii,ii,ii,ii,ii,lkc⟩
     (rintro ⟨q1,q2⟩
      exact q1 (List.eq_nil_of_length_eq_zero (by omega)))
    have g9:=of_decide_eq_false g36
    refine xt_gs rfl rfl EvO.eq (xt_gs rfl rfl EvO.eq (xt_gs rfl rfl EvO.eq (xt_gs rfl rfl EvO.eq (xt_gs rfl rfl EvO.eq (xt_gs rfl rfl EvO.eq (xt_gs rfl rfl EvO.eq (xt_gs rfl rfl EvO.eq (xt_gs rfl rfl EvO.eq (xt_gs rfl rfl EvO.eq (xt_gs rfl rfl EvO.eq (xt_gs rfl rfl EvO.eq (xt_gs rfl rfl EvO.eq (xt_Pk rfl ?_)))))))))))))
    refine xt_nil ?_
    refine x_condF ?_
    refine x_skip ?_
    refine ⟨rfl,?_,by omega,ii,ii,ii,ii,ii,lkc⟩
    (rintro ⟨q1,q2⟩
     exact q1 (List.eq_nil_of_length_eq_zero (by omega)))
   intro τ10 ds10 w10 hI
   obtain ⟨rfl,hq,hl8,e1,e2,e4,e7,e8,lk11⟩:=hI
   have hfx:=frame_len hR
   obtain ⟨bq,hbq⟩:∃ bq,bq=es.length / r.per:=⟨_,rfl⟩
   have hdm:=Nat.div_mul_le_self es.length r.per
   have hdl:=Nat.div_le_self es.length r.per
   rw [<- hbq] at hdm hdl
   have hput:(⟨0,fileN r.name (bq*r.per),frame xs[k],0⟩:Thing)=putT r.name r.per es.length xs[k]:=by rw [hbq]
   have hq0:appNo M1 r.name r.per es xs[k]=M1.doNo ⟨0,fileN r.name (bq*r.per),frame xs[k],0⟩:=by rw [hput];unfold appNo;rw [if_neg (fun e=>e hR),if_neg (by omega),if_neg hq]
   haveI hrx2:Row w10 A (xs.flatMap enC):=⟨hrx1.row.keep lk11.keep (fun _ _ h=>h)⟩
   refine x_seq ?_
   refine x_drawL (NoB) (allS) (.take 0 (.take 1 (.take 2 (.take 3 (.take 4 (.take 5 (.take 6 (.take 7 (.take 8 .done))))))))) mixed (by kernel_rfl) (fun _ _ _ _ _ h=>h) (fun w11 l11=>?_)
   refine xt_v rfl v_move (xt_v rfl v_len (xt_Fb rfl ?_))
   refine xt_Lc rfl ?_
   refine xt_v rfl (v_congr (u:=.int .i64 (bq:Int)) (v_quo (by show (r.per:Int)≠0;omega)) (congrArg (Value.int .i64) (by show IntKind.i64.wrap ((es.length:Int).tdiv (r.per:Int))=_;rw [tdivN,<- hbq];exact wrap_in (by omega) (by omega)))) ?_
   refine xt_Fb rfl ?_
   refine xt_Lc rfl ?_
   refine xt_v rfl (v_congr (u:=.int .i64 ((bq*r.per:Nat):Int)) (v_mul (by show In64 ((bq:Int)*(r.per:Int));rw [<- Int.natCast_mul];omega)) (congrArg (Value.int .i64) (Int.natCast_mul _ _).symm)) ?_
   refine xt_v rfl v_assign (xt_nil ?_)
   refine x_seq ?_
   haveI:RowOut (NewS w11) A:=⟨fun a ha e=>by have h1:=hxl a ha hne;have h2:wL.heap.size<=(w11).heap.size:=by { rw [hwL];exact Ge.le };have e':(w11).heap.size<=a.block:=e;omega⟩
   refine x_drawL (NewS w11) (allS) (.take 0 (.take 1 (.take 2 (.take 3 (.take 4 (.take 6 (.take 7 (.take 8 (.take 9 (.fork 5 (.fork 10 (.take 11 (.fork 12 (.take 13 (.take 14 (.take 15 (.eff 16 (.eff 17 (.take 18 .done)))))) 16 (.eff 12 (.take 13 (.take 14 (.take 15 (.eff 17 (.take 18 .done)))))))) 16 (.eff 10 (.take 11 (.eff 12 (.take 13 (.take 14 (.take 15 (.eff 17 (.take 18 .done))))))))) 16 (.eff 5 (.eff 10 (.take 11 (.eff 12 (.take 13 (.take 14 (.take 15 (.eff 17 (.take 18 .done))))))))))))))))))) mixed (by kernel_rfl) (fun _ _ _ _ _ h=>h) (fun w12 l12=>?_)
   refine xt_Fb rfl ?_
   refine xt_Lb rfl ?_
   refine xt_Fb rfl ?_
   refine xt_Lc rfl ?_
   refine xt_v rfl v_move (xt_v rfl v_move (xt_v rfl v_move ?_))
   refine xt_v rfl (v_indexF k (by decide) rfl (by omega) hk1) ?_
   refine xt_v rfl (v_loadF (k:=k) (by decide) hk1) ?_
   refine xt_fork ?_ ?_
   ·refine xt_call rfl (refFile_ok r.name (bq*r.per) w12 tt tr (by omega) (by omega)) ?_
    rintro _ w13 ⟨rfl,lk125⟩
    refine ⟨kpc,?_⟩
    refine xt_fork ?_ ?_
    ·refine xt_call rfl (dframe_ok xs[k] w13 hR) ?_
     rintro _ w14 ⟨⟨A12,c12,rfl,ho12⟩,lk1210⟩
     refine ⟨kpc,?_⟩
     have hc12:=own_cap ho12
     have hb12:=own_blk ho12
     have hszF:wL.heap.size<=(w13).heap.size:=by rw [hwL];exact Ge.le
     obtain ⟨wF,hwF⟩:∃ x,x=w13:=⟨_,rfl⟩
     obtain ⟨wG,hwG⟩:∃ x,x=w14:=⟨_,rfl⟩
     rw [<- hwF,<- hwG] at hb12
     rw [<- hwF] at hszF
     refine xt_v rfl v_build ?_
     refine xt_fork ?_ ?_
     ·refine xt_call rfl (refdo_ok R1 M1 F1 ⟨⟨0,fileN r.name (bq*r.per),frame xs[k],0⟩,A12,c12⟩ w14 (hAt1.ext (kpc:Keep NoB w3 w14)) hS1 (by omega) (own_row (own_ext ho12 (lkc:Lk w14 _ NoB))) (by show (frame xs[k]).length<=c12;omega) (by show (frame xs[k]).length<=_;omega) (.inl rfl) (by have:=nameOk_size (nameOk_file h.name (bq*r.per));show (fileN r.name _).size<=_;omega) (show In64 (0:Int) by decide)) ?_
      rintro _ w15 ⟨⟨R2,F2,rfl,hS2,hR2,hF2⟩,lkd⟩
      refine ⟨kpc,?_⟩
      have hszP:wL.heap.size<=(w14).heap.size:=by rw [hwL];exact Ge.le
      obtain ⟨wP,hwP⟩:∃ x,x=w14:=⟨_,rfl⟩
      obtain ⟨wD,hwD⟩:∃ x,x=w15:=⟨_,rfl⟩
      rw [<- hwP] at hszP hF2
      refine xt_v rfl v_move (xt_v rfl v_extract (xt_v rfl v_extract ?_))
      refine xt_e rfl (e_alloc fun b10 w16 nb10 lb10 kb10=>?_)
      refine xt_s rfl (e_storeA fun w17 l17 k17=>?_)
      refine xt_v rfl v_assign (xt_nil ?_)
      have hF3:∀ j,F2 j->F j\/wL.heap.size<=j:=fun j e=>by
       rcases hF2 j e with e2 | e2 | ⟨_,a,ha,e2⟩
       ·exact hF1 j e2
       ·exact .inr (by omega)
       ·have h9:=(hb12 a ha).1
        exact .inr (by omega)
      have hB10:(w3).heap.size<=b10:=by rw [nb10.eq];exact Ge.le
      have hord1:b10<wP.heap.size\/wD.heap.size<=b10:=by
       first
        | exact .inl (by rw [hwP];exact Has.lt)
        | exact .inr (by rw [hwD,nb10.eq];exact Ge.le)
      have hord2:b10<wF.heap.size\/wG.heap.size<=b10:=by
       first
        | exact .inl (by rw [hwF];exact Has.lt)
        | exact .inr (by rw [hwG,nb10.eq];exact Ge.le)
      have hDl:=hR2.lt
      have h1l:=hAt1.lt
      rw [<- hwD] at hDl
      have hR2w:RefAt w17 F2 R2:=hR2.keep (kpc:Keep (OneB b10) _ w17) (fun j e e2=>by
       have e':j=b10:=e2
       have h8:=hDl j e
       rcases hF2 j e with e3 | e3 | ⟨_,a,ha,e3⟩
       ·have:=h1l j e3;omega
       ·omega
       ·have h9:=hb12 a ha
        have e4:a.block=j:=e3
        omega)
      have hfew2:(M1.does ⟨0,fileN r.name (bq*r.per),frame xs[k],0⟩).lasts.length+(M1.does ⟨0,fileN r.name (bq*r.per),frame xs[k],0⟩).waits.length<=M1.lasts.length+M1.waits.length+1:=doNo_few M1 _
      have hS2':RefS R2 (M1.does ⟨0,fileN r.name (bq*r.per),frame xs[k],0⟩):=hS2
      refine x_seq (xq (xm (xl_v v_neq (xl_nil ?_))))
      refine x_if (fun c5=>?_) (fun c5=>?_)
      ·refine xq (xl_Lb ?_)
       refine xm (xm ?_)
       refine xl_s (e_storeA fun w18 l18 k18=>?_)
       refine xa (xz ?_)
       refine x_ret ?_
       refine finR (rs:=[.cell 4 38,.tmp 5,.tmp 6]) rfl ?_
       have hno:appNo M1 r.name r.per es xs[k]≠0:=by rw [hq0];simpa using c5
       have hst:=hstop _ rfl hno
       rw [hst,hq0]
       have hE:=hend _ w18 F1 R1 M1 (hAt1.ext (kpc:Keep NoB w3 _)) hS1 (kpc:Keep (OneB b4) w3 w18) hF1
       exact ⟨⟨_,F1,rfl,hE.1,rfl,rfl,rfl,hE.2⟩,lkc⟩
      have hno:appNo M1 r.name r.per es xs[k]=0:=by rw [hq0];simpa using c5
      refine x_skip (x_regionL (xl_Lb ?_))
      refine xl_Fb ?_
      refine xl_s (e_storeA fun w19 l19 k19=>?_)
      refine xl_nil ?_
      have hAt2:RefAt w19 F2 R2:=hR2w.keep (kpc:Keep (OneB b2) _ w19) (fun j e e2=>by
       have e':j=b2:=e2
       rcases hF3 j e with e3 | e3
       ·have:=hFl j e3;omega
       ·omega)
      refine x_regionL (xm ?_)
      refine xl_v (v_add (by omega)) ?_
      refine xz ?_
      refine ⟨_,?_,rfl,k+1,R2,F2,_,rfl,by omega,hAt2,hS2',hF3,?_,?_,ii,ii,ii,ii,evc,lkc⟩
      ·omega
      ·omega
      ·rw [happ,List.drop_eq_getElem_cons hk1,appD,<- hes,if_pos hno,<- hput]
       simp only [Nat.add_assoc,Nat.add_comm 1 k]
     refine xt_e rfl (e_alloc fun b10 w20 nb10 lb10 kb10=>?_)
     refine xt_call rfl (refdo_ok R1 M1 F1 ⟨⟨0,fileN r.name (bq*r.per),frame xs[k],0⟩,A12,c12⟩ w20 (hAt1.ext (kpc:Keep NoB w3 w20)) hS1 (by omega) (own_row (own_ext ho12 (lkc:Lk w20 _ NoB))) (by show (frame xs[k]).length<=c12;omega) (by show (frame xs[k]).length<=_;omega) (.inl rfl) (by have:=nameOk_size (nameOk_file h.name (bq*r.per));show (fileN r.name _).size<=_;omega) (show In64 (0:Int) by decide)) ?_
     rintro _ w21 ⟨⟨R2,F2,rfl,hS2,hR2,hF2⟩,lkd⟩
     refine ⟨kpc,?_⟩
     have hszP:wL.heap.size<=(w20).heap.size:=by rw [hwL];exact Ge.le
     obtain ⟨wP,hwP⟩:∃ x,x=w20:=⟨_,rfl⟩
     obtain ⟨wD,hwD⟩:∃ x,x=w21:=⟨_,rfl⟩
     rw [<- hwP] at hszP hF2
     refine xt_v rfl v_move (xt_v rfl v_extract (xt_v rfl v_extract ?_))
     refine xt_s rfl (e_storeA fun w22 l22 k22=>?_)
     refine xt_v rfl v_assign (xt_nil ?_)
     have hF3:∀ j,F2 j->F j\/wL.heap.size<=j:=fun j e=>by
      rcases hF2 j e with e2 | e2 | ⟨_,a,ha,e2⟩
      ·exact hF1 j e2
      ·exact .inr (by omega)
      ·have h9:=(hb12 a ha).1
       exact .inr (by omega)
     have hB10:(w3).heap.size<=b10:=by rw [nb10.eq];exact Ge.le
     have hord1:b10<wP.heap.size\/wD.heap.size<=b10:=by
      exact .inl (by rw [hwP];exact Has.lt)
     have hord2:b10<wF.heap.size\/wG.heap.size<=b10:=by
      first
       | exact .inl (by rw [hwF];exact Has.lt)
       | exact .inr (by rw [hwG,nb10.eq];exact Ge.le)
     have hDl:=hR2.lt
     have h1l:=hAt1.lt
     rw [<- hwD] at hDl
     have hR2w:RefAt w22 F2 R2:=hR2.keep (kpc:Keep (OneB b10) _ w22) (fun j e e2=>by
      have e':j=b10:=e2
      have h8:=hDl j e
      rcases hF2 j e with e3 | e3 | ⟨_,a,ha,e3⟩
      ·have:=h1l j e3;omega
      ·omega
      ·have h9:=hb12 a ha
       have e4:a.block=j:=e3
       omega)
     have hfew2:(M1.does ⟨0,fileN r.name (bq*r.per),frame xs[k],0⟩).lasts.length+(M1.does ⟨0,fileN r.name (bq*r.per),frame xs[k],0⟩).waits.length<=M1.lasts.length+M1.waits.length+1:=doNo_few M1 _
     have hS2':RefS R2 (M1.does ⟨0,fileN r.name (bq*r.per),frame xs[k],0⟩):=hS2
     refine x_seq (xq (xm (xl_v v_neq (xl_nil ?_))))
     refine x_if (fun c5=>?_) (fun c5=>?_)
     ·refine xq (xl_Lb ?_)
      refine xm (xm ?_)
      refine xl_s (e_storeA fun w23 l23 k23=>?_)
      refine xa (xz ?_)
      refine x_ret ?_
      refine finR (rs:=[.cell 4 38,.tmp 5,.tmp 6]) rfl ?_
      have hno:appNo M1 r.name r.per es xs[k]≠0:=by rw [hq0];simpa using c5
      have hst:=hstop _ rfl hno
      rw [hst,hq0]
      have hE:=hend _ w23 F1 R1 M1 (hAt1.ext (kpc:Keep NoB w3 _)) hS1 (kpc:Keep (OneB b4) w3 w23) hF1
      exact ⟨⟨_,F1,rfl,hE.1,rfl,rfl,rfl,hE.2⟩,lkc⟩
     have hno:appNo M1 r.name r.per es xs[k]=0:=by rw [hq0];simpa using c5
     refine x_skip (x_regionL (xl_Lb ?_))
     refine xl_Fb ?_
     refine xl_s (e_storeA fun w24 l24 k24=>?_)
     refine xl_nil ?_
     have hAt2:RefAt w24 F2 R2:=hR2w.keep (kpc:Keep (OneB b2) _ w24) (fun j e e2=>by
      have e':j=b2:=e2
      rcases hF3 j e with e3 | e3
      ·have:=hFl j e3;omega
      ·omega)
     refine x_regionL (xm ?_)
     refine xl_v (v_add (by omega)) ?_
     refine xz ?_
     refine ⟨_,?_,rfl,k+1,R2,F2,_,rfl,by omega,hAt2,hS2',hF3,?_,?_,ii,ii,ii,ii,evc,lkc⟩
     ·omega
     ·omega
     ·rw [happ,List.drop_eq_getElem_cons hk1,appD,<- hes,if_pos hno,<- hput]
      simp only [Nat.add_assoc,Nat.add_comm 1 k]
    refine xt_e rfl (e_alloc fun b10 w25 nb10 lb10 kb10=>?_)
    refine xt_call rfl (dframe_ok xs[k] w25 hR) ?_
    rintro _ w26 ⟨⟨A12,c12,rfl,ho12⟩,lk1210⟩
    refine ⟨kpc,?_⟩
    have hc12:=own_cap ho12
    have hb12:=own_blk ho12
    have hszF:wL.heap.size<=(w25).heap.size:=by rw [hwL];exact Ge.le
    obtain ⟨wF,hwF⟩:∃ x,x=w25:=⟨_,rfl⟩
    obtain ⟨wG,hwG⟩:∃ x,x=w26:=⟨_,rfl⟩
    rw [<- hwF,<- hwG] at hb12
    rw [<- hwF] at hszF
    refine xt_v rfl v_build ?_
    refine xt_call rfl (refdo_ok R1 M1 F1 ⟨⟨0,fileN r.name (bq*r.per),frame xs[k],0⟩,A12,c12⟩ w26 (hAt1.ext (kpc:Keep NoB w3 w26)) hS1 (by omega) (own_row (own_ext ho12 (lkc:Lk w26 _ NoB))) (by show (frame xs[k]).length<=c12;omega) (by show (frame xs[k]).length<=_;omega) (.inl rfl) (by have:=nameOk_size (nameOk_file h.name (bq*r.per));show (fileN r.name _).size<=_;omega) (show In64 (0:Int) by decide)) ?_
    rintro _ w27 ⟨⟨R2,F2,rfl,hS2,hR2,hF2⟩,lkd⟩
    refine ⟨kpc,?_⟩
    have hszP:wL.heap.size<=(w26).heap.size:=by rw [hwL];exact Ge.le
    obtain ⟨wP,hwP⟩:∃ x,x=w26:=⟨_,rfl⟩
    obtain ⟨wD,hwD⟩:∃ x,x=w27:=⟨_,rfl⟩
    rw [<- hwP] at hszP hF2
    refine xt_v rfl v_move (xt_v rfl v_extract (xt_v rfl v_extract ?_))
    refine xt_s rfl (e_storeA fun w28 l28 k28=>?_)
    refine xt_v rfl v_assign (xt_nil ?_)
    have hF3:∀ j,F2 j->F j\/wL.heap.size<=j:=fun j e=>by
     rcases hF2 j e with e2 | e2 | ⟨_,a,ha,e2⟩
     ·exact hF1 j e2
     ·exact .inr (by omega)
     ·have h9:=(hb12 a ha).1
      exact .inr (by omega)
    have hB10:(w3).heap.size<=b10:=by rw [nb10.eq];exact Ge.le
    have hord1:b10<wP.heap.size\/wD.heap.size<=b10:=by
     exact .inl (by rw [hwP];exact Has.lt)
    have hord2:b10<wF.heap.size\/wG.heap.size<=b10:=by
     exact .inl (by rw [hwF];exact Has.lt)
    have hDl:=hR2.lt
    have h1l:=hAt1.lt
    rw [<- hwD] at hDl
    have hR2w:RefAt w28 F2 R2:=hR2.keep (kpc:Keep (OneB b10) _ w28) (fun j e e2=>by
     have e':j=b10:=e2
     have h8:=hDl j e
     rcases hF2 j e with e3 | e3 | ⟨_,a,ha,e3⟩
     ·have:=h1l j e3;omega
     ·omega
     ·have h9:=hb12 a ha
      have e4:a.block=j:=e3
      omega)
    have hfew2:(M1.does ⟨0,fileN r.name (bq*r.per),frame xs[k],0⟩).lasts.length+(M1.does ⟨0,fileN r.name (bq*r.per),frame xs[k],0⟩).waits.length<=M1.lasts.length+M1.waits.length+1:=doNo_few M1 _
    have hS2':RefS R2 (M1.does ⟨0,fileN r.name (bq*r.per),frame xs[k],0⟩):=hS2
    refine x_seq (xq (xm (xl_v v_neq (xl_nil ?_))))
    refine x_if (fun c5=>?_) (fun c5=>?_)
    ·refine xq (xl_Lb ?_)
     refine xm (xm ?_)
     refine xl_s (e_storeA fun w29 l29 k29=>?_)
     refine xa (xz ?_)
     refine x_ret ?_
     refine finR (rs:=[.cell 4 38,.tmp 5,.tmp 6]) rfl ?_
     have hno:appNo M1 r.name r.per es xs[k]≠0:=by rw [hq0];simpa using c5
     have hst:=hstop _ rfl hno
     rw [hst,hq0]
     have hE:=hend _ w29 F1 R1 M1 (hAt1.ext (kpc:Keep NoB w3 _)) hS1 (kpc:Keep (OneB b4) w3 w29) hF1
     exact ⟨⟨_,F1,rfl,hE.1,rfl,rfl,rfl,hE.2⟩,lkc⟩
    have hno:appNo M1 r.name r.per es xs[k]=0:=by rw [hq0];simpa using c5
    refine x_skip (x_regionL (xl_Lb ?_))
    refine xl_Fb ?_
    refine xl_s (e_storeA fun w30 l30 k30=>?_)
    refine xl_nil ?_
    have hAt2:RefAt w30 F2 R2:=hR2w.keep (kpc:Keep (OneB b2) _ w30) (fun j e e2=>by
     have e':j=b2:=e2
     rcases hF3 j e with e3 | e3
     ·have:=hFl j e3;omega
     ·omega)
    refine x_regionL (xm ?_)
    refine xl_v (v_add (by omega)) ?_
    refine xz ?_
    refine ⟨_,?_,rfl,k+1,R2,F2,_,rfl,by omega,hAt2,hS2',hF3,?_,?_,ii,ii,ii,ii,evc,lkc⟩
    ·omega
    ·omega
    ·rw [happ,List.drop_eq_getElem_cons hk1,appD,<- hes,if_pos hno,<- hput]
     simp only [Nat.add_assoc,Nat.add_comm 1 k]
   refine xt_e rfl (e_alloc fun b10 w31 nb10 lb10 kb10=>?_)
   refine xt_call rfl (refFile_ok r.name (bq*r.per) w31 tt tr (by omega) (by omega)) ?_
   rintro _ w32 ⟨rfl,lk125⟩
   refine ⟨kpc,?_⟩
   refine xt_call rfl (dframe_ok xs[k] w32 hR) ?_
   rintro _ w33 ⟨⟨A12,c12,rfl,ho12⟩,lk1210⟩
   refine ⟨kpc,?_⟩
   have hc12:=own_cap ho12
   have hb12:=own_blk ho12
   have hszF:wL.heap.size<=(w32).heap.size:=by rw [hwL];exact Ge.le
   obtain ⟨wF,hwF⟩:∃ x,x=w32:=⟨_,rfl⟩
   obtain ⟨wG,hwG⟩:∃ x,x=w33:=⟨_,rfl⟩
   rw [<- hwF,<- hwG] at hb12
   rw [<- hwF] at hszF
   refine xt_v rfl v_build ?_
   refine xt_call rfl (refdo_ok R1 M1 F1 ⟨⟨0,fileN r.name (bq*r.per),frame xs[k],0⟩,A12,c12⟩ w33 (hAt1.ext (kpc:Keep NoB w3 w33)) hS1 (by omega) (own_row (own_ext ho12 (lkc:Lk w33 _ NoB))) (by show (frame xs[k]).length<=c12;omega) (by show (frame xs[k]).length<=_;omega) (.inl rfl) (by have:=nameOk_size (nameOk_file h.name (bq*r.per));show (fileN r.name _).size<=_;omega) (show In64 (0:Int) by decide)) ?_
   rintro _ w34 ⟨⟨R2,F2,rfl,hS2,hR2,hF2⟩,lkd⟩
   refine ⟨kpc,?_⟩
   have hszP:wL.heap.size<=(w33).heap.size:=by rw [hwL];exact Ge.le
   obtain ⟨wP,hwP⟩:∃ x,x=w33:=⟨_,rfl⟩
   obtain ⟨wD,hwD⟩:∃ x,x=w34:=⟨_,rfl⟩
   rw [<- hwP] at hszP hF2
   refine xt_v rfl v_move (xt_v rfl v_extract (xt_v rfl v_extract ?_))
   refine xt_s rfl (e_storeA fun w35 l35 k35=>?_)
   refine xt_v rfl v_assign (xt_nil ?_)
   have hF3:∀ j,F2 j->F j\/wL.heap.size<=j:=fun j e=>by
    rcases hF2 j e with e2 | e2 | ⟨_,a,ha,e2⟩
    ·exact hF1 j e2
    ·exact .inr (by omega)
    ·have h9:=(hb12 a ha).1
     exact .inr (by omega)
   have hB10:(w3).heap.size<=b10:=by rw [nb10.eq];exact Ge.le
   have hord1:b10<wP.heap.size\/wD.heap.size<=b10:=by
    exact .inl (by rw [hwP];exact Has.lt)
   have hord2:b10<wF.heap.size\/wG.heap.size<=b10:=by
    exact .inl (by rw [hwF];exact Has.lt)
   have hDl:=hR2.lt
   have h1l:=hAt1.lt
   rw [<- hwD] at hDl
   have hR2w:RefAt w35 F2 R2:=hR2.keep (kpc:Keep (OneB b10) _ w35) (fun j e e2=>by
    have e':j=b10:=e2
    have h8:=hDl j e
    rcases hF2 j e with e3 | e3 | ⟨_,a,ha,e3⟩
    ·have:=h1l j e3;omega
    ·omega
    ·have h9:=hb12 a ha
     have e4:a.block=j:=e3
     omega)
   have hfew2:(M1.does ⟨0,fileN r.name (bq*r.per),frame xs[k],0⟩).lasts.length+(M1.does ⟨0,fileN r.name (bq*r.per),frame xs[k],0⟩).waits.length<=M1.lasts.length+M1.waits.length+1:=doNo_few M1 _
   have hS2':RefS R2 (M1.does ⟨0,fileN r.name (bq*r.per),frame xs[k],0⟩):=hS2
   refine x_seq (xq (xm (xl_v v_neq (xl_nil ?_))))
   refine x_if (fun c5=>?_) (fun c5=>?_)
   ·refine xq (xl_Lb ?_)
    refine xm (xm ?_)
    refine xl_s (e_storeA fun w36 l36 k36=>?_)
    refine xa (xz ?_)
    refine x_ret ?_
    refine finR (rs:=[.cell 4 38,.tmp 5,.tmp 6]) rfl ?_
    have hno:appNo M1 r.name r.per es xs[k]≠0:=by rw [hq0];simpa using c5
    have hst:=hstop _ rfl hno
    rw [hst,hq0]
    have hE:=hend _ w36 F1 R1 M1 (hAt1.ext (kpc:Keep NoB w3 _)) hS1 (kpc:Keep (OneB b4) w3 w36) hF1
    exact ⟨⟨_,F1,rfl,hE.1,rfl,rfl,rfl,hE.2⟩,lkc⟩
   have hno:appNo M1 r.name r.per es xs[k]=0:=by rw [hq0];simpa using c5
   refine x_skip (x_regionL (xl_Lb ?_))
   refine xl_Fb ?_
   refine xl_s (e_storeA fun w37 l37 k37=>?_)
   refine xl_nil ?_
   have hAt2:RefAt w37 F2 R2:=hR2w.keep (kpc:Keep (OneB b2) _ w37) (fun j e e2=>by
    have e':j=b2:=e2
    rcases hF3 j e with e3 | e3
    ·have:=hFl j e3;omega
    ·omega)
   refine x_regionL (xm ?_)
   refine xl_v (v_add (by omega)) ?_
   refine xz ?_
   refine ⟨_,?_,rfl,k+1,R2,F2,_,rfl,by omega,hAt2,hS2',hF3,?_,?_,ii,ii,ii,ii,evc,lkc⟩
   ·omega
   ·omega
   ·rw [happ,List.drop_eq_getElem_cons hk1,appD,<- hes,if_pos hno,<- hput]
    simp only [Nat.add_assoc,Nat.add_comm 1 k]
  have hkn:k=n:=by omega
  refine x_exit (xq (xl_Lb ?_))
  refine xm (xl_v v_len ?_)
  refine xl_s (e_storeA fun w38 l38 k38=>?_)
  refine xa (xz ?_)
  refine x_ret ?_
  refine finR (rs:=[.cell 4 38,.tmp 5,.tmp 6]) rfl ?_
  rw [happ,List.drop_of_length_le (by omega),appD]
  have hE:=hend _ w38 F1 R1 M1 hAt1 hS1 (kpc:Keep (OneB b4) _ w38) hF1
  exact ⟨⟨_,F1,by simp [outV,hkn],hE.1,rfl,rfl,rfl,hE.2⟩,lkc⟩
end Go.Proofs.YtigmfcgeljjgnaaGreatDoor
