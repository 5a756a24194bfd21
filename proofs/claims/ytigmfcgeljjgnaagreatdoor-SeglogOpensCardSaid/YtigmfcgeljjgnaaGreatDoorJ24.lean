/- A part of the walks through the log and its document, and of the law in plain Lean: Sk HB HC HD HE. -/
import Derived.Test.YtigmfcgeljjgnaaGreatDoorJ23
set_option linter.all false
namespace Go.Wst.Sg
open Go Go.Wst Go.Wst.Dm
structure LogJ (fs:Fs) (name:ByteArray) (per:Nat) (es:List En):Prop where
  right:∀ e∈es,Right e
  rise:riseE 0 es=es
  len:es.length<=4096
  seg:∀ j,j*per<es.length->∃ r,akey fs (fileN name (j*per))=some (frames ((es.drop (j*per)).take per)++r)/\(es.length<j*per+per->allB r=[])
  stop:∀ j,j*per=es.length->allB ((akey fs (fileN name (j*per))).getD [])=[]
theorem LogI.own_none {fs:Fs} {name:ByteArray} {per:Nat} {es:List En} (h:LogI fs name per es) {n:Nat} (hn:n<1000000) (h2:es.length<=n):akey fs (fileN name n)=none:=by
  rcases Decidable.em (akey fs (fileN name n)=none) with e | e
  · exact e
  have:=(h.own n hn e).2;omega
theorem LogJ.segE {fs:Fs} {name:ByteArray} {per:Nat} {es:List En} (h:LogJ fs name per es) {j:Nat} (hj:j*per<es.length):segE fs name per (j*per) (lastE 0 (es.take (j*per)))=(es.drop (j*per)).take per:=by
  obtain ⟨r,h1,h2⟩:=h.seg j hj
  have hl:=h.len
  have hr:riseE (lastE 0 (es.take (j*per))) ((es.drop (j*per)).take per)=(es.drop (j*per)).take per:=by
    have h3:riseE 0 (es.take (j*per)++es.drop (j*per))=es.take (j*per)++es.drop (j*per):=by rw [List.take_append_drop];exact h.rise
    have h4:=((rise_add _ _ _).1 h3).2
    have h5:riseE (lastE 0 (es.take (j*per))) ((es.drop (j*per)).take per++(es.drop (j*per)).drop per)=(es.drop (j*per)).take per++(es.drop (j*per)).drop per:=by rw [List.take_append_drop];exact h4
    exact ((rise_add _ _ _).1 h5).1
  have hs:((es.drop (j*per)).take per).length=min per (es.length - j*per):=by simp
  have hR:∀ e∈(es.drop (j*per)).take per,Right e:=fun e he=>h.right e (List.mem_of_mem_drop (List.mem_of_mem_take he))
  unfold Sg.segE
  rw [h1]
  simp only [Option.getD_some]
  rw [allB_frames hR]
  clear hR h1
  generalize lastE 0 (es.take (j*per))=q at hr ⊢
  generalize (es.drop (j*per)).take per=s at hr hs ⊢
  by_cases hc:es.length<j*per+per
  · rw [h2 hc,List.append_nil,List.take_of_length_le (by omega),hr]
  rw [List.take_append_of_le_length (by omega),List.take_of_length_le (by omega),hr]
theorem LogJ.toldN {fs:Fs} {name:ByteArray} {per:Nat} {es:List En} (h:LogJ fs name per es) (hp:1<=per):∀ (k j:Nat),j*per<=es.length->j*per<4096->es.length<j*per+k->(toldN fs name per k (j*per) (lastE 0 (es.take (j*per)))).1=es.drop (j*per)
  | 0,j,h1,_,h2=>by omega
  | k+1,j,h1,h3,h2=>by
    have hl:=h.len
    rw [Sg.toldN]
    by_cases hj:j*per<es.length
    · rw [h.segE hj]
      have hs:((es.drop (j*per)).take per).length=min per (es.length - j*per):=by simp
      by_cases hc:((es.drop (j*per)).take per).length<per\/4096<=j*per+((es.drop (j*per)).take per).length
      · rw [if_pos hc]
        exact List.take_of_length_le (by rw [List.length_drop];omega)
      rw [if_neg hc]
      have e2:(j+1)*per=j*per+per:=Nat.succ_mul j per
      have e3:es.take ((j+1)*per)=es.take (j*per)++(es.drop (j*per)).take per:=by rw [e2,List.take_add]
      have h4:=LogJ.toldN h hp k (j+1) (by omega) (by omega) (by omega)
      rw [e3,lastE_add,e2] at h4
      show (es.drop (j*per)).take per++_=_
      rw [h4,<- List.drop_drop,List.take_append_drop]
    have hz:allB ((akey fs (fileN name (j*per))).getD [])=[]:=h.stop j (by omega)
    have hse:Sg.segE fs name per (j*per) (lastE 0 (es.take (j*per)))=[]:=by
      unfold Sg.segE
      rw [hz]
      simp [riseE]
    rw [hse,if_pos (.inl (by simp;omega)),List.drop_of_length_le (by omega)]
theorem LogJ.told {fs:Fs} {name:ByteArray} {per:Nat} {es:List En} (h:LogJ fs name per es) (hp:1<=per):(told fs name per).1=es:=by
  have hl:=h.len
  have h1:=h.toldN hp 4097 0 (by omega) (by omega) (by omega)
  unfold Sg.told
  simpa [lastE_nil] using h1
theorem akey_torn {M:Disk} (hm:M.ok) (t:Thing) (hw:t.what=0) (n:Nat) (k:ByteArray):akey (done M.files (tornT t n)) k=if k=t.name then some ((akey M.files t.name).getD []++t.bytes.take n) else akey M.files k:=by
  rw [akey_done (t:=tornT t n) (.inl hw) hm.files.1 k]
  show (if k=t.name then Thing.look (tornT t n) (akey M.files t.name) else _)=_
  unfold Thing.look
  rw [if_pos (show (tornT t n).what=0 from hw)]
  rfl
theorem least {P:Nat->Prop}:∀ (k:Nat),(∀ i,i<k->¬ P i)\/∃ j,j<k/\P j/\∀ i,i<j->¬ P i
  | 0=>.inl (fun i h=>by omega)
  | k+1=>by
    rcases least (P:=P) k with h | ⟨j,h1,h2,h3⟩
    · rcases Classical.em (P k) with e | e
      · exact .inr ⟨k,by omega,e,h⟩
      exact .inl (fun i hi=>by
        rcases Nat.lt_or_ge i k with h4 | h4
        · exact h i h4
        have:i=k:=by omega
        subst this;exact e)
    exact .inr ⟨j,by omega,h2,h3⟩
theorem trunc_ok2 {M:Disk} (hm:M.ok) (name:ByteArray) (per:Nat) (es:List En) (n:Nat):(truncM M name per es n).ok:=by
  unfold truncM
  split
  · exact (doAll_ok _ M hm (rm_ok _)).does (.inr (.inl rfl))
  exact doAll_ok _ M hm (rm_ok _)
def noE (es:List En) (x:En):Int:=if ¬ Right x then 2 else if 4096<=es.length then 3 else if es≠[]/\x.epoch<lastE 0 es then 140 else 0
def appE:List En->List En->List En×Nat×Int
  | es,[]=>(es,0,0)
  | es,x :: xs=>if noE es x=0 then ((appE (es++[x]) xs).1,(appE (es++[x]) xs).2.1+1,(appE (es++[x]) xs).2.2) else (es,0,noE es x)
theorem put_no {M:Disk} {name:ByteArray} {per k:Nat} {x:En} (hok:∀ n,nameOk (fileN name n)=true) (hr:((frame x).length:Int)+usedB M.files<=M.room):M.doNo (putT name per k x)=0:=by
  unfold Disk.doNo
  rw [if_neg (by rw [hok];decide),if_neg (fun e=>e.1 rfl),if_neg (fun e=>by have:=e.1;cases this),if_neg (fun e=>by have:=e.2;simp only [putT] at this;omega)]
theorem put_used {M:Disk} (hm:M.ok) {name:ByteArray} {per k:Nat} {x:En} (h0:M.doNo (putT name per k x)=0):usedB (M.does (putT name per k x)).files=usedB M.files+(frame x).length:=by
  have h1:=used_done (l:=M.files) (t:=putT name per k x) hm.files.1 (.inl rfl)
  rw [foldl_snoc h0]
  rw [Thing.look,if_pos rfl] at h1
  simp at h1
  omega
theorem appNo_room {M:Disk} {name:ByteArray} {per:Nat} {es:List En} {x:En} (hok:∀ n,nameOk (fileN name n)=true) (hr:Right x->((frame x).length:Int)+usedB M.files<=M.room):appNo M name per es x=noE es x:=by
  unfold appNo noE
  split
  · rfl
  next hR=>
  split
  · rfl
  split
  · rfl
  exact put_no hok (hr (Decidable.byContradiction hR))
theorem app_room {name:ByteArray} {per:Nat} (hok:∀ n,nameOk (fileN name n)=true) {c:Nat}:∀ (xs:List En) (M:Disk) (es:List En),M.ok->(∀ x∈xs,Right x->(frame x).length<=c)->((c*xs.length:Nat):Int)+usedB M.files<=M.room->(appAll name per M es xs).2=appE es xs/\(appAll name per M es xs).1.ok/\usedB (appAll name per M es xs).1.files<=usedB M.files+c*xs.length/\(appAll name per M es xs).1.room=M.room
  | [],M,es,hm,_,_=>⟨rfl,hm,Nat.le_add_right _ _,rfl⟩
  | x :: xs,M,es,hm,hc,hr=>by
    rw [List.length_cons,Nat.mul_succ] at hr
    have h1:appNo M name per es x=noE es x:=appNo_room hok (fun hR=>by have:=hc x List.mem_cons_self hR;omega)
    rw [Sg.appAll,appE,h1]
    by_cases h0:noE es x=0
    · have hR:Right x:=by
        unfold noE at h0
        split at h0
        · cases h0
        next h=>exact Decidable.byContradiction h
      have hx:=hc x List.mem_cons_self hR
      have h2:M.doNo (putT name per es.length x)=0:=put_no hok (by omega)
      have h3:=put_used hm h2
      have hrm:(M.does (putT name per es.length x)).room=M.room:=by unfold Disk.does;split<;>rfl
      obtain ⟨i1,i2,i3,i4⟩:=app_room hok xs (M.does (putT name per es.length x)) (es++[x]) (hm.does (.inl rfl)) (fun y hy=>hc y (List.mem_cons_of_mem _ hy)) (by rw [hrm];omega)
      rw [if_pos h0,if_pos h0]
      refine ⟨?_,i2,?_,by rw [<- hrm];exact i4⟩
      · show ((appAll name per (M.does (putT name per es.length x)) (es++[x]) xs).2.1,(appAll name per (M.does (putT name per es.length x)) (es++[x]) xs).2.2.1+1,(appAll name per (M.does (putT name per es.length x)) (es++[x]) xs).2.2.2)=_
        rw [i1]
      show usedB (appAll name per (M.does (putT name per es.length x)) (es++[x]) xs).1.files<=_
      rw [List.length_cons,Nat.mul_succ]
      omega
    rw [if_neg h0,if_neg h0]
    exact ⟨rfl,hm,Nat.le_add_right _ _,rfl⟩
theorem rise_uniq {α:Type} {R:α->α->Prop} (hi:∀ a,¬ R a a) (ht:∀ a b,R a b->¬ R b a):∀ {l l':List α},l.Pairwise R->l'.Pairwise R->(∀ a,a∈l↔a∈l')->l=l'
  | [],[],_,_,_=>rfl
  | [],b :: l',_,_,h=>absurd ((h b).2 List.mem_cons_self) (by simp)
  | a :: l,[],_,_,h=>absurd ((h a).1 List.mem_cons_self) (by simp)
  | a :: l,b :: l',h1,h2,h=>by
    rw [List.pairwise_cons] at h1 h2
    have hab:a=b:=by
      rcases List.mem_cons.1 ((h a).1 List.mem_cons_self) with e | e
      · exact e
      rcases List.mem_cons.1 ((h b).2 List.mem_cons_self) with e2 | e2
      · exact e2.symm
      exact absurd (h2.1 a e) (ht a b (h1.1 b e2))
    subst hab
    refine congrArg _ (rise_uniq hi ht h1.2 h2.2 (fun c=>⟨fun hc=>?_,fun hc=>?_⟩))
    · rcases List.mem_cons.1 ((h c).1 (List.mem_cons_of_mem _ hc)) with e | e
      · subst e;exact absurd (h1.1 c hc) (hi c)
      exact e
    rcases List.mem_cons.1 ((h c).2 (List.mem_cons_of_mem _ hc)) with e | e
    · subst e;exact absurd (h2.1 c hc) (hi c)
    exact e
theorem own_rise {M:Disk} (hm:M.ok) (name:ByteArray):(ownFiles M.files name).Pairwise blt:=by
  unfold ownFiles
  exact List.Pairwise.sublist List.filter_sublist hm.files.1
theorem LogI.mem {fs:Fs} {name:ByteArray} {per:Nat} {es:List En} (h:LogI fs name per es) (hp:1<=per) (f:ByteArray):f∈ownFiles fs name↔∃ j,j*per<es.length/\f=fileN name (j*per):=by
  have hl:=h.len
  unfold ownFiles
  rw [List.mem_filter]
  constructor
  · rintro ⟨h1,h2⟩
    obtain ⟨n,hn⟩:=Option.isSome_iff_exists.1 h2
    obtain ⟨rfl,h3⟩:=own_some hn
    obtain ⟨h4,h5⟩:=h.own n h3 (key_ne h1)
    have h6:=Nat.div_add_mod n per
    rw [h4,Nat.add_zero,Nat.mul_comm] at h6
    exact ⟨n / per,by omega,by rw [h6]⟩
  rintro ⟨j,h1,rfl⟩
  obtain ⟨r,h2,_⟩:=h.seg j h1
  refine ⟨ne_key (by rw [h2];simp),?_⟩
  unfold ownB
  rw [own_file name (by omega)]
  rfl
theorem LogI.same {M M':Disk} {name:ByteArray} {per:Nat} {es:List En} (hm:M.ok) (hm':M'.ok) (h:LogI M.files name per es) (h':LogI M'.files name per es) (hp:1<=per):ownFiles M.files name=ownFiles M'.files name:=
  rise_uniq blt_irrefl (fun a b=>blt_asymm) (own_rise hm name) (own_rise hm' name) (fun f=>(h.mem hp f).trans (h'.mem hp f).symm)
end Go.Wst.Sg
set_option maxRecDepth 100000
set_option synthInstance.maxSize 100000
set_option synthInstance.maxHeartbeats 400000
namespace Go.Proofs.YtigmfcgeljjgnaaGreatDoor
open Go.Wst
open Go.Wst.Dm Go.Wst.Sg
def fileI (fs:Fs) (name:ByteArray) (first:Nat):Int:=match akey fs (fileN name first) with
 | some b=>(b.length:Int)
 | none=>-1
theorem fileI_none {fs:Fs} {name:ByteArray} {first:Nat} (h:akey fs (fileN name first)=none):fileI fs name first=-1:=by unfold fileI;rw [h]
theorem fileI_some {fs:Fs} {name:ByteArray} {first:Nat} {b:By} (h:akey fs (fileN name first)=some b):fileI fs name first=(b.length:Int):=by unfold fileI;rw [h]
theorem RefS.fileLen {R:LRef} {M:Disk} (h:RefS R M) (k:ByteArray):((akey M.files k).getD []).length<=16777216:=by
 have h1:=akey_used (l:=M.files) (k:=k)
 have h2:=h.ok.files.2.1
 have h3:=h.ok.most
 omega
set_option maxHeartbeats 1000000 in
theorem refsegment_ok (F:Nat->Prop) (r:RLog) (M:Disk) (first:Nat) (q:Int) (w:World) (tt:TypeId) (tr:Nat×Nat) [htab:Blk w 0 (.cells tabA tt tr)] (h:RLogW w F r M) (hf:first<=4096):Ret Tryz.prog 97 #[.agg (rlogC r).toArray,.int .i64 (first:Int),.int .i64 q] w (fun v w'=>(∃ A' c',v=.tuple #[.slice A' (segE M.files r.name r.per first q).length c',.int .i64 ((frames (segE M.files r.name r.per first q)).length:Int),.int .i64 (fileI M.files r.name first)]/\w'.ownsRow w.heap.size 84 6 (.slice A' (segE M.files r.name r.per first q).length c') (segE M.files r.name r.per first q).length ((segE M.files r.name r.per first q).flatMap enC))/\Lk w' w NoB):=by
 have hns:=h.size
 have hp1:=h.per1
 have hp2:=h.per2
 refine ret_of_x (N:=91) (l:=[.agg (rlogC r).toArray,.int .i64 (first:Int),.int .i64 q]) Tryz.func97 rfl rfl (Nat.le_of_ble_eq_true rfl) ?_
 refine xq ?_
 refine xl_e (e_box fun b3 w1 nb3 lb3 kb3=>?_)
 refine xa (xa (xz ?_))
 refine xq (xl_Fb ?_)
 refine xl_Lb ?_
 refine xl_call (reffiles_ok r.R M F w1 (h.at_.ext (kpc:Keep NoB w w1)) h.s) ?_
 rintro _ w2 ⟨⟨A9,c9,l,F9,rfl,hfl,hfs,hF9⟩,lk2⟩
 have hll:l.length<=1000000:=by rw [<- fsP_len,hfl];exact h.s.flen
 refine xz ?_
 refine xq (xm (xl_Fb ?_))
 refine xl_Lc ?_
 refine xm ?_
 refine xl_call (refFile_ok r.name first w2 tt tr (by omega) (by omega)) ?_
 rintro _ w3 ⟨rfl,lk4⟩
 refine xl_call (find_ok A9 c9 l F9 (fileN r.name first) w3 (hfs.ext (kpc:Keep NoB w2 w3)) (by omega)) ?_
 rintro _ w4 ⟨⟨i,rfl,hi⟩,lk5⟩
 rw [hfl] at hi
 refine xz ?_
 refine x_seq (xq (xm (xl_v v_lss (xl_nil ?_))))
 refine x_if (fun c1=>?_) (fun c1=>?_)
 ·refine xq (xa (xa (xz ?_)))
  refine x_ret ?_
  refine fin3 rfl ?_
  have hnone:akey M.files (fileN r.name first)=none:=by
   rcases hi with ⟨_,h1⟩ | ⟨k,hk,h1,_⟩
   ·exact h1
   ·omega
  have hseg:segE M.files r.name r.per first q=[]:=by unfold segE;rw [hnone];simp [allB_nil,riseE]
  rw [hseg,fileI_none hnone]
  exact ⟨⟨none,0,rfl,World.ownsRow_nil _ _ _ _⟩,lkc⟩
 refine x_skip (x_seq ?_)
 obtain ⟨j,hj,rfl,hjn,hjb⟩:∃ (k:Nat) (hk:k<l.length),i=(k:Int)/\l[k].1=fileN r.name first/\akey M.files (fileN r.name first)=some l[k].2.bytes:=hi.resolve_left (fun e=>by have:=e.1;omega)
 obtain ⟨bs,hbs⟩:∃ bs,bs=l[j].2.bytes:=⟨_,rfl⟩
 have hmem:l[j]∈l:=List.getElem_mem hj
 have hbl:bs.length<=16777216:=by have h1:=h.s.fileLen (fileN r.name first);rw [hjb] at h1;rw [hbs];exact h1
 have hcap:=hfs.caps _ hmem
 haveI hrA:RowB w4 A9 w4 (l.flatMap fileC):=rowB_of (hfs.ext (kpc:Keep NoB w2 w4)).row.row
 haveI hrb:Row w4 l[j].2.A (bytesC bs):=⟨hbs ▸ ((hfs.ext (kpc:Keep NoB w2 w4)).items _ hmem).row⟩
 obtain ⟨sl,hsl⟩:∃ sl,sl=(allB bs).take (min r.per (4096 - first)):=⟨_,rfl⟩
 have hseg:segE M.files r.name r.per first q=riseE q sl:=by rw [segE,hjb,hsl,hbs];rfl
 have hal:=allB_len bs
 have hsll:sl.length=min (min r.per (4096 - first)) (allB bs).length:=by rw [hsl,List.length_take]
 have hR:∀ e∈allB bs,Right e:=(allB_spec bs).1
 have hfi:fileI M.files r.name first=(bs.length:Int):=by rw [fileI_some hjb,hbs]
 refine x_regionL (xm (xm ?_))
 refine xl_v (v_indexF j (by decide) rfl (by omega) hj) ?_
 refine xl_Fb ?_
 refine xl_v (v_loadFf hj) ?_
 refine xz ?_
 refine xq (xm ?_)
 refine xl_call (dall_ok l[j].2.A l[j].2.bytes.length l[j].2.c bs w4 (by rw [hbs]) (by rw [<- hbs];omega) (by omega)) ?_
 rintro _ w5 ⟨⟨A12,c12,g12,y12,rfl,ho12⟩,lk12⟩
 refine xm (xl_v v_extract (xl_v v_extract (xl_v v_extract (xa (xa (xz ?_))))))
 refine xq (xz ?_)
 refine xq (xz ?_)
 refine x_seq (xq (xz ?_))
 refine x_block ?_
 have hrS0:RowP w5 A12 ((allB bs).flatMap enC):=by obtain ⟨A',c',he,_,_,hr⟩:=ownsRow_form ho12;cases he;exact hr
 have hget:∀ k (h:k<sl.length) (h2:k<(allB bs).length),(allB bs)[k]=sl[k]:=fun k h h2=>by simp [hsl]
 have hszL:w.heap.size<=(w5).heap.size:=Ge.le
 have h12l:∀ a,A12=some a->a.block<(w5).heap.size:=fun a ha=>(own_blk (own_ext ho12 (lkc:Lk w5 _ NoB)) a ha).2
 have hRs:∀ e∈sl,Right e:=fun e he=>hR e (List.mem_of_mem_take (by rw [<- hsl];exact he))
 have hfin:∀ k,(k=sl.length\/∃ h:k<sl.length,¬ lastE q (sl.take k)<=sl[k].epoch)->k<=sl.length->(∀ i (h:i<k) (h2:i<sl.length),lastE q (sl.take i)<=sl[i].epoch)->riseE q sl=sl.take k:=fun k h hk hrise=>by
  rcases h with h | ⟨h,h2⟩
  ·have h1:=riseE_take hk hrise
   rw [h1,h,List.drop_of_length_le (Nat.le_refl _)]
   simp [riseE]
  ·rw [riseE_take hk hrise,List.drop_eq_getElem_cons h,riseE,if_neg h2,List.append_nil]
 refine x_loop (fun t τ ds w'=>ds=[]/\∃ (k:Nat) (A15:Option Addr) (c15:Nat),t=sl.length - k/\k<=sl.length/\(∀ i (h:i<k) (h2:i<sl.length),lastE q (sl.take i)<=sl[i].epoch)/\w'.ownsRow (w5).heap.size 84 6 (.slice A15 k c15) k ((sl.take k).flatMap enC)/\Ev τ 1 (.int .i64 (first:Int))/\Ev τ 2 (.int .i64 (lastE q (sl.take k)))/\Ev τ 3 (ptrV b3)/\Ev τ 11 (.slice l[j].2.A l[j].2.bytes.length l[j].2.c)/\Ev τ 12 (.slice A12 (allB bs).length c12)/\Ev τ 15 (.slice A15 k c15)/\Ev τ 16 (.int .i64 ((frames (sl.take k)).length:Int))/\Ev τ 17 (.int .i64 (k:Int))/\Lk w' w5 NoB) (sl.length) ?start ?round
 case start=>
  exact ⟨rfl,0,none,0,rfl,Nat.zero_le _,fun i h=>by omega,World.ownsRow_nil _ _ _ _,ii,ii,ii,ii,ii,ii,ii,evc,lkc⟩
 case round=>
  intro m τ6 ds6 w6 hI
  obtain ⟨rfl,k,A15,c15,rfl,hk,hrise,hown,e1,e2,e3,e11,e12,e15,e16,e17,lk⟩:=hI
  haveI:=ownN_of hown (Nat.le_refl _)
  haveI hrS:Row w6 A12 ((allB bs).flatMap enC):=⟨hrS0.keep lk.keep (fun _ _ h=>h)⟩
  haveI:RowOut (OwnB (.slice A15 k c15)) A12:=⟨fun a ha e=>by obtain ⟨a',ha',e2⟩:=ownB_ex e;have h1:=(own_blk hown a' ha').1;have h2:=h12l a ha;omega⟩
  obtain ⟨q2,hq2⟩:∃ q2,q2=lastE q (sl.take k):=⟨_,rfl⟩
  rw [<- hq2] at e2
  have hfl0:=frames_len (l:=sl.take k) (fun e he=>hRs e (List.mem_of_mem_take he))
  have htk:(sl.take k).length=k:=by rw [List.length_take];omega
  refine x_seq (xq (xm (xm (xl_v v_len (xl_v v_lss (xm ?_))))))
  refine xl_split 44 (fun g44=>?_) (fun g44=>?_)
  ·have ga:=of_decide_eq_true g44
   refine xl_gv rfl EvO.eq v_move ?_
   refine xl_gFb rfl EvO.eq ?_
   refine xl_gLc rfl EvO.eq ?_
   refine xl_gv rfl EvO.eq v_lss (xl_Pk ?_)
   refine xm ?_
   refine xl_split 50 (fun g50=>?_) (fun g50=>?_)
   ·have gb:=of_decide_eq_true g50
    refine xl_gv rfl EvO.eq v_move (xl_gv rfl EvO.eq v_move ?_)
    refine xl_gv rfl EvO.eq (v_add (by omega)) ?_
    refine xl_gv rfl EvO.eq v_lss (xl_Pk ?_)
    refine xm ?_
    refine xl_split 56 (fun g56=>?_) (fun g56=>?_)
    ·have gc:=of_decide_eq_true g56
     have hk1:k<sl.length:=by omega
     have hk2:k<(allB bs).length:=by omega
     have hx:=hget k hk1 hk2
     refine xl_gv rfl EvO.eq v_move (xl_gv rfl EvO.eq v_move ?_)
     refine xl_gv rfl EvO.eq (v_indexF k (by decide) rfl (by omega) hk2) ?_
     refine xl_gFb rfl EvO.eq ?_
     refine xl_gv rfl EvO.eq (v_congr (u:=.int .i64 sl[k].epoch) (v_loadF0 hk2) (by rw [hx])) ?_
     refine xl_gv rfl EvO.eq v_move (xl_gv rfl EvO.eq v_geq (xl_Pk ?_))
     refine xl_nil ?_
     refine x_if (fun c2=>?_) (fun c2=>?_)
     ·have hRx:=hRs _ (List.getElem_mem hk1)
      have hfx:=frame_len hRx
      refine x_skip (x_seq (x_block (xq (xm (xm (xm ?_))))))
      refine xl_v (v_indexF k (by decide) rfl (by omega) hk2) ?_
      refine xl_v (v_congr (u:=.agg (enC sl[k]).toArray) (v_loadF (k:=k) (by decide) hk2) (by rw [hx])) ?_
      refine xl_e (e_buildSliceM (vs:=enC sl[k]) rfl rfl (by simp) fun b72 w7 n72 l72 k72=>?_)
      refine xl_e (e_append' (own_ext hown lkc) Ge.le rfl Cell1L.eq (by decide) (.inl rfl) (by omega) (by omega) fun A6 c6 w8 ho6 l6 hn6=>?_)
      refine xz ?_
      refine xq (xm (xm (xm ?_)))
      refine xl_v (v_indexF k (by decide) rfl (by omega) hk2) ?_
      refine xl_v (v_congr (u:=.agg (enC sl[k]).toArray) (v_loadF (k:=k) (by decide) hk2) (by rw [hx])) ?_
      refine xl_call (dframe_ok sl[k] w8 hRx) ?_
      rintro _ w9 ⟨⟨A13,c13,rfl,ho13⟩,lk13⟩
      refine xl_v v_len ?_
      refine xl_v (v_add (by omega)) ?_
      refine xz ?_
      refine x_regionL (xm (xm ?_))
      refine xl_v (v_indexF k (by decide) rfl (by omega) hk2) ?_
      refine xl_Fb ?_
      refine xl_v (v_congr (u:=.int .i64 sl[k].epoch) (v_loadF0 hk2) (by rw [hx])) ?_
      refine xz ?_
      refine x_regionL (xm ?_)
      refine xl_v (v_add (by omega)) ?_
      refine xz ?_
      refine ⟨_,?_,rfl,k+1,A6,c6,rfl,by omega,?_,?_,ii,?_,ii,ii,ii,ii,?_,evc,lkc⟩
      ·omega
      ·intro i hi hi2
       by_cases e:i=k
       ·subst e;rw [<- hq2];omega
       ·exact hrise i (by omega) hi2
      ·rw [take_snoc sl k hk1,List.flatMap_append];have:=own_ext ho6 (lkc:Lk w9 _ NoB);simpa using this
      ·rw [take_snoc sl k hk1,lastE_snoc];infer_instance
      ·refine evc (congrArg (Value.int .i64) ?_)
       have h1:(frames (sl.take (k+1))).length=(frames (sl.take k)).length+(frame sl[k]).length:=by rw [take_snoc sl k hk1,frames_app,List.length_append];simp [frames]
       rw [h1,Int.natCast_add]
     refine x_exit (xq (xm (xm (xm (xl_v v_len (xa (xa (xz ?_))))))))
     refine x_ret ?_
     refine fin3 rfl ?_
     have hRr:riseE q sl=sl.take k:=by
      refine hfin k ?_ hk hrise
      first
       | exact .inl (by omega)
       | exact .inr ⟨hk1,by rw [<- hq2];omega⟩
     rw [hseg,hfi,hRr,htk,hbs]
     exact ⟨⟨A15,c15,rfl,own_mono (own_ext hown lkc) hszL⟩,lkc⟩
    have gc:=of_decide_eq_false g56
    refine xl_gs rfl EvO.eq (xl_gs rfl EvO.eq (xl_gs rfl EvO.eq (xl_gs rfl EvO.eq (xl_gs rfl EvO.eq (xl_gs rfl EvO.eq (xl_gs rfl EvO.eq (xl_Pk ?_)))))))
    refine xl_nil ?_
    refine x_condF ?_
    refine x_exit (xq (xm (xm (xm (xl_v v_len (xa (xa (xz ?_))))))))
    refine x_ret ?_
    refine fin3 rfl ?_
    have hRr:riseE q sl=sl.take k:=by
     refine hfin k ?_ hk hrise
     exact .inl (by omega)
    rw [hseg,hfi,hRr,htk,hbs]
    exact ⟨⟨A15,c15,rfl,own_mono (own_ext hown lkc) hszL⟩,lkc⟩
   have gb:=of_decide_eq_false g50
   refine xl_gs rfl EvO.eq (xl_gs rfl EvO.eq (xl_gs rfl EvO.eq (xl_gs rfl EvO.eq (xl_Pk ?_))))
   refine xm (xl_gs rfl EvO.eq (xl_gs rfl EvO.eq (xl_gs rfl EvO.eq (xl_gs rfl EvO.eq (xl_gs rfl EvO.eq (xl_gs rfl EvO.eq (xl_gs rfl EvO.eq (xl_Pk ?_))))))))
   refine xl_nil ?_
   refine x_condF ?_
   refine x_exit (xq (xm (xm (xm (xl_v v_len (xa (xa (xz ?_))))))))
   refine x_ret ?_
   refine fin3 rfl ?_
   have hRr:riseE q sl=sl.take k:=by
    refine hfin k ?_ hk hrise
    exact .inl (by omega)
   rw [hseg,hfi,hRr,htk,hbs]
   exact ⟨⟨A15,c15,rfl,own_mono (own_ext hown lkc) hszL⟩,lkc⟩
  have ga:=of_decide_eq_false g44
  refine xl_gs rfl EvO.eq (xl_gs rfl EvO.eq (xl_gs rfl EvO.eq (xl_gs rfl EvO.eq (xl_Pk ?_))))
  refine xm (xl_gs rfl EvO.eq (xl_gs rfl EvO.eq (xl_gs rfl EvO.eq (xl_gs rfl EvO.eq (xl_Pk ?_)))))
  refine xm (xl_gs rfl EvO.eq (xl_gs rfl EvO.eq (xl_gs rfl EvO.eq (xl_gs rfl EvO.eq (xl_gs rfl EvO.eq (xl_gs rfl EvO.eq (xl_gs rfl EvO.eq (xl_Pk ?_))))))))
  refine xl_nil ?_
  refine x_condF ?_
  refine x_exit (xq (xm (xm (xm (xl_v v_len (xa (xa (xz ?_))))))))
  refine x_ret ?_
  refine fin3 rfl ?_
  have hRr:riseE q sl=sl.take k:=by
   refine hfin k ?_ hk hrise
   exact .inl (by omega)
  rw [hseg,hfi,hRr,htk,hbs]
  exact ⟨⟨A15,c15,rfl,own_mono (own_ext hown lkc) hszL⟩,lkc⟩
theorem own_row {w:World} {base n c:Nat} {t:TypeId} {sz:Nat} {A:Option Addr} {cs:List Value} (h:w.ownsRow base t sz (.slice A n c) n cs):RowP w A cs:=by obtain ⟨A',c',he,_,_,hr⟩:=ownsRow_form h;cases he;exact hr
set_option maxHeartbeats 1000000 in
theorem reftold_ok (F:Nat->Prop) (r:RLog) (M:Disk) (w:World) (tt:TypeId) (tr:Nat×Nat) [htab:Blk w 0 (.cells tabA tt tr)] (h:RLogW w F r M):Ret Tryz.prog 53 #[.agg (rlogC r).toArray] w (fun v w'=>(∃ A' c',v=.tuple #[.slice A' (Go.Wst.Sg.told M.files r.name r.per).1.length c',.int .i64 ((Go.Wst.Sg.told M.files r.name r.per).2:Int),.int .i64 ((frames ((Go.Wst.Sg.told M.files r.name r.per).1.drop (Go.Wst.Sg.told M.files r.name r.per).2)).length:Int),.int .i64 (fileI M.files r.name (Go.Wst.Sg.told M.files r.name r.per).2)]/\w'.ownsRow w.heap.size 84 6 (.slice A' (Go.Wst.Sg.told M.files r.name r.per).1.length c') (Go.Wst.Sg.told M.files r.name r.per).1.length ((Go.Wst.Sg.told M.files r.name r.per).1.flatMap enC))/\Lk w' w NoB):=by
 have hp1:=h.per1
 have hp2:=h.per2
 refine ret_of_x (N:=51) (l:=[.agg (rlogC r).toArray]) Tryz.func53 rfl rfl (Nat.le_of_ble_eq_true rfl) ?_
 refine xq ?_
 refine xl_e (e_box fun b1 w1 nb1 lb1 kb1=>?_)
 refine xa (xa (xa (xz ?_)))
 refine xq (xz ?_)
 refine xq (xz ?_)
 refine xq (xz ?_)
 refine x_block ?_
 have hszL:w.heap.size<=(w1).heap.size:=Ge.le
 refine x_loop (fun t τ ds w'=>ds=[]/\∃ (fz k:Nat) (es1:List En) (A6:Option Addr) (c6:Nat),t=4097 - fz/\fz<4096/\4097<=k+fz/\es1.length=fz/\Go.Wst.Sg.told M.files r.name r.per=(es1++(toldN M.files r.name r.per k fz (lastE 0 es1)).1,(toldN M.files r.name r.per k fz (lastE 0 es1)).2)/\w'.ownsRow (w1).heap.size 84 6 (.slice A6 es1.length c6) es1.length (es1.flatMap enC)/\Ev τ 1 (ptrV b1)/\Ev τ 6 (.slice A6 es1.length c6)/\Ev τ 7 (.int .i64 (lastE 0 es1))/\Ev τ 8 (.int .i64 (fz:Int))/\Lk w' w1 NoB) (4097) ?start ?round
 case start=>
  exact ⟨rfl,0,4097,[],none,0,rfl,by decide,by decide,rfl,rfl,World.ownsRow_nil _ _ _ _,ii,ii,ii,evc,lkc⟩
 case round=>
  intro m τ2 ds2 w2 hI
  obtain ⟨rfl,fz,k,es1,A6,c6,rfl,hfz,hk,hel,htold,hown,e1,e6,e7,e8,lk⟩:=hI
  haveI:=ownN_of hown (Nat.le_refl _)
  haveI:NotS (OwnB (.slice A6 es1.length c6)) b1:=⟨fun e=>by obtain ⟨a,ha,e2⟩:=ownB_ex e;have h8:=(own_blk hown a ha).1;have h9:b1<w1.heap.size:=Has.lt;omega⟩
  refine x_seq (x_block (xq (xl_Lb ?_)))
  refine xm (xm ?_)
  refine xl_call (refsegment_ok F r M fz (lastE 0 es1) w2 tt tr (h.ext (kpc:Keep NoB w w2)) (by omega)) ?_
  rintro _ w3 ⟨⟨As,cs,rfl,hoS⟩,lkS⟩
  obtain ⟨sl,hsl⟩:∃ sl,sl=segE M.files r.name r.per fz (lastE 0 es1):=⟨_,rfl⟩
  rw [<- hsl] at hoS ⊢
  have hslp:sl.length<=r.per/\sl.length<=4096 - fz:=by rw [hsl];exact segE_len
  haveI hRowS:Row w3 As (sl.flatMap enC):=⟨own_row hoS⟩
  have hAs:sl.length=0\/As.isSome=true:=by
   rcases Nat.eq_zero_or_pos sl.length with e | e
   ·exact .inl e
   ·exact .inr (row_some hRowS (by rw [flat_len (sz:=6) (fun _=>rfl)];omega))
  refine xm (xl_v v_extract (xl_v v_extract (xl_v v_extract (xa (xa (xz ?_))))))
  refine xq (xm (xm ?_))
  refine xl_e (e_append' (own_ext hown lkc) Ge.le (flat_len (sz:=6) (fun _=>rfl) _) (enC_one _) (by decide) hAs.symm (by omega) (by omega) fun A4 c4 w4 ho4 l4 hn4=>?_)
  refine xz ?_
  have hle2:(es1++sl).length=es1.length+sl.length:=List.length_append
  have ho5:World.ownsRow w4 w1.heap.size 84 6 (.slice A4 (es1++sl).length c4) (es1++sl).length ((es1++sl).flatMap enC):=by
   rw [hle2,List.flatMap_append];exact own_ext ho4 lkc
  rw [<- hle2]
  haveI hr4:Row w4 A4 ((es1++sl).flatMap enC):=⟨own_row ho5⟩
  refine x_cut (fun τ ds w'=>ds=[]/\w'=w4/\Ev τ 1 (ptrV b1)/\Ev τ 6 (.slice A4 (es1++sl).length c4)/\Ev τ 7 (.int .i64 (lastE 0 (es1++sl)))/\Ev τ 8 (.int .i64 (fz:Int))/\Ev τ 9 (.slice As sl.length cs)/\Ev τ 10 (.int .i64 ((frames sl).length:Int))/\Ev τ 11 (.int .i64 (fileI M.files r.name fz))) ?_ ?_
  ·refine xq (xm (xl_v v_len (xl_v v_gtr (xl_nil ?_))))
   refine x_if (fun c1=>?_) (fun c1=>?_)
   ·have hpos:(es1++sl).length≠0:=by omega
    refine x_regionL (xm (xm (xl_v v_len ?_)))
    refine xl_v (v_sub (by omega)) ?_
    refine xl_v (v_indexF ((es1++sl).length - 1) (by decide) (by omega) (by omega) (by omega)) ?_
    refine xl_Fb ?_
    refine xl_v (v_congr (u:=.int .i64 (lastE 0 (es1++sl))) (v_loadF0 (by omega)) (by rw [lastE_get hpos])) ?_
    refine xz ?_
    first
    | exact ⟨rfl,rfl,ii,ii,ii,ii,ii,ii,ii⟩
    | (have he0:es1++sl=[]:=List.eq_nil_of_length_eq_zero (by omega)
       have he1:es1=[]:=(List.append_eq_nil_iff.1 he0).1
       refine ⟨rfl,rfl,ii,ii,?_,ii,ii,ii,ii⟩
       rw [he0,<- he1];infer_instance)
   refine x_skip ?_
   first
   | exact ⟨rfl,rfl,ii,ii,ii,ii,ii,ii,ii⟩
   | (have he0:es1++sl=[]:=List.eq_nil_of_length_eq_zero (by omega)
      have he1:es1=[]:=(List.append_eq_nil_iff.1 he0).1
      refine ⟨rfl,rfl,ii,ii,?_,ii,ii,ii,ii⟩
      rw [he0,<- he1];infer_instance)
  intro τ5 ds5 w5 hI
  obtain ⟨rfl,hw',e1,e6,e7,e8,e9,e10,e11⟩:=hI
  subst hw'
  refine xq (xm (xl_v v_len (xl_Fb ?_)))
  refine xl_Lc ?_
  refine xl_v v_lss (xm ?_)
  refine xl_split 42 (fun g42=>?_) (fun g42=>?_)
  ·have g9:=of_decide_eq_true g42
   refine xl_gs rfl EvO.eq (xl_gs rfl EvO.eq (xl_gs rfl EvO.eq (xl_Pk ?_)))
   refine xl_nil ?_
   refine x_condT ?_
   refine xq (xm (xm (xm (xm (xa (xa (xa (xz ?_))))))))
   refine x_ret ?_
   refine fin4 rfl ?_
   have hfin:Go.Wst.Sg.told M.files r.name r.per=(es1++sl,fz):=by
    obtain ⟨k',rfl⟩:∃ k',k=k'+1:=⟨k - 1,by omega⟩
    rw [htold,toldN,<- hsl,if_pos (by omega)]
   have hdrop:(es1++sl).drop fz=sl:=by rw [<- hel,List.drop_left]
   rw [hfin]
   simp only [hdrop]
   haveI lkA:Lk w5 w1 NoB:=lkc
   exact ⟨⟨A4,c4,rfl,own_mono (own_ext ho5 lkc) hszL⟩,lkc⟩
  have g9:=of_decide_eq_false g42
  refine xl_gv rfl EvO.eq v_move (xl_gv rfl EvO.eq v_len (xl_gv rfl EvO.eq v_geq (xl_Pk ?_)))
  refine xl_nil ?_
  refine x_if (fun c2=>?_) (fun c2=>?_)
  ·refine xq (xm (xm (xm (xm (xa (xa (xa (xz ?_))))))))
   refine x_ret ?_
   refine fin4 rfl ?_
   have hfin:Go.Wst.Sg.told M.files r.name r.per=(es1++sl,fz):=by
    obtain ⟨k',rfl⟩:∃ k',k=k'+1:=⟨k - 1,by omega⟩
    rw [htold,toldN,<- hsl,if_pos (by omega)]
   have hdrop:(es1++sl).drop fz=sl:=by rw [<- hel,List.drop_left]
   rw [hfin]
   simp only [hdrop]
   haveI lkA:Lk w5 w1 NoB:=lkc
   exact ⟨⟨A4,c4,rfl,own_mono (own_ext ho5 lkc) hszL⟩,lkc⟩
  refine x_skip (x_regionL (xm (xl_Fb ?_)))
  refine xl_Lc ?_
  refine xl_v (v_add (by omega)) ?_
  refine xz ?_
  obtain ⟨k',rfl⟩:∃ k',k=k'+1:=⟨k - 1,by omega⟩
  refine ⟨_,?_,rfl,fz+r.per,k',es1++sl,A4,c4,rfl,by omega,by omega,by omega,?_,own_ext ho5 lkc,ii,ii,ii,evc,lkc⟩
  ·omega
  ·rw [htold,toldN,<- hsl,if_neg (by omega),lastE_app,List.append_assoc]
theorem refall_ok (F:Nat->Prop) (r:RLog) (M:Disk) (w:World) (tt:TypeId) (tr:Nat×Nat) [htab:Blk w 0 (.cells tabA tt tr)] (h:RLogW w F r M):Ret Tryz.prog 21 #[.agg (rlogC r).toArray] w (fun v w'=>(∃ A' c',v=.slice A' (Go.Wst.Sg.told M.files r.name r.per).1.length c'/\w'.ownsRow w.heap.size 84 6 (.slice A' (Go.Wst.Sg.told M.files r.name r.per).1.length c') (Go.Wst.Sg.told M.files r.name r.per).1.length ((Go.Wst.Sg.told M.files r.name r.per).1.flatMap enC))/\Lk w' w NoB):=by
 refine ret_of_x (N:=15) (l:=[.agg (rlogC r).toArray]) Tryz.func21 rfl rfl (Nat.le_of_ble_eq_true rfl) ?_
 refine xq ?_
 refine xl_e (e_box fun b1 w1 nb1 lb1 kb1=>?_)
 refine xz ?_
 refine xq (xl_Lb ?_)
 refine xl_call (reftold_ok F r M w1 tt tr (h.ext (kpc:Keep NoB w w1))) ?_
 rintro _ w2 ⟨⟨As,cs,rfl,hoS⟩,lkS⟩
 refine xm (xl_v v_extract (xl_v v_extract (xl_v v_extract (xl_v v_extract (xa (xa (xa (xz ?_))))))))
 refine xq (xm (xz ?_))
 refine x_ret ?_
 refine fin1 rfl ?_
 exact ⟨⟨As,cs,rfl,own_mono (own_ext hoS lkc) Ge.le⟩,lkc⟩
theorem refFlush_ok (F:Nat->Prop) (r:RLog) (M:Disk) (w:World) (tt:TypeId) (tr:Nat×Nat) [htab:Blk w 0 (.cells tabA tt tr)] (h:RLogW w F r M):Ret Tryz.prog 85 #[.agg (rlogC r).toArray] w (fun v w'=>(∃ (r':RLog) (F':Nat->Prop),v=.agg (rlogC r').toArray/\RLogW w' F' r' M.flush/\r'.name=r.name/\r'.per=r.per/\r'.sure=(Go.Wst.Sg.told M.flush.files r.name r.per).1.length/\∀ k,F' k->F k\/w.heap.size<=k)/\Lk w' w NoB):=by
 refine ret_of_x (N:=12) (l:=[.agg (rlogC r).toArray]) Tryz.func85 rfl rfl (Nat.le_of_ble_eq_true rfl) ?_
 refine xq ?_
 refine xl_e (e_box fun b1 w1 nb1 lb1 kb1=>?_)
 refine xl_e (e_alloc fun b2 w2 nb2 lb2 kb2=>?_)
 refine xl_nil ?_
 refine xq (xl_Fb ?_)
 refine xl_Lb ?_
 refine xl_call (refflush_ok r.R M F w2 (h.at_.ext (kpc:Keep NoB w w2)) h.s) ?_
 rintro _ w3 ⟨⟨R',F',rfl,hs',hR',hF'⟩,lk2⟩
 have hb1p:b1<(w2).heap.size:=Has.lt
 have hb2p:b2<(w2).heap.size:=Has.lt
 have hb1w:w.heap.size<=b1:=Nat.le_of_eq nb1.eq.symm
 have hb2w:w.heap.size<=b2:=by rw [nb2.eq];exact Ge.le
 have hszp:w.heap.size<=(w2).heap.size:=Ge.le
 have hFl:=h.at_.lt
 refine xl_Fb ?_
 refine xl_s (e_storeA fun w4 l4 k4=>?_)
 refine xl_nil ?_
 have hR2:RefAt w4 F' R':=hR'.keep (kpc:Keep (OneB b1) _ w4) (fun k e e2=>by
  have e':k=b1:=e2
  rcases hF' k e with e3 | e3
  ·have:=hFl k e3;omega
  ·omega)
 have hL:RLogW w4 F' ⟨R',r.name,r.per,r.sure⟩ M.flush:=⟨hR2,hs',h.name,h.per1,h.per2⟩
 refine xq (xl_Lb ?_)
 refine xl_call (refall_ok F' ⟨R',r.name,r.per,r.sure⟩ M.flush w4 tt tr (hL.ext (kpc:Keep NoB _ w4))) ?_
 rintro _ w5 ⟨⟨As,cs,rfl,hoS⟩,lkS⟩
 have hL4:RefAt w5 F' R':=hL.at_.ext (kpc:Keep NoB _ w5)
 refine xl_v v_len (xl_Fb ?_)
 refine xl_s (e_store fun w6 l6 k6=>?_)
 refine xl_nil ?_
 have hR3:RefAt w6 F' R':=hL4.keep (kpc:Keep (OneB b1) _ w6) (fun k e e2=>by
  have e':k=b1:=e2
  rcases hF' k e with e3 | e3
  ·have:=hFl k e3;omega
  ·omega)
 refine xq (xl_Lb ?_)
 refine xl_s (e_storeA fun w7 l7 k7=>?_)
 refine xl_nil ?_
 refine x_ret ?_
 refine finR (rs:=[.cell 2 38]) rfl ?_
 refine ⟨⟨⟨R',r.name,r.per,(Go.Wst.Sg.told M.flush.files r.name r.per).1.length⟩,F',rfl,⟨hR3.keep (kpc:Keep (OneB b2) _ w7) (fun k e e2=>?_),hs',h.name,h.per1,h.per2⟩,rfl,rfl,rfl,fun k e=>(hF' k e).imp id (fun e=>by omega)⟩,lkc⟩
 have e':k=b2:=e2
 rcases hF' k e with e3 | e3
 ·have:=hFl k e3;omega
 ·omega
theorem own_key {fs:Fs} {name f:ByteArray} (hn:∀ p∈fs,nameOk p.1=true) (h:f∈ownFiles fs name):f.size<=24/\∃ q,ownN name f=some q:=by
 unfold ownFiles at h
 obtain ⟨h1,h2⟩:=List.mem_filter.1 h
 obtain ⟨p,hp,rfl⟩:=List.mem_map.1 h1
 exact ⟨nameOk_size (hn p hp),Option.isSome_iff_exists.1 h2⟩
def rmM (M:Disk) (ks:List ByteArray) (p:ByteArray->Bool) (i:Nat):Disk:=doAll M (((ks.drop i).reverse.filter p).map rmT)
theorem rmM_top (M:Disk) (ks:List ByteArray) (p:ByteArray->Bool):rmM M ks p ks.length=M:=by unfold rmM;rw [List.drop_of_length_le (Nat.le_refl _)];rfl
theorem rmM_step {M:Disk} {ks:List ByteArray} {p:ByteArray->Bool} {i:Nat} (h:i<ks.length):rmM M ks p i=if p ks[i]=true then (rmM M ks p (i+1)).does (rmT ks[i]) else rmM M ks p (i+1):=by
 unfold rmM
 rw [List.drop_eq_getElem_cons h,List.reverse_cons,List.filter_append,List.map_append]
 unfold doAll
 rw [List.foldl_append]
 split
 ·next hp=>rw [List.filter_cons,if_pos hp];rfl
 ·next hp=>rw [List.filter_cons,if_neg hp];rfl
theorem rmM_end {M:Disk} {name:ByteArray} {p:ByteArray->Bool} (hp:∀ f,p f=true->ownB name f=true):rmM M (ownFiles M.files name) p 0=doAll M ((fallOwn M.files p).map rmT):=by
 unfold rmM
 rw [List.drop_zero,fall_filter M.files name p hp]
theorem rmM_few (M:Disk) (ks:List ByteArray) (p:ByteArray->Bool) (i:Nat):(rmM M ks p i).lasts.length+(rmM M ks p i).waits.length<=M.lasts.length+M.waits.length+(ks.length - i):=by
 unfold rmM
 have h1:=doAll_few ((((ks.drop i).reverse).filter p).map rmT) M
 have h2:((((ks.drop i).reverse).filter p).map rmT).length<=ks.length - i:=by
  rw [List.length_map]
  refine Nat.le_trans (List.length_filter_le _ _) ?_
  rw [List.length_reverse,List.length_drop]
  exact Nat.le_refl _
 omega
theorem own_le (fs:Fs) (name:ByteArray):(ownFiles fs name).length<=fs.length:=by unfold ownFiles;exact Nat.le_trans (List.length_filter_le _ _) (by simp)
set_option maxHeartbeats 1000000 in
theorem refremove_ok (F:Nat->Prop) (r:RLog) (M:Disk) (n:Nat) (w:World) (h:RLogW w F r M) (hn:n<=1000000) (hfew:M.lasts.length+M.waits.length+(ownFiles M.files r.name).length<=999990):Ret Tryz.prog 62 #[.agg (rlogC r).toArray,.int .i64 (n:Int),.int .i64 (-1)] w (fun v w'=>(∃ (r':RLog) (F':Nat->Prop),v=.agg (rlogC r').toArray/\RLogW w' F' r' (doAll M ((fallOwn M.files (fromB r.name n)).map rmT))/\r'.name=r.name/\r'.per=r.per/\r'.sure=r.sure/\∀ k,F' k->F k\/w.heap.size<=k)/\Lk w' w NoB):=by
 have hns:=h.size
 refine ret_of_x (N:=47) (l:=[.agg (rlogC r).toArray,.int .i64 (n:Int),.int .i64 (-1)]) Tryz.func62 rfl rfl (Nat.le_of_ble_eq_true rfl) ?_
 refine xq ?_
 refine xl_e (e_box fun b3 w1 nb3 lb3 kb3=>?_)
 refine xl_e (e_alloc fun b6 w2 nb6 lb6 kb6=>?_)
 refine xl_nil ?_
 refine xq (xl_Lb ?_)
 refine xl_call (refFiles_ok F r M w2 (h.ext (kpc:Keep NoB w w2))) ?_
 rintro _ w3 ⟨⟨A7,c7,rfl,ho7⟩,lk7⟩
 obtain ⟨ks,hks⟩:∃ ks,ks=ownFiles M.files r.name:=⟨_,rfl⟩
 rw [<- hks] at ho7 ⊢
 have hb3p:b3<(w2).heap.size:=Has.lt
 have hb6p:b6<(w2).heap.size:=Has.lt
 have hksl:ks.length<=1000000:=by rw [hks];exact Nat.le_trans (own_le _ _) h.s.flen
 refine xz ?_
 refine x_seq (xq (xm (xl_v v_len ?_)))
 refine xl_v (v_sub (by omega)) ?_
 refine xz ?_
 refine x_block ?_
 have hb3w:w.heap.size<=b3:=Nat.le_of_eq nb3.eq.symm
 have hb6w:w.heap.size<=b6:=by rw [nb6.eq];exact Ge.le
 have ho7L:=own_ext ho7 (lkc:Lk w3 _ NoB)
 have hr7L:RowP w3 A7 (strs ks):=own_row ho7L
 have h7l:=own_blk ho7
 have hFl:=h.at_.lt
 have hb3L:b3<(w3).heap.size:=Has.lt
 have hb6L:b6<(w3).heap.size:=Has.lt
 have hAtL:=h.at_.ext (kpc:Keep NoB w w3)
 have hszL:w.heap.size<=(w3).heap.size:=Ge.le
 have hkey:∀ i (hi:i<ks.length),ks[i].size<=24/\∃ q,ownN r.name ks[i]=some q:=fun i hi=>by
  have h1:ks[i]∈ownFiles M.files r.name:=by rw [<- hks];exact List.getElem_mem hi
  exact own_key h.s.ok.files.2.2 h1
 rw [<- hks] at hfew
 obtain ⟨wL,hwL⟩:∃ x,x=w3:=⟨_,rfl⟩
 rw [<- hwL] at hb3L hb6L hszL
 refine x_loop (fun t τ ds w'=>ds=[]/\∃ (x:Int) (R1:LRef) (F1:Nat->Prop),t=(x+1).toNat/\-1<=x/\x<ks.length/\RefAt w' F1 R1/\RefS R1 (rmM M ks (fromB r.name n) (x+1).toNat)/\(∀ j,F1 j->F j\/wL.heap.size<=j)/\Blk w' b3 (.cells (rlogC ⟨R1,r.name,r.per,r.sure⟩).toArray 38 (0,0))/\Ev τ 1 (.int .i64 (n:Int))/\Ev τ 2 (.int .i64 (-1))/\Ev τ 3 (ptrV b3)/\Ev τ 6 (ptrV b6)/\Ev τ 7 (.slice A7 ks.length c7)/\Ev τ 8 (.int .i64 x)/\Lk w' w3 (OneB b3)) (ks.length) ?start ?round
 case start=>
  exact ⟨rfl,(ks.length:Int) - 1,r.R,F,by omega,by omega,by omega,hAtL,by rw [show ((ks.length:Int) - 1+1).toNat=ks.length by omega,rmM_top];exact h.s,fun j e=>.inl e,ii,ii,ii,ii,ii,ii,ii,⟨(Keep.refl _ _)⟩⟩
 case round=>
  intro m τ4 ds4 w4 hI
  obtain ⟨rfl,x,R1,F1,rfl,hx1,hx2,hAt1,hS1,hF1,kb31,e1,e2,e3,e6,e7,e8,lk⟩:=hI
  haveI:RowOut (OneB b3) A7:=⟨fun a ha e=>by have:=(h7l a ha).1;have e':a.block=b3:=e;omega⟩
  haveI hr7:Row w4 A7 (strs ks):=⟨hr7L.keep lk.keep (fun a ha e=>by have:=(h7l a ha).1;have e':a.block=b3:=e;omega)⟩
  refine x_seq (xq (xm (xl_v v_geq (xl_nil ?_))))
  refine x_if (fun c1=>?_) (fun c1=>?_)
  ·obtain ⟨i,rfl⟩:∃ i:Nat,x=(i:Int):=⟨x.toNat,by omega⟩
   rw [show ((i:Int)+1).toNat=i+1 by omega] at hS1
   have hi:i<ks.length:=by omega
   obtain ⟨hfs,q,hq⟩:=hkey i hi
   have hq6:=(own_some hq).2
   have hown:=ownI_some hq
   have hfew1:=rmM_few M ks (fromB r.name n) (i+1)
   refine x_skip (x_seq (x_block (x_seq ?_)))
   refine x_drawL (NoB) (allS) (.take 0 (.take 1 (.take 2 (.take 3 (.take 4 (.take 5 (.eff 6 (.take 7 .done)))))))) mixed (by kernel_rfl) (fun _ _ _ _ _ h=>h) (fun w5 l5=>?_)
   refine xt_Fb rfl ?_
   refine xt_Lc rfl ?_
   refine xt_v rfl v_move (xt_v rfl v_move ?_)
   refine xt_v rfl (v_indexAddr i rfl (by omega) (row_some hr7 (by simp [strs];omega))) ?_
   refine xt_v rfl (v_loadR (v:=.string ks[i]) (by rw [Nat.mul_one];simp [hi])) ?_
   refine xt_call rfl (refown_ok r.name ks[i] w5 (by omega) (by omega)) ?_
   rintro _ _ ⟨rfl,rfl⟩
   refine ⟨kpc,?_⟩
   rw [hown]
   refine xt_v rfl v_assign (xt_nil ?_)
   refine xq (xm (xm (xl_v v_geq (xm ?_))))
   refine xl_split 29 (fun g29=>?_) (fun g29=>?_)
   ·have g6:=of_decide_eq_true g29
    refine xl_gv rfl EvO.eq v_move (xl_gv rfl EvO.eq v_move (xl_gv rfl EvO.eq v_neq (xl_Pk ?_)))
    refine xl_nil ?_
    refine x_if (fun c2=>?_) (fun c2=>?_)
    ·have hp:fromB r.name n ks[i]=true:=by unfold fromB;rw [hq];exact decide_eq_true (by omega)
     refine x_drawL (OneB b3) (allS) (.take 0 (.take 2 (.take 3 (.take 4 (.take 5 (.take 6 (.eff 1 (.eff 7 (.take 8 (.take 9 (.take 10 (.take 11 (.eff 12 .done))))))))))))) mixed (by kernel_rfl) (fun _ _ _ _ _ h=>h) (fun w7 l7=>?_)
     refine xt_Fb rfl ?_
     refine xt_v rfl v_move (xt_v rfl v_move ?_)
     refine xt_v rfl (v_indexAddr i rfl (by omega) (row_some hr7 (by simp [strs];omega))) ?_
     refine xt_v rfl (v_loadR (v:=.string ks[i]) (by rw [Nat.mul_one];simp [hi])) ?_
     refine xt_v rfl v_build ?_
     refine xt_e rfl (e_v (v_loadA (r:=none)) ?_)
     refine xt_call rfl (refdo_ok R1 _ F1 ⟨⟨2,ks[i],[],0⟩,none,0⟩ w7 (hAt1.ext (kpc:Keep NoB w4 w7)) hS1 (by omega) (fun j v h=>by simp [bytesC] at h) (Nat.le_refl _) (by simp) (.inr (.inr rfl)) (by show ks[i].size<=_;omega) (show In64 0 by decide)) ?_
     rintro _ w8 ⟨⟨R2,F2,rfl,hs2,hR2,hF2⟩,lkd⟩
     refine ⟨kpc,?_⟩
     have hszB:wL.heap.size<=(w7).heap.size:=by rw [hwL];exact Ge.le
     refine xt_v rfl v_move (xt_v rfl v_extract (xt_v rfl v_extract (xt_Fb rfl ?_)))
     refine xt_s rfl (e_storeA fun w9 l9 k9=>?_)
     refine xt_nil ?_
     have hF3:∀ j,F2 j->F j\/wL.heap.size<=j:=fun j e=>by
      rcases hF2 j e with e2 | e2 | ⟨e2,_⟩
      ·exact hF1 j e2
      ·exact .inr (by omega)
      ·exact absurd rfl e2
     have hnext:∃ (R2:LRef) (F2:Nat->Prop),RefAt w9 F2 R2/\RefS R2 (rmM M ks (fromB r.name n) i)/\(∀ j,F2 j->F j\/wL.heap.size<=j)/\Blk w9 b3 (.cells (rlogC ⟨R2,r.name,r.per,r.sure⟩).toArray 38 (0,0)):=by
      refine ⟨R2,F2,hR2.keep (kpc:Keep (OneB b3) _ w9) (fun j e e2=>?_),by rw [rmM_step hi,if_pos hp];exact hs2,hF3,ii⟩
      have e':j=b3:=e2
      rcases hF3 j e with e3 | e3
      ·have:=hFl j e3;omega
      ·omega
     refine x_regionL (xm ?_)
     refine xl_v (v_sub (by omega)) ?_
     refine xz ?_
     obtain ⟨R2,F2,p1,p2,p3,p4⟩:=hnext
     haveI:=p4
     exact ⟨_,by omega,rfl,(i:Int) - 1,R2,F2,rfl,by omega,by omega,p1,by rw [show ((i:Int) - 1+1).toNat=i by omega];exact p2,p3,p4,ii,ii,ii,ii,ii,ii,lkc⟩
    exfalso;revert c2;simp;try omega
   have g6:=of_decide_eq_false g29
   have hp:¬ fromB r.name n ks[i]=true:=by unfold fromB;rw [hq];simp;omega
   have hnext:∃ (R2:LRef) (F2:Nat->Prop),RefAt w5 F2 R2/\RefS R2 (rmM M ks (fromB r.name n) i)/\(∀ j,F2 j->F j\/wL.heap.size<=j)/\Blk w5 b3 (.cells (rlogC ⟨R2,r.name,r.per,r.sure⟩).toArray 38 (0,0)):=⟨R1,F1,hAt1.ext (kpc:Keep NoB w4 w5),by rw [rmM_step hi,if_neg hp];exact hS1,hF1,ii⟩
   refine xl_gs rfl EvO.eq (xl_gs rfl EvO.eq (xl_gs rfl EvO.eq (xl_Pk ?_)))
   refine xl_nil ?_
   refine x_condF ?_
   refine x_skip (x_regionL (xm ?_))
   refine xl_v (v_sub (by omega)) ?_
   refine xz ?_
   obtain ⟨R2,F2,p1,p2,p3,p4⟩:=hnext
   haveI:=p4
   exact ⟨_,by omega,rfl,(i:Int) - 1,R2,F2,rfl,by omega,by omega,p1,by rw [show ((i:Int) - 1+1).toNat=i by omega];exact p2,p3,p4,ii,ii,ii,ii,ii,ii,lkc⟩
  rw [show (x+1).toNat=0 by omega] at hS1
  refine x_exit (xq (xl_Lb ?_))
  refine xl_s (e_storeA fun w10 l10 k10=>?_)
  refine xl_nil ?_
  refine x_ret ?_
  refine finR (rs:=[.cell 6 38]) rfl ?_
  have hend:rmM M ks (fromB r.name n) 0=doAll M ((fallOwn M.files (fromB r.name n)).map rmT):=by rw [hks];exact rmM_end fromB_own
  rw [hend] at hS1
  refine ⟨⟨⟨R1,r.name,r.per,r.sure⟩,F1,rfl,⟨hAt1.keep (kpc:Keep (OneB b6) _ w10) (fun j e e2=>?_),hS1,h.name,h.per1,h.per2⟩,rfl,rfl,rfl,fun j e=>(hF1 j e).imp id (fun e=>by omega)⟩,lkc⟩
  have e':j=b6:=e2
  rcases hF1 j e with e3 | e3
  ·have:=hFl j e3;omega
  ·omega
end Go.Proofs.YtigmfcgeljjgnaaGreatDoor
