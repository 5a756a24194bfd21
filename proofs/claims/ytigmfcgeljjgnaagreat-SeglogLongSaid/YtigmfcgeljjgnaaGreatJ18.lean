/- A part of the walks through the log and its document, and of the law in plain Lean: Sj Sk HH HI HJ HK HL. -/
import Derived.Test.YtigmfcgeljjgnaaGreatJ17
set_option linter.all false
namespace Go.Wst.Sg
open Go Go.Wst Go.Wst.Dm
theorem lastE_cons (q:Int) (x:En) (l:List En):lastE q (x :: l)=lastE x.epoch l:=by
  unfold lastE
  cases l with
  | nil=>rfl
  | cons y l=>rw [List.getLast?_cons_cons];cases h:(y :: l).getLast? with
    | none=>simp at h
    | some z=>rfl
theorem lastE_nil (q:Int):lastE q []=q:=rfl
theorem lastE_add (q:Int):∀ (a b:List En),lastE q (a++b)=lastE (lastE q a) b:=by
  intro a
  induction a generalizing q with
  | nil=>intro b;rfl
  | cons x a ih=>intro b;rw [List.cons_append,lastE_cons,lastE_cons,ih]
theorem rise_add:∀ (a b:List En) (q:Int),riseE q (a++b)=a++b↔riseE q a=a/\riseE (lastE q a) b=b:=by
  intro a
  induction a with
  | nil=>intro b q;simp [riseE,lastE_nil]
  | cons x a ih=>
    intro b q
    rw [List.cons_append,riseE,riseE,lastE_cons]
    by_cases h:q<=x.epoch
    · rw [if_pos h,if_pos h]
      simp only [List.cons.injEq,true_and]
      exact ih b x.epoch
    rw [if_neg h,if_neg h]
    simp
theorem frames_app (a b:List En):frames (a++b)=frames a++frames b:=List.flatMap_append
theorem frames_ne {l:List En} (h:∀ e∈l,Right e) (h2:(frames l).length=0):l=[]:=by
  cases l with
  | nil=>rfl
  | cons x l=>
    have h3:=frame_len (h x List.mem_cons_self)
    simp [frames] at h2
    rw [h2.1] at h3
    simp at h3
theorem fileN_ne {name:ByteArray} {n m:Nat} (hn:n<1000000) (hm:m<1000000) (h:n≠m):fileN name n≠fileN name m:=fun e=>h (file_inj hn hm e)
structure LogI (fs:Fs) (name:ByteArray) (per:Nat) (es:List En):Prop where
  right:∀ e∈es,Right e
  rise:riseE 0 es=es
  len:es.length<=4096
  own:∀ n,n<1000000->akey fs (fileN name n)≠none->n % per=0/\n<es.length
  seg:∀ j,j*per<es.length->∃ r,akey fs (fileN name (j*per))=some (frames ((es.drop (j*per)).take per)++r)/\(es.length<j*per+per\/4096<=j*per+per->r=[])
theorem segE_nil {fs:Fs} {name:ByteArray} {per first:Nat} {q:Int} (h:akey fs (fileN name first)=none):segE fs name per first q=[]:=by
  unfold segE
  rw [h]
  simp [allB_nil,riseE]
theorem LogI.segE {fs:Fs} {name:ByteArray} {per:Nat} {es:List En} (h:LogI fs name per es) {j:Nat} (hj:j*per<es.length):segE fs name per (j*per) (lastE 0 (es.take (j*per)))=(es.drop (j*per)).take per:=by
  obtain ⟨r,h1,h2⟩:=h.seg j hj
  have hl:=h.len
  have hr:riseE (lastE 0 (es.take (j*per))) ((es.drop (j*per)).take per)=(es.drop (j*per)).take per:=by
    have h3:riseE 0 (es.take (j*per)++es.drop (j*per))=es.take (j*per)++es.drop (j*per):=by rw [List.take_append_drop];exact h.rise
    have h4:=((rise_add _ _ _).1 h3).2
    have h5:riseE (lastE 0 (es.take (j*per))) ((es.drop (j*per)).take per++(es.drop (j*per)).drop per)=(es.drop (j*per)).take per++(es.drop (j*per)).drop per:=by rw [List.take_append_drop];exact h4
    exact ((rise_add _ _ _).1 h5).1
  have hs:((es.drop (j*per)).take per).length=min per (es.length - j*per):=by simp
  have hR:∀ e∈(es.drop (j*per)).take per,Right e:=fun e he=>h.right e (List.mem_of_mem_drop (List.mem_of_mem_take he))
  unfold Sg.segE
  rw [h1]
  simp only [Option.getD_some]
  rw [allB_frames hR]
  clear hR h1
  generalize lastE 0 (es.take (j*per))=q at hr ⊢
  generalize (es.drop (j*per)).take per=s at hr hs ⊢
  by_cases hc:es.length<j*per+per
  · rw [h2 (.inl hc),allB_nil,List.append_nil,List.take_of_length_le (by omega),hr]
  rw [List.take_append_of_le_length (by omega),List.take_of_length_le (by omega),hr]
theorem LogI.toldN {fs:Fs} {name:ByteArray} {per:Nat} {es:List En} (h:LogI fs name per es) (hp:1<=per):∀ (k j:Nat),j*per<=es.length->j*per<4096->es.length<j*per+k->∃ fz,toldN fs name per k (j*per) (lastE 0 (es.take (j*per)))=(es.drop (j*per),fz)/\(akey fs (fileN name fz)=none/\es.length=fz\/∃ i,fz=i*per/\fz<es.length/\es.length<=fz+per/\(es.length<fz+per\/4096<=fz+per))
  | 0,j,h1,_,h2=>by omega
  | k+1,j,h1,h3,h2=>by
    have hl:=h.len
    rw [Sg.toldN]
    by_cases hj:j*per<es.length
    · rw [h.segE hj]
      have hs:((es.drop (j*per)).take per).length=min per (es.length - j*per):=by simp
      by_cases hc:((es.drop (j*per)).take per).length<per\/4096<=j*per+((es.drop (j*per)).take per).length
      · rw [if_pos hc]
        have e:(es.drop (j*per)).take per=es.drop (j*per):=List.take_of_length_le (by rw [List.length_drop];omega)
        exact ⟨j*per,by rw [e],.inr ⟨j,rfl,hj,by omega,by omega⟩⟩
      rw [if_neg hc]
      have e2:(j+1)*per=j*per+per:=Nat.succ_mul j per
      have e3:es.take ((j+1)*per)=es.take (j*per)++(es.drop (j*per)).take per:=by rw [e2,List.take_add]
      obtain ⟨fz,h4,h5⟩:=LogI.toldN h hp k (j+1) (by omega) (by omega) (by omega)
      rw [e3,lastE_add,e2] at h4
      refine ⟨fz,?_,h5⟩
      rw [h4]
      simp only [Prod.mk.injEq,and_true]
      rw [<- List.drop_drop,List.take_append_drop]
    have hz:akey fs (fileN name (j*per))=none:=by
      rcases Decidable.em (akey fs (fileN name (j*per))=none) with e | e
      · exact e
      exact absurd (h.own _ (by omega) e).2 hj
    rw [segE_nil hz,if_pos (.inl (by simp;omega))]
    exact ⟨j*per,by rw [List.drop_of_length_le (by omega)],.inl ⟨hz,by omega⟩⟩
theorem LogI.told2 {fs:Fs} {name:ByteArray} {per:Nat} {es:List En} (h:LogI fs name per es) (hp:1<=per):∃ fz,told fs name per=(es,fz)/\(akey fs (fileN name fz)=none/\es.length=fz\/∃ i,fz=i*per/\fz<es.length/\es.length<=fz+per/\(es.length<fz+per\/4096<=fz+per)):=by
  have hl:=h.len
  obtain ⟨fz,h1,h2⟩:=h.toldN hp 4097 0 (by omega) (by omega) (by omega)
  exact ⟨fz,by unfold told;simpa [lastE_nil] using h1,h2⟩
theorem LogI.told {fs:Fs} {name:ByteArray} {per:Nat} {es:List En} (h:LogI fs name per es) (hp:1<=per):(told fs name per).1=es:=by
  obtain ⟨fz,h1,_⟩:=h.told2 hp
  rw [h1]
theorem LogI.mend {fs:Fs} {name:ByteArray} {per:Nat} {es:List En} (h:LogI fs name per es) (hp:1<=per):mendT fs name per=[]:=by
  obtain ⟨fz,h1,h2⟩:=h.told2 hp
  unfold mendT
  rw [h1]
  rcases h2 with ⟨h2,_⟩ | ⟨i,rfl,h2,h3,h4⟩
  · simp only [h2]
  obtain ⟨r,h5,h6⟩:=h.seg i h2
  have e:(es.drop (i*per)).take per=es.drop (i*per):=List.take_of_length_le (by rw [List.length_drop];omega)
  rw [h6 h4,e,List.append_nil] at h5
  simp only [h5]
  rw [if_neg,if_neg (by omega)]
  intro e2
  have e3:=congrArg List.length (frames_ne (fun e he=>h.right e (List.mem_of_mem_drop he)) e2)
  simp at e3
  omega
theorem key_ne {fs:Fs} {f:ByteArray} (h:f∈fs.map (·.1)):akey fs f≠none:=fun e=>by
  obtain ⟨p,hp,he⟩:=List.mem_map.1 h
  exact akey_none.1 e p hp he
theorem ne_key {fs:Fs} {f:ByteArray} (h:akey fs f≠none):f∈fs.map (·.1):=by
  refine Classical.byContradiction fun hh=>h (akey_none.2 fun p hp e=>hh (List.mem_map.2 ⟨p,hp,e⟩))
theorem fall_mem {fs:Fs} {p:ByteArray->Bool} {f:ByteArray}:f∈fallOwn fs p↔akey fs f≠none/\p f=true:=by
  unfold fallOwn
  rw [List.mem_reverse,List.mem_filter]
  exact ⟨fun h=>⟨key_ne h.1,h.2⟩,fun h=>⟨ne_key h.1,h.2⟩⟩
theorem stray_true {name:ByteArray} {per len:Nat} {f:ByteArray} (h:strayB name per len f=true):∃ n,f=fileN name n/\n<1000000/\¬ (n % per=0/\n<len):=by
  unfold strayB at h
  split at h
  · next n hn=>
    obtain ⟨h1,h2⟩:=own_some hn
    exact ⟨n,h1,h2,fun e=>by simp at h;omega⟩
  cases h
theorem from_file {name:ByteArray} {m n:Nat} (hn:n<1000000):fromB name m (fileN name n)=true↔m<=n:=by
  unfold fromB
  rw [own_file name hn]
  simp
theorem LogI.again {M:Disk} {name:ByteArray} {per:Nat} {es:List En} (h:LogI M.files name per es) (hp:1<=per):openM M name per=M:=by
  have h1:fallOwn M.files (strayB name per es.length)=[]:=by
    refine List.eq_nil_iff_forall_not_mem.2 fun f hf=>?_
    obtain ⟨h2,h3⟩:=fall_mem.1 hf
    obtain ⟨n,rfl,hn,h4⟩:=stray_true h3
    exact h4 (h.own n hn h2)
  unfold openM
  rw [h.mend hp,h.told hp]
  show doAll M ((fallOwn M.files _).map rmT)=M
  rw [h1]
  rfl
theorem akey_does {M:Disk} (hm:M.ok) {t:Thing} (hw:okWhat t) (h0:M.doNo t=0) (k:ByteArray):akey (M.does t).files k=if k=t.name then t.look (akey M.files t.name) else akey M.files k:=by
  rw [foldl_snoc h0]
  exact akey_done hw hm.files.1 k
theorem akey_rm {M:Disk} (hm:M.ok) {f:ByteArray} (hf:nameOk f=true) (k:ByteArray):akey (M.does (rmT f)).files k=if k=f then none else akey M.files k:=by
  by_cases h0:M.doNo (rmT f)=0
  · rw [akey_does hm (.inr (.inr rfl)) h0]
    rfl
  rw [Disk.does,if_neg h0]
  split
  · next e=>
    subst e
    rw [doNo_remove,readNo,if_neg (by rw [hf];decide)] at h0
    refine Decidable.byContradiction fun hh=>h0 (if_neg hh)
  rfl
theorem doAll_ok:∀ (ts:List Thing) (M:Disk),M.ok->(∀ t∈ts,okWhat t)->(doAll M ts).ok
  | [],M,h,_=>h
  | t :: ts,M,h,hw=>doAll_ok ts (M.does t) (h.does (hw t List.mem_cons_self)) (fun u hu=>hw u (List.mem_cons_of_mem _ hu))
theorem rm_ok (l:List ByteArray):∀ t∈l.map rmT,okWhat t:=fun t ht=>by
  obtain ⟨f,_,rfl⟩:=List.mem_map.1 ht
  exact .inr (.inr rfl)
theorem akey_rms:∀ (l:List ByteArray) (M:Disk),M.ok->(∀ f∈l,nameOk f=true)->∀ k,(k∈l->akey (doAll M (l.map rmT)).files k=none)/\(¬ k∈l->akey (doAll M (l.map rmT)).files k=akey M.files k)
  | [],M,_,_,k=>⟨by simp,fun _=>rfl⟩
  | f :: l,M,hm,hf,k=>by
    have h1:=akey_rms l (M.does (rmT f)) (hm.does (.inr (.inr rfl))) (fun g hg=>hf g (List.mem_cons_of_mem _ hg)) k
    have h4:=akey_rm hm (hf f List.mem_cons_self) k
    show (_->akey (doAll (M.does (rmT f)) (l.map rmT)).files k=none)/\(_->akey (doAll (M.does (rmT f)) (l.map rmT)).files k=_)
    refine ⟨fun h=>?_,fun h=>?_⟩
    · by_cases h2:k∈l
      · exact h1.1 h2
      rw [h1.2 h2,h4,if_pos]
      rcases List.mem_cons.1 h with e | e
      · exact e
      exact absurd e h2
    rw [h1.2 (fun e=>h (List.mem_cons_of_mem _ e)),h4,if_neg (fun e=>h (by rw [e];exact List.mem_cons_self))]
theorem fall_ok {M:Disk} (hm:M.ok) (p:ByteArray->Bool):∀ f∈fallOwn M.files p,nameOk f=true:=fun f hf=>by
  obtain ⟨q,hq,rfl⟩:=List.mem_map.1 (ne_key (fall_mem.1 hf).1)
  exact hm.files.2.2 q hq
theorem akey_fall {M:Disk} (hm:M.ok) (p:ByteArray->Bool) (k:ByteArray):akey (doAll M ((fallOwn M.files p).map rmT)).files k=if p k=true then none else akey M.files k:=by
  have h3:=akey_rms _ M hm (fall_ok hm p) k
  by_cases h:p k=true
  · rw [if_pos h]
    by_cases h2:akey M.files k=none
    · rw [h3.2 (fun e=>(fall_mem.1 e).1 h2),h2]
    rw [h3.1 (fall_mem.2 ⟨h2,h⟩)]
  rw [if_neg h,h3.2 (fun e=>h (fall_mem.1 e).2)]
theorem LogI.put {M:Disk} {name:ByteArray} {per:Nat} {es:List En} {x:En} (hm:M.ok) (h:LogI M.files name per es) (hp:1<=per) (h0:appNo M name per es x=0):LogI (M.does (putT name per es.length x)).files name per (es++[x])/\M.doNo (putT name per es.length x)=0:=by
  have hl:=h.len
  unfold appNo at h0
  split at h0
  · cases h0
  next hR=>
  split at h0
  · cases h0
  next hL=>
  split at h0
  · cases h0
  next hq=>
  refine ⟨?_,h0⟩
  have hR:Right x:=Decidable.byContradiction hR
  have hdm:=Nat.div_mul_le_self es.length per
  have hdl:es.length<es.length / per*per+per:=by
    have h1:=Nat.mod_lt es.length (show per > 0 by omega)
    have h2:=Nat.div_add_mod es.length per
    rw [Nat.mul_comm] at h2
    omega
  obtain ⟨b,hb⟩:∃ b,b=es.length / per*per:=⟨_,rfl⟩
  have hk:∀ n,n<1000000->akey (M.does (putT name per es.length x)).files (fileN name n)=if n=b then some ((akey M.files (fileN name b)).getD []++frame x) else akey M.files (fileN name n):=by
    intro n hn
    rw [akey_does hm (.inl rfl) h0]
    show (if fileN name n=fileN name (es.length / per*per) then _ else _)=_
    rw [<- hb]
    by_cases e:n=b
    · rw [if_pos e,if_pos (by rw [e])]
      simp only [Thing.look,putT,if_true,<- hb]
    rw [if_neg e,if_neg (fileN_ne hn (by omega) e)]
  rw [<- hb] at hdm hdl
  have hlen:(es++[x]).length=es.length+1:=by simp
  refine ⟨fun e he=>?_,?_,by omega,fun n hn hk2=>?_,fun j hj=>?_⟩
  · rcases List.mem_append.1 he with he | he
    · exact h.right e he
    simp only [List.mem_singleton] at he;rw [he];exact hR
  · refine (rise_add _ _ _).2 ⟨h.rise,?_⟩
    have h4:lastE 0 es<=x.epoch:=by
      rcases Decidable.em (es=[]) with e | e
      · subst e;have:=hR.1.1;show (0:Int)<=_;omega
      exact Decidable.byContradiction fun hh=>hq ⟨e,by omega⟩
    rw [riseE,if_pos h4]
    rfl
  · rw [hk n hn] at hk2
    by_cases e:n=b
    · subst e
      rw [hlen]
      exact ⟨by rw [hb];exact Nat.mul_mod_left _ _,by omega⟩
    rw [if_neg e] at hk2
    have:=h.own n hn hk2
    omega
  rw [hlen] at hj ⊢
  rw [hk _ (by omega)]
  by_cases e:j*per=b
  · rw [if_pos e]
    have h5:((es++[x]).drop (j*per)).take per=es.drop b++[x]:=by
      rw [e,List.drop_append_of_le_length hdm,List.take_of_length_le (by simp;omega)]
    have h6:(akey M.files (fileN name b)).getD []=frames (es.drop b):=by
      rcases Nat.lt_or_ge b es.length with h7 | h7
      · obtain ⟨r,h8,h9⟩:=h.seg j (by omega)
        rw [e] at h8 h9
        rw [h8,h9 (.inl hdl),List.append_nil,List.take_of_length_le (by rw [List.length_drop];omega)]
        rfl
      have h8:akey M.files (fileN name b)=none:=by
        rcases Decidable.em (akey M.files (fileN name b)=none) with e2 | e2
        · exact e2
        have:=(h.own b (by omega) e2).2;omega
      rw [h8,List.drop_of_length_le h7]
      rfl
    rw [h5,h6]
    exact ⟨[],by simp [frames],fun _=>rfl⟩
  rw [if_neg e]
  have h7:j*per+per<=b:=by
    have h8:j<es.length / per:=by
      rcases Nat.lt_or_ge j (es.length / per) with h9 | h9
      · exact h9
      have h11:j<=es.length / per:=(Nat.le_div_iff_mul_le (by omega)).2 (by omega)
      have h12:j=es.length / per:=by omega
      exact absurd (by rw [h12,hb]) e
    have h11:=Nat.mul_le_mul_right per (show j+1<=es.length / per from h8)
    rw [Nat.succ_mul] at h11
    omega
  obtain ⟨r,h8,h9⟩:=h.seg j (by omega)
  refine ⟨r,?_,fun h10=>h9 (by omega)⟩
  rw [h8,List.drop_append_of_le_length (by omega),List.take_append_of_le_length (by rw [List.length_drop];omega)]
theorem LogI.appAll {name:ByteArray} {per:Nat} (hp:1<=per):∀ (xs:List En) (M:Disk) (es:List En),M.ok->LogI M.files name per es->(appAll name per M es xs).1.ok/\LogI (appAll name per M es xs).1.files name per (appAll name per M es xs).2.1
  | [],M,es,hm,h=>⟨hm,h⟩
  | x :: xs,M,es,hm,h=>by
    rw [Sg.appAll]
    by_cases h0:appNo M name per es x=0
    · rw [if_pos h0]
      exact LogI.appAll hp xs _ _ (hm.does (.inl rfl)) (h.put hm hp h0).1
    rw [if_neg h0]
    exact ⟨hm,h⟩
theorem LogI.trunc {M:Disk} {name:ByteArray} {per:Nat} {es:List En} (hm:M.ok) (hname:logName name=true) (h:LogI M.files name per es) (hp:1<=per) (hok:∀ n,nameOk (fileN name n)=true) {n:Nat} (hn:n<=es.length):LogI (truncM M name per es n).files name per (es.take n):=by
  have hl:=h.len
  have hdm:=Nat.div_mul_le_self n per
  have hdl:n<n / per*per+per:=by
    have h1:=Nat.mod_lt n (show per > 0 by omega)
    have h2:=Nat.div_add_mod n per
    rw [Nat.mul_comm] at h2
    omega
  obtain ⟨b,hb⟩:∃ b,b=n / per*per:=⟨_,rfl⟩
  obtain ⟨M1,hM1⟩:∃ M1,M1=doAll M ((fallOwn M.files (fromB name n)).map rmT):=⟨_,rfl⟩
  have hm1:M1.ok:=by rw [hM1];exact doAll_ok _ M hm (rm_ok _)
  have hk1:∀ k,k<1000000->akey M1.files (fileN name k)=if n<=k then none else akey M.files (fileN name k):=by
    intro k hk
    rw [hM1,akey_fall hm]
    by_cases e:n<=k
    · rw [if_pos e,if_pos ((from_file hk).2 e)]
    rw [if_neg e,if_neg (fun e2=>e ((from_file hk).1 e2))]
  have htl:(es.take n).length=n:=by rw [List.length_take];omega
  have hseg:∀ j,j*per<n->j*per≠b->j*per+per<=n:=by
    intro j hj e
    have h8:j<n / per:=by
      rcases Nat.lt_or_ge j (n / per) with h9 | h9
      · exact h9
      have h10:=Nat.mul_le_mul_right per h9
      have h11:j<=n / per:=(Nat.le_div_iff_mul_le (by omega)).2 (by omega)
      have:j=n / per:=by omega
      exact absurd (by rw [this,hb]) e
    have h11:=Nat.mul_le_mul_right per (show j+1<=n / per from h8)
    rw [Nat.succ_mul] at h11
    omega
  have hold:∀ j,j*per<n->j*per≠b->∃ r,akey M.files (fileN name (j*per))=some (frames (((es.take n).drop (j*per)).take per)++r)/\(n<j*per+per\/4096<=j*per+per->r=[]):=by
    intro j hj e
    have h7:=hseg j hj e
    obtain ⟨r,h8,h9⟩:=h.seg j (by omega)
    refine ⟨r,?_,fun h10=>h9 (by omega)⟩
    rw [h8,List.drop_take,List.take_take,Nat.min_eq_left (by omega)]
  have hrise:riseE 0 (es.take n)=es.take n:=((rise_add (es.take n) (es.drop n) 0).1 (by rw [List.take_append_drop];exact h.rise)).1
  have hright:∀ e∈es.take n,Right e:=fun e he=>h.right e (List.mem_of_mem_take he)
  unfold truncM
  rw [<- hM1,<- hb]
  rw [<- hb] at hdm hdl
  split
  · next hc=>
    have hbl:b<es.length:=by omega
    obtain ⟨j0,hj0⟩:∃ j0,j0*per=b:=⟨_,hb.symm⟩
    obtain ⟨r,h8,h9⟩:=h.seg j0 (by omega)
    rw [hj0] at h8 h9
    have hsp:(es.drop b).take per=(es.take n).drop b++((es.drop b).take per).drop (n - b):=by
      have h10:(es.take n).drop b=((es.drop b).take per).take (n - b):=by rw [List.drop_take,List.take_take,Nat.min_eq_left (by omega)]
      rw [h10,List.take_append_drop]
    have hfile:akey M.files (fileN name b)=some (frames ((es.take n).drop b)++(frames (((es.drop b).take per).drop (n - b))++r)):=by
      rw [h8,<- List.append_assoc,<- frames_app,<- hsp]
    have hf1:akey M1.files (fileN name b)=some (frames ((es.take n).drop b)++(frames (((es.drop b).take per).drop (n - b))++r)):=by rw [hk1 _ (by omega),if_neg (by omega),hfile]
    have h0:M1.doNo (cutT (fileN name b) (frames ((es.take n).drop b)).length)=0:=by
      rw [doNo_cut]
      have e1:readNo M1.files (fileN name b)=0:=by unfold readNo;rw [if_neg (by rw [hok];decide),if_neg (by rw [hf1];simp)]
      have e2:readB M1.files (fileN name b)=frames ((es.take n).drop b)++(frames (((es.drop b).take per).drop (n - b))++r):=by unfold readB;rw [if_pos (hok b),hf1];rfl
      rw [e1,e2,if_neg (by decide),if_neg]
      rw [List.length_append]
      omega
    have hk2:∀ k,k<1000000->akey (M1.does (cutT (fileN name b) (frames ((es.take n).drop b)).length)).files (fileN name k)=if k=b then some (frames ((es.take n).drop b)) else akey M1.files (fileN name k):=by
      intro k hk
      rw [akey_does hm1 (.inr (.inl rfl)) h0]
      show (if fileN name k=fileN name b then _ else _)=_
      by_cases e:k=b
      · rw [if_pos e,if_pos (by rw [e])]
        simp [Thing.look,hf1]
      rw [if_neg e,if_neg (fileN_ne hk (by omega) e)]
    refine ⟨hright,hrise,by omega,fun k hk hk3=>?_,fun j hj=>?_⟩
    · rw [hk2 k hk] at hk3
      rw [htl]
      by_cases e:k=b
      · subst e
        exact ⟨by rw [hb];exact Nat.mul_mod_left _ _,by omega⟩
      rw [if_neg e,hk1 k hk] at hk3
      by_cases e2:n<=k
      · rw [if_pos e2] at hk3;exact absurd rfl hk3
      rw [if_neg e2] at hk3
      exact ⟨(h.own k hk hk3).1,by omega⟩
    rw [htl] at hj ⊢
    rw [hk2 _ (by omega)]
    by_cases e:j*per=b
    · rw [if_pos e,e]
      exact ⟨[],by rw [List.append_nil,List.take_of_length_le (l:=(es.take n).drop b) (by rw [List.length_drop,htl];omega)],fun _=>rfl⟩
    rw [if_neg e,hk1 _ (by omega),if_neg (by omega)]
    exact hold j hj e
  next hc=>
  refine ⟨hright,hrise,by omega,fun k hk hk3=>?_,fun j hj=>?_⟩
  · rw [hk1 k hk] at hk3
    rw [htl]
    by_cases e2:n<=k
    · rw [if_pos e2] at hk3;exact absurd rfl hk3
    rw [if_neg e2] at hk3
    exact ⟨(h.own k hk hk3).1,by omega⟩
  rw [htl] at hj ⊢
  rw [hk1 _ (by omega),if_neg (by omega)]
  by_cases e:j*per=b
  · have hnl:n=es.length:=by omega
    have h10:=h.seg j (by omega)
    rw [hnl,List.take_of_length_le (Nat.le_refl _)]
    exact h10
  exact hold j hj e
structure LogJ (fs:Fs) (name:ByteArray) (per:Nat) (es:List En):Prop where
  right:∀ e∈es,Right e
  rise:riseE 0 es=es
  len:es.length<=4096
  seg:∀ j,j*per<es.length->∃ r,akey fs (fileN name (j*per))=some (frames ((es.drop (j*per)).take per)++r)/\(es.length<j*per+per->allB r=[])
  stop:∀ j,j*per=es.length->allB ((akey fs (fileN name (j*per))).getD [])=[]
theorem LogI.own_none {fs:Fs} {name:ByteArray} {per:Nat} {es:List En} (h:LogI fs name per es) {n:Nat} (hn:n<1000000) (h2:es.length<=n):akey fs (fileN name n)=none:=by
  rcases Decidable.em (akey fs (fileN name n)=none) with e | e
  · exact e
  have:=(h.own n hn e).2;omega
theorem LogJ.segE {fs:Fs} {name:ByteArray} {per:Nat} {es:List En} (h:LogJ fs name per es) {j:Nat} (hj:j*per<es.length):segE fs name per (j*per) (lastE 0 (es.take (j*per)))=(es.drop (j*per)).take per:=by
  obtain ⟨r,h1,h2⟩:=h.seg j hj
  have hl:=h.len
  have hr:riseE (lastE 0 (es.take (j*per))) ((es.drop (j*per)).take per)=(es.drop (j*per)).take per:=by
    have h3:riseE 0 (es.take (j*per)++es.drop (j*per))=es.take (j*per)++es.drop (j*per):=by rw [List.take_append_drop];exact h.rise
    have h4:=((rise_add _ _ _).1 h3).2
    have h5:riseE (lastE 0 (es.take (j*per))) ((es.drop (j*per)).take per++(es.drop (j*per)).drop per)=(es.drop (j*per)).take per++(es.drop (j*per)).drop per:=by rw [List.take_append_drop];exact h4
    exact ((rise_add _ _ _).1 h5).1
  have hs:((es.drop (j*per)).take per).length=min per (es.length - j*per):=by simp
  have hR:∀ e∈(es.drop (j*per)).take per,Right e:=fun e he=>h.right e (List.mem_of_mem_drop (List.mem_of_mem_take he))
  unfold Sg.segE
  rw [h1]
  simp only [Option.getD_some]
  rw [allB_frames hR]
  clear hR h1
  generalize lastE 0 (es.take (j*per))=q at hr ⊢
  generalize (es.drop (j*per)).take per=s at hr hs ⊢
  by_cases hc:es.length<j*per+per
  · rw [h2 hc,List.append_nil,List.take_of_length_le (by omega),hr]
  rw [List.take_append_of_le_length (by omega),List.take_of_length_le (by omega),hr]
theorem LogJ.toldN {fs:Fs} {name:ByteArray} {per:Nat} {es:List En} (h:LogJ fs name per es) (hp:1<=per):∀ (k j:Nat),j*per<=es.length->j*per<4096->es.length<j*per+k->(toldN fs name per k (j*per) (lastE 0 (es.take (j*per)))).1=es.drop (j*per)
  | 0,j,h1,_,h2=>by omega
  | k+1,j,h1,h3,h2=>by
    have hl:=h.len
    rw [Sg.toldN]
    by_cases hj:j*per<es.length
    · rw [h.segE hj]
      have hs:((es.drop (j*per)).take per).length=min per (es.length - j*per):=by simp
      by_cases hc:((es.drop (j*per)).take per).length<per\/4096<=j*per+((es.drop (j*per)).take per).length
      · rw [if_pos hc]
        exact List.take_of_length_le (by rw [List.length_drop];omega)
      rw [if_neg hc]
      have e2:(j+1)*per=j*per+per:=Nat.succ_mul j per
      have e3:es.take ((j+1)*per)=es.take (j*per)++(es.drop (j*per)).take per:=by rw [e2,List.take_add]
      have h4:=LogJ.toldN h hp k (j+1) (by omega) (by omega) (by omega)
      rw [e3,lastE_add,e2] at h4
      show (es.drop (j*per)).take per++_=_
      rw [h4,<- List.drop_drop,List.take_append_drop]
    have hz:allB ((akey fs (fileN name (j*per))).getD [])=[]:=h.stop j (by omega)
    have hse:Sg.segE fs name per (j*per) (lastE 0 (es.take (j*per)))=[]:=by
      unfold Sg.segE
      rw [hz]
      simp [riseE]
    rw [hse,if_pos (.inl (by simp;omega)),List.drop_of_length_le (by omega)]
theorem LogJ.told {fs:Fs} {name:ByteArray} {per:Nat} {es:List En} (h:LogJ fs name per es) (hp:1<=per):(told fs name per).1=es:=by
  have hl:=h.len
  have h1:=h.toldN hp 4097 0 (by omega) (by omega) (by omega)
  unfold Sg.told
  simpa [lastE_nil] using h1
def Part (S:List En->Prop) (p:List En) (name:ByteArray) (per:Nat) (fs:Fs):Prop:=(∃ s,S s/\(told fs name per).1 <+: s)/\p <+: (told fs name per).1
theorem Part.mono {S S':List En->Prop} {p p':List En} {name:ByteArray} {per:Nat} {fs:Fs} (h:Part S p name per fs) (hS:∀ s,S s->S' s) (hp:p' <+: p):Part S' p' name per fs:=by
  obtain ⟨⟨s,h1,h2⟩,h3⟩:=h
  exact ⟨⟨s,hS s h1,h2⟩,hp.trans h3⟩
structure Hist (S:List En->Prop) (p:List En) (name:ByteArray) (per:Nat) (M:Disk):Prop where
  at_:∀ j,j<=M.waits.length->Part S p name per ((M.waits.take j).foldl done M.lasts)
  torn:∀ j t n,M.waits[j]?=some t->t.what=0->Part S p name per (done ((M.waits.take j).foldl done M.lasts) (tornT t n))
theorem Hist.mono {S S':List En->Prop} {p p':List En} {name:ByteArray} {per:Nat} {M:Disk} (h:Hist S p name per M) (hS:∀ s,S s->S' s) (hp:p' <+: p):Hist S' p' name per M:=
  ⟨fun j hj=>(h.at_ j hj).mono hS hp,fun j t n ht hw=>(h.torn j t n ht hw).mono hS hp⟩
theorem Hist.crash {S:List En->Prop} {p:List En} {name:ByteArray} {per:Nat} {M:Disk} (h:Hist S p name per M) (keep torn:Int):Part S p name per (M.crash keep torn).files:=by
  have hk:=pickN_le keep M.waits.length
  unfold Disk.crash
  dsimp only
  split
  · exact h.at_ _ hk
  next t ht=>
  split
  · next h2=>exact h.torn _ t _ ht h2.1
  exact h.at_ _ hk
theorem Hist.does {S:List En->Prop} {p:List En} {name:ByteArray} {per:Nat} {M:Disk} {t:Thing} (h:Hist S p name per M) (h1:M.doNo t=0->Part S p name per (M.does t).files) (h2:M.doNo t=0->t.what=0->∀ n,Part S p name per (done M.files (tornT t n))):Hist S p name per (M.does t):=by
  by_cases h0:M.doNo t=0
  · have h3:=h1 h0
    rw [foldl_snoc h0] at h3
    rw [Disk.does,if_pos h0]
    refine ⟨fun j hj=>?_,fun j u n hu hw=>?_⟩
    · simp only [List.length_append,List.length_singleton] at hj
      rcases Nat.lt_or_ge M.waits.length j with e | e
      · rw [List.take_of_length_le (by simp;omega),List.foldl_append]
        exact h3
      rw [List.take_append_of_le_length e]
      exact h.at_ j e
    simp only at hu
    rcases Nat.lt_or_ge j M.waits.length with e | e
    · rw [List.getElem?_append_left e] at hu
      simp only
      rw [List.take_append_of_le_length (by omega)]
      exact h.torn j u n hu hw
    have hj:j=M.waits.length:=by
      have h5:=(List.getElem?_eq_some_iff.1 hu).1
      simp at h5
      omega
    subst hj
    simp at hu
    subst hu
    simp only
    rw [List.take_append_of_le_length (Nat.le_refl _),List.take_of_length_le (Nat.le_refl _)]
    exact h2 h0 hw n
  rw [Disk.does,if_neg h0]
  exact h
theorem akey_torn {M:Disk} (hm:M.ok) (t:Thing) (hw:t.what=0) (n:Nat) (k:ByteArray):akey (done M.files (tornT t n)) k=if k=t.name then some ((akey M.files t.name).getD []++t.bytes.take n) else akey M.files k:=by
  rw [akey_done (t:=tornT t n) (.inl hw) hm.files.1 k]
  show (if k=t.name then Thing.look (tornT t n) (akey M.files t.name) else _)=_
  unfold Thing.look
  rw [if_pos (show (tornT t n).what=0 from hw)]
  rfl
theorem LogI.torn {M:Disk} {name:ByteArray} {per:Nat} {es:List En} {x:En} (hm:M.ok) (h:LogI M.files name per es) (hp:1<=per) (h0:appNo M name per es x=0) (n:Nat):(Sg.told (done M.files (tornT (putT name per es.length x) n)) name per).1=es\/(Sg.told (done M.files (tornT (putT name per es.length x) n)) name per).1=es++[x]:=by
  have hl:=h.len
  obtain ⟨hI,hd⟩:=h.put hm hp h0
  have hR:Right x:=hI.right x (by simp)
  by_cases hn:n<(frame x).length
  · refine .inl (LogJ.told ?_ hp)
    have hdm:=Nat.div_mul_le_self es.length per
    have hdl:es.length<es.length / per*per+per:=by
      have h1:=Nat.mod_lt es.length (show per > 0 by omega)
      have h2:=Nat.div_add_mod es.length per
      rw [Nat.mul_comm] at h2
      omega
    have hL:es.length<4096:=by have:=hI.len;simp at this;omega
    obtain ⟨b,hb⟩:∃ b,b=es.length / per*per:=⟨_,rfl⟩
    rw [<- hb] at hdm hdl
    have hk:∀ n',n'<1000000->akey (done M.files (tornT (putT name per es.length x) n)) (fileN name n')=if n'=b then some ((akey M.files (fileN name b)).getD []++(frame x).take n) else akey M.files (fileN name n'):=by
      intro n' hn'
      rw [akey_torn hm _ rfl]
      show (if fileN name n'=fileN name (es.length / per*per) then _ else _)=_
      rw [<- hb]
      by_cases e:n'=b
      · rw [if_pos e,if_pos (by rw [e])]
        simp only [putT,<- hb]
      rw [if_neg e,if_neg (fileN_ne hn' (by omega) e)]
    refine ⟨h.right,h.rise,hl,fun j hj=>?_,fun j hj=>?_⟩
    · obtain ⟨r,h8,h9⟩:=h.seg j hj
      rw [hk _ (by omega)]
      by_cases e:j*per=b
      · rw [if_pos e]
        rw [e] at h8 h9 ⊢
        rw [h9 (.inl hdl),List.append_nil] at h8
        exact ⟨(frame x).take n,by rw [h8];rfl,fun _=>allB_torn hR hn⟩
      rw [if_neg e]
      exact ⟨r,h8,fun h10=>by rw [h9 (.inl h10)];rfl⟩
    rw [hk _ (by omega)]
    by_cases e:j*per=b
    · rw [if_pos e,h.own_none (n:=b) (by omega) (by omega)]
      exact allB_torn hR hn
    rw [if_neg e,h.own_none (by omega) (by omega)]
    rfl
  refine .inr ?_
  rw [done_torn _ _ _ (fun _=>by show (frame x).length<=n;omega),<- foldl_snoc hd]
  exact hI.told hp
theorem app_pre (name:ByteArray) (per:Nat):∀ (xs:List En) (M:Disk) (es:List En),es <+: (appAll name per M es xs).2.1
  | [],M,es=>List.prefix_refl _
  | x :: xs,M,es=>by
    rw [Sg.appAll]
    split
    · exact (List.prefix_append es [x]).trans (app_pre name per xs _ _)
    exact List.prefix_refl _
theorem Hist.appAll {S:List En->Prop} {p:List En} {name:ByteArray} {per:Nat} (hp:1<=per):∀ (xs:List En) (M:Disk) (es:List En),M.ok->LogI M.files name per es->p <+: es->Hist S p name per M->S (appAll name per M es xs).2.1->Hist S p name per (appAll name per M es xs).1
  | [],M,es,hm,h,hpe,hh,hs=>hh
  | x :: xs,M,es,hm,h,hpe,hh,hs=>by
    rw [Sg.appAll] at hs ⊢
    by_cases h0:appNo M name per es x=0
    · rw [if_pos h0] at hs ⊢
      have hI:=h.put hm hp h0
      have hpre:=app_pre name per xs (M.does (putT name per es.length x)) (es++[x])
      have hpx:p <+: es++[x]:=hpe.trans (List.prefix_append es [x])
      refine Hist.appAll hp xs _ _ (hm.does (.inl rfl)) hI.1 hpx (hh.does (fun _=>?_) (fun _ _ n=>?_)) hs
      · refine ⟨⟨_,hs,?_⟩,?_⟩
        · rw [hI.1.told hp];exact hpre
        rw [hI.1.told hp];exact hpx
      rcases h.torn hm hp h0 n with e | e
      · refine ⟨⟨_,hs,?_⟩,?_⟩
        · rw [e];exact (List.prefix_append es [x]).trans hpre
        rw [e];exact hpe
      refine ⟨⟨_,hs,?_⟩,?_⟩
      · rw [e];exact hpre
      rw [e];exact hpx
    rw [if_neg h0] at hs ⊢
    exact hh
theorem least {P:Nat->Prop}:∀ (k:Nat),(∀ i,i<k->¬ P i)\/∃ j,j<k/\P j/\∀ i,i<j->¬ P i
  | 0=>.inl (fun i h=>by omega)
  | k+1=>by
    rcases least (P:=P) k with h | ⟨j,h1,h2,h3⟩
    · rcases Classical.em (P k) with e | e
      · exact .inr ⟨k,by omega,e,h⟩
      exact .inl (fun i hi=>by
        rcases Nat.lt_or_ge i k with h4 | h4
        · exact h i h4
        have:i=k:=by omega
        subst this;exact e)
    exact .inr ⟨j,by omega,h2,h3⟩
theorem LogI.gaps {fs fs':Fs} {name:ByteArray} {per:Nat} {es:List En} (h:LogI fs name per es) (hp:1<=per) {n:Nat} (hn:n<=es.length) (hk:∀ k,k<1000000->akey fs' (fileN name k)=akey fs (fileN name k)\/(n<=k/\akey fs' (fileN name k)=none)):∃ m,n<=m/\m<=es.length/\(Sg.told fs' name per).1=es.take m:=by
  have hl:=h.len
  rcases least (P:=fun j=>j*per<es.length/\akey fs' (fileN name (j*per))=none/\n<=j*per) 4097 with h1 | ⟨j,h1,⟨h2,h3,h4⟩,h5⟩
  · refine ⟨es.length,hn,Nat.le_refl _,?_⟩
    rw [List.take_of_length_le (Nat.le_refl _)]
    refine LogJ.told ⟨h.right,h.rise,hl,fun j hj=>?_,fun j hj=>?_⟩ hp
    · obtain ⟨r,h2,h3⟩:=h.seg j hj
      refine ⟨r,?_,fun h4=>by rw [h3 (.inl h4)];rfl⟩
      rcases hk (j*per) (by omega) with e | ⟨e,e2⟩
      · rw [e];exact h2
      have hj2:j<=j*per:=Nat.le_mul_of_pos_right j hp
      exact absurd ⟨hj,e2,e⟩ (h1 j (by omega))
    rcases hk (j*per) (by omega) with e | ⟨e,e2⟩
    · rw [e,h.own_none (by omega) (by omega)];rfl
    rw [e2];rfl
  refine ⟨j*per,h4,by omega,?_⟩
  have htl:(es.take (j*per)).length=j*per:=by rw [List.length_take];omega
  refine LogJ.told ⟨fun e he=>h.right e (List.mem_of_mem_take he),((rise_add (es.take (j*per)) (es.drop (j*per)) 0).1 (by rw [List.take_append_drop];exact h.rise)).1,by omega,fun i hi=>?_,fun i hi=>?_⟩ hp
  · rw [htl] at hi ⊢
    obtain ⟨r,h6,h7⟩:=h.seg i (by omega)
    have hij:i<j:=Nat.lt_of_mul_lt_mul_right hi
    have h8:=Nat.mul_le_mul_right per (show i+1<=j from hij)
    rw [Nat.succ_mul] at h8
    refine ⟨r,?_,fun h9=>by omega⟩
    rw [List.drop_take,List.take_take,Nat.min_eq_left (by omega)]
    rcases hk (i*per) (by omega) with e | ⟨e,e2⟩
    · rw [e];exact h6
    exact absurd ⟨by omega,e2,e⟩ (h5 i hij)
  rw [htl] at hi
  rw [hi,h3];rfl
theorem Hist.rms {S:List En->Prop} {p es:List En} {name:ByteArray} {per n:Nat} {fs:Fs} (hp:1<=per) (h:LogI fs name per es) (hn:n<=es.length) (hS:S es) (hpp:p <+: es.take n):∀ (l:List ByteArray) (M:Disk),M.ok->(∀ f∈l,nameOk f=true/\fromB name n f=true)->(∀ k,k<1000000->akey M.files (fileN name k)=akey fs (fileN name k)\/(n<=k/\akey M.files (fileN name k)=none))->Hist S p name per M->Hist S p name per (doAll M (l.map rmT))
  | [],M,_,_,_,hh=>hh
  | f :: l,M,hm,hl,hk,hh=>by
    have hf:=hl f List.mem_cons_self
    have hk2:∀ k,k<1000000->akey (M.does (rmT f)).files (fileN name k)=akey fs (fileN name k)\/(n<=k/\akey (M.does (rmT f)).files (fileN name k)=none):=by
      intro k hk0
      rw [akey_rm hm hf.1]
      split
      · next e=>exact .inr ⟨(from_file hk0).1 (by rw [e];exact hf.2),rfl⟩
      exact hk k hk0
    have hP:Part S p name per (M.does (rmT f)).files:=by
      obtain ⟨m,h1,h2,h3⟩:=h.gaps hp hn hk2
      refine ⟨⟨es,hS,?_⟩,?_⟩
      · rw [h3];exact List.take_prefix _ _
      rw [h3]
      exact hpp.trans (List.take_prefix_take_left h1)
    exact Hist.rms hp h hn hS hpp l (M.does (rmT f)) (hm.does (.inr (.inr rfl))) (fun g hg=>hl g (List.mem_cons_of_mem _ hg)) hk2 (hh.does (fun _=>hP) (fun _ h3=>by cases h3))
theorem Hist.trunc {S:List En->Prop} {p es:List En} {name:ByteArray} {per n:Nat} {M:Disk} (hm:M.ok) (hname:logName name=true) (hp:1<=per) (hok:∀ n,nameOk (fileN name n)=true) (h:LogI M.files name per es) (hn:n<=es.length) (hS:S es) (hpp:p <+: es.take n) (hh:Hist S p name per M):Hist S p name per (truncM M name per es n):=by
  have h1:Hist S p name per (doAll M ((fallOwn M.files (fromB name n)).map rmT)):=Hist.rms hp h hn hS hpp _ M hm (fun f hf=>⟨fall_ok hm _ f hf,(fall_mem.1 hf).2⟩) (fun k _=>.inl rfl) hh
  have h2:=(h.trunc hm hname hp hok hn).told hp
  unfold truncM at h2 ⊢
  split
  · next hc=>
    rw [if_pos hc] at h2
    refine h1.does (fun _=>?_) (fun _ h3=>by cases h3)
    refine ⟨⟨es,hS,?_⟩,?_⟩
    · rw [h2];exact List.take_prefix _ _
    rw [h2];exact hpp
  exact h1
theorem trunc_ok2 {M:Disk} (hm:M.ok) (name:ByteArray) (per:Nat) (es:List En) (n:Nat):(truncM M name per es n).ok:=by
  unfold truncM
  split
  · exact (doAll_ok _ M hm (rm_ok _)).does (.inr (.inl rfl))
  exact doAll_ok _ M hm (rm_ok _)
theorem Hist.flush {name:ByteArray} {per:Nat} {es:List En} {M:Disk} (hp:1<=per) (h:LogI M.files name per es) {S:List En->Prop} (hS:S es):Hist S es name per M.flush:=by
  refine ⟨fun j hj=>?_,fun j t n ht=>?_⟩
  · show Part S es name per (List.foldl done M.files (([]:List Thing).take j))
    rw [List.take_nil]
    show Part S es name per M.files
    exact ⟨⟨es,hS,by rw [h.told hp];exact List.prefix_refl _⟩,by rw [h.told hp];exact List.prefix_refl _⟩
  cases ht
def noE (es:List En) (x:En):Int:=if ¬ Right x then 2 else if 4096<=es.length then 3 else if es≠[]/\x.epoch<lastE 0 es then 140 else 0
def appE:List En->List En->List En×Nat×Int
  | es,[]=>(es,0,0)
  | es,x :: xs=>if noE es x=0 then ((appE (es++[x]) xs).1,(appE (es++[x]) xs).2.1+1,(appE (es++[x]) xs).2.2) else (es,0,noE es x)
theorem put_no {M:Disk} {name:ByteArray} {per k:Nat} {x:En} (hok:∀ n,nameOk (fileN name n)=true) (hr:((frame x).length:Int)+usedB M.files<=M.room):M.doNo (putT name per k x)=0:=by
  unfold Disk.doNo
  rw [if_neg (by rw [hok];decide),if_neg (fun e=>e.1 rfl),if_neg (fun e=>by have:=e.1;cases this),if_neg (fun e=>by have:=e.2;simp only [putT] at this;omega)]
theorem put_used {M:Disk} (hm:M.ok) {name:ByteArray} {per k:Nat} {x:En} (h0:M.doNo (putT name per k x)=0):usedB (M.does (putT name per k x)).files=usedB M.files+(frame x).length:=by
  have h1:=used_done (l:=M.files) (t:=putT name per k x) hm.files.1 (.inl rfl)
  rw [foldl_snoc h0]
  rw [Thing.look,if_pos rfl] at h1
  simp at h1
  omega
theorem appNo_room {M:Disk} {name:ByteArray} {per:Nat} {es:List En} {x:En} (hok:∀ n,nameOk (fileN name n)=true) (hr:Right x->((frame x).length:Int)+usedB M.files<=M.room):appNo M name per es x=noE es x:=by
  unfold appNo noE
  split
  · rfl
  next hR=>
  split
  · rfl
  split
  · rfl
  exact put_no hok (hr (Decidable.byContradiction hR))
theorem app_room {name:ByteArray} {per:Nat} (hok:∀ n,nameOk (fileN name n)=true) {c:Nat}:∀ (xs:List En) (M:Disk) (es:List En),M.ok->(∀ x∈xs,Right x->(frame x).length<=c)->((c*xs.length:Nat):Int)+usedB M.files<=M.room->(appAll name per M es xs).2=appE es xs/\(appAll name per M es xs).1.ok/\usedB (appAll name per M es xs).1.files<=usedB M.files+c*xs.length/\(appAll name per M es xs).1.room=M.room
  | [],M,es,hm,_,_=>⟨rfl,hm,Nat.le_add_right _ _,rfl⟩
  | x :: xs,M,es,hm,hc,hr=>by
    rw [List.length_cons,Nat.mul_succ] at hr
    have h1:appNo M name per es x=noE es x:=appNo_room hok (fun hR=>by have:=hc x List.mem_cons_self hR;omega)
    rw [Sg.appAll,appE,h1]
    by_cases h0:noE es x=0
    · have hR:Right x:=by
        unfold noE at h0
        split at h0
        · cases h0
        next h=>exact Decidable.byContradiction h
      have hx:=hc x List.mem_cons_self hR
      have h2:M.doNo (putT name per es.length x)=0:=put_no hok (by omega)
      have h3:=put_used hm h2
      have hrm:(M.does (putT name per es.length x)).room=M.room:=by unfold Disk.does;split<;>rfl
      obtain ⟨i1,i2,i3,i4⟩:=app_room hok xs (M.does (putT name per es.length x)) (es++[x]) (hm.does (.inl rfl)) (fun y hy=>hc y (List.mem_cons_of_mem _ hy)) (by rw [hrm];omega)
      rw [if_pos h0,if_pos h0]
      refine ⟨?_,i2,?_,by rw [<- hrm];exact i4⟩
      · show ((appAll name per (M.does (putT name per es.length x)) (es++[x]) xs).2.1,(appAll name per (M.does (putT name per es.length x)) (es++[x]) xs).2.2.1+1,(appAll name per (M.does (putT name per es.length x)) (es++[x]) xs).2.2.2)=_
        rw [i1]
      show usedB (appAll name per (M.does (putT name per es.length x)) (es++[x]) xs).1.files<=_
      rw [List.length_cons,Nat.mul_succ]
      omega
    rw [if_neg h0,if_neg h0]
    exact ⟨rfl,hm,Nat.le_add_right _ _,rfl⟩
theorem rise_uniq {α:Type} {R:α->α->Prop} (hi:∀ a,¬ R a a) (ht:∀ a b,R a b->¬ R b a):∀ {l l':List α},l.Pairwise R->l'.Pairwise R->(∀ a,a∈l↔a∈l')->l=l'
  | [],[],_,_,_=>rfl
  | [],b :: l',_,_,h=>absurd ((h b).2 List.mem_cons_self) (by simp)
  | a :: l,[],_,_,h=>absurd ((h a).1 List.mem_cons_self) (by simp)
  | a :: l,b :: l',h1,h2,h=>by
    rw [List.pairwise_cons] at h1 h2
    have hab:a=b:=by
      rcases List.mem_cons.1 ((h a).1 List.mem_cons_self) with e | e
      · exact e
      rcases List.mem_cons.1 ((h b).2 List.mem_cons_self) with e2 | e2
      · exact e2.symm
      exact absurd (h2.1 a e) (ht a b (h1.1 b e2))
    subst hab
    refine congrArg _ (rise_uniq hi ht h1.2 h2.2 (fun c=>⟨fun hc=>?_,fun hc=>?_⟩))
    · rcases List.mem_cons.1 ((h c).1 (List.mem_cons_of_mem _ hc)) with e | e
      · subst e;exact absurd (h1.1 c hc) (hi c)
      exact e
    rcases List.mem_cons.1 ((h c).2 (List.mem_cons_of_mem _ hc)) with e | e
    · subst e;exact absurd (h2.1 c hc) (hi c)
    exact e
theorem own_rise {M:Disk} (hm:M.ok) (name:ByteArray):(ownFiles M.files name).Pairwise blt:=by
  unfold ownFiles
  exact List.Pairwise.sublist List.filter_sublist hm.files.1
theorem LogI.mem {fs:Fs} {name:ByteArray} {per:Nat} {es:List En} (h:LogI fs name per es) (hp:1<=per) (f:ByteArray):f∈ownFiles fs name↔∃ j,j*per<es.length/\f=fileN name (j*per):=by
  have hl:=h.len
  unfold ownFiles
  rw [List.mem_filter]
  constructor
  · rintro ⟨h1,h2⟩
    obtain ⟨n,hn⟩:=Option.isSome_iff_exists.1 h2
    obtain ⟨rfl,h3⟩:=own_some hn
    obtain ⟨h4,h5⟩:=h.own n h3 (key_ne h1)
    have h6:=Nat.div_add_mod n per
    rw [h4,Nat.add_zero,Nat.mul_comm] at h6
    exact ⟨n / per,by omega,by rw [h6]⟩
  rintro ⟨j,h1,rfl⟩
  obtain ⟨r,h2,_⟩:=h.seg j h1
  refine ⟨ne_key (by rw [h2];simp),?_⟩
  unfold ownB
  rw [own_file name (by omega)]
  rfl
def dataE (i:Nat):En:=⟨1,-1,0,0,1,(i:Int)⟩
theorem dataE_right {i:Nat} (h:i<=2147483647):Right (dataE i):=by
  unfold Right dataE in31
  simp only
  refine ⟨⟨by omega,by omega⟩,by omega,by omega,by omega,by omega,fun e=>by omega,fun _=>⟨trivial,trivial⟩,fun e=>by omega,⟨by omega,by omega⟩,⟨by omega,by omega⟩⟩
theorem dataE_len {i:Nat} (h:i<8192):(frame (dataE i)).length<=10:=by
  unfold frame
  rw [framed_len]
  have h1:=(numB_len 1 1 (by decide) (by decide)).1
  have hz:zig (i:Int)=2*i:=by unfold zig;rw [if_neg (by omega)];omega
  have h2:=(numB_len 2 (2*i) (by omega) (by decide)).1
  have e:body (dataE i)=[byteI 1]++numB 1++[byteI 0]++numB (2*i):=by
    unfold body dataE
    simp only
    rw [if_neg (by omega),if_neg (by omega)]
    simp [hz]
  rw [e]
  simp
  omega
theorem last_one {es:List En} (h:∀ e∈es,e.epoch=1):lastE 0 es<=1:=by
  unfold lastE
  cases hh:es.getLast? with
  | none=>show (0:Int)<=1;omega
  | some e=>
    have:=h e (List.mem_of_getLast? hh)
    show e.epoch<=1
    omega
theorem appE_all:∀ (xs es ys:List En),(∀ x∈xs,Right x/\x.epoch=1)->(∀ e∈es,e.epoch=1)->es.length+xs.length<=4096->appE es (xs++ys)=((appE (es++xs) ys).1,xs.length+(appE (es++xs) ys).2.1,(appE (es++xs) ys).2.2)
  | [],es,ys,_,_,_=>by simp
  | x :: xs,es,ys,hx,he,hl=>by
    obtain ⟨h1,h2⟩:=hx x List.mem_cons_self
    have h3:=last_one he
    simp only [List.length_cons] at hl
    have h0:noE es x=0:=by
      unfold noE
      rw [if_neg (fun e=>e h1),if_neg (by omega),if_neg (by rintro ⟨_,e⟩;omega)]
    have ih:=appE_all xs (es++[x]) ys (fun y hy=>hx y (List.mem_cons_of_mem _ hy)) (fun e hee=>by
      rcases List.mem_append.1 hee with q | q
      · exact he e q
      simp only [List.mem_singleton] at q;rw [q];exact h2) (by simp;omega)
    rw [List.cons_append,appE,if_pos h0,ih]
    simp only [List.append_assoc,List.cons_append,List.nil_append,List.length_cons,Prod.mk.injEq,true_and,and_true]
    omega
def longE (n:Nat):List En:=(List.range n).map dataE
theorem longE_len (n:Nat):(longE n).length=n:=by simp [longE]
theorem longE_snoc (n:Nat):longE (n+1)=longE n++[dataE n]:=by simp [longE,List.range_succ]
theorem longE_mem {n:Nat} {e:En} (h:e∈longE n):∃ i,i<n/\e=dataE i:=by
  obtain ⟨i,hi,rfl⟩:=List.mem_map.1 h
  exact ⟨i,List.mem_range.1 hi,rfl⟩
theorem app_long:appE [] (longE 4097)=(longE 4096,4096,3):=by
  rw [show longE 4097=longE 4096++[dataE 4096] from longE_snoc 4096,appE_all (longE 4096) [] [dataE 4096] (fun x hx=>by
    obtain ⟨i,hi,rfl⟩:=longE_mem hx
    exact ⟨dataE_right (by omega),rfl⟩) (by simp) (by rw [longE_len];simp)]
  have h0:noE (longE 4096) (dataE 4096)=3:=by
    unfold noE
    rw [if_neg (fun e=>e (dataE_right (by omega))),if_pos (by rw [longE_len];omega)]
  have h1:appE (longE 4096) [dataE 4096]=(longE 4096,0,3):=by
    rw [appE,h0]
    rfl
  rw [List.nil_append,h1,longE_len]
  generalize longE 4096=l
  rfl
def longS:ByteArray:=strOf [108,111,110,103]
theorem long_files {M:Disk} {es:List En} (hm:M.ok) (h:LogI M.files longS 256 es) (hl:es.length=4096):(ownFiles M.files longS).length=16:=by
  have h1:ownFiles M.files longS=(List.range 16).map (fun j=>fileN longS (j*256)):=by
    refine rise_uniq blt_irrefl (fun a b=>blt_asymm) (own_rise hm longS) ?_ (fun f=>(h.mem (by omega) f).trans ?_)
    · rw [List.pairwise_map]
      have:∀ b,b<16->∀ a,a<b->blt (fileN longS (a*256)) (fileN longS (b*256)):=by decide +kernel
      have h2:(List.range 16).Pairwise (fun a b=>a<b/\b<16):=by decide +kernel
      exact h2.imp (fun {a b} e=>this b e.2 a e.1)
    simp only [List.mem_map,List.mem_range,hl]
    exact ⟨fun ⟨j,h3,h4⟩=>⟨j,by omega,h4.symm⟩,fun ⟨j,h3,h4⟩=>⟨j,by omega,h4.symm⟩⟩
  rw [h1]
  simp
end Go.Wst.Sg
set_option maxRecDepth 100000
set_option synthInstance.maxSize 100000
set_option synthInstance.maxHeartbeats 400000
namespace Go.Proofs.YtigmfcgeljjgnaaGreat
open Go.Wst
open Go.Wst.Dm Go.Wst.Sg
theorem num4_ok (e:Int) (w:World):Ret Tryz.prog 10 #[.int .i64 e] w (fun v w'=>v=.int .i64 e/\w=w'):=by
 refine ret_of_x (N:=4) (l:=[.int .i64 e]) Tryz.func10 rfl rfl (Nat.le_of_ble_eq_true rfl) ?_
 refine xq (xz ?_)
 refine xq (xm (xz ?_))
 refine x_ret ?_
 refine fin1 rfl ?_
 exact ⟨rfl,rfl⟩
theorem data4_ok (e x:Int) (w:World):Ret Tryz.prog 19 #[.int .i64 e,.int .i64 x] w (fun v w'=>v=.agg (enC ⟨e,-1,0,0,1,x⟩).toArray/\Lk w' w NoB):=by
 refine ret_of_x (N:=8) (l:=[.int .i64 e,.int .i64 x]) Tryz.func19 rfl rfl (Nat.le_of_ble_eq_true rfl) ?_
 refine xq ?_
 refine xl_e (e_alloc fun b4 w1 nb4 lb4 kb4=>?_)
 refine xl_nil ?_
 refine xq (xm (xm (xl_v v_build ?_)))
 refine xl_s (e_storeA fun w2 l2 k2=>?_)
 refine xl_nil ?_
 refine x_ret ?_
 refine finR (rs:=[.cell 4 51]) rfl ?_
 exact ⟨rfl,lkc⟩
theorem right4_ok (room per:Int) (w:World):Ret Tryz.prog 5 #[.int .i64 room,.int .i64 per] w (fun v w'=>v=.bool (decide (1<=room/\room<=100000/\1<=per/\per<=256))/\w=w'):=by
 refine ret_of_x (N:=19) (l:=[.int .i64 room,.int .i64 per]) Tryz.func5 rfl rfl (Nat.le_of_ble_eq_true rfl) ?_
 refine xq (xz ?_)
 refine xq (xm (xl_v v_geq (xm ?_)))
 refine xl_split 7 (fun g7=>?_) (fun g7=>?_)
 ·refine xl_gv rfl EvO.eq v_move (xl_gv rfl EvO.eq v_leq (xl_Pk ?_))
  refine xm ?_
  refine xl_split 11 (fun g11=>?_) (fun g11=>?_)
  ·refine xl_gv rfl EvO.eq v_move (xl_gv rfl EvO.eq v_geq (xl_Pk ?_))
   refine xm ?_
   refine xl_split 15 (fun g15=>?_) (fun g15=>?_)
   ·refine xl_gv rfl EvO.eq v_move (xl_gv rfl EvO.eq v_leq (xl_Pk ?_))
    refine xz ?_
    refine x_ret ?_
    refine fin1 rfl ?_
    refine ⟨congrArg Value.bool ?_,rfl⟩
    first | (simp_all;done) | (simp_all;omega) | (simp_all;intros;omega)
   refine xl_gs rfl EvO.eq (xl_gs rfl EvO.eq (xl_Pk ?_))
   refine xz ?_
   refine x_ret ?_
   refine fin1 rfl ?_
   refine ⟨congrArg Value.bool ?_,rfl⟩
   first | (simp_all;done) | (simp_all;omega) | (simp_all;intros;omega)
  refine xl_gs rfl EvO.eq (xl_gs rfl EvO.eq (xl_Pk ?_))
  refine xm (xl_gs rfl EvO.eq (xl_gs rfl EvO.eq (xl_Pk ?_)))
  refine xz ?_
  refine x_ret ?_
  refine fin1 rfl ?_
  refine ⟨congrArg Value.bool ?_,rfl⟩
  first | (simp_all;done) | (simp_all;omega) | (simp_all;intros;omega)
 refine xl_gs rfl EvO.eq (xl_gs rfl EvO.eq (xl_Pk ?_))
 refine xm (xl_gs rfl EvO.eq (xl_gs rfl EvO.eq (xl_Pk ?_)))
 refine xm (xl_gs rfl EvO.eq (xl_gs rfl EvO.eq (xl_Pk ?_)))
 refine xz ?_
 refine x_ret ?_
 refine fin1 rfl ?_
 refine ⟨congrArg Value.bool ?_,rfl⟩
 first | (simp_all;done) | (simp_all;omega) | (simp_all;intros;omega)
theorem doneL_less (t:Thing) (h:t.what≠0):∀ (l:Fs) (there:Bool),(doneL t l there).length<=l.length
 | [],there=>by rw [doneL,if_neg (fun e=>h e.2)];simp
 | f :: l,there=>by
   rw [doneL,List.length_append,List.length_append,if_neg (fun e=>h e.2.1)]
   have h1:=doneL_less t h l (there || decide (t.what=0/\blt t.name f.1) || decide (f.1=t.name))
   have h2:(if f.1=t.name then t.of f else [f]).length<=1:=by
    split
    ·exact of_len t f
    ·simp
   simp only [List.length_nil,List.length_cons]
   omega
def puts (ts:List Thing):Nat:=(ts.filter (fun t=>decide (t.what=0))).length
theorem puts_cons (t:Thing) (ts:List Thing):puts (t :: ts)=(if t.what=0 then 1 else 0)+puts ts:=by
 unfold puts
 rw [List.filter_cons]
 by_cases h:t.what=0
 ·simp [h];omega
 ·simp [h]
theorem puts_app (a b:List Thing):puts (a++b)=puts a+puts b:=by simp [puts]
theorem fold_less:∀ (ts:List Thing) (l:Fs),(ts.foldl Dm.done l).length<=l.length+puts ts
 | [],l=>by simp
 | t :: ts,l=>by
   have h1:=fold_less ts (Dm.done l t)
   rw [puts_cons]
   simp only [List.foldl_cons]
   by_cases h:t.what=0
   ·have h2:=done_len l t
    rw [if_pos h]
    omega
   ·have h2:(Dm.done l t).length<=l.length:=doneL_less t h l false
    rw [if_neg h]
    omega
def fat (M:Disk):Nat:=M.lasts.length+puts M.waits
theorem fat_files (M:Disk):M.files.length<=fat M:=fold_less _ _
theorem fat_lasts (M:Disk):M.lasts.length<=fat M:=Nat.le_add_right _ _
theorem fat_does (M:Disk) (t:Thing):fat (M.does t)<=fat M+(if t.what=0 then 1 else 0)/\(M.does t).waits.length<=M.waits.length+1:=by
 unfold Disk.does
 split
 ·unfold fat
  simp only [puts_app,puts_cons,List.length_append,List.length_singleton]
  simp [puts]
  omega
 ·omega
theorem fat_does0 (M:Disk) {t:Thing} (h:t.what≠0):fat (M.does t)<=fat M:=by
 have:=(fat_does M t).1
 rw [if_neg h] at this
 omega
theorem fat_doAll:∀ (ts:List Thing) (M:Disk),(∀ t∈ts,t.what≠0)->fat (doAll M ts)<=fat M/\(doAll M ts).waits.length<=M.waits.length+ts.length
 | [],M,_=>⟨Nat.le_refl _,Nat.le_refl _⟩
 | t :: ts,M,h=>by
   have h1:=fat_doAll ts (M.does t) (fun u hu=>h u (List.mem_cons_of_mem _ hu))
   have h2:=fat_does0 M (h t List.mem_cons_self)
   have h3:=(fat_does M t).2
   show fat (doAll (M.does t) ts)<=_/\(doAll (M.does t) ts).waits.length<=_
   rw [List.length_cons]
   omega
theorem fat_flush (M:Disk):fat M.flush<=fat M/\M.flush.waits=[]:=⟨fat_files M,rfl⟩
theorem puts_take (ts:List Thing) (k:Nat):puts (ts.take k)<=puts ts:=by
 conv=>rhs;rw [<- List.take_append_drop k ts,puts_app]
 omega
theorem fat_crash (M:Disk) (keep torn:Int):fat (M.crash keep torn)<=fat M/\(M.crash keep torn).waits=[]:=by
 have h1:=fold_less (M.waits.take (pickN keep M.waits.length)) M.lasts
 have h2:=puts_take M.waits (pickN keep M.waits.length)
 unfold Disk.crash
 dsimp only
 split
 ·exact ⟨by unfold fat;simp only [puts,List.filter_nil,List.length_nil];simp only [puts] at h1 h2;omega,rfl⟩
 ·next t ht=>
  split
  ·next hh=>
   refine ⟨?_,rfl⟩
   have h3:=done_len ((M.waits.take (pickN keep M.waits.length)).foldl Dm.done M.lasts) (tornT t (pickN torn t.bytes.length))
   have h4:puts (M.waits.take (pickN keep M.waits.length))+1<=puts M.waits:=by
    obtain ⟨hk,e⟩:=List.getElem?_eq_some_iff.1 ht
    conv=>rhs;rw [<- List.take_append_drop (pickN keep M.waits.length) M.waits,puts_app,List.drop_eq_getElem_cons hk,puts_cons,e,if_pos hh.1]
    omega
   unfold fat
   simp only [puts,List.filter_nil,List.length_nil]
   simp only [puts] at h1 h2 h4
   omega
  ·exact ⟨by unfold fat;simp only [puts,List.filter_nil,List.length_nil];simp only [puts] at h1 h2;omega,rfl⟩
theorem app_n (name:ByteArray) (per:Nat):∀ (xs:List En) (M:Disk) (es:List En),(appAll name per M es xs).2.1.length=es.length+(appAll name per M es xs).2.2.1/\(appAll name per M es xs).2.2.1<=xs.length/\fat (appAll name per M es xs).1<=fat M+(appAll name per M es xs).2.2.1/\(appAll name per M es xs).1.waits.length<=M.waits.length+(appAll name per M es xs).2.2.1
 | [],M,es=>⟨rfl,Nat.le_refl _,Nat.le_refl _,Nat.le_refl _⟩
 | x :: xs,M,es=>by
   rw [Sg.appAll]
   split
   ·obtain ⟨h1,h2,h3,h4⟩:=app_n name per xs (M.does (putT name per es.length x)) (es++[x])
    have h5:=fat_does M (putT name per es.length x)
    rw [if_pos rfl] at h5
    rw [List.length_append,List.length_singleton] at h1
    rw [List.length_cons]
    dsimp only
    omega
   ·exact ⟨rfl,Nat.zero_le _,Nat.le_refl _,Nat.le_refl _⟩
theorem nodup_le {α:Type}:∀ (l l':List α),l.Nodup->(∀ a∈l,a∈l')->l.length<=l'.length
 | [],l',_,_=>Nat.zero_le _
 | a :: l,l',hn,h=>by
   obtain ⟨s,t,rfl⟩:=List.append_of_mem (h a List.mem_cons_self)
   rw [List.nodup_cons] at hn
   have ih:=nodup_le l (s++t) hn.2 (fun b hb=>by
    rcases List.mem_append.1 (h b (List.mem_cons_of_mem _ hb)) with e | e
    ·exact List.mem_append_left _ e
    ·rcases List.mem_cons.1 e with e | e
     ·exact absurd (e ▸ hb) hn.1
     ·exact List.mem_append_right _ e)
   simp only [List.length_append,List.length_cons] at ih ⊢
   omega
theorem own_few {M:Disk} {name:ByteArray} {per:Nat} {es:List En} (hm:M.ok) (h:LogI M.files name per es) (hp:1<=per):(ownFiles M.files name).length<=es.length:=by
 have h1:=nodup_le (ownFiles M.files name) ((List.range es.length).map (fileN name)) (List.Pairwise.imp (fun h=>blt_ne h) (own_rise hm name)) (fun f hf=>by
  obtain ⟨j,h2,rfl⟩:=(h.mem hp f).1 hf
  exact List.mem_map.2 ⟨_,List.mem_range.2 h2,rfl⟩)
 simpa using h1
theorem rm_what (l:List ByteArray):∀ t∈l.map rmT,t.what≠0:=fun t ht=>by
 obtain ⟨f,_,rfl⟩:=List.mem_map.1 ht
 show (2:Int)≠0
 decide
theorem fat_trunc (M:Disk) (name:ByteArray) (per:Nat) (es:List En) (n:Nat):fat (truncM M name per es n)<=fat M/\(truncM M name per es n).waits.length<=M.waits.length+(ownFiles M.files name).length+1:=by
 have h1:=fat_doAll _ M (rm_what (fallOwn M.files (fromB name n)))
 have h2:(fallOwn M.files (fromB name n)).length<=(ownFiles M.files name).length:=by
  rw [<- fall_filter M.files name _ fromB_own]
  refine Nat.le_trans (List.length_filter_le _ _) ?_
  rw [List.length_reverse]
  exact Nat.le_refl _
 rw [List.length_map] at h1
 unfold truncM
 split
 ·have h4:=fat_does0 (doAll M ((fallOwn M.files (fromB name n)).map rmT)) (t:=cutT (fileN name (n / per*per)) (frames ((es.take n).drop (n / per*per))).length) (show (1:Int)≠0 by decide)
  have h5:=(fat_does (doAll M ((fallOwn M.files (fromB name n)).map rmT)) (cutT (fileN name (n / per*per)) (frames ((es.take n).drop (n / per*per))).length)).2
  omega
 ·omega
theorem LogW.widen {P R:Nat->Prop} {b:Nat} {L:LLog} {M:Disk} {w W:World} (h:LogW P R b L M w) (hk:Keep NoB w W):LogW (wide P w W) (wide R w W) b L M W:=
 h.keep hk (fun _ _ h=>h.elim) (fun k e=>by
  rcases e with e | e
  ·exact ⟨Nat.lt_of_lt_of_le (h.lt.1 k e) hk.size,.inl e⟩
  ·exact ⟨e.2,.inr e.1⟩) (fun k e=>by
  rcases e with e | e
  ·exact ⟨Nat.lt_of_lt_of_le (h.lt.2.1 k e) hk.size,.inl e⟩
  ·exact ⟨e.2,.inr e.1⟩)
theorem LogW.ok {P R:Nat->Prop} {b:Nat} {L:LLog} {M:Disk} {W:World} (h:LogW P R b L M W):M.ok:=h.disk.ok.1
theorem own_row {w:World} {base n c:Nat} {t:TypeId} {sz:Nat} {A:Option Addr} {cs:List Value} (h:w.ownsRow base t sz (.slice A n c) n cs):RowP w A cs:=by obtain ⟨A',c',he,_,_,hr⟩:=ownsRow_form h;cases he;exact hr
structure LA where
 what:Int
 xs:List En
 A:Option Addr
 c:Nat
 n:Int
 keep:Int
 torn:Int
abbrev actC (x:LA):List Value:=[.int .i64 x.what,.slice x.A x.xs.length x.c,.int .i64 x.n,.int .i64 x.keep,.int .i64 x.torn]
theorem nok_L {P R:Nat->Prop} {b:Nat} {L:LLog} {M:Disk} {W:World} (h:LogW P R b L M W) (n:Nat):nameOk (fileN L.name n)=true:=nameOk_file h.name n
theorem trunc2_ok (P R:Nat->Prop) (b:Nat) (L:LLog) (M:Disk) (n:Int) (w:World) (h:LogW P R b L M w) (hn:In64 n) (hfew:M.lasts.length+M.waits.length+(ownFiles M.files L.name).length<=999990) (hI:LogI M.files L.name L.per L.es) :
    Ret Tryz.prog 12 #[ptrV b,.int .i64 n] w (fun v w'=>(∃ L2 M2 no,v=.int .i64 no/\LogW P R b L2 M2 w'/\L2.name=L.name/\L2.per=L.per/\LogI M2.files L.name L.per L2.es/\fat M2<=fat M/\M2.waits.length<=M.waits.length+4097/\(if n<0\/(L.es.length:Int)<n then no=4/\M2=M/\L2.sure=L.sure else no=0/\M2=truncM M L.name L.per L.es n.toNat/\L2.sure=min L.sure n.toNat)/\L2.d=L.d)/\Lk w' w (NotP R)):=by
 refine (truncate_ok P R b L M n w h hn hfew).mono ?_
 rintro v w' ⟨hres,lk⟩
 refine ⟨?_,lk⟩
 by_cases hc:n<0\/(L.es.length:Int)<n
 ·rw [if_pos hc] at hres
  exact ⟨L,M,4,hres.1,hres.2,rfl,rfl,hI,Nat.le_refl _,by omega,by rw [if_pos hc];exact ⟨rfl,rfl,rfl⟩,rfl⟩
 ·rw [if_neg hc] at hres
  obtain ⟨z4,L2,z5,z6,z7,z8,z9,z10⟩:=hres
  have hT:=hI.trunc h.ok h.name h.per1 (nok_L h) (n:=n.toNat) (by omega)
  have hf:=fat_trunc M L.name L.per L.es n.toNat
  have ho:=own_few h.ok hI h.per1
  have hl:=hI.len
  exact ⟨L2,_,0,z4,z5,z7,z8,by rw [z6];exact hT,hf.1,by omega,by rw [if_neg hc];exact ⟨rfl,rfl,z10⟩,z9⟩
theorem new3_ok (room:Int) (w:World) (hm:1<=room/\room<=16777216) :
    Ret Tryz.prog 8 #[.int .i64 room] w (fun v w'=>(∃ d,v=.tuple #[.pointer (some ⟨d,0,none⟩),.int .i64 0]/\DiskW (fun k=>k<w.heap.size) (fun k=>k<w.heap.size) d ⟨room,[],[]⟩ w'/\w.heap.size<=d)/\Lk w' w NoB):=by
 refine (new_ok room w).mono ?_
 rintro v w' ⟨h,lk⟩
 rw [if_pos hm] at h
 obtain ⟨d,mb,ml,rfl,h1,h2,h3,h4⟩:=h
 exact ⟨⟨d,rfl,DiskW.new h1 hm (fun k e=>⟨Nat.lt_of_lt_of_le e lk.keep.size,by omega,by omega,by omega⟩) (fun k e=>⟨Nat.lt_of_lt_of_le e lk.keep.size,by omega,by omega,by omega⟩),h2⟩,lk⟩
theorem logI_nil (name:ByteArray) (per:Nat):LogI [] name per []:=⟨by simp,rfl,by simp,fun n _ h=>absurd rfl h,fun j h=>by simp at h⟩
theorem told_nil (name:ByteArray) {per:Nat} (hp:1<=per):(Go.Wst.Sg.told [] name per).1=[]:=(logI_nil name per).told hp
theorem open_nil (room:Int) (name:ByteArray) {per:Nat} (hp:1<=per):openM ⟨room,[],[]⟩ name per=⟨room,[],[]⟩:=LogI.again (M:=⟨room,[],[]⟩) (logI_nil name per) hp
def nameP:ByteArray:=⟨#[112]⟩
theorem nameP_ok:logName nameP=true:=by decide +kernel
instance encN_act:EncN actC 5:=⟨fun _=>rfl⟩
theorem few4_ok (A:Option Addr) (n c:Nat) (xs:List LA) (w:World) [hra:RowB w A w (xs.flatMap actC)] (hl:xs.length=n) (hn:n<=9223372036854775807):Ret Tryz.prog 6 #[.slice A n c] w (fun v w'=>(∃ fb,v=.bool fb/\(fb=true->n<=30))/\Lk w' w NoB):=by
 refine ret_of_x (N:=30) (l:=[.slice A n c]) Tryz.func6 rfl rfl (Nat.le_of_ble_eq_true rfl) ?_
 refine xq (xz ?_)
 refine xq (xz ?_)
 refine x_seq (xq (xz ?_))
 refine x_block ?_
 refine x_loop (fun t τ ds w'=>ds=[]/\∃ (k:Nat) (s:Int),t=31 - k/\k<=n/\k<=31/\Ev τ 0 (.slice A n c)/\Ev τ 3 (.int .i64 s)/\Ev τ 4 (.int .i64 (k:Int))/\Lk w' w NoB) (31) ?start ?round
 case start=>
  exact ⟨rfl,0,0,rfl,Nat.zero_le _,by decide,ii,ii,evc,lkc⟩
 case round=>
  intro m τ1 ds1 w1 hI
  obtain ⟨rfl,k,s,rfl,hk,hk31,e0,e3,e4,lk⟩:=hI
  refine x_seq (xq (xm (xm (xl_v v_len (xl_v v_lss (xm ?_))))))
  refine xl_split 9 (fun g9=>?_) (fun g9=>?_)
  ·have g3:=of_decide_eq_true g9
   refine xl_gv rfl EvO.eq v_move (xl_gv rfl EvO.eq v_leq (xl_Pk ?_))
   refine xl_nil ?_
   refine x_if (fun c1=>?_) (fun c1=>?_)
   ·have hk1:k<xs.length:=by omega
    refine x_skip (x_seq (x_block (x_regionL (xm (xm (xm ?_))))))
    refine xl_v (v_indexF k (by decide) rfl (by omega) hk1) ?_
    refine xl_Fb ?_
    refine xl_v (v_loadFf hk1) ?_
    refine xl_v v_len ?_
    refine xl_v (v_addw) ?_
    refine xz ?_
    refine x_regionL (xm ?_)
    refine xl_v (v_add (by omega)) ?_
    refine xz ?_
    refine ⟨_,?_,rfl,k+1,_,rfl,by omega,by omega,ii,ii,evc,lkc⟩
    omega
   refine x_exit (xq (xm (xl_v v_len (xl_v v_leq (xm ?_)))))
   refine xl_split 26 (fun g26=>?_) (fun g26=>?_)
   ·have g6:=of_decide_eq_true g26
    refine xl_gv rfl EvO.eq v_move (xl_gv rfl EvO.eq v_leq (xl_Pk ?_))
    refine xz ?_
    refine x_ret ?_
    refine fin1 rfl ?_
    first
    | exact ⟨⟨_,rfl,fun _=>by omega⟩,lkc⟩
    | exact ⟨⟨_,rfl,fun e=>by cases e⟩,lkc⟩
   have g6:=of_decide_eq_false g26
   refine xl_gs rfl EvO.eq (xl_gs rfl EvO.eq (xl_Pk ?_))
   refine xz ?_
   refine x_ret ?_
   refine fin1 rfl ?_
   first
   | exact ⟨⟨_,rfl,fun _=>by omega⟩,lkc⟩
   | exact ⟨⟨_,rfl,fun e=>by cases e⟩,lkc⟩
  have g3:=of_decide_eq_false g9
  refine xl_gs rfl EvO.eq (xl_gs rfl EvO.eq (xl_Pk ?_))
  refine xl_nil ?_
  refine x_condF ?_
  refine x_exit (xq (xm (xl_v v_len (xl_v v_leq (xm ?_)))))
  refine xl_split 26 (fun g26=>?_) (fun g26=>?_)
  ·have g6:=of_decide_eq_true g26
   refine xl_gv rfl EvO.eq v_move (xl_gv rfl EvO.eq v_leq (xl_Pk ?_))
   refine xz ?_
   refine x_ret ?_
   refine fin1 rfl ?_
   first
   | exact ⟨⟨_,rfl,fun _=>by omega⟩,lkc⟩
   | exact ⟨⟨_,rfl,fun e=>by cases e⟩,lkc⟩
  have g6:=of_decide_eq_false g26
  refine xl_gs rfl EvO.eq (xl_gs rfl EvO.eq (xl_Pk ?_))
  refine xz ?_
  refine x_ret ?_
  refine fin1 rfl ?_
  first
  | exact ⟨⟨_,rfl,fun _=>by omega⟩,lkc⟩
  | exact ⟨⟨_,rfl,fun e=>by cases e⟩,lkc⟩
end Go.Proofs.YtigmfcgeljjgnaaGreat
