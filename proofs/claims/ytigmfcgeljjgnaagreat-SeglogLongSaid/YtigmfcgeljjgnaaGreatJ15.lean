/- A part of the walks through the log and its document, and of the law in plain Lean: GT GU GV. -/
import Derived.Test.YtigmfcgeljjgnaaGreatJ14
set_option linter.all false
set_option maxRecDepth 100000
set_option synthInstance.maxSize 100000
set_option synthInstance.maxHeartbeats 400000
namespace Go.Proofs.YtigmfcgeljjgnaaGreat
open Go.Wst
open Go.Wst.Dm Go.Wst.Sg
def AB (A:Option Addr):Nat->Prop:=fun k=>∃ a,A=some a/\a.block=k
theorem AB_own {A:Option Addr} {n c:Nat} {k:Nat} (h:OwnB (.slice A n c) k):AB A k:=by
 cases A with
 | none=>cases h
 | some a=>
   have h3:some k=some a.block:=h
   injection h3 with h3
   exact ⟨a,rfl,h3.symm⟩
theorem AB_to {A:Option Addr} (n c:Nat) {k:Nat} (h:AB A k):OwnB (.slice A n c) k:=by
 obtain ⟨a,rfl,rfl⟩:=h
 rfl
theorem AB_lt {w:World} {base:Nat} {e:TypeId} {sz n m c:Nat} {A:Option Addr} {xs:List Value} (h:w.ownsRow base e sz (.slice A m c) n xs):∀ k,AB A k->base<=k/\k<w.heap.size:=by
 rintro k ⟨a,ha,rfl⟩
 exact own_blk h a ha
structure LogW (P R:Nat->Prop) (b:Nat) (L:LLog) (M:Disk) (W:World):Prop where
 disk:DiskW (fun k=>P k\/k=b\/AB L.A k) (fun k=>R k\/k=b\/AB L.A k) L.d M W
 at_:W.heap[b]?=some (.cells (logC L).toArray 69 (0,0))
 row:W.ownsRow 0 51 6 (.slice L.A L.es.length L.c) L.es.length (L.es.flatMap enC)
 nb:¬ AB L.A b
 pb:∀ k,P k\/R k->k≠b/\¬ AB L.A k
 name:logName L.name=true
 per1:1<=L.per
 per2:L.per<=256
 len:L.es.length<=4096
 right:∀ e∈L.es,Right e
theorem LogW.keep {P R:Nat->Prop} {b:Nat} {L:LLog} {M:Disk} {W W':World} {S:Nat->Prop} (h:LogW P R b L M W) (hk:Keep S W W') (hs:∀ k,k<W.heap.size->S k->P k) {P' R':Nat->Prop} (hP:∀ k,P' k->k<W'.heap.size/\(P k\/W.heap.size<=k)) (hR:∀ k,R' k->k<W'.heap.size/\(R k\/W.heap.size<=k)):LogW P' R' b L M W':=by
 have hbl:b<W.heap.size:=(Array.getElem?_eq_some_iff.1 h.at_).1
 have hal:∀ k,AB L.A k->k<W.heap.size:=fun k e=>(AB_lt h.row k e).2
 have hsb:¬ S b:=fun e=>(h.pb b (.inl (hs b hbl e))).1 rfl
 have hsa:∀ k,AB L.A k->¬ S k:=fun k e e2=>(h.pb k (.inl (hs k (hal k e) e2))).2 e
 refine ⟨h.disk.keep hk (fun k hlt e=>.inl (hs k hlt e)) (fun k e=>?_) (fun k e=>?_),(hk.block b hbl hsb).trans h.at_,own_keep h.row hk (fun k hk2=>hsa k (AB_own hk2.symm)),h.nb,?_,h.name,h.per1,h.per2,h.len,h.right⟩
 ·rcases e with e | e | e
  ·exact ⟨(hP k e).1,(hP k e).2.imp .inl id⟩
  ·exact ⟨by rw [e];exact Nat.lt_of_lt_of_le hbl hk.size,.inl (.inr (.inl e))⟩
  ·exact ⟨Nat.lt_of_lt_of_le (hal k e) hk.size,.inl (.inr (.inr e))⟩
 ·rcases e with e | e | e
  ·exact ⟨(hR k e).1,(hR k e).2.imp .inl id⟩
  ·exact ⟨by rw [e];exact Nat.lt_of_lt_of_le hbl hk.size,.inl (.inr (.inl e))⟩
  ·exact ⟨Nat.lt_of_lt_of_le (hal k e) hk.size,.inl (.inr (.inr e))⟩
 ·intro k e
  have h1:(P k\/R k)\/W.heap.size<=k:=e.elim (fun e=>(hP k e).2.imp .inl id) (fun e=>(hR k e).2.imp .inr id)
  rcases h1 with h1 | h1
  ·exact h.pb k h1
  ·exact ⟨fun e=>by omega,fun e=>by have:=hal k e;omega⟩
theorem LogW.lt {P R:Nat->Prop} {b:Nat} {L:LLog} {M:Disk} {W:World} (h:LogW P R b L M W):(∀ k,P k->k<W.heap.size)/\(∀ k,R k->k<W.heap.size)/\b<W.heap.size/\∀ k,AB L.A k->k<W.heap.size:=
 ⟨fun k e=>h.disk.lt.1 k (.inl e),fun k e=>h.disk.lt.2 k (.inl e),(Array.getElem?_eq_some_iff.1 h.at_).1,fun k e=>(AB_lt h.row k e).2⟩
theorem LogW.cell {P R:Nat->Prop} {b:Nat} {L:LLog} {M:Disk} {W W':World} {S:Nat->Prop} (h:LogW P R b L M W) (hk:Keep S W W') (hs:∀ k,k<W.heap.size->S k->P k):LogW P R b L M W':=
 h.keep hk hs (fun k e=>⟨Nat.lt_of_lt_of_le (h.lt.1 k e) hk.size,.inl e⟩) (fun k e=>⟨Nat.lt_of_lt_of_le (h.lt.2.1 k e) hk.size,.inl e⟩)
theorem LogW.ext {P R:Nat->Prop} {b:Nat} {L:LLog} {M:Disk} {W W':World} (h:LogW P R b L M W) (hk:Keep NoB W W'):LogW P R b L M W':=h.cell hk (fun _ _ h=>h.elim)
theorem LogW.disked {P R:Nat->Prop} {b:Nat} {L:LLog} {M M':Disk} {W W':World} (h:LogW P R b L M W) (h2:DiskW (fun k=>P k\/k=b\/AB L.A k) (fun k=>R k\/k=b\/AB L.A k) L.d M' W') (hk:Keep (NotP (fun k=>R k\/k=b\/AB L.A k)) W W'):LogW P R b L M' W':=
 ⟨h2,(hk.block b h.lt.2.2.1 (fun e=>e (.inr (.inl rfl)))).trans h.at_,own_keep h.row hk (fun k hk2 e=>e (.inr (.inr (AB_own hk2.symm)))),h.nb,h.pb,h.name,h.per1,h.per2,h.len,h.right⟩
theorem LogW.written {P R S:Nat->Prop} {b:Nat} {L L':LLog} {M:Disk} {W W':World} (h:LogW P R b L M W) (hk:Keep S W W') (hS:∀ k,k<W.heap.size->S k->k=b\/AB L.A k) (hd:L'.d=L.d) (hn:L'.name=L.name) (hp:L'.per=L.per) (hat:W'.heap[b]?=some (.cells (logC L').toArray 69 (0,0))) (hrow:W'.ownsRow 0 51 6 (.slice L'.A L'.es.length L'.c) L'.es.length (L'.es.flatMap enC)) (hA:∀ k,AB L'.A k->AB L.A k\/W.heap.size<=k) (hl:L'.es.length<=4096) (hr:∀ e∈L'.es,Right e):LogW P R b L' M W':=by
 have hlt:=h.lt
 have hA':∀ k,AB L'.A k->k<W'.heap.size:=fun k e=>(AB_lt hrow k e).2
 refine ⟨?_,hat,hrow,fun e=>?_,fun k e=>?_,by rw [hn];exact h.name,by rw [hp];exact h.per1,by rw [hp];exact h.per2,hl,hr⟩
 ·rw [hd]
  refine h.disk.keep hk (fun k hl e=>.inr (hS k hl e)) (fun k e=>?_) (fun k e=>?_)
  ·rcases e with e | e | e
   ·exact ⟨Nat.lt_of_lt_of_le (hlt.1 k e) hk.size,.inl (.inl e)⟩
   ·exact ⟨by rw [e];exact Nat.lt_of_lt_of_le hlt.2.2.1 hk.size,.inl (.inr (.inl e))⟩
   ·exact ⟨hA' k e,(hA k e).imp (fun e=>.inr (.inr e)) id⟩
  ·rcases e with e | e | e
   ·exact ⟨Nat.lt_of_lt_of_le (hlt.2.1 k e) hk.size,.inl (.inl e)⟩
   ·exact ⟨by rw [e];exact Nat.lt_of_lt_of_le hlt.2.2.1 hk.size,.inl (.inr (.inl e))⟩
   ·exact ⟨hA' k e,(hA k e).imp (fun e=>.inr (.inr e)) id⟩
 ·rcases hA b e with e | e
  ·exact h.nb e
  ·have:=hlt.2.2.1;omega
 ·have h1:=h.pb k e
  refine ⟨h1.1,fun e2=>?_⟩
  rcases hA k e2 with e3 | e3
  ·exact h1.2 e3
  ·rcases e with e | e
   ·have:=hlt.1 k e;omega
   ·have:=hlt.2.1 k e;omega
section
variable {P:Program} {r:Option Nat} {N:Nat} {S:Nat->Prop} {τ:Tau} {w:World} {ty:TypeId}
theorem v_min3 {x y z:Operand} {t:Array TypeId} {k:IntKind} {a b c:Int} [hx:EvO N τ x (.int k a)] [hy:EvO N τ y (.int k b)] [hz:EvO N τ z (.int k c)]:Val P r N S (.call { callee:=.builtin .min,args:=#[x,y,z],argTypes:=t }) ty τ w (.int k (min (min a b) c)):=⟨fun _=>nofun,fun W _=>by
 have e:(if b<a then b else a)=min a b:=by split<;>omega
 have e2:(if c<min a b then c else min a b)=min (min a b) c:=by split<;>omega
 simp [execOp,resolve,invoke,builtin,hx.eq,hy.eq,hz.eq,Builtin.min_,Builtin.min2,e,e2]⟩
end
theorem nameOk_file {name:ByteArray} (h:logName name=true) (n:Nat):nameOk (fileN name n)=true:=by
 simp only [logName,Bool.and_eq_true,decide_eq_true_eq] at h
 unfold nameOk fileN
 rw [strOf_list]
 simp only [Bool.and_eq_true,decide_eq_true_eq]
 have hl:(name.toList++46 :: digs 6 n).length=name.size+7:=by rw [List.length_append,List.length_cons,digs_len,size_list]
 refine ⟨⟨by omega,by omega⟩,?_⟩
 rw [List.all_append,List.all_cons,Bool.and_eq_true,Bool.and_eq_true]
 refine ⟨?_,by decide,?_⟩
 ·rw [List.all_eq_true] at *
  intro c hc
  have h1:byteL c=true:=h.2 c hc
  simp only [byteL,byteOk,Bool.or_eq_true,Bool.and_eq_true,decide_eq_true_eq] at *
  exact .inl h1
 ·have h1:=digs_D 6 n
  rw [List.all_eq_true] at *
  intro c hc
  have h2:=h1 c hc
  simp only [byteD,byteOk,Bool.or_eq_true,Bool.and_eq_true,decide_eq_true_eq] at *
  exact .inl (.inr h2)
theorem readNo_file {fs:Fs} {name:ByteArray} (h:logName name=true) (n:Nat):readNo fs (fileN name n)=if akey fs (fileN name n)=none then 5 else 0:=by
 unfold readNo
 rw [if_neg (by rw [nameOk_file h];decide)]
theorem readB_file {fs:Fs} {name:ByteArray} (h:logName name=true) (n:Nat):readB fs (fileN name n)=(akey fs (fileN name n)).getD []:=by
 unfold readB
 rw [if_pos (nameOk_file h n)]
theorem akey_used:∀ {l:Fs} {k:ByteArray},((akey l k).getD []).length<=usedB l
 | [],k=>by simp [akey]
 | p :: l,k=>by
   rw [akey_cons]
   have ih:=akey_used (l:=l) (k:=k)
   split
   ·simp [usedB]
   ·simp only [usedB,List.map_cons,List.sum_cons] at *;omega
theorem DiskW.fileLen {P R:Nat->Prop} {d:Nat} {M:Disk} {W:World} (h:DiskW P R d M W) (k:ByteArray):((akey M.files k).getD []).length<=16777216:=by
 have h1:=akey_used (l:=M.files) (k:=k)
 have h2:=h.ok.1.files.2.1
 have h3:=h.ok.1.most
 omega
theorem riseE_take {q:Int} {l:List En}:∀ {k:Nat},k<=l.length->(∀ i (h:i<k) (h2:i<l.length),lastE q (l.take i)<=l[i].epoch)->riseE q l=l.take k++riseE (lastE q (l.take k)) (l.drop k):=by
 intro k
 induction k generalizing q l with
 | zero=>intro _ _;simp [lastE]
 | succ k ih=>
   intro hk h
   cases l with
   | nil=>simp at hk
   | cons e l=>
     have h0:=h 0 (by omega) (by simp)
     simp only [List.take_zero,List.getElem_cons_zero] at h0
     have h0':q<=e.epoch:=h0
     rw [riseE,if_pos h0',List.take_succ_cons,List.drop_succ_cons,List.cons_append]
     congr 1
     have hl:∀ (i:Nat),lastE q ((e :: l).take (i+1))=lastE e.epoch (l.take i):=by
      intro i
      rw [List.take_succ_cons]
      unfold lastE
      cases hh:l.take i with
      | nil=>rfl
      | cons x y=>
        rw [List.getLast?_cons_cons]
        cases hz:(x :: y).getLast? with
        | none=>simp at hz
        | some z=>rfl
     have hl2:=hl k
     rw [List.take_succ_cons] at hl2
     rw [hl2]
     refine ih (by simpa using hk) ?_
     intro i hi hi2
     have:=h (i+1) (by omega) (by simp;omega)
     rw [hl i] at this
     simpa using this
theorem lastE_snoc (q:Int) (l:List En) (e:En):lastE q (l++[e])=e.epoch:=by simp [lastE]
theorem lastE_get {q:Int} {l:List En} (h:l.length≠0):lastE q l=(l[l.length - 1]'(by omega)).epoch:=by
 unfold lastE
 rw [List.getLast?_eq_getElem?,List.getElem?_eq_getElem (by omega)]
set_option maxHeartbeats 1000000 in
theorem segment_ok (P R:Nat->Prop) (b:Nat) (L:LLog) (M:Disk) (first:Nat) (w:World) (h:LogW P R b L M w) (hf:first<=4096):Ret Tryz.prog 28 #[ptrV b,.int .i64 (first:Int)] w (fun v w'=>(∃ A' c',v=.tuple #[.slice A' (segE M.files L.name L.per first (lastE 0 L.es)).length c',.int .i64 (((akey M.files (fileN L.name first)).getD []).length:Int),.bool (akey M.files (fileN L.name first)).isSome]/\Row w' A' ((segE M.files L.name L.per first (lastE 0 L.es)).flatMap enC)/\(∀ k,AB A' k->w.heap.size<=k/\k<w'.heap.size))/\Lk w' w NoB):=by
 haveI kb:Blk w b (.cells (logC L).toArray 69 (0,0)):=⟨h.at_⟩
 haveI hrL:RowB w L.A w (L.es.flatMap enC):=rowB_of (by obtain ⟨A',c',he,_,_,hr⟩:=ownsRow_form h.row;cases he;exact hr)
 have hp1:=h.per1
 have hp2:=h.per2
 have hlen:=h.len
 have hns:L.name.size<=8:=by have:=h.name;simp only [logName,Bool.and_eq_true,decide_eq_true_eq] at this;exact this.1.2
 have hrn:=readNo_file (fs:=M.files) h.name first
 have hrb:=readB_file (fs:=M.files) h.name first
 obtain ⟨bs,hbs⟩:∃ bs,bs=(akey M.files (fileN L.name first)).getD []:=⟨_,rfl⟩
 have hbl:bs.length<=16777216:=by rw [hbs];exact h.disk.fileLen _
 rw [<- hbs] at hrb ⊢
 have hseg:segE M.files L.name L.per first (lastE 0 L.es)=riseE (lastE 0 L.es) ((allB bs).take (min L.per (4096 - first))):=by rw [segE,<- hbs]
 obtain ⟨sl,hsl⟩:∃ sl,sl=(allB bs).take (min L.per (4096 - first)):=⟨_,rfl⟩
 rw [<- hsl] at hseg
 rw [hseg]
 obtain ⟨q,hq⟩:∃ q,q=lastE 0 L.es:=⟨_,rfl⟩
 rw [<- hq]
 have hal:=allB_len bs
 have hq0:L.es.length=0->q=0:=fun e=>by rw [hq,List.eq_nil_of_length_eq_zero e];rfl
 refine ret_of_x (N:=83) (l:=[ptrV b,.int .i64 (first:Int)]) Tryz.func28 rfl rfl (Nat.le_of_ble_eq_true rfl) ?_
 refine xq (xa (xa (xz ?_)))
 refine x_seq ?_
 refine x_drawL (NoB) (allS) (.take 0 (.take 1 (.take 2 (.take 3 (.take 4 (.take 5 (.take 6 (.take 7 (.take 8 (.eff 9 (.eff 10 (.take 11 (.take 12 (.take 13 (.take 14 (.take 15 .done)))))))))))))))) mixed (by kernel_rfl) (fun _ _ _ _ _ h=>h) (fun w1 l1=>?_)
 refine xt_v rfl v_move (xt_Nc rfl ?_)
 refine xt_Fb rfl ?_
 refine xt_Lc rfl ?_
 refine xt_v rfl v_move (xt_Nc rfl ?_)
 refine xt_Fb rfl ?_
 refine xt_Lb rfl ?_
 refine xt_v rfl v_move ?_
 refine xt_call rfl (file_ok L.name L.per first w1 (by omega) (by omega)) ?_
 rintro _ w2 ⟨rfl,lk9⟩
 refine ⟨kpc,?_⟩
 refine xt_call rfl (Go.Proofs.YtigmfcgeljjgnaaGreat.read_ok _ _ L.d M (fileN L.name first) w2 (h.disk.ext (kpc:Keep NoB w w2))) ?_
 rintro _ w3 ⟨⟨A1,cb1,rfl,ho1⟩,lk10⟩
 refine ⟨kpc,?_⟩
 rw [hrb] at ho1 ⊢
 refine xt_v rfl v_move (xt_v rfl v_extract (xt_v rfl v_extract (xt_v rfl v_assign (xt_v rfl v_assign (xt_nil ?_)))))
 refine x_seq (xq (xm (xl_v v_neq (xl_nil ?_))))
 refine x_if (fun c1=>?_) (fun c1=>?_)
 ·have hnone:akey M.files (fileN L.name first)=none:=by
   rcases Decidable.em (akey M.files (fileN L.name first)=none) with hh | hh
   ·exact hh
   ·rw [hrn,if_neg hh] at c1;exact absurd rfl c1
  have hbn:bs=[]:=by rw [hbs,hnone];rfl
  have hsn:riseE q sl=[]:=by rw [hsl,hbn,allB_nil];simp [riseE]
  refine xq (xa (xa (xz ?_)))
  refine x_ret ?_
  refine fin3 rfl ?_
  refine ⟨⟨none,0,by rw [hsn,hbn,hnone];rfl,⟨by rw [hsn];exact fun j v hj=>by simp at hj⟩,fun k e=>by obtain ⟨a,ha,_⟩:=e;cases ha⟩,lkc⟩
 have hsome:(akey M.files (fileN L.name first)).isSome=true:=by
  cases hh:akey M.files (fileN L.name first) with
  | none=>rw [hrn,if_pos hh] at c1;omega
  | some _=>rfl
 rw [hsome]
 refine x_skip (xq (xz ?_))
 refine x_cut (fun τ ds w'=>ds=[]/\w'=w3/\Ev τ 0 (ptrV b)/\Ev τ 1 (.int .i64 (first:Int))/\Ev τ 7 (.slice A1 bs.length cb1)/\Ev τ 9 (.int .i64 q)) ?_ ?_
 ·refine xq (xm (xl_Nc ?_))
  refine xl_Fb ?_
  refine xl_Lc ?_
  refine xl_v v_len (xz ?_)
  refine xq (xm (xl_v v_gtr (xl_nil ?_)))
  refine x_if (fun c2=>?_) (fun c2=>?_)
  ·have hne:L.es.length≠0:=by omega
   refine x_regionL (xm (xl_Nc ?_))
   refine xl_Fb ?_
   refine xl_Lc ?_
   refine xm ?_
   refine xl_v (v_sub (by omega)) ?_
   refine xl_v (v_indexF (L.es.length - 1) (by decide) (by omega) (by omega) (by omega)) ?_
   refine xl_Fb ?_
   refine xl_v (v_congr (u:=.int .i64 q) (v_loadF0 (by omega)) (by rw [hq,lastE_get hne])) ?_
   refine xz ?_
   exact ⟨rfl,rfl,ii,ii,ii,by first | infer_instance | (rw [show q=0 from hq0 (by omega)];infer_instance)⟩
  refine x_skip ?_
  exact ⟨rfl,rfl,ii,ii,ii,by first | infer_instance | (rw [show q=0 from hq0 (by omega)];infer_instance)⟩
 intro τ4 ds4 w4 hI
 obtain ⟨rfl,hw',e0,e1,e7,e9⟩:=hI
 subst hw'
 refine xq (xm ?_)
 refine xl_call (wall_ok (OwnB (.slice A1 bs.length cb1)) A1 bs.length cb1 bs w4 (FRow.of_own (own_ext ho1 lkc)) (fun k e=>Nat.lt_of_lt_of_le (ownB_lt ho1 k e).2 Ge.le) rfl (by omega) (own_cap ho1)) ?_
 rintro _ w5 ⟨⟨A2,c2,g2,y2,rfl,ho2⟩,lk8⟩
 refine xl_v v_field (xz ?_)
 refine x_seq ?_
 have hsll:sl.length=min (allB bs).length (min L.per (4096 - first)):=by rw [hsl,List.length_take];omega
 have hrows:∀ i,RowP w5 A2 ((sl.take i).flatMap enC):=fun i=>by
  have h1:sl.take i=(allB bs).take (min i (min L.per (4096 - first))):=by rw [hsl,List.take_take]
  rw [h1,flat_take (sz:=6) (fun _=>rfl)]
  exact row_take (by obtain ⟨A',c',he,_,_,hr⟩:=ownsRow_form ho2;cases he;exact hr) _
 have hcap2:=own_cap ho2
 have hAB:∀ k,AB A2 k->w.heap.size<=k/\k<(w5).heap.size:=fun k e=>⟨Nat.le_trans Ge.le (AB_lt ho2 k e).1,(AB_lt ho2 k e).2⟩
 obtain ⟨w9,hw9⟩:∃ x,x=w5:=⟨_,rfl⟩
 have hk9:Keep NoB w9 w5:=by rw [hw9];exact Keep.refl _ _
 have hlk9:Lk w9 w NoB:=by rw [hw9];exact lkc
 rw [<- hw9] at hrows hAB
 refine x_regionL (xm (xm (xl_v v_len (xm (xl_Nc ?_)))))
 refine xl_Fb ?_
 refine xl_Fb ?_
 refine xl_Lc ?_
 refine xm ?_
 refine xl_v (v_sub (by omega)) ?_
 refine xl_v (v_congr (u:=.int .i64 (sl.length:Int)) v_min3 (congrArg (Value.int .i64) (by omega))) ?_
 refine xl_v (v_sliceH sl.length rfl (by omega)) ?_
 refine xz ?_
 refine x_seq (xq (xm (xl_v v_len (xm (xl_nil ?_)))))
 refine x_block ?_
 have hBs:w5=w9:=hw9.symm
 rw [hBs]
 clear hk9
 refine x_loop (fun t τ ds w'=>ds=[]/\∃ k:Nat,t=sl.length - k/\k<=sl.length/\(∀ i (h:i<k) (h2:i<sl.length),lastE q (sl.take i)<=sl[i].epoch)/\Ev τ 7 (.slice A1 bs.length cb1)/\Ev τ 9 (.int .i64 (lastE q (sl.take k)))/\Ev τ 11 (.slice A2 sl.length c2)/\Ev τ 61 (.slice A2 sl.length c2)/\Ev τ 62 (.int .i64 (sl.length:Int))/\Ev τ 63 (.int .i64 (k:Int))/\Lk w' w9 NoB) (sl.length) ?start ?round
 case start=>
  exact ⟨rfl,0,rfl,Nat.zero_le _,fun i h=>by omega,ii,ii,ii,ii,ii,evc,⟨Keep.refl _ _⟩⟩
 case round=>
  intro m τ6 ds6 w6 hI
  obtain ⟨rfl,k,rfl,hk,hrise,e7,e9,e11,e61,e62,e63,lk⟩:=hI
  haveI hrS:Row w6 A2 (sl.flatMap enC):=⟨by have h1:=(hrows sl.length).keep lk.keep (fun _ _ h=>h);rwa [List.take_of_length_le (Nat.le_refl _)] at h1⟩
  haveI:=hlk9
  refine xq (xl_v v_lss (xl_nil ?_))
  refine x_seq ?_
  refine x_if (fun c3=>?_) (fun c3=>?_)
  ·have hk1:k<sl.length:=by omega
   refine x_skip (x_seq (x_block (xq (xm ?_))))
   refine xl_v (v_indexF k (by decide) rfl (by omega) hk1) ?_
   refine xl_v (v_loadF (k:=k) (by decide) hk1) ?_
   refine xl_e (e_alloc fun b7 w7 n7 l7 k7=>?_)
   refine xa ?_
   refine xl_s (e_storeA fun w8 l8 k8=>?_)
   refine xl_nil ?_
   refine x_seq (xq (xl_Fb ?_))
   refine xl_Lc ?_
   refine xm (xl_v v_lss (xl_nil ?_))
   refine x_if (fun c4=>?_) (fun c4=>?_)
   ·refine xq (xm (xm ?_))
    refine xl_v (v_sliceH k rfl (by omega)) ?_
    refine xm (xl_v v_len (xa (xa (xz ?_))))
    refine x_ret ?_
    refine fin3 rfl ?_
    have hR:riseE q sl=sl.take k:=by
     rw [riseE_take (k:=k) (by omega) hrise,List.drop_eq_getElem_cons hk1,riseE,if_neg (by omega),List.append_nil]
    have hkl:(sl.take k).length=k:=by rw [List.length_take];omega
    rw [hR]
    refine ⟨⟨A2,c2,by rw [hkl],⟨(hrows k).keep (kpc:Keep NoB w9 w8) (fun _ _ h=>h)⟩,fun j e=>⟨(hAB j e).1,Nat.lt_of_lt_of_le (hAB j e).2 Ge.le⟩⟩,lkc⟩
   refine x_skip (x_regionL (xl_Fb ?_))
   refine xl_Lc ?_
   refine xz ?_
   refine x_regionL ?_
   refine xl_v (v_add (by omega)) ?_
   refine xm (xl_nil ?_)
   refine ⟨_,?_,rfl,k+1,rfl,by omega,?_,ii,?_,ii,ii,ii,evc,lkc⟩
   ·omega
   ·intro i hi hi2
    by_cases e:i=k
    ·subst e;omega
    ·exact hrise i (by omega) hi2
   ·rw [take_snoc sl k hk1,lastE_snoc];infer_instance
  refine x_exit (xq (xm (xm (xl_v v_len (xa (xa (xz ?_)))))))
  refine x_ret ?_
  refine fin3 rfl ?_
  have hkn:k=sl.length:=by omega
  subst hkn
  have hR:riseE q sl=sl:=by
   have h1:=riseE_take (Nat.le_refl _) hrise
   rw [List.take_of_length_le (Nat.le_refl _),List.drop_of_length_le (Nat.le_refl _)] at h1
   simpa [riseE] using h1
  rw [hR]
  refine ⟨⟨A2,c2,rfl,hrS,fun j e=>⟨(hAB j e).1,Nat.lt_of_lt_of_le (hAB j e).2 Ge.le⟩⟩,lkc⟩
def wide (Q:Nat->Prop) (w W:World):Nat->Prop:=fun k=>Q k\/(w.heap.size<=k/\k<W.heap.size)
instance notS_wide (Q:Nat->Prop) (w w1 W:World) (b:Nat) [n:New b w1] [g:Ge w1 w] [h:Has W b]:NotS (NotP (wide Q w W)) b:=⟨fun e=>e (.inr ⟨by have:=n.eq;have:=g.le;omega,h.lt⟩)⟩
theorem DiskW.wide {P Q:Nat->Prop} {d:Nat} {M:Disk} {w W:World} (h:DiskW P Q d M w) (hk:Keep NoB w W):DiskW (wide P w W) (wide Q w W) d M W:=
 h.keep hk (fun _ _ h=>h.elim) (fun k e=>by
  rcases e with e | e
  ·exact ⟨Nat.lt_of_lt_of_le (h.lt.1 k e) hk.size,.inl e⟩
  ·exact ⟨e.2,.inr e.1⟩) (fun k e=>by
  rcases e with e | e
  ·exact ⟨Nat.lt_of_lt_of_le (h.lt.2 k e) hk.size,.inl e⟩
  ·exact ⟨e.2,.inr e.1⟩)
instance subF_wide1 (Q:Nat->Prop) (w W w0:World):SubF (NotP (wide Q w W)) (NotP Q) w0:=⟨fun k _ e e2=>e (.inl e2)⟩
instance notS_wide1 (Q:Nat->Prop) (w W:World) (b:Nat) [h:NotS (NotP Q) b]:NotS (NotP (wide Q w W)) b:=⟨fun e=>h.not (fun q=>e (.inl q))⟩
theorem DiskW.narrow {P R P' R':Nat->Prop} {d:Nat} {M:Disk} {W:World} (h:DiskW P' R' d M W) (hP:∀ k,P k->P' k) (hR:∀ k,R k->R' k):DiskW P R d M W:=
 h.keep (Keep.refl NoB _) (fun _ _ h=>h.elim) (fun k e=>⟨h.lt.1 k (hP k e),.inl (hP k e)⟩) (fun k e=>⟨h.lt.2 k (hR k e),.inl (hR k e)⟩)
theorem wide_sub {Q:Nat->Prop} {w W W2:World} (h:W.heap.size<=W2.heap.size) (k:Nat) (e:NotP (wide Q w W2) k):NotP (wide Q w W) k:=fun e2=>e (e2.imp id (fun e3=>⟨e3.1,by omega⟩))
def refNo (es:List En) (x:En):Int:=if ¬ Right x then 2 else if 4096<=es.length then 3 else if es≠[]/\x.epoch<lastE 0 es then 140 else 0
theorem appNo_ref (M:Disk) (name:ByteArray) (per:Nat) (es:List En) (x:En):appNo M name per es x=if refNo es x=0 then M.doNo (putT name per es.length x) else refNo es x:=by
 unfold appNo refNo
 split
 ·simp
 split
 ·simp
 split
 ·simp
 ·simp
theorem refused2_ok (P R:Nat->Prop) (b:Nat) (L:LLog) (M:Disk) (x:En) (w:World) (h:LogW P R b L M w):Ret Tryz.prog 35 #[ptrV b,.agg (enC x).toArray] w (fun v w'=>v=.int .i64 (refNo L.es x)/\Lk w' w NoB):=by
 haveI kb:Blk w b (.cells (logC L).toArray 69 (0,0)):=⟨h.at_⟩
 haveI hrL:RowB w L.A w (L.es.flatMap enC):=rowB_of (by obtain ⟨A',c',he,_,_,hr⟩:=ownsRow_form h.row;cases he;exact hr)
 have hlen:=h.len
 refine ret_of_x (N:=35) (l:=[ptrV b,.agg (enC x).toArray]) Tryz.func35 rfl rfl (Nat.le_of_ble_eq_true rfl) ?_
 refine xq ?_
 refine xl_e (e_box fun b3 w1 n3 l3 k3=>?_)
 refine xz ?_
 refine xq (xm (xl_Nc ?_))
 refine xl_Fb ?_
 refine xl_Lc ?_
 refine xl_v v_len (xz ?_)
 refine x_seq (x_block (xq (xl_Lb ?_)))
 refine xl_call (check_ok x w1) ?_
 rintro _ w2 ⟨rfl,lk2⟩
 refine xl_v v_neq (xz ?_)
 refine x_if (fun c1=>?_) (fun c1=>?_)
 ·have hR:¬ Right x:=fun hh=>by rw [if_pos hh] at c1;exact absurd rfl c1
  refine xq (xz ?_)
  refine x_ret ?_
  refine fin1 rfl ?_
  exact ⟨congrArg (Value.int .i64) (by unfold refNo;rw [if_pos hR]),lkc⟩
 have hR:Right x:=Decidable.byContradiction fun hh=>by rw [if_neg hh] at c1;omega
 refine xq (xm (xl_v v_geq (xz ?_)))
 refine x_if (fun c2=>?_) (fun c2=>?_)
 ·refine xq (xz ?_)
  refine x_ret ?_
  refine fin1 rfl ?_
  exact ⟨congrArg (Value.int .i64) (by unfold refNo;rw [if_neg (fun h=>h hR),if_pos (by omega)]),lkc⟩
 refine x_seq ?_
 refine x_drawL (NoB) (allS) (.take 0 (.take 1 (.take 2 (.take 3 (.take 4 (.take 5 (.take 6 (.take 7 (.take 8 (.take 9 (.take 10 (.take 11 (.take 12 (.take 13 (.take 14 (.take 15 (.take 16 .done))))))))))))))))) mixed (by kernel_rfl) (fun _ _ _ _ _ h=>h) (fun w3 l3=>?_)
 refine xt_v rfl v_move ?_
 refine xt_v rfl v_gtr ?_
 refine xt_v rfl v_move ?_
 refine xt_split 21 (fun g21=>?_) (fun g21=>?_)
 ·have g6:=of_decide_eq_true g21
  have hne:L.es.length≠0:=by omega
  have hne2:L.es≠[]:=fun e=>hne (by rw [e];rfl)
  refine xt_gFb rfl rfl EvO.eq ?_
  refine xt_gLc rfl rfl EvO.eq ?_
  refine xt_gv rfl rfl EvO.eq v_move ?_
  refine xt_gNc rfl rfl EvO.eq ?_
  refine xt_gFb rfl rfl EvO.eq ?_
  refine xt_gLc rfl rfl EvO.eq ?_
  refine xt_gv rfl rfl EvO.eq v_move ?_
  refine xt_gv rfl rfl EvO.eq (v_sub (by omega)) ?_
  refine xt_gv rfl rfl EvO.eq (v_indexF (L.es.length - 1) (by decide) (by omega) (by omega) (by omega)) ?_
  refine xt_gFb rfl rfl EvO.eq ?_
  refine xt_gv rfl rfl EvO.eq (v_congr (u:=.int .i64 (lastE 0 L.es)) (v_loadF0 (by omega)) (by rw [lastE_get hne])) ?_
  refine xt_gv rfl rfl EvO.eq v_lss ?_
  refine xt_Pk rfl ?_
  refine xt_v rfl v_assign (xt_nil ?_)
  refine x_if (fun c3=>?_) (fun c3=>?_)
  ·refine xq (xz ?_)
   refine x_ret ?_
   refine fin1 rfl ?_
   exact ⟨congrArg (Value.int .i64) (by unfold refNo;rw [if_neg (fun h=>h hR),if_neg (by omega),if_pos ⟨hne2,by omega⟩]),lkc⟩
  refine x_skip (xq (xz ?_))
  refine x_ret ?_
  refine fin1 rfl ?_
  exact ⟨congrArg (Value.int .i64) (by unfold refNo;rw [if_neg (fun h=>h hR),if_neg (by omega),if_neg (fun h=>by first | exact hne2 h.1 | (have:=h.2;omega))]),lkc⟩
 have g6:=of_decide_eq_false g21
 have hne2:¬ L.es≠[]:=fun e=>e (List.eq_nil_of_length_eq_zero (by omega))
 refine xt_gs rfl rfl EvO.eq (xt_gs rfl rfl EvO.eq (xt_gs rfl rfl EvO.eq (xt_gs rfl rfl EvO.eq (xt_gs rfl rfl EvO.eq (xt_gs rfl rfl EvO.eq (xt_gs rfl rfl EvO.eq (xt_gs rfl rfl EvO.eq (xt_gs rfl rfl EvO.eq (xt_gs rfl rfl EvO.eq (xt_gs rfl rfl EvO.eq (xt_gs rfl rfl EvO.eq (xt_Pk rfl ?_))))))))))))
 refine xt_v rfl v_assign (xt_nil ?_)
 refine x_condF ?_
 refine x_skip (xq (xz ?_))
 refine x_ret ?_
 refine fin1 rfl ?_
 exact ⟨congrArg (Value.int .i64) (by unfold refNo;rw [if_neg (fun h=>h hR),if_neg (by omega),if_neg (fun h=>by first | exact hne2 h.1 | (have:=h.2;omega))]),lkc⟩
theorem wframe_ok (e:En) (w:World) (hR:Right e):Ret Tryz.prog 36 #[.agg (enC e).toArray] w (fun v w'=>(∃ A' c',v=.tuple #[.slice A' (frame e).length c',.int .i64 0]/\w'.ownsRow w.heap.size 5 1 (.slice A' (frame e).length c') (frame e).length (bytesC (frame e)))/\Lk w' w NoB):=by
 refine ret_of_x (N:=9) (l:=[.agg (enC e).toArray]) Tryz.func36 rfl rfl (Nat.le_of_ble_eq_true rfl) ?_
 refine xq ?_
 refine xl_e (e_box fun b1 w1 n1 l1 k1=>?_)
 refine xa (xz ?_)
 refine xq (xl_Lb ?_)
 refine xl_e (e_buildSliceM (vs:=[e].flatMap enC) rfl rfl (by simp) fun b5 w2 n5 l5 k5=>?_)
 refine xl_call (frames_ok (hra:=rowB_of (row_blk Blk.eq)) (some ⟨b5,0,none⟩) 1 1 [e] w2 rfl (by omega) (by simpa using hR)) ?_
 rintro _ w3 ⟨⟨A',c',rfl,ho⟩,lk⟩
 have hfe:frames [e]=frame e:=by simp [frames]
 rw [hfe] at ho ⊢
 refine xl_v v_extract (xl_v v_extract (xa (xz ?_)))
 refine x_ret ?_
 refine fin2 rfl ?_
 exact ⟨⟨A',c',rfl,own_mono ho Ge.le⟩,lkc⟩
abbrev RS (R:Nat->Prop) (b:Nat) (A:Option Addr):Nat->Prop:=NotP (fun k=>R k\/k=b\/AB A k)
def WL (b:Nat) (A:Option Addr):Nat->Prop:=fun k=>k=b\/AB A k
theorem doNo_few (M:Disk) (t:Thing):(M.does t).lasts.length+(M.does t).waits.length<=M.lasts.length+M.waits.length+1:=by
 unfold Disk.does
 split
 ·simp;omega
 ·omega
set_option maxHeartbeats 2000000 in
theorem append_ok (P R:Nat->Prop) (b:Nat) (L:LLog) (M:Disk) (A:Option Addr) (n c:Nat) (xs:List En) (w:World) (h:LogW P R b L M w) (hx:RowP w A (xs.flatMap enC)) (hxR:xs≠[]->∀ a,A=some a->R a.block) (hl:xs.length=n) (hn:n<=9223372036854775807) (hfew:M.lasts.length+M.waits.length+min n 4096<=999990):Ret Tryz.prog 11 #[ptrV b,.slice A n c] w (fun v w'=>v=.tuple #[.int .i64 ((appAll L.name L.per M L.es xs).2.2.1:Int),.int .i64 (appAll L.name L.per M L.es xs).2.2.2]/\(∃ L',LogW P R b L' (appAll L.name L.per M L.es xs).1 w'/\L'.es=(appAll L.name L.per M L.es xs).2.1/\L'.name=L.name/\L'.per=L.per/\L'.d=L.d/\L'.sure=L.sure)/\Lk w' w (NotP R)):=by
 haveI kb:Blk w b (.cells (logC L).toArray 69 (0,0)):=⟨h.at_⟩
 refine ret_of_x (N:=68) (l:=[ptrV b,.slice A n c]) Tryz.func11 rfl rfl (Nat.le_of_ble_eq_true rfl) ?_
 refine xq (xa (xz ?_))
 refine x_seq (xq (xm ?_))
 refine xl_call (lnone_ok b L w) ?_
 rintro _ _ ⟨rfl,rfl⟩
 refine xl_nil ?_
 refine x_condF ?_
 refine x_skip (x_seq (xq (xm (xl_v v_len (xm (xl_nil ?_))))))
 refine x_block ?_
 refine x_loop (fun t τ ds w'=>ds=[]/\∃ (k:Nat) (L1:LLog) (M1:Disk),t=n - k/\k<=n/\LogW P R b L1 M1 w'/\L1.name=L.name/\L1.per=L.per/\L1.d=L.d/\L1.sure=L.sure/\L1.es.length=L.es.length+k/\M1.lasts.length+M1.waits.length<=M.lasts.length+M.waits.length+k/\appAll L.name L.per M L.es xs=((appAll L.name L.per M1 L1.es (xs.drop k)).1,(appAll L.name L.per M1 L1.es (xs.drop k)).2.1,(appAll L.name L.per M1 L1.es (xs.drop k)).2.2.1+k,(appAll L.name L.per M1 L1.es (xs.drop k)).2.2.2)/\Ev τ 0 (ptrV b)/\Ev τ 1 (.slice A n c)/\Ev τ 13 (.slice A n c)/\Ev τ 14 (.int .i64 (n:Int))/\Ev τ 15 (.int .i64 (k:Int))/\Lk w' w (NotP R)) (n) ?start ?round
 case start=>
  exact ⟨rfl,0,L,M,rfl,Nat.zero_le _,h.ext (kpc:Keep NoB w w),rfl,rfl,rfl,rfl,rfl,by omega,by simp,ii,ii,ii,ii,evc,⟨(kpc:Keep NoB w w).mono (fun _ _ h=>h.elim)⟩⟩
 case round=>
  intro m τ2 ds2 w2 hI
  obtain ⟨rfl,k,L1,M1,rfl,hk,h1,q1,q2,q3,q4,hel1,hfew1,happ,e0,e1,e13,e14,e15,lk⟩:=hI
  haveI kb1:Blk w2 b (.cells (logC L1).toArray 69 (0,0)):=⟨h1.at_⟩
  have hlen1:=h1.len
  haveI kbW:Blk w b (.cells (logC L).toArray 69 (0,0)):=⟨h.at_⟩
  refine xq (xl_v v_lss (xl_nil ?_))
  refine x_seq ?_
  refine x_if (fun c2=>?_) (fun c2=>?_)
  ·have hk1:k<xs.length:=by omega
   have hne:xs≠[]:=fun e=>by rw [e] at hk1;simp at hk1
   haveI hrx:Row w2 A (xs.flatMap enC):=⟨hx.keep lk.keep (fun a ha e=>e (hxR hne a ha))⟩
   refine x_skip (x_seq (x_block (xq (xm ?_))))
   refine xl_v (v_indexF k (by decide) rfl (by omega) hk1) ?_
   refine xl_v (v_loadF (k:=k) (by decide) hk1) ?_
   refine xl_e (e_alloc fun b7 w3 n7 l7 k7=>?_)
   refine xa ?_
   refine xl_s (e_storeA fun w4 l4 k4=>?_)
   refine xl_nil ?_
   refine xq (xm (xl_Lb ?_))
   refine xl_call (refused2_ok P R b L1 M1 xs[k] w4 (h1.ext (kpc:Keep NoB w2 w4))) ?_
   rintro _ w5 ⟨rfl,lk6⟩
   refine xz ?_
   refine x_cut (fun τ ds w'=>ds=[]/\Ev τ 0 (ptrV b)/\Ev τ 1 (.slice A n c)/\Ev τ 6 (.int .i64 (k:Int))/\Ev τ 7 (ptrV b7)/\Ev τ 8 (.int .i64 (appNo M1 L.name L.per L1.es xs[k]))/\Ev τ 13 (.slice A n c)/\Ev τ 14 (.int .i64 (n:Int))/\Ev τ 15 (.int .i64 (k:Int))/\LogW P R b L1 (if refNo L1.es xs[k]=0 then M1.does (putT L.name L.per L1.es.length xs[k]) else M1) w'/\Blk w' b7 (.cells (enC xs[k]).toArray 51 (0,0))/\Lk w' w2 (RS R b L1.A)) ?_ ?_
   ·refine xq (xm (xl_v v_eql (xl_nil ?_)))
    refine x_if (fun c3=>?_) (fun c3=>?_)
    ·have hr0:refNo L1.es xs[k]=0:=by omega
     have hRx:Right xs[k]:=Decidable.byContradiction fun hh=>by unfold refNo at hr0;rw [if_pos hh] at hr0;cases hr0
     have hlt4:L1.es.length<4096:=by
      rcases Nat.lt_or_ge L1.es.length 4096 with hh | hh
      ·exact hh
      ·unfold refNo at hr0;rw [if_neg (fun e=>e hRx),if_pos hh] at hr0;cases hr0
     have hfl:=frame_len hRx
     have hns:L1.name.size<=8:=by have:=h1.name;simp only [logName,Bool.and_eq_true,decide_eq_true_eq] at this;exact this.1.2
     have hdm:=Nat.div_mul_le_self L1.es.length L1.per
     refine xq (xl_Lb ?_)
     refine xl_call (wframe_ok xs[k] w5 hRx) ?_
     rintro _ w6 ⟨⟨A9,c9,rfl,ho9⟩,lk8⟩
     haveI o9:OwnI w6 A9 _ _ _ _ _ _ _:=⟨ho9⟩
     refine xm (xl_v v_extract (xl_v v_extract (xa (xz ?_))))
     have h1w:=h1.ext (kpc:Keep NoB w2 w6)
     obtain ⟨wR,hwR⟩:∃ x,x=w6:=⟨_,rfl⟩
     haveI nRS:NotS (RS R b L1.A) b:=⟨fun e=>e (.inr (.inl rfl))⟩
     refine x_drawL (NotP (wide (fun k=>R k\/k=b\/AB L1.A k) w2 w6)) (allS) (.take 0 (.take 1 (.take 2 (.take 3 (.take 4 (.take 5 (.take 6 (.take 7 (.take 8 (.take 9 (.take 10 (.take 11 (.take 12 (.take 13 (.take 14 (.take 15 (.take 16 (.take 19 (.eff 17 (.eff 18 (.eff 20 (.take 21 .done)))))))))))))))))))))) mixed (by kernel_rfl) (fun _ _ _ _ _ h=>h) (fun w7 l7=>?_)
     refine xt_v rfl v_move (xt_Nc rfl ?_)
     refine xt_Fb rfl ?_
     refine xt_Lc rfl ?_
     refine xt_v rfl v_move (xt_Nc rfl ?_)
     refine xt_Fb rfl ?_
     refine xt_Lb rfl ?_
     refine xt_v rfl v_move (xt_Nc rfl ?_)
     refine xt_Fb rfl ?_
     refine xt_Lb rfl ?_
     refine xt_v rfl v_move (xt_Nc rfl ?_)
     refine xt_Fb rfl ?_
     refine xt_Lc rfl ?_
     refine xt_v rfl v_len (xt_v rfl v_move ?_)
     refine xt_call rfl (base_ok L1.name L1.per L1.es.length w7 h1.per1 h1.per2 (by omega)) ?_
     rintro _ w8 ⟨rfl,lk917⟩
     refine ⟨kpc,?_⟩
     refine xt_call rfl (file_ok L1.name L1.per (L1.es.length / L1.per*L1.per) w8 (by omega) (by omega)) ?_
     rintro _ w9 ⟨rfl,lk918⟩
     refine ⟨kpc,?_⟩
     haveI sF9:SubF (NotP (wide (fun k=>R k\/k=b\/AB L1.A k) w2 w9)) (NotP (wide (fun k=>R k\/k=b\/AB L1.A k) w2 wR)) w9:=⟨fun k _ e=>wide_sub (by rw [hwR];exact Ge.le) k e⟩
     rw [hwR] at sF9
     haveI sR9:SubS (NotP (wide (fun k=>R k\/k=b\/AB L1.A k) w2 w9)) (NotP (wide (fun k=>R k\/k=b\/AB L1.A k) w2 wR)):=⟨fun k e=>wide_sub (by rw [hwR];exact Ge.le) k e⟩
     refine xt_call rfl (put_ok _ _ L1.d M1 (fileN L1.name (L1.es.length / L1.per*L1.per)) A9 c9 (frame xs[k]) 0 w9 (h1.disk.wide (kpc:Keep NoB w2 w9)) (by omega) (by omega)) ?_
     rintro _ w10 ⟨rfl,hD9,lk920⟩
     refine ⟨kpc,?_⟩
     have h3:LogW P R b L1 (M1.does (putT L.name L.per L1.es.length xs[k])) w10:=by
      have h4:=(h1.ext (kpc:Keep NoB w2 w9)).disked (hD9.narrow (fun k e=>.inl e) (fun k e=>.inl e)) (lk920.keep.mono (fun k _ e e2=>e (.inl e2)))
      rwa [q1,q2] at h4
     have hno':M1.doNo ⟨0,fileN L1.name (L1.es.length / L1.per*L1.per),frame xs[k],0⟩=appNo M1 L.name L.per L1.es xs[k]:=by rw [appNo_ref,if_pos hr0,q1,q2]
     rw [hno']
     refine xt_v rfl v_assign (xt_nil ?_)
     first
     | exact ⟨rfl,ii,ii,ii,ii,ii,ii,ii,ii,by rw [if_pos hr0];exact h3,ii,lkc⟩
     | exact ⟨rfl,ii,ii,ii,ii,evc (congrArg (Value.int .i64) (by rw [appNo_ref,if_neg hrn])),ii,ii,ii,by rw [if_neg hrn];exact h1.ext (kpc:Keep NoB w2 w10),ii,lkc⟩
    have hrn:refNo L1.es xs[k]≠0:=by omega
    refine x_skip ?_
    first
    | exact ⟨rfl,ii,ii,ii,ii,ii,ii,ii,ii,by rw [if_pos hr0];exact h3,ii,lkc⟩
    | exact ⟨rfl,ii,ii,ii,ii,evc (congrArg (Value.int .i64) (by rw [appNo_ref,if_neg hrn])),ii,ii,ii,by rw [if_neg hrn];exact h1.ext (kpc:Keep NoB w2 w5),ii,lkc⟩
   intro τ11 ds11 w11 hI
   obtain ⟨rfl,e0,e1,e6,e7,e8,e13,e14,e15,h3,kb7,lk3⟩:=hI
   haveI kb3:Blk w11 b (.cells (logC L1).toArray 69 (0,0)):=⟨h3.at_⟩
   refine x_seq (xq (xm (xl_v v_neq (xl_nil ?_))))
   refine x_if (fun c4=>?_) (fun c4=>?_)
   ·have hno:appNo M1 L.name L.per L1.es xs[k]≠0:=by simpa using c4
    have hM:(if refNo L1.es xs[k]=0 then M1.does (putT L.name L.per L1.es.length xs[k]) else M1)=M1:=by
     split
     ·next hh=>
      rw [appNo_ref,if_pos hh] at hno
      unfold Disk.does
      rw [if_neg hno]
     ·rfl
    rw [hM] at h3
    refine xq (xm (xm (xa (xz ?_))))
    refine x_ret ?_
    refine fin2 rfl ?_
    rw [happ,List.drop_eq_getElem_cons hk1,appAll,if_neg hno]
    haveI sRS:SubF (RS R b L1.A) (NotP R) w:=⟨fun j _ e e2=>e (.inl e2)⟩
    exact ⟨by simp [outV],⟨L1,h3,rfl,q1,q2,q3,q4⟩,lkc⟩
   have hno:appNo M1 L.name L.per L1.es xs[k]=0:=by simpa using c4
   have hr0:refNo L1.es xs[k]=0:=by
    rw [appNo_ref] at hno
    rcases Decidable.em (refNo L1.es xs[k]=0) with hh | hh
    ·exact hh
    ·rw [if_neg hh] at hno;exact hno
   have hRx:Right xs[k]:=Decidable.byContradiction fun hh=>by unfold refNo at hr0;rw [if_pos hh] at hr0;cases hr0
   have hlt4:L1.es.length<4096:=by
    rcases Nat.lt_or_ge L1.es.length 4096 with hh | hh
    ·exact hh
    ·unfold refNo at hr0;rw [if_neg (fun e=>e hRx),if_pos hh] at hr0;cases hr0
   rw [if_pos hr0] at h3
   obtain ⟨wX,hwX⟩:∃ x,x=w11:=⟨_,rfl⟩
   have hkX:Keep NoB wX w11:=by rw [hwX];exact Keep.refl _ _
   have h3X:LogW P R b L1 (M1.does (putT L.name L.per L1.es.length xs[k])) wX:=by rw [hwX];exact h3
   haveI i1:SubS (OwnB (.slice L1.A L1.es.length L1.c)) (AB L1.A):=⟨fun j e=>AB_own e⟩
   haveI i2:NotS (AB L1.A) b:=⟨h3.nb⟩
   haveI i2b:NotS (AB L1.A) b7:=⟨fun e=>by have:=h1.lt.2.2.2 _ e;have:=n7.eq;omega⟩
   haveI i3:SubF (OwnB (.slice L1.A L1.es.length L1.c)) (WL b L1.A) w11:=⟨fun j _ e=>.inr (AB_own e)⟩
   haveI i4:SubF (OneB b) (WL b L1.A) w11:=⟨fun j _ e=>.inl e⟩
   haveI i5:NotS (OwnB (.slice L1.A L1.es.length L1.c)) b:=⟨fun e=>h3.nb (AB_own e)⟩
   haveI i6:SubF (RS R b L1.A) (NotP R) w:=⟨fun j _ e e2=>e (.inl e2)⟩
   haveI i7:SubF (OwnB (.slice L1.A L1.es.length L1.c)) (NotP R) w:=⟨fun j _ e e2=>(h3.pb j (.inr e2)).2 (AB_own e)⟩
   haveI i8:SubF (OneB b) (NotP R) w:=⟨fun j _ e e2=>(h3.pb j (.inr e2)).1 e⟩
   refine x_skip ?_
   refine x_drawL (AB L1.A) (allS) (.take 0 (.take 1 (.take 2 (.take 3 (.take 4 (.take 5 (.eff 6 (.eff 7 (.take 8 (.take 9 (.free 10 .done))))))))))) mixed (by kernel_rfl) (fun _ _ _ _ _ h=>h) (fun w12 l12=>?_)
   refine xt_v rfl v_move (xt_v rfl v_move (xt_Nc rfl ?_))
   refine xt_Fb rfl ?_
   refine xt_Lc rfl ?_
   refine xt_Lb rfl ?_
   refine xt_e rfl (e_buildSliceM (vs:=enC xs[k]) rfl rfl (by simp) fun b61 w13 n61 l61 k61=>?_)
   have hszP:wX.heap.size<=(w13).heap.size:=by rw [hwX];exact Ge.le
   refine xt_e rfl (e_append' (own_ext h3.row (lkc:Lk w13 _ NoB)) (Nat.zero_le _) rfl Cell1L.eq (by decide) (.inl rfl) (by omega) (by omega) fun A4 c4 w14 ho4 l4 hn4=>?_)
   refine xt_Nc rfl ?_
   refine xt_Fb rfl ?_
   refine xt_fs rfl (e_store fun w15 l15 k15=>?_)
   refine xt_nil ?_
   obtain ⟨L2,hL2d⟩:∃ L2:LLog,L2=⟨L1.name,L1.per,L1.d,L1.es++[xs[k]],A4,c4,L1.sure⟩:=⟨_,rfl⟩
   have hL2:L2.es=L1.es++[xs[k]]:=by rw [hL2d]
   have hle2:(L1.es++[xs[k]]).length=L1.es.length+1:=by simp
   have hkW:Keep (WL b L1.A) wX w15:=by rw [hwX];exact kpc
   have ho5:=own_keep ho4 (kpc:Keep (OneB b) _ w15) (fun j hj e=>by
    have e':j=b:=e
    rcases hn4 with h5 | h5
    ·rw [h5] at hj;exact h3.nb (e' ▸ AB_own (Eq.symm hj))
    ·rw [h5] at hj;cases hj;have:=h3X.lt.2.2.1;omega)
   have h4:LogW P R b L2 (M1.does (putT L.name L.per L1.es.length xs[k])) w15:=by
    refine h3X.written hkW (fun _ _ e=>e) (by rw [hL2d]) (by rw [hL2d]) (by rw [hL2d]) ?_ ?_ ?_ ?_ ?_
    ·rw [hL2d]
     simp only [logC,hle2]
     exact Blk.eq
    ·rw [hL2d]
     simp only [hle2,List.flatMap_append,List.flatMap_cons,List.flatMap_nil,List.append_nil]
     exact ho5
    ·rw [hL2d]
     intro j hj
     have h6:=AB_to (L1.es.length+1) c4 hj
     rcases hn4 with h5 | h5
     ·exact .inl (AB_own (n:=L1.es.length) (c:=L1.c) (show some j=_ from (show some j=_ from h6).trans h5))
     ·have h7:some j=_:=h6
      rw [h5] at h7
      cases h7
      exact .inr hszP
    ·rw [hL2,hle2];omega
    ·rw [hL2]
     intro e he
     rcases List.mem_append.1 he with he | he
     ·exact h3.right e he
     ·simp only [List.mem_singleton] at he;rw [he];exact hRx
   have q1':L2.name=L.name:=by rw [hL2d];exact q1
   have q2':L2.per=L.per:=by rw [hL2d];exact q2
   have q3':L2.d=L.d:=by rw [hL2d];exact q3
   have q4':L2.sure=L.sure:=by rw [hL2d];exact q4
   refine x_regionL ?_
   refine xl_v (v_add (by omega)) ?_
   refine xm (xl_nil ?_)
   refine ⟨_,?_,rfl,k+1,L2,_,rfl,by omega,h4,q1',q2',q3',q4',by rw [hL2];simp;omega,?_,?_,ii,ii,ii,ii,evc,lkc⟩
   ·omega
   ·have:=doNo_few M1 (putT L.name L.per L1.es.length xs[k]);omega
   ·rw [happ,List.drop_eq_getElem_cons hk1,appAll,if_pos hno]
    simp only [hL2,Nat.add_assoc,Nat.add_comm 1 k]
  refine x_exit (xq (xm (xl_v v_len (xa (xz ?_)))))
  refine x_ret ?_
  refine fin2 rfl ?_
  have hkn:k=n:=by omega
  rw [happ,List.drop_of_length_le (by omega),appAll]
  exact ⟨by simp [outV,hkn],⟨L1,h1,rfl,q1,q2,q3,q4⟩,lkc⟩
theorem cloneE_ok (A:Option Addr) (n c:Nat) (cs:List Value) (w:World) [Row w A cs] (hl:cs.length=n*6) (hn:n<=100000000) (h1:∀ u∈cs,u.oneCell'=true) (hA:A.isSome=true\/n=0):Ret Tryz.prog 39 #[.slice A n c] w (fun v w'=>(∃ A' c',v=.slice A' n c'/\w'.ownsRow w.heap.size 51 6 v n cs)/\Lk w' w NoB):=by
 refine ret_of_x (N:=8) (l:=[.slice A n c]) Tryz.func39 rfl rfl (Nat.le_of_ble_eq_true rfl) ?_
 refine xq (xz ?_)
 refine x_seq (xq (xm ?_))
 refine xl_v v_eql_slice ?_
 refine xl_nil ?_
 refine x_condE (fun c1=>?_) (fun c1=>?_)
 ·have hn0:n=0:=hA.resolve_left (by cases A<;>simp_all)
  refine xq (xz ?_)
  refine x_ret ?_
  refine fin1 rfl ?_
  subst hn0
  obtain rfl:cs=[]:=List.eq_nil_of_length_eq_zero (by simpa using hl)
  exact ⟨⟨none,0,rfl,World.ownsRow_nil _ _ _ _⟩,lkc⟩
 refine x_skip (xq ?_)
 refine xl_e (e_buildSlice0 fun b0 w1 n0 l0 k0=>?_)
 refine xm ?_
 have ho0:World.ownsRow w1 w.heap.size 51 6 (.slice (some ⟨b0,0,none⟩) 0 0) 0 []:=ownsRow_blk (by rw [n0.eq];exact Nat.le_refl _) k0.eq (by simp) (by omega)
 haveI:=ownN_of ho0 (Nat.le_refl _)
 refine xl_e (e_append' ho0 Ge.le hl h1 (by decide) hA (by omega) (by omega) fun A2 c2 w2 ho2 l2 _=>?_)
 refine xz ?_
 refine x_ret ?_
 refine fin1 rfl ?_
 exact ⟨⟨A2,c2,by rw [Nat.zero_add],by simpa using ho2⟩,lkc⟩
theorem enC_one (l:List En):∀ u∈l.flatMap enC,u.oneCell'=true:=by
 intro u hu
 obtain ⟨x,_,hx⟩:=List.mem_flatMap.1 hu
 simp only [enC,List.mem_cons,List.not_mem_nil,or_false] at hx
 rcases hx with rfl | rfl | rfl | rfl | rfl | rfl<;>rfl
theorem LogW.rowB {P R:Nat->Prop} {b:Nat} {L:LLog} {M:Disk} {w:World} (h:LogW P R b L M w):RowB w L.A w (L.es.flatMap enC):=rowB_of (by obtain ⟨A',c',he,_,_,hr⟩:=ownsRow_form h.row;cases he;exact hr)
theorem LogW.nz {P R:Nat->Prop} {b:Nat} {L:LLog} {M:Disk} {w:World} (h:LogW P R b L M w):L.A.isSome=true\/L.es.length=0:=by
 rcases Nat.eq_zero_or_pos L.es.length with e | e
 ·exact .inr e
 ·exact .inl (row_some (w:=w) (cs:=L.es.flatMap enC) ⟨h.rowB.row⟩ (by rw [flat_len (sz:=6) (fun _=>rfl)];omega))
theorem lflush_ok (P R:Nat->Prop) (b:Nat) (L:LLog) (M:Disk) (w:World) (h:LogW P R b L M w):Ret Tryz.prog 13 #[ptrV b] w (fun v w'=>v=.int .i64 0/\LogW P R b { L with sure:=L.es.length } M.flush w'/\Lk w' w (NotP R)):=by
 haveI kb:Blk w b (.cells (logC L).toArray 69 (0,0)):=⟨h.at_⟩
 refine ret_of_x (N:=22) (l:=[ptrV b]) Tryz.func13 rfl rfl (Nat.le_of_ble_eq_true rfl) ?_
 refine xq (xz ?_)
 refine x_seq (xq (xm ?_))
 refine xl_call (lnone_ok b L w) ?_
 rintro _ _ ⟨rfl,rfl⟩
 refine xl_nil ?_
 refine x_condF ?_
 refine x_skip (xq (xm (xl_Nc ?_)))
 refine xl_Fb ?_
 refine xl_Lc ?_
 refine xl_call (flush_ok _ _ L.d M w h.disk) ?_
 rintro _ w2 ⟨rfl,hD,lk⟩
 have h3:=h.disked hD lk.keep
 haveI kb3:Blk w2 b (.cells (logC L).toArray 69 (0,0)):=⟨h3.at_⟩
 obtain ⟨wX,hwX⟩:∃ x,x=w2:=⟨_,rfl⟩
 have hkX:Keep NoB wX w2:=by rw [hwX];exact Keep.refl _ _
 have h3X:LogW P R b L M.flush wX:=by rw [hwX];exact h3
 haveI i6:SubF (RS R b L.A) (NotP R) w:=⟨fun j _ e e2=>e (.inl e2)⟩
 haveI i8:SubF (OneB b) (NotP R) w:=⟨fun j _ e e2=>(h3.pb j (.inr e2)).1 e⟩
 refine xz ?_
 refine x_seq (xq (xm (xl_v v_eql (xl_nil ?_))))
 refine x_if (fun c2=>?_) (fun c2=>?_)
 ·refine x_regionL (xm (xm (xl_Nc ?_)))
  refine xl_Fb ?_
  refine xl_Lc ?_
  refine xl_v v_len (xl_Nc ?_)
  refine xl_Fb ?_
  refine xl_s (e_store fun w3 l3 k3=>?_)
  refine xl_nil ?_
  refine xq (xm (xz ?_))
  refine x_ret ?_
  refine fin1 rfl ?_
  refine ⟨rfl,?_,lkc⟩
  have hkW:Keep (OneB b) wX w3:=by rw [hwX];exact kpc
  exact h3X.written hkW (fun _ _ e=>.inl e) rfl rfl rfl Blk.eq (own_keep h3X.row hkW (fun k hk e=>h3.nb (by have e':k=b:=e;rw [<- e'];exact AB_own hk.symm))) (fun k e=>.inl e) h.len h.right
 simp at c2
theorem llen_ok (b:Nat) (L:LLog) (w:World) [Blk w b (.cells (logC L).toArray 69 (0,0))]:Ret Tryz.prog 17 #[ptrV b] w (fun v w'=>v=.int .i64 (L.es.length:Int)/\w=w'):=by
 refine ret_of_x (N:=10) (l:=[ptrV b]) Tryz.func17 rfl rfl (Nat.le_of_ble_eq_true rfl) ?_
 refine xq (xz ?_)
 refine x_seq (xq (xm ?_))
 refine xl_call (lnone_ok b L w) ?_
 rintro _ _ ⟨rfl,rfl⟩
 refine xl_nil ?_
 refine x_condF ?_
 refine x_skip (xq (xm (xl_Nc ?_)))
 refine xl_Fb ?_
 refine xl_Lc ?_
 refine xl_v v_len (xz ?_)
 refine x_ret ?_
 refine fin1 rfl ?_
 exact ⟨rfl,rfl⟩
theorem lsure_ok (b:Nat) (L:LLog) (w:World) [Blk w b (.cells (logC L).toArray 69 (0,0))]:Ret Tryz.prog 15 #[ptrV b] w (fun v w'=>v=.int .i64 (L.sure:Int)/\w=w'):=by
 refine ret_of_x (N:=9) (l:=[ptrV b]) Tryz.func15 rfl rfl (Nat.le_of_ble_eq_true rfl) ?_
 refine xq (xz ?_)
 refine x_seq (xq (xm ?_))
 refine xl_call (lnone_ok b L w) ?_
 rintro _ _ ⟨rfl,rfl⟩
 refine xl_nil ?_
 refine x_condF ?_
 refine x_skip (xq (xm (xl_Nc ?_)))
 refine xl_Fb ?_
 refine xl_Lc ?_
 refine xz ?_
 refine x_ret ?_
 refine fin1 rfl ?_
 exact ⟨rfl,rfl⟩
theorem ldisk_ok (b:Nat) (L:LLog) (w:World) [Blk w b (.cells (logC L).toArray 69 (0,0))]:Ret Tryz.prog 21 #[ptrV b] w (fun v w'=>v=ptrV L.d/\w=w'):=by
 refine ret_of_x (N:=9) (l:=[ptrV b]) Tryz.func21 rfl rfl (Nat.le_of_ble_eq_true rfl) ?_
 refine xq (xz ?_)
 refine x_seq (xq (xm ?_))
 refine xl_call (lnone_ok b L w) ?_
 rintro _ _ ⟨rfl,rfl⟩
 refine xl_nil ?_
 refine x_condF ?_
 refine x_skip (xq (xm (xl_Nc ?_)))
 refine xl_Fb ?_
 refine xl_Lc ?_
 refine xz ?_
 refine x_ret ?_
 refine fin1 rfl ?_
 exact ⟨rfl,rfl⟩
theorem lall_ok (P R:Nat->Prop) (b:Nat) (L:LLog) (M:Disk) (w:World) (h:LogW P R b L M w):Ret Tryz.prog 14 #[ptrV b] w (fun v w'=>(∃ A' c',v=.slice A' L.es.length c'/\w'.ownsRow w.heap.size 51 6 (.slice A' L.es.length c') L.es.length (L.es.flatMap enC))/\Lk w' w NoB):=by
 haveI kb:Blk w b (.cells (logC L).toArray 69 (0,0)):=⟨h.at_⟩
 haveI hrL:=h.rowB
 have hlen:=h.len
 refine ret_of_x (N:=10) (l:=[ptrV b]) Tryz.func14 rfl rfl (Nat.le_of_ble_eq_true rfl) ?_
 refine xq (xz ?_)
 refine x_seq (xq (xm ?_))
 refine xl_call (lnone_ok b L w) ?_
 rintro _ _ ⟨rfl,rfl⟩
 refine xl_nil ?_
 refine x_condF ?_
 refine x_skip (xq (xm (xl_Nc ?_)))
 refine xl_Fb ?_
 refine xl_Lc ?_
 refine xl_call (cloneE_ok L.A L.es.length L.c (L.es.flatMap enC) w (flat_len (sz:=6) (fun _=>rfl) _) (by omega) (enC_one _) h.nz) ?_
 rintro _ w2 ⟨⟨A',c',rfl,ho⟩,lk⟩
 refine xz ?_
 refine x_ret ?_
 refine fin1 rfl ?_
 exact ⟨⟨A',c',rfl,ho⟩,lkc⟩
def revL (ks:List ByteArray) (i:Nat):List ByteArray:=(List.range ks.length).map (fun p=>if p<i\/ks.length - i<=p then ks.getD (ks.length - 1 - p) ⟨#[]⟩ else ks.getD p ⟨#[]⟩)
theorem revL_len (ks:List ByteArray) (i:Nat):(revL ks i).length=ks.length:=by simp [revL]
theorem revL_get {ks:List ByteArray} {i p:Nat} (h:p<ks.length):(revL ks i)[p]?=some (if p<i\/ks.length - i<=p then ks[ks.length - 1 - p]'(by omega) else ks[p]):=by
 have h2:ks.length - 1 - p<ks.length:=by omega
 simp only [revL,List.getElem?_map,List.getElem?_range h,Option.map_some,List.getD_eq_getElem?_getD,List.getElem?_eq_getElem h,List.getElem?_eq_getElem h2,Option.getD_some]
theorem revL_zero (ks:List ByteArray):revL ks 0=ks:=by
 apply List.ext_getElem?
 intro p
 rcases Nat.lt_or_ge p ks.length with h | h
 ·rw [revL_get h,if_neg (by omega),List.getElem?_eq_getElem h]
 ·rw [List.getElem?_eq_none (by rw [revL_len];exact h),List.getElem?_eq_none h]
theorem revL_step {ks:List ByteArray} {i:Nat} (h:2*i+1<ks.length):((revL ks i).set i (ks[ks.length - 1 - i]'(by omega))).set (ks.length - 1 - i) (ks[i]'(by omega))=revL ks (i+1):=by
 apply List.ext_getElem?
 intro p
 rcases Nat.lt_or_ge p ks.length with hp | hp
 ·rw [revL_get hp,List.getElem?_set,List.getElem?_set]
  by_cases e1:ks.length - 1 - i=p
  ·subst e1
   rw [if_pos rfl,if_pos (by rw [List.length_set,revL_len];omega),if_pos (by omega)]
   congr 2
   omega
  ·rw [if_neg e1]
   by_cases e2:i=p
   ·subst e2
    rw [if_pos rfl,if_pos (by rw [revL_len];omega),if_pos (by omega)]
   ·rw [if_neg e2,revL_get hp]
    by_cases e3:p<i\/ks.length - i<=p
    ·rw [if_pos e3,if_pos (by omega)]
    ·rw [if_neg e3,if_neg (by omega)]
 ·rw [List.getElem?_eq_none (by rw [List.length_set,List.length_set,revL_len];exact hp),List.getElem?_eq_none (by rw [revL_len];exact hp)]
theorem revL_end {ks:List ByteArray} {i:Nat} (h:ks.length<=2*i+1):revL ks i=ks.reverse:=by
 apply List.ext_getElem?
 intro p
 rcases Nat.lt_or_ge p ks.length with hp | hp
 ·rw [revL_get hp,List.getElem?_reverse hp,List.getElem?_eq_getElem (by omega)]
  split
  ·rfl
  ·next hh=>
   congr 2
   omega
 ·rw [List.getElem?_eq_none (by rw [revL_len];exact hp),List.getElem?_eq_none (by simpa using hp)]
theorem strs_flat (l:List ByteArray):l.flatMap (fun f=>[Value.string f])=strs l:=by
 induction l with
 | nil=>rfl
 | cons f l ih=>rw [List.flatMap_cons,ih];rfl
theorem setS (ks:List ByteArray) {k:Nat} (x:ByteArray) (h:k<ks.length):setL (strs ks) (k*1) [.string x]=strs (ks.set k x):=setL_map Value.string ks k x h
theorem reverse_ok (A:Option Addr) (n c base:Nat) (ks:List ByteArray) (w:World) (hown:w.ownsRow base 9 1 (.slice A n c) n (strs ks)) (hl:ks.length=n) (hn:n<=1000000):Ret Tryz.prog 44 #[.slice A n c] w (fun v w'=>v=.tuple #[]/\w'.ownsRow base 9 1 (.slice A n c) n (strs ks.reverse)/\Lk w' w (OwnB (.slice A n c))):=by
 refine ret_of_x (N:=28) (l:=[.slice A n c]) Tryz.func44 rfl rfl (Nat.le_of_ble_eq_true rfl) ?_
 refine xq (xm (xl_v v_len ?_))
 refine xl_v (v_sub (by omega)) ?_
 refine xa (xz ?_)
 refine x_block ?_
 refine x_loop (fun t τ ds w'=>ds=[]/\∃ i:Nat,t=n - i/\2*i<=n+1/\w'.ownsRow base 9 1 (.slice A n c) n (strs (revL ks i))/\Ev τ 0 (.slice A n c)/\Ev τ 2 (.int .i64 (i:Int))/\Ev τ 3 (.int .i64 ((n:Int) - 1 - (i:Int)))/\Lk w' w (OwnB (.slice A n c))) (n) ?start ?round
 case start=>
  exact ⟨rfl,0,rfl,by omega,by rw [revL_zero];exact hown,ii,ii,evc (congrArg (Value.int .i64) (by omega)),⟨(kpc:Keep NoB w w).mono (fun _ _ h=>h.elim)⟩⟩
 case round=>
  intro m τ1 ds1 w1 hI
  obtain ⟨rfl,i,rfl,hi,ho,e0,e2,e3,lk⟩:=hI
  refine x_seq (xq (xm (xm (xl_v v_lss (xl_nil ?_)))))
  refine x_if (fun c1=>?_) (fun c1=>?_)
  ·have hi1:2*i+1<ks.length:=by omega
   have hj:ks.length - 1 - i<ks.length:=by omega
   have hjn:n - 1 - i=ks.length - 1 - i:=by omega
   haveI oI:OwnI w1 A n c base _ 1 n (strs (revL ks i)):=⟨ho⟩
   have hA:A.isSome=true:=row_some (w:=w1) (A:=A) (cs:=strs (revL ks i)) ii (by simp [strs,revL_len];omega)
   refine x_skip (x_seq (x_block ?_))
   have hx1:(revL ks i)[ks.length - 1 - i]?=some ks[ks.length - 1 - i]:=by rw [revL_get hj,if_neg (by omega)]
   have hx2:(revL ks i)[i]?=some ks[i]:=by rw [revL_get (by omega),if_neg (by omega)]
   have hy1:(revL ks i)[ks.length - 1 - i]'(by rw [revL_len];exact hj)=ks[ks.length - 1 - i]:=by
    rw [List.getElem?_eq_getElem (by rw [revL_len];exact hj)] at hx1
    exact Option.some.inj hx1
   have hy2:(revL ks i)[i]'(by rw [revL_len];omega)=ks[i]:=by
    rw [List.getElem?_eq_getElem (by rw [revL_len];omega)] at hx2
    exact Option.some.inj hx2
   refine x_drawL (NoB) (allS) (.take 0 (.take 1 (.takeA 2 (.takeA 3 (.take 4 (.take 5 (.take 6 (.take 7 (.take 8 (.take 9 (.take 10 (.take 11 (.take 12 (.free 13 (.take 14 (.last 15)))))))))))))))) mixed (by kernel_rfl) (fun _ _ _ _ _ h=>h) (fun w2 l2=>?_)
   refine xt_v rfl v_move (xt_v rfl v_move ?_)
   refine xt_av rfl v_move ?_
   refine xt_av rfl v_move ?_
   refine xt_v rfl v_move (xt_v rfl v_move ?_)
   refine xt_v rfl (v_indexAddr (ks.length - 1 - i) (by omega) (by omega) hA) ?_
   refine xt_v rfl (v_congr (u:=.string ks[ks.length - 1 - i]) (v_loadO (k:=ks.length - 1 - i) (by rw [revL_len];exact hj)) (congrArg Value.string hy1)) ?_
   refine xt_v rfl v_move (xt_v rfl v_move ?_)
   refine xt_v rfl (v_indexAddr i (by omega) (by omega) hA) ?_
   refine xt_v rfl (v_congr (u:=.string ks[i]) (v_loadO (k:=i) (by rw [revL_len];omega)) (congrArg Value.string hy2)) ?_
   refine xt_v rfl (v_indexAddr i (by omega) (by omega) hA) ?_
   refine xt_fs rfl (e_storeOwn (vs:=[.string ks[ks.length - 1 - i]]) (own_ext ho (lkc:Lk w2 _ NoB)) (by omega) (by decide) fun w3 l13 ho13=>?_)
   refine xt_v rfl (v_indexAddr (ks.length - 1 - i) (by omega) (by omega) hA) ?_
   refine xt_lastS rfl (e_storeOwn (vs:=[.string ks[i]]) ho13 (by omega) (by decide) fun w4 l15 ho15=>?_)
   have ho5:World.ownsRow w4 base 9 1 (.slice A n c) n (strs (revL ks (i+1))):=by
    rw [setS _ _ (by rw [revL_len];omega),setS _ _ (by rw [List.length_set,revL_len];omega),revL_step hi1] at ho15
    exact ho15
   refine x_regionL (xm ?_)
   refine xl_v (v_add (by omega)) ?_
   refine xm ?_
   refine xl_v (v_sub (by omega)) ?_
   refine xa (xz ?_)
   refine ⟨_,?_,rfl,i+1,rfl,by omega,ho5,ii,evc,evc (congrArg (Value.int .i64) (by omega)),lkc⟩
   omega
  refine x_exit ?_
  refine fin0 rfl ?_
  rw [revL_end (by omega)] at ho
  exact ⟨rfl,ho,lkc⟩
set_option maxHeartbeats 1000000 in
theorem lfiles_ok (P R:Nat->Prop) (b:Nat) (L:LLog) (M:Disk) (w:World) (h:LogW P R b L M w):Ret Tryz.prog 22 #[ptrV b] w (fun v w'=>(∃ A' c',v=.slice A' (ownFiles M.files L.name).length c'/\w'.ownsRow w.heap.size 9 1 (.slice A' (ownFiles M.files L.name).length c') (ownFiles M.files L.name).length (strs (ownFiles M.files L.name)))/\Lk w' w NoB):=by
 haveI kb:Blk w b (.cells (logC L).toArray 69 (0,0)):=⟨h.at_⟩
 have hns:L.name.size<=8:=by have:=h.name;simp only [logName,Bool.and_eq_true,decide_eq_true_eq] at this;exact this.1.2
 have hblt:=h.lt.2.2.1
 have hfl:(ownFiles M.files L.name).length<=1000000:=by
  have h1:(ownFiles M.files L.name).length<=M.files.length:=by unfold ownFiles;exact Nat.le_trans (List.length_filter_le _ _) (by simp)
  exact Nat.le_trans h1 (Nat.le_trans (fold_len _ _) h.disk.ok.2)
 refine ret_of_x (N:=19) (l:=[ptrV b]) Tryz.func22 rfl rfl (Nat.le_of_ble_eq_true rfl) ?_
 refine xq (xz ?_)
 refine x_seq (xq (xm ?_))
 refine xl_call (lnone_ok b L w) ?_
 rintro _ _ ⟨rfl,rfl⟩
 refine xl_nil ?_
 refine x_condF ?_
 refine x_skip (xq ?_)
 refine xl_e (e_alloc fun b3 w2 n3 l3 k3=>?_)
 refine xl_nil ?_
 refine x_seq (xq (xm ?_))
 refine xl_call (falling_ok b w2) ?_
 rintro _ w3 ⟨⟨bl,rfl,hbl,hgl⟩,lk4⟩
 haveI kbl:Blk w3 bl (.cells #[ptrV b] 32 (0,0)):=⟨hbl⟩
 refine xl_nil ?_
 refine x_block ?_
 have hb3w:w.heap.size<=b3:=Nat.le_of_eq n3.eq.symm
 have hb3l:b3<(w3).heap.size:=Has.lt
 have hlt3:b3<bl:=by have h1:=(Array.getElem?_eq_some_iff.1 k3.eq).1;omega
 have hDw:=h.disk.ext (kpc:Keep NoB w w3)
 obtain ⟨wS,hwS⟩:∃ x,x=w3:=⟨_,rfl⟩
 have hkwS:Keep NoB w wS:=by rw [hwS];exact kpc
 have hi0:AppE (tellO L.name) (fun f=>[Value.string f]) 1 b3 55 9 wS [] (OneB b3) w3:=by rw [hwS];exact appE_start Blk.eq
 refine x_rangeX (ps:=[10,11]) (fun k=>k=bl\/k=b) (AlG (tlO M.files L.name)) (FinG (tlO M.files L.name)) (NoE) (noE_elem) b3 (fun _=>True) (fun _ _=>False) hb3l (fun _ _ h=>h.elim) (fun W lW=>fun y I J F w0 hy1 hy _ _ _ hw0 h0 hF=>CallV.of_ret (fall1_ok y bl b L _ _ M I J F W (hDw.ext (kpc:Keep NoB w3 W)) (by omega) hy1 w0 (yieldsI_of hy) hw0 h0 hF)) (by rintro k (rfl | rfl);exact Has.lt;exact Has.lt) (fun pre v h=>(by obtain ⟨h1,h2,_⟩:=alG_last h;rw [h2];simp [tlO,tellO])) (AppE (tellO L.name) (fun f=>[Value.string f]) 1 b3 55 9 wS) (fun _ _ _ _=>False) (OneB b3) (hwS ▸ appE_stable) (fun _=>⟨fun _ _ _ h=>h.elim,fun _ _ _ _ _ h=>h.elim⟩) (fun _ _ _ _=>trivial) (fun _ _ _ _ _ h=>h.elim) rfl (hi0) (fun k hk e=>by have e':k=b3:=hk;subst e';rcases e with e | e;omega;omega) (fun v τ n' W=>Ev τ 3 (ptrV b3)/\∃ a x,v=[a,x]/\Ev τ 5 x) (by rintro v τ n W1 W2 S h1 hk hs;exact h1) ?assign ?body ?normal ?jump
 case assign=>
  intro l4 pre v4 w4 hal hv4
  obtain ⟨a,x,rfl⟩:∃ a x,v4=[a,x]:=two_of hv4
  simp only [updL]
  refine x_regionL (xz ?_)
  exact ⟨lkc,ii,_,_,rfl,ii⟩
 case body=>
  intro l pre v F Fv nb w5 τ5 ds5 hal hI hE hdis hnew hlt hnb hnbw hB
  obtain ⟨l2,V,hpre,hb3,hown,hFe,hkw⟩:=hI
  obtain ⟨hpl,hv,_⟩:=alG_last hal
  obtain ⟨e3,va,vx,hve,e5⟩:=hB
  have hql:pre.length<(ownFiles M.files L.name).length:=by simpa [tlO] using hpl
  obtain ⟨f,hf⟩:∃ f,v=tellO L.name f:=⟨_,by rw [hv];simp only [tlO,List.getElem_map];rfl⟩
  rw [hf] at hve
  simp only [tellO,List.cons.injEq,and_true] at hve
  rw [<- hve.2] at e5
  have hll:l2.length=pre.length:=by rw [hpre];simp
  haveI kb3:Blk w5 b3 (.cells [V].toArray 55 (0,0)):=⟨hb3⟩
  obtain ⟨AV,cV,rfl,_⟩:=ownsRow_form hown
  have hszS:wS.heap.size<=(w5).heap.size:=hkw.size
  haveI nbc:NotS (OwnB (.slice AV l2.length cV)) b3:=⟨fun e=>by have h1:=(hown.lt _ (Eq.symm e)).1;rw [hwS] at h1;omega⟩
  refine x_block (x_regionL (xl_Lc ?_))
  refine xm ?_
  refine xl_e (e_buildSlice1 rfl fun b13 w6 n13 l13 k13=>?_)
  refine xl_e (e_append' (own_ext hown lkc) (Nat.le_trans hszS Ge.le) rfl Cell1L.eq (by decide) (.inl rfl) (by omega) (by omega) fun A4 c4' w7 ho4 l4 hn4=>?_)
  refine xl_s (e_store fun w8 l8 k8=>?_)
  refine xl_nil ?_
  haveI s1:SubF (OwnB (.slice AV l2.length cV)) F w5:=⟨fun j _ e=>(hFe j).2 (.inr (Eq.symm e))⟩
  haveI s2:SubF (OneB b3) F w5:=⟨fun j _ e=>(hFe j).2 (.inl e)⟩
  have hown5:=own_keep ho4 (kpc:Keep (OneB b3) _ w8) (fun j hj e=>by have e':j=b3:=e;have h1:=(ho4.lt j hj).1;rw [hwS] at h1;omega)
  obtain ⟨F',h1,h2,h3⟩:=appE_step (told:=tellO L.name) (enc:=fun f=>[Value.string f]) (x:=f) (by rw [hwS];exact hb3l) hown hFe hkw (kpc:Keep F w5 w8) Blk.eq hown5 (hn4.imp id (fun h=>⟨_,h,Ge.le⟩))
  refine ⟨F',by rw [hpre,hf];exact h1,h2.mono (fun k _ e=>.inl e),fun k e=>(h3 k e).imp .inl id⟩
 case normal=>
  intro D9 pre F w9 hfin hI hkF hsF hD9 hge9 hnF9
  obtain ⟨l2,V,hpre,hb3,hown,hFe,hkw⟩:=hI
  have hl2:l2=(ownFiles M.files L.name).reverse:=by
   have h1:pre=tlO M.files L.name:=hfin
   rw [h1,tlO] at hpre
   have hinj:∀ (x y:List ByteArray),x.map (tellO L.name)=y.map (tellO L.name)->x=y:=by
    intro x y hxy
    have h2:=congrArg (List.map (fun (v:List Value)=>v.getLast?)) hxy
    simp only [List.map_map] at h2
    have h3:∀ (z:List ByteArray),List.map ((fun (v:List Value)=>v.getLast?) ∘ tellO L.name) z=z.map (fun f=>some (Value.string f)):=fun z=>by simp [tellO,Function.comp_def]
    rw [h3,h3] at h2
    exact List.map_inj_right (fun a b e=>by simpa using e) |>.1 h2
   exact (hinj _ _ hpre).symm
  haveI kb3:Blk w9 b3 (.cells [V].toArray 55 (0,0)):=⟨hb3⟩
  haveI lkF:Lk w9 _ (OneB b3):=⟨hkF⟩
  obtain ⟨AV,cV,rfl,_⟩:=ownsRow_form hown
  have hDw2:w.heap.size<=D9:=Nat.le_trans hkwS.size (by rw [hwS];exact hge9)
  have hllen:l2.length=(ownFiles M.files L.name).length:=by rw [hl2];simp
  haveI nD:NotS (fun k=>k∈[D9]) b3:=⟨fun e=>by simp at e;have:=hge9;omega⟩
  haveI:NeB D9 b3:=⟨fun e=>by have:=hge9;omega⟩
  haveI sD:SubF (fun k=>k∈[D9]) NoB w:=⟨fun k hk e=>by simp at e;omega⟩
  have hstr:l2.flatMap (fun f=>[Value.string f])=strs l2:=strs_flat l2
  rw [hstr] at hown
  haveI nbc:NotS (OwnB (.slice AV l2.length cV)) b3:=⟨fun e=>by have h1:=(hown.lt _ (Eq.symm e)).1;rw [hwS] at h1;omega⟩
  haveI nOD:NotS (OwnB (.slice AV l2.length cV)) D9:=⟨fun e=>hnF9 ((hFe _).2 (.inr (Eq.symm e)))⟩
  haveI sO:SubF (OwnB (.slice AV l2.length cV)) NoB w:=⟨fun k hk e=>by have h1:=(hown.lt _ (Eq.symm e)).1;have:=hkwS.size;omega⟩
  refine xq (xl_Lc ?_)
  refine xl_call (reverse_ok AV l2.length cV wS.heap.size l2 w9 (own_ext hown lkc) rfl (by omega)) ?_
  rintro _ w10 ⟨rfl,ho7,lk7⟩
  refine xl_nil ?_
  refine xq (xl_Lc ?_)
  refine xz ?_
  refine x_ret ?_
  refine finM (rs:=[.tmp 2]) rfl [D9] rfl (by simpa using (Blk.eq:(w10).heap[D9]?=_)) (by simp) (fun w11 lm11=>⟨_,ii,?_⟩)
  refine ⟨⟨AV,cV,by rw [<- hllen];rfl,?_⟩,lkc⟩
  have ho8:=own_mono (own_keep ho7 lm11.keep (fun j hj e=>by
   have e':j=D9:=by simpa using e
   exact hnF9 ((hFe _).2 (.inr (e' ▸ hj))))) hkwS.size
  rw [<- hllen]
  rw [hl2,List.reverse_reverse,<- hl2] at ho8
  exact ho8
 case jump=>
  exact fun _ _ _ _ _ h=>h.elim
end Go.Proofs.YtigmfcgeljjgnaaGreat
