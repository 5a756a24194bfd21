/- A part of the walks through the log and its document, and of the law in plain Lean: GW. -/
import Derived.Test.YtigmfcgeljjgnaaGreatJ15
set_option linter.all false
set_option maxRecDepth 100000
set_option synthInstance.maxSize 100000
set_option synthInstance.maxHeartbeats 400000
namespace Go.Proofs.YtigmfcgeljjgnaaGreat
open Go.Wst
open Go.Wst.Dm Go.Wst.Sg
def NF (F:Nat->Prop) (W:World):Nat->Prop:=fun k=>k<W.heap.size/\¬ F k
def RmI (Ps Rs:Nat->Prop) (d:Nat) (M:Disk) (fl:List ByteArray) (name:ByteArray) (p:ByteArray->Bool) (wS:World):Seen->(Nat->Prop)->World->Prop:=fun pre F W=>
 ∃ j,pre=(fl.take j).map (tellO name)/\j<=fl.length/\DiskW (NF F W) (fun k=>Rs k\/NF F W k) d (doAll M (((fl.take j).filter p).map rmT)) W/\(∀ k,F k->k<W.heap.size)/\Keep (NotP Rs) wS W/\(∀ k,Ps k->k<wS.heap.size/\¬ F k)/\(∀ k,Rs k->k<wS.heap.size)
theorem rmI_stable {Ps Rs:Nat->Prop} {d:Nat} {M:Disk} {fl:List ByteArray} {name:ByteArray} {p:ByteArray->Bool} {wS:World}:Stable (RmI Ps Rs d M fl name p wS) wS:=by
 refine ⟨?_,?_⟩
 ·rintro pre F W ⟨j,_,_,_,h,_⟩ k hk
  exact h k hk
 ·rintro pre F W W' S ⟨j,h1,h2,h3,h4,h5,h6,h7⟩ hk hs hn
  refine ⟨j,h1,h2,h3.keep hk (fun k hlt e=>⟨hlt,fun e2=>hs k e2 e⟩) (fun k e=>⟨e.1,?_⟩) (fun k e=>?_),fun k e=>Nat.lt_of_lt_of_le (h4 k e) hk.size,h5.then hk (fun k hlt e=>by have:=hn k e;omega),h6,h7⟩
  ·rcases Nat.lt_or_ge k W.heap.size with hh | hh
   ·exact .inl ⟨hh,e.2⟩
   ·exact .inr hh
  ·rcases e with e | e
   ·exact ⟨Nat.lt_of_lt_of_le (h3.lt.2 k (.inl e)) hk.size,.inl (.inl e)⟩
   ·refine ⟨e.1,?_⟩
    rcases Nat.lt_or_ge k W.heap.size with hh | hh
    ·exact .inl (.inr ⟨hh,e.2⟩)
    ·exact .inr hh
theorem rmI_start {Ps Rs:Nat->Prop} {d:Nat} {M:Disk} {fl:List ByteArray} {name:ByteArray} {p:ByteArray->Bool} {w wS:World} (h:DiskW Ps Rs d M w) (hk:Keep NoB w wS):∃ F0,RmI Ps Rs d M fl name p wS [] F0 wS/\(∀ k,F0 k->k<w.heap.size/\¬ Ps k)/\F0 d:=by
 obtain ⟨mb,ml,G,D,h1,h2,h3,h4⟩:=h
 refine ⟨DiskF d mb ml D.A G,⟨0,rfl,Nat.zero_le _,⟨mb,ml,G,D,h1.keep hk (fun _ _ h=>h),h2,fun k e=>⟨e.1,e.2⟩,fun k e=>?_⟩,fun k e=>Nat.lt_of_lt_of_le (h1.lt k e) hk.size,Keep.refl _ _,fun k e=>⟨Nat.lt_of_lt_of_le (h3 k e).1 hk.size,(h3 k e).2⟩,fun k e=>Nat.lt_of_lt_of_le (h4 k e).1 hk.size⟩,fun k e=>⟨h1.lt k e,fun e2=>(h3 k e2).2 e⟩,.inl (.inl rfl)⟩
 rcases e with e | e
 ·exact ⟨Nat.lt_of_lt_of_le (h4 k e).1 hk.size,(h4 k e).2⟩
 ·exact ⟨e.1,fun e2=>e.2 (.inl e2)⟩
theorem rmI_skip {Ps Rs:Nat->Prop} {d:Nat} {M:Disk} {fl:List ByteArray} {name:ByteArray} {p:ByteArray->Bool} {wS W:World} {F:Nat->Prop} {j:Nat} (hj:j<fl.length) (h:RmI Ps Rs d M fl name p wS ((fl.take j).map (tellO name)) F W) (hp:p fl[j]=false):RmI Ps Rs d M fl name p wS ((fl.take j).map (tellO name)++[tellO name fl[j]]) F W:=by
 obtain ⟨i,h1,h2,h3,h4⟩:=h
 have hij:i=j:=by
  have:=congrArg List.length h1
  simp at this;omega
 subst hij
 refine ⟨i+1,by rw [take_snoc fl i hj,List.map_append,List.map_cons,List.map_nil],hj,?_,h4⟩
 rw [take_snoc fl i hj,List.filter_append]
 simpa [hp] using h3
theorem rmI_step {Ps Rs:Nat->Prop} {d:Nat} {M:Disk} {fl:List ByteArray} {name:ByteArray} {p:ByteArray->Bool} {wS W W':World} {F:Nat->Prop} {j:Nat} (hj:j<fl.length) (h:RmI Ps Rs d M fl name p wS ((fl.take j).map (tellO name)) F W) (hp:p fl[j]=true)
    (h2:DiskW (NF F W) (fun k=>Rs k\/NF F W k) d ((doAll M (((fl.take j).filter p).map rmT)).does (rmT fl[j])) W') (hk:Keep (NotP (fun k=>Rs k\/NF F W k)) W W'):∃ F',RmI Ps Rs d M fl name p wS ((fl.take j).map (tellO name)++[tellO name fl[j]]) F' W'/\Keep F W W'/\Sub F' F W:=by
 obtain ⟨i,h1,q2,h3,h4,h5,h6,h7⟩:=h
 have hij:i=j:=by
  have:=congrArg List.length h1
  simp at this;omega
 subst hij
 have hkF:Keep F W W':=hk.mono (fun k hlt e=>Classical.byContradiction fun hn=>e (.inr ⟨hlt,hn⟩))
 refine ⟨fun k=>F k\/(W.heap.size<=k/\k<W'.heap.size),⟨i+1,by rw [take_snoc fl i hj,List.map_append,List.map_cons,List.map_nil],hj,?_,?_,?_,?_,h7⟩,hkF,fun k e=>e.imp id (fun e=>e.1)⟩
 ·rw [take_snoc fl i hj,List.filter_append,List.map_append]
  have e1:doAll M (((fl.take i).filter p).map rmT++(List.filter p [fl[i]]).map rmT)=(doAll M (((fl.take i).filter p).map rmT)).does (rmT fl[i]):=by
   simp [doAll,hp]
  rw [e1]
  have hnf:∀ k,NF (fun k=>F k\/(W.heap.size<=k/\k<W'.heap.size)) W' k->NF F W k:=fun k e=>by
   rcases Nat.lt_or_ge k W.heap.size with hh | hh
   ·exact ⟨hh,fun e2=>e.2 (.inl e2)⟩
   ·exact absurd (.inr ⟨hh,e.1⟩) e.2
  exact h2.narrow hnf (fun k e=>e.imp id (hnf k))
 ·rintro k (e | e)
  ·exact Nat.lt_of_lt_of_le (h4 k e) hk.size
  ·exact e.2
 ·exact h5.trans (hk.mono (fun k _ e e2=>e (.inl e2)))
 ·intro k e
  obtain ⟨e1,e2⟩:=h6 k e
  refine ⟨e1,fun e3=>e3.elim e2 (fun e3=>by have:=h5.size;omega)⟩
theorem rmI_end2 {Ps Rs E:Nat->Prop} {d:Nat} {M:Disk} {fl:List ByteArray} {name:ByteArray} {p:ByteArray->Bool} {wS W:World} {F:Nat->Prop} (h:RmI Ps Rs d M fl name p wS (fl.map (tellO name)) F W) (hE:∀ k,E k->k<W.heap.size/\¬ F k):DiskW (fun k=>Ps k\/E k) (fun k=>Rs k\/E k) d (doAll M ((fl.filter p).map rmT)) W/\Keep (NotP Rs) wS W:=by
 obtain ⟨i,h1,q2,h3,h4,h5,h6,h7⟩:=h
 have hi:i=fl.length:=by
  have:=congrArg List.length h1
  simp at this;omega
 subst hi
 rw [List.take_of_length_le (Nat.le_refl _)] at h3
 exact ⟨h3.narrow (fun k e=>e.elim (fun e=>⟨Nat.lt_of_lt_of_le (h6 k e).1 h5.size,(h6 k e).2⟩) (fun e=>hE k e)) (fun k e=>e.imp id (fun e=>hE k e)),h5⟩
theorem LogW.removed {P R E:Nat->Prop} {b:Nat} {L:LLog} {M M1:Disk} {w wS W:World} (h:LogW P R b L M w) (hk:Keep NoB w wS) (h2:DiskW (fun k=>wide (fun k=>P k\/k=b\/AB L.A k) w wS k\/E k) (fun k=>wide (fun k=>R k\/k=b\/AB L.A k) w wS k\/E k) L.d M1 W) (hkE:Keep (NotP (wide (fun k=>R k\/k=b\/AB L.A k) w wS)) wS W) (hE:∀ k,E k->wS.heap.size<=k):LogW (fun k=>P k\/E k) (fun k=>R k\/E k) b L M1 W:=by
 have h0:=h.ext hk
 refine ⟨h2.narrow (fun k e=>?_) (fun k e=>?_),(hkE.block b h0.lt.2.2.1 (fun e=>e (.inl (.inr (.inl rfl))))).trans h0.at_,own_keep h0.row hkE (fun k hk2 e=>e (.inl (.inr (.inr (AB_own hk2.symm))))),h.nb,?_,h.name,h.per1,h.per2,h.len,h.right⟩
 ·rcases e with (e | e) | e | e
  ·exact .inl (.inl (.inl e))
  ·exact .inr e
  ·exact .inl (.inl (.inr (.inl e)))
  ·exact .inl (.inl (.inr (.inr e)))
 ·rcases e with (e | e) | e | e
  ·exact .inl (.inl (.inl e))
  ·exact .inr e
  ·exact .inl (.inl (.inr (.inl e)))
  ·exact .inl (.inl (.inr (.inr e)))
 ·intro k e
  have h5:=h0.lt
  have hEk:E k->k≠b/\¬ AB L.A k:=fun e=>⟨fun e2=>by have:=hE k e;have:=h5.2.2.1;omega,fun e2=>by have:=hE k e;have:=h5.2.2.2 k e2;omega⟩
  rcases e with (e | e) | (e | e)
  ·exact h.pb k (.inl e)
  ·exact hEk e
  ·exact h.pb k (.inr e)
  ·exact hEk e
theorem doAll_few (ts:List Thing):∀ (M:Disk),(doAll M ts).lasts.length+(doAll M ts).waits.length<=M.lasts.length+M.waits.length+ts.length:=by
 induction ts with
 | nil=>intro M;exact Nat.le_refl _
 | cons t ts ih=>
   intro M
   have h1:=ih (M.does t)
   have h2:=doNo_few M t
   show (doAll (M.does t) ts).lasts.length+_<=_
   simp only [List.length_cons]
   have h3:(doAll M (t :: ts))=doAll (M.does t) ts:=rfl
   rw [h3]
   omega
theorem fall_filter (fs:Fs) (name:ByteArray) (p:ByteArray->Bool) (h:∀ f,p f=true->ownB name f=true):(ownFiles fs name).reverse.filter p=fallOwn fs p:=by
 unfold fallOwn ownFiles
 rw [List.filter_reverse,List.filter_filter]
 congr 1
 apply List.filter_congr
 intro f _
 cases hp:p f with
 | false=>rfl
 | true=>rw [h f hp];rfl
theorem fromB_own {name:ByteArray} {n:Nat} (f:ByteArray) (h:fromB name n f=true):ownB name f=true:=by
 unfold fromB at h
 unfold ownB
 split at h
 ·next hh=>rw [hh];rfl
 ·cases h
theorem own_mem {fs:Fs} {name:ByteArray} {f:ByteArray} (h:f∈ownFiles fs name):ownB name f=true:=by
 unfold ownFiles at h
 exact (List.mem_filter.1 h).2
set_option maxHeartbeats 2000000 in
theorem truncate_ok (P R:Nat->Prop) (b:Nat) (L:LLog) (M:Disk) (n:Int) (w:World) (h:LogW P R b L M w) (hn:In64 n) (hfew:M.lasts.length+M.waits.length+(ownFiles M.files L.name).length<=999990):Ret Tryz.prog 12 #[ptrV b,.int .i64 n] w (fun v w'=>(if n<0\/(L.es.length:Int)<n then v=.int .i64 4/\LogW P R b L M w' else v=.int .i64 0/\∃ L',LogW P R b L' (truncM M L.name L.per L.es n.toNat) w'/\L'.es=L.es.take n.toNat/\L'.name=L.name/\L'.per=L.per/\L'.d=L.d/\L'.sure=min L.sure n.toNat)/\Lk w' w (NotP R)):=by
 haveI kb:Blk w b (.cells (logC L).toArray 69 (0,0)):=⟨h.at_⟩
 haveI hrL:=h.rowB
 have hlen:=h.len
 have hp1:=h.per1
 have hp2:=h.per2
 have hns:L.name.size<=8:=by have:=h.name;simp only [logName,Bool.and_eq_true,decide_eq_true_eq] at this;exact this.1.2
 have hblt:=h.lt.2.2.1
 haveI i9:SubF NoB (NotP R) w:=⟨fun _ _ e=>e.elim⟩
 refine ret_of_x (N:=98) (l:=[ptrV b,.int .i64 n]) Tryz.func12 rfl rfl (Nat.le_of_ble_eq_true rfl) ?_
 refine xq ?_
 refine xl_e (e_box fun b2 w1 nb2 lb2 kb2=>?_)
 refine xl_e (e_box fun b3 w2 nb3 lb3 kb3=>?_)
 refine xz ?_
 refine x_seq (x_block (xq (xl_Lc ?_)))
 refine xl_call (lnone_ok b L w2) ?_
 rintro _ _ ⟨rfl,rfl⟩
 refine xz ?_
 refine x_condF ?_
 refine x_seq ?_
 refine x_drawL (NoB) (allS) (.take 0 (.take 1 (.take 2 (.take 3 (.take 4 (.take 5 (.take 6 (.eff 7 (.take 8 (.take 9 .done)))))))))) mixed (by kernel_rfl) (fun _ _ _ _ _ h=>h) (fun w4 l4=>?_)
 refine xt_Lc rfl ?_
 refine xt_Lc rfl ?_
 refine xt_Nc rfl ?_
 refine xt_Fb rfl ?_
 refine xt_Lc rfl ?_
 refine xt_v rfl v_len ?_
 refine xt_v rfl (v_add (by omega)) ?_
 refine xt_call rfl (below_ok n 0 _ w4) ?_
 rintro _ _ ⟨rfl,rfl⟩
 refine ⟨kpc,?_⟩
 refine xt_v rfl v_not ?_
 refine xt_v rfl v_assign (xt_nil ?_)
 refine x_condE (fun c2=>?_) (fun c2=>?_)
 ·refine xq (xz ?_)
  refine x_ret ?_
  refine fin1 rfl ?_
  rw [if_pos (by simp only [Bool.not_eq_true',decide_eq_false_iff_not] at c2;omega)]
  exact ⟨⟨rfl,h.ext (kpc:Keep NoB w w4)⟩,lkc⟩
 have hin:0<=n/\n<(L.es.length:Int)+1:=by simp only [Bool.not_eq_false',decide_eq_true_eq] at c2;omega
 obtain ⟨m,rfl⟩:∃ m:Nat,n=(m:Int):=⟨n.toNat,by omega⟩
 have hm:m<=L.es.length:=by omega
 refine x_skip (x_seq (xq (xl_Lc ?_)))
 refine xl_call (falling_ok b w4) ?_
 rintro _ w6 ⟨⟨bl,rfl,hbl,hgl⟩,lk4⟩
 haveI kbl:Blk w6 bl (.cells #[ptrV b] 32 (0,0)):=⟨hbl⟩
 refine xl_nil ?_
 refine x_block ?_
 have hDw:=h.disk.ext (kpc:Keep NoB w w6)
 obtain ⟨fl,hfl⟩:∃ fl,fl=(ownFiles M.files L.name).reverse:=⟨_,rfl⟩
 have hfll:fl.length=(ownFiles M.files L.name).length:=by rw [hfl];simp
 have hmem:∀ f∈fl,ownB L.name f=true:=fun f hf=>own_mem (fs:=M.files) (by rw [hfl] at hf;exact List.mem_reverse.1 hf)
 have htl:tlO M.files L.name=fl.map (tellO L.name):=by rw [hfl];rfl
 obtain ⟨wS,hwS⟩:∃ x,x=w6:=⟨_,rfl⟩
 have hkwS:Keep NoB w wS:=by rw [hwS];exact kpc
 obtain ⟨F0,hi0,hF0,hF0d⟩:=rmI_start (name:=L.name) (p:=fromB L.name m) (fl:=fl) (h.disk.wide hkwS) (Keep.refl NoB wS)
 have hdl:L.d<(w6).heap.size:=by rw [<- hwS];exact (hF0 _ hF0d).1
 have hblw:w.heap.size<=bl:=Nat.le_trans Ge.le hgl
 have hb2w:w.heap.size<=b2:=Nat.le_of_eq nb2.eq.symm
 have hb3w:w.heap.size<=b3:=by rw [nb3.eq];exact Ge.le
 have hblS:bl<wS.heap.size:=by rw [hwS];exact Has.lt
 have hbS:wS.heap[b]?=some (.cells (logC L).toArray 69 (0,0)):=by rw [hwS];exact Blk.eq
 have hb2S:wS.heap[b2]?=some (.cells #[ptrV b] 32 (0,0)):=by rw [hwS];exact Blk.eq
 have hb3S:wS.heap[b3]?=some (.cells #[.int .i64 (m:Int)] 3 (0,0)):=by rw [hwS];exact Blk.eq
 have hl2:=(Array.getElem?_eq_some_iff.1 hb2S).1
 have hl3:=(Array.getElem?_eq_some_iff.1 hb3S).1
 refine x_rangeX (ps:=[23,24]) (fun k=>k=bl\/k=b) (AlG (fl.map (tellO L.name))) (FinG (fl.map (tellO L.name))) (NoE) (noE_elem) L.d (fun _=>True) (fun _ _=>False) hdl (fun _ _ h=>h.elim) (fun W lW=>fun y I J F w0 hy1 hy _ _ _ hw0 h0 hF=>CallV.of_ret (by have h9:=fall1_ok y bl b L _ _ M I J F W (hDw.ext (kpc:Keep NoB w6 W)) (by omega) hy1 w0 (by rw [htl];exact yieldsI_of hy) hw0 h0 hF;rw [htl] at h9;exact h9)) (by rintro k (rfl | rfl);exact Has.lt;exact Has.lt) (fun pre v h=>(by obtain ⟨h1,h2,_⟩:=alG_last h;rw [h2];simp [tellO])) (RmI (wide (fun k=>P k\/k=b\/AB L.A k) w wS) (wide (fun k=>R k\/k=b\/AB L.A k) w wS) L.d M fl L.name (fromB L.name m) wS) (fun _ _ _ _=>False) (F0) (hwS ▸ rmI_stable) (fun _=>⟨fun _ _ _ h=>h.elim,fun _ _ _ _ _ h=>h.elim⟩) (fun _ _ _ _=>trivial) (fun _ _ _ _ _ h=>h.elim) hF0d (hwS ▸ hi0) (fun k hk e=>(hF0 k hk).2 (e.elim (fun e=>.inr ⟨by rw [e];exact hblw,by rw [e];exact hblS⟩) (fun e=>.inl (.inr (.inl e))))) (fun v τ n' W=>Ev τ 2 (ptrV b2)/\Ev τ 3 (ptrV b3)/\∃ a x,v=[a,x]/\Ev τ 5 a/\Ev τ 6 x) (by rintro v τ n W1 W2 S h1 hk hs;exact h1) ?assign ?body ?normal ?jump
 case assign=>
  intro l7 pre v7 w7 hal hv7
  obtain ⟨a,x,rfl⟩:∃ a x,v7=[a,x]:=two_of hv7
  simp only [updL]
  refine xq (xz ?_)
  refine x_regionL (xz ?_)
  exact ⟨lkc,ii,ii,_,_,rfl,ii,ii⟩
 case body=>
  intro l pre v F Fv nb w8 τ8 ds8 hal hI hE hdis hnew hlt hnb hnbw hB
  obtain ⟨j,hpre,hj,hDj,hFl,hkW,hPs,hRs⟩:=id hI
  obtain ⟨hpl,hv,_⟩:=alG_last hal
  have hplj:pre.length=j:=by rw [hpre];simp;omega
  have hjl:j<fl.length:=by simpa [hplj] using hpl
  have hv2:v=tellO L.name fl[j]:=by rw [hv];simp [hplj]
  obtain ⟨e2,e3,va,vx,hve,e5,e6⟩:=hB
  rw [hv2] at hve
  simp only [tellO,List.cons.injEq,and_true] at hve
  rw [<- hve.1] at e5
  rw [<- hve.2] at e6
  have hown:ownB L.name fl[j]=true:=hmem _ (List.getElem_mem hjl)
  obtain ⟨q,hq⟩:∃ q,ownN L.name fl[j]=some q:=Option.isSome_iff_exists.1 hown
  have hq6:=(own_some hq).2
  rw [hq] at e5
  simp only [Option.getD_some] at e5
  rw [hpre] at hI
  rw [hpre,hv2]
  haveI kb1:Blk w8 b (.cells (logC L).toArray 69 (0,0)):=⟨(hkW.block b (Array.getElem?_eq_some_iff.1 hbS).1 (fun e=>e (.inl (.inr (.inl rfl))))).trans hbS⟩
  haveI kb21:Blk w8 b2 (.cells #[ptrV b] 32 (0,0)):=⟨(hkW.block b2 hl2 (fun e=>e (.inr ⟨hb2w,hl2⟩))).trans hb2S⟩
  haveI kb31:Blk w8 b3 (.cells #[.int .i64 (m:Int)] 3 (0,0)):=⟨(hkW.block b3 hl3 (fun e=>e (.inr ⟨hb3w,hl3⟩))).trans hb3S⟩
  refine x_block (xq (xm (xl_Lc ?_)))
  refine xl_v v_geq (xl_nil ?_)
  refine x_if (fun c3=>?_) (fun c3=>?_)
  ·have hfp:fromB L.name m fl[j]=true:=by unfold fromB;rw [hq];exact decide_eq_true (by omega)
   refine x_regionL (xl_Lc ?_)
   refine xl_Nc ?_
   refine xl_Fb ?_
   refine xl_Lc ?_
   refine xm ?_
   refine xl_call (remove_ok _ _ L.d _ fl[j] 0 [] w8 hDj (by simp) (by
       have h7:=doAll_few (((fl.take j).filter (fromB L.name m)).map rmT) M
       have h8:(((fl.take j).filter (fromB L.name m)).map rmT).length<=j:=by rw [List.length_map];exact Nat.le_trans (List.length_filter_le _ _) (by rw [List.length_take];omega)
       omega)) ?_
   rintro _ w9 ⟨rfl,hDr,lkr⟩
   have hnext:=rmI_step hjl hI hfp hDr lkr.keep
   refine xl_nil ?_
   obtain ⟨F',q1,q2,q3⟩:=hnext
   exact ⟨F',q1,q2.mono (fun k _ e=>.inl e),fun k e=>(q3 k e).imp .inl id⟩
  have hfp:fromB L.name m fl[j]=false:=by unfold fromB;rw [hq];exact decide_eq_false (by omega)
  have hnext:∃ F',RmI (wide (fun k=>P k\/k=b\/AB L.A k) w wS) (wide (fun k=>R k\/k=b\/AB L.A k) w wS) L.d M fl L.name (fromB L.name m) wS ((fl.take j).map (tellO L.name)++[tellO L.name fl[j]]) F' w8/\Keep F w8 w8/\Sub F' F w8:=⟨F,rmI_skip hjl hI hfp,Keep.refl _ _,Sub.refl _ _⟩
  refine x_skip ?_
  obtain ⟨F',q1,q2,q3⟩:=hnext
  exact ⟨F',q1,q2.mono (fun k _ e=>.inl e),fun k e=>(q3 k e).imp .inl id⟩
 case normal=>
  intro D10 pre F w10 hfin hI hkF hsF hD10 hge10 hnF10
  have hpe:pre=fl.map (tellO L.name):=hfin
  rw [hpe] at hI
  obtain ⟨hDe,hkE⟩:=rmI_end2 (E:=fun k=>k=D10) hI (fun k e=>by rw [e];exact ⟨(Array.getElem?_eq_some_iff.1 hD10.eq).1,hnF10⟩)
  rw [hfl,fall_filter _ _ _ fromB_own] at hDe
  obtain ⟨M1,hM1⟩:∃ M1,M1=doAll M ((fallOwn M.files (fromB L.name m)).map rmT):=⟨_,rfl⟩
  rw [<- hM1] at hDe
  have hgeD:=hge10
  rw [<- hwS] at hgeD
  have h3:LogW (fun k=>P k\/k=D10) (fun k=>R k\/k=D10) b L M1 w10:=h.removed (E:=fun k=>k=D10) hkwS hDe hkE (fun k e=>by rw [e];exact hgeD)
  haveI lkE:Lk w10 w (NotP R):=⟨(hkwS.mono (fun _ _ h=>h.elim)).then hkE (fun k _ e e2=>e (.inl (.inl e2)))⟩
  obtain ⟨wE,hwE⟩:∃ x,x=w10:=⟨_,rfl⟩
  have hkwE:Keep NoB wE w10:=by rw [hwE];exact Keep.refl _ _
  have hfew1:M1.lasts.length+M1.waits.length+1<=999995:=by
   have h7:=doAll_few ((fallOwn M.files (fromB L.name m)).map rmT) M
   have h8:((fallOwn M.files (fromB L.name m)).map rmT).length<=fl.length:=by
    rw [<- fall_filter _ L.name _ fromB_own,<- hfl,List.length_map]
    exact List.length_filter_le _ _
   rw [<- hM1] at h7
   omega
  haveI kb1:Blk w10 b (.cells (logC L).toArray 69 (0,0)):=⟨h3.at_⟩
  haveI kb21:Blk w10 b2 (.cells #[ptrV b] 32 (0,0)):=⟨(hkE.block b2 hl2 (fun e=>e (.inr ⟨hb2w,hl2⟩))).trans hb2S⟩
  haveI kb31:Blk w10 b3 (.cells #[.int .i64 (m:Int)] 3 (0,0)):=⟨(hkE.block b3 hl3 (fun e=>e (.inr ⟨hb3w,hl3⟩))).trans hb3S⟩
  refine x_cut (fun τ ds w'=>ds=[markOf D10]/\LogW (fun k=>P k\/k=D10) (fun k=>R k\/k=D10) b L (truncM M L.name L.per L.es m) w'/\Ev τ 2 (ptrV b2)/\Ev τ 3 (ptrV b3)/\Blk w' b2 (.cells #[ptrV b] 32 (0,0))/\Blk w' b3 (.cells #[.int .i64 (m:Int)] 3 (0,0))/\Blk w' D10 (.deferred (some []))/\Lk w' w (NotP R)) ?_ ?_
  ·refine x_seq ?_
   refine x_drawL (NoB) (allS) (.take 0 (.take 1 (.take 2 (.take 3 (.take 4 (.eff 5 (.take 6 .done))))))) mixed (by kernel_rfl) (fun _ _ _ _ _ h=>h) (fun w11 l11=>?_)
   refine xt_Lc rfl ?_
   refine xt_Nc rfl ?_
   refine xt_Fb rfl ?_
   refine xt_Lb rfl ?_
   refine xt_Lc rfl ?_
   refine xt_call rfl (base_ok L.name L.per m w11 hp1 hp2 (by omega)) ?_
   rintro _ w12 ⟨rfl,lk10⟩
   refine ⟨kpc,?_⟩
   have hdm:=Nat.div_mul_le_self m L.per
   obtain ⟨first,hfirst⟩:∃ x,x=m / L.per*L.per:=⟨_,rfl⟩
   rw [<- hfirst] at hdm ⊢
   have htr:¬ (first<m/\m<min L.es.length (first+L.per))->truncM M L.name L.per L.es m=M1:=fun hh=>by
    unfold truncM
    rw [<- hM1,<- hfirst,if_neg hh]
   refine xt_v rfl v_assign (xt_nil ?_)
   refine x_seq ?_
   refine x_drawL (NoB) (allS) (.take 0 (.take 1 (.take 2 (.take 3 (.take 4 (.take 5 (.take 6 (.take 7 (.take 8 (.take 9 (.take 10 (.take 11 (.take 12 (.take 13 (.take 14 (.take 15 (.take 16 (.take 17 (.take 18 (.take 19 .done)))))))))))))))))))) mixed (by kernel_rfl) (fun _ _ _ _ _ h=>h) (fun w13 l13=>?_)
   refine xt_v rfl v_move (xt_Lc rfl ?_)
   refine xt_v rfl v_lss ?_
   refine xt_v rfl v_move ?_
   refine xt_split 43 (fun g43=>?_) (fun g43=>?_)
   ·have g11:=of_decide_eq_true g43
    refine xt_gLc rfl rfl EvO.eq ?_
    refine xt_gLc rfl rfl EvO.eq ?_
    refine xt_gNc rfl rfl EvO.eq ?_
    refine xt_gFb rfl rfl EvO.eq ?_
    refine xt_gLc rfl rfl EvO.eq ?_
    refine xt_gv rfl rfl EvO.eq v_len (xt_gv rfl rfl EvO.eq v_move ?_)
    refine xt_gLc rfl rfl EvO.eq ?_
    refine xt_gNc rfl rfl EvO.eq ?_
    refine xt_gFb rfl rfl EvO.eq ?_
    refine xt_gFb rfl rfl EvO.eq ?_
    refine xt_gLc rfl rfl EvO.eq ?_
    refine xt_gv rfl rfl EvO.eq (v_add (by omega)) ?_
    refine xt_gv rfl rfl EvO.eq v_min ?_
    refine xt_gv rfl rfl EvO.eq v_lss ?_
    refine xt_Pk rfl ?_
    refine xt_nil ?_
    refine x_if (fun c4=>?_) (fun c4=>?_)
    ·have g12:first<m/\m<min L.es.length (first+L.per):=⟨by omega,by omega⟩
     have hcap:=own_cap h.row
     obtain ⟨sl,hsl⟩:∃ sl,sl=(L.es.take m).drop first:=⟨_,rfl⟩
     have hsll:sl.length=m - first:=by rw [hsl];simp;omega
     have hslR:∀ e∈sl,Right e:=fun e he=>h.right e (List.mem_of_mem_take (List.mem_of_mem_drop (by rw [<- hsl];exact he)))
     obtain ⟨As,hAs⟩:∃ As,As=(if L.c=first then L.A else L.A.map (·.add (first*6))):=⟨_,rfl⟩
     have hrs:∀ W,LogW (fun k=>P k\/k=D10) (fun k=>R k\/k=D10) b L M1 W->RowP W As (sl.flatMap enC):=fun W hW=>by
      have h1:=row_take hW.rowB.row (m*6)
      rw [<- flat_take (sz:=6) (fun _=>rfl)] at h1
      have h2:=row_drop (k:=first) (sz:=6) (n:=m) (c:=L.c) h1 (by rw [flat_len (sz:=6) (fun _=>rfl)];simp;omega) (by omega)
      rw [<- flat_drop (sz:=6) (fun _=>rfl),<- hsl,<- hAs] at h2
      exact h2
     haveI nS1:NotS (NotP (fun k=>wide (fun k=>R k\/k=b\/AB L.A k) w wS k\/k=D10)) b:=⟨fun e=>e (.inl (.inl (.inr (.inl rfl))))⟩
     haveI nS2:NotS (NotP (fun k=>wide (fun k=>R k\/k=b\/AB L.A k) w wS k\/k=D10)) b2:=⟨fun e=>e (.inl (.inr ⟨hb2w,hl2⟩))⟩
     haveI nS3:NotS (NotP (fun k=>wide (fun k=>R k\/k=b\/AB L.A k) w wS k\/k=D10)) b3:=⟨fun e=>e (.inl (.inr ⟨hb3w,hl3⟩))⟩
     haveI nS4:NotS (NotP (fun k=>wide (fun k=>R k\/k=b\/AB L.A k) w wS k\/k=D10)) D10:=⟨fun e=>e (.inr rfl)⟩
     haveI nS5:SubF (NotP (fun k=>wide (fun k=>R k\/k=b\/AB L.A k) w wS k\/k=D10)) (NotP R) w:=⟨fun k _ e e2=>e (.inl (.inl (.inl e2)))⟩
     refine x_drawL (NotP (fun k=>wide (fun k=>R k\/k=b\/AB L.A k) w wS k\/k=D10)) (allS) (.take 0 (.take 1 (.take 2 (.take 3 (.take 4 (.take 5 (.take 6 (.take 7 (.take 8 (.take 10 (.take 11 (.take 12 (.take 13 (.take 14 (.take 15 (.take 16 (.eff 9 (.eff 17 (.eff 18 .done))))))))))))))))))) mixed (by kernel_rfl) (fun _ _ _ _ _ h=>h) (fun w14 l14=>?_)
     refine xt_Lc rfl ?_
     refine xt_Nc rfl ?_
     refine xt_Fb rfl ?_
     refine xt_Lc rfl ?_
     refine xt_Lc rfl ?_
     refine xt_Nc rfl ?_
     refine xt_Fb rfl ?_
     refine xt_Lb rfl ?_
     refine xt_v rfl v_move (xt_Lc rfl ?_)
     refine xt_Nc rfl ?_
     refine xt_Fb rfl ?_
     refine xt_Lc rfl ?_
     refine xt_v rfl v_move (xt_Lc rfl ?_)
     refine xt_v rfl (v_congr (u:=.slice As sl.length (L.c - first)) (v_sliceLH first m rfl rfl (by omega) (by omega)) (by rw [hAs,hsll])) ?_
     refine xt_call rfl (file_ok L.name L.per first w14 (by omega) (by omega)) ?_
     rintro _ w15 ⟨rfl,lk129⟩
     refine ⟨kpc,?_⟩
     refine xt_call rfl (size_ok (hra:=rowB_of (hrs w15 (h3.ext kpc))) As sl.length (L.c - first) sl w15 rfl (by omega) hslR) ?_
     rintro _ w16 ⟨rfl,lk1217⟩
     refine ⟨kpc,?_⟩
     refine xt_call rfl (cut_ok _ _ L.d M1 (fileN L.name first) ((frames sl).length:Int) [] w16 (hDe.ext kpc) (by simp) (by omega)) ?_
     rintro _ w17 ⟨rfl,hDc,lkc18⟩
     refine ⟨kpc,?_⟩
     have hcut:LogW (fun k=>P k\/k=D10) (fun k=>R k\/k=D10) b L (truncM M L.name L.per L.es m) w17:=by
      unfold truncM
      rw [<- hM1,<- hfirst,if_pos g12,<- hsl]
      refine (h3.ext (kpc:Keep NoB _ w16)).disked (hDc.narrow (fun k e=>?_) (fun k e=>?_)) (lkc18.keep.mono (fun k _ e e2=>e ?_))
      ·rcases e with (e | e) | e | e
       ·exact .inl (.inl (.inl e))
       ·exact .inr e
       ·exact .inl (.inl (.inr (.inl e)))
       ·exact .inl (.inl (.inr (.inr e)))
      ·rcases e with (e | e) | e | e
       ·exact .inl (.inl (.inl e))
       ·exact .inr e
       ·exact .inl (.inl (.inr (.inl e)))
       ·exact .inl (.inl (.inr (.inr e)))
      ·rcases e2 with (e2 | e2) | e2 | e2
       ·exact .inl (.inl (.inl e2))
       ·exact .inr e2
       ·exact .inl (.inl (.inr (.inl e2)))
       ·exact .inl (.inl (.inr (.inr e2)))
     refine xt_nil ?_
     first
     | exact ⟨rfl,hcut,ii,ii,ii,ii,ii,lkc⟩
     | exact ⟨rfl,by rw [htr (by omega)];exact h3.ext kpc,ii,ii,ii,ii,ii,lkc⟩
    refine x_skip ?_
    first
    | exact ⟨rfl,hcut,ii,ii,ii,ii,ii,lkc⟩
    | exact ⟨rfl,by rw [htr (by omega)];exact h3.ext kpc,ii,ii,ii,ii,ii,lkc⟩
   have g11:=of_decide_eq_false g43
   refine xt_gs rfl rfl EvO.eq (xt_gs rfl rfl EvO.eq (xt_gs rfl rfl EvO.eq (xt_gs rfl rfl EvO.eq (xt_gs rfl rfl EvO.eq (xt_gs rfl rfl EvO.eq (xt_gs rfl rfl EvO.eq (xt_gs rfl rfl EvO.eq (xt_gs rfl rfl EvO.eq (xt_gs rfl rfl EvO.eq (xt_gs rfl rfl EvO.eq (xt_gs rfl rfl EvO.eq (xt_gs rfl rfl EvO.eq (xt_gs rfl rfl EvO.eq (xt_gs rfl rfl EvO.eq (xt_Pk rfl ?_)))))))))))))))
   refine xt_nil ?_
   refine x_condF ?_
   refine x_skip ?_
   first
   | exact ⟨rfl,hcut,ii,ii,ii,ii,ii,lkc⟩
   | exact ⟨rfl,by rw [htr (by omega)];exact h3.ext kpc,ii,ii,ii,ii,ii,lkc⟩
  intro τ18 ds18 w18 hI
  obtain ⟨rfl,h4,e2,e3,kb22,kb32,kD2,lk13⟩:=hI
  haveI kb12:Blk w18 b (.cells (logC L).toArray 69 (0,0)):=⟨h4.at_⟩
  obtain ⟨wY,hwY⟩:∃ x,x=w18:=⟨_,rfl⟩
  have h4Y:LogW (fun k=>P k\/k=D10) (fun k=>R k\/k=D10) b L (truncM M L.name L.per L.es m) wY:=by rw [hwY];exact h4
  haveI nb2b:NeB b2 b:=⟨by omega⟩
  haveI nb3b:NeB b3 b:=⟨by omega⟩
  haveI nDb:NeB D10 b:=⟨by have:=(Array.getElem?_eq_some_iff.1 hbS).1;omega⟩
  haveI i8:SubF (OneB b) (NotP R) w:=⟨fun j _ e e2=>(h.pb j (.inr e2)).1 e⟩
  haveI hrY:Row w18 L.A ((L.es.take m).flatMap enC):=⟨by
   have h1:=row_take h4.rowB.row (m*6)
   rwa [<- flat_take (sz:=6) (fun _=>rfl)] at h1⟩
  have htl:(L.es.take m).length=m:=by rw [List.length_take];omega
  have hcapY:=own_cap h.row
  refine x_seq ?_
  refine x_drawL (NoB) (allS) (.take 0 (.take 1 (.take 2 (.take 3 (.take 4 (.take 5 (.take 6 (.eff 7 (.take 8 (.take 9 (.free 10 .done))))))))))) mixed (by kernel_rfl) (fun _ _ _ _ _ h=>h) (fun w19 l19=>?_)
  refine xt_Lc rfl ?_
  refine xt_Lc rfl ?_
  refine xt_Nc rfl ?_
  refine xt_Fb rfl ?_
  refine xt_Lc rfl ?_
  refine xt_Lc rfl ?_
  refine xt_v rfl (v_sliceH m rfl (by omega)) ?_
  refine xt_call rfl (cloneE_ok L.A m L.c ((L.es.take m).flatMap enC) w19 (by rw [flat_len (sz:=6) (fun _=>rfl),htl]) (by omega) (enC_one _) (h4.nz.imp id (fun e=>by omega))) ?_
  rintro _ w20 ⟨⟨A7,c7,rfl,ho7⟩,lk7⟩
  refine ⟨kpc,?_⟩
  have hgY:wY.heap.size<=(w19).heap.size:=by rw [hwY];exact Ge.le
  refine xt_Nc rfl ?_
  refine xt_Fb rfl ?_
  refine xt_fs rfl (e_store fun w21 l21 k21=>?_)
  refine xt_nil ?_
  obtain ⟨L7,hL7⟩:∃ L7:LLog,L7=⟨L.name,L.per,L.d,L.es.take m,A7,c7,L.sure⟩:=⟨_,rfl⟩
  have hab7:=AB_lt ho7
  have hkW:Keep (OneB b) wY w21:=by rw [hwY];exact kpc
  have ho8:=own_keep ho7 (kpc:Keep (OneB b) _ w21) (fun j hj e=>by have e':j=b:=e;have h8:=(hab7 j (AB_own (Eq.symm hj))).1;have:=h4Y.lt.2.2.1;omega)
  have h5:LogW (fun k=>P k\/k=D10) (fun k=>R k\/k=D10) b L7 (truncM M L.name L.per L.es m) w21:=by
   refine h4Y.written hkW (fun _ _ e=>.inl e) (by rw [hL7]) (by rw [hL7]) (by rw [hL7]) ?_ ?_ ?_ ?_ ?_
   ·rw [hL7]
    simp only [logC,htl]
    exact Blk.eq
   ·rw [hL7]
    simp only [htl]
    exact own_mono ho8 (Nat.zero_le _)
   ·rw [hL7]
    intro j hj
    exact .inr (Nat.le_trans hgY (hab7 j hj).1)
   ·rw [hL7]
    simp only [htl]
    omega
   ·rw [hL7]
    exact fun e he=>h.right e (List.mem_of_mem_take he)
  haveI kb13:Blk w21 b (.cells (logC L7).toArray 69 (0,0)):=⟨h5.at_⟩
  obtain ⟨wZ,hwZ⟩:∃ x,x=w21:=⟨_,rfl⟩
  have h5Z:LogW (fun k=>P k\/k=D10) (fun k=>R k\/k=D10) b L7 (truncM M L.name L.per L.es m) wZ:=by rw [hwZ];exact h5
  have hs7:L7.sure=L.sure:=by rw [hL7]
  refine x_seq ?_
  refine x_drawL (NoB) (allS) (.take 0 (.take 1 (.take 2 (.take 3 (.take 4 (.take 5 (.take 6 (.take 7 (.take 8 (.free 9 .done)))))))))) mixed (by kernel_rfl) (fun _ _ _ _ _ h=>h) (fun w22 l22=>?_)
  refine xt_Lc rfl ?_
  refine xt_Lc rfl ?_
  refine xt_Nc rfl ?_
  refine xt_Fb rfl ?_
  refine xt_Lc rfl ?_
  refine xt_Lc rfl ?_
  refine xt_v rfl (v_congr (u:=.int .i64 ((min L7.sure m:Nat):Int)) v_min (congrArg (Value.int .i64) (by omega))) ?_
  refine xt_Nc rfl ?_
  refine xt_Fb rfl ?_
  refine xt_fs rfl (e_store fun w23 l23 k23=>?_)
  refine xt_nil ?_
  have hkW2:Keep (OneB b) wZ w23:=by rw [hwZ];exact kpc
  have h6:LogW (fun k=>P k\/k=D10) (fun k=>R k\/k=D10) b { L7 with sure:=min L7.sure m } (truncM M L.name L.per L.es m) w23:=
   h5Z.written hkW2 (fun _ _ e=>.inl e) rfl rfl rfl Blk.eq (own_keep h5Z.row hkW2 (fun k hk e=>h5Z.nb (by have e':k=b:=e;rw [<- e'];exact AB_own hk.symm))) (fun k e=>.inl e) h5Z.len h5Z.right
  refine xq (xz ?_)
  refine x_ret ?_
  refine finM (rs:=[.tmp 4]) rfl [D10] rfl (by simpa using (Blk.eq:(w23).heap[D10]?=_)) (by simp) (fun w24 lm24=>⟨_,ii,?_⟩)
  rw [if_neg (by omega),Int.toNat_natCast]
  have hin:∀ k,k∈[D10]->k=D10:=fun k e=>by simpa using e
  haveI sD:SubF (fun k=>k∈[D10]) (NotP R) w:=⟨fun k hk e=>by have:=hin k e;have:=hkwS.size;omega⟩
  refine ⟨⟨rfl,_,h6.keep lm24.keep (fun k _ e=>.inr (hin k e)) (fun k e=>⟨Nat.lt_of_lt_of_le (h6.lt.1 k (.inl e)) lm24.keep.size,.inl (.inl e)⟩) (fun k e=>⟨Nat.lt_of_lt_of_le (h6.lt.2.1 k (.inl e)) lm24.keep.size,.inl (.inl e)⟩),by rw [hL7],by rw [hL7],by rw [hL7],by rw [hL7],by rw [hL7]⟩,lkc⟩
 case jump=>
  exact fun _ _ _ _ _ h=>h.elim
end Go.Proofs.YtigmfcgeljjgnaaGreat
