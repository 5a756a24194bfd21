/- A part of the walks through the log and its document, and of the law in plain Lean: HR. -/
import Derived.Test.YtigmfcgeljjgnaaGreatDoorJHQ0
set_option linter.all false
set_option maxRecDepth 100000
set_option synthInstance.maxSize 100000
set_option synthInstance.maxHeartbeats 400000
namespace Go.Proofs.YtigmfcgeljjgnaaGreatDoor
open Go.Wst
open Go.Wst.Dm Go.Wst.Sg
theorem thing_eq {t:Thing} {i:Int} (h:t.what=i):t=⟨i,t.name,t.bytes,t.n⟩:=by rw [<- h]
theorem open3_ok (P R:Nat->Prop) (d:Nat) (M:Disk) (name:ByteArray) (per:Int) (w:World) (h:DiskW P R d M w) (hs:name.size<=1000000000) (hper:In64 per) (hfew:2*(M.lasts.length+M.waits.length)<=999900) :
    Ret Tryz.prog 11 #[ptrV d,.string name,.int .i64 per] w (fun v w'=>(∃ pv no,v=.tuple #[pv,.int .i64 no]/\(no=0\/no=2)/\(no=0↔(logName name=true/\1<=per/\per<=256))/\(no=0->∃ b L,pv=ptrV b/\LogW P R b L (openM M name per.toNat) w'/\L.name=name/\L.per=per.toNat/\L.d=d/\L.es=(Go.Wst.Sg.told M.files name per.toNat).1/\L.sure=(if M.waits=[] then L.es.length else 0))/\(no≠0->pv=.pointer none/\DiskW P R d M w'))/\Lk w' w (NotP R)):=by
 refine (open2_ok' P R d M name per w h hs hper hfew).mono ?_
 rintro v w' ⟨hres,lk⟩
 refine ⟨?_,lk⟩
 by_cases hok:logName name=true/\1<=per/\per<=256
 ·rw [if_pos hok] at hres
  obtain ⟨b,L,rfl,h1,h2,h3,h4,h5,h6,_,_⟩:=hres
  exact ⟨_,0,rfl,.inl rfl,⟨fun _=>hok,fun _=>rfl⟩,fun _=>⟨b,L,rfl,h1,h2,h3,h4,h5,h6⟩,fun e=>absurd rfl e⟩
 ·rw [if_neg hok] at hres
  obtain ⟨rfl,h1⟩:=hres
  exact ⟨_,2,rfl,.inr rfl,⟨fun e=>(by cases e),fun e=>absurd e hok⟩,fun e=>(by cases e),fun _=>⟨rfl,h1⟩⟩
theorem refopen3_ok (F:Nat->Prop) (Rf:LRef) (M:Disk) (name:ByteArray) (per:Int) (w:World) (tt:TypeId) (tr:Nat×Nat) [htab:Blk w 0 (.cells tabA tt tr)] (hAt:RefAt w F Rf) (hS:RefS Rf M) (hs:name.size<=1000000000) (hper:In64 per) (hfew:2*(M.lasts.length+M.waits.length)<=999900) :
    Ret Tryz.prog 13 #[.agg (refC Rf).toArray,.string name,.int .i64 per] w (fun v w'=>(∃ (r':RLog) (no:Int) (F':Nat->Prop),v=.tuple #[.agg (rlogC r').toArray,.int .i64 no]/\(no=0\/no=2)/\(no=0↔(logName name=true/\1<=per/\per<=256))/\(no=0->RLogW w' F' r' (openM M name per.toNat)/\r'.name=name/\r'.per=per.toNat/\r'.sure=(if M.waits=[] then (Go.Wst.Sg.told M.files name per.toNat).1.length else 0)/\∀ k,F' k->F k\/w.heap.size<=k))/\Lk w' w NoB):=by
 refine (refopen_ok F Rf M name per w tt tr hAt hS hs hper hfew).mono ?_
 rintro v w' ⟨hres,lk⟩
 refine ⟨?_,lk⟩
 by_cases hok:logName name=true/\1<=per/\per<=256
 ·rw [if_pos hok] at hres
  obtain ⟨r',F',rfl,h1,h2,h3,h4,h5⟩:=hres
  exact ⟨r',0,F',rfl,.inl rfl,⟨fun _=>hok,fun _=>rfl⟩,fun _=>⟨h1,h2,h3,h4,h5⟩⟩
 ·rw [if_neg hok] at hres
  obtain rfl:=hres
  exact ⟨RLogZ,2,NoB,rfl,.inr rfl,⟨fun e=>(by cases e),fun e=>absurd e hok⟩,fun e=>(by cases e)⟩
theorem flush_few (M:Disk):M.flush.lasts.length+M.flush.waits.length<=M.lasts.length+M.waits.length:=by
 have:=fold_len M.waits M.lasts
 show (M.waits.foldl Dm.done M.lasts).length+0<=_
 omega
theorem fat_few (M:Disk):fat M<=M.lasts.length+M.waits.length:=by
 unfold fat puts
 have:=List.length_filter_le (fun t:Thing=>decide (t.what=0)) M.waits
 omega
set_option maxHeartbeats 4000000 in
theorem seglogOpens_ok (A:Option Addr) (n c:Nat) (xs:List LT) (name:ByteArray) (per:Int) (w:World) (tt:TypeId) (tr:Nat×Nat) [htab:Blk w 0 (.cells tabA tt tr)] [hra:Row w A (xs.flatMap thC)] (hrs:∀ j (h:j<xs.length),RowP w xs[j].A (bytesC xs[j].t.bytes)) (hns:∀ j (h:j<xs.length),In64 xs[j].t.n/\xs[j].t.bytes.length<=xs[j].c/\xs[j].t.name.size<=9223372036854775807) (hl:xs.length=n) (hn:n<=9223372036854775807) (hs:name.size<=9223372036854775807) (hper:In64 per):Ret Tryz.prog 5 #[.slice A n c,.string name,.int .i64 per] w (fun v w'=>v=.bool true/\Lk w' w NoB):=by
 have h0:=blk_pos0 htab
 haveI hrb:RowB w A w (xs.flatMap thC):=rowB_of hra.row
 refine ret_of_x (N:=179) (l:=[.slice A n c,.string name,.int .i64 per]) Tryz.func5 rfl rfl (Nat.le_of_ble_eq_true rfl) ?_
 refine xq (xz ?_)
 refine xq (xz ?_)
 refine x_cut (fun τ ds w'=>ds=[]/\∃ s:Int,(s<=3000->n<=20/\∀ j (h:j<xs.length),xs[j].t.bytes.length<=3000)/\Ev τ 0 (.slice A n c)/\Ev τ 1 (.string name)/\Ev τ 2 (.int .i64 per)/\Ev τ 7 (.int .i64 s)/\Lk w' w NoB) ?_ ?_
 ·refine xq (xz ?_)
  refine x_block ?_
  refine x_loop (fun t τ ds w'=>ds=[]/\∃ (k:Nat) (s:Int),t=n - k/\k<=n/\150*(k:Int)<=s/\s<=6151/\(s<=3000->∀ j (h:j<xs.length),j<k->xs[j].t.bytes.length<=3000)/\Ev τ 0 (.slice A n c)/\Ev τ 1 (.string name)/\Ev τ 2 (.int .i64 per)/\Ev τ 7 (.int .i64 s)/\Ev τ 8 (.int .i64 (k:Int))/\Lk w' w NoB) (n) ?start ?round
  case start=>
   exact ⟨rfl,0,0,rfl,Nat.zero_le _,by omega,by omega,fun _ j _ h=>by omega,ii,ii,ii,ii,evc,lkc⟩
  case round=>
   intro m τ1 ds1 w1 hI
   obtain ⟨rfl,k,s,rfl,hk,hs1,hs2,hs3,e0,e1,e2,e7,e8,lk⟩:=hI
   refine x_seq (xq (xm (xm (xl_v v_len (xl_v v_lss (xm ?_))))))
   refine xl_split 26 (fun g26=>?_) (fun g26=>?_)
   ·have g3:=of_decide_eq_true g26
    refine xl_gv rfl EvO.eq v_move (xl_gv rfl EvO.eq v_leq (xl_Pk ?_))
    refine xl_nil ?_
    refine x_if (fun c1=>?_) (fun c1=>?_)
    ·have hk1:k<xs.length:=by omega
     refine x_skip (x_seq (x_block (x_regionL (xm ?_))))
     refine xl_v (v_add (by omega)) ?_
     refine xm (xm ?_)
     refine xl_v (v_indexF k (by decide) rfl (by omega) hk1) ?_
     refine xl_Fb ?_
     refine xl_v (v_loadFf hk1) ?_
     refine xl_v v_len (xl_v v_min ?_)
     refine xl_v (v_add (by omega)) ?_
     refine xz ?_
     refine x_regionL (xm ?_)
     refine xl_v (v_add (by omega)) ?_
     refine xz ?_
     refine ⟨_,?_,rfl,k+1,s+150+min (xs[k].t.bytes.length:Int) 3001,rfl,by omega,by omega,by omega,fun h9 j hj hj2=>?_,ii,ii,ii,ii,evc,lkc⟩
     ·omega
     ·by_cases e:j=k
      ·subst e;omega
      ·exact hs3 (by omega) j hj (by omega)
    refine x_exit ?_
    first
    | exact ⟨rfl,s,fun h9=>⟨by omega,fun j hj=>hs3 h9 j hj (by omega)⟩,ii,ii,ii,ii,lkc⟩
    | exact ⟨rfl,s,fun h9=>absurd h9 (by simp at c1;omega),ii,ii,ii,ii,lkc⟩
   have g3:=of_decide_eq_false g26
   refine xl_gs rfl EvO.eq (xl_gs rfl EvO.eq (xl_Pk ?_))
   refine xl_nil ?_
   refine x_condF ?_
   refine x_exit ?_
   first
   | exact ⟨rfl,s,fun h9=>⟨by omega,fun j hj=>hs3 h9 j hj (by omega)⟩,ii,ii,ii,ii,lkc⟩
   | exact ⟨rfl,s,fun h9=>absurd h9 (by simp at c1;omega),ii,ii,ii,ii,lkc⟩
 intro τ2 ds2 w2 hI
 obtain ⟨rfl,s,hs3,e0,e1,e2,e7,lk6⟩:=hI
 refine x_seq (xq (xm (xl_v v_gtr (xm ?_))))
 refine xl_split 44 (fun g44=>?_) (fun g44=>?_)
 ·have g6:=of_decide_eq_true g44
  refine xl_gs rfl EvO.eq (xl_gs rfl EvO.eq (xl_gs rfl EvO.eq (xl_Pk ?_)))
  refine xl_nil ?_
  refine x_condT ?_
  refine xq ?_
  refine xl_call (works4_ok w2) ?_
  rintro _ w3 ⟨rfl,lkw⟩
  refine xz ?_
  refine x_ret ?_
  refine fin1 rfl ?_
  exact ⟨rfl,lkc⟩
 have g6:=of_decide_eq_false g44
 refine xl_gv rfl EvO.eq v_move (xl_gv rfl EvO.eq v_lens (xl_gv rfl EvO.eq v_gtr (xl_Pk ?_)))
 refine xl_nil ?_
 refine x_if (fun c2=>?_) (fun c2=>?_)
 ·refine xq ?_
  refine xl_call (works4_ok w2) ?_
  rintro _ w4 ⟨rfl,lkw⟩
  refine xz ?_
  refine x_ret ?_
  refine fin1 rfl ?_
  exact ⟨rfl,lkc⟩
 refine x_skip (xq ?_)
 refine xl_call (new3_ok 100000 w2 (by decide)) ?_
 rintro _ w5 ⟨⟨d,rfl,hD0,hgd⟩,lk8⟩
 have hok2:n<=20/\(∀ j (h:j<xs.length),xs[j].t.bytes.length<=3000):=hs3 (by omega)
 have hnl:name.size<=100:=by first | omega | (simp at c2;omega)
 obtain ⟨wa1,hwa1⟩:∃ z,z=w2:=⟨_,rfl⟩
 have h1w:w.heap.size<=wa1.heap.size:=by rw [hwa1];exact Ge.le
 rw [<- hwa1] at hD0
 obtain ⟨wa2,hwa2⟩:∃ z,z=w5:=⟨_,rfl⟩
 refine xm (xl_v v_extract (xl_v v_extract (xa (xz ?_))))
 refine xq ?_
 refine xl_call (refnew_ok 100000 w5) ?_
 rintro _ w6 ⟨hnw,lk9⟩
 rw [if_pos (by decide)] at hnw
 obtain rfl:=hnw
 refine xm (xl_v v_extract (xl_v v_extract ?_))
 refine xl_e (e_alloc fun b11 w7 nb11 lb11 kb11=>?_)
 refine xl_s (e_storeA fun w8 l8 k8=>?_)
 refine xz ?_
 refine x_seq (xq (xz ?_))
 refine x_block ?_
 have hb11:wa2.heap.size<=b11/\b11<(w8).heap.size:=⟨by rw [hwa2,nb11.eq];exact Ge.le,Has.lt⟩
 have h12:wa1.heap.size<=wa2.heap.size:=by rw [hwa1,hwa2];exact Ge.le
 obtain ⟨P,hPd⟩:∃ P:Nat->Prop,P=fun k=>k=b11:=⟨_,rfl⟩
 obtain ⟨R,hRd⟩:∃ R:Nat->Prop,R=fun k=>k<w.heap.size\/k=b11:=⟨_,rfl⟩
 have hsz2:wa2.heap.size<=(w8).heap.size:=by rw [hwa2];exact Ge.le
 have hD1:DiskW P (fun k=>R k\/NoB k) d ⟨100000,[],[]⟩ w8:=hD0.keep (kpc:Keep NoB _ w8) (fun _ _ h=>h.elim) (fun k e=>by
  rw [hPd] at e
  exact ⟨by omega,.inr (by rw [hwa2] at hb11;omega)⟩) (fun k e=>by
  rcases e with e | e
  ·rw [hRd] at e
   rcases e with e | e
   ·exact ⟨by omega,.inl (show k<wa1.heap.size by omega)⟩
   ·exact ⟨by omega,.inr (by rw [hwa2] at hb11;omega)⟩
  ·exact e.elim)
 haveI sR:SubF (NotP R) NoB w:=⟨fun k hk e=>e (by rw [hRd];exact .inl hk)⟩
 have hRw:∀ k,k<w.heap.size->R k:=fun k e=>by rw [hRd];exact .inl e
 have hR11:R b11:=by rw [hRd];exact .inr rfl
 have hw11:w.heap.size<=b11:=by omega
 refine x_loop (fun m τ ds w'=>ds=[]/\∃ (k:Nat) (M:Disk) (Rf:LRef) (F:Nat->Prop),m=n - k/\k<=n/\DiskW P (fun j=>R j\/F j) d M w'/\RefAt w' F Rf/\RefS Rf M/\(∀ j,F j->j≠b11)/\M.lasts.length+M.waits.length<=k/\Blk w' b11 (.cells (refC Rf).toArray 34 (0,0))/\Ev τ 0 (.slice A n c)/\Ev τ 1 (.string name)/\Ev τ 2 (.int .i64 per)/\Ev τ 9 (ptrV d)/\Ev τ 10 (.int .i64 0)/\Ev τ 11 (ptrV b11)/\Ev τ 13 (.int .i64 (k:Int))/\Lk w' w NoB) (n) ?start ?round
 case start=>
  exact ⟨rfl,0,⟨100000,[],[]⟩,⟨100000,[],none,0,[],none,0⟩,NoB,rfl,Nat.zero_le _,hD1,refAt_nil _ _ (fun k e=>e.elim) _,refS_new (by decide),fun j e=>e.elim,by simp,ii,ii,ii,ii,ii,ii,ii,evc,lkc⟩
 case round=>
  intro m τ9 ds9 w9 hI
  obtain ⟨rfl,k,M,Rf,F,rfl,hk,hD,hAt,hS,hF11,hfew,kb11,e0,e1,e2,e9,e10,e11,e13,lk⟩:=hI
  refine x_seq (xq (xm (xm (xl_v v_len (xl_v v_lss (xl_nil ?_))))))
  refine x_if (fun c3=>?_) (fun c3=>?_)
  ·have hk1:k<xs.length:=by omega
   have hbl:=hok2.2 k hk1
   obtain ⟨hxn,hxc,hxnm⟩:=hns k hk1
   refine x_skip (x_seq (x_block (xq (xm (xm ?_)))))
   refine xl_v (v_indexF k (by decide) rfl (by omega) hk1) ?_
   refine xl_v (v_loadF (k:=k) (by decide) hk1) ?_
   refine xl_e (e_alloc fun b14 w10 nb14 lb14 kb14=>?_)
   refine xl_s (e_storeA fun w11 l11 k11=>?_)
   refine xl_nil ?_
   refine x_cut (fun τ ds w'=>ds=[]/\(DiskW P (fun j=>R j\/F j) d (M.does xs[k].t) w'/\RefAt w' F Rf/\okWhat xs[k].t)/\Blk w' b11 (.cells (refC Rf).toArray 34 (0,0))/\Blk w' b14 (.cells (thC xs[k]).toArray 62 (0,0))/\Ev τ 0 (.slice A n c)/\Ev τ 1 (.string name)/\Ev τ 2 (.int .i64 per)/\Ev τ 9 (ptrV d)/\Ev τ 10 (.int .i64 0)/\Ev τ 11 (ptrV b11)/\Ev τ 13 (.int .i64 (k:Int))/\Ev τ 14 (ptrV b14)/\Lk w' w NoB) ?_ ?_
   ·refine x_seq ?_
    have h14:(w9).heap.size<=b14/\b14<(w11).heap.size:=⟨by rw [nb14.eq];exact Ge.le,Has.lt⟩
    have h11B:b11<(w9).heap.size:=Has.lt
    refine x_regionL (xl_Fb ?_)
    refine xl_Lc ?_
    refine xl_nil ?_
    refine x_block (xq (xl_v v_eql (xz ?_)))
    refine x_if (fun c4=>?_) (fun c4=>?_)
    ·have hw0:xs[k].t.what=0:=by simpa using c4
     have hT:=thing_eq hw0
     obtain ⟨wG,hwG⟩:∃ z,z=w11:=⟨_,rfl⟩
     have hDw:DiskW (wide P w9 wG) (wide (fun j=>R j\/F j) w9 wG) d M wG:=by rw [hwG];exact hD.wide (kpc:Keep NoB w9 w11)
     haveI nS0:NotS (NotP (wide (fun j=>R j\/F j) w9 wG)) 0:=⟨fun e=>e (.inl (.inl (hRw 0 h0)))⟩
     haveI nS11:NotS (NotP (wide (fun j=>R j\/F j) w9 wG)) b11:=⟨fun e=>e (.inl (.inl hR11))⟩
     haveI nS14:NotS (NotP (wide (fun j=>R j\/F j) w9 wG)) b14:=⟨fun e=>e (.inr (by rw [hwG];exact h14))⟩
     haveI sW:SubF (NotP (wide (fun j=>R j\/F j) w9 wG)) NoB w:=⟨fun k hk e=>e (.inl (.inl (hRw k hk)))⟩
     haveI hrx:Row w11 xs[k].A (bytesC xs[k].t.bytes):=⟨(hrs k hk1).keep (kpc:Keep NoB w w11) (fun _ _ h=>h)⟩
     refine x_regionL (xm (xl_Fb ?_))
     refine xl_Lc ?_
     refine xl_Fb ?_
     refine xl_Lc ?_
     refine xl_call (put_ok _ _ d M xs[k].t.name xs[k].A xs[k].c xs[k].t.bytes xs[k].t.n w11 (hDw.ext (by rw [hwG];exact kpc)) (by omega) (by omega)) ?_
     rintro _ w12 ⟨rfl,hD2,lk18⟩
     rw [<- hT] at hD2
     have hop:DiskW P (fun j=>R j\/F j) d (M.does xs[k].t) w12/\RefAt w12 F Rf/\okWhat xs[k].t:=⟨hD2.narrow (fun k e=>.inl e) (fun k e=>.inl e),hAt.keep (kpc:Keep (NotP (wide (fun j=>R j\/F j) w9 wG)) _ w12) (fun k e e2=>e2 (.inl (.inr e))),.inl hw0⟩
     refine xl_nil ?_
     exact ⟨rfl,hop,ii,ii,ii,ii,ii,ii,ii,ii,ii,ii,lkc⟩
    refine xq (xl_v v_eql (xz ?_))
    refine x_if (fun c5=>?_) (fun c5=>?_)
    ·have hw1:xs[k].t.what=1:=by simpa using c5
     have hT:=thing_eq hw1
     obtain ⟨wG,hwG⟩:∃ z,z=w11:=⟨_,rfl⟩
     have hDw:DiskW (wide P w9 wG) (wide (fun j=>R j\/F j) w9 wG) d M wG:=by rw [hwG];exact hD.wide (kpc:Keep NoB w9 w11)
     haveI nS0:NotS (NotP (wide (fun j=>R j\/F j) w9 wG)) 0:=⟨fun e=>e (.inl (.inl (hRw 0 h0)))⟩
     haveI nS11:NotS (NotP (wide (fun j=>R j\/F j) w9 wG)) b11:=⟨fun e=>e (.inl (.inl hR11))⟩
     haveI nS14:NotS (NotP (wide (fun j=>R j\/F j) w9 wG)) b14:=⟨fun e=>e (.inr (by rw [hwG];exact h14))⟩
     haveI sW:SubF (NotP (wide (fun j=>R j\/F j) w9 wG)) NoB w:=⟨fun k hk e=>e (.inl (.inl (hRw k hk)))⟩
     refine x_regionL (xm (xl_Fb ?_))
     refine xl_Lc ?_
     refine xl_Fb ?_
     refine xl_Lc ?_
     refine xl_call (cut_ok _ _ d M xs[k].t.name xs[k].t.n xs[k].t.bytes w11 (hDw.ext (by rw [hwG];exact kpc)) (by omega) (by omega)) ?_
     rintro _ w13 ⟨rfl,hD2,lk20⟩
     rw [<- hT] at hD2
     have hop:DiskW P (fun j=>R j\/F j) d (M.does xs[k].t) w13/\RefAt w13 F Rf/\okWhat xs[k].t:=⟨hD2.narrow (fun k e=>.inl e) (fun k e=>.inl e),hAt.keep (kpc:Keep (NotP (wide (fun j=>R j\/F j) w9 wG)) _ w13) (fun k e e2=>e2 (.inl (.inr e))),.inr (.inl hw1)⟩
     refine xl_nil ?_
     exact ⟨rfl,hop,ii,ii,ii,ii,ii,ii,ii,ii,ii,ii,lkc⟩
    refine xq (xl_v v_eql (xz ?_))
    refine x_if (fun c6=>?_) (fun c6=>?_)
    ·have hw2:xs[k].t.what=2:=by simpa using c6
     have hT:=thing_eq hw2
     obtain ⟨wG,hwG⟩:∃ z,z=w11:=⟨_,rfl⟩
     have hDw:DiskW (wide P w9 wG) (wide (fun j=>R j\/F j) w9 wG) d M wG:=by rw [hwG];exact hD.wide (kpc:Keep NoB w9 w11)
     haveI nS0:NotS (NotP (wide (fun j=>R j\/F j) w9 wG)) 0:=⟨fun e=>e (.inl (.inl (hRw 0 h0)))⟩
     haveI nS11:NotS (NotP (wide (fun j=>R j\/F j) w9 wG)) b11:=⟨fun e=>e (.inl (.inl hR11))⟩
     haveI nS14:NotS (NotP (wide (fun j=>R j\/F j) w9 wG)) b14:=⟨fun e=>e (.inr (by rw [hwG];exact h14))⟩
     haveI sW:SubF (NotP (wide (fun j=>R j\/F j) w9 wG)) NoB w:=⟨fun k hk e=>e (.inl (.inl (hRw k hk)))⟩
     refine x_regionL (xm (xl_Fb ?_))
     refine xl_Lc ?_
     refine xl_call (remove_ok _ _ d M xs[k].t.name xs[k].t.n xs[k].t.bytes w11 (hDw.ext (by rw [hwG];exact kpc)) (by omega) (by omega)) ?_
     rintro _ w14 ⟨rfl,hD2,lk22⟩
     rw [<- hT] at hD2
     have hop:DiskW P (fun j=>R j\/F j) d (M.does xs[k].t) w14/\RefAt w14 F Rf/\okWhat xs[k].t:=⟨hD2.narrow (fun k e=>.inl e) (fun k e=>.inl e),hAt.keep (kpc:Keep (NotP (wide (fun j=>R j\/F j) w9 wG)) _ w14) (fun k e e2=>e2 (.inl (.inr e))),.inr (.inr hw2)⟩
     refine xl_nil ?_
     exact ⟨rfl,hop,ii,ii,ii,ii,ii,ii,ii,ii,ii,ii,lkc⟩
    refine x_seq ?_
    obtain ⟨wG,hwG⟩:∃ z,z=w11:=⟨_,rfl⟩
    have hDw:DiskW (wide P w9 wG) (wide (fun j=>R j\/F j) w9 wG) d M wG:=by rw [hwG];exact hD.wide (kpc:Keep NoB w9 w11)
    haveI nS0:NotS (NotP (wide (fun j=>R j\/F j) w9 wG)) 0:=⟨fun e=>e (.inl (.inl (hRw 0 h0)))⟩
    haveI nS11:NotS (NotP (wide (fun j=>R j\/F j) w9 wG)) b11:=⟨fun e=>e (.inl (.inl hR11))⟩
    haveI nS14:NotS (NotP (wide (fun j=>R j\/F j) w9 wG)) b14:=⟨fun e=>e (.inr (by rw [hwG];exact h14))⟩
    haveI sW:SubF (NotP (wide (fun j=>R j\/F j) w9 wG)) NoB w:=⟨fun k hk e=>e (.inl (.inl (hRw k hk)))⟩
    refine x_regionL (xm ?_)
    refine xl_call (flush_ok _ _ d M w11 (hDw.ext (by rw [hwG];exact kpc))) ?_
    rintro _ w15 ⟨rfl,hD2,lk15⟩
    have hop:DiskW P (fun j=>R j\/F j) d M.flush w15/\RefAt w15 F Rf:=⟨hD2.narrow (fun k e=>.inl e) (fun k e=>.inl e),hAt.keep (kpc:Keep (NotP (wide (fun j=>R j\/F j) w9 wG)) _ w15) (fun k e e2=>e2 (.inl (.inr e)))⟩
    obtain ⟨wH,hwH⟩:∃ z,z=w15:=⟨_,rfl⟩
    rw [<- hwH] at hop
    refine xl_nil ?_
    refine xq (xl_Lb ?_)
    refine xl_call (refflush_ok Rf M F w15 (by have h9:=hop.2;rw [hwH] at h9;exact h9.ext (kpc:Keep NoB _ w15)) hS) ?_
    rintro _ w16 ⟨⟨Rf2,F2,rfl,hS2,hAt2,hF2⟩,lk16⟩
    have hHp:wH.heap.size<=(w15).heap.size:=by rw [hwH];exact Ge.le
    have h11p:b11<(w15).heap.size:=Has.lt
    refine xl_s (e_storeA fun w17 l17 k17=>?_)
    refine xl_nil ?_
    have hnext:∃ M2 Rf2 F2,DiskW P (fun j=>R j\/F2 j) d M2 w17/\RefAt w17 F2 Rf2/\RefS Rf2 M2/\(∀ j,F2 j->j≠b11)/\M2.lasts.length+M2.waits.length<=k+1/\Blk w17 b11 (.cells (refC Rf2).toArray 34 (0,0)):=by
     have h9:∀ j,F2 j->j≠b11:=fun j e=>(hF2 j e).elim (fun e=>hF11 j e) (fun e=>by omega)
     have hAt3:RefAt w17 F2 Rf2:=hAt2.keep (kpc:Keep (OneB b11) _ w17) (fun j e e2=>h9 j e e2)
     refine ⟨M.flush,Rf2,F2,hop.1.keep (show Keep (OneB b11) wH w17 by rw [hwH];exact kpc) (fun j _ e=>by rw [hPd];exact e) (fun j e=>by rw [hPd] at e;subst e;exact ⟨Has.lt,.inl (by rw [hPd])⟩) (fun j e=>?_),hAt3,hS2,h9,by have:=flush_few M;omega,ii⟩
     rcases e with e | e
     ·refine ⟨?_,.inl (.inl e)⟩
      rw [hRd] at e
      rcases e with e | e
      ·exact Nat.lt_of_lt_of_le e Ge.le
      ·subst e;exact Has.lt
     ·refine ⟨hAt3.lt j e,?_⟩
      rcases hF2 j e with e3 | e3
      ·exact .inl (.inr e3)
      ·exact .inr (by omega)
    refine x_exit (x_regionL (xm ?_))
    refine xl_v (v_add (by omega)) ?_
    refine xz ?_
    obtain ⟨M2,Rf2,F2,q1,q2,q3,q4,q5,q6⟩:=hnext
    haveI:=q6
    refine ⟨_,?_,rfl,k+1,M2,Rf2,F2,rfl,by omega,q1,q2,q3,q4,by omega,q6,ii,ii,ii,ii,ii,ii,evc,lkc⟩
    omega
   intro τ18 ds18 w18 hI
   obtain ⟨rfl,hop,kb112,kb142,e0,e1,e2,e9,e10,e11,e13,e14,lk23⟩:=hI
   obtain ⟨wH,hwH⟩:∃ z,z=w18:=⟨_,rfl⟩
   rw [<- hwH] at hop
   refine x_regionL (xl_Lb ?_)
   refine xl_Lb ?_
   refine xl_call (refdo_ok Rf M F xs[k] w18 (by have h9:=hop.2.1;rw [hwH] at h9;exact h9.ext (kpc:Keep NoB _ w18)) hS (by omega) ((hrs k hk1).keep (kpc:Keep NoB w w18) (fun _ _ h=>h)) hxc (by omega) hop.2.2 hxnm hxn) ?_
   rintro _ w19 ⟨⟨Rf2,F2,rfl,hS2,hAt2,hF2⟩,lk232⟩
   have hHp:wH.heap.size<=(w18).heap.size:=by rw [hwH];exact Ge.le
   have h11p:b11<(w18).heap.size:=Has.lt
   refine xm (xl_v v_extract (xl_v v_extract ?_))
   refine xl_s (e_storeA fun w20 l20 k20=>?_)
   refine xl_nil ?_
   have hnext:∃ M2 Rf2 F2,DiskW P (fun j=>R j\/F2 j) d M2 w20/\RefAt w20 F2 Rf2/\RefS Rf2 M2/\(∀ j,F2 j->j≠b11)/\M2.lasts.length+M2.waits.length<=k+1/\Blk w20 b11 (.cells (refC Rf2).toArray 34 (0,0)):=by
    have hin:∀ j,F2 j->F j\/wH.heap.size<=j/\b11<j\/j<w.heap.size:=fun j e=>by
     rcases hF2 j e with e3 | e3 | ⟨e3,a,ha,e4⟩
     ·exact .inl e3
     ·exact .inr (.inl ⟨by omega,by omega⟩)
     ·have h9:=(rowB_of (hrs k hk1)).far.resolve_left (by simpa [bytesC] using e3) a ha
      exact .inr (.inr (by omega))
    have h9:∀ j,F2 j->j≠b11:=fun j e=>by
     rcases hin j e with e3 | e3 | e3
     ·exact hF11 j e3
     ·omega
     ·omega
    have hAt3:RefAt w20 F2 Rf2:=hAt2.keep (kpc:Keep (OneB b11) _ w20) (fun j e e2=>h9 j e e2)
    refine ⟨M.does xs[k].t,Rf2,F2,hop.1.keep (show Keep (OneB b11) wH w20 by rw [hwH];exact kpc) (fun j _ e=>by rw [hPd];exact e) (fun j e=>by rw [hPd] at e;subst e;exact ⟨Has.lt,.inl (by rw [hPd])⟩) (fun j e=>?_),hAt3,hS2,h9,by have:=doNo_few M xs[k].t;omega,ii⟩
    rcases e with e | e
    ·refine ⟨?_,.inl (.inl e)⟩
     rw [hRd] at e
     rcases e with e | e
     ·exact Nat.lt_of_lt_of_le e Ge.le
     ·subst e;exact Has.lt
    ·refine ⟨hAt3.lt j e,?_⟩
     rcases hin j e with e3 | e3 | e3
     ·exact .inl (.inr e3)
     ·exact .inr e3.1
     ·exact .inl (.inl (hRw j e3))
   refine x_regionL (xm ?_)
   refine xl_v (v_add (by omega)) ?_
   refine xz ?_
   obtain ⟨M2,Rf2,F2,q1,q2,q3,q4,q5,q6⟩:=hnext
   haveI:=q6
   refine ⟨_,?_,rfl,k+1,M2,Rf2,F2,rfl,by omega,q1,q2,q3,q4,by omega,q6,ii,ii,ii,ii,ii,ii,evc,lkc⟩
   omega
  refine x_exit (x_seq ?_)
  have hn20:=hok2.1
  have hm:=hS.ok
  haveI nS0:NotS (NotP (fun j=>R j\/F j)) 0:=⟨fun e=>e (.inl (hRw 0 h0))⟩
  haveI nS11:NotS (NotP (fun j=>R j\/F j)) b11:=⟨fun e=>e (.inl hR11)⟩
  haveI sRF:SubF (NotP (fun j=>R j\/F j)) NoB w:=⟨fun k hk e=>e (.inl (hRw k hk))⟩
  refine x_regionL (xm (xm (xm ?_)))
  refine xl_call (open3_ok P (fun j=>R j\/F j) d M name per w9 (hD.ext (kpc:Keep NoB _ w9)) (by omega) hper (by omega)) ?_
  rintro _ w21 ⟨⟨pv,no,rfl,hno1,hno2,hyes,hnot⟩,lk24⟩
  obtain ⟨wB,hwB⟩:∃ z,z=w21:=⟨_,rfl⟩
  have hAtB:RefAt wB F Rf:=by rw [hwB];exact hAt.keep (kpc:Keep (NotP (fun j=>R j\/F j)) _ w21) (fun k e e2=>e2 (.inr e))
  rw [<- hwB] at hyes hnot
  refine xm (xl_v v_extract (xl_v v_extract (xa (xz ?_))))
  refine xq (xl_Lb ?_)
  refine xm (xm ?_)
  refine xl_call (refopen3_ok F Rf M name per w21 tt tr (hAtB.ext (by rw [hwB];exact kpc)) hS (by omega) hper (by omega)) ?_
  rintro _ w22 ⟨⟨r4,no4,F4,rfl,hq1,hq2,hq3⟩,lk25⟩
  have hBp:wB.heap.size<=(w21).heap.size:=by rw [hwB];exact Ge.le
  obtain rfl:no4=no:=by
   by_cases hok:logName name=true/\1<=per/\per<=256
   ·rw [hno2.2 hok,hq2.2 hok]
   ·have h1:¬ no=0:=fun e=>hok (hno2.1 e)
    have h2:¬ no4=0:=fun e=>hok (hq2.1 e)
    rw [hno1.resolve_left h1,hq1.resolve_left h2]
  obtain ⟨wE,hwE⟩:∃ z,z=w22:=⟨_,rfl⟩
  rw [<- hwE] at hq3
  refine xm (xl_v v_extract (xl_v v_extract ?_))
  refine xl_e (e_alloc fun b17 w23 nb17 lb17 kb17=>?_)
  refine xl_s (e_storeA fun w24 l24 k24=>?_)
  refine xz ?_
  refine x_seq (xq (xm (xl_v v_neq (xl_nil ?_))))
  refine x_if (fun c7=>?_) (fun c7=>?_)
  ·have hne:no4≠0:=by first | exact c7 | (simpa using c7)
   obtain ⟨rfl,hDn⟩:=hnot hne
   refine xq (xm ?_)
   refine xl_v (by first | exact v_eql_pointerS | exact v_eql_pointerN) ?_
   refine xm (xl_gv rfl EvO.eq v_move ?_)
   refine xl_gcall rfl EvO.eq (num4_ok _ _) ?_
   rintro _ _ ⟨rfl,rfl⟩
   refine xl_gv rfl EvO.eq v_move ?_
   refine xl_gv rfl EvO.eq (v_congr (u:=.bool true) v_eql (by simp)) ?_
   refine xl_Pk ?_
   refine xm (xl_gv rfl EvO.eq v_move ?_)
   refine xl_gcall rfl EvO.eq (num4_ok _ _) ?_
   rintro _ _ ⟨rfl,rfl⟩
   refine xl_gv rfl EvO.eq (v_congr (u:=.bool true) v_eql (by simp)) ?_
   refine xl_Pk ?_
   refine xm (xl_gv rfl EvO.eq v_move ?_)
   refine xl_gLb rfl EvO.eq ?_
   refine xl_gcall rfl EvO.eq (disks4_ok P _ d M Rf F w24 (hDn.ext (by rw [hwB];exact kpc)) (hAtB.ext (by rw [hwB];exact kpc)) hS) ?_
   rintro _ w27 ⟨rfl,lk27⟩
   refine xl_Pk ?_
   refine xm ?_
   refine xl_gcall rfl EvO.eq (works4_ok w27) ?_
   rintro _ w28 ⟨rfl,lkw⟩
   refine xl_Pk ?_
   refine xz ?_
   refine x_ret ?_
   refine fin1 rfl ?_
   exact ⟨rfl,lkc⟩
  have hne:no4=0:=by first | exact c7 | (simpa using c7)
  subst hne
  have hok:=hno2.1 rfl
  obtain ⟨b,L,rfl,hL,l1,l2,l3,l4,l5⟩:=hyes rfl
  obtain ⟨hR4,s1,s2,s3,hF4⟩:=hq3 rfl
  obtain ⟨pn,hpn⟩:∃ pn:Nat,pn=per.toNat:=⟨_,rfl⟩
  rw [<- hpn] at hL l2 l4 hR4 s2 s3
  have hp1:1<=pn:=by omega
  have hO:=open_I hm (name:=name) (per:=pn) hp1 (fun n=>nameOk_file hok.1 n)
  obtain ⟨M4,hM4⟩:∃ M4,M4=openM M name pn:=⟨_,rfl⟩
  have hfo:=fat_open M name pn
  have hfm:=fat_few M
  rw [<- hM4] at hL hR4 hO hfo
  have hl4:=fat_lasts M4
  rw [<- l4] at hO
  have hR4w:RLogW w24 F4 r4 M4:=by
   exact hR4.keep (show Keep NoB wE w24 by rw [hwE];exact kpc) (fun _ _ e=>e)
  have hLw:LogW P (fun j=>R j\/F j) b L M4 w24:=hL.ext (by rw [hwB];exact kpc)
  haveI kbL:Blk w24 b (.cells (logC L).toArray 100 (0,0)):=⟨hLw.at_⟩
  refine x_skip (x_seq (xq (xm ?_)))
  refine xl_call (num4_ok _ _) ?_
  rintro _ _ ⟨rfl,rfl⟩
  refine xm ?_
  refine xl_call (num4_ok _ _) ?_
  rintro _ _ ⟨rfl,rfl⟩
  refine xl_v (v_add (by omega)) ?_
  refine xl_v (v_congr (u:=.bool false) v_neq (by simp)) ?_
  refine xm (xl_gv rfl EvO.eq v_move ?_)
  refine xl_gLb rfl EvO.eq ?_
  refine xl_gcall rfl EvO.eq (is4_ok _ _ b L M4 r4 F4 w24 tt tr (hLw.ext (kpc:Keep NoB _ w24)) (hR4w.ext (kpc:Keep NoB _ w24)) (by rw [s1,l1]) (by rw [s2,l2]) (by rw [s3,l5,l4]) (by rw [l1,l2];exact hO.2)) ?_
  rintro _ w31 ⟨rfl,lk28⟩
  refine xl_gv rfl EvO.eq v_not (xl_Pk ?_)
  refine xl_nil ?_
  refine x_condF ?_
  refine x_skip (xq (xm ?_))
  refine xl_call (waits_ok _ _ d M4 w31 (by have h9:=(hLw.ext (kpc:Keep NoB _ w31)).disk;rw [l3] at h9;exact h9)) ?_
  rintro _ w32 ⟨rfl,lk30⟩
  refine xz ?_
  refine x_seq ?_
  obtain ⟨wJ,hwJ⟩:∃ z,z=w32:=⟨_,rfl⟩
  have hLJ:LogW P (fun j=>R j\/F j) b L M4 wJ:=by rw [hwJ];exact hLw.ext (kpc:Keep NoB _ w32)
  obtain ⟨T,hT⟩:∃ T:Nat->Prop,T=fun k=>P k\/k=b\/AB L.A k:=⟨_,rfl⟩
  obtain ⟨RT,hRT⟩:∃ RT:Nat->Prop,RT=fun k=>(R k\/F k)\/k=b\/AB L.A k:=⟨_,rfl⟩
  have hTR:∀ k,T k->RT k:=fun k e=>by
   rw [hT] at e
   rw [hRT]
   exact e.imp (fun e=>.inl (by rw [hPd] at e;subst e;exact hR11)) id
  have hDJ:DiskW T RT d M4 wJ:=by have h9:=hLJ.disk;rw [l3] at h9;rw [hT,hRT];exact h9
  haveI sRT:SubF (NotP RT) NoB w:=⟨fun k hk e=>e (by rw [hRT];exact .inl (.inl (hRw k hk)))⟩
  refine x_regionL (xm (xm (xm ?_)))
  refine xl_call (open3_ok T RT d M4 name per w32 (hDJ.ext (by rw [hwJ];exact kpc)) (by omega) hper (by omega)) ?_
  rintro _ w33 ⟨⟨pv2,no2,rfl,hno3,hno4,hyes2,hnot2⟩,lk31⟩
  obtain rfl:=hno4.2 hok
  obtain ⟨b20,Lm,rfl,hLm,m1,m2,m3,m4,m5⟩:=hyes2 rfl
  rw [<- hpn] at hLm m2 m4
  have hag:openM M4 name pn=M4:=LogI.again hO.2 hp1
  rw [hag] at hLm
  rw [LogI.told hO.2 hp1] at m4
  have hLt:LogW (fun k=>P k\/k=b\/AB L.A k) (fun k=>P k\/k=b\/AB L.A k) b20 Lm M4 w33:=hLm.narrow (fun k e=>by rw [hT];exact e) (fun k e=>hTR k (by rw [hT];exact e))
  have hkJ:Keep (NotP RT) wJ w33:=by rw [hwJ];exact kpc
  have hLl:=hLt.turn (Lz:=L) (by rw [l3,m3]) ((hkJ.block b hLJ.lt.2.2.1 (fun e=>e (by rw [hRT];exact .inr (.inl rfl)))).trans hLJ.at_) (own_keep hLJ.row hkJ (fun k hk2 e=>e (by rw [hRT];exact .inr (.inr (AB_own hk2.symm))))) hLJ.nb (fun k e=>hLJ.pb k (.inl e)) hLJ.name hLJ.per1 hLJ.per2 hLJ.len hLJ.right
  have hlen:=hLJ.len
  refine xm (xl_v v_extract (xl_v v_extract (xa (xz ?_))))
  refine xq (xm ?_)
  refine xl_call (num4_ok _ _) ?_
  rintro _ _ ⟨rfl,rfl⟩
  refine xl_v (v_congr (u:=.bool true) v_eql (by simp)) ?_
  refine xm (xl_gv rfl EvO.eq v_move ?_)
  refine xl_gcall rfl EvO.eq (waits_ok _ _ d M4 w33 (by have h9:=(hLt.ext (kpc:Keep NoB _ w33)).disk;rw [m3] at h9;exact h9)) ?_
  rintro _ w35 ⟨rfl,lk325⟩
  refine xl_gv rfl EvO.eq v_move ?_
  refine xl_gv rfl EvO.eq (v_congr (u:=.bool true) v_eql (by simp)) ?_
  refine xl_Pk ?_
  refine xm (xl_gv rfl EvO.eq v_move ?_)
  refine xl_gcall rfl EvO.eq (lall_ok _ _ b20 Lm M4 w35 (hLt.ext (kpc:Keep NoB _ w35))) ?_
  rintro _ w36 ⟨⟨A11,c11,rfl,ho11⟩,lk3211⟩
  rw [m4] at ho11 ⊢
  refine xl_gv rfl EvO.eq v_move ?_
  refine xl_gcall rfl EvO.eq (lall_ok _ _ b L M4 w36 (hLl.ext (kpc:Keep NoB _ w36))) ?_
  rintro _ w37 ⟨⟨A13,c13,rfl,ho13⟩,lk3213⟩
  refine xl_gcall rfl EvO.eq ((haveI:Row w37 A11 (L.es.flatMap enC):=⟨own_row (own_ext ho11 (lkc:Lk w37 _ NoB))⟩;haveI:Row w37 A13 (L.es.flatMap enC):=⟨own_row (own_ext ho13 (lkc:Lk w37 _ NoB))⟩;same_ok A11 _ c11 L.es A13 _ c13 L.es w37 rfl rfl (by omega) (by omega))) ?_
  rintro _ w38 ⟨rfl,lk3214⟩
  rw [decide_eq_true (show L.es=L.es from rfl)]
  refine xl_Pk ?_
  refine xm ?_
  refine xl_gcall rfl EvO.eq (works4_ok w38) ?_
  rintro _ w39 ⟨rfl,lkw⟩
  refine xl_Pk ?_
  refine xz ?_
  refine x_ret ?_
  refine fin1 rfl ?_
  exact ⟨rfl,lkc⟩
end Go.Proofs.YtigmfcgeljjgnaaGreatDoor
