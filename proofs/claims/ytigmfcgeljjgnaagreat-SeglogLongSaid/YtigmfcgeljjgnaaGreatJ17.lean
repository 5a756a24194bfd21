/- A part of the walks through the log and its document, and of the law in plain Lean: GX GY. -/
import Derived.Test.YtigmfcgeljjgnaaGreatJ16
set_option linter.all false
set_option maxRecDepth 100000
set_option synthInstance.maxSize 100000
set_option synthInstance.maxHeartbeats 400000
namespace Go.Proofs.YtigmfcgeljjgnaaGreat
open Go.Wst
open Go.Wst.Dm Go.Wst.Sg
theorem lastE_app (q:Int) (a b:List En):lastE q (a++b)=lastE (lastE q a) b:=by
 unfold lastE
 cases hb:b.getLast? with
 | none=>
   have:b=[]:=List.getLast?_eq_none_iff.1 hb
   subst this
   simp
 | some z=>
   have:(a++b).getLast?=some z:=by rw [List.getLast?_append,hb];rfl
   rw [this]
theorem segE_right {fs:Fs} {name:ByteArray} {per first:Nat} {q:Int}:∀ e∈segE fs name per first q,Right e:=by
 have h:∀ (l:List En) (q:Int),(∀ e∈l,Right e)->∀ e∈riseE q l,Right e:=by
  intro l
  induction l with
  | nil=>intro q _ e he;simp [riseE] at he
  | cons x l ih=>
    intro q hl e he
    rw [riseE] at he
    split at he
    ·rcases List.mem_cons.1 he with he | he
     ·rw [he];exact hl x List.mem_cons_self
     ·exact ih x.epoch (fun y hy=>hl y (List.mem_cons_of_mem _ hy)) e he
    ·simp at he
 unfold segE
 exact h _ _ (fun e he=>(allB_spec _).1 e (List.mem_of_mem_take he))
theorem riseE_len (l:List En):∀ (q:Int),(riseE q l).length<=l.length:=by
 induction l with
 | nil=>intro q;simp [riseE]
 | cons x l ih=>
   intro q
   rw [riseE]
   split
   ·have:=ih x.epoch;simp;exact this
   ·simp
theorem segE_len {fs:Fs} {name:ByteArray} {per first:Nat} {q:Int}:(segE fs name per first q).length<=per/\(segE fs name per first q).length<=4096 - first:=by
 unfold segE
 have h1:=riseE_len ((allB ((akey fs (fileN name first)).getD [])).take (min per (4096 - first))) q
 rw [List.length_take] at h1
 omega
theorem strayB_own {name:ByteArray} {per len:Nat} (f:ByteArray) (h:strayB name per len f=true):ownB name f=true:=by
 unfold strayB at h
 unfold ownB
 split at h
 ·next hh=>rw [hh];rfl
 ·cases h
def ZB (b3 b5 b9:Nat):Nat->Prop:=fun k=>k=b3\/k=b5\/k=b9
theorem LogW.made {P R Z:Nat->Prop} {b:Nat} {L:LLog} {M:Disk} {w W:World} (h:DiskW P R L.d M w) (hk:Keep NoB w W) (hat:W.heap[b]?=some (.cells (logC L).toArray 69 (0,0))) (hb:w.heap.size<=b) (hZ:∀ k,Z k->w.heap.size<=k/\k<W.heap.size/\k≠b) (he:L.es=[]) (hA:L.A=none) (hc:L.c=0) (hn:logName L.name=true) (h1:1<=L.per) (h2:L.per<=256):LogW (fun k=>P k\/Z k) (fun k=>R k\/Z k) b L M W:=by
 have hab:∀ k,¬ AB L.A k:=fun k e=>by obtain ⟨a,e1,_⟩:=e;rw [hA] at e1;cases e1
 have hbl:b<W.heap.size:=(Array.getElem?_eq_some_iff.1 hat).1
 refine ⟨h.keep hk (fun _ _ h=>h.elim) (fun k e=>?_) (fun k e=>?_),hat,?_,hab b,fun k e=>⟨fun e2=>?_,hab k⟩,hn,h1,h2,by rw [he];simp,by rw [he];simp⟩
 ·rcases e with (e | e) | e | e
  ·exact ⟨Nat.lt_of_lt_of_le (h.lt.1 k e) hk.size,.inl e⟩
  ·exact ⟨(hZ k e).2.1,.inr (hZ k e).1⟩
  ·exact ⟨by rw [e];exact hbl,.inr (by rw [e];exact hb)⟩
  ·exact absurd e (hab k)
 ·rcases e with (e | e) | e | e
  ·exact ⟨Nat.lt_of_lt_of_le (h.lt.2 k e) hk.size,.inl e⟩
  ·exact ⟨(hZ k e).2.1,.inr (hZ k e).1⟩
  ·exact ⟨by rw [e];exact hbl,.inr (by rw [e];exact hb)⟩
  ·exact absurd e (hab k)
 ·rw [he,hA,hc]
  exact World.ownsRow_nil _ _ _ _
 ·rcases e with (e | e) | (e | e)
  ·have:=h.lt.1 k e;omega
  ·exact (hZ k e).2.2 e2
  ·have:=h.lt.2 k e;omega
  ·exact (hZ k e).2.2 e2
set_option maxHeartbeats 4000000 in
theorem open2_ok' (P R:Nat->Prop) (d:Nat) (M:Disk) (name:ByteArray) (per:Int) (w:World) (h:DiskW P R d M w) (hs:name.size<=1000000000) (hper:In64 per) (hfew:2*(M.lasts.length+M.waits.length)<=999900):Ret Tryz.prog 9 #[ptrV d,.string name,.int .i64 per] w (fun v w'=>(if logName name=true/\1<=per/\per<=256 then ∃ b L,v=.tuple #[ptrV b,.int .i64 0]/\LogW P R b L (openM M name per.toNat) w'/\L.name=name/\L.per=per.toNat/\L.d=d/\L.es=(Go.Wst.Sg.told M.files name per.toNat).1/\L.sure=(if M.waits=[] then L.es.length else 0)/\w.heap.size<=b/\(∀ k,AB L.A k->w.heap.size<=k) else v=.tuple #[.pointer none,.int .i64 2]/\DiskW P R d M w')/\Lk w' w (NotP R)):=by
 haveI i9:SubF NoB (NotP R) w:=⟨fun _ _ e=>e.elim⟩
 refine ret_of_x (N:=140) (l:=[ptrV d,.string name,.int .i64 per]) Tryz.func9 rfl rfl (Nat.le_of_ble_eq_true rfl) ?_
 refine xq ?_
 refine xl_e (e_box fun b3 w1 nb3 lb3 kb3=>?_)
 refine xl_e (e_box fun b5 w2 nb5 lb5 kb5=>?_)
 have kb3':=kb3
 refine xa (xz ?_)
 refine x_scope ?_
 refine xq (xz ?_)
 refine x_cut (fun τ ds w'=>ds=[]/\(logName name=true/\1<=per/\per<=256)/\Ev τ 1 (.string name)/\Ev τ 3 (ptrV b3)/\Ev τ 5 (ptrV b5)/\Blk w' b3 (.cells #[ptrV d] 28 (0,0))/\Blk w' b5 (.cells #[.int .i64 per] 3 (0,0))/\Lk w' w NoB) ?_ ?_
 ·refine x_block (xq (xl_Lc ?_))
  refine xl_call (copy_ok P R d M w2 (h.ext (kpc:Keep NoB w w2))) ?_
  rintro _ w3 ⟨⟨cc,Q,rfl,_,_,_⟩,lk2⟩
  refine xl_v (by first | exact v_eql_pointerS | exact v_eql_pointerN) ?_
  refine xz ?_
  refine x_condF ?_
  refine xq (xm (xl_v v_lens ?_))
  refine xl_call (below_ok (name.size:Int) 1 9 w3) ?_
  rintro _ _ ⟨rfl,rfl⟩
  refine xl_v v_not (xm ?_)
  refine xl_split 27 (fun g27=>?_) (fun g27=>?_)
  ·have g4:¬ (1<=(name.size:Int)/\(name.size:Int)<9):=by simp only [Bool.not_eq_true',decide_eq_false_iff_not] at g27;exact g27
   refine xl_gs rfl EvO.eq (xl_gs rfl EvO.eq (xl_gs rfl EvO.eq (xl_gs rfl EvO.eq (xl_Pk ?_))))
   refine xm (xl_gs rfl EvO.eq (xl_gs rfl EvO.eq (xl_gs rfl EvO.eq (xl_Pk ?_))))
   refine xz ?_
   refine x_condT ?_
   refine xq (xa (xz ?_))
   refine x_ret ?_
   refine fin2 rfl ?_
   refine ⟨?_,lkc⟩
   rw [if_neg]
   ·exact ⟨rfl,h.ext (kpc:Keep NoB w w3)⟩
   ·rintro ⟨q1,q2,q3⟩
    simp only [logName,Bool.and_eq_true,decide_eq_true_eq] at q1
    first
     | omega
     | (have q4:=hi.1 g5
        rw [q1.2] at q4;cases q4)
     | (simp only [Bool.not_eq_true',decide_eq_false_iff_not] at c2
        omega)
  have g4:1<=(name.size:Int)/\(name.size:Int)<9:=by simp only [Bool.not_eq_false',decide_eq_true_eq] at g27;exact g27
  refine xl_gv rfl EvO.eq v_move (xl_gv rfl EvO.eq v_move ?_)
  refine xl_gcall rfl EvO.eq (IdxF_L name w3 hs) ?_
  rintro _ w5 ⟨⟨i,rfl,hi⟩,lk47⟩
  refine xl_gv rfl EvO.eq v_geq (xl_Pk ?_)
  refine xm ?_
  refine xl_split 33 (fun g33=>?_) (fun g33=>?_)
  ·have g5:=of_decide_eq_true g33
   refine xl_gs rfl EvO.eq (xl_gs rfl EvO.eq (xl_gs rfl EvO.eq (xl_Pk ?_)))
   refine xz ?_
   refine x_condT ?_
   refine xq (xa (xz ?_))
   refine x_ret ?_
   refine fin2 rfl ?_
   refine ⟨?_,lkc⟩
   rw [if_neg]
   ·exact ⟨rfl,h.ext (kpc:Keep NoB w w5)⟩
   ·rintro ⟨q1,q2,q3⟩
    simp only [logName,Bool.and_eq_true,decide_eq_true_eq] at q1
    first
     | omega
     | (have q4:=hi.1 g5
        rw [q1.2] at q4;cases q4)
     | (simp only [Bool.not_eq_true',decide_eq_false_iff_not] at c2
        omega)
  have g5:=of_decide_eq_false g33
  refine xl_gLc rfl EvO.eq ?_
  refine xl_gcall rfl EvO.eq (below_ok per 1 257 w5) ?_
  rintro _ _ ⟨rfl,rfl⟩
  refine xl_gv rfl EvO.eq v_not (xl_Pk ?_)
  refine xz ?_
  refine x_if (fun c2=>?_) (fun c2=>?_)
  ·refine xq (xa (xz ?_))
   refine x_ret ?_
   refine fin2 rfl ?_
   refine ⟨?_,lkc⟩
   rw [if_neg]
   ·exact ⟨rfl,h.ext (kpc:Keep NoB w w5)⟩
   ·rintro ⟨q1,q2,q3⟩
    simp only [logName,Bool.and_eq_true,decide_eq_true_eq] at q1
    first
     | omega
     | (have q4:=hi.1 g5
        rw [q1.2] at q4;cases q4)
     | (simp only [Bool.not_eq_true',decide_eq_false_iff_not] at c2
        omega)
  refine x_skip ?_
  refine ⟨rfl,⟨?_,?_⟩,ii,ii,ii,ii,ii,lkc⟩
  ·simp only [logName,Bool.and_eq_true,decide_eq_true_eq]
   refine ⟨⟨by omega,by omega⟩,?_⟩
   rcases Bool.eq_false_or_eq_true (name.toList.all byteL) with q | q
   ·exact q
   ·exact absurd (hi.2 q) g5
  ·first | omega | (simp only [Bool.not_eq_false',decide_eq_true_eq] at c2;omega)
 intro τ7 ds7 w7 hI
 obtain ⟨rfl,hok,e1,e3,e5,kb3,kb5,lk6⟩:=hI
 obtain ⟨pn,rfl⟩:∃ pn:Nat,per=(pn:Int):=⟨per.toNat,by omega⟩
 refine xq (xm (xl_Lc ?_))
 refine xl_v v_build (xl_Lc ?_)
 refine xl_v v_build ?_
 refine xl_e (e_box fun b w8 nb lb kb=>?_)
 refine xl_e (e_alloc fun b9 w9 nb9 lb9 kb9=>?_)
 refine xl_s (e_store fun w10 l10 k10=>?_)
 refine xl_nil ?_
 have hb3w:w.heap.size<=b3:=Nat.le_of_eq nb3.eq.symm
 have hb5w:w.heap.size<=b5:=by rw [nb5.eq];exact Ge.le
 have hbw:w.heap.size<=b:=by rw [nb.eq];exact Ge.le
 have hb9w:w.heap.size<=b9:=by rw [nb9.eq];exact Ge.le
 have hb3b:b3<b:=by have h1:=nb.eq;have h2:=(Array.getElem?_eq_some_iff.1 kb3.eq).1;omega
 have hb5b:b5<b:=by have h1:=nb.eq;have h2:=(Array.getElem?_eq_some_iff.1 kb5.eq).1;omega
 have hb9b:b<b9:=by have h1:=nb9.eq;have h2:=(Array.getElem?_eq_some_iff.1 kb.eq).1;omega
 have hb35:b3<b5:=by have h1:=nb5.eq;have h2:=nb3.eq;have h3:=(Array.getElem?_eq_some_iff.1 kb3'.eq).1;omega
 obtain ⟨Z,hZ⟩:∃ Z,Z=ZB b3 b5 b9:=⟨_,rfl⟩
 have hZ3:Z b3:=by rw [hZ];exact .inl rfl
 have hZ5:Z b5:=by rw [hZ];exact .inr (.inl rfl)
 have hZ9:Z b9:=by rw [hZ];exact .inr (.inr rfl)
 have hZw:∀ k,Z k->w.heap.size<=k/\k<(w10).heap.size/\k≠b:=fun k e=>by
  have h3:=(Array.getElem?_eq_some_iff.1 (ii:Blk w10 b3 (.cells #[ptrV d] 28 (0,0))).eq).1
  have h5:=(Array.getElem?_eq_some_iff.1 (ii:Blk w10 b5 (.cells #[.int .i64 (pn:Int)] 3 (0,0))).eq).1
  have h9:b9<(w10).heap.size:=Has.lt
  rw [hZ] at e
  rcases e with e | e | e<;>subst e<;>omega
 have hL0:LogW (fun k=>P k\/Z k) (fun k=>R k\/Z k) b ⟨name,pn,d,[],none,0,0⟩ M w10:=LogW.made h (kpc:Keep NoB w w10) Blk.eq hbw hZw rfl rfl rfl hok.1 (by show 1<=pn;omega) (by show pn<=256;omega)
 refine xq (xl_Lc ?_)
 refine xl_call (waits_ok P R d M w10 (h.ext (kpc:Keep NoB w w10))) ?_
 rintro _ w11 ⟨rfl,lk7⟩
 refine xl_v v_eql (xz ?_)
 refine x_seq ?_
 refine x_label ?_
 refine x_cut (fun τ ds w'=>ds=[]/\(∃ L1,LogW (fun k=>P k\/Z k) (fun k=>R k\/Z k) b L1 (doAll M (mendT M.files name pn)) w'/\L1.name=name/\L1.per=pn/\L1.d=d/\L1.sure=0/\L1.es=(Go.Wst.Sg.told M.files name pn).1/\(∀ j,AB L1.A j->w.heap.size<=j))/\Ev τ 3 (ptrV b3)/\Ev τ 5 (ptrV b5)/\Ev τ 9 (ptrV b9)/\Ev τ 10 (.bool (decide ((M.waits.length:Int)=0)))/\Blk w' b3 (.cells #[ptrV d] 28 (0,0))/\Blk w' b5 (.cells #[.int .i64 (pn:Int)] 3 (0,0))/\Blk w' b9 (.cells #[ptrV b] 32 (0,0))/\Lk w' w (NotP R)) ?_ ?_
 ·refine xq (xz ?_)
  refine x_block ?_
  have hAB0:∀ j,AB (none:Option Addr) j->w.heap.size<=j:=fun j e=>by obtain ⟨a,e1,_⟩:=e;cases e1
  have hL0w:=hL0.ext (kpc:Keep NoB _ w11)
  have hwt:w.heap.size<=(w11).heap.size:=Ge.le
  refine x_loop (fun t τ ds w'=>ds=[]/\∃ (fz k:Nat) (L1:LLog),t=4097 - fz/\fz<4096/\4097<=k+fz/\LogW (fun k=>P k\/Z k) (fun k=>R k\/Z k) b L1 M w'/\L1.name=name/\L1.per=pn/\L1.d=d/\L1.sure=0/\L1.es.length=fz/\Go.Wst.Sg.told M.files name pn=(L1.es++(toldN M.files name pn k fz (lastE 0 L1.es)).1,(toldN M.files name pn k fz (lastE 0 L1.es)).2)/\(∀ j,AB L1.A j->w.heap.size<=j)/\Ev τ 3 (ptrV b3)/\Ev τ 5 (ptrV b5)/\Ev τ 9 (ptrV b9)/\Ev τ 10 (.bool (decide ((M.waits.length:Int)=0)))/\Ev τ 11 (.int .i64 (fz:Int))/\Blk w' b3 (.cells #[ptrV d] 28 (0,0))/\Blk w' b5 (.cells #[.int .i64 (pn:Int)] 3 (0,0))/\Blk w' b9 (.cells #[ptrV b] 32 (0,0))/\Lk w' w (NotP R)) (4097) ?start ?round
  case start=>
   exact ⟨rfl,0,4097,_,rfl,by decide,by decide,hL0w,rfl,rfl,rfl,rfl,rfl,rfl,hAB0,ii,ii,ii,ii,evc,ii,ii,ii,lkc⟩
  case round=>
   intro m τ12 ds12 w12 hI
   obtain ⟨rfl,fz,k,L1,rfl,hfz,hk,h1,q1,q2,q3,q4,q5,htold,hABw,e3,e5,e9,e10,e11,kb31,kb51,kb91,lk1⟩:=hI
   haveI kb1:Blk w12 b (.cells (logC L1).toArray 69 (0,0)):=⟨h1.at_⟩
   haveI nAb:NotS (AB L1.A) b:=⟨h1.nb⟩
   haveI nA3:NotS (AB L1.A) b3:=⟨(h1.pb b3 (.inl (.inr hZ3))).2⟩
   haveI nA5:NotS (AB L1.A) b5:=⟨(h1.pb b5 (.inl (.inr hZ5))).2⟩
   haveI nA9:NotS (AB L1.A) b9:=⟨(h1.pb b9 (.inl (.inr hZ9))).2⟩
   haveI nO3:NotS (OwnB (.slice L1.A L1.es.length L1.c)) b3:=⟨fun e=>nA3.not (AB_own e)⟩
   haveI nO5:NotS (OwnB (.slice L1.A L1.es.length L1.c)) b5:=⟨fun e=>nA5.not (AB_own e)⟩
   haveI nO9:NotS (OwnB (.slice L1.A L1.es.length L1.c)) b9:=⟨fun e=>nA9.not (AB_own e)⟩
   haveI nOb:NotS (OwnB (.slice L1.A L1.es.length L1.c)) b:=⟨fun e=>nAb.not (AB_own e)⟩
   haveI n3b:NeB b3 b:=⟨by omega⟩
   haveI n5b:NeB b5 b:=⟨by omega⟩
   haveI n9b:NeB b9 b:=⟨by omega⟩
   haveI i1:SubS (OwnB (.slice L1.A L1.es.length L1.c)) (AB L1.A):=⟨fun j e=>AB_own e⟩
   haveI i7:SubF (OwnB (.slice L1.A L1.es.length L1.c)) (NotP R) w:=⟨fun j hj e e2=>by have:=hABw j (AB_own e);omega⟩
   haveI i8:SubF (OneB b) (NotP R) w:=⟨fun j hj e e2=>by have e':j=b:=e;omega⟩
   have hlen1:=h1.len
   refine x_seq (x_block (xq (xl_Lc ?_)))
   refine xm ?_
   refine xl_call (segment_ok _ _ b L1 M fz w12 (h1.ext (kpc:Keep NoB w12 w12)) (by omega)) ?_
   rintro _ w13 ⟨⟨As,cs,rfl,hRowS,hABs⟩,lkS⟩
   rw [q1,q2] at hRowS ⊢
   obtain ⟨sl,hsl⟩:∃ sl,sl=segE M.files name pn fz (lastE 0 L1.es):=⟨_,rfl⟩
   rw [<- hsl] at hRowS ⊢
   have hslp:sl.length<=pn/\sl.length<=4096 - fz:=by rw [hsl];exact segE_len
   have hslR:∀ e∈sl,Right e:=by rw [hsl];exact segE_right
   refine xm (xl_v v_extract (xl_v v_extract (xl_v v_extract (xa (xa (xz ?_))))))
   refine x_seq ?_
   haveI i3:SubF (OwnB (.slice L1.A L1.es.length L1.c)) (WL b L1.A) w13:=⟨fun j _ e=>.inr (AB_own e)⟩
   haveI i4:SubF (OneB b) (WL b L1.A) w13:=⟨fun j _ e=>.inl e⟩
   obtain ⟨wG,hwG⟩:∃ x,x=w13:=⟨_,rfl⟩
   have h1G:LogW (fun k=>P k\/Z k) (fun k=>R k\/Z k) b L1 M wG:=by rw [hwG];exact h1.ext kpc
   have hAs:sl.length=0\/As.isSome=true:=by
    rcases Nat.eq_zero_or_pos sl.length with e | e
    ·exact .inl e
    ·exact .inr (row_some hRowS (by rw [flat_len (sz:=6) (fun _=>rfl)];omega))
   have hRowG:RowP wG As (sl.flatMap enC):=by rw [hwG];exact hRowS.row
   refine x_drawL (AB L1.A) (allS) (.take 0 (.take 1 (.take 2 (.take 3 (.take 4 (.take 5 (.eff 6 (.take 7 (.take 8 (.free 9 .done)))))))))) mixed (by kernel_rfl) (fun _ _ _ _ _ h=>h) (fun w14 l14=>?_)
   refine xt_Lc rfl ?_
   refine xt_Lc rfl ?_
   refine xt_Nc rfl ?_
   refine xt_Fb rfl ?_
   refine xt_Lc rfl ?_
   refine xt_v rfl v_move ?_
   have hszG:wG.heap.size<=(w14).heap.size:=by rw [hwG];exact Ge.le
   refine xt_e rfl (e_append' (own_ext h1G.row (by rw [hwG];exact lkc)) (Nat.zero_le _) (flat_len (sz:=6) (fun _=>rfl) _) (enC_one _) (by decide) hAs.symm (by omega) (by omega) fun A4 c4 w15 ho4 l4 hn4=>?_)
   refine xt_Nc rfl ?_
   refine xt_Fb rfl ?_
   refine xt_fs rfl (e_store fun w16 l16 k16=>?_)
   refine xt_nil ?_
   obtain ⟨L2,hL2⟩:∃ L2:LLog,L2=⟨L1.name,L1.per,L1.d,L1.es++sl,A4,c4,L1.sure⟩:=⟨_,rfl⟩
   have hle2:(L1.es++sl).length=L1.es.length+sl.length:=List.length_append
   have hkW:Keep (WL b L1.A) wG w16:=by rw [hwG];exact kpc
   have hA4:∀ j,AB A4 j->AB L1.A j\/wG.heap.size<=j:=fun j hj=>by
    have h6:=AB_to (L1.es.length+sl.length) c4 hj
    rcases hn4 with h5 | h5
    ·exact .inl (AB_own (n:=L1.es.length) (c:=L1.c) (show some j=_ from (show some j=_ from h6).trans h5))
    ·have h7:some j=_:=h6
     rw [h5] at h7
     cases h7
     exact .inr hszG
   have ho5:=own_keep ho4 (kpc:Keep (OneB b) _ w16) (fun j hj e=>by
    have e':j=b:=e
    rcases hA4 j (AB_own (Eq.symm hj)) with h5 | h5
    ·exact h1.nb (e' ▸ h5)
    ·have:=h1G.lt.2.2.1;omega)
   have h2:LogW (fun k=>P k\/Z k) (fun k=>R k\/Z k) b L2 M w16:=by
    refine h1G.written hkW (fun _ _ e=>e) (by rw [hL2]) (by rw [hL2]) (by rw [hL2]) ?_ ?_ ?_ ?_ ?_
    ·rw [hL2]
     simp only [logC,hle2]
     exact Blk.eq
    ·rw [hL2]
     simp only [hle2,List.flatMap_append]
     exact ho5
    ·rw [hL2]
     exact hA4
    ·rw [hL2]
     simp only [hle2]
     omega
    ·rw [hL2]
     intro e he
     rcases List.mem_append.1 he with he | he
     ·exact h1.right e he
     ·exact hslR e he
   haveI kb2:Blk w16 b (.cells (logC L2).toArray 69 (0,0)):=⟨h2.at_⟩
   have hE2:L2.es=L1.es++sl:=by rw [hL2]
   have hEl:L2.es.length=fz+sl.length:=by rw [hE2,hle2,q5]
   have hAB2:∀ j,AB L2.A j->w.heap.size<=j:=fun j e=>by
    rw [hL2] at e
    rcases hA4 j e with e | e
    ·exact hABw j e
    ·have:w.heap.size<=wG.heap.size:=by rw [hwG];exact Ge.le
     omega
   have r1:L2.name=name:=by rw [hL2];exact q1
   have r2:L2.per=pn:=by rw [hL2];exact q2
   have r3:L2.d=d:=by rw [hL2];exact q3
   have r4:L2.sure=0:=by rw [hL2];exact q4
   refine x_cut (fun τ ds w'=>ds=[]/\(sl.length<pn\/4096<=fz+sl.length)/\w'=w16/\Ev τ 3 (ptrV b3)/\Ev τ 5 (ptrV b5)/\Ev τ 9 (ptrV b9)/\Ev τ 10 (.bool (decide ((M.waits.length:Int)=0)))/\Ev τ 11 (.int .i64 (fz:Int))/\Ev τ 12 (.slice As sl.length cs)/\Ev τ 13 (.int .i64 (((akey M.files (fileN name fz)).getD []).length:Int))/\Ev τ 14 (.bool (akey M.files (fileN name fz)).isSome)) ?_ ?_
   ·refine xq (xm (xl_v v_len (xl_Lc ?_)))
    refine xl_v v_eql (xm ?_)
    refine xl_split 70 (fun g70=>?_) (fun g70=>?_)
    ·have g12:=of_decide_eq_true g70
     refine xl_gLc rfl EvO.eq ?_
     refine xl_gNc rfl EvO.eq ?_
     refine xl_gFb rfl EvO.eq ?_
     refine xl_gLc rfl EvO.eq ?_
     refine xl_gv rfl EvO.eq v_len (xl_gv rfl EvO.eq v_lss (xl_Pk ?_))
     refine xl_nil ?_
     refine x_if (fun c3=>?_) (fun c3=>?_)
     ·refine x_exit (x_regionL (xm (xl_Lc ?_)))
      refine xl_v (v_add (by omega)) ?_
      refine xz ?_
      obtain ⟨k',rfl⟩:∃ k',k=k'+1:=⟨k - 1,by omega⟩
      have hstep:Go.Wst.Sg.told M.files name pn=(L2.es++(toldN M.files name pn k' (fz+pn) (lastE 0 L2.es)).1,(toldN M.files name pn k' (fz+pn) (lastE 0 L2.es)).2):=by
       rw [htold,toldN,<- hsl,if_neg (by omega),hE2,lastE_app,List.append_assoc]
      refine ⟨_,?_,rfl,fz+pn,k',L2,rfl,by omega,by omega,h2,r1,r2,r3,r4,by omega,hstep,hAB2,ii,ii,ii,ii,evc,ii,ii,ii,lkc⟩
      omega
     refine x_skip ?_
     exact ⟨rfl,by omega,rfl,ii,ii,ii,ii,ii,ii,ii,ii⟩
    have g12:=of_decide_eq_false g70
    refine xl_gs rfl EvO.eq (xl_gs rfl EvO.eq (xl_gs rfl EvO.eq (xl_gs rfl EvO.eq (xl_gs rfl EvO.eq (xl_gs rfl EvO.eq (xl_Pk ?_))))))
    refine xl_nil ?_
    refine x_condF ?_
    refine x_skip ?_
    exact ⟨rfl,by omega,rfl,ii,ii,ii,ii,ii,ii,ii,ii⟩
   intro τ17 ds17 w17 hI
   obtain ⟨rfl,hstop,hw',e3,e5,e9,e10,e11,e12,e13,e14⟩:=hI
   subst hw'
   have hfin:Go.Wst.Sg.told M.files name pn=(L2.es,fz):=by
    obtain ⟨k',rfl⟩:∃ k',k=k'+1:=⟨k - 1,by omega⟩
    rw [htold,toldN,<- hsl,if_pos (by omega),hE2]
   have hdrop:L2.es.drop fz=sl:=by rw [hE2,<- q5,List.drop_left]
   have hmend1:∀ bt,akey M.files (fileN name fz)=some bt->mendT M.files name pn=if (frames sl).length=0 then [rmT (fileN name fz)] else if (frames sl).length<bt.length then [cutT (fileN name fz) (frames sl).length] else []:=fun bt hbt=>by
    unfold mendT
    rw [hfin]
    simp only [hdrop,hbt]
   have hmend0:akey M.files (fileN name fz)=none->mendT M.files name pn=[]:=fun hbt=>by
    unfold mendT
    rw [hfin]
    simp only [hbt]
   have hRow2:RowP w17 As (sl.flatMap enC):=hRowG.keep hkW (fun a ha e=>by
    have h8:=(hABs a.block ⟨a,ha,rfl⟩).1
    have h9:=h1.lt
    rcases e with e | e
    ·omega
    ·have:=h9.2.2.2 _ e;omega)
   have hns:name.size<=8:=by have:=hok.1;simp only [logName,Bool.and_eq_true,decide_eq_true_eq] at this;exact this.1.2
   have hD2:DiskW (fun k=>(P k\/Z k)\/k=b\/AB L2.A k) (fun k=>(R k\/Z k)\/k=b\/AB L2.A k) d M w17:=by have:=h2.disk;rwa [r3] at this
   haveI nT3:NotS (NotP (fun k=>(R k\/Z k)\/k=b\/AB L2.A k)) b3:=⟨fun e=>e (.inl (.inr hZ3))⟩
   haveI nT5:NotS (NotP (fun k=>(R k\/Z k)\/k=b\/AB L2.A k)) b5:=⟨fun e=>e (.inl (.inr hZ5))⟩
   haveI nT9:NotS (NotP (fun k=>(R k\/Z k)\/k=b\/AB L2.A k)) b9:=⟨fun e=>e (.inl (.inr hZ9))⟩
   haveI nTb:NotS (NotP (fun k=>(R k\/Z k)\/k=b\/AB L2.A k)) b:=⟨fun e=>e (.inr (.inl rfl))⟩
   haveI sT:SubF (NotP (fun k=>(R k\/Z k)\/k=b\/AB L2.A k)) (NotP R) w:=⟨fun k _ e e2=>e (.inl (.inl e2))⟩
   refine x_seq (xq (xm ?_))
   refine xl_call (size_ok (hra:=rowB_of hRow2) As sl.length cs sl w17 rfl (by omega) hslR) ?_
   rintro _ w18 ⟨rfl,lk13⟩
   refine xz ?_
   refine x_block (xq (xm (xm ?_)))
   refine xl_split 82 (fun g82=>?_) (fun g82=>?_)
   ·have g14:(akey M.files (fileN name fz)).isSome=true:=g82
    refine xl_gv rfl EvO.eq v_move (xl_gv rfl EvO.eq v_eql (xl_Pk ?_))
    refine xz ?_
    refine x_if (fun c4=>?_) (fun c4=>?_)
    ·have hg0:(frames sl).length=0:=by omega
     obtain ⟨bt,hbt⟩:=Option.isSome_iff_exists.1 g14
     have hdo:doAll M (mendT M.files name pn)=M.does (rmT (fileN name fz)):=by rw [hmend1 bt hbt,if_pos hg0];rfl
     refine x_drawL (NotP (fun k=>(R k\/Z k)\/k=b\/AB L2.A k)) (allS) (.take 0 (.take 1 (.take 2 (.take 3 (.take 4 (.take 5 (.eff 6 (.eff 7 .done)))))))) mixed (by kernel_rfl) (fun _ _ _ _ _ h=>h) (fun w19 l19=>?_)
     refine xt_Lc rfl ?_
     refine xt_Lc rfl ?_
     refine xt_Nc rfl ?_
     refine xt_Fb rfl ?_
     refine xt_Lb rfl ?_
     refine xt_v rfl v_move ?_
     refine xt_call rfl (file_ok L2.name L2.per fz w19 (by omega) (by rw [r1];omega)) ?_
     rintro _ w20 ⟨rfl,lk156⟩
     refine ⟨kpc,?_⟩
     refine xt_call rfl (remove_ok _ _ d M (fileN L2.name fz) 0 [] w20 (hD2.ext kpc) (by simp) (by omega)) ?_
     rintro _ w21 ⟨rfl,hDr,lkr⟩
     refine ⟨kpc,?_⟩
     have hlog:LogW (fun k=>P k\/Z k) (fun k=>R k\/Z k) b L2 (doAll M (mendT M.files name pn)) w21:=by
      rw [hdo]
      rw [r1] at hDr
      exact (h2.ext (kpc:Keep NoB _ w20)).disked (by rw [r3];exact hDr) lkr.keep
     refine xt_nil ?_
     refine x_exit ?_
     exact ⟨rfl,⟨L2,hlog,r1,r2,r3,r4,by rw [hfin],hAB2⟩,ii,ii,ii,ii,ii,ii,ii,lkc⟩
    have g14:¬ ((akey M.files (fileN name fz)).isSome=true/\(frames sl).length=0):=fun e=>by omega
    refine xq (xm (xm ?_))
    refine xl_split 96 (fun g96=>?_) (fun g96=>?_)
    ·have g16:(akey M.files (fileN name fz)).isSome=true:=g96
     obtain ⟨bt,hbt⟩:=Option.isSome_iff_exists.1 g16
     have hg1:(frames sl).length≠0:=fun e=>g14 ⟨g16,e⟩
     have hbl:((akey M.files (fileN name fz)).getD []).length=bt.length:=by rw [hbt];rfl
     refine xl_gv rfl EvO.eq v_move (xl_gv rfl EvO.eq v_move (xl_gv rfl EvO.eq v_lss (xl_Pk ?_)))
     refine xz ?_
     refine x_if (fun c5=>?_) (fun c5=>?_)
     ·have hg2:(frames sl).length<bt.length:=by omega
      have hdo:doAll M (mendT M.files name pn)=M.does (cutT (fileN name fz) (frames sl).length):=by rw [hmend1 bt hbt,if_neg hg1,if_pos hg2];rfl
      refine x_drawL (NotP (fun k=>(R k\/Z k)\/k=b\/AB L2.A k)) (allS) (.take 0 (.take 1 (.take 2 (.take 3 (.take 4 (.take 5 (.take 7 (.eff 6 (.eff 8 .done))))))))) mixed (by kernel_rfl) (fun _ _ _ _ _ h=>h) (fun w22 l22=>?_)
      refine xt_Lc rfl ?_
      refine xt_Lc rfl ?_
      refine xt_Nc rfl ?_
      refine xt_Fb rfl ?_
      refine xt_Lb rfl ?_
      refine xt_v rfl v_move (xt_v rfl v_move ?_)
      refine xt_call rfl (file_ok L2.name L2.per fz w22 (by omega) (by rw [r1];omega)) ?_
      rintro _ w23 ⟨rfl,lk176⟩
      refine ⟨kpc,?_⟩
      refine xt_call rfl (cut_ok _ _ d M (fileN L2.name fz) ((frames sl).length:Int) [] w23 (hD2.ext kpc) (by simp) (by omega)) ?_
      rintro _ w24 ⟨rfl,hDr,lkr⟩
      refine ⟨kpc,?_⟩
      have hlog:LogW (fun k=>P k\/Z k) (fun k=>R k\/Z k) b L2 (doAll M (mendT M.files name pn)) w24:=by
       rw [hdo]
       rw [r1] at hDr
       exact (h2.ext (kpc:Keep NoB _ w23)).disked (by rw [r3];exact hDr) lkr.keep
      refine xt_nil ?_
      refine x_exit ?_
      exact ⟨rfl,⟨L2,hlog,r1,r2,r3,r4,by rw [hfin],hAB2⟩,ii,ii,ii,ii,ii,ii,ii,lkc⟩
     have hg2:¬ (frames sl).length<bt.length:=by omega
     have hdo:doAll M (mendT M.files name pn)=M:=by rw [hmend1 bt hbt,if_neg hg1,if_neg hg2];rfl
     have hlog:LogW (fun k=>P k\/Z k) (fun k=>R k\/Z k) b L2 (doAll M (mendT M.files name pn)) w18:=by rw [hdo];exact h2.ext kpc
     refine x_skip (x_exit ?_)
     exact ⟨rfl,⟨L2,hlog,r1,r2,r3,r4,by rw [hfin],hAB2⟩,ii,ii,ii,ii,ii,ii,ii,lkc⟩
    have hbt:akey M.files (fileN name fz)=none:=by
     cases hh:akey M.files (fileN name fz) with
     | none=>rfl
     | some _=>rw [hh] at g96;cases g96
    have hdo:doAll M (mendT M.files name pn)=M:=by rw [hmend0 hbt];rfl
    have hlog:LogW (fun k=>P k\/Z k) (fun k=>R k\/Z k) b L2 (doAll M (mendT M.files name pn)) w18:=by rw [hdo];exact h2.ext kpc
    refine xl_gs rfl EvO.eq (xl_gs rfl EvO.eq (xl_gs rfl EvO.eq (xl_Pk ?_)))
    refine xz ?_
    refine x_condF ?_
    refine x_skip (x_exit ?_)
    exact ⟨rfl,⟨L2,hlog,r1,r2,r3,r4,by rw [hfin],hAB2⟩,ii,ii,ii,ii,ii,ii,ii,lkc⟩
   have g14:¬ ((akey M.files (fileN name fz)).isSome=true/\(frames sl).length=0):=fun e=>by rw [e.1] at g82;cases g82
   refine xl_gs rfl EvO.eq (xl_gs rfl EvO.eq (xl_Pk ?_))
   refine xz ?_
   refine x_condF ?_
   refine xq (xm (xm ?_))
   refine xl_split 96 (fun g96=>?_) (fun g96=>?_)
   ·have g16:(akey M.files (fileN name fz)).isSome=true:=g96
    obtain ⟨bt,hbt⟩:=Option.isSome_iff_exists.1 g16
    have hg1:(frames sl).length≠0:=fun e=>g14 ⟨g16,e⟩
    have hbl:((akey M.files (fileN name fz)).getD []).length=bt.length:=by rw [hbt];rfl
    refine xl_gv rfl EvO.eq v_move (xl_gv rfl EvO.eq v_move (xl_gv rfl EvO.eq v_lss (xl_Pk ?_)))
    refine xz ?_
    refine x_if (fun c5=>?_) (fun c5=>?_)
    ·have hg2:(frames sl).length<bt.length:=by omega
     have hdo:doAll M (mendT M.files name pn)=M.does (cutT (fileN name fz) (frames sl).length):=by rw [hmend1 bt hbt,if_neg hg1,if_pos hg2];rfl
     refine x_drawL (NotP (fun k=>(R k\/Z k)\/k=b\/AB L2.A k)) (allS) (.take 0 (.take 1 (.take 2 (.take 3 (.take 4 (.take 5 (.take 7 (.eff 6 (.eff 8 .done))))))))) mixed (by kernel_rfl) (fun _ _ _ _ _ h=>h) (fun w25 l25=>?_)
     refine xt_Lc rfl ?_
     refine xt_Lc rfl ?_
     refine xt_Nc rfl ?_
     refine xt_Fb rfl ?_
     refine xt_Lb rfl ?_
     refine xt_v rfl v_move (xt_v rfl v_move ?_)
     refine xt_call rfl (file_ok L2.name L2.per fz w25 (by omega) (by rw [r1];omega)) ?_
     rintro _ w26 ⟨rfl,lk176⟩
     refine ⟨kpc,?_⟩
     refine xt_call rfl (cut_ok _ _ d M (fileN L2.name fz) ((frames sl).length:Int) [] w26 (hD2.ext kpc) (by simp) (by omega)) ?_
     rintro _ w27 ⟨rfl,hDr,lkr⟩
     refine ⟨kpc,?_⟩
     have hlog:LogW (fun k=>P k\/Z k) (fun k=>R k\/Z k) b L2 (doAll M (mendT M.files name pn)) w27:=by
      rw [hdo]
      rw [r1] at hDr
      exact (h2.ext (kpc:Keep NoB _ w26)).disked (by rw [r3];exact hDr) lkr.keep
     refine xt_nil ?_
     refine x_exit ?_
     exact ⟨rfl,⟨L2,hlog,r1,r2,r3,r4,by rw [hfin],hAB2⟩,ii,ii,ii,ii,ii,ii,ii,lkc⟩
    have hg2:¬ (frames sl).length<bt.length:=by omega
    have hdo:doAll M (mendT M.files name pn)=M:=by rw [hmend1 bt hbt,if_neg hg1,if_neg hg2];rfl
    have hlog:LogW (fun k=>P k\/Z k) (fun k=>R k\/Z k) b L2 (doAll M (mendT M.files name pn)) w18:=by rw [hdo];exact h2.ext kpc
    refine x_skip (x_exit ?_)
    exact ⟨rfl,⟨L2,hlog,r1,r2,r3,r4,by rw [hfin],hAB2⟩,ii,ii,ii,ii,ii,ii,ii,lkc⟩
   have hbt:akey M.files (fileN name fz)=none:=by
    cases hh:akey M.files (fileN name fz) with
    | none=>rfl
    | some _=>rw [hh] at g96;cases g96
   have hdo:doAll M (mendT M.files name pn)=M:=by rw [hmend0 hbt];rfl
   have hlog:LogW (fun k=>P k\/Z k) (fun k=>R k\/Z k) b L2 (doAll M (mendT M.files name pn)) w18:=by rw [hdo];exact h2.ext kpc
   refine xl_gs rfl EvO.eq (xl_gs rfl EvO.eq (xl_gs rfl EvO.eq (xl_Pk ?_)))
   refine xz ?_
   refine x_condF ?_
   refine x_skip (x_exit ?_)
   exact ⟨rfl,⟨L2,hlog,r1,r2,r3,r4,by rw [hfin],hAB2⟩,ii,ii,ii,ii,ii,ii,ii,lkc⟩
 intro τ28 ds28 w28 hI
 obtain ⟨rfl,⟨L1,h1,q1,q2,q3,q4,q5,hABw⟩,e3,e5,e9,e10,kb32,kb52,kb92,lk18⟩:=hI
 haveI kb12:Blk w28 b (.cells (logC L1).toArray 69 (0,0)):=⟨h1.at_⟩
 obtain ⟨M1,hM1⟩:∃ M1,M1=doAll M (mendT M.files name pn):=⟨_,rfl⟩
 rw [<- hM1] at h1
 obtain ⟨wQ,hwQ⟩:∃ x,x=w28:=⟨_,rfl⟩
 have h1Q:LogW (fun k=>P k\/Z k) (fun k=>R k\/Z k) b L1 M1 wQ:=by rw [hwQ];exact h1
 have hns:L1.name.size<=8:=by have:=h1.name;simp only [logName,Bool.and_eq_true,decide_eq_true_eq] at this;exact this.1.2
 have hm1few:M1.lasts.length+M1.waits.length<=M.lasts.length+M.waits.length+1:=by
  have h7:=doAll_few (mendT M.files name pn) M
  have h8:(mendT M.files name pn).length<=1:=by
   unfold mendT
   split
   ·simp
   ·split
    ·simp
    ·split<;>simp
  rw [<- hM1] at h7
  omega
 refine x_seq (xq (xl_Lc ?_))
 refine xl_call (falling_ok b w28) ?_
 rintro _ w29 ⟨⟨bl,rfl,hbl,hgl⟩,lk181⟩
 haveI kbl:Blk w29 bl (.cells #[ptrV b] 32 (0,0)):=⟨hbl⟩
 refine xl_nil ?_
 refine x_block ?_
 have hDw:=h1.disk.ext (kpc:Keep NoB _ w29)
 obtain ⟨fl,hfl⟩:∃ fl,fl=(ownFiles M1.files L1.name).reverse:=⟨_,rfl⟩
 have hfll:fl.length<=M1.lasts.length+M1.waits.length:=by
  rw [hfl,List.length_reverse]
  have h9:(ownFiles M1.files L1.name).length<=M1.files.length:=by unfold ownFiles;exact Nat.le_trans (List.length_filter_le _ _) (by simp)
  exact Nat.le_trans h9 (fold_len _ _)
 have hmem:∀ f∈fl,ownB L1.name f=true:=fun f hf=>own_mem (fs:=M1.files) (by rw [hfl] at hf;exact List.mem_reverse.1 hf)
 have htl:tlO M1.files L1.name=fl.map (tellO L1.name):=by rw [hfl];rfl
 obtain ⟨wS,hwS⟩:∃ x,x=w29:=⟨_,rfl⟩
 have hkwS:Keep NoB wQ wS:=by rw [hwS,hwQ];exact kpc
 obtain ⟨F0,hi0,hF0,hF0d⟩:=rmI_start (name:=L1.name) (p:=strayB L1.name pn L1.es.length) (fl:=fl) (h1Q.disk.wide hkwS) (Keep.refl NoB wS)
 have hdl:L1.d<(w29).heap.size:=by rw [<- hwS];exact (hF0 _ hF0d).1
 have hblw:wQ.heap.size<=bl:=by rw [hwQ];exact hgl
 have hblS:bl<wS.heap.size:=by rw [hwS];exact Has.lt
 have hbS:wS.heap[b]?=some (.cells (logC L1).toArray 69 (0,0)):=by rw [hwS];exact Blk.eq
 have hb3S:wS.heap[b3]?=some (.cells #[ptrV d] 28 (0,0)):=by rw [hwS];exact Blk.eq
 have hb5S:wS.heap[b5]?=some (.cells #[.int .i64 (pn:Int)] 3 (0,0)):=by rw [hwS];exact Blk.eq
 have hb9S:wS.heap[b9]?=some (.cells #[ptrV b] 32 (0,0)):=by rw [hwS];exact Blk.eq
 have hmS:Keep (NotP R) w wS:=by rw [hwS];exact (lkc:Lk w29 w (NotP R)).keep
 have hlq:=hkwS.size
 refine x_rangeX (ps:=[112,113]) (fun k=>k=bl\/k=b) (AlG (fl.map (tellO L1.name))) (FinG (fl.map (tellO L1.name))) (NoE) (noE_elem) L1.d (fun _=>True) (fun _ _=>False) hdl (fun _ _ h=>h.elim) (fun W lW=>fun y I J F w0 hy1 hy _ _ _ hw0 h0 hF=>CallV.of_ret (by have h9:=fall1_ok y bl b L1 _ _ M1 I J F W (hDw.ext (kpc:Keep NoB w29 W)) (by omega) hy1 w0 (by rw [htl];exact yieldsI_of hy) hw0 h0 hF;rw [htl] at h9;exact h9)) (by rintro k (rfl | rfl);exact Has.lt;exact Has.lt) (fun pre v h=>(by obtain ⟨h1,h2,_⟩:=alG_last h;rw [h2];simp [tellO])) (RmI (wide (fun k=>(P k\/Z k)\/k=b\/AB L1.A k) wQ wS) (wide (fun k=>(R k\/Z k)\/k=b\/AB L1.A k) wQ wS) L1.d M1 fl L1.name (strayB L1.name pn L1.es.length) wS) (fun _ _ _ _=>False) (F0) (hwS ▸ rmI_stable) (fun _=>⟨fun _ _ _ h=>h.elim,fun _ _ _ _ _ h=>h.elim⟩) (fun _ _ _ _=>trivial) (fun _ _ _ _ _ h=>h.elim) hF0d (hwS ▸ hi0) (fun k hk e=>(hF0 k hk).2 (e.elim (fun e=>.inr ⟨by rw [e];exact hblw,by rw [e];exact hblS⟩) (fun e=>.inl (.inr (.inl e))))) (fun v τ n' W=>Ev τ 3 (ptrV b3)/\Ev τ 5 (ptrV b5)/\Ev τ 9 (ptrV b9)/\∃ a x,v=[a,x]/\Ev τ 16 a/\Ev τ 17 x) (by rintro v τ n W1 W2 S h1 hk hs;exact h1) ?assign ?body ?normal ?jump
 case assign=>
  intro l30 pre v30 w30 hal hv30
  obtain ⟨a,x,rfl⟩:∃ a x,v30=[a,x]:=two_of hv30
  simp only [updL]
  refine xq (xz ?_)
  refine x_regionL (xz ?_)
  exact ⟨lkc,ii,ii,ii,_,_,rfl,ii,ii⟩
 case body=>
  intro l pre v F Fv nb w31 τ31 ds31 hal hI hE hdis hnew hlt hnb hnbw hB
  obtain ⟨j,hpre,hj,hDj,hFl,hkW,hPs,hRs⟩:=id hI
  obtain ⟨hpl,hv,_⟩:=alG_last hal
  have hplj:pre.length=j:=by rw [hpre];simp;omega
  have hjl:j<fl.length:=by simpa [hplj] using hpl
  have hv2:v=tellO L1.name fl[j]:=by rw [hv];simp [hplj]
  obtain ⟨e3,e5,e9,va,vx,hve,e16,e17⟩:=hB
  rw [hv2] at hve
  simp only [tellO,List.cons.injEq,and_true] at hve
  rw [<- hve.1] at e16
  rw [<- hve.2] at e17
  have hown:ownB L1.name fl[j]=true:=hmem _ (List.getElem_mem hjl)
  obtain ⟨q,hq⟩:∃ q,ownN L1.name fl[j]=some q:=Option.isSome_iff_exists.1 hown
  have hq6:=(own_some hq).2
  rw [hq] at e16
  simp only [Option.getD_some] at e16
  rw [hpre] at hI
  rw [hpre,hv2]
  haveI kb1:Blk w31 b (.cells (logC L1).toArray 69 (0,0)):=⟨(hkW.block b (Array.getElem?_eq_some_iff.1 hbS).1 (fun e=>e (.inl (.inr (.inl rfl))))).trans hbS⟩
  haveI kb31:Blk w31 b3 (.cells #[ptrV d] 28 (0,0)):=⟨(hkW.block b3 (Array.getElem?_eq_some_iff.1 hb3S).1 (fun e=>e (.inl (.inl (.inr hZ3))))).trans hb3S⟩
  haveI kb51:Blk w31 b5 (.cells #[.int .i64 (pn:Int)] 3 (0,0)):=⟨(hkW.block b5 (Array.getElem?_eq_some_iff.1 hb5S).1 (fun e=>e (.inl (.inl (.inr hZ5))))).trans hb5S⟩
  haveI kb91:Blk w31 b9 (.cells #[ptrV b] 32 (0,0)):=⟨(hkW.block b9 (Array.getElem?_eq_some_iff.1 hb9S).1 (fun e=>e (.inl (.inl (.inr hZ9))))).trans hb9S⟩
  refine x_block (xq (xm (xl_Lc ?_)))
  refine xl_v (v_congr (u:=.int .i64 ((q % pn:Nat):Int)) (v_rem (by omega)) (congrArg (Value.int .i64) (tmodN q pn))) ?_
  refine xl_v v_neq (xm ?_)
  refine xl_split 118 (fun g118=>?_) (fun g118=>?_)
  ·have g21:¬ q % pn=0:=by simp only [Bool.not_eq_true',decide_eq_false_iff_not] at g118;omega
   refine xl_gs rfl EvO.eq (xl_gs rfl EvO.eq (xl_gs rfl EvO.eq (xl_gs rfl EvO.eq (xl_gs rfl EvO.eq (xl_gs rfl EvO.eq (xl_gs rfl EvO.eq (xl_Pk ?_)))))))
   refine xl_nil ?_
   refine x_condT ?_
   refine x_regionL (xl_Lc ?_)
   refine xm ?_
   refine xl_call (remove_ok _ _ d _ fl[j] 0 [] w31 (by have:=hDj;rw [q3] at this;exact this) (by simp) (by
       have h7:=doAll_few (((fl.take j).filter (strayB L1.name pn L1.es.length)).map rmT) M1
       have h8:(((fl.take j).filter (strayB L1.name pn L1.es.length)).map rmT).length<=j:=by rw [List.length_map];exact Nat.le_trans (List.length_filter_le _ _) (by rw [List.length_take];omega)
       omega)) ?_
   rintro _ w32 ⟨rfl,hDr,lkr⟩
   have hfp:strayB L1.name pn L1.es.length fl[j]=true:=by
    unfold strayB
    rw [hq]
    simp only [Bool.or_eq_true,decide_eq_true_eq]
    omega
   have hnext:=rmI_step hjl hI hfp (by rw [q3];exact hDr) lkr.keep
   refine xl_nil ?_
   obtain ⟨F',p1,p2,p3⟩:=hnext
   exact ⟨F',p1,p2.mono (fun k _ e=>.inl e),fun k e=>(p3 k e).imp .inl id⟩
  have g21:q % pn=0:=by simp only [Bool.not_eq_false',decide_eq_true_eq] at g118;omega
  refine xl_gv rfl EvO.eq v_move ?_
  refine xl_gLc rfl EvO.eq ?_
  refine xl_gNc rfl EvO.eq ?_
  refine xl_gFb rfl EvO.eq ?_
  refine xl_gLc rfl EvO.eq ?_
  refine xl_gv rfl EvO.eq v_len (xl_gv rfl EvO.eq v_geq (xl_Pk ?_))
  refine xl_nil ?_
  refine x_if (fun c6=>?_) (fun c6=>?_)
  ·refine x_regionL (xl_Lc ?_)
   refine xm ?_
   refine xl_call (remove_ok _ _ d _ fl[j] 0 [] w31 (by have:=hDj;rw [q3] at this;exact this) (by simp) (by
       have h7:=doAll_few (((fl.take j).filter (strayB L1.name pn L1.es.length)).map rmT) M1
       have h8:(((fl.take j).filter (strayB L1.name pn L1.es.length)).map rmT).length<=j:=by rw [List.length_map];exact Nat.le_trans (List.length_filter_le _ _) (by rw [List.length_take];omega)
       omega)) ?_
   rintro _ w33 ⟨rfl,hDr,lkr⟩
   have hfp:strayB L1.name pn L1.es.length fl[j]=true:=by
    unfold strayB
    rw [hq]
    simp only [Bool.or_eq_true,decide_eq_true_eq]
    omega
   have hnext:=rmI_step hjl hI hfp (by rw [q3];exact hDr) lkr.keep
   refine xl_nil ?_
   obtain ⟨F',p1,p2,p3⟩:=hnext
   exact ⟨F',p1,p2.mono (fun k _ e=>.inl e),fun k e=>(p3 k e).imp .inl id⟩
  have hfp:strayB L1.name pn L1.es.length fl[j]=false:=by
   unfold strayB
   rw [hq]
   simp only [Bool.or_eq_false_iff,decide_eq_false_iff_not]
   omega
  have hnext:∃ F',RmI (wide (fun k=>(P k\/Z k)\/k=b\/AB L1.A k) wQ wS) (wide (fun k=>(R k\/Z k)\/k=b\/AB L1.A k) wQ wS) L1.d M1 fl L1.name (strayB L1.name pn L1.es.length) wS ((fl.take j).map (tellO L1.name)++[tellO L1.name fl[j]]) F' w31/\Keep F w31 w31/\Sub F' F w31:=⟨F,rmI_skip hjl hI hfp,Keep.refl _ _,Sub.refl _ _⟩
  refine x_skip ?_
  obtain ⟨F',p1,p2,p3⟩:=hnext
  exact ⟨F',p1,p2.mono (fun k _ e=>.inl e),fun k e=>(p3 k e).imp .inl id⟩
 case normal=>
  intro D34 pre F w34 hfin hI hkF hsF hD34 hge34 hnF34
  have hpe:pre=fl.map (tellO L1.name):=hfin
  rw [hpe] at hI
  obtain ⟨hDe,hkE⟩:=rmI_end2 (E:=fun k=>k=D34) hI (fun k e=>by rw [e];exact ⟨(Array.getElem?_eq_some_iff.1 hD34.eq).1,hnF34⟩)
  rw [hfl,fall_filter _ _ _ strayB_own] at hDe
  have hopen:doAll M1 ((fallOwn M1.files (strayB L1.name pn L1.es.length)).map rmT)=openM M name pn:=by
   unfold openM
   rw [<- hM1,<- q5,q1]
  rw [hopen] at hDe
  have hgeD:=hge34
  rw [<- hwS] at hgeD
  have h3:LogW (fun k=>(P k\/Z k)\/k=D34) (fun k=>(R k\/Z k)\/k=D34) b L1 (openM M name pn) w34:=h1Q.removed (E:=fun k=>k=D34) hkwS hDe hkE (fun k e=>by rw [e];exact hgeD)
  haveI lkE:Lk w34 w (NotP R):=⟨hmS.then hkE (fun k _ e e2=>e (.inl (.inl (.inl e2))))⟩
  haveI kb1e:Blk w34 b (.cells (logC L1).toArray 69 (0,0)):=⟨h3.at_⟩
  haveI kb9e:Blk w34 b9 (.cells #[ptrV b] 32 (0,0)):=⟨(hkE.block b9 (Array.getElem?_eq_some_iff.1 hb9S).1 (fun e=>e (.inl (.inl (.inr hZ9))))).trans hb9S⟩
  obtain ⟨wE,hwE⟩:∃ x,x=w34:=⟨_,rfl⟩
  have h3E:LogW (fun k=>(P k\/Z k)\/k=D34) (fun k=>(R k\/Z k)\/k=D34) b L1 (openM M name pn) wE:=by rw [hwE];exact h3
  have hDw:w.heap.size<=D34:=by have:=hmS.size;omega
  haveI n9b:NeB b9 b:=⟨by omega⟩
  haveI nDb:NeB D34 b:=⟨by have:=(Array.getElem?_eq_some_iff.1 hbS).1;omega⟩
  haveI i8:SubF (OneB b) (NotP R) w:=⟨fun j hj e e2=>by have e':j=b:=e;omega⟩
  refine x_seq (xq (xm (xl_nil ?_)))
  refine x_condE (fun c7=>?_) (fun c7=>?_)
  ·have hwz:M.waits=[]:=List.eq_nil_of_length_eq_zero (by have:=of_decide_eq_true c7;omega)
   refine x_drawL (NoB) (allS) (.take 0 (.take 1 (.take 2 (.take 3 (.take 4 (.take 5 (.take 6 (.take 7 (.free 8 .done))))))))) mixed (by kernel_rfl) (fun _ _ _ _ _ h=>h) (fun w35 l35=>?_)
   refine xt_Lc rfl ?_
   refine xt_Lc rfl ?_
   refine xt_Nc rfl ?_
   refine xt_Fb rfl ?_
   refine xt_Lc rfl ?_
   refine xt_v rfl v_len (xt_Nc rfl ?_)
   refine xt_Fb rfl ?_
   refine xt_fs rfl (e_store fun w36 l36 k36=>?_)
   refine xt_nil ?_
   have hkW2:Keep (OneB b) wE w36:=by rw [hwE];exact kpc
   obtain ⟨L3,hL3,hs3,t1,t2,t3,t4,t5⟩:∃ L3,LogW (fun k=>(P k\/Z k)\/k=D34) (fun k=>(R k\/Z k)\/k=D34) b L3 (openM M name pn) w36/\L3.sure=(if M.waits=[] then L3.es.length else 0)/\L3.name=name/\L3.per=pn/\L3.d=d/\L3.es=(Go.Wst.Sg.told M.files name pn).1/\(∀ j,AB L3.A j->w.heap.size<=j):=⟨{ L1 with sure:=L1.es.length },h3E.written hkW2 (fun _ _ e=>.inl e) rfl rfl rfl Blk.eq (own_keep h3E.row hkW2 (fun k hk e=>h3E.nb (by have e':k=b:=e;rw [<- e'];exact AB_own hk.symm))) (fun k e=>.inl e) h3E.len h3E.right,by rw [if_pos hwz],q1,q2,q3,q5,hABw⟩
   refine xq (xl_Lc ?_)
   refine xa (xz ?_)
   refine x_ret ?_
   refine finM (rs:=[.tmp 6,.tmp 7]) rfl [D34] rfl (by simpa using (Blk.eq:(w36).heap[D34]?=_)) (by simp) (fun w37 lm37=>⟨_,ii,?_⟩)
   have hin:∀ k,k∈[D34]->k=D34:=fun k e=>by simpa using e
   haveI sD:SubF (fun k=>k∈[D34]) (NotP R) w:=⟨fun k hk e=>by have:=hin k e;omega⟩
   refine ⟨?_,lkc⟩
   rw [if_pos hok,Int.toNat_natCast]
   exact ⟨b,L3,rfl,hL3.keep lm37.keep (fun k _ e=>.inr (hin k e)) (fun k e=>⟨Nat.lt_of_lt_of_le (hL3.lt.1 k (.inl (.inl e))) lm37.keep.size,.inl (.inl (.inl e))⟩) (fun k e=>⟨Nat.lt_of_lt_of_le (hL3.lt.2.1 k (.inl (.inl e))) lm37.keep.size,.inl (.inl (.inl e))⟩),t1,t2,t3,t4,hs3,hbw,t5⟩
  have hwz:¬ M.waits=[]:=fun e=>by have:=of_decide_eq_false c7;rw [e] at this;exact this rfl
  obtain ⟨L3,hL3,hs3,t1,t2,t3,t4,t5⟩:∃ L3,LogW (fun k=>(P k\/Z k)\/k=D34) (fun k=>(R k\/Z k)\/k=D34) b L3 (openM M name pn) w34/\L3.sure=(if M.waits=[] then L3.es.length else 0)/\L3.name=name/\L3.per=pn/\L3.d=d/\L3.es=(Go.Wst.Sg.told M.files name pn).1/\(∀ j,AB L3.A j->w.heap.size<=j):=⟨L1,h3E.ext (by rw [hwE];exact kpc),by rw [if_neg hwz];exact q4,q1,q2,q3,q5,hABw⟩
  refine x_skip (xq (xl_Lc ?_))
  refine xa (xz ?_)
  refine x_ret ?_
  refine finM (rs:=[.tmp 6,.tmp 7]) rfl [D34] rfl (by simpa using (Blk.eq:(w34).heap[D34]?=_)) (by simp) (fun w38 lm38=>⟨_,ii,?_⟩)
  have hin:∀ k,k∈[D34]->k=D34:=fun k e=>by simpa using e
  haveI sD:SubF (fun k=>k∈[D34]) (NotP R) w:=⟨fun k hk e=>by have:=hin k e;omega⟩
  refine ⟨?_,lkc⟩
  rw [if_pos hok,Int.toNat_natCast]
  exact ⟨b,L3,rfl,hL3.keep lm38.keep (fun k _ e=>.inr (hin k e)) (fun k e=>⟨Nat.lt_of_lt_of_le (hL3.lt.1 k (.inl (.inl e))) lm38.keep.size,.inl (.inl (.inl e))⟩) (fun k e=>⟨Nat.lt_of_lt_of_le (hL3.lt.2.1 k (.inl (.inl e))) lm38.keep.size,.inl (.inl (.inl e))⟩),t1,t2,t3,t4,hs3,hbw,t5⟩
 case jump=>
  exact fun _ _ _ _ _ h=>h.elim
theorem DiskQ.keep2 {Q P R P' R':Nat->Prop} {d:Nat} {M:Disk} {W W':World} (h:DiskQ Q P R d M W) (hk:Keep NoB W W') (hP:∀ k,P' k->k<W'.heap.size/\(P k\/W.heap.size<=k)) (hR:∀ k,R' k->k<W'.heap.size/\(R k\/W.heap.size<=k)):∃ Q2:Nat->Prop,DiskQ Q2 P' R' d M W'/\(∀ k,Q2 k->Q k/\k<W.heap.size/\¬ P k):=by
 obtain ⟨mb,ml,G,D,h1,h2,h3,h4,h5⟩:=h
 refine ⟨DiskF d mb ml D.A G,⟨mb,ml,G,D,h1.keep hk (fun _ _ h=>h),h2,fun k e=>⟨(hP k e).1,fun e2=>?_⟩,fun k e=>⟨(hR k e).1,fun e2=>?_⟩,fun k e=>e⟩,fun k e=>⟨h5 k e,h1.lt k e,fun e2=>(h3 k e2).2 e⟩⟩
 ·rcases (hP k e).2 with e3 | e3
  ·exact (h3 k e3).2 e2
  ·have:=h1.lt k e2;omega
 ·rcases (hR k e).2 with e3 | e3
  ·exact (h4 k e3).2 e2
  ·have:=h1.lt k (.inl e2);omega
structure LogQ (Q P R:Nat->Prop) (b:Nat) (L:LLog) (M:Disk) (W:World):Prop where
 log:LogW P R b L M W
 dq:DiskQ Q (fun k=>P k\/k=b\/AB L.A k) (fun k=>R k\/k=b\/AB L.A k) L.d M W
 qb:Q b
 qa:∀ k,AB L.A k->Q k
theorem DiskQ.mono {Q Q' P R:Nat->Prop} {d:Nat} {M:Disk} {W:World} (h:DiskQ Q P R d M W) (hq:∀ k,Q k->Q' k):DiskQ Q' P R d M W:=by
 obtain ⟨mb,ml,G,D,h1,h2,h3,h4,h5⟩:=h
 exact ⟨mb,ml,G,D,h1,h2,h3,h4,fun k e=>hq k (h5 k e)⟩
set_option maxHeartbeats 1000000 in
theorem lcopy_ok (P R:Nat->Prop) (b:Nat) (L:LLog) (M:Disk) (w:World) (h:LogW P R b L M w):Ret Tryz.prog 20 #[ptrV b] w (fun v w'=>(∃ b2 L2 Q,v=ptrV b2/\LogQ Q P (fun k=>k<w.heap.size) b2 L2 M w'/\LogW (fun k=>P k\/(w.heap.size<=k/\k<w'.heap.size)) (fun k=>R k\/Q k) b L M w'/\L2.name=L.name/\L2.per=L.per/\L2.es=L.es/\L2.sure=L.sure)/\Lk w' w NoB):=by
 haveI kb:Blk w b (.cells (logC L).toArray 69 (0,0)):=⟨h.at_⟩
 haveI hrL:=h.rowB
 have hlen:=h.len
 refine ret_of_x (N:=25) (l:=[ptrV b]) Tryz.func20 rfl rfl (Nat.le_of_ble_eq_true rfl) ?_
 refine xq (xz ?_)
 refine x_seq (xq (xm ?_))
 refine xl_call (lnone_ok b L w) ?_
 rintro _ _ ⟨rfl,rfl⟩
 refine xl_nil ?_
 refine x_condF ?_
 refine x_skip (x_seq ?_)
 refine x_drawL (NoB) (allS) (.take 0 (.take 1 (.take 2 (.take 3 (.take 4 (.take 5 (.take 6 (.take 7 (.take 9 (.take 10 (.take 11 (.take 12 (.take 14 (.take 15 (.take 16 (.take 17 (.eff 8 (.eff 13 (.take 18 (.eff 19 (.take 20 .done))))))))))))))))))))) mixed (by kernel_rfl) (fun _ _ _ _ _ h=>h) (fun w2 l2=>?_)
 refine xt_v rfl v_move (xt_Nc rfl ?_)
 refine xt_Fb rfl ?_
 refine xt_Lb rfl ?_
 refine xt_v rfl v_move (xt_Nc rfl ?_)
 refine xt_Fb rfl ?_
 refine xt_Lc rfl ?_
 refine xt_v rfl v_move (xt_Nc rfl ?_)
 refine xt_Fb rfl ?_
 refine xt_Lc rfl ?_
 refine xt_v rfl v_move (xt_Nc rfl ?_)
 refine xt_Fb rfl ?_
 refine xt_Lc rfl ?_
 refine xt_call rfl (copy_ok _ _ L.d M w2 (h.disk.wide (kpc:Keep NoB w w2))) ?_
 rintro _ w3 ⟨⟨cc,Q,rfl,hQ,hDW,hgc⟩,lk8⟩
 refine ⟨kpc,?_⟩
 obtain ⟨wQ,hwQ⟩:∃ x,x=w3:=⟨_,rfl⟩
 have hkQ:Keep NoB w wQ:=by rw [hwQ];exact kpc
 have hpsz:w.heap.size<=(w2).heap.size:=Ge.le
 obtain ⟨wP,hwP⟩:∃ x,x=w2:=⟨_,rfl⟩
 rw [<- hwQ] at hQ hDW
 rw [<- hwP] at hQ hDW hpsz
 refine xt_call rfl (cloneE_ok L.A L.es.length L.c (L.es.flatMap enC) w3 (flat_len (sz:=6) (fun _=>rfl) _) (by omega) (enC_one _) h.nz) ?_
 rintro _ w4 ⟨⟨A2,c2,rfl,ho2⟩,lk13⟩
 refine ⟨kpc,?_⟩
 have hgq:wQ.heap.size<=(w3).heap.size:=by rw [hwQ];exact Ge.le
 refine xt_v rfl v_build ?_
 refine xt_e rfl (e_box fun b2 w5 n2 l2 k2=>?_)
 refine xt_v rfl v_assign (xt_nil ?_)
 refine x_ret ?_
 refine fin1 rfl ?_
 refine ⟨?_,lkc⟩
 have hkW:Keep NoB wQ w5:=by rw [hwQ];exact kpc
 have hab2:=AB_lt ho2
 have hb2q:wQ.heap.size<=b2:=by rw [n2.eq,hwQ];exact Ge.le
 have hb2l:b2<(w5).heap.size:=Has.lt
 have ho3:=own_ext ho2 (lkc:Lk w5 _ NoB)
 have hab3:=AB_lt ho3
 have hab2b:¬ AB A2 b2:=fun e=>by have h8:=(hab2 b2 e).2;have h9:=n2.eq;omega
 obtain ⟨Q2,hQ2,hq2⟩:=hQ.keep2 (P':=fun k=>P k\/k=b2\/AB A2 k) (R':=fun k=>k<w.heap.size\/k=b2\/AB A2 k) hkW (fun k e=>by
  rcases e with e | e | e
  ·have h8:=h.lt.1 k e
   exact ⟨Nat.lt_of_lt_of_le h8 (Nat.le_trans hkQ.size hkW.size),.inl (.inl (.inl e))⟩
  ·exact ⟨by omega,.inr (by omega)⟩
  ·exact ⟨(hab3 k e).2,.inr (by have:=(hab2 k e).1;omega)⟩) (fun k e=>by
  rcases e with e | e | e
  ·exact ⟨Nat.lt_of_lt_of_le e (Nat.le_trans hkQ.size hkW.size),.inl (by omega)⟩
  ·exact ⟨by omega,.inr (by omega)⟩
  ·exact ⟨(hab3 k e).2,.inr (by have:=(hab2 k e).1;omega)⟩)
 have hwq:=hkQ.size
 refine ⟨b2,⟨L.name,L.per,cc,L.es,A2,c2,L.sure⟩,fun k=>Q2 k\/k=b2\/AB A2 k,rfl,⟨⟨hQ2.toW,Blk.eq,own_mono ho3 (Nat.zero_le _),hab2b,fun k e=>?_,h.name,h.per1,h.per2,h.len,h.right⟩,hQ2.mono (fun k e=>.inl e),.inr (.inl rfl),fun k e=>.inr (.inr e)⟩,?_,rfl,rfl,rfl,rfl⟩
 ·have h8:k<w.heap.size:=e.elim (fun e=>h.lt.1 k e) id
  exact ⟨fun e=>by omega,fun e=>by have:=(hab2 k e).1;omega⟩
 ·have hDW2:=hDW.keep hkW (fun _ _ h=>h.elim) (P':=fun k=>(P k\/(w.heap.size<=k/\k<(w5).heap.size))\/k=b\/AB L.A k) (R':=fun k=>(R k\/(Q2 k\/k=b2\/AB A2 k))\/k=b\/AB L.A k) (fun k e=>by
   rcases e with (e | e) | e
   ·exact ⟨Nat.lt_of_lt_of_le (hDW.lt.1 k (.inl (.inl (.inl e)))) hkW.size,.inl (.inl (.inl (.inl e)))⟩
   ·refine ⟨e.2,?_⟩
    rcases Nat.lt_or_ge k wQ.heap.size with e3 | e3
    ·rcases Nat.lt_or_ge k wP.heap.size with e4 | e4
     ·exact .inl (.inl (.inr ⟨e.1,e4⟩))
     ·exact .inl (.inr ⟨e4,e3⟩)
    ·exact .inr e3
   ·exact ⟨Nat.lt_of_lt_of_le (hDW.lt.1 k (.inl (.inl (.inr e)))) hkW.size,.inl (.inl (.inl (.inr e)))⟩) (fun k e=>by
   rcases e with (e | e | e | e) | e
   ·exact ⟨Nat.lt_of_lt_of_le (hDW.lt.2 k (.inl (.inl (.inl e)))) hkW.size,.inl (.inl (.inl (.inl e)))⟩
   ·exact ⟨Nat.lt_of_lt_of_le (hq2 k e).2.1 hkW.size,.inl (.inr (hq2 k e).1)⟩
   ·exact ⟨by omega,.inr (by omega)⟩
   ·exact ⟨(hab3 k e).2,.inr (by have:=(hab2 k e).1;omega)⟩
   ·exact ⟨Nat.lt_of_lt_of_le (hDW.lt.2 k (.inl (.inl (.inr e)))) hkW.size,.inl (.inl (.inl (.inr e)))⟩)
  have h0:=h.ext (hkQ.trans hkW)
  refine ⟨hDW2,h0.at_,h0.row,h.nb,fun k e=>?_,h.name,h.per1,h.per2,h.len,h.right⟩
  rcases e with (e | e) | e | e | e | e
  ·exact h.pb k (.inl e)
  ·exact ⟨fun e2=>by have:=h.lt.2.2.1;omega,fun e2=>by have:=h.lt.2.2.2 k e2;omega⟩
  ·exact h.pb k (.inr e)
  ·exact ⟨fun e2=>(hq2 k e).2.2 (.inl (.inr (.inl e2))),fun e2=>(hq2 k e).2.2 (.inl (.inr (.inr e2)))⟩
  ·exact ⟨fun e2=>by have:=h.lt.2.2.1;omega,fun e2=>by have:=h.lt.2.2.2 k e2;omega⟩
  ·exact ⟨fun e2=>by have:=h.lt.2.2.1;have:=(hab2 k e).1;omega,fun e2=>by have:=h.lt.2.2.2 k e2;have:=(hab2 k e).1;omega⟩
end Go.Proofs.YtigmfcgeljjgnaaGreat
