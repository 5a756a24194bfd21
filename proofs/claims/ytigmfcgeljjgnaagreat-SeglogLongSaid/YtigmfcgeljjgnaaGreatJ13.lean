/- A part of the walks through the log and its document, and of the law in plain Lean: GJ GO Sl J K L Sh M N O AB. -/
import Derived.Test.YtigmfcgeljjgnaaGreatJ12
import Derived.Shelf.Small.Bits
import Derived.Shelf.Small.Wraps
import Derived.Shelf.Strconv.Itoa0
import Derived.Shelf.Sort.Plain
import Derived.Shelf.Strings.Prefix
import Derived.Ground.Names2Prog
import Derived.Shelf.Slices.ReverseS
import Derived.Shelf.Slices.Cells
import Derived.Shelf.Slices.In.SortNone
import Derived.Ground.SlgnProg
import Derived.Shelf.SlicesE.Reverse
import Derived.Test.YtigmfcgeljjgnaaGreatProg
import Derived.Sort.OwnSorted
set_option linter.all false
set_option maxRecDepth 100000
set_option synthInstance.maxSize 100000
set_option synthInstance.maxHeartbeats 400000
namespace Go.Proofs.YtigmfcgeljjgnaaGreat
open Go.Wst
open Go.Wst.Dm Go.Wst.Sg
theorem frames_ge {l:List En} (h:∀ e∈l,Right e):9*l.length<=(frames l).length:=by
 induction l with
 | nil=>simp [frames]
 | cons e l ih=>
   have h1:=(frame_len (h e List.mem_cons_self)).1
   have h2:=ih (fun x hx=>h x (List.mem_cons_of_mem _ hx))
   simp [frames] at h2 ⊢
   omega
theorem allB_len (b:By):9*(allB b).length<=b.length:=by
 obtain ⟨h1,r,h2,_⟩:=allB_spec b
 have h3:=frames_ge h1
 have h4:=congrArg List.length h2
 simp at h4
 omega
theorem itframes_ok (c:Nat) (A:Option Addr) (n cap:Nat) (w:World):Ret Tryz.prog 68 #[.slice A n cap,.pointer (some ⟨c,2,none⟩)] w (fun v w'=>(∃ bw bb,v=framesV bw bb/\w'.heap[bw]?=some (.cells #[.pointer (some ⟨c,2,none⟩)] 117 (0,0))/\w'.heap[bb]?=some (.cells #[.slice A n cap] 80 (0,0))/\w.heap.size<=bw/\w.heap.size<=bb)/\Lk w' w NoB):=by
 refine ret_of_x (N:=6) (l:=[.slice A n cap,.pointer (some ⟨c,2,none⟩)]) Tryz.func68 rfl rfl (Nat.le_of_ble_eq_true rfl) ?_
 refine xq ?_
 refine xl_e (e_box fun bb w1 n2 l2 k2=>?_)
 refine xl_e (e_box fun bw w2 n3 l3 k3=>?_)
 refine xz ?_
 refine xq (xl_v v_makeFunc (xz ?_))
 refine x_ret ?_
 refine fin1 rfl ?_
 exact ⟨⟨bw,bb,rfl,Blk.eq,Blk.eq,by rw [n3.eq];exact Ge.le,by rw [n2.eq];exact Nat.le_refl _⟩,lkc⟩
def AllE (l:List En) (c:Nat) (wb:World):Seen->(Nat->Prop)->World->Prop:=fun pre F W=>
 ∃ (k:Nat) (V:Value) (g y:Int),pre=(tlF l).take k/\k<=l.length/\W.heap[c]?=some (.cells #[V,.int .i64 g,.int .i64 y] 99 (0,0))/\W.ownsRow wb.heap.size 51 6 V k ((l.take k).flatMap enC)/\(∀ j,F j↔(j=c\/V.ownBlock=some j))/\Keep (OneB c) wb W
theorem allE_stable {l:List En} {c:Nat} {wb:World}:Stable (AllE l c wb) wb:=by
 refine ⟨?_,?_⟩
 ·rintro pre F W ⟨k,V,g,y,_,_,h1,h2,h3,_⟩ j hj
  rcases (h3 j).1 hj with e | e
  ·subst e;exact (Array.getElem?_eq_some_iff.1 h1).1
  ·exact (h2.lt j e).2
 ·rintro pre F W W' S ⟨k,V,g,y,h0,h0',h1,h2,h3,h4⟩ hk hs hn
  exact ⟨k,V,g,y,h0,h0',(hk.block c (Array.getElem?_eq_some_iff.1 h1).1 (hs c ((h3 c).2 (.inl rfl)))).trans h1,own_keep h2 hk (fun j hj=>hs j ((h3 j).2 (.inr hj))),h3,h4.then hk (fun j hlt hS=>by have:=hn j hS;omega)⟩
theorem allE_rd {l:List En} {c:Nat} {wb:World}:∀ pre F W,AllE l c wb pre F W->ScanAt c W:=by
 rintro pre F W ⟨k,V,g,y,_,_,h1,_⟩
 exact ⟨_,_,_,h1⟩
theorem allE_wr {l:List En} {c:Nat} {wb:World} (hc:c<wb.heap.size):∀ pre F W W',AllE l c wb pre F W->WhyW c W W'->AllE l c wb pre F W':=by
 rintro pre F W W' ⟨k,V,g,y,h0,h0',h1,h2,h3,h4⟩ ⟨hk,a,b,y2,x,h5,h6⟩
 rw [h1] at h5
 simp only [Option.some.injEq,Obj.cells.injEq,and_true] at h5
 have h7:=congrArg Array.toList h5
 simp only [List.cons.injEq,and_true] at h7
 obtain ⟨rfl,rfl,_⟩:=h7
 exact ⟨k,V,g,x,h0,h0',h6,own_keep h2 hk (fun j hj e=>by have e':j=c:=e;have:=(h2.lt j hj).1;omega),h3,h4.trans hk⟩
set_option maxHeartbeats 1000000 in
theorem wall_ok (G:Nat->Prop) (A:Option Addr) (n cap:Nat) (bs:By) (w:World) (hr:FRow w G A (bytesC bs)) (hG:∀ k,G k->k<w.heap.size) (hl:bs.length=n) (hn:n<=100000000) (hcap:n<=cap):Ret Tryz.prog 48 #[.slice A n cap] w (fun v w'=>(∃ A' c' g y,v=.agg #[.slice A' (allB bs).length c',.int .i64 g,.int .i64 y]/\w'.ownsRow w.heap.size 51 6 (.slice A' (allB bs).length c') (allB bs).length ((allB bs).flatMap enC))/\Lk w' w NoB):=by
 refine ret_of_x (N:=19) (l:=[.slice A n cap]) Tryz.func48 rfl rfl (Nat.le_of_ble_eq_true rfl) ?_
 refine xq ?_
 refine xl_e (e_alloc fun c w1 nc lc kc=>?_)
 refine xl_nil ?_
 refine x_seq (xq (xm (xl_Fb ?_)))
 refine xl_call (itframes_ok c A n cap w1) ?_
 rintro _ w2 ⟨⟨bw,bb,rfl,hbw,hbb,hgw,hgb⟩,lk2⟩
 haveI kbw:Blk w2 bw _:=⟨hbw⟩
 haveI kbb:Blk w2 bb _:=⟨hbb⟩
 refine xl_nil ?_
 refine x_block ?_
 have hcw:w.heap.size<=c:=Nat.le_of_eq nc.eq.symm
 have hcl:c<(w2).heap.size:=Has.lt
 obtain ⟨es,hl0⟩:∃ es,es=allB bs:=⟨_,rfl⟩
 have hlen:=allB_len bs
 rw [<- hl0] at hlen ⊢
 have hcp:c<bw/\c<bb:=by
  have h1:=(Array.getElem?_eq_some_iff.1 kc.eq).1
  exact ⟨by omega,by omega⟩
 have hszB:=(Ge.le:w.heap.size<=(w2).heap.size)
 obtain ⟨wS,hwS⟩:∃ x,x=w2:=⟨_,rfl⟩
 have hkwS:Keep NoB w wS:=by rw [hwS];exact kpc
 have hi0:AllE es c wS [] (OneB c) w2:=⟨0,.slice none 0 0,0,0,rfl,Nat.zero_le _,Blk.eq,World.ownsRow_nil _ _ _ _,fun k=>⟨fun e=>.inl e,fun e=>e.elim id (fun e=>by cases e)⟩,by rw [hwS];exact Keep.refl _ _⟩
 refine x_rangeX (ps:=[8,9]) (fun k=>k=bw\/k=bb\/G k) (AlG (tlF es)) (FinG (tlF es)) (NoE) (noE_elem) c (ScanAt c) (WhyW c) hcl (fun _ _ h=>h.1) (fun W lW=>fun y I J F w0 _ hy h1 h2 h3 hw0 h0 hF=>CallV.of_ret (frames1_ok y bw bb c G A n cap bs I J F W (hr.keep (kpc:Keep NoB w W) (fun _ _ h=>h)) hl hn hcap w0 (by rw [<- hl0];exact hy) h1 h2 h3 hw0 h0 hF |>.mono (fun v w' h=>by rw [<- hl0] at h;exact h))) (by rintro k (rfl | rfl | e);exact Has.lt;exact Has.lt;exact Nat.lt_of_lt_of_le (hG k e) hszB) (fun pre v h=>(by obtain ⟨h1,h2,_⟩:=alG_last h;rw [h2,tlF_get (by rw [tlF_len] at h1;exact h1) h1];rfl)) (AllE es c wS) (fun _ _ _ _=>False) (OneB c) (hwS ▸ allE_stable) (fun _=>⟨fun _ _ _ h=>h.elim,fun _ _ _ _ _ h=>h.elim⟩) allE_rd (hwS ▸ allE_wr hcl) rfl (hi0) (fun k hk e=>by have e':k=c:=hk;subst e';rcases e with e | e | e;omega;omega;have:=hG _ e;omega) (fun v τ n' W=>∃ (a:Int) (e:En) (c4:Nat),v=[.int .i64 a,.agg (enC e).toArray]/\Ev τ 2 (ptrV c)/\Ev τ 3 (.int .i64 a)/\Ev τ 4 (ptrV c4)/\W.heap[c4]?=some (.cells (enC e).toArray 51 (0,0))/\n'<=c4) (by rintro v τ n W1 W2 S ⟨a,e,c4,h1,h2,h3,h4,h5,h6⟩ hk hs;exact ⟨a,e,c4,h1,h2,h3,h4,(hk.block c4 (Array.getElem?_eq_some_iff.1 h5).1 (fun e=>by have:=hs _ e;omega)).trans h5,h6⟩) ?assign ?body ?normal ?jump
 case assign=>
  intro l3 pre v3 w3 hal hv3
  obtain ⟨hpl,hv,_⟩:=alG_last hal
  have hpl2:pre.length<es.length:=by rw [tlF_len] at hpl;exact hpl
  rw [tlF_get hpl2 hpl] at hv
  subst hv
  simp only [updL]
  refine xq (xz ?_)
  refine x_regionL ?_
  refine xl_e (e_alloc fun c4 w4 n4 l4 k4=>?_)
  refine xl_s (e_storeA fun w5 l5 k5=>?_)
  refine xl_nil ?_
  exact ⟨lkc,_,es[pre.length],c4,rfl,ii,ii,ii,Blk.eq,by rw [n4.eq];exact Nat.le_refl _⟩
 case body=>
  intro l pre v F Fv nb w6 τ6 ds6 hal hI hE hdis hnew hlt hnb hnbw hB
  obtain ⟨k,V,g,y,hpre,hk,hcb,hown,hFe,hkw⟩:=hI
  obtain ⟨hpl,hv,_⟩:=alG_last hal
  have hpl2:pre.length<es.length:=by rw [tlF_len] at hpl;exact hpl
  have hplk:pre.length=k:=by rw [hpre,List.length_take,tlF_len];omega
  have hk1:k<es.length:=by omega
  rw [tlF_get hpl2 hpl] at hv
  obtain ⟨a,e,c4,hve,e2,e3,e4,hc4,hnc⟩:=hB
  rw [hv] at hve
  simp only [List.cons.injEq,Value.int.injEq,Value.agg.injEq,and_true,true_and] at hve
  obtain ⟨rfl,hve2⟩:=hve
  rw [<- hve2] at hc4
  have hplk':es[pre.length]=es[k]:=by simp only [hplk]
  rw [hplk'] at hc4
  haveI kcB:Blk w6 c (.cells #[V,.int .i64 g,.int .i64 y] 99 (0,0)):=⟨hcb⟩
  obtain ⟨AV,cV,rfl,_⟩:=ownsRow_form hown
  haveI kc4:Blk w6 c4 (.cells (enC es[k]).toArray 51 (0,0)):=⟨hc4⟩
  have hszS:wS.heap.size<=(w6).heap.size:=hkw.size
  haveI nbc:NotS (OwnB (.slice AV k cV)) c:=⟨fun e=>by have h1:=(hown.lt _ (Eq.symm e)).1;rw [hwS] at h1;omega⟩
  refine x_block (x_regionL (xl_Fb ?_))
  refine xl_Lc ?_
  refine xl_Lb ?_
  refine xl_e (e_buildSliceM (vs:=enC es[k]) rfl rfl (by simp) fun b13 w7 n13 l13 k13=>?_)
  refine xl_e (e_append' (own_ext hown lkc) (Nat.le_trans hszS Ge.le) rfl Cell1L.eq (by decide) (.inl rfl) (by omega) (by omega) fun A4 c4' w8 ho4 l4 hn4=>?_)
  refine xm (xl_Fb ?_)
  refine xl_s (e_store fun w9 l9 k9=>?_)
  refine xl_Fb ?_
  refine xl_s (e_store fun w10 l10 k10=>?_)
  refine xl_nil ?_
  haveI s1:SubF (OwnB (.slice AV k cV)) (fun j=>F j\/Fv j\/nb<=j) w6:=⟨fun j _ e=>.inl ((hFe j).2 (.inr (Eq.symm e)))⟩
  haveI s2:SubF (OneB c) (fun j=>F j\/Fv j\/nb<=j) w6:=⟨fun j _ e=>.inl ((hFe j).2 (.inl e))⟩
  have hcw2:(w10).heap[c]?=some (.cells #[.slice A4 (k+1) c4',.int .i64 ((frames (es.take (pre.length+1))).length:Int),.int .i64 y] 99 (0,0)):=Blk.eq
  have hown5:=own_keep ho4 (kpc:Keep (OneB c) _ w10) (fun j hj e=>by have e':j=c:=e;have h1:=(ho4.lt j hj).1;rw [hwS] at h1;omega)
  refine ⟨fun j=>j=c\/(Value.slice A4 (k+1) c4').ownBlock=some j,⟨k+1,_,_,_,?_,hk1,hcw2,?_,fun j=>Iff.rfl,?_⟩,kpc,?_⟩
  ·have h1:=take_snoc (tlF es) k (by rw [tlF_len];exact hk1)
   rw [h1,<- hpre,tlF_get hk1 (by rw [tlF_len];exact hk1),hv]
   simp only [hplk]
  ·rw [take_snoc es k hk1,List.flatMap_append,List.flatMap_cons,List.flatMap_nil,List.append_nil]
   exact hown5
  ·exact hkw.then (kpc:Keep (fun j=>F j\/Fv j\/nb<=j) w6 w10) (fun j hlt e=>by
    rcases e with e | e | e
    ·rcases (hFe j).1 e with e | e
     ·exact e
     ·have:=(hown.lt j e).1;omega
    ·exact absurd e (hE j)
    ·rw [hwS] at hlt
     omega)
  ·rintro j (hj | hj)
   ·exact .inl (.inl ((hFe j).2 (.inl hj)))
   ·rcases hn4 with h5 | h5
    ·exact .inl (.inl ((hFe j).2 (.inr (h5 ▸ hj))))
    ·rw [h5] at hj
     cases hj
     exact .inr Ge.le
 case normal=>
  intro D11 pre F w11 hfin hI hkF hsF hD11 hge11 hnF11
  obtain ⟨k,V,g,y,hpre,hk,hcb,hown,hFe,hkw⟩:=hI
  have hkl:k=es.length:=by
   have h1:pre=tlF es:=hfin
   have h2:=congrArg List.length hpre
   rw [h1,List.length_take,tlF_len] at h2
   omega
  subst hkl
  rw [List.take_of_length_le (Nat.le_refl _)] at hown
  haveI kcB:Blk w11 c (.cells #[V,.int .i64 g,.int .i64 y] 99 (0,0)):=⟨hcb⟩
  haveI lkF:Lk w11 _ (OneB c):=⟨hkF⟩
  obtain ⟨AV,cV,rfl,_⟩:=ownsRow_form hown
  have hDw:w.heap.size<=D11:=Nat.le_trans hkwS.size (by rw [hwS];exact hge11)
  haveI:NeB D11 c:=⟨fun e=>by have:=hge11;omega⟩
  haveI nD:NotS (fun k=>k∈[D11]) c:=⟨fun e=>by simp at e;have:=hge11;omega⟩
  haveI sD:SubF (fun k=>k∈[D11]) NoB w:=⟨fun k hk e=>by simp at e;omega⟩
  refine xq (xl_Lb ?_)
  refine xl_s (e_storeA fun w12 l12 k12=>?_)
  have hown12:=own_keep hown (kpc:Keep (OneB c) _ w12) (fun j hj e=>by have e':j=c:=e;have h1:=(hown.lt j hj).1;rw [hwS] at h1;omega)
  refine xl_nil ?_
  refine x_ret ?_
  refine finM (rs:=[.cell 2 99]) rfl [D11] rfl (by simpa using (Blk.eq:(w12).heap[D11]?=_)) (by simp) (fun w13 lm13=>⟨_,ii,?_⟩)
  refine ⟨⟨AV,cV,g,y,rfl,?_⟩,lkc⟩
  exact own_mono (own_keep hown12 lm13.keep (fun j hj e=>by
   have e':j=D11:=by simpa using e
   have h1:=hown.lt j hj
   exact hnF11 ((hFe _).2 (.inr (e' ▸ hj))))) hkwS.size
 case jump=>
  exact fun _ _ _ _ _ h=>h.elim
theorem en_ne {a b:En}:(!(decide (a.epoch=b.epoch) && (decide (a.id=b.id) && (decide (a.num=b.num) && (decide (a.seq=b.seq) && (decide (a.kind=b.kind) && (decide (a.val=b.val) && true)))))))=!decide (a=b):=by
 congr 1
 rw [Bool.eq_iff_iff]
 cases a;cases b
 simp
theorem same_ok (A:Option Addr) (n c:Nat) (xs:List En) (B:Option Addr) (n' c':Nat) (ys:List En) (w:World) [hra0:Row w A (xs.flatMap enC)] [hrb0:Row w B (ys.flatMap enC)] (hl:xs.length=n) (hl':ys.length=n') (hn:n<=1000000) (hn':n'<=1000000):Ret Tryz.prog 18 #[.slice A n c,.slice B n' c'] w (fun v w'=>v=.bool (decide (xs=ys))/\Lk w' w NoB):=by
 haveI:RowB w A w (xs.flatMap enC):=rowB_of hra0.row
 haveI:RowB w B w (ys.flatMap enC):=rowB_of hrb0.row
 refine ret_of_x (N:=26) (l:=[.slice A n c,.slice B n' c']) Tryz.func18 rfl rfl (Nat.le_of_ble_eq_true rfl) ?_
 refine xq (xz ?_)
 refine x_seq (xq (xm (xl_v v_len (xm (xl_v v_len (xl_v v_neq (xl_nil ?_)))))))
 refine x_if (fun c1=>?_) (fun c1=>?_)
 ·refine xq (xz ?_)
  refine x_ret ?_
  refine fin1 rfl ?_
  exact ⟨by rw [decide_eq_false];intro e;subst e;omega,lkc⟩
 refine x_skip (x_seq (xq (xz ?_)))
 refine x_block ?_
 refine x_loop (fun m τ ds w'=>ds=[]/\∃ k:Nat,m=n - k/\k<=n/\xs.take k=ys.take k/\Ev τ 0 (.slice A n c)/\Ev τ 1 (.slice B n' c')/\Ev τ 5 (.int .i64 (k:Int))/\Lk w' w NoB) (n) ?start ?round
 case start=>
  exact ⟨rfl,0,rfl,Nat.zero_le _,by simp,ii,ii,evc,lkc⟩
 case round=>
  intro m τ1 ds1 w1 hI
  obtain ⟨rfl,k,rfl,hk,heq,e0,e1,e5,lk⟩:=hI
  refine x_seq (xq (xm (xm (xl_v v_len (xl_v v_lss (xl_nil ?_))))))
  refine x_if (fun c2=>?_) (fun c2=>?_)
  ·have hnn:n=n':=by omega
   have hk1:k<xs.length:=by omega
   have hk2:k<ys.length:=by omega
   refine x_skip (x_seq (x_block (x_seq ?_)))
   refine x_drawL (NoB) (allS) (.take 0 (.take 1 (.take 2 (.take 3 (.take 4 (.take 5 (.take 6 (.take 7 (.take 8 .done))))))))) mixed (by kernel_rfl) (fun _ _ _ _ _ h=>h) (fun w2 l2=>?_)
   refine xt_v rfl v_move (xt_v rfl v_move ?_)
   refine xt_v rfl (v_indexF k (by decide) rfl (by omega) hk1) ?_
   refine xt_v rfl (v_loadF (k:=k) (by decide) hk1) ?_
   refine xt_v rfl v_move (xt_v rfl v_move ?_)
   refine xt_v rfl (v_indexF k (by decide) rfl (by omega) hk2) ?_
   refine xt_v rfl (v_loadF (k:=k) (by decide) hk2) ?_
   refine xt_v rfl (v_congr (u:=.bool (!decide (xs[k]=ys[k]))) v_neq_struct (congrArg Value.bool en_ne)) ?_
   refine xt_nil ?_
   refine x_condE (fun c3=>?_) (fun c3=>?_)
   ·have hne:xs[k]≠ys[k]:=by simpa using c3
    refine xq (xz ?_)
    refine x_ret ?_
    refine fin1 rfl ?_
    refine ⟨?_,lkc⟩
    rw [decide_eq_false]
    intro e
    subst e
    exact hne rfl
   have heqk:xs[k]=ys[k]:=by simpa using c3
   refine x_skip (x_regionL (xm ?_))
   refine xl_v (v_add (by omega)) ?_
   refine xz ?_
   refine ⟨_,?_,rfl,k+1,rfl,by omega,?_,ii,ii,evc,lkc⟩
   ·omega
   ·rw [take_snoc xs k hk1,take_snoc ys k hk2,heq,heqk]
  refine x_exit (xq (xz ?_))
  refine x_ret ?_
  refine fin1 rfl ?_
  refine ⟨?_,lkc⟩
  have hnn:n=n':=by omega
  rw [decide_eq_true]
  rw [List.take_of_length_le (by omega),List.take_of_length_le (by omega)] at heq
  exact heq
end Go.Proofs.YtigmfcgeljjgnaaGreat
namespace Go.Wst.Sg
open Go.Wst.Dm
def digB (n:Nat):UInt8:=UInt8.ofNat (48+n % 10)
def digs:Nat->Nat->By
  | 0,_=>[]
  | k+1,n=>digs k (n / 10)++[digB n]
def byteD (c:UInt8):Bool:=decide (48<=c.toNat) && decide (c.toNat<=57)
def byteL (c:UInt8):Bool:=(decide (97<=c.toNat) && decide (c.toNat<=122)) || (decide (48<=c.toNat) && decide (c.toNat<=57))
def strOf (l:By):ByteArray:=⟨l.toArray⟩
theorem strOf_list (l:By):(strOf l).toList=l:=by simp [strOf,ByteArray.toList_eq]
theorem strOf_of (s:ByteArray):strOf s.toList=s:=toList_inj (strOf_list _)
theorem size_list (s:ByteArray):s.toList.length=s.size:=by rw [ByteArray.toList_eq];rfl
def fileN (name:ByteArray) (n:Nat):ByteArray:=strOf (name.toList++46 :: digs 6 n)
def valD (l:By):Nat:=l.foldl (fun n c=>10*n+(c.toNat - 48)) 0
def ownL (name file:By):Option Nat:=if file.take (name.length+1)=name++[46]/\file.length=name.length+7/\(file.drop (name.length+1)).all byteD=true then some (valD (file.drop (name.length+1))) else none
def ownN (name file:ByteArray):Option Nat:=ownL name.toList file.toList
def logName (s:ByteArray):Bool:=decide (1<=s.size) && decide (s.size<=8) && s.toList.all byteL
theorem digB_nat (n:Nat):(digB n).toNat=48+n % 10:=toNat_ofNat (by omega)
theorem digs_len:∀ (k n:Nat),(digs k n).length=k
  | 0,_=>rfl
  | k+1,n=>by simp [digs,digs_len k]
theorem digB_D (n:Nat):byteD (digB n)=true:=by
  unfold byteD
  rw [digB_nat]
  simp;omega
theorem digs_D:∀ (k n:Nat),(digs k n).all byteD=true
  | 0,_=>rfl
  | k+1,n=>by
    rw [digs,List.all_append,digs_D k]
    simp [digB_D]
theorem valD_snoc (l:By) (c:UInt8):valD (l++[c])=10*valD l+(c.toNat - 48):=by simp [valD]
theorem valD_digs:∀ (k n:Nat),n<10 ^ k->valD (digs k n)=n
  | 0,n,h=>by
    have:n=0:=by simpa using h
    subst this;rfl
  | k+1,n,h=>by
    rw [digs,valD_snoc,valD_digs k (n / 10) (by rw [Nat.pow_succ] at h;omega),digB_nat]
    omega
theorem digs_valD:∀ (k:Nat) (l:By),l.length=k->l.all byteD=true->digs k (valD l)=l/\valD l<10 ^ k
  | 0,l,h,_=>by
    have:l=[]:=List.eq_nil_of_length_eq_zero h
    subst this
    exact ⟨rfl,by decide⟩
  | k+1,l,h,hd=>by
    obtain ⟨l',c,rfl⟩:∃ l' c,l=l'++[c]:=⟨l.dropLast,l.getLast (fun e=>by subst e;simp at h),(List.dropLast_concat_getLast _).symm⟩
    rw [List.all_append] at hd
    simp only [Bool.and_eq_true,List.all_cons,List.all_nil,Bool.and_true] at hd
    obtain ⟨h1,h2⟩:=digs_valD k l' (by simpa using h) hd.1
    have hc:48<=c.toNat/\c.toNat<=57:=by simpa [byteD] using hd.2
    rw [valD_snoc]
    refine ⟨?_,by rw [Nat.pow_succ];omega⟩
    rw [digs,show (10*valD l'+(c.toNat - 48)) / 10=valD l' by omega,h1]
    congr 2
    apply UInt8.toNat_inj.1
    rw [digB_nat]
    omega
theorem own_file (name:ByteArray) {n:Nat} (h:n<1000000):ownN name (fileN name n)=some n:=by
  have hd:(name.toList++46 :: digs 6 n).drop (name.toList.length+1)=digs 6 n:=by
    rw [show name.toList++46 :: digs 6 n=(name.toList++[46])++digs 6 n by simp,show name.toList.length+1=(name.toList++[46]).length by simp,List.drop_left]
  have ht:(name.toList++46 :: digs 6 n).take (name.toList.length+1)=name.toList++[46]:=by
    rw [show name.toList++46 :: digs 6 n=(name.toList++[46])++digs 6 n by simp,show name.toList.length+1=(name.toList++[46]).length by simp,List.take_left]
  unfold ownN fileN ownL
  rw [strOf_list,hd,ht,if_pos ⟨rfl,by simp [digs_len],digs_D 6 n⟩,valD_digs 6 n h]
theorem own_some {name file:ByteArray} {n:Nat} (h:ownN name file=some n):file=fileN name n/\n<1000000:=by
  unfold ownN ownL at h
  split at h
  · next hh=>
    obtain ⟨h1,h2,h3⟩:=hh
    injection h with h
    have hl:(file.toList.drop (name.toList.length+1)).length=6:=by rw [List.length_drop,h2];omega
    obtain ⟨h4,h5⟩:=digs_valD 6 _ hl h3
    rw [h] at h4 h5
    refine ⟨?_,h5⟩
    unfold fileN
    rw [h4,<- strOf_of file]
    congr 1
    rw [<- List.take_append_drop (name.toList.length+1) file.toList,h1]
    simp [strOf_list]
  cases h
theorem file_inj {name:ByteArray} {n m:Nat} (hn:n<1000000) (hm:m<1000000) (h:fileN name n=fileN name m):n=m:=by
  have h1:=own_file name hn
  rw [h,own_file name hm] at h1
  exact (Option.some.inj h1).symm
def riseE:Int->List En->List En
  | _,[]=>[]
  | q,e :: l=>if q<=e.epoch then e :: riseE e.epoch l else []
def lastE (q:Int) (l:List En):Int:=match l.getLast? with
  | some e=>e.epoch
  | none=>q
def segE (fs:Fs) (name:ByteArray) (per first:Nat) (q:Int):List En:=riseE q ((allB ((akey fs (fileN name first)).getD [])).take (min per (4096 - first)))
def toldN (fs:Fs) (name:ByteArray) (per:Nat):Nat->Nat->Int->List En×Nat
  | 0,first,_=>([],first)
  | k+1,first,q=>
    if (segE fs name per first q).length<per\/4096<=first+(segE fs name per first q).length then (segE fs name per first q,first)
    else (segE fs name per first q++(toldN fs name per k (first+per) (lastE q (segE fs name per first q))).1,(toldN fs name per k (first+per) (lastE q (segE fs name per first q))).2)
def told (fs:Fs) (name:ByteArray) (per:Nat):List En×Nat:=toldN fs name per 4097 0 0
def doAll (M:Disk) (ts:List Thing):Disk:=ts.foldl Disk.does M
abbrev rmT (f:ByteArray):Thing:=⟨2,f,[],0⟩
abbrev cutT (f:ByteArray) (n:Nat):Thing:=⟨1,f,[],n⟩
def mendT (fs:Fs) (name:ByteArray) (per:Nat):List Thing:=
  match akey fs (fileN name (told fs name per).2) with
  | none=>[]
  | some b=>
    if (frames ((told fs name per).1.drop (told fs name per).2)).length=0 then [rmT (fileN name (told fs name per).2)]
    else if (frames ((told fs name per).1.drop (told fs name per).2)).length<b.length then [cutT (fileN name (told fs name per).2) (frames ((told fs name per).1.drop (told fs name per).2)).length]
    else []
def strayB (name:ByteArray) (per len:Nat) (f:ByteArray):Bool:=match ownN name f with
  | some n=>decide (n % per≠0) || decide (len<=n)
  | none=>false
def fallOwn (fs:Fs) (p:ByteArray->Bool):List ByteArray:=((fs.map (·.1)).filter p).reverse
def openM (M:Disk) (name:ByteArray) (per:Nat):Disk:=
  doAll (doAll M (mendT M.files name per)) ((fallOwn (doAll M (mendT M.files name per)).files (strayB name per (told M.files name per).1.length)).map rmT)
abbrev putT (name:ByteArray) (per n:Nat) (x:En):Thing:=⟨0,fileN name (n / per*per),frame x,0⟩
def appNo (M:Disk) (name:ByteArray) (per:Nat) (es:List En) (x:En):Int:=
  if ¬ Right x then 2 else if 4096<=es.length then 3 else if es≠[]/\x.epoch<lastE 0 es then 140 else M.doNo (putT name per es.length x)
def appAll (name:ByteArray) (per:Nat):Disk->List En->List En->Disk×List En×Nat×Int
  | M,es,[]=>(M,es,0,0)
  | M,es,x :: xs=>
    if appNo M name per es x=0 then ((appAll name per (M.does (putT name per es.length x)) (es++[x]) xs).1,(appAll name per (M.does (putT name per es.length x)) (es++[x]) xs).2.1,(appAll name per (M.does (putT name per es.length x)) (es++[x]) xs).2.2.1+1,(appAll name per (M.does (putT name per es.length x)) (es++[x]) xs).2.2.2)
    else (M,es,0,appNo M name per es x)
def fromB (name:ByteArray) (n:Nat) (f:ByteArray):Bool:=match ownN name f with
  | some k=>decide (n<=k)
  | none=>false
def truncM (M:Disk) (name:ByteArray) (per:Nat) (es:List En) (n:Nat):Disk:=
  if n / per*per<n/\n<min es.length (n / per*per+per) then (doAll M ((fallOwn M.files (fromB name n)).map rmT)).does (cutT (fileN name (n / per*per)) (frames ((es.take n).drop (n / per*per))).length)
  else doAll M ((fallOwn M.files (fromB name n)).map rmT)
def ownB (name:ByteArray) (f:ByteArray):Bool:=(ownN name f).isSome
def ownFiles (fs:Fs) (name:ByteArray):List ByteArray:=(fs.map (·.1)).filter (ownB name)
end Go.Wst.Sg
namespace Go.Proofs.YtigmfcgeljjgnaaGreat
open Go.Wst
open Go.Wst.Dm
theorem DiskW.new {P R:Nat->Prop} {d mb ml:Nat} {room:Int} {W:World} (h:DiskAt W d mb ml NoB ⟨room,[],[],[],none,0⟩) (hm:1<=room/\room<=16777216) (hP:∀ k,P k->k<W.heap.size/\k≠d/\k≠mb/\k≠ml) (hR:∀ k,R k->k<W.heap.size/\k≠d/\k≠mb/\k≠ml):DiskW P R d ⟨room,[],[]⟩ W:=
 ⟨mb,ml,NoB,_,h,⟨rfl,rfl,Dm.Alike.nil,Dm.Alike.nil,⟨hm.1,hm.2,by simp [Rise],nofun,by show ((0:Nat):Int)<=room;omega⟩,by simp,nofun⟩,fun k e=>⟨(hP k e).1,by
  rintro ((e2 | e2 | e2 | ⟨a,ha,_⟩) | e2)
  ·exact (hP k e).2.1 e2
  ·exact (hP k e).2.2.1 e2
  ·exact (hP k e).2.2.2 e2
  ·cases ha
  ·exact e2⟩,fun k e=>⟨(hR k e).1,by
  rintro (e2 | e2 | e2 | ⟨a,ha,_⟩)
  ·exact (hR k e).2.1 e2
  ·exact (hR k e).2.2.1 e2
  ·exact (hR k e).2.2.2 e2
  ·cases ha⟩⟩
def wa:ByteArray:=⟨#[97]⟩
abbrev T1:Thing:=⟨0,wa,[104,105],0⟩
abbrev T2:Thing:=⟨0,wa,[121,111,117],0⟩
abbrev M1:Disk:=⟨8,[],[T1]⟩
abbrev M2:Disk:=⟨8,[(wa,[104,105])],[]⟩
abbrev M3:Disk:=⟨8,[(wa,[104,105])],[T2]⟩
end Go.Proofs.YtigmfcgeljjgnaaGreat
namespace Go.Proofs
open Go.Shelf
def Tryz.lays190_ren:Go.Shelf.Ren:=⟨fun | 190=>104 | 125=>118 | 258=>117 | 128=>134 | 129=>135 | 302=>125 | 303=>126 | 304=>127 | 305=>128 | 306=>129 | 307=>130 | 308=>131 | 309=>132 | 310=>133 | 333=>136 | 329=>137 | 330=>138 | 334=>139 | 335=>140 | 336=>141 | 344=>142 | n=>n,fun | 31=>55 | 9=>9 | 3=>3 | 46=>127 | 0=>0 | 51=>125 | 53=>155 | 4=>4 | 183=>175 | 182=>174 | 131=>107 | 5=>5 | 218=>182 | 222=>186 | 228=>188 | 229=>189 | n=>n,fun | n=>n⟩
theorem Tryz.lays190:Go.Proofs.Lays.n190 Tryz.prog Tryz.lays190_ren:={
  mixed:=by kernel_rfl
  f125:=Tryz.func118.trans (congrArg some (by kernel_rfl))
  f128:=Tryz.func134.trans (congrArg some (by kernel_rfl))
  f129:=Tryz.func135.trans (congrArg some (by kernel_rfl))
  f190:=Tryz.func104.trans (congrArg some (by kernel_rfl))
  f258:=Tryz.func117.trans (congrArg some (by kernel_rfl))
  f302:=Tryz.func125.trans (congrArg some (by kernel_rfl))
  f303:=Tryz.func126.trans (congrArg some (by kernel_rfl))
  f304:=Tryz.func127.trans (congrArg some (by kernel_rfl))
  f305:=Tryz.func128.trans (congrArg some (by kernel_rfl))
  f306:=Tryz.func129.trans (congrArg some (by kernel_rfl))
  f307:=Tryz.func130.trans (congrArg some (by kernel_rfl))
  f308:=Tryz.func131.trans (congrArg some (by kernel_rfl))
  f309:=Tryz.func132.trans (congrArg some (by kernel_rfl))
  f310:=Tryz.func133.trans (congrArg some (by kernel_rfl))
  f329:=Tryz.func137.trans (congrArg some (by kernel_rfl))
  f330:=Tryz.func138.trans (congrArg some (by kernel_rfl))
  f333:=Tryz.func136.trans (congrArg some (by kernel_rfl))
  f334:=Tryz.func139.trans (congrArg some (by kernel_rfl))
  f335:=Tryz.func140.trans (congrArg some (by kernel_rfl))
  f336:=Tryz.func141.trans (congrArg some (by kernel_rfl))
  f344:=Tryz.func142.trans (congrArg some (by kernel_rfl))
  t0:=Tryz.underlying0
  a0:=Tryz.isAgg0
  z0:=Tryz.sizeOf0
  v0:=Tryz.zeroValue0
  t3:=Tryz.underlying3
  a3:=Tryz.isAgg3
  z3:=Tryz.sizeOf3
  v3:=Tryz.zeroValue3
  t4:=Tryz.underlying4
  a4:=Tryz.isAgg4
  z4:=Tryz.sizeOf4
  v4:=Tryz.zeroValue4
  t5:=Tryz.underlying5
  a5:=Tryz.isAgg5
  z5:=Tryz.sizeOf5
  v5:=Tryz.zeroValue5
  t9:=Tryz.underlying9
  a9:=Tryz.isAgg9
  z9:=Tryz.sizeOf9
  v9:=Tryz.zeroValue9
  t31:=Tryz.underlying55
  a31:=Tryz.isAgg55
  z31:=Tryz.sizeOf55
  v31:=Tryz.zeroValue55
  t46:=Tryz.underlying127
  a46:=Tryz.isAgg127
  z46:=Tryz.sizeOf127
  v46:=Tryz.zeroValue127
  t51:=Tryz.underlying125
  a51:=Tryz.isAgg125
  z51:=Tryz.sizeOf125
  v51:=Tryz.zeroValue125
  t53:=Tryz.underlying155
  a53:=Tryz.isAgg155
  z53:=Tryz.sizeOf155
  v53:=Tryz.zeroValue155
  t131:=Tryz.underlying107
  a131:=Tryz.isAgg107
  z131:=Tryz.sizeOf107
  v131:=Tryz.zeroValue107
  t182:=Tryz.underlying174
  a182:=Tryz.isAgg174
  z182:=Tryz.sizeOf174
  v182:=Tryz.zeroValue174
  t183:=Tryz.underlying175
  a183:=Tryz.isAgg175
  z183:=Tryz.sizeOf175
  v183:=Tryz.zeroValue175
  t218:=Tryz.underlying182
  a218:=Tryz.isAgg182
  z218:=Tryz.sizeOf182
  v218:=Tryz.zeroValue182
  t222:=Tryz.underlying186
  a222:=Tryz.isAgg186
  z222:=Tryz.sizeOf186
  v222:=Tryz.zeroValue186
  t228:=Tryz.underlying188
  a228:=Tryz.isAgg188
  z228:=Tryz.sizeOf188
  v228:=Tryz.zeroValue188
  t229:=Tryz.underlying189
  a229:=Tryz.isAgg189
  z229:=Tryz.sizeOf189
  v229:=Tryz.zeroValue189 }
open Go.Sort Go.RowKit in
theorem Tryz.slices_Sort_string (blk off cap:Nat) (ss:List (List UInt8)) (w:World) (hH:Holds encStr w blk off ss.toArray) (hblk:blk<w.heap.size) (hsz:ss.length<4611686018427387904) :
    Calls Tryz.prog 104 #[.slice (some ⟨blk,off,none⟩) ss.length cap] w fun e w'=>
      e=.returned (.tuple #[])/\∃ n os,w'=grow (putRow encStr (Sort.ahead w n) blk off (ss.mergeSort fun x y=>decide (x<=y)).toArray) os:=Any.slices_Sort_string Tryz.lays190 blk off cap ss w hH hblk hsz
open Go.RowKit Go.Sort in
theorem Tryz.slices_Sort_string_none (p:Option Addr) (cap:Nat) (w:World) :
    Calls Tryz.prog 104 #[.slice p 0 cap] w fun e w'=>e=.returned (.tuple #[])/\w'=w:=Any.slices_Sort_string_none Tryz.lays190 p cap w
end Go.Proofs
namespace Go.Proofs.YtigmfcgeljjgnaaGreat
open Go.Wst
open Go.Wst.Dm
abbrev strs (ks:List ByteArray):List Value:=ks.map Value.string
def toB (l:List UInt8):ByteArray:=⟨l.toArray⟩
def sortB (ks:List ByteArray):List ByteArray:=((ks.map (fun s=>s.data.toList)).mergeSort fun x y=>decide (x<=y)).map toB
theorem toB_data (s:ByteArray):toB s.data.toList=s:=by cases s;rfl
theorem strs_enc (ks:List ByteArray):strs ks=(ks.map (fun s=>s.data.toList)).map encStr:=by
 simp only [strs,List.map_map]
 apply List.map_congr_left
 intro s _
 show Value.string s=Value.string (toB s.data.toList)
 rw [toB_data]
theorem strs_toB (ls:List (List UInt8)):strs (ls.map toB)=ls.map encStr:=by
 simp only [strs,List.map_map]
 rfl
theorem sortB_perm {ks L:List ByteArray} (hp:ks.Perm L) (hr:L.Pairwise blt):sortB ks=L:=by
 have h1:(ks.map (fun s=>s.data.toList)).mergeSort (fun x y=>decide (x<=y))=L.map (fun s=>s.data.toList):=by
  have tr:∀ a b c:List UInt8,decide (a<=b)=true->decide (b<=c)=true->decide (a<=c)=true:=fun a b c h1 h2=>decide_eq_true (List.le_trans (of_decide_eq_true h1) (of_decide_eq_true h2))
  have to:∀ a b:List UInt8,(decide (a<=b) || decide (b<=a))=true:=fun a b=>by
   rcases List.le_total a b with h | h<;>simp [h]
  refine List.Perm.eq_of_pairwise (le:=fun x y=>decide (x<=y)=true) ?_ (List.pairwise_mergeSort tr to _) ?_ ?_
  ·intro a b _ _ h1 h2
   exact List.le_antisymm (of_decide_eq_true h1) (of_decide_eq_true h2)
  ·rw [List.pairwise_map]
   exact hr.imp (fun {a b} h=>decide_eq_true (by
    have h':a.data.toList<b.data.toList:=by rw [<- ByteArray.toList_eq,<- ByteArray.toList_eq];exact h
    exact List.le_of_lt h'))
  ·exact (List.mergeSort_perm _ _).trans (hp.map _)
 rw [sortB,h1,List.map_map]
 have:(toB ∘ fun s:ByteArray=>s.data.toList)=id:=by funext s;exact toB_data s
 rw [this,List.map_id]
def KeysAl (ks:List ByteArray):Seen->Prop:=fun pre=>∃ l rest:List ByteArray,pre=l.map (fun k=>[Value.string k])/\(l++rest).Perm ks
def KeysFin (ks:List ByteArray):Seen->Prop:=fun pre=>∃ l:List ByteArray,pre=l.map (fun k=>[Value.string k])/\l.Perm ks
theorem mkeys_ok (m:Option Nat) (w:World):Ret Tryz.prog 73 #[.map m] w (fun v w'=>∃ b,v=.func (.func 105) ([]:List Value).toArray [Value.pointer (some ⟨b,0,none⟩)].toArray/\Blk w' b (.cells #[.map m] 57 (0,0))/\w.heap.size<=b/\Lk w' w NoB):=by
 refine ret_of_x (N:=4) (l:=[.map m]) Tryz.func73 rfl rfl (Nat.le_of_ble_eq_true rfl) ?_
 refine xq ?_
 refine xl_e (e_box fun b w1 nb lb kb=>?_)
 refine xz ?_
 refine xq (xl_v v_makeFunc (xz ?_))
 refine x_ret ?_
 refine fin1 rfl ?_
 exact ⟨b,rfl,ii,Nat.le_of_eq nb.eq.symm,lkc⟩
theorem mkeys1_ok (y:Value) (b mb:Nat) (kvs:List (ByteArray×Value)) (I J:Seen->(Nat->Prop)->World->Prop) (F:Nat->Prop) (w:World) [Blk w b (.cells #[.map (some mb)] 57 (0,0))] (hm:MapB w mb Value.string kvs) (w0:World) (hy:YieldsI Tryz.prog y (KeysAl (kvs.map (·.1))) I J w0) (hw0:w0.heap.size<=w.heap.size) (h0:I [] F w) (hF:∀ k,F k->¬ (k=b\/k=mb)):Ret Tryz.prog 105 #[y,.pointer (some ⟨b,0,none⟩)] w (fun _ w'=>∃ pre F',((KeysFin (kvs.map (·.1)) pre/\I pre F' w')\/J pre F' w')/\Keep F w w'/\Sub F' F w):=by
 haveI hmi:MapI w mb _ _ _:=⟨hm⟩
 have hmlt:=hm.lt
 refine ret_of_x (N:=14) (l:=[y,.pointer (some ⟨b,0,none⟩)]) Tryz.func105 rfl rfl (Nat.le_of_ble_eq_true rfl) ?_
 refine xq (xl_Lc ?_)
 refine xl_e (e_range fun it w1 ni li hit hhas=>?_)
 refine xl_nil ?_
 refine x_block ?_
 have hFlt:=hy.i.lt _ _ _ h0
 refine x_loop (fun m τ ds w'=>ds=[]/\∃ (ks rest:List (ByteArray×Value)) (Fc:Nat->Prop),m=rest.length/\MapIt w' it mb Value.string kvs ks rest/\I (ks.map (fun p=>[Value.string p.1])) Fc w'/\¬ Fc it/\¬ Fc mb/\Keep F w w'/\Sub Fc F w/\Ev τ 0 y/\Ev τ 5 (.pointer (some ⟨it,0,none⟩))) (kvs.length) ?start ?round
 case start=>
  refine ⟨rfl,[],kvs,F,rfl,hit,hy.i.keep _ _ _ _ _ h0 (kpc:Keep NoB w w1) (fun _ _ h=>h) (fun _ h=>h.elim),?_,?_,(kpc:Keep NoB w w1).mono (fun _ _ h=>h.elim),Sub.refl _ _,ii,ii⟩
  ·intro e;have:=hFlt _ e;rw [ni.eq] at this;omega
  ·exact fun e=>hF _ e (.inr rfl)
 case round=>
  intro m τ2 ds2 w2 hI
  obtain ⟨rfl,ks,rest,Fc,rfl,hmit,hI,hnit,hnmb,hkF,hsF,e0,e5⟩:=hI
  have hit1:=hmit.lt.1
  have hne:it≠mb:=fun e=>by have:=ni.eq;omega
  have hwit:w.heap.size<=it:=by rw [ni.eq];exact Ge.le
  refine xq ?_
  refine xl_e (e_next hmit hne fun bb qs w3 l1 hb0 hb1=>?_)
  refine xl_v v_extract (xl_nil ?_)
  refine x_seq ?_
  refine x_condE (fun c1=>?_) (fun c1=>?_)
  ·obtain ⟨⟨k,u⟩,rest',hperm,hmi2⟩:=hb1 c1
   have hI2:=hy.i.keep _ _ _ _ _ hI l1.keep (fun j hj e=>hnit (by have e':j=it:=e;rw [<- e'];exact hj)) (fun j e=>by have e':j=it:=e;omega)
   have hal:KeysAl (kvs.map (·.1)) (ks.map (fun p=>[Value.string p.1])++[[Value.string k]]):=⟨ks.map (·.1)++[k],rest'.map (·.1),by simp,by
    have:=hmi2.perm.map (·.1)
    simpa using this⟩
   refine x_skip (x_block (xq ?_))
   refine xl_v (v_entry hmi2 (fun h=>h) (fun h=>h)) ?_
   refine xl_v v_extract (xz ?_)
   refine xq (xm (xm ?_))
   refine xl_callv (hy.step _ _ Fc w3 hal hI2) ?_
   rintro _ w4 ⟨bb2,F2,rfl,hI3,hk3,hs3⟩
   refine xl_v v_not (xl_nil ?_)
   refine x_condE (fun c2=>?_) (fun c2=>?_)
   ·refine x_ret ?_
    refine fin0r rfl ?_
    rw [if_neg (by simpa using c2)] at hI3
    refine ⟨_,F2,.inr hI3,?_,?_⟩
    ·refine (hkF.then l1.keep (fun j hj e=>by have e':j=it:=e;omega)).then hk3 (fun j hj e=>?_)
     exact (hsF j e).elim id (fun h=>by omega)
    ·intro j hj
     rcases hs3 j hj with e | e
     ·exact hsF j e
     ·exact .inr (Nat.le_trans (Nat.le_trans hkF.size l1.keep.size) e)
   refine x_skip ?_
   refine ⟨_,?_,rfl,ks++[(k,u)],rest',F2,rfl,hmi2.keep hk3 hnit hnmb,?_,?_,?_,?_,?_,ii,ii⟩
   ·rw [hperm.length_eq];simp
   ·rw [if_pos (by simpa using c2)] at hI3
    simpa using hI3
   ·intro e
    rcases hs3 _ e with e | e
    ·exact hnit e
    ·have:=hmi2.lt.1;omega
   ·intro e
    rcases hs3 _ e with e | e
    ·exact hnmb e
    ·have:=hmi2.lt.2;omega
   ·refine (hkF.then l1.keep (fun j hj e=>by have e':j=it:=e;omega)).then hk3 (fun j hj e=>?_)
    exact (hsF j e).elim id (fun h=>by omega)
   ·intro j hj
    rcases hs3 j hj with e | e
    ·exact hsF j e
    ·exact .inr (Nat.le_trans (Nat.le_trans hkF.size l1.keep.size) e)
  refine x_exit ?_
  refine fin0 rfl ?_
  obtain ⟨hrest,hmi2⟩:=hb0 c1
  subst hrest
  refine ⟨_,Fc,.inl ⟨⟨ks.map (·.1),by simp,?_⟩,hy.i.keep _ _ _ _ _ hI l1.keep (fun j hj e=>hnit (by have e':j=it:=e;rw [<- e'];exact hj)) (fun j e=>by have e':j=it:=e;omega)⟩,hkF.then l1.keep (fun j hj e=>by have e':j=it:=e;omega),hsF⟩
  have:=hmi2.perm.map (·.1)
  simpa using this
def AppI (b2:Nat) (tc te:TypeId) (base:Nat):Seen->(Nat->Prop)->World->Prop:=fun pre F W=>
 ∃ (ks:List ByteArray) (V:Value),pre=ks.map (fun k=>[Value.string k])/\W.heap[b2]?=some (.cells [V].toArray tc (0,0))/\W.ownsRow base te 1 V ks.length (strs ks)/\(∀ k,F k↔(k=b2\/V.ownBlock=some k))/\base<=W.heap.size
theorem appI_stable {b2:Nat} {tc te:TypeId} {base:Nat} {w0:World}:Stable (AppI b2 tc te base) w0:=by
 refine ⟨?_,?_⟩
 ·rintro pre F W ⟨ks,V,_,h1,h2,h3,_⟩ k hk
  rcases (h3 k).1 hk with e | e
  ·subst e;exact (Array.getElem?_eq_some_iff.1 h1).1
  ·exact (h2.lt k e).2
 ·rintro pre F W W' S ⟨ks,V,h0,h1,h2,h3,h4⟩ hk hs _
  exact ⟨ks,V,h0,(hk.block b2 (Array.getElem?_eq_some_iff.1 h1).1 (hs b2 ((h3 b2).2 (.inl rfl)))).trans h1,own_keep h2 hk (fun k hk=>hs k ((h3 k).2 (.inr hk))),h3,Nat.le_trans h4 hk.size⟩
theorem appendSeq_ok (gf:FuncId) (gc:List Value) (Own:Nat->Prop) (Al Fin:Seen->Prop) (w:World) (hit:∀ W,Lk W w NoB->IterI Tryz.prog (.func (.func gf) ([]:List Value).toArray gc.toArray) Own Al Fin W) (hOwn:∀ k,Own k->k<w.heap.size) (hAl:∀ pre,Al pre->∃ ks:List ByteArray,pre=ks.map (fun k=>[Value.string k])/\ks.length<=1000000):Ret Tryz.prog 116 #[.slice none 0 0,.func (.func gf) ([]:List Value).toArray gc.toArray] w (fun v w'=>∃ (ks:List ByteArray) (A:Option Addr) (c:Nat),Fin (ks.map (fun k=>[Value.string k]))/\v=.slice A ks.length c/\w'.ownsRow w.heap.size 9 1 v ks.length (strs ks)/\Lk w' w NoB):=by
 refine ret_of_x (N:=13) (l:=[.slice none 0 0,.func (.func gf) ([]:List Value).toArray gc.toArray]) Tryz.func116 rfl rfl (Nat.le_of_ble_eq_true rfl) ?_
 refine xq ?_
 refine xl_e (e_box fun b2 w1 nb2 lb2 kb2=>?_)
 refine xz ?_
 refine x_seq (xq (xm (xl_nil ?_)))
 refine x_block ?_
 have hb2w:w.heap.size<=b2:=Nat.le_of_eq nb2.eq.symm
 have hb2l:b2<w1.heap.size:=Has.lt
 refine x_range (ps:=[7]) (Own) (Al) (Fin) (fun W l=>hit W lkc) (fun k hk=>Nat.lt_of_lt_of_le (hOwn k hk) Ge.le) (fun pre v h=>(by obtain ⟨ks,h1,_⟩:=hAl _ h;obtain ⟨a,b,_,_,h2⟩:=List.map_eq_append_iff.1 h1.symm;obtain ⟨k,c,_,h3,_⟩:=List.map_eq_cons_iff.1 h2;rw [<- h3];rfl)) (AppI b2 55 9 w1.heap.size) (fun _ _ _ _=>False) (OneB b2) (appI_stable) (fun _=>⟨fun _ _ _ h=>h.elim,fun _ _ _ _ _ h=>h.elim⟩) (⟨[],.slice none 0 0,rfl,Blk.eq,World.ownsRow_nil _ _ _ _,fun k=>⟨fun e=>.inl e,fun e=>e.elim id (fun e=>by cases e)⟩,Nat.le_refl _⟩) (fun k hk e=>by have e':k=b2:=hk;have:=hOwn k e;omega) (fun v τ=>Ev τ 2 (.pointer (some ⟨b2,0,none⟩))/\∃ x,v=[x]/\Ev τ 5 x) ?assign ?body ?normal ?jump
 case assign=>
  intro l2 v2 w2 hv2
  obtain ⟨x,rfl⟩:∃ x,v2=[x]:=List.length_eq_one_iff.1 hv2
  simp only [updL]
  refine x_regionL (xz ?_)
  exact ⟨rfl,ii,x,rfl,ii⟩
 case body=>
  intro l pre v F w3 τ3 ds3 hal hI hB
  obtain ⟨ks,V,rfl,hb2,hown,hFe,hsz⟩:=hI
  obtain ⟨e2,x,rfl,e5⟩:=hB
  obtain ⟨ks2,hks2,hlen2⟩:=hAl _ hal
  obtain ⟨a,b,rfl,h1,h2⟩:=List.map_eq_append_iff.1 hks2.symm
  obtain ⟨k,c,rfl,h3,h4⟩:=List.map_eq_cons_iff.1 h2
  obtain rfl:Value.string k=x:=by simpa using h3
  have hla:a.length=ks.length:=by simpa using congrArg List.length h1
  have hkl:ks.length+1<=1000000:=by simp at hlen2;omega
  haveI kb:Blk w3 b2 _:=⟨hb2⟩
  haveI nb:NotS (OwnB V) b2:=⟨fun e=>by have:=(hown.lt _ (Eq.symm e)).1;omega⟩
  refine x_block (x_regionL (xl_Lc ?_))
  refine xm ?_
  refine xl_e (e_buildSliceN rfl fun b3 w4 n3 l3 k3=>?_)
  refine xl_e (e_append' (own_ext hown lkc) (Nat.le_trans hsz Ge.le) rfl Cell1L.eq (by decide) (.inl rfl) (by omega) (by omega) fun A3 c3 w5 ho3 l3 hn3=>?_)
  refine xl_s (e_store fun w6 l4 k4=>?_)
  refine xl_nil ?_
  haveI s1:SubF (OwnB V) F w3:=⟨fun j _ e=>(hFe j).2 (.inr (Eq.symm e))⟩
  haveI s2:SubF (OneB b2) F w3:=⟨fun j _ e=>(hFe j).2 (.inl e)⟩
  refine ⟨fun j=>j=b2\/(Value.slice A3 (ks.length+1) c3).ownBlock=some j,⟨ks++[k],_,by simp,k4.eq,?_,fun j=>Iff.rfl,Nat.le_trans hsz (Ge.le:w3.heap.size<=w6.heap.size)⟩,kpc,?_⟩
  ·have:=own_keep ho3 l4.keep (fun j hj e=>by have e':j=b2:=e;have:=(ho3.lt j hj).1;omega)
   simpa [strs] using this
  ·rintro j (hj | hj)
   ·exact .inl ((hFe j).2 (.inl hj))
   ·rcases hn3 with h5 | h5
    ·exact .inl ((hFe j).2 (.inr (h5 ▸ hj)))
    ·rw [h5] at hj
     cases hj
     exact .inr Ge.le
 case normal=>
  intro D7 pre F w7 hfin hI hkF hsF hD7 hge7 hnF7
  obtain ⟨ks,V,rfl,hb2,hown,hFe,hsz⟩:=hI
  haveI kb:Blk w7 b2 _:=⟨hb2⟩
  haveI lkF:Lk w7 _ (OneB b2):=⟨hkF⟩
  obtain ⟨A,c,rfl,_⟩:=ownsRow_form hown
  have hDw:w.heap.size<=D7:=Nat.le_trans (Nat.le_trans hb2w (Nat.le_of_lt hb2l)) hge7
  haveI sD:SubF (fun k=>k∈[D7]) NoB w:=⟨fun k hk e=>by simp at e;omega⟩
  refine xq (xl_Lc ?_)
  refine xz ?_
  refine x_ret ?_
  refine finM (rs:=[.tmp 4]) rfl [D7] rfl (by simpa using hD7.eq) (by simp) (fun w8 lm8=>⟨_,ii,?_⟩)
  refine ⟨ks,A,c,hfin,rfl,?_,lkc⟩
  refine own_mono (own_keep hown lm8.keep ?_) Ge.le
  intro k hk e
  simp at e
  subst e
  exact hnF7 ((hFe _).2 (.inr hk))
 case jump=>
  exact fun _ _ _ _ _ h=>h.elim
theorem sort_ok (base:Nat) (A:Option Addr) (c:Nat) (ks:List ByteArray) (w:World) (ho:w.ownsRow base 9 1 (.slice A ks.length c) ks.length (strs ks)) (hl:ks.length<=1000000) :
    Ret Tryz.prog 104 #[.slice A ks.length c] w (fun v w'=>v=.tuple #[]/\w'.ownsRow base 9 1 (.slice A ks.length c) ks.length (strs (sortB ks))/\Lk w' w (OwnB (.slice A ks.length c))):=by
 rcases ho.2 with ⟨he,hn⟩ | ⟨g,cap,cur,he,hb,hg,hnc,hcm,hcs,htk⟩
 ·have hk:ks=[]:=List.eq_nil_of_length_eq_zero hn
  subst hk
  refine Calls.mono (Tryz.slices_Sort_string_none A c w) ?_
  rintro e w' ⟨rfl,rfl⟩
  exact ⟨_,rfl,rfl,by simpa [sortB] using ho,⟨Keep.refl _ _⟩⟩
 ·cases he
  obtain ⟨ss,hss⟩:∃ ss:List (List UInt8),ss=ks.map (fun s=>s.data.toList):=⟨_,rfl⟩
  have hsl:ss.length=ks.length:=by rw [hss];simp
  have hH:=holds_of_block (ss:=ss) hg (by rw [hsl,hss,<- strs_enc];simpa using htk)
  have hcall:=Tryz.slices_Sort_string g 0 c ss w hH (Array.getElem?_eq_some_iff.1 hg).1 (by omega)
  rw [hsl] at hcall
  refine Calls.mono hcall ?_
  rintro e w' ⟨rfl,n,os,rfl⟩
  refine ⟨_,rfl,rfl,?_,⟨Keep.of_grown (grownBy_sorted _)⟩⟩
  have:=ownsRow_sorted (os:=os) (n:=n) (ss:=ss) (ts:=ss.mergeSort fun x y=>decide (x<=y)) (by simp) hb hg (by omega) hcm hcs
  rw [hsl] at this
  rw [sortB,<- hss,strs_toB]
  exact this
theorem collect_ok (gf:FuncId) (gc:List Value) (Own:Nat->Prop) (Al Fin:Seen->Prop) (w:World) (hit:∀ W,Lk W w NoB->IterI Tryz.prog (.func (.func gf) ([]:List Value).toArray gc.toArray) Own Al Fin W) (hOwn:∀ k,Own k->k<w.heap.size) (hAl:∀ pre,Al pre->∃ ks:List ByteArray,pre=ks.map (fun k=>[Value.string k])/\ks.length<=1000000):Ret Tryz.prog 103 #[.func (.func gf) ([]:List Value).toArray gc.toArray] w (fun v w'=>∃ (ks:List ByteArray) (A:Option Addr) (c:Nat),Fin (ks.map (fun k=>[Value.string k]))/\v=.slice A ks.length c/\w'.ownsRow w.heap.size 9 1 v ks.length (strs ks)/\Lk w' w NoB):=by
 refine ret_of_x (N:=5) (l:=[.func (.func gf) ([]:List Value).toArray gc.toArray]) Tryz.func103 rfl rfl (Nat.le_of_ble_eq_true rfl) ?_
 refine xq (xz ?_)
 refine xq (xm ?_)
 refine xl_call (appendSeq_ok gf gc Own Al Fin _ hit hOwn hAl) ?_
 rintro _ w1 ⟨ks,A,c,hfin,rfl,ho,lk⟩
 refine xz ?_
 refine x_ret ?_
 refine fin1 rfl ?_
 exact ⟨ks,A,c,hfin,rfl,own_ext ho lkc,lkc⟩
theorem sorted_ok (gf:FuncId) (gc:List Value) (Own:Nat->Prop) (Al Fin:Seen->Prop) (w:World) (hit:∀ W,Lk W w NoB->IterI Tryz.prog (.func (.func gf) ([]:List Value).toArray gc.toArray) Own Al Fin W) (hOwn:∀ k,Own k->k<w.heap.size) (hAl:∀ pre,Al pre->∃ ks:List ByteArray,pre=ks.map (fun k=>[Value.string k])/\ks.length<=1000000) (hFin:∀ pre,Fin pre->Al pre):Ret Tryz.prog 72 #[.func (.func gf) ([]:List Value).toArray gc.toArray] w (fun v w'=>∃ (ks:List ByteArray) (A:Option Addr) (c:Nat),Fin (ks.map (fun k=>[Value.string k]))/\v=.slice A ks.length c/\w'.ownsRow w.heap.size 9 1 v ks.length (strs (sortB ks))/\Lk w' w NoB):=by
 refine ret_of_x (N:=9) (l:=[.func (.func gf) ([]:List Value).toArray gc.toArray]) Tryz.func72 rfl rfl (Nat.le_of_ble_eq_true rfl) ?_
 refine xq (xz ?_)
 refine xq (xm ?_)
 refine xl_call (collect_ok gf gc Own Al Fin _ hit hOwn hAl) ?_
 rintro _ w1 ⟨ks,A,c,hfin,rfl,ho,lk⟩
 have hkl:ks.length<=1000000:=by
  obtain ⟨ks2,h1,h2⟩:=hAl _ (hFin _ hfin)
  have:=congrArg List.length h1
  simp at this
  omega
 haveI:=ownA_of ho (Nat.le_refl _)
 refine xz ?_
 refine xq (xm ?_)
 refine xl_call (sort_ok _ A c ks _ (own_ext ho lkc) hkl) ?_
 rintro _ w2 ⟨rfl,ho2,lk2⟩
 refine xl_nil ?_
 refine xq (xm (xz ?_))
 refine x_ret ?_
 refine fin1 rfl ?_
 exact ⟨ks,A,c,hfin,rfl,own_ext ho2 lkc,lkc⟩
theorem mkeysIter (b mb:Nat) (kvs:List (ByteArray×Value)) (w:World) [Blk w b (.cells #[.map (some mb)] 57 (0,0))] (hm:MapB w mb Value.string kvs) :
    IterI Tryz.prog (.func (.func 105) ([]:List Value).toArray [Value.pointer (some ⟨b,0,none⟩)].toArray) (fun k=>k=b\/k=mb) (KeysAl (kvs.map (·.1))) (KeysFin (kvs.map (·.1))) w:=
 fun y I J F w0 hy hw0 h0 hF=>CallV.of_ret (mkeys1_ok y b mb kvs I J F w hm w0 hy hw0 h0 hF)
theorem files_len {M:Disk} (h:M.lasts.length+M.waits.length<=1000000):M.files.length<=1000000:=by
 have:=fold_len M.waits M.lasts
 show (M.waits.foldl Dm.done M.lasts).length<=1000000
 omega
theorem names_ok (P R:Nat->Prop) (d:Nat) (M:Disk) (w:World) (h:DiskW P R d M w):Ret Tryz.prog 57 #[.pointer (some ⟨d,0,none⟩)] w (fun v w'=>(∃ A c,v=.slice A M.files.length c/\w'.ownsRow w.heap.size 9 1 (.slice A M.files.length c) M.files.length (strs (M.files.map (·.1))))/\Lk w' w NoB):=by
 obtain ⟨hok0,hfew0⟩:=h.ok
 obtain ⟨mb,ml,G,D,hD,hS,hP,hR⟩:=h
 haveI hb:Blk w d _:=⟨hD.hb⟩
 have hfl:=files_len hfew0
 have hlen:D.cur.length=M.files.length:=by have:=hS.cur.len;simpa [fsP] using this
 refine ret_of_x (N:=12) (l:=[.pointer (some ⟨d,0,none⟩)]) Tryz.func57 rfl rfl (Nat.le_of_ble_eq_true rfl) ?_
 refine xq (xz ?_)
 refine x_seq (xq (xm ?_))
 refine xl_call (none_ok d mb ml G D M w (hD.ext (kpc:Keep NoB w w)) hS) ?_
 rintro _ _ ⟨rfl,rfl⟩
 refine xl_nil ?_
 refine x_condF ?_
 refine x_skip (xq (xm (xl_Nc ?_)))
 refine xl_Fb ?_
 refine xl_Fb ?_
 refine xl_Lc ?_
 refine xl_call (mkeys_ok (some mb) w) ?_
 rintro _ w2 ⟨bk,rfl,kbk,hgk,lkk⟩
 have hblt:bk<(w2).heap.size:=Has.lt
 have hmb:=(hD.cur.ext (kpc:Keep NoB w w2)).map
 have hmlt2:=hmb.lt
 refine xl_call (sorted_ok _ [_] (fun k=>k=bk\/k=mb) (KeysAl ((fsV D.cur).map (·.1))) (KeysFin ((fsV D.cur).map (·.1))) _ (fun W l=>mkeysIter bk mb (fsV D.cur) W (hmb.keep l.keep (fun h=>h))) (by rintro k (rfl | rfl);exact hblt;exact hmlt2) (by rintro pre ⟨l,rest,h1,h2⟩;exact ⟨l,h1,by have:=h2.length_eq;simp [fsV] at this;omega⟩) (by rintro pre ⟨l,h1,h2⟩;exact ⟨l,[],h1,by simpa using h2⟩)) ?_
 rintro _ w3 ⟨ks,A,c,hfin,rfl,ho,lk⟩
 have hperm:sortB ks=M.files.map (·.1):=by
  obtain ⟨l,hl1,hl2⟩:=hfin
  have hkl:ks=l:=(List.map_inj_right (fun x y h=>by simpa using h)).1 hl1
  subst hkl
  rw [fsV_keys,<- fsP_keys] at hl2
  exact sortB_perm (hl2.trans (hS.cur.perm.map _)) hS.cur.rise
 rw [hperm] at ho
 have hidl:ks.length=M.files.length:=by
  have h1:=congrArg List.length hperm
  simp [sortB] at h1
  exact h1
 rw [hidl] at ho ⊢
 refine xz ?_
 refine x_ret ?_
 refine fin1 rfl ?_
 exact ⟨⟨A,c,rfl,own_mono (own_ext ho lkc) Ge.le⟩,lkc⟩
def DiskQ (Q P R:Nat->Prop) (d:Nat) (M:Disk) (W:World):Prop:=
 ∃ (mb ml:Nat) (G:Nat->Prop) (D:LDisk),DiskAt W d mb ml G D/\Stands D M/\(∀ k,P k->k<W.heap.size/\¬ DiskF d mb ml D.A G k)/\(∀ k,R k->k<W.heap.size/\¬ DiskB d mb ml D.A k)/\∀ k,DiskF d mb ml D.A G k->Q k
theorem DiskQ.toW {Q P R:Nat->Prop} {d:Nat} {M:Disk} {W:World} (h:DiskQ Q P R d M W):DiskW P R d M W:=by
 obtain ⟨mb,ml,G,D,h1,h2,h3,h4,h5⟩:=h
 exact ⟨mb,ml,G,D,h1,h2,h3,h4⟩
theorem clonet_ok (A:Option Addr) (n c:Nat) (cs:List Value) (w:World) [Row w A cs] (hl:cs.length=n*7) (hn:n<=100000000) (h1:∀ u∈cs,u.oneCell'=true) (hA:A.isSome=true\/n=0):Ret Tryz.prog 45 #[.slice A n c] w (fun v w'=>(∃ A' c',v=.slice A' n c'/\w'.ownsRow w.heap.size 93 7 v n cs)/\Lk w' w NoB):=by
 refine ret_of_x (N:=8) (l:=[.slice A n c]) Tryz.func45 rfl rfl (Nat.le_of_ble_eq_true rfl) ?_
 refine xq (xz ?_)
 refine x_seq (xq (xm ?_))
 refine xl_v v_eql_slice ?_
 refine xl_nil ?_
 refine x_condE (fun c1=>?_) (fun c1=>?_)
 ·have hn0:n=0:=hA.resolve_left (by cases A<;>simp_all)
  refine xq (xz ?_)
  refine x_ret ?_
  refine fin1 rfl ?_
  subst hn0
  obtain rfl:cs=[]:=List.eq_nil_of_length_eq_zero (by simpa using hl)
  exact ⟨⟨none,0,rfl,World.ownsRow_nil _ _ _ _⟩,lkc⟩
 refine x_skip (xq ?_)
 refine xl_e (e_buildSlice0 fun b0 w1 n0 l0 k0=>?_)
 refine xm ?_
 have ho0:World.ownsRow w1 w.heap.size 93 7 (.slice (some ⟨b0,0,none⟩) 0 0) 0 []:=ownsRow_blk (by rw [n0.eq];exact Nat.le_refl _) k0.eq (by simp) (by omega)
 haveI:=ownN_of ho0 (Nat.le_refl _)
 refine xl_e (e_append' ho0 Ge.le hl h1 (by decide) hA (by omega) (by omega) fun A2 c2 w2 ho2 l2 _=>?_)
 refine xz ?_
 refine x_ret ?_
 refine fin1 rfl ?_
 exact ⟨⟨A2,c2,by rw [Nat.zero_add],by simpa using ho2⟩,lkc⟩
theorem thingC_one (l:List LThing):∀ u∈l.flatMap thingC,u.oneCell'=true:=by
 intro u hu
 obtain ⟨x,_,hx⟩:=List.mem_flatMap.1 hu
 simp only [thingC,List.mem_cons,List.not_mem_nil,or_false] at hx
 rcases hx with rfl | rfl | rfl | rfl | rfl | rfl | rfl
 ·exact x.one
 all_goals rfl
theorem copy_ok (P R:Nat->Prop) (d:Nat) (M:Disk) (w:World) (h:DiskW P R d M w):Ret Tryz.prog 24 #[.pointer (some ⟨d,0,none⟩)] w (fun v w'=>(∃ (c:Nat) (Q:Nat->Prop),v=.pointer (some ⟨c,0,none⟩)/\DiskQ Q P (fun k=>k<w.heap.size) c M w'/\DiskW (fun k=>P k\/(w.heap.size<=k/\k<w'.heap.size)) (fun k=>R k\/Q k) d M w'/\w.heap.size<=c)/\Lk w' w NoB):=by
 obtain ⟨mb,ml,G,D,hD,hS,hP,hR⟩:=h
 haveI hb:Blk w d _:=⟨hD.hb⟩
 haveI hrw1:RowB w D.A w (D.waits.flatMap thingC):=rowB_of (FRow.of_own hD.row).row
 have hwl:D.waits.length=M.waits.length:=by rw [<- hS.waits];simp
 have hfew:=hS.few
 have hlen7:(D.waits.flatMap thingC).length=D.waits.length*7:=flat_len (enc:=thingC) (sz:=7) (fun _=>rfl) D.waits
 refine ret_of_x (N:=26) (l:=[.pointer (some ⟨d,0,none⟩)]) Tryz.func24 rfl rfl (Nat.le_of_ble_eq_true rfl) ?_
 refine xq (xz ?_)
 refine x_seq (xq (xm ?_))
 refine xl_call (none_ok d mb ml G D M w (hD.ext (kpc:Keep NoB w w)) hS) ?_
 rintro _ _ ⟨rfl,rfl⟩
 refine xl_nil ?_
 refine x_condF ?_
 refine x_skip (x_seq ?_)
 refine x_drawL (NoB) (allS) (.take 0 (.take 1 (.take 2 (.take 3 (.take 5 (.take 6 (.take 7 (.take 8 (.take 10 (.take 11 (.take 12 (.take 13 (.take 15 (.take 16 (.take 17 (.take 18 (.eff 4 (.eff 9 (.eff 14 (.take 19 (.eff 20 (.take 21 .done)))))))))))))))))))))) mixed (by kernel_rfl) (fun _ _ _ _ _ h=>h) (fun w2 l2=>?_)
 refine xt_v rfl v_move (xt_Nc rfl ?_)
 refine xt_Fb rfl ?_
 refine xt_Lb rfl ?_
 refine xt_v rfl v_move (xt_Nc rfl ?_)
 refine xt_Fb rfl ?_
 refine xt_Lb rfl ?_
 refine xt_v rfl v_move (xt_Nc rfl ?_)
 refine xt_Fb rfl ?_
 refine xt_Lc rfl ?_
 refine xt_v rfl v_move (xt_Nc rfl ?_)
 refine xt_Fb rfl ?_
 refine xt_Lc rfl ?_
 refine xt_call rfl (copied_ok mb G D.cur w2 (hD.cur.ext (kpc:Keep NoB w w2))) ?_
 rintro _ w3 ⟨⟨m1,rfl,hF1,hg1⟩,lk1⟩
 refine ⟨kpc,?_⟩
 have hz1:=(Ge.le:w.heap.size<=(w2).heap.size)
 have hl1:=hF1.map.lt
 refine xt_call rfl (copied_ok ml G D.lasts w3 (hD.las.ext (kpc:Keep NoB w w3))) ?_
 rintro _ w4 ⟨⟨m2,rfl,hF2,hg2⟩,lk2⟩
 refine ⟨kpc,?_⟩
 have hz2:=(Ge.le:w.heap.size<=(w3).heap.size)
 have hl2:=hF2.map.lt
 have hl12:m1<(w3).heap.size:=Nat.lt_of_lt_of_le hl1 Ge.le
 refine xt_call rfl (clonet_ok D.A D.waits.length D.c (D.waits.flatMap thingC) w4 hlen7 (by omega) (thingC_one D.waits) (isSome_of_len (ii:RowB w4 D.A w (D.waits.flatMap thingC)).row hlen7 (by decide))) ?_
 rintro _ w5 ⟨⟨A2,c2,rfl,ho2⟩,lk3⟩
 refine ⟨kpc,?_⟩
 have hz3:=(Ge.le:w.heap.size<=(w4).heap.size)
 have hl13:m1<(w4).heap.size:=Nat.lt_of_lt_of_le hl12 Ge.le
 have hl23:m2<(w4).heap.size:=Nat.lt_of_lt_of_le hl2 Ge.le
 have ho2b:=own_blk ho2
 refine xt_v rfl v_build ?_
 refine xt_e rfl (e_box fun x w6 nx lx kx=>?_)
 refine xt_v rfl v_assign (xt_nil ?_)
 refine x_ret ?_
 refine fin1 rfl ?_
 have hxe:=nx.eq
 have hxg:w.heap.size<=x:=by rw [hxe];exact Ge.le
 have hxw:x<(w6).heap.size:=Has.lt
 have hx1:m1<x:=by rw [hxe];exact Nat.lt_of_lt_of_le hl13 Ge.le
 have hx2:m2<x:=by rw [hxe];exact Nat.lt_of_lt_of_le hl23 Ge.le
 have hxA:∀ a,A2=some a->w.heap.size<=a.block/\m1<a.block/\m2<a.block/\a.block<x:=fun a ha=>by
  obtain ⟨z1,z2⟩:=ho2b a ha
  exact ⟨by omega,by omega,by omega,by rw [hxe];exact z2⟩
 have hGl:∀ k,G k->k<w.heap.size:=hD.cur.lt
 have hg1w:w.heap.size<=m1:=by omega
 have hg2w:w.heap.size<=m2:=by omega
 have hAt:DiskAt w6 x m1 m2 G ⟨D.room,D.cur,D.lasts,D.waits,A2,c2⟩:=⟨by simpa using (Blk.eq:(w6).heap[x]?=_),hF1.ext (kpc:Keep NoB _ w6),hF2.ext (kpc:Keep NoB _ w6),own_mono (own_ext ho2 (lkc:Lk w6 _ NoB)) (Nat.zero_le _),fun y hy=>(hD.acts y hy).keep (kpc:Keep NoB w w6) (fun _ _ h=>h),by omega,by omega,by omega,fun e=>by have:=hGl x e;omega,fun a ha=>by
  obtain ⟨z1,z2,z3,z4⟩:=hxA a ha
  exact ⟨by omega,by omega,by omega,fun e=>by have:=hGl _ e;omega⟩⟩
 refine ⟨⟨x,fun k=>DiskF x m1 m2 A2 G k,rfl,⟨m1,m2,G,_,hAt,⟨hS.room,hS.waits,hS.cur,hS.las,hS.ok,hS.few,hS.lens⟩,fun k e=>?_,fun k e=>?_,fun k e=>e⟩,⟨mb,ml,G,D,hD.ext (kpc:Keep NoB w w6),hS,fun k e=>e.elim (fun e=>⟨Nat.lt_of_lt_of_le (hP k e).1 Ge.le,(hP k e).2⟩) (fun e=>⟨e.2,fun e2=>by have:=hD.lt k e2;omega⟩),fun k e=>?_⟩,hxg⟩,lkc⟩
 ·obtain ⟨z1,z2⟩:=hP k e
  refine ⟨Nat.lt_of_lt_of_le z1 Ge.le,?_⟩
  rintro ((e2 | e2 | e2 | ⟨a,ha,e2⟩) | e2)
  ·omega
  ·omega
  ·omega
  ·have:=(hxA a ha).1;omega
  ·exact z2 (.inr e2)
 ·refine ⟨Nat.lt_of_lt_of_le e Ge.le,?_⟩
  rintro (e2 | e2 | e2 | ⟨a,ha,e2⟩)
  ·omega
  ·omega
  ·omega
  ·have:=(hxA a ha).1;omega
 ·rcases e with e | e
  ·exact ⟨Nat.lt_of_lt_of_le (hR k e).1 Ge.le,(hR k e).2⟩
  ·refine ⟨hAt.lt k e,fun e2=>?_⟩
   have h2:=hD.lt k (.inl e2)
   rcases e with (e | e | e | ⟨a,ha,e⟩) | e
   ·omega
   ·omega
   ·omega
   ·have:=(hxA a ha).1;omega
   ·rcases e2 with e2 | e2 | e2 | ⟨a,ha,e2⟩
    ·exact hD.gd (e2 ▸ e)
    ·exact hD.cur.out (e2 ▸ e)
    ·exact hD.las.out (e2 ▸ e)
    ·exact (hD.own a ha).2.2.2 (e2 ▸ e)
end Go.Proofs.YtigmfcgeljjgnaaGreat
