/- A part of the walks through the log and its document, and of the law in plain Lean: HP. -/
import Derived.Test.YtigmfcgeljjgnaaGreatDoorJHO
set_option linter.all false
set_option maxRecDepth 100000
set_option synthInstance.maxSize 100000
set_option synthInstance.maxHeartbeats 400000
namespace Go.Proofs.YtigmfcgeljjgnaaGreatDoor
open Go.Wst
open Go.Wst.Dm Go.Wst.Sg
theorem LogQ.ext2 {Q P R P' R' S:Nat->Prop} {b:Nat} {L:LLog} {M:Disk} {W W':World} (h:LogQ Q P R b L M W) (hk:Keep S W W') (hs:∀ k,Q k->¬ S k) (hP:∀ k,P' k->k<W'.heap.size/\(P k\/W.heap.size<=k)) (hR:∀ k,R' k->k<W'.heap.size/\(R k\/W.heap.size<=k)):LogW P' R' b L M W':=by
 have hlt:=h.log.lt
 obtain ⟨mb,ml,G,D,h1,h2,h3,h4,h5⟩:=h.dq
 have hF:∀ k,DiskB L.d mb ml D.A k->k<W.heap.size:=fun k e=>h1.lt k (.inl e)
 refine ⟨⟨mb,ml,G,D,h1.keep hk (fun k e=>hs k (h5 k e)),h2,fun k e=>?_,fun k e=>?_⟩,(hk.block b hlt.2.2.1 (hs b h.qb)).trans h.log.at_,own_keep h.log.row hk (fun k hk2=>hs k (h.qa k (AB_own hk2.symm))),h.log.nb,fun k e=>?_,h.log.name,h.log.per1,h.log.per2,h.log.len,h.log.right⟩
 ·rcases e with e | e | e
  ·obtain ⟨q1,q2⟩:=hP k e
   refine ⟨q1,fun e2=>?_⟩
   rcases q2 with q2 | q2
   ·exact (h3 k (.inl q2)).2 e2
   ·have:=h1.lt k e2;omega
  ·exact ⟨by have:=hk.size;have:=hlt.2.2.1;omega,(h3 k (.inr (.inl e))).2⟩
  ·exact ⟨Nat.lt_of_lt_of_le (hlt.2.2.2 k e) hk.size,(h3 k (.inr (.inr e))).2⟩
 ·rcases e with e | e | e
  ·obtain ⟨q1,q2⟩:=hR k e
   refine ⟨q1,fun e2=>?_⟩
   rcases q2 with q2 | q2
   ·exact (h4 k (.inl q2)).2 e2
   ·have:=hF k e2;omega
  ·exact ⟨by have:=hk.size;have:=hlt.2.2.1;omega,(h4 k (.inr (.inl e))).2⟩
  ·exact ⟨Nat.lt_of_lt_of_le (hlt.2.2.2 k e) hk.size,(h4 k (.inr (.inr e))).2⟩
 ·have q2:P k\/R k\/W.heap.size<=k:=by
   rcases e with e | e
   ·exact (hP k e).2.elim .inl (fun e=>.inr (.inr e))
   ·exact (hR k e).2.elim (fun e=>.inr (.inl e)) (fun e=>.inr (.inr e))
  rcases q2 with q2 | q2 | q2
  ·exact h.log.pb k (.inl q2)
  ·exact h.log.pb k (.inr q2)
  ·exact ⟨fun e2=>by have:=hlt.2.2.1;omega,fun e2=>by have:=hlt.2.2.2 k e2;omega⟩
set_option maxHeartbeats 2000000 in
theorem seglogCopies_ok (A:Option Addr) (n c:Nat) (xs:List LA) (x1 x2:LA) (w:World) (tt:TypeId) (tr:Nat×Nat) [htab:Blk w 0 (.cells tabA tt tr)] [hra:Row w A (xs.flatMap actC)] (hrs:∀ j (h:j<xs.length),RowP w xs[j].A (xs[j].xs.flatMap enC)) (hns:∀ j (h:j<xs.length),In64 xs[j].n/\In64 xs[j].keep/\In64 xs[j].torn/\xs[j].xs.length<=9223372036854775807) (hl:xs.length=n) (hn:n<=9223372036854775807) (hr1:RowP w x1.A (x1.xs.flatMap enC)) (hr2:RowP w x2.A (x2.xs.flatMap enC)) (hi1:In64 x1.n/\In64 x1.keep/\In64 x1.torn/\x1.xs.length<=9223372036854775807) (hi2:In64 x2.n/\In64 x2.keep/\In64 x2.torn/\x2.xs.length<=9223372036854775807):Ret Tryz.prog 8 #[.slice A n c,.agg (actC x1).toArray,.agg (actC x2).toArray] w (fun v w'=>v=.bool true/\Lk w' w NoB):=by
 haveI hrb:RowB w A w (xs.flatMap actC):=rowB_of hra.row
 have h0:=blk_pos0 htab
 refine ret_of_x (N:=77) (l:=[.slice A n c,.agg (actC x1).toArray,.agg (actC x2).toArray]) Tryz.func8 rfl rfl (Nat.le_of_ble_eq_true rfl) ?_
 refine xq ?_
 refine xl_e (e_box fun b4 w1 nb4 lb4 kb4=>?_)
 refine xl_e (e_box fun b5 w2 nb5 lb5 kb5=>?_)
 refine xz ?_
 refine x_seq (xq (xm ?_))
 refine xl_call (few4_ok A n c xs w2 (hra:=rowB_of (ii:Row w2 A (xs.flatMap actC)).row) hl hn) ?_
 rintro _ w3 ⟨⟨fb,rfl,hfb⟩,lkf⟩
 refine xl_v v_not (xm ?_)
 refine xl_split 20 (fun g20=>?_) (fun g20=>?_)
 ·have g1:fb=false:=by simpa using g20
  refine xl_gs rfl EvO.eq ?_
  refine xl_gs rfl EvO.eq ?_
  refine xl_gs rfl EvO.eq ?_
  refine xl_gs rfl EvO.eq ?_
  refine xl_gs rfl EvO.eq ?_
  refine xl_Pk ?_
  refine xl_nil ?_
  refine x_condT ?_
  refine xq ?_
  refine xl_call (works4_ok w3) ?_
  rintro _ w4 ⟨rfl,lkw⟩
  refine xz ?_
  refine x_ret ?_
  refine fin1 rfl ?_
  exact ⟨rfl,lkc⟩
 have g1:fb=true:=by simpa using g20
 refine xl_gLb rfl EvO.eq ?_
 refine xl_gLb rfl EvO.eq ?_
 refine xl_ge rfl EvO.eq (e_buildSliceM (vs:=[x1,x2].flatMap actC) rfl rfl (by simp) fun b23 w5 n23 l23 k23=>?_)
 refine xl_gcall rfl EvO.eq (few4_ok (some ⟨b23,0,none⟩) 2 2 [x1,x2] w5 (hra:=rowB_of (row_blk k23.eq)) rfl (by decide)) ?_
 rintro _ w6 ⟨⟨fb2,rfl,hfb2⟩,lkf2⟩
 refine xl_gv rfl EvO.eq v_not ?_
 refine xl_Pk ?_
 refine xl_nil ?_
 refine x_if (fun c1=>?_) (fun c1=>?_)
 ·refine xq ?_
  refine xl_call (works4_ok w6) ?_
  rintro _ w7 ⟨rfl,lkw⟩
  refine xz ?_
  refine x_ret ?_
  refine fin1 rfl ?_
  exact ⟨rfl,lkc⟩
 refine x_skip (xq (xm ?_))
 refine xl_call (played4_ok 10000 3 A n c xs w6 w tt tr (by decide) (by decide) (fun j h=>(rowB_of (hrs j h)).keep (kpc:Keep NoB w w6) (fun _ h=>h.elim)) hns hl (by have:=hfb g1;omega) Ge.le h0) ?_
 rintro _ w8 ⟨⟨b,L,M,r,rfl,hP,hf1,hf2,hnm,hpr⟩,lk1⟩
 obtain ⟨wa1,hwa1⟩:∃ z,z=w6:=⟨_,rfl⟩
 have h1w:w.heap.size<=wa1.heap.size:=by rw [hwa1];exact Ge.le
 obtain ⟨wa2,hwa2⟩:∃ z,z=w8:=⟨_,rfl⟩
 have hPa:PairL (fun k=>w.heap.size<=k/\k<wa1.heap.size) (fun k=>k<wa1.heap.size) b L M r wa2:=by rw [hwa1,hwa2];exact hP
 have h4:b4<wa1.heap.size/\b5<wa1.heap.size:=by rw [hwa1];exact ⟨Has.lt,Has.lt⟩
 have hn30:=hfb g1
 refine xm (xl_v v_extract (xl_v v_extract (xl_v v_extract ?_)))
 refine xl_e (e_alloc fun b8 w9 nb8 lb8 kb8=>?_)
 refine xa ?_
 refine xl_s (e_storeA fun w10 l10 k10=>?_)
 refine xz ?_
 refine x_seq ?_
 have h8:wa2.heap.size<=b8/\b8<(w10).heap.size:=⟨by rw [hwa2,nb8.eq];exact Ge.le,Has.lt⟩
 have hP8:=hPa.boxed h1w (W:=w10) (by rw [hwa2];exact kpc) h8.1 h8.2
 obtain ⟨P,hPd⟩:∃ P:Nat->Prop,P=fun k=>(w.heap.size<=k/\k<wa1.heap.size)\/k=b8:=⟨_,rfl⟩
 obtain ⟨R,hRd⟩:∃ R:Nat->Prop,R=fun k=>k<wa1.heap.size\/k=b8:=⟨_,rfl⟩
 rw [<- hPd,<- hRd] at hP8
 obtain ⟨F,hL,hR,hFP⟩:=hP8.ex
 have q0:=hP8.name
 have q1:=hP8.per
 have q2:=hP8.sure
 have q3:=hP8.few
 have q4:=hP8.inv
 refine x_regionL (xm ?_)
 refine xl_call (lcopy_ok P (fun k=>R k\/F k) b L M w10 (hL.ext (kpc:Keep NoB _ w10))) ?_
 rintro _ w11 ⟨⟨b2,L2,Q,rfl,hQ,hL',c1,c2,c3,c4⟩,lkC⟩
 obtain ⟨wC,hwC⟩:∃ z,z=w10:=⟨_,rfl⟩
 obtain ⟨wD,hwD⟩:∃ z,z=w11:=⟨_,rfl⟩
 have hCD:wC.heap.size<=wD.heap.size/\b8<wC.heap.size/\wa1.heap.size<=wC.heap.size:=by rw [hwC,hwD];exact ⟨Ge.le,Has.lt,by rw [hwa1];exact Ge.le⟩
 rw [<- hwC,<- hwD] at hQ hL'
 have hRD:RLogW wD F r M:=by rw [hwD];exact hR.ext (kpc:Keep NoB _ w11)
 have hFC:∀ k,F k->k<wC.heap.size:=by rw [hwC];exact (hR.ext (kpc:Keep NoB _ w10)).at_.lt
 obtain ⟨R1,hR1⟩:∃ R1:Nat->Prop,R1=fun k=>(R k\/F k)\/Q k:=⟨_,rfl⟩
 obtain ⟨P1,hP1⟩:∃ P1:Nat->Prop,P1=fun k=>P k\/(wC.heap.size<=k/\k<wD.heap.size):=⟨_,rfl⟩
 rw [<- hP1,<- hR1] at hL'
 have hPl:PairL P1 R1 b L M r wD:=⟨⟨F,hL'.narrow (fun _ e=>e) (fun k e=>e.elim id (fun e=>by rw [hR1];exact .inl (.inr e))),hRD,fun k e e2=>by
  rw [hP1] at e2
  rcases e2 with e2 | e2
  ·exact hFP k e e2
  ·have:=hFC k e;omega⟩,q0,q1,q2,q3,q4⟩
 have hRR:∀ k,R k->R1 k:=fun k e=>by rw [hR1];exact .inl (.inl e)
 have hRa:∀ k,k<wa1.heap.size->R1 k:=fun k e=>hRR k (by rw [hRd];exact .inl e)
 haveI:NotS (NotP R1) 0:=⟨fun e=>e (hRa 0 (by omega))⟩
 haveI:NotS (NotP R1) b4:=⟨fun e=>e (hRa _ h4.1)⟩
 haveI:NotS (NotP R1) b5:=⟨fun e=>e (hRa _ h4.2)⟩
 haveI:NotS (NotP R1) b8:=⟨fun e=>e (hRR _ (by rw [hRd];exact .inr rfl))⟩
 haveI:SubF (NotP R1) NoB w:=⟨fun k hk e=>e (hRa k (by omega))⟩
 refine xz ?_
 refine x_seq (xq (xm (xl_v v_not (xm ?_))))
 refine xl_gv rfl EvO.eq v_move ?_
 refine xl_gLb rfl EvO.eq ?_
 refine xl_gcall rfl EvO.eq (is4_ok _ _ b2 L2 M r F w11 tt tr ((hQ.log:LogW _ _ b2 L2 M wD).ext (by rw [hwD];exact kpc)) (hRD.ext (by rw [hwD];exact kpc)) (by rw [q0,c1]) (by rw [q1,c2]) (by rw [q2,c4]) (by rw [c1,c2,c3];exact q4)) ?_
 rintro _ w12 ⟨rfl,lk5⟩
 refine xl_gv rfl EvO.eq v_not ?_
 refine xl_Pk ?_
 refine xl_nil ?_
 refine x_condF ?_
 refine x_skip (xq (xm (xl_Lb ?_)))
 refine xl_Lb ?_
 refine xl_call (act4_ok P1 R1 b L M r x1 (4096*n) (140000+4097*n) w12 tt tr (hPl.ext (by rw [hwD];exact kpc)) (hRa 0 (by omega)) hf1 hf2 (by omega) (by omega) (by omega) hi1.2.2.2 (hr1.keep (kpc:Keep NoB w w12) (fun _ _ h=>h)) (fun hne a ha=>hRa _ (by have:=ens_lt hr1 hne a ha;omega)) hi1.1 hi1.2.1 hi1.2.2.1) ?_
 rintro _ w13 ⟨⟨ba,La,Ma,ra,rfl,hA,z1,z2,z3,z4⟩,lk7⟩
 obtain ⟨wE,hwE⟩:∃ z,z=w13:=⟨_,rfl⟩
 have hDE:wD.heap.size<=wE.heap.size:=by rw [hwD,hwE];exact Ge.le
 refine xm (xl_v v_extract (xl_v v_extract (xl_v v_extract ?_)))
 refine xl_e (e_alloc fun b12 w14 nb12 lb12 kb12=>?_)
 refine xa ?_
 refine xl_s (e_storeA fun w15 l15 k15=>?_)
 refine xz ?_
 refine x_seq ?_
 obtain ⟨wF,hwF⟩:∃ z,z=w15:=⟨_,rfl⟩
 have h12:wD.heap.size<=b12/\b12<wF.heap.size/\wE.heap.size<=wF.heap.size:=by rw [hwF];exact ⟨by rw [hwD,nb12.eq];exact Ge.le,Has.lt,by rw [hwE];exact Ge.le⟩
 obtain ⟨R3,hR3⟩:∃ R3:Nat->Prop,R3=fun k=>k<wC.heap.size\/(wD.heap.size<=k/\k<wF.heap.size):=⟨_,rfl⟩
 have hkDF:Keep (NotP R1) wD wF:=by rw [hwD,hwF];exact kpc
 have hP3:PairL (fun _=>False) R3 b2 L2 M r wF:=⟨⟨F,hQ.ext2 hkDF (fun k e e2=>e2 (by rw [hR1];exact .inr e)) (fun k e=>e.elim) (fun k e=>by
  rcases e with e | e
  ·rw [hR3] at e
   rcases e with e | e
   ·exact ⟨by have:=hkDF.size;omega,.inl e⟩
   ·exact ⟨e.2,.inr e.1⟩
  ·have h1:=hFC k e
   exact ⟨by have:=hkDF.size;omega,.inl h1⟩),hRD.keep hkDF (fun k e e2=>e2 (by rw [hR1];exact .inl (.inr e))),fun _ _ e=>e⟩,by rw [q0,c1],by rw [q1,c2],by rw [q2,c4],q3,by rw [c1,c2,c3];exact q4⟩
 have hR3a:∀ k,k<wC.heap.size->R3 k:=fun k e=>by rw [hR3];exact .inl e
 haveI:NotS (NotP R3) 0:=⟨fun e=>e (hR3a 0 (by omega))⟩
 haveI:NotS (NotP R3) b4:=⟨fun e=>e (hR3a _ (by omega))⟩
 haveI:NotS (NotP R3) b5:=⟨fun e=>e (hR3a _ (by omega))⟩
 haveI:NotS (NotP R3) b8:=⟨fun e=>e (hR3a _ (by omega))⟩
 haveI:NotS (NotP R3) b12:=⟨fun e=>e (by rw [hR3];exact .inr ⟨h12.1,h12.2.1⟩)⟩
 haveI:SubF (NotP R3) NoB w:=⟨fun k hk e=>e (hR3a k (by omega))⟩
 refine x_regionL (xm (xl_Lb ?_))
 refine xl_Lb ?_
 refine xl_call (act4_ok (fun _=>False) R3 b2 L2 M r x2 (4096*n) (140000+4097*n) w15 tt tr (hP3.ext (by rw [hwF];exact kpc)) (hR3a 0 (by omega)) hf1 hf2 (by omega) (by omega) (by omega) hi2.2.2.2 (hr2.keep (kpc:Keep NoB w w15) (fun _ _ h=>h)) (fun hne a ha=>hR3a _ (by have:=ens_lt hr2 hne a ha;omega)) hi2.1 hi2.2.1 hi2.2.2.1) ?_
 rintro _ w16 ⟨⟨bb,Lb,Mb,rb,rfl,hB,y1,y2,y3,y4⟩,lk8⟩
 refine xm (xl_v v_extract (xl_v v_extract (xl_v v_extract ?_)))
 refine xl_e (e_alloc fun b15 w17 nb15 lb15 kb15=>?_)
 refine xa ?_
 refine xl_s (e_storeA fun w18 l18 k18=>?_)
 refine xz ?_
 refine x_seq ?_
 have hA2:PairL P1 R1 ba La Ma ra w18:=(hA.ext (by rw [hwF];exact kpc):PairL P1 R1 ba La Ma ra wF).cell (S:=NotP R3) (by rw [hwF];exact kpc) (fun k hk e=>by
  rw [hP1]
  rw [hR3] at e
  refine .inr ⟨?_,?_⟩
  ·rcases Nat.lt_or_ge k wC.heap.size with e2 | e2
   ·exact absurd (.inl e2) e
   ·exact e2
  ·rcases Nat.lt_or_ge k wD.heap.size with e2 | e2
   ·exact e2
   ·exact absurd (.inr ⟨e2,hk⟩) e)
 have hB2:=hB.ext (kpc:Keep NoB _ w18)
 refine x_regionL (xm (xm ?_))
 refine xl_gv rfl EvO.eq v_move ?_
 refine xl_Pk ?_
 refine xm ?_
 refine xl_gv rfl EvO.eq v_move ?_
 refine xl_gLb rfl EvO.eq ?_
 refine xl_gcall rfl EvO.eq (is4p_ok P1 R1 ba La Ma ra w18 tt tr (hA2.ext (kpc:Keep NoB _ w18))) ?_
 rintro _ w19 ⟨rfl,lk97⟩
 refine xl_Pk ?_
 refine xm ?_
 refine xl_gv rfl EvO.eq v_move ?_
 refine xl_gLb rfl EvO.eq ?_
 refine xl_gcall rfl EvO.eq (is4p_ok (fun _=>False) R3 bb Lb Mb rb w19 tt tr (hB2.ext (kpc:Keep NoB _ w19))) ?_
 rintro _ w20 ⟨rfl,lk912⟩
 refine xl_Pk ?_
 refine xm ?_
 refine xl_gcall rfl EvO.eq (works4_ok w20) ?_
 rintro _ w21 ⟨rfl,lkw⟩
 refine xl_Pk ?_
 refine xz ?_
 refine x_ret ?_
 refine fin1 rfl ?_
 exact ⟨rfl,lkc⟩
end Go.Proofs.YtigmfcgeljjgnaaGreatDoor
