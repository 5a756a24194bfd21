/- A part of the walks through the log and its document, and of the law in plain Lean: HO. -/
import Derived.Test.YtigmfcgeljjgnaaGreatDoorJ28
set_option linter.all false
set_option maxRecDepth 100000
set_option synthInstance.maxSize 100000
set_option synthInstance.maxHeartbeats 400000
namespace Go.Proofs.YtigmfcgeljjgnaaGreatDoor
open Go.Wst
open Go.Wst.Dm Go.Wst.Sg
theorem nil_act (W w0:World):RowB W none w0 (([]:List LA).flatMap actC):=⟨fun j v h=>by simp at h,.inl rfl⟩
theorem nil_ens (W:World):RowP W none (([]:List En).flatMap enC):=fun j v h=>by simp at h
theorem PairL.boxed {w wa W:World} {b b8:Nat} {L:LLog} {M:Disk} {r:RLog} {W1:World} (h:PairL (fun k=>w.heap.size<=k/\k<wa.heap.size) (fun k=>k<wa.heap.size) b L M r W1) (hw:w.heap.size<=wa.heap.size) (hk:Keep NoB W1 W) (h8:W1.heap.size<=b8) (h8w:b8<W.heap.size):PairL (fun k=>(w.heap.size<=k/\k<wa.heap.size)\/k=b8) (fun k=>k<wa.heap.size\/k=b8) b L M r W:=
 h.keep hk (fun _ _ h=>h.elim) (fun k e=>by
  rcases e with e | e
  ·exact ⟨Nat.lt_of_lt_of_le (h.lt.1 k e) hk.size,.inl e⟩
  ·exact ⟨by omega,.inr (by omega)⟩) (fun k e=>by
  rcases e with e | e
  ·exact ⟨Nat.lt_of_lt_of_le (h.lt.2 k e) hk.size,.inl e⟩
  ·exact ⟨by omega,.inr (by omega)⟩)
set_option maxHeartbeats 1000000 in
theorem seglogPlays_ok (room per:Int) (A:Option Addr) (n c:Nat) (xs:List LA) (w:World) (tt:TypeId) (tr:Nat×Nat) [htab:Blk w 0 (.cells tabA tt tr)] [hra:Row w A (xs.flatMap actC)] (hrs:∀ j (h:j<xs.length),RowP w xs[j].A (xs[j].xs.flatMap enC)) (hns:∀ j (h:j<xs.length),In64 xs[j].n/\In64 xs[j].keep/\In64 xs[j].torn/\xs[j].xs.length<=9223372036854775807) (hl:xs.length=n) (hn:n<=9223372036854775807):Ret Tryz.prog 4 #[.int .i64 room,.int .i64 per,.slice A n c] w (fun v w'=>v=.bool true/\Lk w' w NoB):=by
 haveI hrb:RowB w A w (xs.flatMap actC):=rowB_of hra.row
 have h0:=blk_pos0 htab
 refine ret_of_x (N:=32) (l:=[.int .i64 room,.int .i64 per,.slice A n c]) Tryz.func4 rfl rfl (Nat.le_of_ble_eq_true rfl) ?_
 refine xq (xz ?_)
 refine x_seq (xq (xm (xm ?_)))
 refine xl_call (right4_ok room per w) ?_
 rintro _ _ ⟨rfl,rfl⟩
 refine xl_v v_not (xm ?_)
 refine xl_split 14 (fun g14=>?_) (fun g14=>?_)
 ·have g1:¬ (1<=room/\room<=100000/\1<=per/\per<=256):=by simp only [Bool.not_eq_true',decide_eq_false_iff_not] at g14;exact g14
  refine xl_gs rfl EvO.eq (xl_gs rfl EvO.eq (xl_gs rfl EvO.eq (xl_Pk ?_)))
  refine xl_nil ?_
  refine x_condT ?_
  refine xq ?_
  refine xl_call (works4_ok w) ?_
  rintro _ w2 ⟨rfl,lkw⟩
  refine xz ?_
  refine x_ret ?_
  refine fin1 rfl ?_
  exact ⟨rfl,lkc⟩
 have g1:1<=room/\room<=100000/\1<=per/\per<=256:=by simp only [Bool.not_eq_false',decide_eq_true_eq] at g14;exact g14
 refine xl_gv rfl EvO.eq v_move ?_
 refine xl_gcall rfl EvO.eq (few4_ok A n c xs w (hra:=rowB_of (ii:Row w A (xs.flatMap actC)).row) hl hn) ?_
 rintro _ w3 ⟨⟨fb,rfl,hfb⟩,lkf⟩
 refine xl_gv rfl EvO.eq v_not (xl_Pk ?_)
 refine xl_nil ?_
 refine x_if (fun c1=>?_) (fun c1=>?_)
 ·refine xq ?_
  refine xl_call (works4_ok w3) ?_
  rintro _ w4 ⟨rfl,lkw⟩
  refine xz ?_
  refine x_ret ?_
  refine fin1 rfl ?_
  exact ⟨rfl,lkc⟩
 refine x_skip (xq (xm (xm (xm ?_))))
 refine xl_call (played4_ok room per A n c xs w3 w tt tr (by omega) (by omega) (fun j h=>(rowB_of (hrs j h)).keep (kpc:Keep NoB w w3) (fun _ h=>h.elim)) hns hl (by have:=hfb (by simpa using c1);omega) Ge.le h0) ?_
 rintro _ w5 ⟨⟨b,L,M,r,rfl,hP,hf1,hf2,hnm,hpr⟩,lk1⟩
 refine xm (xl_v v_extract (xl_v v_extract (xl_v v_extract ?_)))
 refine xl_e (e_alloc fun b6 w6 n6 l6 k6=>?_)
 refine xa ?_
 refine xl_s (e_storeA fun w7 l7 k7=>?_)
 refine xz ?_
 refine xq (xm (xm ?_))
 refine xl_gcall rfl EvO.eq (works4_ok w7) ?_
 rintro _ w8 ⟨rfl,lkw⟩
 refine xl_Pk ?_
 refine xz ?_
 refine x_ret ?_
 refine fin1 rfl ?_
 exact ⟨rfl,lkc⟩
set_option maxHeartbeats 1000000 in
theorem seglogFiles_ok (per:Int) (A:Option Addr) (c:Nat) (xs:List En) (m:Int) (w:World) (tt:TypeId) (tr:Nat×Nat) [htab:Blk w 0 (.cells tabA tt tr)] (hra:RowP w A (xs.flatMap enC)) (hn:xs.length<=9223372036854775807) (hm:In64 m):Ret Tryz.prog 6 #[.int .i64 per,.slice A xs.length c,.int .i64 m] w (fun v w'=>v=.bool true/\Lk w' w NoB):=by
 have h0:=blk_pos0 htab
 refine ret_of_x (N:=67) (l:=[.int .i64 per,.slice A xs.length c,.int .i64 m]) Tryz.func6 rfl rfl (Nat.le_of_ble_eq_true rfl) ?_
 refine xq (xz ?_)
 refine x_seq (xq (xm ?_))
 refine xl_call (right4_ok 1 per w) ?_
 rintro _ _ ⟨rfl,rfl⟩
 refine xl_v v_not (xm ?_)
 refine xl_split 16 (fun g16=>?_) (fun g16=>?_)
 ·have g1:¬ (1<=(1:Int)/\(1:Int)<=100000/\1<=per/\per<=256):=by simp only [Bool.not_eq_true',decide_eq_false_iff_not] at g16;exact g16
  refine xl_gs rfl EvO.eq (xl_gs rfl EvO.eq (xl_gs rfl EvO.eq (xl_Pk ?_)))
  refine xl_nil ?_
  refine x_condT ?_
  refine xq ?_
  refine xl_call (works4_ok w) ?_
  rintro _ w2 ⟨rfl,lkw⟩
  refine xz ?_
  refine x_ret ?_
  refine fin1 rfl ?_
  exact ⟨rfl,lkc⟩
 have g1:1<=(1:Int)/\(1:Int)<=100000/\1<=per/\per<=256:=by simp only [Bool.not_eq_false',decide_eq_true_eq] at g16;exact g16
 refine xl_gv rfl EvO.eq v_move (xl_gv rfl EvO.eq v_len (xl_gv rfl EvO.eq v_gtr (xl_Pk ?_)))
 refine xl_nil ?_
 refine x_if (fun c1=>?_) (fun c1=>?_)
 ·refine xq ?_
  refine xl_call (works4_ok w) ?_
  rintro _ w3 ⟨rfl,lkw⟩
  refine xz ?_
  refine x_ret ?_
  refine fin1 rfl ?_
  exact ⟨rfl,lkc⟩
 refine x_skip (xq (xm ?_))
 refine xl_call (played4_ok 10000 per none 0 0 [] w w tt tr (by decide) (by omega) (hra:=nil_act _ _) (fun j h=>absurd h (Nat.not_lt_zero _)) (fun j h=>absurd h (Nat.not_lt_zero _)) rfl (by decide) Ge.le h0) ?_
 rintro _ w4 ⟨⟨b,L,M,r,rfl,hP,hf1,hf2,hnm,hpr⟩,lk1⟩
 obtain ⟨wa1,hwa1⟩:∃ z,z=w:=⟨_,rfl⟩
 have h1w:w.heap.size<=wa1.heap.size:=by rw [hwa1];exact Ge.le
 obtain ⟨wa2,hwa2⟩:∃ z,z=w4:=⟨_,rfl⟩
 have hPa:PairL (fun k=>w.heap.size<=k/\k<wa1.heap.size) (fun k=>k<wa1.heap.size) b L M r wa2:=by rw [hwa1,hwa2];exact hP
 refine xm (xl_v v_extract (xl_v v_extract (xl_v v_extract ?_)))
 refine xl_e (e_alloc fun b8 w5 nb8 lb8 kb8=>?_)
 refine xa ?_
 refine xl_s (e_storeA fun w6 l6 k6=>?_)
 refine xz ?_
 refine x_seq ?_
 have h8:wa2.heap.size<=b8/\b8<(w6).heap.size:=⟨by rw [hwa2,nb8.eq];exact Ge.le,Has.lt⟩
 have hP8:=hPa.boxed h1w (W:=w6) (by rw [hwa2];exact kpc) h8.1 h8.2
 obtain ⟨P,hPd⟩:∃ P:Nat->Prop,P=fun k=>(w.heap.size<=k/\k<wa1.heap.size)\/k=b8:=⟨_,rfl⟩
 obtain ⟨R,hRd⟩:∃ R:Nat->Prop,R=fun k=>k<wa1.heap.size\/k=b8:=⟨_,rfl⟩
 rw [<- hPd,<- hRd] at hP8
 have hR0:R 0:=by rw [hRd];exact .inl (show 0<wa1.heap.size by omega)
 have hRw:∀ k,k<w.heap.size->R k:=fun k e=>by rw [hRd];exact .inl (show k<wa1.heap.size by omega)
 haveI sR:SubF (NotP R) NoB w:=⟨fun k hk e=>e (hRw k hk)⟩
 haveI nS0:NotS (NotP R) 0:=⟨fun e=>e hR0⟩
 haveI nS8:NotS (NotP R) b8:=⟨fun e=>e (by rw [hRd];exact .inr rfl)⟩
 refine x_regionL (xm (xl_Lb ?_))
 refine xm (xl_v v_build ?_)
 refine xl_call (act4_ok P R b L M r ⟨0,xs,A,c,0,0,0⟩ (4096*0) (140000+4097*0) w6 tt tr (hP8.ext (kpc:Keep NoB _ w6)) hR0 hf1 hf2 (by omega) (by omega) (by omega) (by first | omega | (show (0:Nat)<=_;omega)) (hra.keep (kpc:Keep NoB w w6) (fun _ _ h=>h)) (fun hne a ha=>hRw _ (ens_lt hra hne a ha)) (show In64 (0) by first | assumption | decide) (show In64 (0) by first | assumption | decide) (show In64 (0) by first | assumption | decide)) ?_
 rintro _ w7 ⟨⟨b1_,L1_,M1_,r1_,rfl,hQ1,hf1_,hw1_,hn1_,hp1_⟩,lkA1⟩
 refine xm (xl_v v_extract (xl_v v_extract (xl_v v_extract (xa ?_))))
 refine xl_s (e_storeA fun w8 l8 k8=>?_)
 refine xz ?_
 have hP1_:=hQ1.cell (kpc:Keep (OneB b8) _ w8) (fun k _ e=>by rw [hPd];exact .inr e)
 refine xq (xm (xl_Lb ?_))
 refine xl_call (is4p_ok P R b1_ L1_ M1_ r1_ w8 tt tr (hP1_.ext (kpc:Keep NoB _ w8))) ?_
 rintro _ w9 ⟨rfl,lkI1⟩
 refine xz ?_
 refine xq (xm (xl_Lb ?_))
 refine xm (xl_v v_build ?_)
 refine xl_call (act4_ok P R b1_ L1_ M1_ r1_ ⟨1,[],none,0,m,0,0⟩ (4096*0+4096) (140000+4097*0+4097) w9 tt tr (hP1_.ext (kpc:Keep NoB _ w9)) hR0 hf1_ hw1_ (by omega) (by omega) (by omega) (by first | omega | (show (0:Nat)<=_;omega)) (nil_ens _) (fun h=>absurd rfl h) (show In64 (m) by first | assumption | decide) (show In64 (0) by first | assumption | decide) (show In64 (0) by first | assumption | decide)) ?_
 rintro _ w10 ⟨⟨b2_,L2_,M2_,r2_,rfl,hQ2,hf2_,hw2_,hn2_,hp2_⟩,lkA2⟩
 refine xm (xl_v v_extract (xl_v v_extract (xl_v v_extract (xa ?_))))
 refine xl_s (e_storeA fun w11 l11 k11=>?_)
 refine xz ?_
 have hP2_:=hQ2.cell (kpc:Keep (OneB b8) _ w11) (fun k _ e=>by rw [hPd];exact .inr e)
 refine xq (xm (xm (xl_gv rfl EvO.eq v_move (xl_Pk ?_))))
 refine xm (xl_gv rfl EvO.eq v_move (xl_Pk ?_))
 refine xm (xl_gv rfl EvO.eq v_move (xl_Pk ?_))
 refine xm (xl_gv rfl EvO.eq v_move ?_)
 refine xl_gLb rfl EvO.eq ?_
 refine xl_gcall rfl EvO.eq (is4p_ok P R b2_ L2_ M2_ r2_ w11 tt tr (hP2_.ext (kpc:Keep NoB _ w11))) ?_
 rintro _ w12 ⟨rfl,lkI2⟩
 refine xl_Pk ?_
 refine xm ?_
 refine xl_gcall rfl EvO.eq (works4_ok w12) ?_
 rintro _ w13 ⟨rfl,lkw⟩
 refine xl_Pk ?_
 refine xz ?_
 refine x_ret ?_
 refine fin1 rfl ?_
 exact ⟨rfl,lkc⟩
set_option maxHeartbeats 1000000 in
theorem seglogTorn_ok (A B:Option Addr) (c cb:Nat) (xs ys:List En) (kp tn:Int) (w:World) (tt:TypeId) (tr:Nat×Nat) [htab:Blk w 0 (.cells tabA tt tr)] (hra:RowP w A (xs.flatMap enC)) (hrb:RowP w B (ys.flatMap enC)) (hn:xs.length<=9223372036854775807) (hn2:ys.length<=9223372036854775807) (hkp:In64 kp) (htn:In64 tn):Ret Tryz.prog 7 #[.slice A xs.length c,.slice B ys.length cb,.agg #[.int .i64 kp,.int .i64 tn]] w (fun v w'=>v=.bool true/\Lk w' w NoB):=by
 have h0:=blk_pos0 htab
 refine ret_of_x (N:=84) (l:=[.slice A xs.length c,.slice B ys.length cb,.agg #[.int .i64 kp,.int .i64 tn]]) Tryz.func7 rfl rfl (Nat.le_of_ble_eq_true rfl) ?_
 refine xq ?_
 refine xl_e (e_box fun b5 w1 nb5 lb5 kb5=>?_)
 refine xz ?_
 refine x_seq (xq (xm (xl_v v_len (xl_v v_gtr (xm ?_)))))
 refine xl_split 17 (fun g17=>?_) (fun g17=>?_)
 ·refine xl_gs rfl EvO.eq (xl_gs rfl EvO.eq (xl_gs rfl EvO.eq (xl_Pk ?_)))
  refine xl_nil ?_
  refine x_condT ?_
  refine xq ?_
  refine xl_call (works4_ok w1) ?_
  rintro _ w2 ⟨rfl,lkw⟩
  refine xz ?_
  refine x_ret ?_
  refine fin1 rfl ?_
  exact ⟨rfl,lkc⟩
 refine xl_gv rfl EvO.eq v_move (xl_gv rfl EvO.eq v_len (xl_gv rfl EvO.eq v_gtr (xl_Pk ?_)))
 refine xl_nil ?_
 refine x_if (fun c1=>?_) (fun c1=>?_)
 ·refine xq ?_
  refine xl_call (works4_ok w1) ?_
  rintro _ w3 ⟨rfl,lkw⟩
  refine xz ?_
  refine x_ret ?_
  refine fin1 rfl ?_
  exact ⟨rfl,lkc⟩
 refine x_skip (xq ?_)
 refine xl_call (played4_ok 10000 4 none 0 0 [] w1 w tt tr (by decide) (by decide) (hra:=nil_act _ _) (fun j h=>absurd h (Nat.not_lt_zero _)) (fun j h=>absurd h (Nat.not_lt_zero _)) rfl (by decide) Ge.le h0) ?_
 rintro _ w4 ⟨⟨b,L,M,r,rfl,hP,hf1,hf2,hnm,hpr⟩,lk1⟩
 obtain ⟨wa1,hwa1⟩:∃ z,z=w1:=⟨_,rfl⟩
 have h1w:w.heap.size<=wa1.heap.size:=by rw [hwa1];exact Ge.le
 obtain ⟨wa2,hwa2⟩:∃ z,z=w4:=⟨_,rfl⟩
 have hPa:PairL (fun k=>w.heap.size<=k/\k<wa1.heap.size) (fun k=>k<wa1.heap.size) b L M r wa2:=by rw [hwa1,hwa2];exact hP
 have h5:b5<wa1.heap.size:=by rw [hwa1];exact Has.lt
 refine xm (xl_v v_extract (xl_v v_extract (xl_v v_extract ?_)))
 refine xl_e (e_alloc fun b8 w5 nb8 lb8 kb8=>?_)
 refine xa ?_
 refine xl_s (e_storeA fun w6 l6 k6=>?_)
 refine xz ?_
 refine x_seq ?_
 have h8:wa2.heap.size<=b8/\b8<(w6).heap.size:=⟨by rw [hwa2,nb8.eq];exact Ge.le,Has.lt⟩
 have hP8:=hPa.boxed h1w (W:=w6) (by rw [hwa2];exact kpc) h8.1 h8.2
 obtain ⟨P,hPd⟩:∃ P:Nat->Prop,P=fun k=>(w.heap.size<=k/\k<wa1.heap.size)\/k=b8:=⟨_,rfl⟩
 obtain ⟨R,hRd⟩:∃ R:Nat->Prop,R=fun k=>k<wa1.heap.size\/k=b8:=⟨_,rfl⟩
 rw [<- hPd,<- hRd] at hP8
 have hR0:R 0:=by rw [hRd];exact .inl (show 0<wa1.heap.size by omega)
 have hRw:∀ k,k<w.heap.size->R k:=fun k e=>by rw [hRd];exact .inl (show k<wa1.heap.size by omega)
 haveI sR:SubF (NotP R) NoB w:=⟨fun k hk e=>e (hRw k hk)⟩
 haveI nS0:NotS (NotP R) 0:=⟨fun e=>e hR0⟩
 haveI nS8:NotS (NotP R) b8:=⟨fun e=>e (by rw [hRd];exact .inr rfl)⟩
 haveI nS5:NotS (NotP R) b5:=⟨fun e=>e (by rw [hRd];exact .inl h5)⟩
 refine x_regionL (xm (xl_Lb ?_))
 refine xm (xl_v v_build ?_)
 refine xl_call (act4_ok P R b L M r ⟨0,xs,A,c,0,0,0⟩ (4096*0) (140000+4097*0) w6 tt tr (hP8.ext (kpc:Keep NoB _ w6)) hR0 hf1 hf2 (by omega) (by omega) (by omega) (by first | omega | (show (0:Nat)<=_;omega)) (hra.keep (kpc:Keep NoB w w6) (fun _ _ h=>h)) (fun hne a ha=>hRw _ (ens_lt hra hne a ha)) (show In64 (0) by first | assumption | decide) (show In64 (0) by first | assumption | decide) (show In64 (0) by first | assumption | decide)) ?_
 rintro _ w7 ⟨⟨b1_,L1_,M1_,r1_,rfl,hQ1,hf1_,hw1_,hn1_,hp1_⟩,lkA1⟩
 refine xm (xl_v v_extract (xl_v v_extract (xl_v v_extract (xa ?_))))
 refine xl_s (e_storeA fun w8 l8 k8=>?_)
 refine xz ?_
 have hP1_:=hQ1.cell (kpc:Keep (OneB b8) _ w8) (fun k _ e=>by rw [hPd];exact .inr e)
 refine xq (xm (xl_Lb ?_))
 refine xl_v v_build ?_
 refine xl_call (act4_ok P R b1_ L1_ M1_ r1_ ⟨2,[],none,0,0,0,0⟩ (4096*0+4096) (140000+4097*0+4097) w8 tt tr (hP1_.ext (kpc:Keep NoB _ w8)) hR0 hf1_ hw1_ (by omega) (by omega) (by omega) (by first | omega | (show (0:Nat)<=_;omega)) (nil_ens _) (fun h=>absurd rfl h) (show In64 (0) by first | assumption | decide) (show In64 (0) by first | assumption | decide) (show In64 (0) by first | assumption | decide)) ?_
 rintro _ w9 ⟨⟨b2_,L2_,M2_,r2_,rfl,hQ2,hf2_,hw2_,hn2_,hp2_⟩,lkA2⟩
 refine xm (xl_v v_extract (xl_v v_extract (xl_v v_extract (xa ?_))))
 refine xl_s (e_storeA fun w10 l10 k10=>?_)
 refine xz ?_
 have hP2_:=hQ2.cell (kpc:Keep (OneB b8) _ w10) (fun k _ e=>by rw [hPd];exact .inr e)
 refine xq (xm (xl_Lb ?_))
 refine xm (xl_v v_build ?_)
 refine xl_call (act4_ok P R b2_ L2_ M2_ r2_ ⟨0,ys,B,cb,0,0,0⟩ (4096*0+4096+4096) (140000+4097*0+4097+4097) w10 tt tr (hP2_.ext (kpc:Keep NoB _ w10)) hR0 hf2_ hw2_ (by omega) (by omega) (by omega) (by first | omega | (show (0:Nat)<=_;omega)) (hrb.keep (kpc:Keep NoB w w10) (fun _ _ h=>h)) (fun hne a ha=>hRw _ (ens_lt hrb hne a ha)) (show In64 (0) by first | assumption | decide) (show In64 (0) by first | assumption | decide) (show In64 (0) by first | assumption | decide)) ?_
 rintro _ w11 ⟨⟨b3_,L3_,M3_,r3_,rfl,hQ3,hf3_,hw3_,hn3_,hp3_⟩,lkA3⟩
 refine xm (xl_v v_extract (xl_v v_extract (xl_v v_extract (xa ?_))))
 refine xl_s (e_storeA fun w12 l12 k12=>?_)
 refine xz ?_
 have hP3_:=hQ3.cell (kpc:Keep (OneB b8) _ w12) (fun k _ e=>by rw [hPd];exact .inr e)
 refine xq (xm (xl_Lb ?_))
 refine xl_Lb ?_
 refine xl_v v_build ?_
 refine xl_call (act4_ok P R b3_ L3_ M3_ r3_ ⟨3,[],none,0,0,kp,tn⟩ (4096*0+4096+4096+4096) (140000+4097*0+4097+4097+4097) w12 tt tr (hP3_.ext (kpc:Keep NoB _ w12)) hR0 hf3_ hw3_ (by omega) (by omega) (by omega) (by first | omega | (show (0:Nat)<=_;omega)) (nil_ens _) (fun h=>absurd rfl h) (show In64 (0) by first | assumption | decide) (show In64 (kp) by first | assumption | decide) (show In64 (tn) by first | assumption | decide)) ?_
 rintro _ w13 ⟨⟨b4_,L4_,M4_,r4_,rfl,hQ4,hf4_,hw4_,hn4_,hp4_⟩,lkA4⟩
 refine xm (xl_v v_extract (xl_v v_extract (xl_v v_extract (xa ?_))))
 refine xl_s (e_storeA fun w14 l14 k14=>?_)
 refine xz ?_
 have hP4_:=hQ4.cell (kpc:Keep (OneB b8) _ w14) (fun k _ e=>by rw [hPd];exact .inr e)
 refine xq (xm (xm (xl_gv rfl EvO.eq v_move (xl_Pk ?_))))
 refine xm (xl_gv rfl EvO.eq v_move (xl_Pk ?_))
 refine xm (xl_gv rfl EvO.eq v_move (xl_Pk ?_))
 refine xm (xl_gv rfl EvO.eq v_move (xl_Pk ?_))
 refine xm (xl_gv rfl EvO.eq v_move ?_)
 refine xl_gLb rfl EvO.eq ?_
 refine xl_gcall rfl EvO.eq (is4p_ok P R b4_ L4_ M4_ r4_ w14 tt tr (hP4_.ext (kpc:Keep NoB _ w14))) ?_
 rintro _ w15 ⟨rfl,lkI2⟩
 refine xl_Pk ?_
 refine xm ?_
 refine xl_gcall rfl EvO.eq (works4_ok w15) ?_
 rintro _ w16 ⟨rfl,lkw⟩
 refine xl_Pk ?_
 refine xz ?_
 refine x_ret ?_
 refine fin1 rfl ?_
 exact ⟨rfl,lkc⟩
end Go.Proofs.YtigmfcgeljjgnaaGreatDoor
