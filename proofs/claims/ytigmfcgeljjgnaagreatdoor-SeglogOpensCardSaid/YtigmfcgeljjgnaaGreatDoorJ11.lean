/- A part of the walks through the log and its document, and of the law in plain Lean: GM GG GH. -/
import Derived.Test.YtigmfcgeljjgnaaGreatDoorJ10
set_option linter.all false
set_option maxRecDepth 100000
set_option synthInstance.maxSize 100000
set_option synthInstance.maxHeartbeats 400000
namespace Go.Proofs.YtigmfcgeljjgnaaGreatDoor
open Go.Wst
open Go.Wst.Dm Go.Wst.Sg
theorem row_nz {w:World} {A:Option Addr} {bs:By} {n:Nat} (h:Row w A (bytesC bs)) (hl:bs.length=n):A.isSome=true\/n=0:=by
 rcases Nat.eq_zero_or_pos n with e | e
 ·exact .inr e
 ·exact .inl (row_some h (by simp [bytesC];omega))
theorem own_cat {w:World} {base m k c:Nat} {A:Option Addr} {bs cs:By} (h:w.ownsRow base 5 1 (.slice A (m+k) c) (m+k) (bytesC bs++bytesC cs)) (hm:m=bs.length) (hk:k=cs.length):w.ownsRow base 5 1 (.slice A (bs++cs).length c) (bs++cs).length (bytesC (bs++cs)):=by
 subst hm;subst hk
 rw [bytesC_append] at h
 rw [List.length_append]
 exact h
theorem dnumI_ok (x:Int) (w:World) (h0:0<=x) (h1:x<=2147483647):Ret Tryz.prog 121 #[.int .i64 x] w (fun v w'=>OwnBy v (numB x.toNat) w.heap.size w'/\Lk w' w NoB):=by
 obtain ⟨n,rfl⟩:∃ n:Nat,x=(n:Int):=⟨x.toNat,by omega⟩
 exact dnumber_ok n w (by omega)
theorem num5 {x:Int} (h0:0<=x) (h1:x<=2147483647):(numB x.toNat).length<=5:=(numB_len 5 x.toNat (by omega) (by omega)).1
theorem zig5 {x:Int} (h0:-2147483648<=x) (h1:x<=2147483647):(numB (zig x)).length<=5:=(numB_len 5 (zig x) (by unfold zig;split<;>omega) (by omega)).1
def bd1 (e:En):By:=[byteI e.kind]++numB e.epoch.toNat
def bd2 (e:En):By:=bd1 e++[byteI (e.id+1)]
def bd3 (e:En):By:=bd2 e++(if 0<=e.id then numB e.num.toNat else [])
def bd4 (e:En):By:=bd3 e++(if e.kind=1/\0<=e.id then numB e.seq.toNat else [])
theorem bd5 (e:En):body e=bd4 e++(if e.kind=1 then numB (zig e.val) else []):=rfl
set_option maxHeartbeats 1000000 in
theorem dbody_ok (e:En) (w:World) (hR:Right e):Ret Tryz.prog 101 #[.agg (enC e).toArray] w (fun v w'=>OwnBy v (body e) w.heap.size w'/\Lk w' w NoB):=by
 obtain ⟨h1,h2,h3,h4,h5,h6,h7,h8,h9,h10⟩:=id hR
 unfold in31 at h1 h8 h9 h10
 have n1:=num5 (x:=e.epoch) (by omega) (by omega)
 have n3:=num5 (x:=e.seq) (by omega) (by omega)
 have n4:=zig5 (x:=e.val) (by omega) (by omega)
 have d1:(bd1 e).length<=6:=by simp [bd1];omega
 have d2:(bd2 e).length<=7:=by simp [bd2];omega
 have d3:(bd3 e).length<=12:=by
  unfold bd3
  split
  ·next hi=>have:=num5 (x:=e.num) (by have:=h8 hi;omega) (by have:=h8 hi;omega);simp;omega
  ·simp;omega
 have d4:(bd4 e).length<=17:=by unfold bd4;split<;>simp<;>omega
 refine ret_of_x (N:=49) (l:=[.agg (enC e).toArray]) Tryz.func101 rfl rfl (Nat.le_of_ble_eq_true rfl) ?_
 refine xq ?_
 refine xl_e (e_box fun b1 w1 nb1 lb1 kb1=>?_)
 refine xz ?_
 obtain ⟨wb,hwb⟩:∃ x,x=w1:=⟨_,rfl⟩
 haveI lkb:Lk wb w NoB:=by rw [hwb];exact lb1
 have hlb:Keep NoB wb w1:=by rw [hwb];exact Keep.refl _ _
 have hb1:b1<wb.heap.size:=by rw [hwb];exact (Array.getElem?_eq_some_iff.1 kb1.eq).1
 have hwbw:w.heap.size<=wb.heap.size:=lkb.keep.size
 refine x_cut (fun τ ds w'=>ds=[]/\(∃ A c,Ev τ 3 (.slice A (bd1 e).length c)/\w'.ownsRow wb.heap.size 5 1 (.slice A (bd1 e).length c) (bd1 e).length (bytesC (bd1 e)))/\Ev τ 1 (ptrV b1)/\Blk w' b1 (.cells (enC e).toArray 84 (0,0))/\Lk w' wb NoB) ?_ ?_
 ·refine x_drawL (NewS w1) (allS) (.take 0 (.take 1 (.take 2 (.take 4 (.take 5 (.fork 3 (.eff 6 (.eff 7 (.take 8 .done))) 6 (.eff 3 (.eff 7 (.take 8 .done))))))))) mixed (by kernel_rfl) (fun _ _ _ _ _ h=>h) (fun w2 l2=>?_)
  refine xt_Fb rfl ?_
  refine xt_Lc rfl ?_
  refine xt_v rfl (v_congr (u:=.int .u8 ((byteI e.kind).toNat:Int)) v_convert (congrArg (Value.int .u8) (byteI_wrap _))) ?_
  refine xt_Fb rfl ?_
  refine xt_Lc rfl ?_
  refine xt_fork ?_ ?_
  ·refine xt_e rfl (e_buildSlice1 rfl fun b7 w3 n7 l7 k7=>?_)
   refine xt_call rfl (dnumI_ok e.epoch w3 (by omega) (by omega)) ?_
   rintro _ w4 ⟨⟨A2,c2,rfl,ho2⟩,lk2⟩
   refine ⟨kpc,?_⟩
   have ho2w:=own_ext ho2 (lkc:Lk w4 _ NoB)
   haveI oN:OwnI w4 A2 _ _ _ _ _ _ _:=⟨ho2w⟩
   have hge7:wb.heap.size<=(w4).heap.size:=by rw [hwb];exact Ge.le
   have hb7:wb.heap.size<=b7:=by rw [hwb,n7.eq];exact Ge.le
   haveI s7:SubS (OwnB (.slice (some ⟨b7,0,none⟩) 1 1)) (NewS w1):=⟨fun k e=>by have e':some k=some b7:=e;cases e';show w1.heap.size<=b7;rw [n7.eq];exact Ge.le⟩
   haveI o7:NotS (OwnB (.slice (some ⟨b7,0,none⟩) 1 1)) b1:=⟨fun e=>by have e':some b1=some b7:=e;cases e';omega⟩
   have ho7:World.ownsRow w4 wb.heap.size 5 1 (.slice (some ⟨b7,0,none⟩) 1 1) 1 (bytesC [byteI e.kind]):=ownsRow_blk hb7 Blk.eq rfl (by decide)
   refine xt_e rfl (e_append' ho7 hge7 (by simp [bytesC]) (bytesC_one _) (by decide) (.inl (row_some (w:=w4) (A:=A2) (cs:=bytesC (numB e.epoch.toNat)) ii (by have:=numB_ne e.epoch.toNat;simp [bytesC];exact List.length_pos_iff.2 this))) (by omega) (by omega) fun A6 c6 w5 ho6 l6 hn6=>?_)
   refine xt_v rfl v_assign (xt_nil ?_)
   haveI:SubF (OwnB (.slice (some ⟨b7,0,none⟩) 1 1)) NoB w1:=⟨fun k hk e=>by have e':some k=some b7:=e;cases e';rw [hwb] at hb7;omega⟩
   exact ⟨rfl,⟨A6,c6,evc (by rw [bd1,List.length_append,List.length_singleton]),own_cat ho6 rfl rfl⟩,ii,ii,by rw [hwb];exact lkc⟩
  refine xt_call rfl (dnumI_ok e.epoch w2 (by omega) (by omega)) ?_
  rintro _ w6 ⟨⟨A2,c2,rfl,ho2⟩,lk2⟩
  refine ⟨kpc,?_⟩
  refine xt_e rfl (e_buildSlice1 rfl fun b7 w7 n7 l7 k7=>?_)
  have ho2w:=own_ext ho2 (lkc:Lk w7 _ NoB)
  haveI oN:OwnI w7 A2 _ _ _ _ _ _ _:=⟨ho2w⟩
  have hge7:wb.heap.size<=(w7).heap.size:=by rw [hwb];exact Ge.le
  have hb7:wb.heap.size<=b7:=by rw [hwb,n7.eq];exact Ge.le
  haveI s7:SubS (OwnB (.slice (some ⟨b7,0,none⟩) 1 1)) (NewS w1):=⟨fun k e=>by have e':some k=some b7:=e;cases e';show w1.heap.size<=b7;rw [n7.eq];exact Ge.le⟩
  haveI o7:NotS (OwnB (.slice (some ⟨b7,0,none⟩) 1 1)) b1:=⟨fun e=>by have e':some b1=some b7:=e;cases e';omega⟩
  have ho7:World.ownsRow w7 wb.heap.size 5 1 (.slice (some ⟨b7,0,none⟩) 1 1) 1 (bytesC [byteI e.kind]):=ownsRow_blk hb7 Blk.eq rfl (by decide)
  refine xt_e rfl (e_append' ho7 hge7 (by simp [bytesC]) (bytesC_one _) (by decide) (.inl (row_some (w:=w7) (A:=A2) (cs:=bytesC (numB e.epoch.toNat)) ii (by have:=numB_ne e.epoch.toNat;simp [bytesC];exact List.length_pos_iff.2 this))) (by omega) (by omega) fun A6 c6 w8 ho6 l6 hn6=>?_)
  refine xt_v rfl v_assign (xt_nil ?_)
  haveI:SubF (OwnB (.slice (some ⟨b7,0,none⟩) 1 1)) NoB w1:=⟨fun k hk e=>by have e':some k=some b7:=e;cases e';rw [hwb] at hb7;omega⟩
  exact ⟨rfl,⟨A6,c6,evc (by rw [bd1,List.length_append,List.length_singleton]),own_cat ho6 rfl rfl⟩,ii,ii,by rw [hwb];exact lkc⟩
 intro τ9 ds9 w9 hI
 obtain ⟨rfl,⟨A,c,e3,hown⟩,e1,kb1,lk⟩:=hI
 haveI:=ownN_of hown (Nat.le_refl _)
 haveI nB:NotS (OwnB (.slice A _ c)) b1:=⟨fun e=>by have:=(hown.lt _ (Eq.symm e)).1;omega⟩
 refine x_cut (fun τ ds w'=>ds=[]/\(∃ A c,Ev τ 3 (.slice A (bd2 e).length c)/\w'.ownsRow wb.heap.size 5 1 (.slice A (bd2 e).length c) (bd2 e).length (bytesC (bd2 e)))/\Ev τ 1 (ptrV b1)/\Blk w' b1 (.cells (enC e).toArray 84 (0,0))/\Lk w' wb NoB) ?_ ?_
 ·refine x_regionL (xm (xl_Fb ?_))
  refine xl_Lc ?_
  refine xl_v (v_add (by omega)) ?_
  refine xl_v (v_congr (u:=.int .u8 ((byteI (e.id+1)).toNat:Int)) v_convert (congrArg (Value.int .u8) (byteI_wrap _))) ?_
  refine xl_e (e_buildSlice1 rfl fun b5 w10 n5 l5 k5=>?_)
  refine xl_e (e_append' (own_ext hown lkc) Ge.le rfl Cell1L.eq (by decide) (.inl rfl) (by omega) (by omega) fun A6 c6 w11 ho6 l6 hn6=>?_)
  refine xz ?_
  exact ⟨rfl,⟨A6,c6,evc (by rw [bd2,List.length_append,List.length_singleton]),own_cat (cs:=[byteI (e.id+1)]) ho6 rfl rfl⟩,ii,ii,lkc⟩
 intro τ12 ds12 w12 hI
 obtain ⟨rfl,⟨A,c,e3,hown⟩,e1,kb1,lk⟩:=hI
 haveI:=ownN_of hown (Nat.le_refl _)
 haveI nB:NotS (OwnB (.slice A _ c)) b1:=⟨fun e=>by have:=(hown.lt _ (Eq.symm e)).1;omega⟩
 refine x_cut (fun τ ds w'=>ds=[]/\(∃ A c,Ev τ 3 (.slice A (bd3 e).length c)/\w'.ownsRow wb.heap.size 5 1 (.slice A (bd3 e).length c) (bd3 e).length (bytesC (bd3 e)))/\Ev τ 1 (ptrV b1)/\Blk w' b1 (.cells (enC e).toArray 84 (0,0))/\Lk w' wb NoB) ?_ ?_
 ·refine xq (xl_Fb ?_)
  refine xl_Lc ?_
  refine xl_v v_geq (xl_nil ?_)
  refine x_if (fun c1=>?_) (fun c1=>?_)
  ·refine x_regionL (xm (xl_Fb ?_))
   refine xl_Lc ?_
   refine xl_call (dnumI_ok e.num w12 (by have:=h8 (by omega);omega) (by have:=h8 (by omega);omega)) ?_
   rintro _ w13 ⟨⟨A2,c2,rfl,ho2⟩,lk2⟩
   haveI oN:OwnI w13 A2 _ _ _ _ _ _ _:=⟨ho2⟩
   have nn:=num5 (x:=e.num) (by have:=h8 (by omega);omega) (by have:=h8 (by omega);omega)
   refine xl_e (e_append' (own_ext hown lkc) Ge.le (by simp [bytesC]) (bytesC_one _) (by decide) (.inl (row_some (w:=w13) (A:=A2) (cs:=bytesC (numB e.num.toNat)) ii (by have:=numB_ne e.num.toNat;simp [bytesC];exact List.length_pos_iff.2 this))) (by omega) (by omega) fun A6 c6 w14 ho6 l6 hn6=>?_)
   refine xz ?_
   unfold bd3
   (rw [if_pos (by omega)];exact ⟨rfl,⟨A6,c6,evc (by rw [List.length_append]),own_cat ho6 rfl rfl⟩,ii,ii,lkc⟩)
  refine x_skip ?_
  unfold bd3
  first
   | (rw [if_pos (by omega)];exact ⟨rfl,⟨A6,c6,evc (by rw [List.length_append]),own_cat ho6 rfl rfl⟩,ii,ii,lkc⟩)
   | (rw [if_neg (by omega),List.append_nil];exact ⟨rfl,⟨A,c,ii,own_ext hown lkc⟩,ii,ii,lkc⟩)
 intro τ15 ds15 w15 hI
 obtain ⟨rfl,⟨A,c,e3,hown⟩,e1,kb1,lk⟩:=hI
 haveI:=ownN_of hown (Nat.le_refl _)
 haveI nB:NotS (OwnB (.slice A _ c)) b1:=⟨fun e=>by have:=(hown.lt _ (Eq.symm e)).1;omega⟩
 refine x_cut (fun τ ds w'=>ds=[]/\(∃ A c,Ev τ 3 (.slice A (bd4 e).length c)/\w'.ownsRow wb.heap.size 5 1 (.slice A (bd4 e).length c) (bd4 e).length (bytesC (bd4 e)))/\Ev τ 1 (ptrV b1)/\Blk w' b1 (.cells (enC e).toArray 84 (0,0))/\Lk w' wb NoB) ?_ ?_
 ·refine xq (xl_Fb ?_)
  refine xl_Lc ?_
  refine xl_v v_eql (xm ?_)
  refine xl_split 30 (fun g30=>?_) (fun g30=>?_)
  ·have g5:=of_decide_eq_true g30
   refine xl_gFb rfl EvO.eq ?_
   refine xl_gLc rfl EvO.eq ?_
   refine xl_gv rfl EvO.eq v_geq (xl_Pk ?_)
   refine xl_nil ?_
   refine x_if (fun c2=>?_) (fun c2=>?_)
   ·refine x_regionL (xm (xl_Fb ?_))
    refine xl_Lc ?_
    refine xl_call (dnumI_ok e.seq w15 (by omega) (by omega)) ?_
    rintro _ w16 ⟨⟨A2,c2,rfl,ho2⟩,lk2⟩
    haveI oN:OwnI w16 A2 _ _ _ _ _ _ _:=⟨ho2⟩
    refine xl_e (e_append' (own_ext hown lkc) Ge.le (by simp [bytesC]) (bytesC_one _) (by decide) (.inl (row_some (w:=w16) (A:=A2) (cs:=bytesC (numB e.seq.toNat)) ii (by have:=numB_ne e.seq.toNat;simp [bytesC];exact List.length_pos_iff.2 this))) (by omega) (by omega) fun A6 c6 w17 ho6 l6 hn6=>?_)
    refine xz ?_
    unfold bd4
    (rw [if_pos (by omega)];exact ⟨rfl,⟨A6,c6,evc (by rw [List.length_append]),own_cat ho6 rfl rfl⟩,ii,ii,lkc⟩)
   refine x_skip ?_
   unfold bd4
   first
    | (rw [if_pos (by omega)];exact ⟨rfl,⟨A6,c6,evc (by rw [List.length_append]),own_cat ho6 rfl rfl⟩,ii,ii,lkc⟩)
    | (rw [if_neg (by omega),List.append_nil];exact ⟨rfl,⟨A,c,ii,own_ext hown lkc⟩,ii,ii,lkc⟩)
  have g5:=of_decide_eq_false g30
  refine xl_gs rfl EvO.eq (xl_gs rfl EvO.eq (xl_gs rfl EvO.eq (xl_Pk ?_)))
  refine xl_nil ?_
  refine x_condF ?_
  refine x_skip ?_
  unfold bd4
  first
   | (rw [if_pos (by omega)];exact ⟨rfl,⟨A6,c6,evc (by rw [List.length_append]),own_cat ho6 rfl rfl⟩,ii,ii,lkc⟩)
   | (rw [if_neg (by omega),List.append_nil];exact ⟨rfl,⟨A,c,ii,own_ext hown lkc⟩,ii,ii,lkc⟩)
 intro τ18 ds18 w18 hI
 obtain ⟨rfl,⟨A,c,e3,hown⟩,e1,kb1,lk⟩:=hI
 haveI:=ownN_of hown (Nat.le_refl _)
 haveI nB:NotS (OwnB (.slice A _ c)) b1:=⟨fun e=>by have:=(hown.lt _ (Eq.symm e)).1;omega⟩
 refine x_cut (fun τ ds w'=>ds=[]/\(∃ A c,Ev τ 3 (.slice A (body e).length c)/\w'.ownsRow wb.heap.size 5 1 (.slice A (body e).length c) (body e).length (bytesC (body e)))/\Lk w' wb NoB) ?_ ?_
 ·refine xq (xl_Fb ?_)
  refine xl_Lc ?_
  refine xl_v v_eql (xl_nil ?_)
  refine x_if (fun c3=>?_) (fun c3=>?_)
  ·refine x_regionL (xm (xl_Fb ?_))
   refine xl_Lc ?_
   refine xl_call (dsigned_ok e.val w18 (by omega) (by omega)) ?_
   rintro _ w19 ⟨⟨A2,c2,rfl,ho2⟩,lk2⟩
   haveI oN:OwnI w19 A2 _ _ _ _ _ _ _:=⟨ho2⟩
   refine xl_e (e_append' (own_ext hown lkc) Ge.le (by simp [bytesC]) (bytesC_one _) (by decide) (.inl (row_some (w:=w19) (A:=A2) (cs:=bytesC (numB (zig e.val))) ii (by have:=numB_ne (zig e.val);simp [bytesC];exact List.length_pos_iff.2 this))) (by omega) (by omega) fun A6 c6 w20 ho6 l6 hn6=>?_)
   refine xz ?_
   rw [bd5]
   (rw [if_pos (by omega)];exact ⟨rfl,⟨A6,c6,evc (by rw [List.length_append]),own_cat ho6 rfl rfl⟩,lkc⟩)
  refine x_skip ?_
  rw [bd5]
  first
   | (rw [if_pos (by omega)];exact ⟨rfl,⟨A6,c6,evc (by rw [List.length_append]),own_cat ho6 rfl rfl⟩,lkc⟩)
   | (rw [if_neg (by omega),List.append_nil];exact ⟨rfl,⟨A,c,ii,own_ext hown lkc⟩,lkc⟩)
 intro τ21 ds21 w21 hI
 obtain ⟨rfl,⟨A,c,e3,hown⟩,lk⟩:=hI
 refine xq (xm (xz ?_))
 refine x_ret ?_
 refine fin1 rfl ?_
 exact ⟨⟨A,c,rfl,own_mono hown hwbw⟩,lkc⟩
theorem dframed_ok (A:Option Addr) (n c:Nat) (bs:By) (w:World) [hr0:Row w A (bytesC bs)] (hl:bs.length=n) (hn:n<=255):Ret Tryz.prog 100 #[.slice A n c] w (fun v w'=>OwnBy v (framed bs) w.heap.size w'/\Lk w' w NoB):=by
 haveI hr:RowB w A w (bytesC bs):=rowB_of hr0.row
 refine ret_of_x (N:=28) (l:=[.slice A n c]) Tryz.func100 rfl rfl (Nat.le_of_ble_eq_true rfl) ?_
 refine xq (xz ?_)
 refine xq (xm ?_)
 refine xl_call (dsum_ok A n c bs w hl (by omega)) ?_
 rintro _ w1 ⟨rfl,lk1⟩
 obtain ⟨s,hs⟩:∃ s,s=sumW bs:=⟨_,rfl⟩
 rw [<- hs]
 refine xz ?_
 refine xq (xz ?_)
 refine x_seq (xq (xz ?_))
 refine x_block ?_
 refine x_loop (fun t τ ds w'=>ds=[]/\∃ (k:Nat) (V:Value),t=4 - k/\k<=4/\w'.ownsRow w.heap.size 5 1 V k (bytesC ((le4 s).take k))/\Ev τ 0 (.slice A n c)/\Ev τ 3 (.int .u32 ((s >>> (8*k)).toNat:Int))/\Ev τ 4 V/\Ev τ 5 (.int .i64 (k:Int))/\Lk w' w NoB) (4) ?start ?round
 case start=>
  exact ⟨rfl,0,_,rfl,Nat.zero_le _,World.ownsRow_nil _ _ _ _,ii,by simpa using (ii:Ev _ 3 (.int .u32 (s.toNat:Int))),ii,evc,lkc⟩
 case round=>
  intro m τ2 ds2 w2 hI
  obtain ⟨rfl,k,V,rfl,hk,hown,e0,e3,e4,e5,lk⟩:=hI
  haveI:=ownN_of hown (Nat.le_refl _)
  refine x_seq (xq (xm (xl_v v_lss (xl_nil ?_))))
  refine x_if (fun c1=>?_) (fun c1=>?_)
  ·have hk1:k<(le4 s).length:=by show k<4;omega
   have hq:=(s >>> (8*k)).isLt
   refine x_skip (x_seq (x_block (xq (xm (xm ?_)))))
   refine xl_v (v_congr (u:=.int .u32 (((s >>> (8*k)).toNat % 256:Nat):Int)) (v_rem (by decide)) (congrArg (Value.int .u32) (tmodN _ 256))) ?_
   refine xl_v (v_congr (u:=.int .u8 ((le4 s)[k].toNat:Int)) v_convert (congrArg (Value.int .u8) (by rw [le4_get s k hk1,u8wrap,u8wrap,Nat.mod_mod]))) ?_
   refine xl_e (e_buildSlice1 rfl fun b5 w3 n5 l5 k5=>?_)
   refine xl_e (e_append' (own_ext hown lkc) Ge.le rfl Cell1L.eq (by decide) (.inl rfl) (by omega) (by omega) fun A6 c6 w4 hown2 l6 _=>?_)
   have hown2:World.ownsRow w4 w.heap.size 5 1 (.slice A6 (k+1) c6) (k+1) (bytesC ((le4 s).take (k+1))):=by
    rw [List.take_succ_eq_append_getElem hk1,<- bytesC_append]
    exact hown2
   refine xz ?_
   refine x_regionL (xm ?_)
   refine xl_v (v_congr (u:=.int .u32 ((s >>> (8*(k+1))).toNat:Int)) (v_quo (by decide)) (congrArg (Value.int .u32) (by rw [show (256:Int)=((256:Nat):Int) from rfl,tdivN,u32N (by omega),show 8*(k+1)=8*k+8 by omega,BitVec.shiftRight_add,BitVec.toNat_ushiftRight (s >>> (8*k)),Nat.shiftRight_eq_div_pow]))) ?_
   refine xz ?_
   refine x_regionL (xm ?_)
   refine xl_v (v_add (by omega)) ?_
   refine xz ?_
   refine ⟨_,?_,rfl,k+1,_,rfl,by omega,hown2,ii,ii,ii,evc,lkc⟩
   omega
  have hk4:k=4:=by omega
  subst hk4
  rw [List.take_of_length_le (by show 4<=4;omega)] at hown
  obtain ⟨A4,c4,rfl,_⟩:=ownsRow_form hown
  haveI:Above (OwnB (.slice A4 4 c4)) w:=⟨fun k e=>(hown.lt k (Eq.symm e)).1⟩
  refine x_exit (xq (xm (xm (xl_v v_len ?_))))
  refine xl_v (v_congr (u:=.int .u8 ((UInt8.ofNat bs.length).toNat:Int)) v_convert (congrArg (Value.int .u8) (by rw [<- hl];exact byte_of _ (by omega)))) ?_
  refine xl_e (e_buildSlice1 rfl fun b5 w5 n5 l5 k5=>?_)
  refine xl_e (e_append' (own_ext hown lkc) Ge.le rfl Cell1L.eq (by decide) (.inl rfl) (by omega) (by omega) fun A6 c6 w6 ho6 l6 hn6=>?_)
  refine xm ?_
  haveI:=ownN_of ho6 (Nat.le_refl _)
  refine xl_e (e_append' ho6 Ge.le (by simp [bytesC];omega) (bytesC_one _) (by decide) (row_nz (ii:Row w6 A (bytesC bs)) hl) (by omega) (by omega) fun A7 c7 w7 ho7 l7 hn7=>?_)
  refine xz ?_
  refine x_ret ?_
  refine fin1 rfl ?_
  have hfl:=framed_len bs
  refine ⟨⟨A7,c7,by rw [hfl];congr 1;omega,?_⟩,lkc⟩
  have e:(framed bs).length=4+1+n:=by rw [hfl];omega
  rw [e,framed,<- bytesC_append,<- bytesC_append,<- hs]
  exact ho7
theorem dframe_ok (e:En) (w:World) (hR:Right e):Ret Tryz.prog 57 #[.agg (enC e).toArray] w (fun v w'=>OwnBy v (frame e) w.heap.size w'/\Lk w' w NoB):=by
 have hbl:=body_len hR
 refine ret_of_x (N:=6) (l:=[.agg (enC e).toArray]) Tryz.func57 rfl rfl (Nat.le_of_ble_eq_true rfl) ?_
 refine xq ?_
 refine xl_e (e_box fun b1 w1 nb1 lb1 kb1=>?_)
 refine xz ?_
 refine xq (xl_Lb ?_)
 refine xl_call (dbody_ok e w1 hR) ?_
 rintro _ w2 ⟨⟨A2,c2,rfl,ho2⟩,lk2⟩
 haveI oN:OwnI w2 A2 _ _ _ _ _ _ _:=⟨ho2⟩
 refine xl_call (dframed_ok A2 (body e).length c2 (body e) w2 rfl (by omega)) ?_
 rintro _ w3 ⟨⟨A3,c3,rfl,ho3⟩,lk3⟩
 refine xz ?_
 refine x_ret ?_
 refine fin1 rfl ?_
 exact ⟨⟨A3,c3,rfl,own_mono ho3 Ge.le⟩,lkc⟩
theorem dframes_ok (A:Option Addr) (n c:Nat) (l:List En) (w:World) [hr0:RowB w A w (l.flatMap enC)] (hl:l.length=n) (hn:n<=1000000) (hR:∀ e∈l,Right e):Ret Tryz.prog 63 #[.slice A n c] w (fun v w'=>OwnBy v (frames l) w.heap.size w'/\Lk w' w NoB):=by
 refine ret_of_x (N:=19) (l:=[.slice A n c]) Tryz.func63 rfl rfl (Nat.le_of_ble_eq_true rfl) ?_
 refine xq (xz ?_)
 refine xq (xz ?_)
 refine x_seq (xq (xz ?_))
 refine x_block ?_
 refine x_loop (fun t τ ds w'=>ds=[]/\∃ (k:Nat) (A3:Option Addr) (c3:Nat),t=n - k/\k<=n/\w'.ownsRow w.heap.size 5 1 (.slice A3 (frames (l.take k)).length c3) (frames (l.take k)).length (bytesC (frames (l.take k)))/\Ev τ 0 (.slice A n c)/\Ev τ 3 (.slice A3 (frames (l.take k)).length c3)/\Ev τ 4 (.int .i64 (k:Int))/\Lk w' w NoB) (n) ?start ?round
 case start=>
  exact ⟨rfl,0,none,0,rfl,Nat.zero_le _,World.ownsRow_nil _ _ _ _,ii,ii,evc,lkc⟩
 case round=>
  intro m τ1 ds1 w1 hI
  obtain ⟨rfl,k,A3,c3,rfl,hk,hown,e0,e3,e4,lk⟩:=hI
  haveI:=ownN_of hown (Nat.le_refl _)
  refine x_seq (xq (xm (xm (xl_v v_len (xl_v v_lss (xl_nil ?_))))))
  refine x_if (fun c1=>?_) (fun c1=>?_)
  ·have hk1:k<l.length:=by omega
   have hRk:=hR _ (List.getElem_mem hk1)
   have hfk:=frame_len hRk
   have hfl:=frames_len (l:=l.take k) (fun e he=>hR e (List.mem_of_mem_take he))
   have hftk:(l.take k).length<=1000000:=by rw [List.length_take];omega
   have hfs:frames (l.take (k+1))=frames (l.take k)++frame l[k]:=by rw [take_snoc l k hk1,frames,List.flatMap_append];simp [frames]
   refine x_skip (x_seq (x_block (x_regionL (xm (xm (xm ?_))))))
   refine xl_v (v_indexF k (by decide) rfl (by omega) hk1) ?_
   refine xl_v (v_loadF (k:=k) (by decide) hk1) ?_
   refine xl_call (dframe_ok l[k] w1 hRk) ?_
   rintro _ w2 ⟨⟨A2,c2,rfl,ho2⟩,lk2⟩
   haveI oN:OwnI w2 A2 _ _ _ _ _ _ _:=⟨ho2⟩
   refine xl_e (e_append' (own_ext hown lkc) Ge.le (by simp [bytesC]) (bytesC_one _) (by decide) (.inl (row_some (w:=w2) (A:=A2) (cs:=bytesC (frame l[k])) ii (by simp [bytesC];omega))) (by omega) (by omega) fun A6 c6 w3 ho6 l6 hn6=>?_)
   refine xz ?_
   refine x_regionL (xm ?_)
   refine xl_v (v_add (by omega)) ?_
   refine xz ?_
   refine ⟨_,?_,rfl,k+1,A6,c6,rfl,by omega,?_,ii,evc ?_,evc,lkc⟩
   ·omega
   ·rw [hfs];exact own_cat ho6 rfl rfl
   ·rw [hfs,List.length_append]
  have hkn:k=n:=by omega
  subst hkn
  rw [List.take_of_length_le (by omega)] at hown e3
  refine x_exit (xq (xm (xz ?_)))
  refine x_ret ?_
  refine fin1 rfl ?_
  exact ⟨⟨A3,c3,rfl,hown⟩,lkc⟩
def TwoB (b mb:Nat):Nat->Prop:=fun k=>k=b\/k=mb
section
variable {b mb:Nat} {w:World}
instance subF_two1 (b mb:Nat) (w:World):SubF (OneB b) (TwoB b mb) w:=⟨fun _ _ e=>.inl e⟩
instance subF_two2 (b mb:Nat) (w:World):SubF (OneB mb) (TwoB b mb) w:=⟨fun _ _ e=>.inr e⟩
end
def rdP:Nat->St->Option St
 | 0=>rd0
 | 1=>rd1
 | 2=>rd2
 | 3=>rd3
 | 4=>rd4
 | _=>rd5
def Got (k cb bx:Nat) (w0:World) (e:En) (xs:By) (w:World):Value->World->Prop:=fun v w'=>
 v=.tuple #[]/\(∃ e' r,rdP k (e,xs)=some (e',r)/\Left w0 cb r w'/\w'.heap[bx]?=some (.cells (enC e').toArray 84 (0,0)))/\Lk w' w (TwoB cb bx)
def Given (k cb:Nat) (e:En) (xs:By) (w:World):List PanicEntry->World->Prop:=fun ch w'=>rdP k (e,xs)=none/\ch=failC 121/\Lk w' w (OneB cb)
theorem g0_ok (cb b2 b3 bx:Nat) (w0:World) (xs:By) (e:En) (w:World) (hx:w.heap[bx]?=some (.cells (enC e).toArray 84 (0,0))) (hL:Left w0 cb xs w) (hT:Taker cb b2 b3 w) (hc:w0.heap.size<=cb) (hn:xs.length<=100000000) (hne:bx≠cb) (hcx:w0.heap.size<=bx) (hh:hasB e 0=true):RetP Tryz.prog 131 #[nextV b2 b3,ptrV bx] w (Got 0 cb bx w0 e xs w) (Given 0 cb e xs w):=by
 haveI:NeB bx cb:=⟨hne⟩
 haveI kx:Blk w bx (.cells (enC e).toArray 84 (0,0)):=⟨hx⟩
 refine retP_of_x (N:=10) (l:=[nextV b2 b3,ptrV bx]) Tryz.func131 rfl rfl (Nat.le_of_ble_eq_true rfl) ?_
 refine x_regionL (xm (xm ?_))
 refine xl_callvP ((CallVP.of_ret (a:=[]) (c:=[ptrV b2,ptrV b3]) (next_ok cb b2 b3 w0 xs w hL hT hc hn))) ?hp ?_
 case hp=>
  rintro ch w' ⟨rfl,rfl,lkp⟩
  exact ⟨rfl,rfl,rfl,lkc⟩
 rintro _ w1 ⟨⟨c,l,rfl,rfl,hL2⟩,lk2⟩
 have hc256:=c.toNat_lt
 refine xl_v (v_congr (u:=.int .i64 (c.toNat:Int)) v_convert (congrArg (Value.int .i64) (wrap_in (by omega) (by omega)))) ?_
 refine xl_Nc ?_
 refine xl_Fb ?_
 refine xl_s (e_store fun w2 l2 k2=>?_)
 refine xl_nil ?_
 refine finP0 rfl ?_
 exact ⟨rfl,⟨_,l,rfl,hL2.ext (S:=OneB bx) (w':=w2) kpc (fun k hk=>by have e':k=bx:=hk;omega) (fun e'=>hne (Eq.symm e')),Blk.eq⟩,lkc⟩
theorem g1_ok (cb b2 b3 bx:Nat) (w0:World) (xs:By) (e:En) (w:World) (hx:w.heap[bx]?=some (.cells (enC e).toArray 84 (0,0))) (hL:Left w0 cb xs w) (hT:Taker cb b2 b3 w) (hc:w0.heap.size<=cb) (hn:xs.length<=100000000) (hne:bx≠cb) (hcx:w0.heap.size<=bx) (hh:hasB e 1=true):RetP Tryz.prog 134 #[nextV b2 b3,ptrV bx] w (Got 1 cb bx w0 e xs w) (Given 1 cb e xs w):=by
 haveI:NeB bx cb:=⟨hne⟩
 haveI kx:Blk w bx (.cells (enC e).toArray 84 (0,0)):=⟨hx⟩
 refine retP_of_x (N:=9) (l:=[nextV b2 b3,ptrV bx]) Tryz.func134 rfl rfl (Nat.le_of_ble_eq_true rfl) ?_
 refine x_regionL (xm (xm ?_))
 refine xl_callP (take_ok cb b2 b3 w0 xs w hL hT hc hn) ?hp ?_
 case hp=>
  rintro ch w' ⟨htk,rfl,lkp⟩
  exact ⟨rfl,by show rd1 (e,xs)=_;unfold rd1;simp [htk],rfl,lkc⟩
 rintro _ w1 ⟨⟨n,r,htk,rfl,hL2⟩,lk2⟩
 have hk:rdP 1 (e,xs)=some ({ e with epoch:=n },r):=by show rd1 (e,xs)=_;unfold rd1;simp [htk]
 refine xl_Nc ?_
 refine xl_Fb ?_
 refine xl_s (e_store fun w2 l2 k2=>?_)
 refine xl_nil ?_
 refine finP0 rfl ?_
 exact ⟨rfl,⟨_,r,hk,hL2.ext (S:=OneB bx) (w':=w2) kpc (fun k hk=>by have e':k=bx:=hk;omega) (fun e'=>hne (Eq.symm e')),Blk.eq⟩,lkc⟩
theorem g2_ok (cb b2 b3 bx:Nat) (w0:World) (xs:By) (e:En) (w:World) (hx:w.heap[bx]?=some (.cells (enC e).toArray 84 (0,0))) (hL:Left w0 cb xs w) (hT:Taker cb b2 b3 w) (hc:w0.heap.size<=cb) (hn:xs.length<=100000000) (hne:bx≠cb) (hcx:w0.heap.size<=bx) (hh:hasB e 2=true):RetP Tryz.prog 137 #[nextV b2 b3,ptrV bx] w (Got 2 cb bx w0 e xs w) (Given 2 cb e xs w):=by
 haveI:NeB bx cb:=⟨hne⟩
 haveI kx:Blk w bx (.cells (enC e).toArray 84 (0,0)):=⟨hx⟩
 refine retP_of_x (N:=11) (l:=[nextV b2 b3,ptrV bx]) Tryz.func137 rfl rfl (Nat.le_of_ble_eq_true rfl) ?_
 refine x_regionL (xm (xm ?_))
 refine xl_callvP ((CallVP.of_ret (a:=[]) (c:=[ptrV b2,ptrV b3]) (next_ok cb b2 b3 w0 xs w hL hT hc hn))) ?hp ?_
 case hp=>
  rintro ch w' ⟨rfl,rfl,lkp⟩
  exact ⟨rfl,rfl,rfl,lkc⟩
 rintro _ w1 ⟨⟨c,l,rfl,rfl,hL2⟩,lk2⟩
 have hc256:=c.toNat_lt
 refine xl_v (v_congr (u:=.int .i64 (c.toNat:Int)) v_convert (congrArg (Value.int .i64) (wrap_in (by omega) (by omega)))) ?_
 refine xl_v (v_sub (by omega)) ?_
 refine xl_Nc ?_
 refine xl_Fb ?_
 refine xl_s (e_store fun w2 l2 k2=>?_)
 refine xl_nil ?_
 refine finP0 rfl ?_
 exact ⟨rfl,⟨_,l,rfl,hL2.ext (S:=OneB bx) (w':=w2) kpc (fun k hk=>by have e':k=bx:=hk;omega) (fun e'=>hne (Eq.symm e')),Blk.eq⟩,lkc⟩
theorem g3_ok (cb b2 b3 bx:Nat) (w0:World) (xs:By) (e:En) (w:World) (hx:w.heap[bx]?=some (.cells (enC e).toArray 84 (0,0))) (hL:Left w0 cb xs w) (hT:Taker cb b2 b3 w) (hc:w0.heap.size<=cb) (hn:xs.length<=100000000) (hne:bx≠cb) (hcx:w0.heap.size<=bx) (hh:hasB e 3=true):RetP Tryz.prog 139 #[nextV b2 b3,ptrV bx] w (Got 3 cb bx w0 e xs w) (Given 3 cb e xs w):=by
 haveI:NeB bx cb:=⟨hne⟩
 haveI kx:Blk w bx (.cells (enC e).toArray 84 (0,0)):=⟨hx⟩
 refine retP_of_x (N:=9) (l:=[nextV b2 b3,ptrV bx]) Tryz.func139 rfl rfl (Nat.le_of_ble_eq_true rfl) ?_
 refine x_regionL (xm (xm ?_))
 refine xl_callP (take_ok cb b2 b3 w0 xs w hL hT hc hn) ?hp ?_
 case hp=>
  rintro ch w' ⟨htk,rfl,lkp⟩
  exact ⟨rfl,by show rd3 (e,xs)=_;unfold rd3;rw [if_pos (by simpa [hasB] using hh)];simp [htk],rfl,lkc⟩
 rintro _ w1 ⟨⟨n,r,htk,rfl,hL2⟩,lk2⟩
 have hk:rdP 3 (e,xs)=some ({ e with num:=n },r):=by show rd3 (e,xs)=_;unfold rd3;rw [if_pos (by simpa [hasB] using hh)];simp [htk]
 refine xl_Nc ?_
 refine xl_Fb ?_
 refine xl_s (e_store fun w2 l2 k2=>?_)
 refine xl_nil ?_
 refine finP0 rfl ?_
 exact ⟨rfl,⟨_,r,hk,hL2.ext (S:=OneB bx) (w':=w2) kpc (fun k hk=>by have e':k=bx:=hk;omega) (fun e'=>hne (Eq.symm e')),Blk.eq⟩,lkc⟩
theorem g4_ok (cb b2 b3 bx:Nat) (w0:World) (xs:By) (e:En) (w:World) (hx:w.heap[bx]?=some (.cells (enC e).toArray 84 (0,0))) (hL:Left w0 cb xs w) (hT:Taker cb b2 b3 w) (hc:w0.heap.size<=cb) (hn:xs.length<=100000000) (hne:bx≠cb) (hcx:w0.heap.size<=bx) (hh:hasB e 4=true):RetP Tryz.prog 142 #[nextV b2 b3,ptrV bx] w (Got 4 cb bx w0 e xs w) (Given 4 cb e xs w):=by
 haveI:NeB bx cb:=⟨hne⟩
 haveI kx:Blk w bx (.cells (enC e).toArray 84 (0,0)):=⟨hx⟩
 refine retP_of_x (N:=9) (l:=[nextV b2 b3,ptrV bx]) Tryz.func142 rfl rfl (Nat.le_of_ble_eq_true rfl) ?_
 refine x_regionL (xm (xm ?_))
 refine xl_callP (take_ok cb b2 b3 w0 xs w hL hT hc hn) ?hp ?_
 case hp=>
  rintro ch w' ⟨htk,rfl,lkp⟩
  exact ⟨rfl,by show rd4 (e,xs)=_;unfold rd4;rw [if_pos (by simpa [hasB] using hh)];simp [htk],rfl,lkc⟩
 rintro _ w1 ⟨⟨n,r,htk,rfl,hL2⟩,lk2⟩
 have hk:rdP 4 (e,xs)=some ({ e with seq:=n },r):=by show rd4 (e,xs)=_;unfold rd4;rw [if_pos (by simpa [hasB] using hh)];simp [htk]
 refine xl_Nc ?_
 refine xl_Fb ?_
 refine xl_s (e_store fun w2 l2 k2=>?_)
 refine xl_nil ?_
 refine finP0 rfl ?_
 exact ⟨rfl,⟨_,r,hk,hL2.ext (S:=OneB bx) (w':=w2) kpc (fun k hk=>by have e':k=bx:=hk;omega) (fun e'=>hne (Eq.symm e')),Blk.eq⟩,lkc⟩
theorem g5_ok (cb b2 b3 bx:Nat) (w0:World) (xs:By) (e:En) (w:World) (hx:w.heap[bx]?=some (.cells (enC e).toArray 84 (0,0))) (hL:Left w0 cb xs w) (hT:Taker cb b2 b3 w) (hc:w0.heap.size<=cb) (hn:xs.length<=100000000) (hne:bx≠cb) (hcx:w0.heap.size<=bx) (hh:hasB e 5=true):RetP Tryz.prog 145 #[nextV b2 b3,ptrV bx] w (Got 5 cb bx w0 e xs w) (Given 5 cb e xs w):=by
 haveI:NeB bx cb:=⟨hne⟩
 haveI kx:Blk w bx (.cells (enC e).toArray 84 (0,0)):=⟨hx⟩
 refine retP_of_x (N:=10) (l:=[nextV b2 b3,ptrV bx]) Tryz.func145 rfl rfl (Nat.le_of_ble_eq_true rfl) ?_
 refine x_regionL (xm (xm ?_))
 refine xl_callP (take_ok cb b2 b3 w0 xs w hL hT hc hn) ?hp ?_
 case hp=>
  rintro ch w' ⟨htk,rfl,lkp⟩
  exact ⟨rfl,by show rd5 (e,xs)=_;unfold rd5;rw [if_pos (by simpa [hasB] using hh)];simp [htk],rfl,lkc⟩
 rintro _ w1 ⟨⟨n,r,htk,rfl,hL2⟩,lk2⟩
 have hk:rdP 5 (e,xs)=some ({ e with val:=unz n },r):=by show rd5 (e,xs)=_;unfold rd5;rw [if_pos (by simpa [hasB] using hh)];simp [htk]
 refine xl_call (unsigned_ok n w1 (num_take0 htk).2) ?_
 rintro _ _ ⟨rfl,rfl⟩
 refine xl_Nc ?_
 refine xl_Fb ?_
 refine xl_s (e_store fun w3 l3 k3=>?_)
 refine xl_nil ?_
 refine finP0 rfl ?_
 exact ⟨rfl,⟨_,r,hk,hL2.ext (S:=OneB bx) (w':=w3) kpc (fun k hk=>by have e':k=bx:=hk;omega) (fun e'=>hne (Eq.symm e')),Blk.eq⟩,lkc⟩
theorem rd_ok (cb b2 b3 bx k:Nat) (w0:World) (xs:By) (e:En) (w:World) (hx:w.heap[bx]?=some (.cells (enC e).toArray 84 (0,0))) (hL:Left w0 cb xs w) (hT:Taker cb b2 b3 w) (hc:w0.heap.size<=cb) (hn:xs.length<=100000000) (hne:bx≠cb) (hcx:w0.heap.size<=bx) (hk:k<6) (hh:hasB e k=true) :
    CallVP Tryz.prog (rdV k) [nextV b2 b3,ptrV bx] w (Got k cb bx w0 e xs w) (Given k cb e xs w):=by
 match k,hk with
 | 0,_=>exact CallVP.of_ret (a:=[]) (c:=[]) (g0_ok cb b2 b3 bx w0 xs e w hx hL hT hc hn hne hcx hh)
 | 1,_=>exact CallVP.of_ret (a:=[]) (c:=[]) (g1_ok cb b2 b3 bx w0 xs e w hx hL hT hc hn hne hcx hh)
 | 2,_=>exact CallVP.of_ret (a:=[]) (c:=[]) (g2_ok cb b2 b3 bx w0 xs e w hx hL hT hc hn hne hcx hh)
 | 3,_=>exact CallVP.of_ret (a:=[]) (c:=[]) (g3_ok cb b2 b3 bx w0 xs e w hx hL hT hc hn hne hcx hh)
 | 4,_=>exact CallVP.of_ret (a:=[]) (c:=[]) (g4_ok cb b2 b3 bx w0 xs e w hx hL hT hc hn hne hcx hh)
 | 5,_=>exact CallVP.of_ret (a:=[]) (c:=[]) (g5_ok cb b2 b3 bx w0 xs e w hx hL hT hc hn hne hcx hh)
instance csput6 (cs:Array Value) (a b c d e f:Value) [h:Siz cs 6]:CsPut cs 0 [a,b,c,d,e,f] #[a,b,c,d,e,f]:=csput_whole h.eq
abbrev clearV (b2 b3:Nat):Value:=.func (.func 156) ([]:List Value).toArray [ptrV b2,ptrV b3].toArray
def Three (a b c:Nat):Nat->Prop:=fun k=>k=a\/k=b\/k=c
instance subF_three1 (a b c:Nat) (w:World):SubF (TwoB a b) (Three a b c) w:=⟨fun _ _ e=>e.elim .inl (fun e=>.inr (.inl e))⟩
instance subF_three2 (a b c:Nat) (w:World):SubF (OneB c) (Three a b c) w:=⟨fun _ _ e=>.inr (.inr e)⟩
theorem clear_ok (b2 b3:Nat) (w:World) (cs:List Value) (n:Int) [Siz cs.toArray 6] [k2:Blk w b2 (.cells cs.toArray 84 (0,0))] [k3:Blk w b3 (.cells #[.int .i64 n] 3 (0,0))] (h23:b2≠b3):Ret Tryz.prog 156 #[ptrV b2,ptrV b3] w (fun v w'=>v=.tuple #[]/\w'.heap[b2]?=some (.cells (enC En.zero).toArray 84 (0,0))/\w'.heap[b3]?=some (.cells #[.int .i64 0] 3 (0,0))/\Lk w' w (TwoB b2 b3)):=by
 haveI:NeB b2 b3:=⟨h23⟩
 haveI:NeB b3 b2:=⟨fun e=>h23 e.symm⟩
 refine ret_of_x (N:=3) (l:=[ptrV b2,ptrV b3]) Tryz.func156 rfl rfl (Nat.le_of_ble_eq_true rfl) ?_
 refine x_regionL (xl_v v_build ?_)
 refine xl_s (e_storeA fun w1 l1 k1=>?_)
 refine xl_s (e_store fun w2 l2 k2=>?_)
 refine xl_nil ?_
 refine fin0 rfl ?_
 exact ⟨rfl,(ii:Blk w2 b2 (.cells #[.int .i64 0,.int .i64 0,.int .i64 0,.int .i64 0,.int .i64 0,.int .i64 0] 84 (0,0))).eq,Blk.eq,lkc⟩
theorem caught_pan (b2 b3 b4:Nat) (no:Int) (w:World) (e:En) (n y:Int) [q2:Blk w b2 (.cells (enC e).toArray 84 (0,0))] [q3:Blk w b3 (.cells #[.int .i64 n] 3 (0,0))] [q4:Blk w b4 (.cells #[.int .i64 y] 25 (0,0))] (h23:b2≠b3) (h24:b2≠b4) (h34:b3≠b4):CallsDIn (FX none) 0 Tryz.prog 155 #[ptrV b4,clearV b2 b3] (.panicking (failC no)) w (fun e u'' w'=>e=.returned (.tuple #[])/\u''=.panicking [{ v:=.iface 227 (.agg #[.int .i64 no]),recovered:=true }]/\(fun w'=>w'.heap[b2]?=some (.cells (enC En.zero).toArray 84 (0,0))/\w'.heap[b3]?=some (.cells #[.int .i64 0] 3 (0,0))/\w'.heap[b4]?=some (.cells #[.int .i64 no] 25 (0,0))/\Lk w' w (Three b2 b3 b4)) w'):=by
 haveI:NeB b4 b3:=⟨fun e=>h34 e.symm⟩
 haveI:NeB b4 b2:=⟨fun e=>h24 e.symm⟩
 haveI:NeB b2 b4:=⟨h24⟩
 haveI:NeB b3 b4:=⟨h34⟩
 refine deferred_of_x (N:=19) (l:=[ptrV b4,clearV b2 b3]) (R:=fun w'=>w'.heap[b2]?=some (.cells (enC En.zero).toArray 84 (0,0))/\w'.heap[b3]?=some (.cells #[.int .i64 0] 3 (0,0))/\w'.heap[b4]?=some (.cells #[.int .i64 no] 25 (0,0))/\Lk w' w (Three b2 b3 b4)) Tryz.func155 rfl rfl rfl (Nat.le_of_ble_eq_true rfl) (.panics _ _) ?_
 refine x_block (xq ?_)
 refine xl_v (v_eql_ifaceS) ?_
 refine xl_nil ?_
 refine x_condF ?_
 refine xq ?_
 refine xl_v (v_typeAssertC (by kernel_rfl)) ?_
 refine xl_v v_extract (xl_v v_extract (xl_nil ?_))
 refine x_condT ?_
 refine xq ?_
 refine xl_e (e_alloc fun bx w1 nx lx kx=>?_)
 refine xl_s (e_storeA fun w2 l2 k2=>?_)
 refine xl_nil ?_
 refine xq (xm ?_)
 haveI:NotS (TwoB b2 b3) bx:=⟨fun e=>by
  have h1:=(Array.getElem?_eq_some_iff.1 q2.eq).1
  have h2:=(Array.getElem?_eq_some_iff.1 q3.eq).1
  have h3:=nx.eq
  rcases e with e | e<;>omega⟩
 refine xl_callv ((CallV.of_ret (a:=[]) (c:=[ptrV b2,ptrV b3]) (clear_ok b2 b3 w2 _ _ h23))) ?_
 rintro _ w3 ⟨rfl,h2',h3',lk7⟩
 haveI k2':Blk w3 b2 (.cells (enC En.zero).toArray 84 (0,0)):=⟨h2'⟩
 haveI k3':Blk w3 b3 (.cells #[.int .i64 0] 3 (0,0)):=⟨h3'⟩
 haveI:NotS (TwoB b2 b3) b4:=⟨fun e=>e.elim (fun e=>h24 e.symm) (fun e=>h34 e.symm)⟩
 refine xl_nil ?_
 refine x_regionL (xm (xl_Fb ?_))
 refine xl_Lc ?_
 refine xl_Nc ?_
 refine xl_s (e_store fun w4 l4 k4=>?_)
 refine xl_nil ?_
 exact ⟨rfl,Blk.eq,Blk.eq,Blk.eq,lkc⟩
theorem caught_idle (b2 b3 b4:Nat) (w:World):CallsDIn (FX none) 0 Tryz.prog 155 #[ptrV b4,clearV b2 b3] (.returning) w (fun e u'' w'=>e=.returned (.tuple #[])/\u''=.returning/\(fun w'=>w=w') w'):=by
 refine deferred_of_x (N:=19) (l:=[ptrV b4,clearV b2 b3]) (R:=fun w'=>w=w') Tryz.func155 rfl rfl rfl (Nat.le_of_ble_eq_true rfl) (.returns) ?_
 refine x_block (xq ?_)
 refine xl_v (v_eql_ifaceN) ?_
 refine xl_nil ?_
 refine x_condT ?_
 refine x_regionL (xz ?_)
 exact ⟨rfl,rfl⟩
open Go in
theorem leave_one {P:Program} {N:Nat} {fn:Func} {τ:Tau} {a:Act} {ds:List Deferred} {f:FuncId} {c args as2:List Value} {u u1:FrameMode} {w:World} {R:Value->World->Prop} {R1:World->Prop} {rs:List ResultVar} {vs:List Value} [hf:Fun P f] [h1:App args c as2]
    (hc:CallsDIn (FX none) 0 P f as2.toArray u w (fun e u'' w'=>e=.returned (.tuple #[])/\u''=u1/\R1 w')) (hu:u≠.run) (hs:settle u1=.returning) (hr:fn.results=rs.toArray) (ha:Rel N τ ds a)
    (h:∀ w',R1 w'->RsV P N τ w' rs vs/\R (outV vs) w'):LeavesInM (FX none) 0 P fn a.tmps (fun e w'=>∃ v,e=.returned v/\R v w') [{ target:=.fn (.func f) c.toArray,args:=args.toArray }] u w:=by
 refine ⟨hu,.inr ⟨fun h=>by simp [FX] at h,.func f,c.toArray,f,as2.toArray,rfl,?_,fun _ _=>trivial,?_⟩⟩
 ·obtain ⟨fn',cc,hfn,hnm,hb⟩:=hf.ex
  have e:args.toArray++c.toArray=as2.toArray:=by rw [<- h1.eq];simp
  simp only [invoke,callFunc,program,Sem.run_bind,Sem.run,hfn,hnm,hb,Sem.run_pure,Result.andThen_ok,beq_iff_eq,if_false,Option.isNone_some,Bool.false_eq_true,e]
 ·refine CallsDIn.mono hc ?_
  rintro e u'' w' ⟨rfl,rfl,hR⟩
  obtain ⟨h3,h4⟩:=h w' hR
  show LeavesInM (FX none) 0 P fn a.tmps _ [] (settle u'') w'
  rw [hs]
  exact ⟨_,run_results hr h3 a.tmps (fun t ht=>ha.get t ht),_,rfl,h4⟩
def stepsTo (xs:By) (j:Nat):Option St:=(List.range j).foldl (fun s k=>s.bind (rdP k)) (some (En.zero,xs))
theorem stepsTo_succ (xs:By) (j:Nat):stepsTo xs (j+1)=(stepsTo xs j).bind (rdP j):=by
 unfold stepsTo
 rw [List.range_succ,List.foldl_append]
 rfl
theorem stepsTo_none {xs:By} {j:Nat} (h:stepsTo xs j=none) (d:Nat):stepsTo xs (j+d)=none:=by
 induction d with
 | zero=>exact h
 | succ d ih=>rw [<- Nat.add_assoc,stepsTo_succ,ih];rfl
theorem parse_steps (xs:By):parse xs=match stepsTo xs 6 with | some (e,[])=>if Right e then some e else none | _=>none:=by
 have h:List.range 6=[0,1,2,3,4,5]:=rfl
 unfold parse stepsTo
 rw [h]
 rfl
theorem rdP_no {e:En} {k:Nat} (h:hasB e k=false) (hk:k<6) (r:By):rdP k (e,r)=some (e,r):=by
 match k,hk with
 | 0,_=>cases h
 | 1,_=>cases h
 | 2,_=>cases h
 | 3,_=>exact rd3_no (by simpa [hasB] using h) r
 | 4,_=>exact rd4_no (by simpa [hasB] using h) r
 | 5,_=>exact rd5_no (by simpa [hasB] using h) r
theorem rdP_len {k:Nat} {e e':En} {xs r:By} (h:rdP k (e,xs)=some (e',r)) (hk:k<6):r.length<=xs.length:=by
 have ht:∀ {n:Nat} {q:By},takeB 0 0 xs=some (n,q)->q.length<=xs.length:=fun hh=>by
  obtain ⟨h1,_⟩:=num_take0 hh
  rw [h1];simp
 match k,hk with
 | 0,_=>cases xs with
   | nil=>cases h
   | cons c l=>simp only [rdP,rd0,Option.some.injEq,Prod.mk.injEq] at h;rw [<- h.2];simp
 | 1,_=>
   simp only [rdP,rd1,Option.map_eq_some_iff,Prod.mk.injEq] at h
   obtain ⟨p,hp,_,rfl⟩:=h
   exact ht (n:=p.1) (q:=p.2) hp
 | 2,_=>cases xs with
   | nil=>cases h
   | cons c l=>simp only [rdP,rd2,Option.some.injEq,Prod.mk.injEq] at h;rw [<- h.2];simp
 | 3,_=>
   simp only [rdP,rd3] at h
   split at h
   ·simp only [Option.map_eq_some_iff,Prod.mk.injEq] at h
    obtain ⟨p,hp,_,rfl⟩:=h
    exact ht (n:=p.1) (q:=p.2) hp
   ·simp only [Option.some.injEq,Prod.mk.injEq] at h;rw [<- h.2];exact Nat.le_refl _
 | 4,_=>
   simp only [rdP,rd4] at h
   split at h
   ·simp only [Option.map_eq_some_iff,Prod.mk.injEq] at h
    obtain ⟨p,hp,_,rfl⟩:=h
    exact ht (n:=p.1) (q:=p.2) hp
   ·simp only [Option.some.injEq,Prod.mk.injEq] at h;rw [<- h.2];exact Nat.le_refl _
 | 5,_=>
   simp only [rdP,rd5] at h
   split at h
   ·simp only [Option.map_eq_some_iff,Prod.mk.injEq] at h
    obtain ⟨p,hp,_,rfl⟩:=h
    exact ht (n:=p.1) (q:=p.2) hp
   ·simp only [Option.some.injEq,Prod.mk.injEq] at h;rw [<- h.2];exact Nat.le_refl _
theorem framed_iff {bs:By} {m:Nat} (h:5+m<=bs.length) (hm:m=(bs.getD 4 0).toNat):le4 (sumW ((bs.drop 5).take m))=bs.take 4↔framed ((bs.drop 5).take m)=bs.take (5+m):=by
 have hlen:((bs.drop 5).take m).length=m:=by simp;omega
 have h4:4<bs.length:=by omega
 have h256:=(bs.getD 4 0).toNat_lt
 have e1:bs.take (5+m)=bs.take 4++([UInt8.ofNat m]++(bs.drop 5).take m):=by
  have e2:bs.drop 4=bs[4] :: bs.drop 5:=List.drop_eq_getElem_cons h4
  have e3:UInt8.ofNat m=bs[4]:=by
   rw [hm,List.getD_eq_getElem?_getD,List.getElem?_eq_getElem h4];simp
  rw [show 5+m=4+(m+1) by omega,List.take_add,e2,List.take_succ_cons,e3];rfl
 unfold framed
 rw [hlen,e1,List.append_assoc]
 constructor
 ·intro h;rw [h]
 ·intro h;exact (List.append_inj h (by simp [le4];omega)).1
abbrev readD (b2 b3 b4:Nat):Deferred:={ target:=.fn (.func 155) ([]:List Value).toArray,args:=[ptrV b4,clearV b2 b3].toArray }
def ReadR (bs:By) (w:World):Value->World->Prop:=fun v w'=>v=.tuple #[.agg (enC (readF bs).1).toArray,.int .i64 ((readF bs).2.1:Int),.int .i64 (readF bs).2.2]/\Lk w' w NoB
theorem three_no {b2 b3 b4:Nat} {w w1 w2:World} (lk:Lk w1 w NoB) (k:Lk w2 w1 (Three b2 b3 b4)) (hg2:w.heap.size<=b2) (hg3:w.heap.size<=b3) (hg4:w.heap.size<=b4):Lk w2 w NoB:=
 ⟨lk.keep.then k.keep (fun j hj e=>by rcases e with e | e | e<;>omega)⟩
theorem read_pan (bs:By) (b2 b3 b4:Nat) (no:Int) (e:En) (n y:Int) {τ:Tau} (w w1:World) [e2:Ev τ 2 (ptrV b2)] [e3:Ev τ 3 (ptrV b3)] [e4:Ev τ 4 (ptrV b4)]
    [q2:Blk w1 b2 (.cells (enC e).toArray 84 (0,0))] [q3:Blk w1 b3 (.cells #[.int .i64 n] 3 (0,0))] [q4:Blk w1 b4 (.cells #[.int .i64 y] 25 (0,0))]
    (h23:b2≠b3) (h24:b2≠b4) (h34:b3≠b4) (hg2:w.heap.size<=b2) (hg3:w.heap.size<=b3) (hg4:w.heap.size<=b4) (lk:Lk w1 w NoB) (hR:readF bs=(En.zero,0,no)) :
    bodyQD Tryz.prog Tryz.f126 76 (ReadR bs w) (.panic (failC no)) τ [readD b2 b3 b4] w1:=by
 intro a ha
 refine leave_one (rs:=[.cell 2 84,.cell 3 3,.cell 4 25]) (vs:=[.agg (enC En.zero).toArray,.int .i64 0,.int .i64 no]) (caught_pan b2 b3 b4 no w1 e n y h23 h24 h34) (by simp) rfl rfl ha ?_
 rintro w2 ⟨h2,h3,h4,lk2⟩
 haveI:Blk w2 b2 (.cells (enC En.zero).toArray 84 (0,0)):=⟨h2⟩
 haveI:Blk w2 b3 (.cells #[.int .i64 0] 3 (0,0)):=⟨h3⟩
 haveI:Blk w2 b4 (.cells #[.int .i64 no] 25 (0,0)):=⟨h4⟩
 exact ⟨ii,by rw [hR];rfl,three_no lk lk2 hg2 hg3 hg4⟩
theorem read_ret (bs:By) (b2 b3 b4:Nat) (e:En) (n:Nat) {τ:Tau} (w w1:World) [e2:Ev τ 2 (ptrV b2)] [e3:Ev τ 3 (ptrV b3)] [e4:Ev τ 4 (ptrV b4)]
    [q2:Blk w1 b2 (.cells (enC e).toArray 84 (0,0))] [q3:Blk w1 b3 (.cells #[.int .i64 n] 3 (0,0))] [q4:Blk w1 b4 (.cells #[.int .i64 0] 25 (0,0))]
    (lk:Lk w1 w NoB) (hR:readF bs=(e,n,0)) :
    bodyQD Tryz.prog Tryz.f126 76 (ReadR bs w) .ret τ [readD b2 b3 b4] w1:=by
 intro a ha
 refine leave_one (rs:=[.cell 2 84,.cell 3 3,.cell 4 25]) (vs:=[.agg (enC e).toArray,.int .i64 n,.int .i64 0]) (caught_idle b2 b3 b4 w1) (by simp) rfl rfl ha ?_
 rintro w2 rfl
 exact ⟨ii,by rw [hR];rfl,lk⟩
theorem open2_ok (A:Option Addr) (n c:Nat) (bs:List UInt8) (w:World) [hr:Row w A (bytesC bs)] (hl:bs.length=n) (h4:4<=n) (hn:n<=100000000) (hc:n<=c) :
    Ret Tryz.prog 158 #[.slice A n c] w (fun v w'=>(∃ A' n' c',v=.tuple #[.slice A' n' c',.int .i64 (if le4 (sumW (bs.take (n - 4)))=bs.drop (n - 4) then 0 else 110)])/\Lk w' w NoB):=
 (open_ok A n c bs w hl h4 hn hc).mono (fun v w' h=>⟨by
   have h1:=h.1
   split at h1
   ·next hh=>obtain ⟨A',c',rfl⟩:=h1;exact ⟨_,_,_,by rw [if_pos hh]⟩
   ·next hh=>exact ⟨_,_,_,by rw [if_neg hh];exact h1⟩,h.2⟩)
set_option maxHeartbeats 2000000 in
theorem wread_ok (A:Option Addr) (n c:Nat) (bs:By) (w:World) [hr0:Row w A (bytesC bs)] (hl:bs.length=n) (hn:n<=100000000) (hc:n<=c):Ret Tryz.prog 126 #[.slice A n c] w (ReadR bs w):=by
 haveI hr:RowB w A w (bytesC bs):=rowB_of hr0.row
 refine retD_of_x (N:=76) (l:=[.slice A n c]) Tryz.func126 rfl rfl (Nat.le_of_ble_eq_true rfl) ?_
 refine xq ?_
 refine xl_e (e_alloc fun b2 w1 n2 l2 q2=>?_)
 refine xl_e (e_alloc fun b3 w2 n3 l3 q3=>?_)
 have hlt23:b2<b3:=by have h1:=n3.eq;have h2:=(Array.getElem?_eq_some_iff.1 q2.eq).1;omega
 refine xl_e (e_alloc fun b4 w3 n4 l4 q4=>?_)
 have hlt34:b3<b4:=by have h1:=n4.eq;have h2:=(Array.getElem?_eq_some_iff.1 q3.eq).1;omega
 refine xl_nil ?_
 refine xq (xl_v v_makeFunc ?_)
 refine xl_defer ?_
 refine xl_nil ?_
 refine x_seq ?_
 have hg2:w.heap.size<=b2:=Nat.le_of_eq n2.eq.symm
 have hg3:w.heap.size<=b3:=by omega
 have hg4:w.heap.size<=b4:=by omega
 have h23:b2≠b3:=by omega
 have h24:b2≠b4:=by omega
 have h34:b3≠b4:=by omega
 refine x_regionL (xm (xl_v v_len (xl_v v_geq ?_)))
 refine xl_callP (must_ok _ 120 w3) ?hp ?_
 case hp=>
  rintro ch w' ⟨rfl,rfl,hd2⟩
  have hd2':=of_decide_eq_false hd2
  exact read_pan bs b2 b3 b4 120 En.zero 0 0 w _ h23 h24 h34 hg2 hg3 hg4 lkc (by unfold readF;rw [if_pos (by omega)])
 rintro _ _ ⟨rfl,rfl,hd2⟩
 refine xl_nil ?_
 refine x_seq ?_
 have hd2':=of_decide_eq_true hd2
 have h4:4<bs.length:=by omega
 obtain ⟨m,hm⟩:∃ m,m=(bs.getD 4 0).toNat:=⟨_,rfl⟩
 have hm':m=bs[4].toNat:=by rw [hm,List.getD_eq_getElem?_getD,List.getElem?_eq_getElem h4];rfl
 have hm256:=(bs[4]).toNat_lt
 refine x_regionL (xm ?_)
 refine xl_v (v_indexO 4 rfl (by omega) h4) ?_
 refine xl_v (v_loadO (k:=4) h4) ?_
 refine xl_v (v_congr (u:=.int .i64 (m:Int)) v_convert (congrArg (Value.int .i64) (by rw [hm'];exact wrap_in (by omega) (by omega)))) ?_
 refine xz ?_
 refine x_cut (fun τ ds w'=>ds=[readD b2 b3 b4]/\(1<=m/\m<=35)/\w'=w3/\Ev τ 0 (.slice A n c)/\Ev τ 2 (ptrV b2)/\Ev τ 3 (ptrV b3)/\Ev τ 4 (ptrV b4)/\Ev τ 5 (.int .i64 (m:Int))) ?_ ?_
 ·refine x_regionL (xm (xl_v v_leq (xm ?_)))
  refine xl_split 23 (fun g23=>?_) (fun g23=>?_)
  ·have g4:=of_decide_eq_true g23
   refine xl_gv rfl EvO.eq v_move (xl_gv rfl EvO.eq v_leq (xl_Pk ?_))
   refine xl_callP (must_ok _ 121 w3) ?hp ?_
   case hp=>
    rintro ch w' ⟨rfl,rfl,hd4⟩
    have hbad:m=0\/35<m:=by first | omega | (have:=of_decide_eq_false hd4;omega)
    exact read_pan bs b2 b3 b4 121 En.zero 0 0 w _ h23 h24 h34 hg2 hg3 hg4 lkc (by unfold readF;rw [if_neg (by omega)];simp only [<- hm];rw [if_pos hbad])
   rintro _ _ ⟨rfl,rfl,hd4⟩
   refine xl_nil ?_
   exact ⟨rfl,by first | exact absurd hd4 (by decide) | (have:=of_decide_eq_true hd4;omega),rfl,ii,ii,ii,ii,ii⟩
  have g4:=of_decide_eq_false g23
  refine xl_gs rfl EvO.eq (xl_gs rfl EvO.eq (xl_Pk ?_))
  refine xl_callP (must_ok _ 121 w3) ?hp ?_
  case hp=>
   rintro ch w' ⟨rfl,rfl,hd4⟩
   have hbad:m=0\/35<m:=by first | omega | (have:=of_decide_eq_false hd4;omega)
   exact read_pan bs b2 b3 b4 121 En.zero 0 0 w _ h23 h24 h34 hg2 hg3 hg4 lkc (by unfold readF;rw [if_neg (by omega)];simp only [<- hm];rw [if_pos hbad])
  rintro _ _ ⟨rfl,rfl,hd4⟩
  refine xl_nil ?_
  exact ⟨rfl,by first | exact absurd hd4 (by decide) | (have:=of_decide_eq_true hd4;omega),rfl,ii,ii,ii,ii,ii⟩
 intro τ7 ds7 w7 hI
 obtain ⟨rfl,hm35,hw',e0,e2,e3,e4,e5⟩:=hI
 subst hw'
 refine xq (xm (xl_v v_len (xm ?_)))
 refine xl_v (v_add (by omega)) ?_
 refine xl_v v_geq ?_
 refine xl_callP (must_ok _ 120 w7) ?hp ?_
 case hp=>
  rintro ch w' ⟨rfl,rfl,hd5⟩
  have hd5':=of_decide_eq_false hd5
  exact read_pan bs b2 b3 b4 120 En.zero 0 0 w _ h23 h24 h34 hg2 hg3 hg4 lkc (by unfold readF;rw [if_neg (by omega)];simp only [<- hm];rw [if_neg (by omega),if_pos (by omega)])
 rintro _ _ ⟨rfl,rfl,hd5⟩
 refine xl_nil ?_
 refine x_seq ?_
 have hd5':=of_decide_eq_true hd5
 obtain ⟨xs,hxs⟩:∃ xs,xs=(bs.drop 5).take m:=⟨_,rfl⟩
 have hxl:xs.length=m:=by rw [hxs];simp;omega
 obtain ⟨Ab,hAb⟩:∃ Ab,Ab=(if c=5 then A else A.map (·.add (5*1))):=⟨_,rfl⟩
 have hrb:RowB w Ab w (bytesC xs):=rowB_of (by rw [hxs,hAb];exact brow_take (brow_drop hr.row (by omega)) m)
 have hrt:RowB w A w (bytesC (bs.take 4)):=rowB_of (brow_take hr.row 4)
 refine x_regionL (xm (xm ?_))
 refine xl_v (v_add (by omega)) ?_
 refine xl_v (v_congr (u:=.slice Ab xs.length (c - 5)) (v_sliceLH 5 (5+m) rfl (by omega) (by omega) (by omega)) (by rw [hAb,hxl,Nat.add_sub_cancel_left])) ?_
 have hsz4:b4<(w7).heap.size:=(Array.getElem?_eq_some_iff.1 (ii:Blk w7 b4 (.cells #[.int .i64 0] 25 (0,0))).eq).1
 refine xl_e (e_alloc fun b6 w9 n6 l6 q6=>?_)
 have hlt46:b4<b6:=by have h1:=n6.eq;omega
 have hg6:w.heap.size<=b6:=by omega
 refine xl_s (e_store fun w10 l10 k10=>?_)
 refine xl_nil ?_
 refine x_seq ?_
 refine x_drawN (NoB) (allS) (.take 0 (.take 1 (.take 2 (.eff 3 (.eff 4 (.eff 5 (.take 6 (.take 7 (.take 8 (.take 9 (.take 10 .done))))))))))) mixed (by kernel_rfl) (fun w11 l11=>?_)
 refine xt_Lc rfl ?_
 refine xt_v rfl v_move ?_
 refine xt_v rfl (v_congr (u:=.slice A (bs.take 4).length c) (v_sliceH 4 rfl (by omega)) (by rw [List.length_take,Nat.min_eq_left (by omega)])) ?_
 refine xt_e rfl (e_buildSliceN rfl fun b7 w12 n7 l7 q7=>?_)
 refine xt_call rfl (concat_ok (some ⟨b7,0,none⟩) 2 2 [⟨xs,Ab,c - 5⟩,⟨bs.take 4,A,c⟩] w12 (hra:=rowB_of (row_blk Blk.eq)) (fun j h=>by
     match j,h with
     | 0,_=>exact rowB_of (ii:Row w12 Ab (bytesC xs)).row
     | 1,_=>exact rowB_of (ii:Row w12 A (bytesC (bs.take 4))).row) rfl (by decide) (by simp [lensB];omega)) ?_
 rintro _ w13 ⟨⟨A8,c8,rfl,ho8⟩,lk8⟩
 refine ⟨kpc,?_⟩
 obtain ⟨N,hN⟩:∃ N,N=lensB [⟨xs,Ab,c - 5⟩,⟨bs.take 4,A,c⟩]:=⟨_,rfl⟩
 rw [<- hN] at ho8 ⊢
 have hN':N=m+4:=by rw [hN];simp [lensB];omega
 have hfl:List.flatMap (fun (x:LB)=>x.bytes) [⟨xs,Ab,c - 5⟩,⟨bs.take 4,A,c⟩]=xs++bs.take 4:=by simp
 rw [hfl] at ho8
 obtain ⟨_,_,hf8,_,hc8,_⟩:=ownsRow_form ho8
 obtain ⟨rfl,rfl⟩:_/\_:=by simpa using hf8
 haveI o8:OwnI w13 A8 _ _ _ _ _ _ _:=⟨ho8⟩
 refine xt_call rfl (open2_ok A8 N c8 (xs++bs.take 4) w13 (by simp;omega) (by omega) (by omega) hc8) ?_
 rintro _ w14 ⟨⟨A9,n9,c9,rfl⟩,lk9⟩
 refine ⟨kpc,?_⟩
 have hok:le4 (sumW ((xs++bs.take 4).take (N - 4)))=(xs++bs.take 4).drop (N - 4)↔framed xs=bs.take (5+m):=by
  rw [hN',Nat.add_sub_cancel,List.take_append_of_le_length (by omega),List.take_of_length_le (by omega),List.drop_append_of_le_length (by omega),List.drop_of_length_le (by omega),List.nil_append,hxs]
  exact framed_iff (by omega) hm
 refine xt_v rfl v_move (xt_v rfl v_extract (xt_v rfl v_extract (xt_v rfl v_assign (xt_v rfl v_assign (xt_nil ?_)))))
 refine xq (xm (xl_v v_eql ?_))
 refine xl_callP (must_ok _ 110 w14) ?hp ?_
 case hp=>
  rintro ch w' ⟨rfl,rfl,hd8⟩
  have hbad:¬ framed xs=bs.take (5+m):=fun h=>by
   have h1:=of_decide_eq_false hd8
   rw [if_pos (hok.2 h)] at h1
   exact h1 rfl
  exact read_pan bs b2 b3 b4 110 En.zero 0 0 w _ h23 h24 h34 hg2 hg3 hg4 lkc (by unfold readF;rw [if_neg (by omega)];simp only [<- hm,<- hxs];rw [if_neg (by omega),if_neg (by omega),if_pos hbad])
 rintro _ _ ⟨rfl,rfl,hd8⟩
 refine xl_nil ?_
 refine x_seq ?_
 have hsz6:b6<(w14).heap.size:=(Array.getElem?_eq_some_iff.1 (ii:Blk w14 b6 (.cells #[.slice Ab xs.length (c - 5)] 60 (0,0))).eq).1
 have hgood:framed xs=bs.take (5+m):=by
  have h1:=of_decide_eq_true hd8
  split at h1
  ·next h=>exact hok.1 h
  ·cases h1
 have hread:readF bs=match parse xs with | some e=>(e,5+m,0) | none=>(En.zero,0,121):=by
  unfold readF
  rw [if_neg (by omega)]
  simp only [<- hm,<- hxs]
  rw [if_neg (by omega),if_neg (by omega),if_neg (fun h=>h hgood)]
  cases parse xs<;>rfl
 refine x_regionL ?_
 refine xl_call (taker_ok b6 w14) ?_
 rintro _ w16 ⟨⟨bt2,bt3,rfl,ht2,ht3,hgt2,hgt3⟩,lk10⟩
 haveI kt2:Blk w16 bt2 _:=⟨ht2⟩
 haveI kt3:Blk w16 bt3 _:=⟨ht3⟩
 refine xz ?_
 refine x_seq (xq ?_)
 refine xl_call (parts_ok w16) ?_
 rintro _ w17 ⟨⟨bp2,bp3,rfl,hp2,hp3,hgp2,hgp3⟩,lk11⟩
 haveI kp2:Blk w17 bp2 _:=⟨hp2⟩
 haveI kp3:Blk w17 bp3 _:=⟨hp3⟩
 refine xm (xl_nil ?_)
 refine x_block ?_
 obtain ⟨wL,hwL⟩:∃ x,x=w17:=⟨_,rfl⟩
 have hszL:(w17).heap.size<=wL.heap.size:=by rw [hwL];exact Nat.le_refl _
 have hltp:b6<bt2/\b6<bt3/\b6<bp2/\b6<bp3:=⟨by omega,by omega,Nat.lt_of_lt_of_le (Nat.lt_of_lt_of_le hsz6 Ge.le) hgp2,Nat.lt_of_lt_of_le (Nat.lt_of_lt_of_le hsz6 Ge.le) hgp3⟩
 have lkL:Lk wL w NoB:=by rw [hwL];exact lkc
 have hb2L:wL.heap[b2]?=some (.cells (enC En.zero).toArray 84 (0,0)):=by rw [hwL];exact (ii:Blk w17 b2 (.cells #[.int .i64 0,.int .i64 0,.int .i64 0,.int .i64 0,.int .i64 0,.int .i64 0] 84 (0,0))).eq
 have hb3L:wL.heap[b3]?=some (.cells #[.int .i64 0] 3 (0,0)):=by rw [hwL];exact Blk.eq
 have hb4L:wL.heap[b4]?=some (.cells #[.int .i64 0] 25 (0,0)):=by rw [hwL];exact Blk.eq
 have hp2L:wL.heap[bp2]?=some (.cells #[fnV 128] 113 (0,0)):=by rw [hwL];exact Blk.eq
 have hp3L:wL.heap[bp3]?=some (.cells #[fnV 129] 113 (0,0)):=by rw [hwL];exact Blk.eq
 have hL0:Left w b6 xs wL:=by rw [hwL];exact ⟨Ab,c - 5,Blk.eq,by omega,ii⟩
 have hT0:Taker b6 bt2 bt3 wL:=by rw [hwL];exact ⟨Blk.eq,Blk.eq,by omega,by omega⟩
 have hno:∀ k,k≠b6->k≠b2->¬ TwoB b6 b2 k:=fun k h1 h2 e=>e.elim h1 h2
 haveI hsub:SubF (TwoB b6 b2) NoB w:=⟨fun k hk e=>by rcases e with e | e<;>omega⟩
 have hst0:stepsTo xs 0=some (En.zero,xs):=rfl
 refine x_loop (fun t τ ds w'=>ds=[readD b2 b3 b4]/\∃ (j:Nat) (e:En) (r:By),t=6 - j/\j<=6/\stepsTo xs j=some (e,r)/\r.length<=m/\Left w b6 r w'/\w'.heap[b2]?=some (.cells (enC e).toArray 84 (0,0))/\Ev τ 2 (ptrV b2)/\Ev τ 3 (ptrV b3)/\Ev τ 4 (ptrV b4)/\Ev τ 5 (.int .i64 (m:Int))/\Ev τ 6 (ptrV b6)/\Ev τ 9 (nextV bt2 bt3)/\Ev τ 51 (.agg (partsC bp2 bp3).toArray)/\Ev τ 52 (.int .i64 (j:Int))/\Lk w' wL (TwoB b6 b2)) (6) ?start ?round
 case start=>
  exact ⟨rfl,0,En.zero,xs,rfl,Nat.zero_le _,hst0,by omega,by rw [<- hwL];exact hL0,by rw [<- hwL];exact hb2L,ii,ii,ii,ii,ii,ii,ii,evc,by rw [hwL];exact lkc⟩
 case round=>
  intro m τ18 ds18 w18 hI
  obtain ⟨rfl,j,e,r,rfl,hj,hst,hrm,hLr,hbe,e2,e3,e4,e5,e6,e9,e51,e52,lk⟩:=hI
  clear e0
  haveI:=lkL
  haveI kb2:Blk w18 b2 (.cells (enC e).toArray 84 (0,0)):=⟨hbe⟩
  haveI kb3:Blk w18 b3 (.cells #[.int .i64 0] 3 (0,0)):=⟨(lk.keep.block b3 (Array.getElem?_eq_some_iff.1 hb3L).1 (hno _ (by omega) (by omega))).trans hb3L⟩
  haveI kb4:Blk w18 b4 (.cells #[.int .i64 0] 25 (0,0)):=⟨(lk.keep.block b4 (Array.getElem?_eq_some_iff.1 hb4L).1 (hno _ (by omega) (by omega))).trans hb4L⟩
  haveI kp2:Blk w18 bp2 (.cells #[fnV 128] 113 (0,0)):=⟨(lk.keep.block bp2 (Array.getElem?_eq_some_iff.1 hp2L).1 (hno _ (by omega) (by omega))).trans hp2L⟩
  haveI kp3:Blk w18 bp3 (.cells #[fnV 129] 113 (0,0)):=⟨(lk.keep.block bp3 (Array.getElem?_eq_some_iff.1 hp3L).1 (hno _ (by omega) (by omega))).trans hp3L⟩
  have hT1:Taker b6 bt2 bt3 w18:=hT0.ext lk.keep (hno _ (by omega) (by omega)) (hno _ (by omega) (by omega))
  refine xq (xl_v v_lss (xl_nil ?_))
  refine x_seq ?_
  refine x_if (fun c1=>?_) (fun c1=>?_)
  ·have hj1:j<6:=by omega
   refine x_skip (x_seq (x_block (xq ?_)))
   refine xl_v (v_indexGM (us:=partC bp2 bp3 j) j rfl hj1 (partsC_get bp2 bp3 j hj1)) ?_
   refine xl_e (e_alloc fun b10 w19 n10 l10 k10=>?_)
   refine xl_s (e_storeA fun w20 l20 k20=>?_)
   refine xl_nil ?_
   refine xq (xl_Fb ?_)
   refine xl_Lc ?_
   refine xl_Lb ?_
   refine xl_callv (has_ok e bp2 bp3 j w20 Blk.eq Blk.eq hj1) ?_
   rintro _ w21 ⟨rfl,lk13⟩
   refine xl_nil ?_
   refine x_condE (fun c2=>?_) (fun c2=>?_)
   ·refine x_regionL (xl_Fb ?_)
    refine xl_Lc ?_
    refine xm ?_
    refine xl_callvP (rd_ok b6 bt2 bt3 b2 j w r e w21 Blk.eq (hLr.ext (S:=NoB) kpc (fun _ h=>h.elim) (fun h=>h)) (hT1.ext (S:=NoB) kpc (fun h=>h) (fun h=>h)) hg6 (by omega) (by omega) hg2 hj1 c2) ?hp ?_
    case hp=>
     rintro ch w' ⟨hnone,rfl,lkp⟩
     haveI:NotS (OneB b6) b2:=⟨fun e=>by have e':b2=b6:=e;omega⟩
     haveI:NotS (OneB b6) b3:=⟨fun e=>by have e':b3=b6:=e;omega⟩
     haveI:NotS (OneB b6) b4:=⟨fun e=>by have e':b4=b6:=e;omega⟩
     have hpn:parse xs=none:=by
      have h1:stepsTo xs (j+1)=none:=by rw [stepsTo_succ,hst];exact hnone
      have h2:=stepsTo_none h1 (6 - (j+1))
      rw [show j+1+(6 - (j+1))=6 by omega] at h2
      rw [parse_steps,h2]
     exact read_pan bs b2 b3 b4 121 e 0 0 w w' h23 h24 h34 hg2 hg3 hg4 lkc (by rw [hread,hpn])
    rintro _ w22 ⟨rfl,⟨e',r',hst',hLr2,hbe2⟩,lk14⟩
    have hst2:stepsTo xs (j+1)=some (e',r'):=by rw [stepsTo_succ,hst];exact hst'
    have hrm2:r'.length<=m:=Nat.le_trans (rdP_len hst' hj1) hrm
    refine xl_nil ?_
    refine x_regionL ?_
    refine xl_v (v_add (by omega)) ?_
    refine xm (xl_nil ?_)
    refine ⟨_,?_,rfl,j+1,_,_,rfl,by omega,hst2,hrm2,hLr2,hbe2,ii,ii,ii,ii,ii,ii,ii,evc,lkc⟩
    omega
   have hst2:stepsTo xs (j+1)=some (e,r):=by rw [stepsTo_succ,hst];exact rdP_no c2 hj1 r
   have hrm2:=hrm
   have hLr2:Left w b6 r w21:=hLr.ext (S:=NoB) kpc (fun _ h=>h.elim) (fun h=>h)
   have hbe2:(w21).heap[b2]?=some (.cells (enC e).toArray 84 (0,0)):=Blk.eq
   refine x_skip (x_regionL ?_)
   refine xl_v (v_add (by omega)) ?_
   refine xm (xl_nil ?_)
   refine ⟨_,?_,rfl,j+1,_,_,rfl,by omega,hst2,hrm2,hLr2,hbe2,ii,ii,ii,ii,ii,ii,ii,evc,lkc⟩
   omega
  have hj6:j=6:=by omega
  subst hj6
  obtain ⟨A6,c6,h6,hc6,hr6⟩:=hLr.ex
  haveI k6:Blk w18 b6 (.cells #[.slice A6 r.length c6] 60 (0,0)):=⟨h6⟩
  refine x_exit ?_
  refine x_cut (fun τ ds w'=>ds=[readD b2 b3 b4]/\parse xs=some e/\Lk w' w18 NoB/\Ev τ 2 (ptrV b2)/\Ev τ 3 (ptrV b3)/\Ev τ 4 (ptrV b4)/\Ev τ 5 (.int .i64 (m:Int))) ?_ ?_
  ·refine x_regionL (xl_Lc ?_)
   refine xl_v v_len (xl_v v_eql (xm ?_))
   refine xl_split 67 (fun g67=>?_) (fun g67=>?_)
   ·have g16:=of_decide_eq_true g67
    refine xl_gLb rfl EvO.eq ?_
    refine xl_gcall rfl EvO.eq (check_ok e w18) ?_
    rintro _ w23 ⟨rfl,lk16⟩
    refine xl_gv rfl EvO.eq v_eql (xl_Pk ?_)
    refine xl_callP (must_ok _ 121 w23) ?hp ?_
    case hp=>
     rintro ch w' ⟨rfl,rfl,hd16⟩
     have hpn:parse xs=none:=by
      rw [parse_steps,hst]
      cases r with
      | nil=>first | exact if_neg (fun h=>by have h1:=of_decide_eq_false hd16;rw [if_pos h] at h1;exact h1 rfl) | exact absurd rfl g16
      | cons _ _=>rfl
     exact read_pan bs b2 b3 b4 121 e 0 0 w _ h23 h24 h34 hg2 hg3 hg4 lkc (by rw [hread,hpn])
    rintro _ _ ⟨rfl,rfl,hd16⟩
    refine xl_nil ?_
    refine ⟨rfl,?_,lkc,ii,ii,ii,ii⟩
    rw [parse_steps,hst]
    cases r with
    | nil=>first | exact absurd hd16 (by decide) | exact if_pos (Decidable.byContradiction fun h=>by have h1:=of_decide_eq_true hd16;rw [if_neg h] at h1;cases h1)
    | cons _ _=>first | exact absurd hd16 (by decide) | (simp at g16;omega)
   have g16:=of_decide_eq_false g67
   refine xl_gs rfl EvO.eq (xl_gs rfl EvO.eq (xl_gs rfl EvO.eq (xl_Pk ?_)))
   refine xl_callP (must_ok _ 121 w18) ?hp ?_
   case hp=>
    rintro ch w' ⟨rfl,rfl,hd16⟩
    have hpn:parse xs=none:=by
     rw [parse_steps,hst]
     cases r with
     | nil=>first | exact if_neg (fun h=>by have h1:=of_decide_eq_false hd16;rw [if_pos h] at h1;exact h1 rfl) | exact absurd rfl g16
     | cons _ _=>rfl
    exact read_pan bs b2 b3 b4 121 e 0 0 w _ h23 h24 h34 hg2 hg3 hg4 lkc (by rw [hread,hpn])
   rintro _ _ ⟨rfl,rfl,hd16⟩
   refine xl_nil ?_
   refine ⟨rfl,?_,lkc,ii,ii,ii,ii⟩
   rw [parse_steps,hst]
   cases r with
   | nil=>first | exact absurd hd16 (by decide) | exact if_pos (Decidable.byContradiction fun h=>by have h1:=of_decide_eq_true hd16;rw [if_neg h] at h1;cases h1)
   | cons _ _=>first | exact absurd hd16 (by decide) | (simp at g16;omega)
  intro τ26 ds26 w26 hI
  obtain ⟨rfl,hparse,lk17,e2,e3,e4,e5⟩:=hI
  refine xq (xl_Lb ?_)
  refine xm ?_
  refine xl_v (v_congr (u:=.int .i64 ((5+m:Nat):Int)) (v_add (by omega)) (congrArg (Value.int .i64) (by omega))) ?_
  refine xl_s (e_storeA fun w27 l27 k27=>?_)
  refine xl_s (e_store fun w28 l28 k28=>?_)
  refine xl_s (e_store fun w29 l29 k29=>?_)
  refine xl_nil ?_
  refine x_ret ?_
  exact read_ret bs b2 b3 b4 e (5+m) w _ lkc (by rw [hread,hparse])
end Go.Proofs.YtigmfcgeljjgnaaGreatDoor
