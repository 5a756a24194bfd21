/- A part of the walks through the log and its document, and of the law in plain Lean: GB GC GD GK. -/
import Derived.Test.YtigmfcgeljjgnaaGreatDoorJ08
set_option linter.all false
set_option maxRecDepth 100000
set_option synthInstance.maxSize 100000
set_option synthInstance.maxHeartbeats 400000
namespace Go.Proofs.YtigmfcgeljjgnaaGreatDoor
open Go.Wst
open Go.Wst.Dm Go.Wst.Sg
abbrev enC (e:En):List Value:=[.int .i64 e.epoch,.int .i64 e.id,.int .i64 e.num,.int .i64 e.seq,.int .i64 e.kind,.int .i64 e.val]
instance encN_en:EncN enC 6:=⟨fun _=>rfl⟩
theorem u8wrap (y:Nat):IntKind.u8.wrap (y:Int)=((y % 256:Nat):Int):=by simp [IntKind.wrap,IntKind.signed,IntKind.bits]
theorem or128:∀ b:BitVec 8,(b ||| 128#8).toNat=b.toNat % 128+128:=by decide
theorem byte_or (y:Nat):IntKind.u8.wrap ((BitVec.ofInt IntKind.u8.bits (IntKind.u8.wrap (y:Int)) ||| BitVec.ofInt IntKind.u8.bits 128).toNat:Int)=((UInt8.ofNat (y % 128+128)).toNat:Int):=by
 show IntKind.u8.wrap (((BitVec.ofInt 8 (IntKind.u8.wrap (y:Int)) ||| 128#8).toNat:Nat):Int)=_
 rw [u8wrap y,BitVec.ofInt_natCast,or128,u8wrap,toNat_ofNat (by omega),BitVec.toNat_ofNat]
 congr 1
 omega
theorem byte_of (y:Nat) (h:y<256):IntKind.u8.wrap (y:Int)=((UInt8.ofNat y).toNat:Int):=by rw [u8wrap,toNat_ofNat h,Nat.mod_eq_of_lt h]
theorem shr7 (k:IntKind) (y:Nat) (h:7<=k.bits):(y:Int).fdiv (2 ^ min (7:Int).toNat k.bits)=((y / 128:Nat):Int):=by
 have e:min (7:Int).toNat k.bits=7:=by show min 7 k.bits=7;omega
 rw [e,Int.fdiv_eq_ediv_of_nonneg _ (by decide)]
 exact (Int.natCast_ediv _ _).symm
theorem shr1 (k:IntKind) (y:Nat) (h:1<=k.bits):(y:Int).fdiv (2 ^ min (1:Int).toNat k.bits)=((y / 2:Nat):Int):=by
 have e:min (1:Int).toNat k.bits=1:=by show min 1 k.bits=1;omega
 rw [e,Int.fdiv_eq_ediv_of_nonneg _ (by decide)]
 exact (Int.natCast_ediv _ _).symm
theorem u64wrap {y:Int} (h0:0<=y) (h1:y<18446744073709551616):IntKind.u64.wrap y=y:=by
 simp [IntKind.wrap,IntKind.signed,IntKind.bits];omega
theorem u64neg {y:Int} (h0:-9223372036854775808<=y) (h1:y<0):IntKind.u64.wrap y=y+18446744073709551616:=by
 simp [IntKind.wrap,IntKind.signed,IntKind.bits];omega
theorem zig_bits {v:Int} (h0:-2147483648<=v) (h1:v<=2147483647):IntKind.u64.wrap ((BitVec.ofInt IntKind.u64.bits (IntKind.u64.wrap (IntKind.i64.wrap (v*2 ^ min (1:Int).toNat IntKind.i64.bits))) ^^^ BitVec.ofInt IntKind.u64.bits (IntKind.u64.wrap (v.fdiv (2 ^ min (63:Int).toNat IntKind.i64.bits)))).toNat:Int)=((zig v:Nat):Int):=by
 have e1:IntKind.i64.wrap (v*2 ^ min (1:Int).toNat IntKind.i64.bits)=2*v:=by
  show IntKind.i64.wrap (v*2 ^ 1)=_
  rw [wrap_in (by omega) (by omega)];omega
 have e2:v.fdiv (2 ^ min (63:Int).toNat IntKind.i64.bits)=if v<0 then -1 else 0:=by
  show v.fdiv (2 ^ 63)=_
  rw [Int.fdiv_eq_ediv_of_nonneg _ (by decide)]
  split<;>omega
 rw [e1,e2]
 show IntKind.u64.wrap (((BitVec.ofInt 64 (IntKind.u64.wrap (2*v)) ^^^ BitVec.ofInt 64 (IntKind.u64.wrap (if v<0 then -1 else 0))).toNat:Nat):Int)=_
 unfold zig
 by_cases hv:v<0
 ·have e4:IntKind.u64.wrap (2*v)=2*v+18446744073709551616:=u64neg (by omega) (by omega)
  rw [if_pos hv,if_pos hv,e4]
  have e3:BitVec.ofInt 64 (IntKind.u64.wrap (-1))=BitVec.allOnes 64:=by decide
  rw [e3,BitVec.xor_allOnes]
  obtain ⟨n,hn⟩:∃ n:Nat,2*v+18446744073709551616=(n:Int):=⟨(2*v+18446744073709551616).toNat,by omega⟩
  rw [hn,BitVec.ofInt_natCast,BitVec.toNat_not,BitVec.toNat_ofNat]
  have:n % 2 ^ 64=n:=Nat.mod_eq_of_lt (by omega)
  rw [this,u64wrap (by omega) (by omega)]
  omega
 ·have e4:IntKind.u64.wrap (2*v)=2*v:=u64wrap (by omega) (by omega)
  rw [if_neg hv,if_neg hv,e4]
  have e3:BitVec.ofInt 64 (IntKind.u64.wrap 0)=0#64:=by decide
  rw [e3,BitVec.xor_zero]
  obtain ⟨n,hn⟩:∃ n:Nat,2*v=(n:Int):=⟨(2*v).toNat,by omega⟩
  rw [hn,BitVec.ofInt_natCast,BitVec.toNat_ofNat]
  have:n % 2 ^ 64=n:=Nat.mod_eq_of_lt (by omega)
  rw [this,u64wrap (by omega) (by omega)]
  omega
theorem unz_bits {n:Nat} (h:n<9223372036854775808):IntKind.i64.wrap ((BitVec.ofInt IntKind.i64.bits (((n / 2:Nat):Int)) ^^^ BitVec.ofInt IntKind.i64.bits (IntKind.i64.wrap (-(((n % 2:Nat):Int))))).toNat:Int)=unz n:=by
 show IntKind.i64.wrap (((BitVec.ofInt 64 (((n / 2:Nat):Int)) ^^^ BitVec.ofInt 64 (IntKind.i64.wrap (-(((n % 2:Nat):Int))))).toNat:Nat):Int)=unz n
 unfold unz
 rw [BitVec.ofInt_natCast]
 by_cases hv:n % 2=1
 ·rw [if_pos hv,hv]
  have e3:BitVec.ofInt 64 (IntKind.i64.wrap (-((1:Nat):Int)))=BitVec.allOnes 64:=by decide
  rw [e3,BitVec.xor_allOnes,BitVec.toNat_not,BitVec.toNat_ofNat]
  have:n / 2 % 2 ^ 64=n / 2:=Nat.mod_eq_of_lt (by omega)
  rw [this]
  simp [IntKind.wrap,IntKind.signed,IntKind.bits]
  omega
 ·have h0:n % 2=0:=by omega
  rw [if_neg hv,h0]
  have e3:BitVec.ofInt 64 (IntKind.i64.wrap (-((0:Nat):Int)))=0#64:=by decide
  rw [e3,BitVec.xor_zero,BitVec.toNat_ofNat]
  have:n / 2 % 2 ^ 64=n / 2:=Nat.mod_eq_of_lt (by omega)
  rw [this]
  simp [IntKind.wrap,IntKind.signed,IntKind.bits]
  omega
theorem and1_64 (n:Nat) (h:n<9223372036854775808):IntKind.i64.wrap ((BitVec.ofInt IntKind.i64.bits (n:Int) &&& BitVec.ofInt IntKind.i64.bits 1).toNat:Int)=((n % 2:Nat):Int):=by
 show IntKind.i64.wrap (((BitVec.ofInt 64 (n:Int) &&& 1#64).toNat:Nat):Int)=_
 rw [BitVec.ofInt_natCast,BitVec.toNat_and,BitVec.toNat_ofNat]
 have e:(n % 2 ^ 64) &&& (1#64).toNat=n % 2:=by
  have:=Nat.and_two_pow_sub_one_eq_mod (n % 2 ^ 64) 1
  rw [Nat.mod_eq_of_lt (by omega:n<2 ^ 64)] at this ⊢
  simpa using this
 rw [e]
 have:n % 2<2:=Nat.mod_lt _ (by omega)
 rw [wrap_in (by omega) (by omega)]
def From (v V:Value) (w:World):Prop:=v.ownBlock=V.ownBlock\/∃ j,v.ownBlock=some j/\w.heap.size<=j
theorem From.sub {v V:Value} {w:World} (h:From v V w):SubF (OwnB v) (OwnB V) w:=⟨fun k hk e=>by
 rcases h with h | ⟨j,h,hj⟩
 ·show some k=V.ownBlock;rw [<- h];exact e
 ·have e':some k=v.ownBlock:=e
  rw [h] at e';cases e';omega⟩
theorem From.app {v u V:Value} {w w1:World} (h:From v V w) (hn:u.ownBlock=v.ownBlock\/u.ownBlock=some w1.heap.size) (hg:w.heap.size<=w1.heap.size):From u V w:=by
 rcases hn with e | e
 ·rw [From,e];exact h
 ·exact .inr ⟨_,e,hg⟩
theorem numberI_ok (V:Value) (ml:Nat) (bs:List UInt8) (x base:Nat) (w:World) (hown:w.ownsRow base 5 1 V ml (bytesC bs)) (hb:base<=w.heap.size) (hx:x<9223372036854775808) (hm:ml<=1000000):Ret Tryz.prog 133 #[V,.int .i64 (x:Int)] w (fun v w'=>(∃ A c,v=.slice A (ml+(numB x).length) c/\w'.ownsRow base 5 1 v (ml+(numB x).length) (bytesC (bs++numB x))/\From v V w)/\Lk w' w (OwnB V)):=by
 have hx9:=(numB_len 9 x (by omega) (by omega)).1
 obtain ⟨A0,c0,hV0,_⟩:=ownsRow_form hown
 have hV1:V=.slice A0 (ml+([]:List UInt8).length) c0:=hV0
 refine ret_of_x (N:=20) (l:=[V,.int .i64 (x:Int)]) Tryz.func133 rfl rfl (Nat.le_of_ble_eq_true rfl) ?_
 refine xq (xz ?_)
 refine x_seq (x_block ?_)
 refine x_loop (fun t τ ds w'=>ds=[]/\∃ (y:Nat) (pre:List UInt8) (A1:Option Addr) (c1:Nat),t=y/\y<9223372036854775808/\numB x=pre++numB y/\w'.ownsRow base 5 1 (.slice A1 (ml+pre.length) c1) (ml+pre.length) (bytesC (bs++pre))/\From (.slice A1 (ml+pre.length) c1) V w/\Ev τ 0 (.slice A1 (ml+pre.length) c1)/\Ev τ 1 (.int .i64 (y:Int))/\Lk w' w (OwnB V)) (x) ?start ?round
 case start=>
  exact ⟨rfl,x,[],A0,c0,rfl,hx,rfl,by rw [List.append_nil];exact hV0 ▸ hown,.inl (by rw [hV0];rfl),evc hV1,ii,lkc⟩
 case round=>
  intro m τ1 ds1 w1 hI
  obtain ⟨rfl,y,pre,A1,c1,rfl,hy,hxy,ho,hfr,e0,e1,lk⟩:=hI
  have hpl:pre.length<=9:=by have:=congrArg List.length hxy;simp at this;omega
  haveI:=hfr.sub
  refine x_seq (xq (xm (xl_v v_geq (xl_nil ?_))))
  refine x_if (fun c1=>?_) (fun c1=>?_)
  ·have hbig:¬ m<128:=by omega
   have hlen:ml+(pre++[UInt8.ofNat (m % 128+128)]).length=ml+pre.length+1:=by simp;omega
   refine x_skip (x_seq (x_block (x_regionL (xm (xm (xl_v v_convert ?_))))))
   refine xl_v (v_congr (u:=.int .u8 ((UInt8.ofNat (m % 128+128)).toNat:Int)) v_or (congrArg (Value.int .u8) (byte_or m))) ?_
   refine xl_e (e_buildSlice1 rfl fun b5 w2 n5 l5 k5=>?_)
   have hge6:w.heap.size<=(w2).heap.size:=Ge.le
   refine xl_e (e_append' (own_ext ho lkc) (Nat.le_trans hb Ge.le) rfl Cell1L.eq (by decide) (.inl rfl) (by omega) (by omega) fun A6 c6 w3 hown2 l6 hn6=>?_)
   have hown2:World.ownsRow w3 base 5 1 (.slice A6 (ml+pre.length+1) c6) (ml+pre.length+1) (bytesC (bs++(pre++[UInt8.ofNat (m % 128+128)]))):=by
    rw [<- List.append_assoc,<- bytesC_append]
    exact hown2
   refine xz ?_
   refine x_regionL (xm ?_)
   refine xl_v (v_congr (u:=.int .i64 ((m / 128:Nat):Int)) (v_shr (by omega)) (congrArg (Value.int .i64) (shr7 .i64 m (by decide)))) ?_
   refine xz ?_
   refine ⟨_,?_,rfl,m / 128,pre++[UInt8.ofNat (m % 128+128)],A6,c6,rfl,by omega,?_,?_,?_,?_,ii,lkc⟩
   ·omega
   ·rw [hxy,numB_big hbig];simp
   ·rw [hlen];exact hown2
   ·rw [hlen];exact hfr.app hn6 hge6
   ·rw [hlen];infer_instance
  have hsm:m<128:=by omega
  have hnx:numB x=pre++[UInt8.ofNat m]:=by rw [hxy,numB_small hsm]
  have hlen:ml+(numB x).length=ml+pre.length+1:=by rw [hnx];simp;omega
  refine x_exit (xq (xm (xm ?_)))
  refine xl_v (v_congr (u:=.int .u8 ((UInt8.ofNat m).toNat:Int)) v_convert (congrArg (Value.int .u8) (byte_of m (by omega)))) ?_
  refine xl_e (e_buildSlice1 rfl fun b5 w4 n5 l5 k5=>?_)
  have hge6:w.heap.size<=(w4).heap.size:=Ge.le
  refine xl_e (e_append' (own_ext ho lkc) (Nat.le_trans hb Ge.le) rfl Cell1L.eq (by decide) (.inl rfl) (by omega) (by omega) fun A6 c6 w5 hown2 l6 hn6=>?_)
  refine xz ?_
  refine x_ret ?_
  refine fin1 rfl ?_
  refine ⟨⟨A6,c6,by rw [hlen],?_,hfr.app hn6 hge6⟩,lkc⟩
  rw [hlen,hnx,<- List.append_assoc,<- bytesC_append]
  exact hown2
theorem numberU_ok (V:Value) (ml:Nat) (bs:List UInt8) (x base:Nat) (w:World) (hown:w.ownsRow base 5 1 V ml (bytesC bs)) (hb:base<=w.heap.size) (hx:x<9223372036854775808) (hm:ml<=1000000):Ret Tryz.prog 160 #[V,.int .u64 (x:Int)] w (fun v w'=>(∃ A c,v=.slice A (ml+(numB x).length) c/\w'.ownsRow base 5 1 v (ml+(numB x).length) (bytesC (bs++numB x))/\From v V w)/\Lk w' w (OwnB V)):=by
 have hx9:=(numB_len 9 x (by omega) (by omega)).1
 obtain ⟨A0,c0,hV0,_⟩:=ownsRow_form hown
 have hV1:V=.slice A0 (ml+([]:List UInt8).length) c0:=hV0
 refine ret_of_x (N:=20) (l:=[V,.int .u64 (x:Int)]) Tryz.func160 rfl rfl (Nat.le_of_ble_eq_true rfl) ?_
 refine xq (xz ?_)
 refine x_seq (x_block ?_)
 refine x_loop (fun t τ ds w'=>ds=[]/\∃ (y:Nat) (pre:List UInt8) (A1:Option Addr) (c1:Nat),t=y/\y<9223372036854775808/\numB x=pre++numB y/\w'.ownsRow base 5 1 (.slice A1 (ml+pre.length) c1) (ml+pre.length) (bytesC (bs++pre))/\From (.slice A1 (ml+pre.length) c1) V w/\Ev τ 0 (.slice A1 (ml+pre.length) c1)/\Ev τ 1 (.int .u64 (y:Int))/\Lk w' w (OwnB V)) (x) ?start ?round
 case start=>
  exact ⟨rfl,x,[],A0,c0,rfl,hx,rfl,by rw [List.append_nil];exact hV0 ▸ hown,.inl (by rw [hV0];rfl),evc hV1,ii,lkc⟩
 case round=>
  intro m τ1 ds1 w1 hI
  obtain ⟨rfl,y,pre,A1,c1,rfl,hy,hxy,ho,hfr,e0,e1,lk⟩:=hI
  have hpl:pre.length<=9:=by have:=congrArg List.length hxy;simp at this;omega
  haveI:=hfr.sub
  refine x_seq (xq (xm (xl_v v_geq (xl_nil ?_))))
  refine x_if (fun c1=>?_) (fun c1=>?_)
  ·have hbig:¬ m<128:=by omega
   have hlen:ml+(pre++[UInt8.ofNat (m % 128+128)]).length=ml+pre.length+1:=by simp;omega
   refine x_skip (x_seq (x_block (x_regionL (xm (xm (xl_v v_convert ?_))))))
   refine xl_v (v_congr (u:=.int .u8 ((UInt8.ofNat (m % 128+128)).toNat:Int)) v_or (congrArg (Value.int .u8) (byte_or m))) ?_
   refine xl_e (e_buildSlice1 rfl fun b5 w2 n5 l5 k5=>?_)
   have hge6:w.heap.size<=(w2).heap.size:=Ge.le
   refine xl_e (e_append' (own_ext ho lkc) (Nat.le_trans hb Ge.le) rfl Cell1L.eq (by decide) (.inl rfl) (by omega) (by omega) fun A6 c6 w3 hown2 l6 hn6=>?_)
   have hown2:World.ownsRow w3 base 5 1 (.slice A6 (ml+pre.length+1) c6) (ml+pre.length+1) (bytesC (bs++(pre++[UInt8.ofNat (m % 128+128)]))):=by
    rw [<- List.append_assoc,<- bytesC_append]
    exact hown2
   refine xz ?_
   refine x_regionL (xm ?_)
   refine xl_v (v_congr (u:=.int .u64 ((m / 128:Nat):Int)) (v_shr (by omega)) (congrArg (Value.int .u64) (shr7 .u64 m (by decide)))) ?_
   refine xz ?_
   refine ⟨_,?_,rfl,m / 128,pre++[UInt8.ofNat (m % 128+128)],A6,c6,rfl,by omega,?_,?_,?_,?_,ii,lkc⟩
   ·omega
   ·rw [hxy,numB_big hbig];simp
   ·rw [hlen];exact hown2
   ·rw [hlen];exact hfr.app hn6 hge6
   ·rw [hlen];infer_instance
  have hsm:m<128:=by omega
  have hnx:numB x=pre++[UInt8.ofNat m]:=by rw [hxy,numB_small hsm]
  have hlen:ml+(numB x).length=ml+pre.length+1:=by rw [hnx];simp;omega
  refine x_exit (xq (xm (xm ?_)))
  refine xl_v (v_congr (u:=.int .u8 ((UInt8.ofNat m).toNat:Int)) v_convert (congrArg (Value.int .u8) (byte_of m (by omega)))) ?_
  refine xl_e (e_buildSlice1 rfl fun b5 w4 n5 l5 k5=>?_)
  have hge6:w.heap.size<=(w4).heap.size:=Ge.le
  refine xl_e (e_append' (own_ext ho lkc) (Nat.le_trans hb Ge.le) rfl Cell1L.eq (by decide) (.inl rfl) (by omega) (by omega) fun A6 c6 w5 hown2 l6 hn6=>?_)
  refine xz ?_
  refine x_ret ?_
  refine fin1 rfl ?_
  refine ⟨⟨A6,c6,by rw [hlen],?_,hfr.app hn6 hge6⟩,lkc⟩
  rw [hlen,hnx,<- List.append_assoc,<- bytesC_append]
  exact hown2
theorem signed_ok (V:Value) (m:Nat) (bs:List UInt8) (x:Int) (base:Nat) (w:World) (hown:w.ownsRow base 5 1 V m (bytesC bs)) (hb:base<=w.heap.size) (h0:-2147483648<=x) (h1:x<=2147483647) (hm:m<=1000000):Ret Tryz.prog 144 #[V,.int .i64 x] w (fun v w'=>(∃ A c,v=.slice A (m+(numB (zig x)).length) c/\w'.ownsRow base 5 1 v (m+(numB (zig x)).length) (bytesC (bs++numB (zig x)))/\From v V w)/\Lk w' w (OwnB V)):=by
 refine ret_of_x (N:=14) (l:=[V,.int .i64 x]) Tryz.func144 rfl rfl (Nat.le_of_ble_eq_true rfl) ?_
 refine xq (xz ?_)
 refine xq (xm (xm ?_))
 refine xl_v (v_shl (by omega)) ?_
 refine xl_v v_convert (xm ?_)
 refine xl_v (v_shr (by omega)) ?_
 refine xl_v v_convert ?_
 refine xl_v (v_congr (u:=.int .u64 ((zig x:Nat):Int)) v_xor (congrArg (Value.int .u64) (zig_bits h0 h1))) ?_
 refine xl_call (numberU_ok V m bs (zig x) base w hown hb (by unfold zig;split<;>omega) hm) ?_
 rintro _ w1 ⟨⟨A,c,rfl,ho,hf⟩,lk⟩
 refine xz ?_
 refine x_ret ?_
 refine fin1 rfl ?_
 exact ⟨⟨A,c,rfl,ho,hf⟩,lkc⟩
theorem unsigned_ok (n:Nat) (w:World) (hn:n<9223372036854775808):Ret Tryz.prog 146 #[.int .i64 (n:Int)] w (fun v w'=>v=.int .i64 (unz n)/\w=w'):=by
 refine ret_of_x (N:=9) (l:=[.int .i64 (n:Int)]) Tryz.func146 rfl rfl (Nat.le_of_ble_eq_true rfl) ?_
 refine xq (xz ?_)
 refine xq (xm ?_)
 refine xl_v (v_congr (u:=.int .i64 ((n / 2:Nat):Int)) (v_shr (by omega)) (congrArg (Value.int .i64) (shr1 .i64 n (by decide)))) ?_
 refine xm ?_
 refine xl_v (v_congr (u:=.int .i64 ((n % 2:Nat):Int)) v_and (congrArg (Value.int .i64) (and1_64 n hn))) ?_
 refine xl_v (v_negw) ?_
 refine xl_v (v_congr (u:=.int .i64 (unz n)) v_xor (congrArg (Value.int .i64) (unz_bits hn))) ?_
 refine xz ?_
 refine x_ret ?_
 refine fin1 rfl ?_
 exact ⟨rfl,rfl⟩
theorem in_ok (n a b:Int) (w:World):Ret Tryz.prog 123 #[.int .i64 n,.int .i64 a,.int .i64 b] w (fun v w'=>v=.bool (decide (a<=n/\n<=b))/\w=w'):=by
 refine ret_of_x (N:=15) (l:=[.int .i64 n,.int .i64 a,.int .i64 b]) Tryz.func123 rfl rfl (Nat.le_of_ble_eq_true rfl) ?_
 refine xq (xz ?_)
 refine xq (xm (xm (xl_v v_leq (xm ?_))))
 refine xl_split 10 (fun g10=>?_) (fun g10=>?_)
 ·refine xl_gv rfl EvO.eq v_move (xl_gv rfl EvO.eq v_move (xl_gv rfl EvO.eq v_leq (xl_Pk ?_)))
  refine xz ?_
  refine x_ret ?_
  refine fin1 rfl ?_
  refine ⟨congrArg Value.bool ?_,rfl⟩
  by_cases h1:a<=n<;>by_cases h2:n<=b<;>first | (simp_all;done) | (simp_all;omega)
 refine xl_gs rfl EvO.eq (xl_gs rfl EvO.eq (xl_gs rfl EvO.eq (xl_Pk ?_)))
 refine xz ?_
 refine x_ret ?_
 refine fin1 rfl ?_
 refine ⟨congrArg Value.bool ?_,rfl⟩
 by_cases h1:a<=n<;>by_cases h2:n<=b<;>first | (simp_all;done) | (simp_all;omega)
theorem i32wrap (v:Int):IntKind.i32.wrap v=if 2147483648<=v % 4294967296 then v % 4294967296 - 4294967296 else v % 4294967296:=by
 simp [IntKind.wrap,IntKind.signed,IntKind.bits]
theorem val32 (v:Int):v=IntKind.i64.wrap (IntKind.i32.wrap v)↔(-2147483648<=v/\v<=2147483647):=by
 rw [i32wrap]
 split
 ·rw [wrap_in (by omega) (by omega)];omega
 ·rw [wrap_in (by omega) (by omega)];omega
def fine1 (e:En):Prop:=in31 e.epoch 1/\-1<=e.id/\e.id<=3
instance (e:En):Decidable (fine1 e):=inferInstanceAs (Decidable (_/\_))
def fine2 (e:En):Prop:=fine1 e/\((e.kind=1/\in31 e.val (-2147483648)/\in31 e.seq 0/\(0<=e.id\/e.seq=0))\/((e.kind=2\/e.kind=3)/\0<=e.id/\e.seq=0/\e.val=0))
instance (e:En):Decidable (fine2 e):=inferInstanceAs (Decidable (_/\_))
theorem right_iff (e:En):Right e↔fine2 e/\(if 0<=e.id then in31 e.num 1 else e.num=0):=by
 unfold Right fine2 fine1 in31
 split<;>omega
set_option maxHeartbeats 1000000 in
theorem check_ok (e:En) (w:World):Ret Tryz.prog 102 #[.agg (enC e).toArray] w (fun v w'=>v=.int .i64 (if Right e then 0 else 2)/\Lk w' w NoB):=by
 refine ret_of_x (N:=77) (l:=[.agg (enC e).toArray]) Tryz.func102 rfl rfl (Nat.le_of_ble_eq_true rfl) ?_
 refine xq ?_
 refine xl_e (e_box fun b1 w1 n1 l1 k1=>?_)
 refine xz ?_
 refine x_cut (fun τ ds w'=>ds=[]/\Ev τ 1 (.pointer (some ⟨b1,0,none⟩))/\Ev τ 3 (.bool (decide (fine1 e)))/\Blk w' b1 (.cells (enC e).toArray 84 (0,0))/\Lk w' w NoB) ?_ ?_
 ·refine x_regionL (xl_Fb ?_)
  refine xl_Lc ?_
  refine xl_call (in_ok _ _ _ _) ?_
  rintro _ _ ⟨rfl,rfl⟩
  refine xm ?_
  refine xl_split 7 (fun g7=>?_) (fun g7=>?_)
  ·refine xl_gFb rfl EvO.eq ?_
   refine xl_gLc rfl EvO.eq ?_
   refine xl_gcall rfl EvO.eq (in_ok _ _ _ _) ?_
   rintro _ _ ⟨rfl,rfl⟩
   refine xl_Pk ?_
   refine xz ?_
   refine ⟨rfl,ii,evc (congrArg Value.bool ?_),ii,lkc⟩
   rw [Bool.eq_iff_iff]
   simp only [decide_eq_true_eq,decide_eq_false_iff_not,Bool.false_eq_true] at *
   simp only [fine2,fine1,in31] at *
   refine ⟨fun h=>?_,fun h=>?_⟩<;>first | exact h.elim | trivial | omega
  refine xl_gs rfl EvO.eq (xl_gs rfl EvO.eq (xl_gs rfl EvO.eq (xl_Pk ?_)))
  refine xz ?_
  refine ⟨rfl,ii,evc (congrArg Value.bool ?_),ii,lkc⟩
  rw [Bool.eq_iff_iff]
  simp only [decide_eq_true_eq,decide_eq_false_iff_not,Bool.false_eq_true] at *
  simp only [fine2,fine1,in31] at *
  refine ⟨fun h=>?_,fun h=>?_⟩<;>first | exact h.elim | trivial | omega
 intro τ4 ds4 w4 hI
 obtain ⟨rfl,e1,e3,kb1,lk⟩:=hI
 refine x_cut (fun τ ds w'=>ds=[]/\Ev τ 1 (.pointer (some ⟨b1,0,none⟩))/\Ev τ 3 (.bool (decide (fine2 e)))/\Blk w' b1 (.cells (enC e).toArray 84 (0,0))/\Lk w' w NoB) ?_ ?_
 ·refine xq (xl_Fb ?_)
  refine xl_Lc ?_
  refine xl_nil ?_
  refine x_block (xq (xl_v v_eql (xz ?_)))
  refine x_if (fun c1=>?_) (fun c1=>?_)
  ·refine x_regionL (xm (xm ?_))
   refine xl_split 17 (fun g17=>?_) (fun g17=>?_)
   ·refine xl_gFb rfl EvO.eq ?_
    refine xl_gLc rfl EvO.eq ?_
    refine xl_gFb rfl EvO.eq ?_
    refine xl_gLc rfl EvO.eq ?_
    refine xl_gv rfl EvO.eq v_convert (xl_gv rfl EvO.eq v_convert ?_)
    refine xl_gv rfl EvO.eq (v_congr (u:=.bool (decide (in31 e.val (-2147483648)))) v_eql (congrArg Value.bool (decide_eq_decide.2 (val32 e.val)))) ?_
    refine xl_Pk ?_
    refine xm ?_
    refine xl_split 26 (fun g26=>?_) (fun g26=>?_)
    ·refine xl_gFb rfl EvO.eq ?_
     refine xl_gLc rfl EvO.eq ?_
     refine xl_gcall rfl EvO.eq (in_ok _ _ _ _) ?_
     rintro _ _ ⟨rfl,rfl⟩
     refine xl_Pk ?_
     refine xm ?_
     refine xl_split 31 (fun g31=>?_) (fun g31=>?_)
     ·refine xl_gFb rfl EvO.eq ?_
      refine xl_gLc rfl EvO.eq ?_
      refine xl_gv rfl EvO.eq v_geq (xl_gv rfl EvO.eq v_move ?_)
      refine xl_split 35 (fun g35=>?_) (fun g35=>?_)
      ·refine xl_gs rfl EvO.eq (xl_gs rfl EvO.eq (xl_gs rfl EvO.eq ?_))
       refine xl_gPk rfl EvO.eq ?_
       refine xl_Pk ?_
       refine xz ?_
       refine ⟨rfl,ii,evc (congrArg Value.bool ?_),ii,lkc⟩
       rw [Bool.eq_iff_iff]
       simp only [decide_eq_true_eq,decide_eq_false_iff_not,Bool.false_eq_true] at *
       simp only [fine2,fine1,in31] at *
       refine ⟨fun h=>?_,fun h=>?_⟩<;>first | exact h.elim | trivial | omega
      refine xl_gFb rfl EvO.eq ?_
      refine xl_gLc rfl EvO.eq ?_
      refine xl_gv rfl EvO.eq v_eql ?_
      refine xl_gPk rfl EvO.eq ?_
      refine xl_Pk ?_
      refine xz ?_
      refine ⟨rfl,ii,evc (congrArg Value.bool ?_),ii,lkc⟩
      rw [Bool.eq_iff_iff]
      simp only [decide_eq_true_eq,decide_eq_false_iff_not,Bool.false_eq_true] at *
      simp only [fine2,fine1,in31] at *
      refine ⟨fun h=>?_,fun h=>?_⟩<;>first | exact h.elim | trivial | omega
     refine xl_gs rfl EvO.eq (xl_gs rfl EvO.eq (xl_gs rfl EvO.eq (xl_gs rfl EvO.eq ?_)))
     refine xl_gu rfl EvO.eq ?_
     refine xl_gu rfl EvO.eq ?_
     refine xl_gu rfl EvO.eq ?_
     refine xl_gs rfl EvO.eq (xl_Pk ?_)
     refine xz ?_
     refine ⟨rfl,ii,evc (congrArg Value.bool ?_),ii,lkc⟩
     rw [Bool.eq_iff_iff]
     simp only [decide_eq_true_eq,decide_eq_false_iff_not,Bool.false_eq_true] at *
     simp only [fine2,fine1,in31] at *
     refine ⟨fun h=>?_,fun h=>?_⟩<;>first | exact h.elim | trivial | omega
    refine xl_gs rfl EvO.eq (xl_gs rfl EvO.eq (xl_gs rfl EvO.eq (xl_Pk ?_)))
    refine xm (xl_gs rfl EvO.eq (xl_gs rfl EvO.eq (xl_gs rfl EvO.eq (xl_gs rfl EvO.eq ?_))))
    refine xl_gu rfl EvO.eq ?_
    refine xl_gu rfl EvO.eq ?_
    refine xl_gu rfl EvO.eq ?_
    refine xl_gs rfl EvO.eq (xl_Pk ?_)
    refine xz ?_
    refine ⟨rfl,ii,evc (congrArg Value.bool ?_),ii,lkc⟩
    rw [Bool.eq_iff_iff]
    simp only [decide_eq_true_eq,decide_eq_false_iff_not,Bool.false_eq_true] at *
    simp only [fine2,fine1,in31] at *
    refine ⟨fun h=>?_,fun h=>?_⟩<;>first | exact h.elim | trivial | omega
   refine xl_gs rfl EvO.eq (xl_gs rfl EvO.eq (xl_gs rfl EvO.eq (xl_gs rfl EvO.eq (xl_gs rfl EvO.eq (xl_gs rfl EvO.eq (xl_gs rfl EvO.eq (xl_Pk ?_)))))))
   refine xm (xl_gs rfl EvO.eq (xl_gs rfl EvO.eq (xl_gs rfl EvO.eq (xl_Pk ?_))))
   refine xm (xl_gs rfl EvO.eq (xl_gs rfl EvO.eq (xl_gs rfl EvO.eq (xl_gs rfl EvO.eq ?_))))
   refine xl_gu rfl EvO.eq ?_
   refine xl_gu rfl EvO.eq ?_
   refine xl_gu rfl EvO.eq ?_
   refine xl_gs rfl EvO.eq (xl_Pk ?_)
   refine xz ?_
   refine ⟨rfl,ii,evc (congrArg Value.bool ?_),ii,lkc⟩
   rw [Bool.eq_iff_iff]
   simp only [decide_eq_true_eq,decide_eq_false_iff_not,Bool.false_eq_true] at *
   simp only [fine2,fine1,in31] at *
   refine ⟨fun h=>?_,fun h=>?_⟩<;>first | exact h.elim | trivial | omega
  refine x_seq (xq (xl_v v_eql (xz ?_)))
  refine x_if (fun c2=>?_) (fun c2=>?_)
  ·refine x_skip ?_
   refine x_if (fun c3=>?_) (fun c3=>?_)
   ·refine x_regionL (xm (xm ?_))
    refine xl_split 45 (fun g45=>?_) (fun g45=>?_)
    ·refine xl_gFb rfl EvO.eq ?_
     refine xl_gLc rfl EvO.eq ?_
     refine xl_gv rfl EvO.eq v_geq (xl_Pk ?_)
     refine xm ?_
     refine xl_split 50 (fun g50=>?_) (fun g50=>?_)
     ·refine xl_gFb rfl EvO.eq ?_
      refine xl_gLc rfl EvO.eq ?_
      refine xl_gv rfl EvO.eq v_eql (xl_Pk ?_)
      refine xm ?_
      refine xl_split 55 (fun g55=>?_) (fun g55=>?_)
      ·refine xl_gFb rfl EvO.eq ?_
       refine xl_gLc rfl EvO.eq ?_
       refine xl_gv rfl EvO.eq v_eql (xl_Pk ?_)
       refine xz ?_
       refine ⟨rfl,ii,evc (congrArg Value.bool ?_),ii,lkc⟩
       rw [Bool.eq_iff_iff]
       simp only [decide_eq_true_eq,decide_eq_false_iff_not,Bool.false_eq_true] at *
       simp only [fine2,fine1,in31] at *
       refine ⟨fun h=>?_,fun h=>?_⟩<;>first | exact h.elim | trivial | omega
      refine xl_gs rfl EvO.eq (xl_gs rfl EvO.eq (xl_gs rfl EvO.eq (xl_Pk ?_)))
      refine xz ?_
      refine ⟨rfl,ii,evc (congrArg Value.bool ?_),ii,lkc⟩
      rw [Bool.eq_iff_iff]
      simp only [decide_eq_true_eq,decide_eq_false_iff_not,Bool.false_eq_true] at *
      simp only [fine2,fine1,in31] at *
      refine ⟨fun h=>?_,fun h=>?_⟩<;>first | exact h.elim | trivial | omega
     refine xl_gs rfl EvO.eq (xl_gs rfl EvO.eq (xl_gs rfl EvO.eq (xl_Pk ?_)))
     refine xm (xl_gs rfl EvO.eq (xl_gs rfl EvO.eq (xl_gs rfl EvO.eq (xl_Pk ?_))))
     refine xz ?_
     refine ⟨rfl,ii,evc (congrArg Value.bool ?_),ii,lkc⟩
     rw [Bool.eq_iff_iff]
     simp only [decide_eq_true_eq,decide_eq_false_iff_not,Bool.false_eq_true] at *
     simp only [fine2,fine1,in31] at *
     refine ⟨fun h=>?_,fun h=>?_⟩<;>first | exact h.elim | trivial | omega
    refine xl_gs rfl EvO.eq (xl_gs rfl EvO.eq (xl_gs rfl EvO.eq (xl_Pk ?_)))
    refine xm (xl_gs rfl EvO.eq (xl_gs rfl EvO.eq (xl_gs rfl EvO.eq (xl_Pk ?_))))
    refine xm (xl_gs rfl EvO.eq (xl_gs rfl EvO.eq (xl_gs rfl EvO.eq (xl_Pk ?_))))
    refine xz ?_
    refine ⟨rfl,ii,evc (congrArg Value.bool ?_),ii,lkc⟩
    rw [Bool.eq_iff_iff]
    simp only [decide_eq_true_eq,decide_eq_false_iff_not,Bool.false_eq_true] at *
    simp only [fine2,fine1,in31] at *
    refine ⟨fun h=>?_,fun h=>?_⟩<;>first | exact h.elim | trivial | omega
   refine x_regionL (xz ?_)
   refine ⟨rfl,ii,evc (congrArg Value.bool ?_),ii,lkc⟩
   rw [Bool.eq_iff_iff]
   simp only [decide_eq_true_eq,decide_eq_false_iff_not,Bool.false_eq_true] at *
   simp only [fine2,fine1,in31] at *
   refine ⟨fun h=>?_,fun h=>?_⟩<;>first | exact h.elim | trivial | omega
  refine x_regionL (xl_v v_eql (xz ?_))
  refine x_if (fun c3=>?_) (fun c3=>?_)
  ·refine x_regionL (xm (xm ?_))
   refine xl_split 45 (fun g45=>?_) (fun g45=>?_)
   ·refine xl_gFb rfl EvO.eq ?_
    refine xl_gLc rfl EvO.eq ?_
    refine xl_gv rfl EvO.eq v_geq (xl_Pk ?_)
    refine xm ?_
    refine xl_split 50 (fun g50=>?_) (fun g50=>?_)
    ·refine xl_gFb rfl EvO.eq ?_
     refine xl_gLc rfl EvO.eq ?_
     refine xl_gv rfl EvO.eq v_eql (xl_Pk ?_)
     refine xm ?_
     refine xl_split 55 (fun g55=>?_) (fun g55=>?_)
     ·refine xl_gFb rfl EvO.eq ?_
      refine xl_gLc rfl EvO.eq ?_
      refine xl_gv rfl EvO.eq v_eql (xl_Pk ?_)
      refine xz ?_
      refine ⟨rfl,ii,evc (congrArg Value.bool ?_),ii,lkc⟩
      rw [Bool.eq_iff_iff]
      simp only [decide_eq_true_eq,decide_eq_false_iff_not,Bool.false_eq_true] at *
      simp only [fine2,fine1,in31] at *
      refine ⟨fun h=>?_,fun h=>?_⟩<;>first | exact h.elim | trivial | omega
     refine xl_gs rfl EvO.eq (xl_gs rfl EvO.eq (xl_gs rfl EvO.eq (xl_Pk ?_)))
     refine xz ?_
     refine ⟨rfl,ii,evc (congrArg Value.bool ?_),ii,lkc⟩
     rw [Bool.eq_iff_iff]
     simp only [decide_eq_true_eq,decide_eq_false_iff_not,Bool.false_eq_true] at *
     simp only [fine2,fine1,in31] at *
     refine ⟨fun h=>?_,fun h=>?_⟩<;>first | exact h.elim | trivial | omega
    refine xl_gs rfl EvO.eq (xl_gs rfl EvO.eq (xl_gs rfl EvO.eq (xl_Pk ?_)))
    refine xm (xl_gs rfl EvO.eq (xl_gs rfl EvO.eq (xl_gs rfl EvO.eq (xl_Pk ?_))))
    refine xz ?_
    refine ⟨rfl,ii,evc (congrArg Value.bool ?_),ii,lkc⟩
    rw [Bool.eq_iff_iff]
    simp only [decide_eq_true_eq,decide_eq_false_iff_not,Bool.false_eq_true] at *
    simp only [fine2,fine1,in31] at *
    refine ⟨fun h=>?_,fun h=>?_⟩<;>first | exact h.elim | trivial | omega
   refine xl_gs rfl EvO.eq (xl_gs rfl EvO.eq (xl_gs rfl EvO.eq (xl_Pk ?_)))
   refine xm (xl_gs rfl EvO.eq (xl_gs rfl EvO.eq (xl_gs rfl EvO.eq (xl_Pk ?_))))
   refine xm (xl_gs rfl EvO.eq (xl_gs rfl EvO.eq (xl_gs rfl EvO.eq (xl_Pk ?_))))
   refine xz ?_
   refine ⟨rfl,ii,evc (congrArg Value.bool ?_),ii,lkc⟩
   rw [Bool.eq_iff_iff]
   simp only [decide_eq_true_eq,decide_eq_false_iff_not,Bool.false_eq_true] at *
   simp only [fine2,fine1,in31] at *
   refine ⟨fun h=>?_,fun h=>?_⟩<;>first | exact h.elim | trivial | omega
  refine x_regionL (xz ?_)
  refine ⟨rfl,ii,evc (congrArg Value.bool ?_),ii,lkc⟩
  rw [Bool.eq_iff_iff]
  simp only [decide_eq_true_eq,decide_eq_false_iff_not,Bool.false_eq_true] at *
  simp only [fine2,fine1,in31] at *
  refine ⟨fun h=>?_,fun h=>?_⟩<;>first | exact h.elim | trivial | omega
 intro τ6 ds6 w6 hI
 obtain ⟨rfl,e1,e3,kb1,lk⟩:=hI
 refine x_cut (fun τ ds w'=>ds=[]/\Ev τ 3 (.bool (decide (Right e)))/\Lk w' w NoB) ?_ ?_
 ·refine xq (xl_Fb ?_)
  refine xl_Lc ?_
  refine xl_v v_geq (xl_nil ?_)
  refine x_if (fun c4=>?_) (fun c4=>?_)
  ·refine x_regionL (xm (xm ?_))
   refine xl_split 64 (fun g64=>?_) (fun g64=>?_)
   ·refine xl_gFb rfl EvO.eq ?_
    refine xl_gLc rfl EvO.eq ?_
    refine xl_gcall rfl EvO.eq (in_ok _ _ _ _) ?_
    rintro _ _ ⟨rfl,rfl⟩
    refine xl_Pk ?_
    refine xz ?_
    refine ⟨rfl,evc (congrArg Value.bool ?_),lkc⟩
    rw [Bool.eq_iff_iff]
    simp only [decide_eq_true_eq,decide_eq_false_iff_not,Bool.false_eq_true] at *
    simp only [right_iff,in31] at *
    (rw [if_pos (by omega)];refine ⟨fun h=>?_,fun h=>?_⟩<;>first | exact h.elim | trivial | omega)
   refine xl_gs rfl EvO.eq (xl_gs rfl EvO.eq (xl_gs rfl EvO.eq (xl_Pk ?_)))
   refine xz ?_
   refine ⟨rfl,evc (congrArg Value.bool ?_),lkc⟩
   rw [Bool.eq_iff_iff]
   simp only [decide_eq_true_eq,decide_eq_false_iff_not,Bool.false_eq_true] at *
   simp only [right_iff,in31] at *
   first
    | (rw [if_pos (by omega)];refine ⟨fun h=>?_,fun h=>?_⟩<;>first | exact h.elim | trivial | omega)
    | (rw [if_neg (by omega)];refine ⟨fun h=>?_,fun h=>?_⟩<;>first | exact h.elim | trivial | omega)
    | (split<;>simp_all<;>omega)
  refine x_regionL (xm (xm ?_))
  refine xl_split 70 (fun g70=>?_) (fun g70=>?_)
  ·refine xl_gFb rfl EvO.eq ?_
   refine xl_gLc rfl EvO.eq ?_
   refine xl_gv rfl EvO.eq v_eql (xl_Pk ?_)
   refine xz ?_
   refine ⟨rfl,evc (congrArg Value.bool ?_),lkc⟩
   rw [Bool.eq_iff_iff]
   simp only [decide_eq_true_eq,decide_eq_false_iff_not,Bool.false_eq_true] at *
   simp only [right_iff,in31] at *
   first
    | (rw [if_pos (by omega)];refine ⟨fun h=>?_,fun h=>?_⟩<;>first | exact h.elim | trivial | omega)
    | (rw [if_neg (by omega)];refine ⟨fun h=>?_,fun h=>?_⟩<;>first | exact h.elim | trivial | omega)
  refine xl_gs rfl EvO.eq (xl_gs rfl EvO.eq (xl_gs rfl EvO.eq (xl_Pk ?_)))
  refine xz ?_
  refine ⟨rfl,evc (congrArg Value.bool ?_),lkc⟩
  rw [Bool.eq_iff_iff]
  simp only [decide_eq_true_eq,decide_eq_false_iff_not,Bool.false_eq_true] at *
  simp only [right_iff,in31] at *
  first
   | (rw [if_pos (by omega)];refine ⟨fun h=>?_,fun h=>?_⟩<;>first | exact h.elim | trivial | omega)
   | (rw [if_neg (by omega)];refine ⟨fun h=>?_,fun h=>?_⟩<;>first | exact h.elim | trivial | omega)
   | (split<;>simp_all<;>omega)
 intro τ8 ds8 w8 hI
 obtain ⟨rfl,e3,lk⟩:=hI
 refine x_seq (xq (xm (xl_v v_not (xl_nil ?_))))
 refine x_if (fun c5=>?_) (fun c5=>?_)
 ·have hR:¬ Right e:=by first | assumption | simpa using c5
  refine xq (xz ?_)
  refine x_ret ?_
  refine fin1 rfl ?_
  exact ⟨congrArg (Value.int .i64) (if_neg hR).symm,lkc⟩
 have hR:Right e:=by first | assumption | simpa using c5
 refine x_skip (xq (xz ?_))
 refine x_ret ?_
 refine fin1 rfl ?_
 exact ⟨congrArg (Value.int .i64) (if_pos hR).symm,lkc⟩
abbrev fnV (f:FuncId):Value:=.func (.func f) ([]:List Value).toArray ([]:List Value).toArray
def hasV (b2 b3:Nat):Nat->Value
 | 0=>fnV 127
 | 1=>fnV 127
 | 2=>fnV 127
 | 3=>fnV 128
 | 4=>.func (.func 140) ([]:List Value).toArray [Value.pointer (some ⟨b3,0,none⟩),.pointer (some ⟨b2,0,none⟩)].toArray
 | _=>fnV 129
def wrV:Nat->Value
 | 0=>fnV 130
 | 1=>fnV 132
 | 2=>fnV 136
 | 3=>fnV 138
 | 4=>fnV 141
 | _=>fnV 143
def rdV:Nat->Value
 | 0=>fnV 131
 | 1=>fnV 134
 | 2=>fnV 137
 | 3=>fnV 139
 | 4=>fnV 142
 | _=>fnV 145
abbrev partC (b2 b3 k:Nat):List Value:=[hasV b2 b3 k,wrV k,rdV k]
def partsC (b2 b3:Nat):List Value:=(List.range 6).flatMap (partC b2 b3)
def hasB (e:En):Nat->Bool
 | 0=>true
 | 1=>true
 | 2=>true
 | 3=>decide (0<=e.id)
 | 4=>decide (e.kind=1) && decide (0<=e.id)
 | _=>decide (e.kind=1)
def wrB (e:En):Nat->By
 | 0=>[byteI e.kind]
 | 1=>numB e.epoch.toNat
 | 2=>[byteI (e.id+1)]
 | 3=>numB e.num.toNat
 | 4=>numB e.seq.toNat
 | _=>numB (zig e.val)
def bodyTo (e:En) (j:Nat):By:=(List.range j).flatMap (fun k=>if hasB e k then wrB e k else [])
theorem bodyTo_succ (e:En) (j:Nat):bodyTo e (j+1)=bodyTo e j++(if hasB e j then wrB e j else []):=by
 unfold bodyTo
 rw [List.range_succ,List.flatMap_append]
 simp
theorem bodyTo_all (e:En):bodyTo e 6=body e:=by
 have h:List.range 6=[0,1,2,3,4,5]:=rfl
 unfold bodyTo
 rw [h]
 simp [hasB,wrB,body]
theorem bodyTo_len {e:En} (h:Right e) {j:Nat} (hj:j<=6):(bodyTo e j).length<=35:=by
 have h1:=(body_len h).2
 rw [<- bodyTo_all] at h1
 have:∀ d,j+d<=6->(bodyTo e j).length<=(bodyTo e (j+d)).length:=by
  intro d
  induction d with
  | zero=>intro _;exact Nat.le_refl _
  | succ d ih=>
    intro hd
    have:=ih (by omega)
    rw [<- Nat.add_assoc,bodyTo_succ,List.length_append]
    omega
 have:=this (6 - j) (by omega)
 rw [show j+(6 - j)=6 by omega] at this
 omega
theorem byteI_wrap (a:Int):IntKind.u8.wrap a=((byteI a).toNat:Int):=by
 unfold byteI
 rw [toNat_ofNat (by omega)]
 simp [IntKind.wrap,IntKind.signed,IntKind.bits]
 omega
theorem partsC_get (b2 b3 k:Nat) (hk:k<6):((partsC b2 b3).drop (k*3)).take 3=partC b2 b3 k/\k*3+3<=(partsC b2 b3).length:=by
 match k,hk with
 | 0,_=>exact ⟨rfl,by have h:(partsC b2 b3).length=18:=rfl;omega⟩
 | 1,_=>exact ⟨rfl,by have h:(partsC b2 b3).length=18:=rfl;omega⟩
 | 2,_=>exact ⟨rfl,by have h:(partsC b2 b3).length=18:=rfl;omega⟩
 | 3,_=>exact ⟨rfl,by have h:(partsC b2 b3).length=18:=rfl;omega⟩
 | 4,_=>exact ⟨rfl,by have h:(partsC b2 b3).length=18:=rfl;omega⟩
 | 5,_=>exact ⟨rfl,by have h:(partsC b2 b3).length=18:=rfl;omega⟩
instance cells_hasV (b2 b3 k:Nat):Cell1 (hasV b2 b3 k):=by
 unfold hasV
 split<;>exact ⟨rfl⟩
instance cells_wrV (k:Nat):Cell1 (wrV k):=by
 unfold wrV
 split<;>exact ⟨rfl⟩
instance cells_rdV (k:Nat):Cell1 (rdV k):=by
 unfold rdV
 split<;>exact ⟨rfl⟩
theorem partsC_one (b2 b3:Nat):∀ u∈partsC b2 b3,u.oneCell'=true:=by
 intro u hu
 obtain ⟨k,_,hk⟩:=List.mem_flatMap.1 hu
 simp only [partC,List.mem_cons,List.not_mem_nil,or_false] at hk
 rcases hk with rfl | rfl | rfl
 ·exact Cell1.eq
 ·exact Cell1.eq
 ·exact Cell1.eq
instance cell1L_parts (b2 b3:Nat):Cell1L (partsC b2 b3):=⟨partsC_one b2 b3⟩
instance lenL_parts (b2 b3:Nat):LenL (partsC b2 b3) 18:=⟨rfl⟩
instance csput_parts (cs:Array Value) (b2 b3:Nat) [h:Siz cs 18]:CsPut cs 0 (partsC b2 b3) (partsC b2 b3).toArray:=csput_whole h.eq
instance cssub_parts (b2 b3:Nat):CsSub (partsC b2 b3) 0 18 (partsC b2 b3):=⟨rfl,Nat.le_refl _⟩
theorem parts_ok (w:World):Ret Tryz.prog 111 #[] w (fun v w'=>(∃ b2 b3,v=.agg (partsC b2 b3).toArray/\w'.heap[b2]?=some (.cells #[fnV 128] 113 (0,0))/\w'.heap[b3]?=some (.cells #[fnV 129] 113 (0,0))/\w.heap.size<=b2/\w.heap.size<=b3)/\Lk w' w NoB):=by
 refine ret_of_x (N:=17) (l:=[]) Tryz.func111 rfl rfl (Nat.le_of_ble_eq_true rfl) ?_
 refine xq ?_
 refine xl_e (e_alloc fun b1 w1 n1 l1 k1=>?_)
 refine xl_nil ?_
 refine xq (xz ?_)
 refine xq ?_
 refine xl_e (e_alloc fun b2 w2 n2 l2 k2=>?_)
 refine xl_s (e_store fun w3 l3 k3=>?_)
 refine xl_nil ?_
 refine xq ?_
 refine xl_e (e_alloc fun b3 w4 n3 l3 k3=>?_)
 refine xl_s (e_store fun w5 l5 k5=>?_)
 refine xl_nil ?_
 refine xq (xm (xl_v v_build (xm (xl_v v_build (xm (xl_v v_build (xl_Lc ?_)))))))
 refine xl_v v_build (xl_v v_makeFunc (xl_v v_build (xl_Lc ?_)))
 refine xl_v v_build ?_
 refine xl_v (v_buildAM (cs:=(partsC b2 b3).toArray) rfl) ?_
 refine xl_s (e_storeA fun w6 l6 k6=>?_)
 refine xl_nil ?_
 refine x_ret ?_
 refine finR (rs:=[.cell 0 174]) rfl ?_
 exact ⟨⟨b2,b3,by simp [outV],Blk.eq,Blk.eq,by rw [n2.eq];exact Ge.le,by rw [n3.eq];exact Ge.le⟩,lkc⟩
theorem p1_ok (e:En) (w:World):Ret Tryz.prog 127 #[.agg (enC e).toArray] w (fun v w'=>v=.bool true/\Lk w' w NoB):=by
 refine ret_of_x (N:=3) (l:=[.agg (enC e).toArray]) Tryz.func127 rfl rfl (Nat.le_of_ble_eq_true rfl) ?_
 refine xq ?_
 refine xl_e (e_box fun b1 w1 n1 l1 k1=>?_)
 refine xz ?_
 refine xq (xz ?_)
 refine x_ret ?_
 refine fin1 rfl ?_
 exact ⟨rfl,lkc⟩
theorem p2_ok (e:En) (w:World):Ret Tryz.prog 128 #[.agg (enC e).toArray] w (fun v w'=>v=.bool (decide (0<=e.id))/\Lk w' w NoB):=by
 refine ret_of_x (N:=6) (l:=[.agg (enC e).toArray]) Tryz.func128 rfl rfl (Nat.le_of_ble_eq_true rfl) ?_
 refine xq ?_
 refine xl_e (e_box fun b1 w1 n1 l1 k1=>?_)
 refine xz ?_
 refine xq (xl_Fb ?_)
 refine xl_Lc ?_
 refine xl_v v_geq (xz ?_)
 refine x_ret ?_
 refine fin1 rfl ?_
 exact ⟨rfl,lkc⟩
theorem p3_ok (e:En) (w:World):Ret Tryz.prog 129 #[.agg (enC e).toArray] w (fun v w'=>v=.bool (decide (e.kind=1))/\Lk w' w NoB):=by
 refine ret_of_x (N:=6) (l:=[.agg (enC e).toArray]) Tryz.func129 rfl rfl (Nat.le_of_ble_eq_true rfl) ?_
 refine xq ?_
 refine xl_e (e_box fun b1 w1 n1 l1 k1=>?_)
 refine xz ?_
 refine xq (xl_Fb ?_)
 refine xl_Lc ?_
 refine xl_v v_eql (xz ?_)
 refine x_ret ?_
 refine fin1 rfl ?_
 exact ⟨rfl,lkc⟩
theorem p12_ok (e:En) (b2 b3:Nat) (w:World) [h2:Blk w b2 (.cells #[fnV 128] 113 (0,0))] [h3:Blk w b3 (.cells #[fnV 129] 113 (0,0))]:Ret Tryz.prog 140 #[.agg (enC e).toArray,.pointer (some ⟨b3,0,none⟩),.pointer (some ⟨b2,0,none⟩)] w (fun v w'=>v=.bool (decide (e.kind=1) && decide (0<=e.id))/\Lk w' w NoB):=by
 refine ret_of_x (N:=13) (l:=[.agg (enC e).toArray,.pointer (some ⟨b3,0,none⟩),.pointer (some ⟨b2,0,none⟩)]) Tryz.func140 rfl rfl (Nat.le_of_ble_eq_true rfl) ?_
 refine xq ?_
 refine xl_e (e_box fun b1 w1 n1 l1 k1=>?_)
 refine xz ?_
 refine xq (xl_Lc ?_)
 refine xl_Lb ?_
 refine xl_call (p3_ok e w1) ?_
 rintro _ w2 ⟨rfl,lk2⟩
 refine xm ?_
 refine xl_split 8 (fun g8=>?_) (fun g8=>?_)
 ·refine xl_gLc rfl EvO.eq ?_
  refine xl_gLb rfl EvO.eq ?_
  refine xl_gcall rfl EvO.eq (p2_ok e w2) ?_
  rintro _ w3 ⟨rfl,lk6⟩
  refine xl_Pk ?_
  refine xz ?_
  refine x_ret ?_
  refine fin1 rfl ?_
  exact ⟨congrArg Value.bool (by simp_all),lkc⟩
 refine xl_gs rfl EvO.eq (xl_gs rfl EvO.eq (xl_gs rfl EvO.eq (xl_Pk ?_)))
 refine xz ?_
 refine x_ret ?_
 refine fin1 rfl ?_
 exact ⟨congrArg Value.bool (by simp_all),lkc⟩
theorem has_ok (e:En) (b2 b3 k:Nat) (w:World) (h2:w.heap[b2]?=some (.cells #[fnV 128] 113 (0,0))) (h3:w.heap[b3]?=some (.cells #[fnV 129] 113 (0,0))) (hk:k<6) :
    CallV Tryz.prog (hasV b2 b3 k) [.agg (enC e).toArray] w (fun v w'=>v=.bool (hasB e k)/\Lk w' w NoB):=by
 haveI:Blk w b2 _:=⟨h2⟩
 haveI:Blk w b3 _:=⟨h3⟩
 match k,hk with
 | 0,_=>exact CallV.of_ret (a:=[]) (c:=[]) (p1_ok e w)
 | 1,_=>exact CallV.of_ret (a:=[]) (c:=[]) (p1_ok e w)
 | 2,_=>exact CallV.of_ret (a:=[]) (c:=[]) (p1_ok e w)
 | 3,_=>exact CallV.of_ret (a:=[]) (c:=[]) (p2_ok e w)
 | 4,_=>exact CallV.of_ret (a:=[]) (c:=[Value.pointer (some ⟨b3,0,none⟩),.pointer (some ⟨b2,0,none⟩)]) (p12_ok e b2 b3 w)
 | 5,_=>exact CallV.of_ret (a:=[]) (c:=[]) (p3_ok e w)
def Apps (V:Value) (ml base:Nat) (bs out:By) (w:World):Value->World->Prop:=fun v w'=>
 (∃ A c,v=.slice A (ml+out.length) c/\w'.ownsRow base 5 1 v (ml+out.length) (bytesC (bs++out))/\From v V w)/\Lk w' w (OwnB V)
theorem w0_ok (V:Value) (ml:Nat) (bs:List UInt8) (e:En) (base:Nat) (w:World) (hown:w.ownsRow base 5 1 V ml (bytesC bs)) (hb:base<=w.heap.size) (hm:ml<=1000000) (hr:Right e):Ret Tryz.prog 130 #[V,.agg (enC e).toArray] w (Apps V ml base bs [byteI (e.kind)] w):=by
 have hr1:=hr.2.2.2.1
 have hr2:=hr.2.2.2.2.1
 refine ret_of_x (N:=11) (l:=[V,.agg (enC e).toArray]) Tryz.func130 rfl rfl (Nat.le_of_ble_eq_true rfl) ?_
 refine xq ?_
 refine xl_e (e_box fun b1 w1 n1 l1 k1=>?_)
 refine xz ?_
 refine xq (xm (xl_Fb ?_))
 refine xl_Lc ?_
 refine xl_v (v_congr (u:=.int .u8 ((byteI (e.kind)).toNat:Int)) v_convert (congrArg (Value.int .u8) (byteI_wrap _))) ?_
 refine xl_e (e_buildSlice1 rfl fun b5 w2 n5 l5 k5=>?_)
 have hge6:w.heap.size<=(w2).heap.size:=Ge.le
 refine xl_e (e_append' (own_ext hown lkc) (Nat.le_trans hb Ge.le) rfl Cell1L.eq (by decide) (.inl rfl) (by omega) (by omega) fun A6 c6 w3 hown2 l6 hn6=>?_)
 refine xz ?_
 refine x_ret ?_
 refine fin1 rfl ?_
 refine ⟨⟨A6,c6,rfl,?_,From.app (.inl rfl) hn6 hge6⟩,lkc⟩
 rw [<- bytesC_append]
 exact hown2
theorem w2_ok (V:Value) (ml:Nat) (bs:List UInt8) (e:En) (base:Nat) (w:World) (hown:w.ownsRow base 5 1 V ml (bytesC bs)) (hb:base<=w.heap.size) (hm:ml<=1000000) (hr:Right e):Ret Tryz.prog 136 #[V,.agg (enC e).toArray] w (Apps V ml base bs [byteI (e.id+1)] w):=by
 have hr1:=hr.2.2.2.1
 have hr2:=hr.2.2.2.2.1
 refine ret_of_x (N:=12) (l:=[V,.agg (enC e).toArray]) Tryz.func136 rfl rfl (Nat.le_of_ble_eq_true rfl) ?_
 refine xq ?_
 refine xl_e (e_box fun b1 w1 n1 l1 k1=>?_)
 refine xz ?_
 refine xq (xm (xl_Fb ?_))
 refine xl_Lc ?_
 refine xl_v (v_add (by omega)) ?_
 refine xl_v (v_congr (u:=.int .u8 ((byteI (e.id+1)).toNat:Int)) v_convert (congrArg (Value.int .u8) (byteI_wrap _))) ?_
 refine xl_e (e_buildSlice1 rfl fun b5 w2 n5 l5 k5=>?_)
 have hge6:w.heap.size<=(w2).heap.size:=Ge.le
 refine xl_e (e_append' (own_ext hown lkc) (Nat.le_trans hb Ge.le) rfl Cell1L.eq (by decide) (.inl rfl) (by omega) (by omega) fun A6 c6 w3 hown2 l6 hn6=>?_)
 refine xz ?_
 refine x_ret ?_
 refine fin1 rfl ?_
 refine ⟨⟨A6,c6,rfl,?_,From.app (.inl rfl) hn6 hge6⟩,lkc⟩
 rw [<- bytesC_append]
 exact hown2
theorem From.mono {v V:Value} {w w1:World} (h:From v V w1) (hg:w.heap.size<=w1.heap.size):From v V w:=h.imp id (fun ⟨j,h1,h2⟩=>⟨j,h1,Nat.le_trans hg h2⟩)
theorem w1_ok (V:Value) (ml:Nat) (bs:List UInt8) (e:En) (base:Nat) (w:World) (hown:w.ownsRow base 5 1 V ml (bytesC bs)) (hb:base<=w.heap.size) (hm:ml<=1000000) (h0:0<=e.epoch) (h1:e.epoch<=2147483647):Ret Tryz.prog 132 #[V,.agg (enC e).toArray] w (Apps V ml base bs (numB e.epoch.toNat) w):=by
 have hx:((e.epoch.toNat:Nat):Int)=e.epoch:=by omega
 refine ret_of_x (N:=9) (l:=[V,.agg (enC e).toArray]) Tryz.func132 rfl rfl (Nat.le_of_ble_eq_true rfl) ?_
 refine xq ?_
 refine xl_e (e_box fun b1 w1 n1 l1 k1=>?_)
 refine xz ?_
 refine xq (xm (xl_Fb ?_))
 refine xl_Lc ?_
 refine xl_call ((by rw [<- hx];exact numberI_ok V ml bs e.epoch.toNat base w1 (own_ext hown lkc) (Nat.le_trans hb Ge.le) (by omega) hm)) ?_
 rintro _ w2 ⟨⟨A,c,rfl,ho,hf⟩,lk⟩
 refine xz ?_
 refine x_ret ?_
 refine fin1 rfl ?_
 exact ⟨⟨A,c,rfl,ho,hf.mono Ge.le⟩,lkc⟩
theorem w3_ok (V:Value) (ml:Nat) (bs:List UInt8) (e:En) (base:Nat) (w:World) (hown:w.ownsRow base 5 1 V ml (bytesC bs)) (hb:base<=w.heap.size) (hm:ml<=1000000) (h0:0<=e.num) (h1:e.num<=2147483647):Ret Tryz.prog 138 #[V,.agg (enC e).toArray] w (Apps V ml base bs (numB e.num.toNat) w):=by
 have hx:((e.num.toNat:Nat):Int)=e.num:=by omega
 refine ret_of_x (N:=9) (l:=[V,.agg (enC e).toArray]) Tryz.func138 rfl rfl (Nat.le_of_ble_eq_true rfl) ?_
 refine xq ?_
 refine xl_e (e_box fun b1 w1 n1 l1 k1=>?_)
 refine xz ?_
 refine xq (xm (xl_Fb ?_))
 refine xl_Lc ?_
 refine xl_call ((by rw [<- hx];exact numberI_ok V ml bs e.num.toNat base w1 (own_ext hown lkc) (Nat.le_trans hb Ge.le) (by omega) hm)) ?_
 rintro _ w2 ⟨⟨A,c,rfl,ho,hf⟩,lk⟩
 refine xz ?_
 refine x_ret ?_
 refine fin1 rfl ?_
 exact ⟨⟨A,c,rfl,ho,hf.mono Ge.le⟩,lkc⟩
theorem w4_ok (V:Value) (ml:Nat) (bs:List UInt8) (e:En) (base:Nat) (w:World) (hown:w.ownsRow base 5 1 V ml (bytesC bs)) (hb:base<=w.heap.size) (hm:ml<=1000000) (h0:0<=e.seq) (h1:e.seq<=2147483647):Ret Tryz.prog 141 #[V,.agg (enC e).toArray] w (Apps V ml base bs (numB e.seq.toNat) w):=by
 have hx:((e.seq.toNat:Nat):Int)=e.seq:=by omega
 refine ret_of_x (N:=9) (l:=[V,.agg (enC e).toArray]) Tryz.func141 rfl rfl (Nat.le_of_ble_eq_true rfl) ?_
 refine xq ?_
 refine xl_e (e_box fun b1 w1 n1 l1 k1=>?_)
 refine xz ?_
 refine xq (xm (xl_Fb ?_))
 refine xl_Lc ?_
 refine xl_call ((by rw [<- hx];exact numberI_ok V ml bs e.seq.toNat base w1 (own_ext hown lkc) (Nat.le_trans hb Ge.le) (by omega) hm)) ?_
 rintro _ w2 ⟨⟨A,c,rfl,ho,hf⟩,lk⟩
 refine xz ?_
 refine x_ret ?_
 refine fin1 rfl ?_
 exact ⟨⟨A,c,rfl,ho,hf.mono Ge.le⟩,lkc⟩
theorem w5_ok (V:Value) (ml:Nat) (bs:List UInt8) (e:En) (base:Nat) (w:World) (hown:w.ownsRow base 5 1 V ml (bytesC bs)) (hb:base<=w.heap.size) (hm:ml<=1000000) (h0:-2147483648<=e.val) (h1:e.val<=2147483647):Ret Tryz.prog 143 #[V,.agg (enC e).toArray] w (Apps V ml base bs (numB (zig e.val)) w):=by
 refine ret_of_x (N:=9) (l:=[V,.agg (enC e).toArray]) Tryz.func143 rfl rfl (Nat.le_of_ble_eq_true rfl) ?_
 refine xq ?_
 refine xl_e (e_box fun b1 w1 n1 l1 k1=>?_)
 refine xz ?_
 refine xq (xm (xl_Fb ?_))
 refine xl_Lc ?_
 refine xl_call (signed_ok V ml bs e.val base w1 (own_ext hown lkc) (Nat.le_trans hb Ge.le) h0 h1 hm) ?_
 rintro _ w2 ⟨⟨A,c,rfl,ho,hf⟩,lk⟩
 refine xz ?_
 refine x_ret ?_
 refine fin1 rfl ?_
 exact ⟨⟨A,c,rfl,ho,hf.mono Ge.le⟩,lkc⟩
theorem wr_ok (V:Value) (ml:Nat) (bs:List UInt8) (e:En) (base k:Nat) (w:World) (hown:w.ownsRow base 5 1 V ml (bytesC bs)) (hb:base<=w.heap.size) (hm:ml<=1000000) (hr:Right e) (hk:k<6) (hh:hasB e k=true) :
    CallV Tryz.prog (wrV k) [V,.agg (enC e).toArray] w (Apps V ml base bs (wrB e k) w):=by
 obtain ⟨h1,h2,h3,h4,h5,h6,h7,h8,h9,h10⟩:=id hr
 unfold in31 at *
 match k,hk with
 | 0,_=>exact CallV.of_ret (a:=[]) (c:=[]) (w0_ok V ml bs e base w hown hb hm hr)
 | 1,_=>exact CallV.of_ret (a:=[]) (c:=[]) (w1_ok V ml bs e base w hown hb hm (by omega) (by omega))
 | 2,_=>exact CallV.of_ret (a:=[]) (c:=[]) (w2_ok V ml bs e base w hown hb hm hr)
 | 3,_=>
   have hi:0<=e.id:=by simpa [hasB] using hh
   exact CallV.of_ret (a:=[]) (c:=[]) (w3_ok V ml bs e base w hown hb hm (by have:=h8 hi;omega) (by have:=h8 hi;omega))
 | 4,_=>exact CallV.of_ret (a:=[]) (c:=[]) (w4_ok V ml bs e base w hown hb hm (by omega) (by omega))
 | 5,_=>exact CallV.of_ret (a:=[]) (c:=[]) (w5_ok V ml bs e base w hown hb hm (by omega) (by omega))
theorem tdivN (q m:Nat):(q:Int).tdiv (m:Int)=((q / m:Nat):Int):=(Int.ofNat_tdiv q m).symm
theorem tmodN (q m:Nat):(q:Int).tmod (m:Int)=((q % m:Nat):Int):=(Int.ofNat_tmod q m).symm
theorem u32N {y:Nat} (h:y<4294967296):IntKind.u32.wrap (y:Int)=(y:Int):=by
 simp [IntKind.wrap,IntKind.signed,IntKind.bits];omega
theorem quo2W (x:W32):IntKind.u32.wrap ((x.toNat:Int).tdiv 2)=((x >>> 1).toNat:Int):=by
 have h:=x.isLt
 rw [show (2:Int)=((2:Nat):Int) from rfl,tdivN,u32N (by omega),BitVec.toNat_ushiftRight,Nat.shiftRight_eq_div_pow]
theorem byteW_nat (c:UInt8):(byteW c).toNat=c.toNat:=by
 have h:=c.toNat_lt
 unfold byteW
 rw [BitVec.toNat_setWidth,Nat.mod_eq_of_lt (by show c.toNat<_;omega)]
 rfl
theorem bit1_if (x:W32):bit1 x=if x.toNat % 2=1 then (x >>> 1) ^^^ poly else x >>> 1:=by
 unfold bit1
 rw [bit0]
 by_cases h:x.toNat % 2=1<;>simp [h]
theorem notW (x:W32):IntKind.u32.wrap (4294967295 - (x.toNat:Int))=((~~~ x).toNat:Int):=by
 have h:=x.isLt
 rw [BitVec.toNat_not]
 simp [IntKind.wrap,IntKind.signed,IntKind.bits]
 omega
def OwnBy (v:Value) (bs:By) (base:Nat) (w:World):Prop:=∃ A c,v=.slice A bs.length c/\w.ownsRow base 5 1 (.slice A bs.length c) bs.length (bytesC bs)
theorem dxor_ok (a b:W32) (w:World):Ret Tryz.prog 173 #[.int .u32 (a.toNat:Int),.int .u32 (b.toNat:Int)] w (fun v w'=>v=.int .u32 ((a ^^^ b).toNat:Int)/\w=w'):=by
 refine ret_of_x (N:=8) (l:=[.int .u32 (a.toNat:Int),.int .u32 (b.toNat:Int)]) Tryz.func173 rfl rfl (Nat.le_of_ble_eq_true rfl) ?_
 refine xq (xz ?_)
 refine xq (xm (xm ?_))
 refine xl_v (v_congr (u:=.int .u32 ((a ^^^ b).toNat:Int)) v_xor (congrArg (Value.int .u32) (xorW a b))) ?_
 refine xz ?_
 refine x_ret ?_
 refine fin1 rfl ?_
 exact ⟨rfl,rfl⟩
theorem drun_ok (x:W32) (A:Option Addr) (n c:Nat) (bs:By) (w:World) [hr0:Row w A (bytesC bs)] (hl:bs.length=n) (hn:n<=100000000):Ret Tryz.prog 154 #[.int .u32 (x.toNat:Int),.slice A n c] w (fun v w'=>v=.int .u32 ((runW x bs).toNat:Int)/\Lk w' w NoB):=by
 haveI hr:RowB w A w (bytesC bs):=rowB_of hr0.row
 refine ret_of_x (N:=34) (l:=[.int .u32 (x.toNat:Int),.slice A n c]) Tryz.func154 rfl rfl (Nat.le_of_ble_eq_true rfl) ?_
 refine xq (xz ?_)
 refine x_seq (xq (xz ?_))
 refine x_block ?_
 refine x_loop (fun t τ ds w'=>ds=[]/\∃ k:Nat,t=n - k/\k<=n/\Ev τ 0 (.int .u32 ((runW x (bs.take k)).toNat:Int))/\Ev τ 1 (.slice A n c)/\Ev τ 5 (.int .i64 (k:Int))/\Lk w' w NoB) (n) ?start ?round
 case start=>
  exact ⟨rfl,0,rfl,Nat.zero_le _,ii,ii,evc,lkc⟩
 case round=>
  intro m τ1 ds1 w1 hI
  obtain ⟨rfl,k,rfl,hk,e0,e1,e5,lk⟩:=hI
  obtain ⟨y,hy⟩:∃ y,y=runW x (bs.take k):=⟨_,rfl⟩
  rw [<- hy] at e0
  refine x_seq (xq (xm (xm (xl_v v_len (xl_v v_lss (xl_nil ?_))))))
  refine x_if (fun c1=>?_) (fun c1=>?_)
  ·have hk1:k<bs.length:=by omega
   refine x_skip (x_seq (x_block (xq (xm (xm (xm ?_))))))
   refine xl_v (v_indexO k rfl (by omega) hk1) ?_
   refine xl_v (v_loadO (k:=k) hk1) ?_
   refine xl_v (v_congr (u:=.int .u32 ((byteW bs[k]).toNat:Int)) v_convert (congrArg (Value.int .u32) (by rw [byteW_nat];exact u32N (by have:=bs[k].toNat_lt;omega)))) ?_
   refine xl_call (dxor_ok y (byteW bs[k]) w1) ?_
   rintro _ _ ⟨rfl,rfl⟩
   refine xz ?_
   refine xq (xz ?_)
   refine x_block ?_
   refine x_loop (fun t τ ds w'=>ds=[]/\∃ j:Nat,t=8 - j/\j<=8/\Ev τ 0 (.int .u32 ((bitsN (y ^^^ byteW bs[k]) j).toNat:Int))/\Ev τ 1 (.slice A n c)/\Ev τ 5 (.int .i64 (k:Int))/\Ev τ 6 (.int .i64 (j:Int))/\Lk w' w NoB) (8) ?start ?round
   case start=>
    exact ⟨rfl,0,rfl,Nat.zero_le _,ii,ii,ii,evc,lkc⟩
   case round=>
    intro m τ3 ds3 w3 hI
    obtain ⟨rfl,j,rfl,hj,e0,e1,e5,e6,lk⟩:=hI
    obtain ⟨q,hq⟩:∃ q,q=bitsN (y ^^^ byteW bs[k]) j:=⟨_,rfl⟩
    rw [<- hq] at e0
    refine x_seq (xq (xm (xl_v v_lss (xl_nil ?_))))
    refine x_if (fun c2=>?_) (fun c2=>?_)
    ·refine x_skip (x_seq (x_block (xq (xm ?_))))
     refine xl_v (v_congr (u:=.int .u32 ((q.toNat % 2:Nat):Int)) (v_rem (by decide)) (congrArg (Value.int .u32) (tmodN q.toNat 2))) ?_
     refine xz ?_
     refine xq (xm ?_)
     refine xl_v (v_congr (u:=.int .u32 ((q >>> 1).toNat:Int)) (v_quo (by decide)) (congrArg (Value.int .u32) (quo2W q))) ?_
     refine xz ?_
     refine xq (xm (xl_v v_eql (xl_nil ?_)))
     refine x_if (fun c3=>?_) (fun c3=>?_)
     ·refine x_regionL (xm ?_)
      refine xl_call (dxor_ok (q >>> 1) poly w3) ?_
      rintro _ _ ⟨rfl,rfl⟩
      refine xz ?_
      refine x_regionL (xm ?_)
      refine xl_v (v_add (by omega)) ?_
      refine xz ?_
      refine ⟨_,?_,rfl,j+1,rfl,by omega,?_,ii,ii,evc,lkc⟩
      ·omega
      ·rw [bits_succ,<- hq,bit1_if]
       (rw [if_pos (by omega)];infer_instance)
     refine x_skip (x_regionL (xm ?_))
     refine xl_v (v_add (by omega)) ?_
     refine xz ?_
     refine ⟨_,?_,rfl,j+1,rfl,by omega,?_,ii,ii,evc,lkc⟩
     ·omega
     ·rw [bits_succ,<- hq,bit1_if]
      first
       | (rw [if_pos (by omega)];infer_instance)
       | (rw [if_neg (by omega)];infer_instance)
    have hj8:j=8:=by omega
    subst hj8
    have hb8:bitsN (y ^^^ byteW bs[k]) 8=bit8 (y ^^^ byteW bs[k]):=rfl
    rw [hb8] at hq
    subst hq
    refine x_exit (x_regionL (xm ?_))
    refine xl_v (v_add (by omega)) ?_
    refine xz ?_
    refine ⟨_,?_,rfl,k+1,rfl,by omega,?_,ii,evc,lkc⟩
    ·omega
    ·rw [List.take_succ_eq_append_getElem hk1,runW_snoc,<- hy]
     infer_instance
  refine x_exit (xq (xm (xz ?_)))
  refine x_ret ?_
  refine fin1 rfl ?_
  refine ⟨?_,lkc⟩
  rw [hy,List.take_of_length_le (by omega)]
theorem dsum_ok (A:Option Addr) (n c:Nat) (bs:By) (w:World) [hr0:Row w A (bytesC bs)] (hl:bs.length=n) (hn:n<=100000000):Ret Tryz.prog 120 #[.slice A n c] w (fun v w'=>v=.int .u32 ((sumW bs).toNat:Int)/\Lk w' w NoB):=by
 refine ret_of_x (N:=6) (l:=[.slice A n c]) Tryz.func120 rfl rfl (Nat.le_of_ble_eq_true rfl) ?_
 refine xq (xz ?_)
 refine xq (xm ?_)
 refine xl_call (drun_ok (~~~ 0#32) A n c bs w hl hn) ?_
 rintro _ w1 ⟨rfl,lk⟩
 refine xl_v (v_congr (u:=.int .u32 ((sumW bs).toNat:Int)) v_subw (congrArg (Value.int .u32) (notW _))) ?_
 refine xz ?_
 refine x_ret ?_
 refine fin1 rfl ?_
 exact ⟨rfl,lkc⟩
theorem dnumber_ok (x:Nat) (w:World) (hx:x<9223372036854775808):Ret Tryz.prog 121 #[.int .i64 (x:Int)] w (fun v w'=>OwnBy v (numB x) w.heap.size w'/\Lk w' w NoB):=by
 have hx9:=(numB_len 9 x (by omega) (by omega)).1
 refine ret_of_x (N:=20) (l:=[.int .i64 (x:Int)]) Tryz.func121 rfl rfl (Nat.le_of_ble_eq_true rfl) ?_
 refine xq (xz ?_)
 refine xq (xz ?_)
 refine x_seq (x_block ?_)
 refine x_loop (fun t τ ds w'=>ds=[]/\∃ (y:Nat) (pre:List UInt8) (A1:Option Addr) (c1:Nat),t=y/\y<9223372036854775808/\numB x=pre++numB y/\w'.ownsRow w.heap.size 5 1 (.slice A1 pre.length c1) pre.length (bytesC pre)/\Ev τ 0 (.int .i64 (y:Int))/\Ev τ 3 (.slice A1 pre.length c1)/\Lk w' w NoB) (x) ?start ?round
 case start=>
  exact ⟨rfl,x,[],none,0,rfl,hx,rfl,World.ownsRow_nil _ _ _ _,ii,ii,lkc⟩
 case round=>
  intro m τ1 ds1 w1 hI
  obtain ⟨rfl,y,pre,A1,c1,rfl,hy,hxy,ho,e0,e3,lk⟩:=hI
  have hpl:pre.length<=9:=by have:=congrArg List.length hxy;simp at this;omega
  haveI:=ownN_of ho (Nat.le_refl _)
  refine x_seq (xq (xm (xl_v v_geq (xl_nil ?_))))
  refine x_if (fun c1=>?_) (fun c1=>?_)
  ·have hbig:¬ m<128:=by omega
   have hlen:(pre++[UInt8.ofNat (m % 128+128)]).length=pre.length+1:=by simp
   refine x_skip (x_block (xq (xm (xm ?_))))
   refine xl_v (v_congr (u:=.int .i64 ((m % 128:Nat):Int)) (v_rem (by decide)) (congrArg (Value.int .i64) (tmodN m 128))) ?_
   refine xl_v (v_congr (u:=.int .u8 ((m % 128:Nat):Int)) v_convert (congrArg (Value.int .u8) (by rw [u8wrap];congr 1;omega))) ?_
   refine xl_v (v_congr (u:=.int .u8 ((UInt8.ofNat (m % 128+128)).toNat:Int)) v_addw (congrArg (Value.int .u8) (by rw [show ((m % 128:Nat):Int)+128=((m % 128+128:Nat):Int) from rfl];exact byte_of _ (by omega)))) ?_
   refine xl_e (e_buildSlice1 rfl fun b5 w2 n5 l5 k5=>?_)
   refine xl_e (e_append' (own_ext ho lkc) Ge.le rfl Cell1L.eq (by decide) (.inl rfl) (by omega) (by omega) fun A6 c6 w3 hown2 l6 hn6=>?_)
   have hown2:World.ownsRow w3 w.heap.size 5 1 (.slice A6 (pre.length+1) c6) (pre.length+1) (bytesC (pre++[UInt8.ofNat (m % 128+128)])):=by
    rw [<- bytesC_append]
    exact hown2
   refine xz ?_
   refine x_regionL (xm ?_)
   refine xl_v (v_congr (u:=.int .i64 ((m / 128:Nat):Int)) (v_quo (by decide)) (congrArg (Value.int .i64) (by rw [show (128:Int)=((128:Nat):Int) from rfl,tdivN];exact wrap_in (by omega) (by omega)))) ?_
   refine xz ?_
   refine ⟨_,?_,rfl,m / 128,pre++[UInt8.ofNat (m % 128+128)],A6,c6,rfl,by omega,?_,?_,ii,?_,lkc⟩
   ·omega
   ·rw [hxy,numB_big hbig];simp
   ·rw [hlen];exact hown2
   ·rw [hlen];infer_instance
  have hsm:m<128:=by omega
  have hnx:numB x=pre++[UInt8.ofNat m]:=by rw [hxy,numB_small hsm]
  have hlen:(numB x).length=pre.length+1:=by rw [hnx];simp
  refine x_exit (xq (xm (xm ?_)))
  refine xl_v (v_congr (u:=.int .u8 ((UInt8.ofNat m).toNat:Int)) v_convert (congrArg (Value.int .u8) (byte_of m (by omega)))) ?_
  refine xl_e (e_buildSlice1 rfl fun b5 w4 n5 l5 k5=>?_)
  refine xl_e (e_append' (own_ext ho lkc) Ge.le rfl Cell1L.eq (by decide) (.inl rfl) (by omega) (by omega) fun A6 c6 w5 hown2 l6 hn6=>?_)
  refine xz ?_
  refine x_ret ?_
  refine fin1 rfl ?_
  refine ⟨⟨A6,c6,by rw [hlen],?_⟩,lkc⟩
  rw [hlen,hnx,<- bytesC_append]
  exact hown2
theorem dsigned_ok (x:Int) (w:World) (h0:-2147483648<=x) (h1:x<=2147483647):Ret Tryz.prog 122 #[.int .i64 x] w (fun v w'=>OwnBy v (numB (zig x)) w.heap.size w'/\Lk w' w NoB):=by
 refine ret_of_x (N:=12) (l:=[.int .i64 x]) Tryz.func122 rfl rfl (Nat.le_of_ble_eq_true rfl) ?_
 refine xq (xz ?_)
 refine x_seq (xq (xm (xl_v v_lss (xl_nil ?_))))
 refine x_if (fun c1=>?_) (fun c1=>?_)
 ·refine xq (xm ?_)
  refine xl_v (v_mul (by omega)) ?_
  refine xl_v (v_congr (u:=.int .i64 ((zig x:Nat):Int)) (v_sub (by omega)) (congrArg (Value.int .i64) (by unfold zig;rw [if_pos (by omega)];omega))) ?_
  refine xl_call (dnumber_ok (zig x) w (by unfold zig;split<;>omega)) ?_
  rintro _ w1 ⟨ho,lk⟩
  refine xz ?_
  refine x_ret ?_
  refine fin1 rfl ?_
  exact ⟨ho,lkc⟩
 refine x_skip (xq (xm ?_))
 refine xl_v (v_congr (u:=.int .i64 ((zig x:Nat):Int)) (v_mul (by omega)) (congrArg (Value.int .i64) (by unfold zig;rw [if_neg (by omega)];omega))) ?_
 refine xl_call (dnumber_ok (zig x) w (by unfold zig;split<;>omega)) ?_
 rintro _ w2 ⟨ho,lk⟩
 refine xz ?_
 refine x_ret ?_
 refine fin1 rfl ?_
 exact ⟨ho,lkc⟩
end Go.Proofs.YtigmfcgeljjgnaaGreatDoor
