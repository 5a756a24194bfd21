/- A part of the walks through the log and its document, and of the law in plain Lean: GB GC GD GK GE. -/
import Derived.Test.YtigmfcgeljjgnaaGreatJ08
set_option linter.all false
set_option maxRecDepth 100000
set_option synthInstance.maxSize 100000
set_option synthInstance.maxHeartbeats 400000
namespace Go.Proofs.YtigmfcgeljjgnaaGreat
open Go.Wst
open Go.Wst.Dm Go.Wst.Sg
abbrev enC (e:En):List Value:=[.int .i64 e.epoch,.int .i64 e.id,.int .i64 e.num,.int .i64 e.seq,.int .i64 e.kind,.int .i64 e.val]
instance encN_en:EncN enC 6:=⟨fun _=>rfl⟩
theorem u8wrap (y:Nat):IntKind.u8.wrap (y:Int)=((y % 256:Nat):Int):=by simp [IntKind.wrap,IntKind.signed,IntKind.bits]
theorem or128:∀ b:BitVec 8,(b ||| 128#8).toNat=b.toNat % 128+128:=by decide
theorem byte_or (y:Nat):IntKind.u8.wrap ((BitVec.ofInt IntKind.u8.bits (IntKind.u8.wrap (y:Int)) ||| BitVec.ofInt IntKind.u8.bits 128).toNat:Int)=((UInt8.ofNat (y % 128+128)).toNat:Int):=by
 show IntKind.u8.wrap (((BitVec.ofInt 8 (IntKind.u8.wrap (y:Int)) ||| 128#8).toNat:Nat):Int)=_
 rw [u8wrap y,BitVec.ofInt_natCast,or128,u8wrap,toNat_ofNat (by omega),BitVec.toNat_ofNat]
 congr 1
 omega
theorem byte_of (y:Nat) (h:y<256):IntKind.u8.wrap (y:Int)=((UInt8.ofNat y).toNat:Int):=by rw [u8wrap,toNat_ofNat h,Nat.mod_eq_of_lt h]
theorem shr7 (k:IntKind) (y:Nat) (h:7<=k.bits):(y:Int).fdiv (2 ^ min (7:Int).toNat k.bits)=((y / 128:Nat):Int):=by
 have e:min (7:Int).toNat k.bits=7:=by show min 7 k.bits=7;omega
 rw [e,Int.fdiv_eq_ediv_of_nonneg _ (by decide)]
 exact (Int.natCast_ediv _ _).symm
theorem shr1 (k:IntKind) (y:Nat) (h:1<=k.bits):(y:Int).fdiv (2 ^ min (1:Int).toNat k.bits)=((y / 2:Nat):Int):=by
 have e:min (1:Int).toNat k.bits=1:=by show min 1 k.bits=1;omega
 rw [e,Int.fdiv_eq_ediv_of_nonneg _ (by decide)]
 exact (Int.natCast_ediv _ _).symm
theorem u64wrap {y:Int} (h0:0<=y) (h1:y<18446744073709551616):IntKind.u64.wrap y=y:=by
 simp [IntKind.wrap,IntKind.signed,IntKind.bits];omega
theorem u64neg {y:Int} (h0:-9223372036854775808<=y) (h1:y<0):IntKind.u64.wrap y=y+18446744073709551616:=by
 simp [IntKind.wrap,IntKind.signed,IntKind.bits];omega
theorem zig_bits {v:Int} (h0:-2147483648<=v) (h1:v<=2147483647):IntKind.u64.wrap ((BitVec.ofInt IntKind.u64.bits (IntKind.u64.wrap (IntKind.i64.wrap (v*2 ^ min (1:Int).toNat IntKind.i64.bits))) ^^^ BitVec.ofInt IntKind.u64.bits (IntKind.u64.wrap (v.fdiv (2 ^ min (63:Int).toNat IntKind.i64.bits)))).toNat:Int)=((zig v:Nat):Int):=by
 have e1:IntKind.i64.wrap (v*2 ^ min (1:Int).toNat IntKind.i64.bits)=2*v:=by
  show IntKind.i64.wrap (v*2 ^ 1)=_
  rw [wrap_in (by omega) (by omega)];omega
 have e2:v.fdiv (2 ^ min (63:Int).toNat IntKind.i64.bits)=if v<0 then -1 else 0:=by
  show v.fdiv (2 ^ 63)=_
  rw [Int.fdiv_eq_ediv_of_nonneg _ (by decide)]
  split<;>omega
 rw [e1,e2]
 show IntKind.u64.wrap (((BitVec.ofInt 64 (IntKind.u64.wrap (2*v)) ^^^ BitVec.ofInt 64 (IntKind.u64.wrap (if v<0 then -1 else 0))).toNat:Nat):Int)=_
 unfold zig
 by_cases hv:v<0
 ·have e4:IntKind.u64.wrap (2*v)=2*v+18446744073709551616:=u64neg (by omega) (by omega)
  rw [if_pos hv,if_pos hv,e4]
  have e3:BitVec.ofInt 64 (IntKind.u64.wrap (-1))=BitVec.allOnes 64:=by decide
  rw [e3,BitVec.xor_allOnes]
  obtain ⟨n,hn⟩:∃ n:Nat,2*v+18446744073709551616=(n:Int):=⟨(2*v+18446744073709551616).toNat,by omega⟩
  rw [hn,BitVec.ofInt_natCast,BitVec.toNat_not,BitVec.toNat_ofNat]
  have:n % 2 ^ 64=n:=Nat.mod_eq_of_lt (by omega)
  rw [this,u64wrap (by omega) (by omega)]
  omega
 ·have e4:IntKind.u64.wrap (2*v)=2*v:=u64wrap (by omega) (by omega)
  rw [if_neg hv,if_neg hv,e4]
  have e3:BitVec.ofInt 64 (IntKind.u64.wrap 0)=0#64:=by decide
  rw [e3,BitVec.xor_zero]
  obtain ⟨n,hn⟩:∃ n:Nat,2*v=(n:Int):=⟨(2*v).toNat,by omega⟩
  rw [hn,BitVec.ofInt_natCast,BitVec.toNat_ofNat]
  have:n % 2 ^ 64=n:=Nat.mod_eq_of_lt (by omega)
  rw [this,u64wrap (by omega) (by omega)]
  omega
theorem unz_bits {n:Nat} (h:n<9223372036854775808):IntKind.i64.wrap ((BitVec.ofInt IntKind.i64.bits (((n / 2:Nat):Int)) ^^^ BitVec.ofInt IntKind.i64.bits (IntKind.i64.wrap (-(((n % 2:Nat):Int))))).toNat:Int)=unz n:=by
 show IntKind.i64.wrap (((BitVec.ofInt 64 (((n / 2:Nat):Int)) ^^^ BitVec.ofInt 64 (IntKind.i64.wrap (-(((n % 2:Nat):Int))))).toNat:Nat):Int)=unz n
 unfold unz
 rw [BitVec.ofInt_natCast]
 by_cases hv:n % 2=1
 ·rw [if_pos hv,hv]
  have e3:BitVec.ofInt 64 (IntKind.i64.wrap (-((1:Nat):Int)))=BitVec.allOnes 64:=by decide
  rw [e3,BitVec.xor_allOnes,BitVec.toNat_not,BitVec.toNat_ofNat]
  have:n / 2 % 2 ^ 64=n / 2:=Nat.mod_eq_of_lt (by omega)
  rw [this]
  simp [IntKind.wrap,IntKind.signed,IntKind.bits]
  omega
 ·have h0:n % 2=0:=by omega
  rw [if_neg hv,h0]
  have e3:BitVec.ofInt 64 (IntKind.i64.wrap (-((0:Nat):Int)))=0#64:=by decide
  rw [e3,BitVec.xor_zero,BitVec.toNat_ofNat]
  have:n / 2 % 2 ^ 64=n / 2:=Nat.mod_eq_of_lt (by omega)
  rw [this]
  simp [IntKind.wrap,IntKind.signed,IntKind.bits]
  omega
theorem and1_64 (n:Nat) (h:n<9223372036854775808):IntKind.i64.wrap ((BitVec.ofInt IntKind.i64.bits (n:Int) &&& BitVec.ofInt IntKind.i64.bits 1).toNat:Int)=((n % 2:Nat):Int):=by
 show IntKind.i64.wrap (((BitVec.ofInt 64 (n:Int) &&& 1#64).toNat:Nat):Int)=_
 rw [BitVec.ofInt_natCast,BitVec.toNat_and,BitVec.toNat_ofNat]
 have e:(n % 2 ^ 64) &&& (1#64).toNat=n % 2:=by
  have:=Nat.and_two_pow_sub_one_eq_mod (n % 2 ^ 64) 1
  rw [Nat.mod_eq_of_lt (by omega:n<2 ^ 64)] at this ⊢
  simpa using this
 rw [e]
 have:n % 2<2:=Nat.mod_lt _ (by omega)
 rw [wrap_in (by omega) (by omega)]
def From (v V:Value) (w:World):Prop:=v.ownBlock=V.ownBlock\/∃ j,v.ownBlock=some j/\w.heap.size<=j
theorem From.sub {v V:Value} {w:World} (h:From v V w):SubF (OwnB v) (OwnB V) w:=⟨fun k hk e=>by
 rcases h with h | ⟨j,h,hj⟩
 ·show some k=V.ownBlock;rw [<- h];exact e
 ·have e':some k=v.ownBlock:=e
  rw [h] at e';cases e';omega⟩
theorem From.app {v u V:Value} {w w1:World} (h:From v V w) (hn:u.ownBlock=v.ownBlock\/u.ownBlock=some w1.heap.size) (hg:w.heap.size<=w1.heap.size):From u V w:=by
 rcases hn with e | e
 ·rw [From,e];exact h
 ·exact .inr ⟨_,e,hg⟩
theorem numberI_ok (V:Value) (ml:Nat) (bs:List UInt8) (x base:Nat) (w:World) (hown:w.ownsRow base 5 1 V ml (bytesC bs)) (hb:base<=w.heap.size) (hx:x<9223372036854775808) (hm:ml<=1000000):Ret Tryz.prog 88 #[V,.int .i64 (x:Int)] w (fun v w'=>(∃ A c,v=.slice A (ml+(numB x).length) c/\w'.ownsRow base 5 1 v (ml+(numB x).length) (bytesC (bs++numB x))/\From v V w)/\Lk w' w (OwnB V)):=by
 have hx9:=(numB_len 9 x (by omega) (by omega)).1
 obtain ⟨A0,c0,hV0,_⟩:=ownsRow_form hown
 have hV1:V=.slice A0 (ml+([]:List UInt8).length) c0:=hV0
 refine ret_of_x (N:=20) (l:=[V,.int .i64 (x:Int)]) Tryz.func88 rfl rfl (Nat.le_of_ble_eq_true rfl) ?_
 refine xq (xz ?_)
 refine x_seq (x_block ?_)
 refine x_loop (fun t τ ds w'=>ds=[]/\∃ (y:Nat) (pre:List UInt8) (A1:Option Addr) (c1:Nat),t=y/\y<9223372036854775808/\numB x=pre++numB y/\w'.ownsRow base 5 1 (.slice A1 (ml+pre.length) c1) (ml+pre.length) (bytesC (bs++pre))/\From (.slice A1 (ml+pre.length) c1) V w/\Ev τ 0 (.slice A1 (ml+pre.length) c1)/\Ev τ 1 (.int .i64 (y:Int))/\Lk w' w (OwnB V)) (x) ?start ?round
 case start=>
  exact ⟨rfl,x,[],A0,c0,rfl,hx,rfl,by rw [List.append_nil];exact hV0 ▸ hown,.inl (by rw [hV0];rfl),evc hV1,ii,lkc⟩
 case round=>
  intro m τ1 ds1 w1 hI
  obtain ⟨rfl,y,pre,A1,c1,rfl,hy,hxy,ho,hfr,e0,e1,lk⟩:=hI
  have hpl:pre.length<=9:=by have:=congrArg List.length hxy;simp at this;omega
  haveI:=hfr.sub
  refine x_seq (xq (xm (xl_v v_geq (xl_nil ?_))))
  refine x_if (fun c1=>?_) (fun c1=>?_)
  ·have hbig:¬ m<128:=by omega
   have hlen:ml+(pre++[UInt8.ofNat (m % 128+128)]).length=ml+pre.length+1:=by simp;omega
   refine x_skip (x_seq (x_block (x_regionL (xm (xm (xl_v v_convert ?_))))))
   refine xl_v (v_congr (u:=.int .u8 ((UInt8.ofNat (m % 128+128)).toNat:Int)) v_or (congrArg (Value.int .u8) (byte_or m))) ?_
   refine xl_e (e_buildSlice1 rfl fun b5 w2 n5 l5 k5=>?_)
   have hge6:w.heap.size<=(w2).heap.size:=Ge.le
   refine xl_e (e_append' (own_ext ho lkc) (Nat.le_trans hb Ge.le) rfl Cell1L.eq (by decide) (.inl rfl) (by omega) (by omega) fun A6 c6 w3 hown2 l6 hn6=>?_)
   have hown2:World.ownsRow w3 base 5 1 (.slice A6 (ml+pre.length+1) c6) (ml+pre.length+1) (bytesC (bs++(pre++[UInt8.ofNat (m % 128+128)]))):=by
    rw [<- List.append_assoc,<- bytesC_append]
    exact hown2
   refine xz ?_
   refine x_regionL (xm ?_)
   refine xl_v (v_congr (u:=.int .i64 ((m / 128:Nat):Int)) (v_shr (by omega)) (congrArg (Value.int .i64) (shr7 .i64 m (by decide)))) ?_
   refine xz ?_
   refine ⟨_,?_,rfl,m / 128,pre++[UInt8.ofNat (m % 128+128)],A6,c6,rfl,by omega,?_,?_,?_,?_,ii,lkc⟩
   ·omega
   ·rw [hxy,numB_big hbig];simp
   ·rw [hlen];exact hown2
   ·rw [hlen];exact hfr.app hn6 hge6
   ·rw [hlen];infer_instance
  have hsm:m<128:=by omega
  have hnx:numB x=pre++[UInt8.ofNat m]:=by rw [hxy,numB_small hsm]
  have hlen:ml+(numB x).length=ml+pre.length+1:=by rw [hnx];simp;omega
  refine x_exit (xq (xm (xm ?_)))
  refine xl_v (v_congr (u:=.int .u8 ((UInt8.ofNat m).toNat:Int)) v_convert (congrArg (Value.int .u8) (byte_of m (by omega)))) ?_
  refine xl_e (e_buildSlice1 rfl fun b5 w4 n5 l5 k5=>?_)
  have hge6:w.heap.size<=(w4).heap.size:=Ge.le
  refine xl_e (e_append' (own_ext ho lkc) (Nat.le_trans hb Ge.le) rfl Cell1L.eq (by decide) (.inl rfl) (by omega) (by omega) fun A6 c6 w5 hown2 l6 hn6=>?_)
  refine xz ?_
  refine x_ret ?_
  refine fin1 rfl ?_
  refine ⟨⟨A6,c6,by rw [hlen],?_,hfr.app hn6 hge6⟩,lkc⟩
  rw [hlen,hnx,<- List.append_assoc,<- bytesC_append]
  exact hown2
theorem numberU_ok (V:Value) (ml:Nat) (bs:List UInt8) (x base:Nat) (w:World) (hown:w.ownsRow base 5 1 V ml (bytesC bs)) (hb:base<=w.heap.size) (hx:x<9223372036854775808) (hm:ml<=1000000):Ret Tryz.prog 112 #[V,.int .u64 (x:Int)] w (fun v w'=>(∃ A c,v=.slice A (ml+(numB x).length) c/\w'.ownsRow base 5 1 v (ml+(numB x).length) (bytesC (bs++numB x))/\From v V w)/\Lk w' w (OwnB V)):=by
 have hx9:=(numB_len 9 x (by omega) (by omega)).1
 obtain ⟨A0,c0,hV0,_⟩:=ownsRow_form hown
 have hV1:V=.slice A0 (ml+([]:List UInt8).length) c0:=hV0
 refine ret_of_x (N:=20) (l:=[V,.int .u64 (x:Int)]) Tryz.func112 rfl rfl (Nat.le_of_ble_eq_true rfl) ?_
 refine xq (xz ?_)
 refine x_seq (x_block ?_)
 refine x_loop (fun t τ ds w'=>ds=[]/\∃ (y:Nat) (pre:List UInt8) (A1:Option Addr) (c1:Nat),t=y/\y<9223372036854775808/\numB x=pre++numB y/\w'.ownsRow base 5 1 (.slice A1 (ml+pre.length) c1) (ml+pre.length) (bytesC (bs++pre))/\From (.slice A1 (ml+pre.length) c1) V w/\Ev τ 0 (.slice A1 (ml+pre.length) c1)/\Ev τ 1 (.int .u64 (y:Int))/\Lk w' w (OwnB V)) (x) ?start ?round
 case start=>
  exact ⟨rfl,x,[],A0,c0,rfl,hx,rfl,by rw [List.append_nil];exact hV0 ▸ hown,.inl (by rw [hV0];rfl),evc hV1,ii,lkc⟩
 case round=>
  intro m τ1 ds1 w1 hI
  obtain ⟨rfl,y,pre,A1,c1,rfl,hy,hxy,ho,hfr,e0,e1,lk⟩:=hI
  have hpl:pre.length<=9:=by have:=congrArg List.length hxy;simp at this;omega
  haveI:=hfr.sub
  refine x_seq (xq (xm (xl_v v_geq (xl_nil ?_))))
  refine x_if (fun c1=>?_) (fun c1=>?_)
  ·have hbig:¬ m<128:=by omega
   have hlen:ml+(pre++[UInt8.ofNat (m % 128+128)]).length=ml+pre.length+1:=by simp;omega
   refine x_skip (x_seq (x_block (x_regionL (xm (xm (xl_v v_convert ?_))))))
   refine xl_v (v_congr (u:=.int .u8 ((UInt8.ofNat (m % 128+128)).toNat:Int)) v_or (congrArg (Value.int .u8) (byte_or m))) ?_
   refine xl_e (e_buildSlice1 rfl fun b5 w2 n5 l5 k5=>?_)
   have hge6:w.heap.size<=(w2).heap.size:=Ge.le
   refine xl_e (e_append' (own_ext ho lkc) (Nat.le_trans hb Ge.le) rfl Cell1L.eq (by decide) (.inl rfl) (by omega) (by omega) fun A6 c6 w3 hown2 l6 hn6=>?_)
   have hown2:World.ownsRow w3 base 5 1 (.slice A6 (ml+pre.length+1) c6) (ml+pre.length+1) (bytesC (bs++(pre++[UInt8.ofNat (m % 128+128)]))):=by
    rw [<- List.append_assoc,<- bytesC_append]
    exact hown2
   refine xz ?_
   refine x_regionL (xm ?_)
   refine xl_v (v_congr (u:=.int .u64 ((m / 128:Nat):Int)) (v_shr (by omega)) (congrArg (Value.int .u64) (shr7 .u64 m (by decide)))) ?_
   refine xz ?_
   refine ⟨_,?_,rfl,m / 128,pre++[UInt8.ofNat (m % 128+128)],A6,c6,rfl,by omega,?_,?_,?_,?_,ii,lkc⟩
   ·omega
   ·rw [hxy,numB_big hbig];simp
   ·rw [hlen];exact hown2
   ·rw [hlen];exact hfr.app hn6 hge6
   ·rw [hlen];infer_instance
  have hsm:m<128:=by omega
  have hnx:numB x=pre++[UInt8.ofNat m]:=by rw [hxy,numB_small hsm]
  have hlen:ml+(numB x).length=ml+pre.length+1:=by rw [hnx];simp;omega
  refine x_exit (xq (xm (xm ?_)))
  refine xl_v (v_congr (u:=.int .u8 ((UInt8.ofNat m).toNat:Int)) v_convert (congrArg (Value.int .u8) (byte_of m (by omega)))) ?_
  refine xl_e (e_buildSlice1 rfl fun b5 w4 n5 l5 k5=>?_)
  have hge6:w.heap.size<=(w4).heap.size:=Ge.le
  refine xl_e (e_append' (own_ext ho lkc) (Nat.le_trans hb Ge.le) rfl Cell1L.eq (by decide) (.inl rfl) (by omega) (by omega) fun A6 c6 w5 hown2 l6 hn6=>?_)
  refine xz ?_
  refine x_ret ?_
  refine fin1 rfl ?_
  refine ⟨⟨A6,c6,by rw [hlen],?_,hfr.app hn6 hge6⟩,lkc⟩
  rw [hlen,hnx,<- List.append_assoc,<- bytesC_append]
  exact hown2
theorem signed_ok (V:Value) (m:Nat) (bs:List UInt8) (x:Int) (base:Nat) (w:World) (hown:w.ownsRow base 5 1 V m (bytesC bs)) (hb:base<=w.heap.size) (h0:-2147483648<=x) (h1:x<=2147483647) (hm:m<=1000000):Ret Tryz.prog 99 #[V,.int .i64 x] w (fun v w'=>(∃ A c,v=.slice A (m+(numB (zig x)).length) c/\w'.ownsRow base 5 1 v (m+(numB (zig x)).length) (bytesC (bs++numB (zig x)))/\From v V w)/\Lk w' w (OwnB V)):=by
 refine ret_of_x (N:=14) (l:=[V,.int .i64 x]) Tryz.func99 rfl rfl (Nat.le_of_ble_eq_true rfl) ?_
 refine xq (xz ?_)
 refine xq (xm (xm ?_))
 refine xl_v (v_shl (by omega)) ?_
 refine xl_v v_convert (xm ?_)
 refine xl_v (v_shr (by omega)) ?_
 refine xl_v v_convert ?_
 refine xl_v (v_congr (u:=.int .u64 ((zig x:Nat):Int)) v_xor (congrArg (Value.int .u64) (zig_bits h0 h1))) ?_
 refine xl_call (numberU_ok V m bs (zig x) base w hown hb (by unfold zig;split<;>omega) hm) ?_
 rintro _ w1 ⟨⟨A,c,rfl,ho,hf⟩,lk⟩
 refine xz ?_
 refine x_ret ?_
 refine fin1 rfl ?_
 exact ⟨⟨A,c,rfl,ho,hf⟩,lkc⟩
theorem unsigned_ok (n:Nat) (w:World) (hn:n<9223372036854775808):Ret Tryz.prog 101 #[.int .i64 (n:Int)] w (fun v w'=>v=.int .i64 (unz n)/\w=w'):=by
 refine ret_of_x (N:=9) (l:=[.int .i64 (n:Int)]) Tryz.func101 rfl rfl (Nat.le_of_ble_eq_true rfl) ?_
 refine xq (xz ?_)
 refine xq (xm ?_)
 refine xl_v (v_congr (u:=.int .i64 ((n / 2:Nat):Int)) (v_shr (by omega)) (congrArg (Value.int .i64) (shr1 .i64 n (by decide)))) ?_
 refine xm ?_
 refine xl_v (v_congr (u:=.int .i64 ((n % 2:Nat):Int)) v_and (congrArg (Value.int .i64) (and1_64 n hn))) ?_
 refine xl_v (v_negw) ?_
 refine xl_v (v_congr (u:=.int .i64 (unz n)) v_xor (congrArg (Value.int .i64) (unz_bits hn))) ?_
 refine xz ?_
 refine x_ret ?_
 refine fin1 rfl ?_
 exact ⟨rfl,rfl⟩
theorem in_ok (n a b:Int) (w:World):Ret Tryz.prog 76 #[.int .i64 n,.int .i64 a,.int .i64 b] w (fun v w'=>v=.bool (decide (a<=n/\n<=b))/\w=w'):=by
 refine ret_of_x (N:=15) (l:=[.int .i64 n,.int .i64 a,.int .i64 b]) Tryz.func76 rfl rfl (Nat.le_of_ble_eq_true rfl) ?_
 refine xq (xz ?_)
 refine xq (xm (xm (xl_v v_leq (xm ?_))))
 refine xl_split 10 (fun g10=>?_) (fun g10=>?_)
 ·refine xl_gv rfl EvO.eq v_move (xl_gv rfl EvO.eq v_move (xl_gv rfl EvO.eq v_leq (xl_Pk ?_)))
  refine xz ?_
  refine x_ret ?_
  refine fin1 rfl ?_
  refine ⟨congrArg Value.bool ?_,rfl⟩
  by_cases h1:a<=n<;>by_cases h2:n<=b<;>first | (simp_all;done) | (simp_all;omega)
 refine xl_gs rfl EvO.eq (xl_gs rfl EvO.eq (xl_gs rfl EvO.eq (xl_Pk ?_)))
 refine xz ?_
 refine x_ret ?_
 refine fin1 rfl ?_
 refine ⟨congrArg Value.bool ?_,rfl⟩
 by_cases h1:a<=n<;>by_cases h2:n<=b<;>first | (simp_all;done) | (simp_all;omega)
theorem i32wrap (v:Int):IntKind.i32.wrap v=if 2147483648<=v % 4294967296 then v % 4294967296 - 4294967296 else v % 4294967296:=by
 simp [IntKind.wrap,IntKind.signed,IntKind.bits]
theorem val32 (v:Int):v=IntKind.i64.wrap (IntKind.i32.wrap v)↔(-2147483648<=v/\v<=2147483647):=by
 rw [i32wrap]
 split
 ·rw [wrap_in (by omega) (by omega)];omega
 ·rw [wrap_in (by omega) (by omega)];omega
def fine1 (e:En):Prop:=in31 e.epoch 1/\-1<=e.id/\e.id<=3
instance (e:En):Decidable (fine1 e):=inferInstanceAs (Decidable (_/\_))
def fine2 (e:En):Prop:=fine1 e/\((e.kind=1/\in31 e.val (-2147483648)/\in31 e.seq 0/\(0<=e.id\/e.seq=0))\/((e.kind=2\/e.kind=3)/\0<=e.id/\e.seq=0/\e.val=0))
instance (e:En):Decidable (fine2 e):=inferInstanceAs (Decidable (_/\_))
theorem right_iff (e:En):Right e↔fine2 e/\(if 0<=e.id then in31 e.num 1 else e.num=0):=by
 unfold Right fine2 fine1 in31
 split<;>omega
set_option maxHeartbeats 1000000 in
theorem check_ok (e:En) (w:World):Ret Tryz.prog 59 #[.agg (enC e).toArray] w (fun v w'=>v=.int .i64 (if Right e then 0 else 2)/\Lk w' w NoB):=by
 refine ret_of_x (N:=77) (l:=[.agg (enC e).toArray]) Tryz.func59 rfl rfl (Nat.le_of_ble_eq_true rfl) ?_
 refine xq ?_
 refine xl_e (e_box fun b1 w1 n1 l1 k1=>?_)
 refine xz ?_
 refine x_cut (fun τ ds w'=>ds=[]/\Ev τ 1 (.pointer (some ⟨b1,0,none⟩))/\Ev τ 3 (.bool (decide (fine1 e)))/\Blk w' b1 (.cells (enC e).toArray 51 (0,0))/\Lk w' w NoB) ?_ ?_
 ·refine x_regionL (xl_Fb ?_)
  refine xl_Lc ?_
  refine xl_call (in_ok _ _ _ _) ?_
  rintro _ _ ⟨rfl,rfl⟩
  refine xm ?_
  refine xl_split 7 (fun g7=>?_) (fun g7=>?_)
  ·refine xl_gFb rfl EvO.eq ?_
   refine xl_gLc rfl EvO.eq ?_
   refine xl_gcall rfl EvO.eq (in_ok _ _ _ _) ?_
   rintro _ _ ⟨rfl,rfl⟩
   refine xl_Pk ?_
   refine xz ?_
   refine ⟨rfl,ii,evc (congrArg Value.bool ?_),ii,lkc⟩
   rw [Bool.eq_iff_iff]
   simp only [decide_eq_true_eq,decide_eq_false_iff_not,Bool.false_eq_true] at *
   simp only [fine2,fine1,in31] at *
   refine ⟨fun h=>?_,fun h=>?_⟩<;>first | exact h.elim | trivial | omega
  refine xl_gs rfl EvO.eq (xl_gs rfl EvO.eq (xl_gs rfl EvO.eq (xl_Pk ?_)))
  refine xz ?_
  refine ⟨rfl,ii,evc (congrArg Value.bool ?_),ii,lkc⟩
  rw [Bool.eq_iff_iff]
  simp only [decide_eq_true_eq,decide_eq_false_iff_not,Bool.false_eq_true] at *
  simp only [fine2,fine1,in31] at *
  refine ⟨fun h=>?_,fun h=>?_⟩<;>first | exact h.elim | trivial | omega
 intro τ4 ds4 w4 hI
 obtain ⟨rfl,e1,e3,kb1,lk⟩:=hI
 refine x_cut (fun τ ds w'=>ds=[]/\Ev τ 1 (.pointer (some ⟨b1,0,none⟩))/\Ev τ 3 (.bool (decide (fine2 e)))/\Blk w' b1 (.cells (enC e).toArray 51 (0,0))/\Lk w' w NoB) ?_ ?_
 ·refine xq (xl_Fb ?_)
  refine xl_Lc ?_
  refine xl_nil ?_
  refine x_block (xq (xl_v v_eql (xz ?_)))
  refine x_if (fun c1=>?_) (fun c1=>?_)
  ·refine x_regionL (xm (xm ?_))
   refine xl_split 17 (fun g17=>?_) (fun g17=>?_)
   ·refine xl_gFb rfl EvO.eq ?_
    refine xl_gLc rfl EvO.eq ?_
    refine xl_gFb rfl EvO.eq ?_
    refine xl_gLc rfl EvO.eq ?_
    refine xl_gv rfl EvO.eq v_convert (xl_gv rfl EvO.eq v_convert ?_)
    refine xl_gv rfl EvO.eq (v_congr (u:=.bool (decide (in31 e.val (-2147483648)))) v_eql (congrArg Value.bool (decide_eq_decide.2 (val32 e.val)))) ?_
    refine xl_Pk ?_
    refine xm ?_
    refine xl_split 26 (fun g26=>?_) (fun g26=>?_)
    ·refine xl_gFb rfl EvO.eq ?_
     refine xl_gLc rfl EvO.eq ?_
     refine xl_gcall rfl EvO.eq (in_ok _ _ _ _) ?_
     rintro _ _ ⟨rfl,rfl⟩
     refine xl_Pk ?_
     refine xm ?_
     refine xl_split 31 (fun g31=>?_) (fun g31=>?_)
     ·refine xl_gFb rfl EvO.eq ?_
      refine xl_gLc rfl EvO.eq ?_
      refine xl_gv rfl EvO.eq v_geq (xl_gv rfl EvO.eq v_move ?_)
      refine xl_split 35 (fun g35=>?_) (fun g35=>?_)
      ·refine xl_gs rfl EvO.eq (xl_gs rfl EvO.eq (xl_gs rfl EvO.eq ?_))
       refine xl_gPk rfl EvO.eq ?_
       refine xl_Pk ?_
       refine xz ?_
       refine ⟨rfl,ii,evc (congrArg Value.bool ?_),ii,lkc⟩
       rw [Bool.eq_iff_iff]
       simp only [decide_eq_true_eq,decide_eq_false_iff_not,Bool.false_eq_true] at *
       simp only [fine2,fine1,in31] at *
       refine ⟨fun h=>?_,fun h=>?_⟩<;>first | exact h.elim | trivial | omega
      refine xl_gFb rfl EvO.eq ?_
      refine xl_gLc rfl EvO.eq ?_
      refine xl_gv rfl EvO.eq v_eql ?_
      refine xl_gPk rfl EvO.eq ?_
      refine xl_Pk ?_
      refine xz ?_
      refine ⟨rfl,ii,evc (congrArg Value.bool ?_),ii,lkc⟩
      rw [Bool.eq_iff_iff]
      simp only [decide_eq_true_eq,decide_eq_false_iff_not,Bool.false_eq_true] at *
      simp only [fine2,fine1,in31] at *
      refine ⟨fun h=>?_,fun h=>?_⟩<;>first | exact h.elim | trivial | omega
     refine xl_gs rfl EvO.eq (xl_gs rfl EvO.eq (xl_gs rfl EvO.eq (xl_gs rfl EvO.eq ?_)))
     refine xl_gu rfl EvO.eq ?_
     refine xl_gu rfl EvO.eq ?_
     refine xl_gu rfl EvO.eq ?_
     refine xl_gs rfl EvO.eq (xl_Pk ?_)
     refine xz ?_
     refine ⟨rfl,ii,evc (congrArg Value.bool ?_),ii,lkc⟩
     rw [Bool.eq_iff_iff]
     simp only [decide_eq_true_eq,decide_eq_false_iff_not,Bool.false_eq_true] at *
     simp only [fine2,fine1,in31] at *
     refine ⟨fun h=>?_,fun h=>?_⟩<;>first | exact h.elim | trivial | omega
    refine xl_gs rfl EvO.eq (xl_gs rfl EvO.eq (xl_gs rfl EvO.eq (xl_Pk ?_)))
    refine xm (xl_gs rfl EvO.eq (xl_gs rfl EvO.eq (xl_gs rfl EvO.eq (xl_gs rfl EvO.eq ?_))))
    refine xl_gu rfl EvO.eq ?_
    refine xl_gu rfl EvO.eq ?_
    refine xl_gu rfl EvO.eq ?_
    refine xl_gs rfl EvO.eq (xl_Pk ?_)
    refine xz ?_
    refine ⟨rfl,ii,evc (congrArg Value.bool ?_),ii,lkc⟩
    rw [Bool.eq_iff_iff]
    simp only [decide_eq_true_eq,decide_eq_false_iff_not,Bool.false_eq_true] at *
    simp only [fine2,fine1,in31] at *
    refine ⟨fun h=>?_,fun h=>?_⟩<;>first | exact h.elim | trivial | omega
   refine xl_gs rfl EvO.eq (xl_gs rfl EvO.eq (xl_gs rfl EvO.eq (xl_gs rfl EvO.eq (xl_gs rfl EvO.eq (xl_gs rfl EvO.eq (xl_gs rfl EvO.eq (xl_Pk ?_)))))))
   refine xm (xl_gs rfl EvO.eq (xl_gs rfl EvO.eq (xl_gs rfl EvO.eq (xl_Pk ?_))))
   refine xm (xl_gs rfl EvO.eq (xl_gs rfl EvO.eq (xl_gs rfl EvO.eq (xl_gs rfl EvO.eq ?_))))
   refine xl_gu rfl EvO.eq ?_
   refine xl_gu rfl EvO.eq ?_
   refine xl_gu rfl EvO.eq ?_
   refine xl_gs rfl EvO.eq (xl_Pk ?_)
   refine xz ?_
   refine ⟨rfl,ii,evc (congrArg Value.bool ?_),ii,lkc⟩
   rw [Bool.eq_iff_iff]
   simp only [decide_eq_true_eq,decide_eq_false_iff_not,Bool.false_eq_true] at *
   simp only [fine2,fine1,in31] at *
   refine ⟨fun h=>?_,fun h=>?_⟩<;>first | exact h.elim | trivial | omega
  refine x_seq (xq (xl_v v_eql (xz ?_)))
  refine x_if (fun c2=>?_) (fun c2=>?_)
  ·refine x_skip ?_
   refine x_if (fun c3=>?_) (fun c3=>?_)
   ·refine x_regionL (xm (xm ?_))
    refine xl_split 45 (fun g45=>?_) (fun g45=>?_)
    ·refine xl_gFb rfl EvO.eq ?_
     refine xl_gLc rfl EvO.eq ?_
     refine xl_gv rfl EvO.eq v_geq (xl_Pk ?_)
     refine xm ?_
     refine xl_split 50 (fun g50=>?_) (fun g50=>?_)
     ·refine xl_gFb rfl EvO.eq ?_
      refine xl_gLc rfl EvO.eq ?_
      refine xl_gv rfl EvO.eq v_eql (xl_Pk ?_)
      refine xm ?_
      refine xl_split 55 (fun g55=>?_) (fun g55=>?_)
      ·refine xl_gFb rfl EvO.eq ?_
       refine xl_gLc rfl EvO.eq ?_
       refine xl_gv rfl EvO.eq v_eql (xl_Pk ?_)
       refine xz ?_
       refine ⟨rfl,ii,evc (congrArg Value.bool ?_),ii,lkc⟩
       rw [Bool.eq_iff_iff]
       simp only [decide_eq_true_eq,decide_eq_false_iff_not,Bool.false_eq_true] at *
       simp only [fine2,fine1,in31] at *
       refine ⟨fun h=>?_,fun h=>?_⟩<;>first | exact h.elim | trivial | omega
      refine xl_gs rfl EvO.eq (xl_gs rfl EvO.eq (xl_gs rfl EvO.eq (xl_Pk ?_)))
      refine xz ?_
      refine ⟨rfl,ii,evc (congrArg Value.bool ?_),ii,lkc⟩
      rw [Bool.eq_iff_iff]
      simp only [decide_eq_true_eq,decide_eq_false_iff_not,Bool.false_eq_true] at *
      simp only [fine2,fine1,in31] at *
      refine ⟨fun h=>?_,fun h=>?_⟩<;>first | exact h.elim | trivial | omega
     refine xl_gs rfl EvO.eq (xl_gs rfl EvO.eq (xl_gs rfl EvO.eq (xl_Pk ?_)))
     refine xm (xl_gs rfl EvO.eq (xl_gs rfl EvO.eq (xl_gs rfl EvO.eq (xl_Pk ?_))))
     refine xz ?_
     refine ⟨rfl,ii,evc (congrArg Value.bool ?_),ii,lkc⟩
     rw [Bool.eq_iff_iff]
     simp only [decide_eq_true_eq,decide_eq_false_iff_not,Bool.false_eq_true] at *
     simp only [fine2,fine1,in31] at *
     refine ⟨fun h=>?_,fun h=>?_⟩<;>first | exact h.elim | trivial | omega
    refine xl_gs rfl EvO.eq (xl_gs rfl EvO.eq (xl_gs rfl EvO.eq (xl_Pk ?_)))
    refine xm (xl_gs rfl EvO.eq (xl_gs rfl EvO.eq (xl_gs rfl EvO.eq (xl_Pk ?_))))
    refine xm (xl_gs rfl EvO.eq (xl_gs rfl EvO.eq (xl_gs rfl EvO.eq (xl_Pk ?_))))
    refine xz ?_
    refine ⟨rfl,ii,evc (congrArg Value.bool ?_),ii,lkc⟩
    rw [Bool.eq_iff_iff]
    simp only [decide_eq_true_eq,decide_eq_false_iff_not,Bool.false_eq_true] at *
    simp only [fine2,fine1,in31] at *
    refine ⟨fun h=>?_,fun h=>?_⟩<;>first | exact h.elim | trivial | omega
   refine x_regionL (xz ?_)
   refine ⟨rfl,ii,evc (congrArg Value.bool ?_),ii,lkc⟩
   rw [Bool.eq_iff_iff]
   simp only [decide_eq_true_eq,decide_eq_false_iff_not,Bool.false_eq_true] at *
   simp only [fine2,fine1,in31] at *
   refine ⟨fun h=>?_,fun h=>?_⟩<;>first | exact h.elim | trivial | omega
  refine x_regionL (xl_v v_eql (xz ?_))
  refine x_if (fun c3=>?_) (fun c3=>?_)
  ·refine x_regionL (xm (xm ?_))
   refine xl_split 45 (fun g45=>?_) (fun g45=>?_)
   ·refine xl_gFb rfl EvO.eq ?_
    refine xl_gLc rfl EvO.eq ?_
    refine xl_gv rfl EvO.eq v_geq (xl_Pk ?_)
    refine xm ?_
    refine xl_split 50 (fun g50=>?_) (fun g50=>?_)
    ·refine xl_gFb rfl EvO.eq ?_
     refine xl_gLc rfl EvO.eq ?_
     refine xl_gv rfl EvO.eq v_eql (xl_Pk ?_)
     refine xm ?_
     refine xl_split 55 (fun g55=>?_) (fun g55=>?_)
     ·refine xl_gFb rfl EvO.eq ?_
      refine xl_gLc rfl EvO.eq ?_
      refine xl_gv rfl EvO.eq v_eql (xl_Pk ?_)
      refine xz ?_
      refine ⟨rfl,ii,evc (congrArg Value.bool ?_),ii,lkc⟩
      rw [Bool.eq_iff_iff]
      simp only [decide_eq_true_eq,decide_eq_false_iff_not,Bool.false_eq_true] at *
      simp only [fine2,fine1,in31] at *
      refine ⟨fun h=>?_,fun h=>?_⟩<;>first | exact h.elim | trivial | omega
     refine xl_gs rfl EvO.eq (xl_gs rfl EvO.eq (xl_gs rfl EvO.eq (xl_Pk ?_)))
     refine xz ?_
     refine ⟨rfl,ii,evc (congrArg Value.bool ?_),ii,lkc⟩
     rw [Bool.eq_iff_iff]
     simp only [decide_eq_true_eq,decide_eq_false_iff_not,Bool.false_eq_true] at *
     simp only [fine2,fine1,in31] at *
     refine ⟨fun h=>?_,fun h=>?_⟩<;>first | exact h.elim | trivial | omega
    refine xl_gs rfl EvO.eq (xl_gs rfl EvO.eq (xl_gs rfl EvO.eq (xl_Pk ?_)))
    refine xm (xl_gs rfl EvO.eq (xl_gs rfl EvO.eq (xl_gs rfl EvO.eq (xl_Pk ?_))))
    refine xz ?_
    refine ⟨rfl,ii,evc (congrArg Value.bool ?_),ii,lkc⟩
    rw [Bool.eq_iff_iff]
    simp only [decide_eq_true_eq,decide_eq_false_iff_not,Bool.false_eq_true] at *
    simp only [fine2,fine1,in31] at *
    refine ⟨fun h=>?_,fun h=>?_⟩<;>first | exact h.elim | trivial | omega
   refine xl_gs rfl EvO.eq (xl_gs rfl EvO.eq (xl_gs rfl EvO.eq (xl_Pk ?_)))
   refine xm (xl_gs rfl EvO.eq (xl_gs rfl EvO.eq (xl_gs rfl EvO.eq (xl_Pk ?_))))
   refine xm (xl_gs rfl EvO.eq (xl_gs rfl EvO.eq (xl_gs rfl EvO.eq (xl_Pk ?_))))
   refine xz ?_
   refine ⟨rfl,ii,evc (congrArg Value.bool ?_),ii,lkc⟩
   rw [Bool.eq_iff_iff]
   simp only [decide_eq_true_eq,decide_eq_false_iff_not,Bool.false_eq_true] at *
   simp only [fine2,fine1,in31] at *
   refine ⟨fun h=>?_,fun h=>?_⟩<;>first | exact h.elim | trivial | omega
  refine x_regionL (xz ?_)
  refine ⟨rfl,ii,evc (congrArg Value.bool ?_),ii,lkc⟩
  rw [Bool.eq_iff_iff]
  simp only [decide_eq_true_eq,decide_eq_false_iff_not,Bool.false_eq_true] at *
  simp only [fine2,fine1,in31] at *
  refine ⟨fun h=>?_,fun h=>?_⟩<;>first | exact h.elim | trivial | omega
 intro τ6 ds6 w6 hI
 obtain ⟨rfl,e1,e3,kb1,lk⟩:=hI
 refine x_cut (fun τ ds w'=>ds=[]/\Ev τ 3 (.bool (decide (Right e)))/\Lk w' w NoB) ?_ ?_
 ·refine xq (xl_Fb ?_)
  refine xl_Lc ?_
  refine xl_v v_geq (xl_nil ?_)
  refine x_if (fun c4=>?_) (fun c4=>?_)
  ·refine x_regionL (xm (xm ?_))
   refine xl_split 64 (fun g64=>?_) (fun g64=>?_)
   ·refine xl_gFb rfl EvO.eq ?_
    refine xl_gLc rfl EvO.eq ?_
    refine xl_gcall rfl EvO.eq (in_ok _ _ _ _) ?_
    rintro _ _ ⟨rfl,rfl⟩
    refine xl_Pk ?_
    refine xz ?_
    refine ⟨rfl,evc (congrArg Value.bool ?_),lkc⟩
    rw [Bool.eq_iff_iff]
    simp only [decide_eq_true_eq,decide_eq_false_iff_not,Bool.false_eq_true] at *
    simp only [right_iff,in31] at *
    first
     | (rw [if_pos (by omega)];refine ⟨fun h=>?_,fun h=>?_⟩<;>first | exact h.elim | trivial | omega)
     | (rw [if_neg (by omega)];refine ⟨fun h=>?_,fun h=>?_⟩<;>first | exact h.elim | trivial | omega)
     | (split<;>simp_all<;>omega)
   refine xl_gs rfl EvO.eq (xl_gs rfl EvO.eq (xl_gs rfl EvO.eq (xl_Pk ?_)))
   refine xz ?_
   refine ⟨rfl,evc (congrArg Value.bool ?_),lkc⟩
   rw [Bool.eq_iff_iff]
   simp only [decide_eq_true_eq,decide_eq_false_iff_not,Bool.false_eq_true] at *
   simp only [right_iff,in31] at *
   first
    | (rw [if_pos (by omega)];refine ⟨fun h=>?_,fun h=>?_⟩<;>first | exact h.elim | trivial | omega)
    | (rw [if_neg (by omega)];refine ⟨fun h=>?_,fun h=>?_⟩<;>first | exact h.elim | trivial | omega)
    | (split<;>simp_all<;>omega)
  refine x_regionL (xm (xm ?_))
  refine xl_split 70 (fun g70=>?_) (fun g70=>?_)
  ·refine xl_gFb rfl EvO.eq ?_
   refine xl_gLc rfl EvO.eq ?_
   refine xl_gv rfl EvO.eq v_eql (xl_Pk ?_)
   refine xz ?_
   refine ⟨rfl,evc (congrArg Value.bool ?_),lkc⟩
   rw [Bool.eq_iff_iff]
   simp only [decide_eq_true_eq,decide_eq_false_iff_not,Bool.false_eq_true] at *
   simp only [right_iff,in31] at *
   first
    | (rw [if_pos (by omega)];refine ⟨fun h=>?_,fun h=>?_⟩<;>first | exact h.elim | trivial | omega)
    | (rw [if_neg (by omega)];refine ⟨fun h=>?_,fun h=>?_⟩<;>first | exact h.elim | trivial | omega)
    | (split<;>simp_all<;>omega)
  refine xl_gs rfl EvO.eq (xl_gs rfl EvO.eq (xl_gs rfl EvO.eq (xl_Pk ?_)))
  refine xz ?_
  refine ⟨rfl,evc (congrArg Value.bool ?_),lkc⟩
  rw [Bool.eq_iff_iff]
  simp only [decide_eq_true_eq,decide_eq_false_iff_not,Bool.false_eq_true] at *
  simp only [right_iff,in31] at *
  first
   | (rw [if_pos (by omega)];refine ⟨fun h=>?_,fun h=>?_⟩<;>first | exact h.elim | trivial | omega)
   | (rw [if_neg (by omega)];refine ⟨fun h=>?_,fun h=>?_⟩<;>first | exact h.elim | trivial | omega)
   | (split<;>simp_all<;>omega)
 intro τ8 ds8 w8 hI
 obtain ⟨rfl,e3,lk⟩:=hI
 refine x_seq (xq (xm (xl_v v_not (xl_nil ?_))))
 refine x_if (fun c5=>?_) (fun c5=>?_)
 ·have hR:¬ Right e:=by first | assumption | simpa using c5
  refine xq (xz ?_)
  refine x_ret ?_
  refine fin1 rfl ?_
  exact ⟨congrArg (Value.int .i64) (if_neg hR).symm,lkc⟩
 have hR:Right e:=by first | assumption | simpa using c5
 refine x_skip (xq (xz ?_))
 refine x_ret ?_
 refine fin1 rfl ?_
 exact ⟨congrArg (Value.int .i64) (if_pos hR).symm,lkc⟩
abbrev fnV (f:FuncId):Value:=.func (.func f) ([]:List Value).toArray ([]:List Value).toArray
def hasV (b2 b3:Nat):Nat->Value
 | 0=>fnV 82
 | 1=>fnV 82
 | 2=>fnV 82
 | 3=>fnV 83
 | 4=>.func (.func 95) ([]:List Value).toArray [Value.pointer (some ⟨b3,0,none⟩),.pointer (some ⟨b2,0,none⟩)].toArray
 | _=>fnV 84
def wrV:Nat->Value
 | 0=>fnV 85
 | 1=>fnV 87
 | 2=>fnV 91
 | 3=>fnV 93
 | 4=>fnV 96
 | _=>fnV 98
def rdV:Nat->Value
 | 0=>fnV 86
 | 1=>fnV 89
 | 2=>fnV 92
 | 3=>fnV 94
 | 4=>fnV 97
 | _=>fnV 100
abbrev partC (b2 b3 k:Nat):List Value:=[hasV b2 b3 k,wrV k,rdV k]
def partsC (b2 b3:Nat):List Value:=(List.range 6).flatMap (partC b2 b3)
def hasB (e:En):Nat->Bool
 | 0=>true
 | 1=>true
 | 2=>true
 | 3=>decide (0<=e.id)
 | 4=>decide (e.kind=1) && decide (0<=e.id)
 | _=>decide (e.kind=1)
def wrB (e:En):Nat->By
 | 0=>[byteI e.kind]
 | 1=>numB e.epoch.toNat
 | 2=>[byteI (e.id+1)]
 | 3=>numB e.num.toNat
 | 4=>numB e.seq.toNat
 | _=>numB (zig e.val)
def bodyTo (e:En) (j:Nat):By:=(List.range j).flatMap (fun k=>if hasB e k then wrB e k else [])
theorem bodyTo_succ (e:En) (j:Nat):bodyTo e (j+1)=bodyTo e j++(if hasB e j then wrB e j else []):=by
 unfold bodyTo
 rw [List.range_succ,List.flatMap_append]
 simp
theorem bodyTo_all (e:En):bodyTo e 6=body e:=by
 have h:List.range 6=[0,1,2,3,4,5]:=rfl
 unfold bodyTo
 rw [h]
 simp [hasB,wrB,body]
theorem bodyTo_len {e:En} (h:Right e) {j:Nat} (hj:j<=6):(bodyTo e j).length<=35:=by
 have h1:=(body_len h).2
 rw [<- bodyTo_all] at h1
 have:∀ d,j+d<=6->(bodyTo e j).length<=(bodyTo e (j+d)).length:=by
  intro d
  induction d with
  | zero=>intro _;exact Nat.le_refl _
  | succ d ih=>
    intro hd
    have:=ih (by omega)
    rw [<- Nat.add_assoc,bodyTo_succ,List.length_append]
    omega
 have:=this (6 - j) (by omega)
 rw [show j+(6 - j)=6 by omega] at this
 omega
theorem byteI_wrap (a:Int):IntKind.u8.wrap a=((byteI a).toNat:Int):=by
 unfold byteI
 rw [toNat_ofNat (by omega)]
 simp [IntKind.wrap,IntKind.signed,IntKind.bits]
 omega
theorem partsC_get (b2 b3 k:Nat) (hk:k<6):((partsC b2 b3).drop (k*3)).take 3=partC b2 b3 k/\k*3+3<=(partsC b2 b3).length:=by
 match k,hk with
 | 0,_=>exact ⟨rfl,by have h:(partsC b2 b3).length=18:=rfl;omega⟩
 | 1,_=>exact ⟨rfl,by have h:(partsC b2 b3).length=18:=rfl;omega⟩
 | 2,_=>exact ⟨rfl,by have h:(partsC b2 b3).length=18:=rfl;omega⟩
 | 3,_=>exact ⟨rfl,by have h:(partsC b2 b3).length=18:=rfl;omega⟩
 | 4,_=>exact ⟨rfl,by have h:(partsC b2 b3).length=18:=rfl;omega⟩
 | 5,_=>exact ⟨rfl,by have h:(partsC b2 b3).length=18:=rfl;omega⟩
instance cells_hasV (b2 b3 k:Nat):Cell1 (hasV b2 b3 k):=by
 unfold hasV
 split<;>exact ⟨rfl⟩
instance cells_wrV (k:Nat):Cell1 (wrV k):=by
 unfold wrV
 split<;>exact ⟨rfl⟩
instance cells_rdV (k:Nat):Cell1 (rdV k):=by
 unfold rdV
 split<;>exact ⟨rfl⟩
theorem partsC_one (b2 b3:Nat):∀ u∈partsC b2 b3,u.oneCell'=true:=by
 intro u hu
 obtain ⟨k,_,hk⟩:=List.mem_flatMap.1 hu
 simp only [partC,List.mem_cons,List.not_mem_nil,or_false] at hk
 rcases hk with rfl | rfl | rfl
 ·exact Cell1.eq
 ·exact Cell1.eq
 ·exact Cell1.eq
instance cell1L_parts (b2 b3:Nat):Cell1L (partsC b2 b3):=⟨partsC_one b2 b3⟩
instance lenL_parts (b2 b3:Nat):LenL (partsC b2 b3) 18:=⟨rfl⟩
instance csput_parts (cs:Array Value) (b2 b3:Nat) [h:Siz cs 18]:CsPut cs 0 (partsC b2 b3) (partsC b2 b3).toArray:=csput_whole h.eq
instance cssub_parts (b2 b3:Nat):CsSub (partsC b2 b3) 0 18 (partsC b2 b3):=⟨rfl,Nat.le_refl _⟩
theorem parts_ok (w:World):Ret Tryz.prog 69 #[] w (fun v w'=>(∃ b2 b3,v=.agg (partsC b2 b3).toArray/\w'.heap[b2]?=some (.cells #[fnV 83] 118 (0,0))/\w'.heap[b3]?=some (.cells #[fnV 84] 118 (0,0))/\w.heap.size<=b2/\w.heap.size<=b3)/\Lk w' w NoB):=by
 refine ret_of_x (N:=17) (l:=[]) Tryz.func69 rfl rfl (Nat.le_of_ble_eq_true rfl) ?_
 refine xq ?_
 refine xl_e (e_alloc fun b1 w1 n1 l1 k1=>?_)
 refine xl_nil ?_
 refine xq (xz ?_)
 refine xq ?_
 refine xl_e (e_alloc fun b2 w2 n2 l2 k2=>?_)
 refine xl_s (e_store fun w3 l3 k3=>?_)
 refine xl_nil ?_
 refine xq ?_
 refine xl_e (e_alloc fun b3 w4 n3 l3 k3=>?_)
 refine xl_s (e_store fun w5 l5 k5=>?_)
 refine xl_nil ?_
 refine xq (xm (xl_v v_build (xm (xl_v v_build (xm (xl_v v_build (xl_Lc ?_)))))))
 refine xl_v v_build (xl_v v_makeFunc (xl_v v_build (xl_Lc ?_)))
 refine xl_v v_build ?_
 refine xl_v (v_buildAM (cs:=(partsC b2 b3).toArray) rfl) ?_
 refine xl_s (e_storeA fun w6 l6 k6=>?_)
 refine xl_nil ?_
 refine x_ret ?_
 refine finR (rs:=[.cell 0 123]) rfl ?_
 exact ⟨⟨b2,b3,by simp [outV],Blk.eq,Blk.eq,by rw [n2.eq];exact Ge.le,by rw [n3.eq];exact Ge.le⟩,lkc⟩
theorem p1_ok (e:En) (w:World):Ret Tryz.prog 82 #[.agg (enC e).toArray] w (fun v w'=>v=.bool true/\Lk w' w NoB):=by
 refine ret_of_x (N:=3) (l:=[.agg (enC e).toArray]) Tryz.func82 rfl rfl (Nat.le_of_ble_eq_true rfl) ?_
 refine xq ?_
 refine xl_e (e_box fun b1 w1 n1 l1 k1=>?_)
 refine xz ?_
 refine xq (xz ?_)
 refine x_ret ?_
 refine fin1 rfl ?_
 exact ⟨rfl,lkc⟩
theorem p2_ok (e:En) (w:World):Ret Tryz.prog 83 #[.agg (enC e).toArray] w (fun v w'=>v=.bool (decide (0<=e.id))/\Lk w' w NoB):=by
 refine ret_of_x (N:=6) (l:=[.agg (enC e).toArray]) Tryz.func83 rfl rfl (Nat.le_of_ble_eq_true rfl) ?_
 refine xq ?_
 refine xl_e (e_box fun b1 w1 n1 l1 k1=>?_)
 refine xz ?_
 refine xq (xl_Fb ?_)
 refine xl_Lc ?_
 refine xl_v v_geq (xz ?_)
 refine x_ret ?_
 refine fin1 rfl ?_
 exact ⟨rfl,lkc⟩
theorem p3_ok (e:En) (w:World):Ret Tryz.prog 84 #[.agg (enC e).toArray] w (fun v w'=>v=.bool (decide (e.kind=1))/\Lk w' w NoB):=by
 refine ret_of_x (N:=6) (l:=[.agg (enC e).toArray]) Tryz.func84 rfl rfl (Nat.le_of_ble_eq_true rfl) ?_
 refine xq ?_
 refine xl_e (e_box fun b1 w1 n1 l1 k1=>?_)
 refine xz ?_
 refine xq (xl_Fb ?_)
 refine xl_Lc ?_
 refine xl_v v_eql (xz ?_)
 refine x_ret ?_
 refine fin1 rfl ?_
 exact ⟨rfl,lkc⟩
theorem p12_ok (e:En) (b2 b3:Nat) (w:World) [h2:Blk w b2 (.cells #[fnV 83] 118 (0,0))] [h3:Blk w b3 (.cells #[fnV 84] 118 (0,0))]:Ret Tryz.prog 95 #[.agg (enC e).toArray,.pointer (some ⟨b3,0,none⟩),.pointer (some ⟨b2,0,none⟩)] w (fun v w'=>v=.bool (decide (e.kind=1) && decide (0<=e.id))/\Lk w' w NoB):=by
 refine ret_of_x (N:=13) (l:=[.agg (enC e).toArray,.pointer (some ⟨b3,0,none⟩),.pointer (some ⟨b2,0,none⟩)]) Tryz.func95 rfl rfl (Nat.le_of_ble_eq_true rfl) ?_
 refine xq ?_
 refine xl_e (e_box fun b1 w1 n1 l1 k1=>?_)
 refine xz ?_
 refine xq (xl_Lc ?_)
 refine xl_Lb ?_
 refine xl_call (p3_ok e w1) ?_
 rintro _ w2 ⟨rfl,lk2⟩
 refine xm ?_
 refine xl_split 8 (fun g8=>?_) (fun g8=>?_)
 ·refine xl_gLc rfl EvO.eq ?_
  refine xl_gLb rfl EvO.eq ?_
  refine xl_gcall rfl EvO.eq (p2_ok e w2) ?_
  rintro _ w3 ⟨rfl,lk6⟩
  refine xl_Pk ?_
  refine xz ?_
  refine x_ret ?_
  refine fin1 rfl ?_
  exact ⟨congrArg Value.bool (by simp_all),lkc⟩
 refine xl_gs rfl EvO.eq (xl_gs rfl EvO.eq (xl_gs rfl EvO.eq (xl_Pk ?_)))
 refine xz ?_
 refine x_ret ?_
 refine fin1 rfl ?_
 exact ⟨congrArg Value.bool (by simp_all),lkc⟩
theorem has_ok (e:En) (b2 b3 k:Nat) (w:World) (h2:w.heap[b2]?=some (.cells #[fnV 83] 118 (0,0))) (h3:w.heap[b3]?=some (.cells #[fnV 84] 118 (0,0))) (hk:k<6) :
    CallV Tryz.prog (hasV b2 b3 k) [.agg (enC e).toArray] w (fun v w'=>v=.bool (hasB e k)/\Lk w' w NoB):=by
 haveI:Blk w b2 _:=⟨h2⟩
 haveI:Blk w b3 _:=⟨h3⟩
 match k,hk with
 | 0,_=>exact CallV.of_ret (a:=[]) (c:=[]) (p1_ok e w)
 | 1,_=>exact CallV.of_ret (a:=[]) (c:=[]) (p1_ok e w)
 | 2,_=>exact CallV.of_ret (a:=[]) (c:=[]) (p1_ok e w)
 | 3,_=>exact CallV.of_ret (a:=[]) (c:=[]) (p2_ok e w)
 | 4,_=>exact CallV.of_ret (a:=[]) (c:=[Value.pointer (some ⟨b3,0,none⟩),.pointer (some ⟨b2,0,none⟩)]) (p12_ok e b2 b3 w)
 | 5,_=>exact CallV.of_ret (a:=[]) (c:=[]) (p3_ok e w)
def Apps (V:Value) (ml base:Nat) (bs out:By) (w:World):Value->World->Prop:=fun v w'=>
 (∃ A c,v=.slice A (ml+out.length) c/\w'.ownsRow base 5 1 v (ml+out.length) (bytesC (bs++out))/\From v V w)/\Lk w' w (OwnB V)
theorem w0_ok (V:Value) (ml:Nat) (bs:List UInt8) (e:En) (base:Nat) (w:World) (hown:w.ownsRow base 5 1 V ml (bytesC bs)) (hb:base<=w.heap.size) (hm:ml<=1000000) (hr:Right e):Ret Tryz.prog 85 #[V,.agg (enC e).toArray] w (Apps V ml base bs [byteI (e.kind)] w):=by
 have hr1:=hr.2.2.2.1
 have hr2:=hr.2.2.2.2.1
 refine ret_of_x (N:=11) (l:=[V,.agg (enC e).toArray]) Tryz.func85 rfl rfl (Nat.le_of_ble_eq_true rfl) ?_
 refine xq ?_
 refine xl_e (e_box fun b1 w1 n1 l1 k1=>?_)
 refine xz ?_
 refine xq (xm (xl_Fb ?_))
 refine xl_Lc ?_
 refine xl_v (v_congr (u:=.int .u8 ((byteI (e.kind)).toNat:Int)) v_convert (congrArg (Value.int .u8) (byteI_wrap _))) ?_
 refine xl_e (e_buildSlice1 rfl fun b5 w2 n5 l5 k5=>?_)
 have hge6:w.heap.size<=(w2).heap.size:=Ge.le
 refine xl_e (e_append' (own_ext hown lkc) (Nat.le_trans hb Ge.le) rfl Cell1L.eq (by decide) (.inl rfl) (by omega) (by omega) fun A6 c6 w3 hown2 l6 hn6=>?_)
 refine xz ?_
 refine x_ret ?_
 refine fin1 rfl ?_
 refine ⟨⟨A6,c6,rfl,?_,From.app (.inl rfl) hn6 hge6⟩,lkc⟩
 rw [<- bytesC_append]
 exact hown2
theorem w2_ok (V:Value) (ml:Nat) (bs:List UInt8) (e:En) (base:Nat) (w:World) (hown:w.ownsRow base 5 1 V ml (bytesC bs)) (hb:base<=w.heap.size) (hm:ml<=1000000) (hr:Right e):Ret Tryz.prog 91 #[V,.agg (enC e).toArray] w (Apps V ml base bs [byteI (e.id+1)] w):=by
 have hr1:=hr.2.2.2.1
 have hr2:=hr.2.2.2.2.1
 refine ret_of_x (N:=12) (l:=[V,.agg (enC e).toArray]) Tryz.func91 rfl rfl (Nat.le_of_ble_eq_true rfl) ?_
 refine xq ?_
 refine xl_e (e_box fun b1 w1 n1 l1 k1=>?_)
 refine xz ?_
 refine xq (xm (xl_Fb ?_))
 refine xl_Lc ?_
 refine xl_v (v_add (by omega)) ?_
 refine xl_v (v_congr (u:=.int .u8 ((byteI (e.id+1)).toNat:Int)) v_convert (congrArg (Value.int .u8) (byteI_wrap _))) ?_
 refine xl_e (e_buildSlice1 rfl fun b5 w2 n5 l5 k5=>?_)
 have hge6:w.heap.size<=(w2).heap.size:=Ge.le
 refine xl_e (e_append' (own_ext hown lkc) (Nat.le_trans hb Ge.le) rfl Cell1L.eq (by decide) (.inl rfl) (by omega) (by omega) fun A6 c6 w3 hown2 l6 hn6=>?_)
 refine xz ?_
 refine x_ret ?_
 refine fin1 rfl ?_
 refine ⟨⟨A6,c6,rfl,?_,From.app (.inl rfl) hn6 hge6⟩,lkc⟩
 rw [<- bytesC_append]
 exact hown2
theorem From.mono {v V:Value} {w w1:World} (h:From v V w1) (hg:w.heap.size<=w1.heap.size):From v V w:=h.imp id (fun ⟨j,h1,h2⟩=>⟨j,h1,Nat.le_trans hg h2⟩)
theorem w1_ok (V:Value) (ml:Nat) (bs:List UInt8) (e:En) (base:Nat) (w:World) (hown:w.ownsRow base 5 1 V ml (bytesC bs)) (hb:base<=w.heap.size) (hm:ml<=1000000) (h0:0<=e.epoch) (h1:e.epoch<=2147483647):Ret Tryz.prog 87 #[V,.agg (enC e).toArray] w (Apps V ml base bs (numB e.epoch.toNat) w):=by
 have hx:((e.epoch.toNat:Nat):Int)=e.epoch:=by omega
 refine ret_of_x (N:=9) (l:=[V,.agg (enC e).toArray]) Tryz.func87 rfl rfl (Nat.le_of_ble_eq_true rfl) ?_
 refine xq ?_
 refine xl_e (e_box fun b1 w1 n1 l1 k1=>?_)
 refine xz ?_
 refine xq (xm (xl_Fb ?_))
 refine xl_Lc ?_
 refine xl_call ((by rw [<- hx];exact numberI_ok V ml bs e.epoch.toNat base w1 (own_ext hown lkc) (Nat.le_trans hb Ge.le) (by omega) hm)) ?_
 rintro _ w2 ⟨⟨A,c,rfl,ho,hf⟩,lk⟩
 refine xz ?_
 refine x_ret ?_
 refine fin1 rfl ?_
 exact ⟨⟨A,c,rfl,ho,hf.mono Ge.le⟩,lkc⟩
theorem w3_ok (V:Value) (ml:Nat) (bs:List UInt8) (e:En) (base:Nat) (w:World) (hown:w.ownsRow base 5 1 V ml (bytesC bs)) (hb:base<=w.heap.size) (hm:ml<=1000000) (h0:0<=e.num) (h1:e.num<=2147483647):Ret Tryz.prog 93 #[V,.agg (enC e).toArray] w (Apps V ml base bs (numB e.num.toNat) w):=by
 have hx:((e.num.toNat:Nat):Int)=e.num:=by omega
 refine ret_of_x (N:=9) (l:=[V,.agg (enC e).toArray]) Tryz.func93 rfl rfl (Nat.le_of_ble_eq_true rfl) ?_
 refine xq ?_
 refine xl_e (e_box fun b1 w1 n1 l1 k1=>?_)
 refine xz ?_
 refine xq (xm (xl_Fb ?_))
 refine xl_Lc ?_
 refine xl_call ((by rw [<- hx];exact numberI_ok V ml bs e.num.toNat base w1 (own_ext hown lkc) (Nat.le_trans hb Ge.le) (by omega) hm)) ?_
 rintro _ w2 ⟨⟨A,c,rfl,ho,hf⟩,lk⟩
 refine xz ?_
 refine x_ret ?_
 refine fin1 rfl ?_
 exact ⟨⟨A,c,rfl,ho,hf.mono Ge.le⟩,lkc⟩
theorem w4_ok (V:Value) (ml:Nat) (bs:List UInt8) (e:En) (base:Nat) (w:World) (hown:w.ownsRow base 5 1 V ml (bytesC bs)) (hb:base<=w.heap.size) (hm:ml<=1000000) (h0:0<=e.seq) (h1:e.seq<=2147483647):Ret Tryz.prog 96 #[V,.agg (enC e).toArray] w (Apps V ml base bs (numB e.seq.toNat) w):=by
 have hx:((e.seq.toNat:Nat):Int)=e.seq:=by omega
 refine ret_of_x (N:=9) (l:=[V,.agg (enC e).toArray]) Tryz.func96 rfl rfl (Nat.le_of_ble_eq_true rfl) ?_
 refine xq ?_
 refine xl_e (e_box fun b1 w1 n1 l1 k1=>?_)
 refine xz ?_
 refine xq (xm (xl_Fb ?_))
 refine xl_Lc ?_
 refine xl_call ((by rw [<- hx];exact numberI_ok V ml bs e.seq.toNat base w1 (own_ext hown lkc) (Nat.le_trans hb Ge.le) (by omega) hm)) ?_
 rintro _ w2 ⟨⟨A,c,rfl,ho,hf⟩,lk⟩
 refine xz ?_
 refine x_ret ?_
 refine fin1 rfl ?_
 exact ⟨⟨A,c,rfl,ho,hf.mono Ge.le⟩,lkc⟩
theorem w5_ok (V:Value) (ml:Nat) (bs:List UInt8) (e:En) (base:Nat) (w:World) (hown:w.ownsRow base 5 1 V ml (bytesC bs)) (hb:base<=w.heap.size) (hm:ml<=1000000) (h0:-2147483648<=e.val) (h1:e.val<=2147483647):Ret Tryz.prog 98 #[V,.agg (enC e).toArray] w (Apps V ml base bs (numB (zig e.val)) w):=by
 refine ret_of_x (N:=9) (l:=[V,.agg (enC e).toArray]) Tryz.func98 rfl rfl (Nat.le_of_ble_eq_true rfl) ?_
 refine xq ?_
 refine xl_e (e_box fun b1 w1 n1 l1 k1=>?_)
 refine xz ?_
 refine xq (xm (xl_Fb ?_))
 refine xl_Lc ?_
 refine xl_call (signed_ok V ml bs e.val base w1 (own_ext hown lkc) (Nat.le_trans hb Ge.le) h0 h1 hm) ?_
 rintro _ w2 ⟨⟨A,c,rfl,ho,hf⟩,lk⟩
 refine xz ?_
 refine x_ret ?_
 refine fin1 rfl ?_
 exact ⟨⟨A,c,rfl,ho,hf.mono Ge.le⟩,lkc⟩
theorem wr_ok (V:Value) (ml:Nat) (bs:List UInt8) (e:En) (base k:Nat) (w:World) (hown:w.ownsRow base 5 1 V ml (bytesC bs)) (hb:base<=w.heap.size) (hm:ml<=1000000) (hr:Right e) (hk:k<6) (hh:hasB e k=true) :
    CallV Tryz.prog (wrV k) [V,.agg (enC e).toArray] w (Apps V ml base bs (wrB e k) w):=by
 obtain ⟨h1,h2,h3,h4,h5,h6,h7,h8,h9,h10⟩:=id hr
 unfold in31 at *
 match k,hk with
 | 0,_=>exact CallV.of_ret (a:=[]) (c:=[]) (w0_ok V ml bs e base w hown hb hm hr)
 | 1,_=>exact CallV.of_ret (a:=[]) (c:=[]) (w1_ok V ml bs e base w hown hb hm (by omega) (by omega))
 | 2,_=>exact CallV.of_ret (a:=[]) (c:=[]) (w2_ok V ml bs e base w hown hb hm hr)
 | 3,_=>
   have hi:0<=e.id:=by simpa [hasB] using hh
   exact CallV.of_ret (a:=[]) (c:=[]) (w3_ok V ml bs e base w hown hb hm (by have:=h8 hi;omega) (by have:=h8 hi;omega))
 | 4,_=>exact CallV.of_ret (a:=[]) (c:=[]) (w4_ok V ml bs e base w hown hb hm (by omega) (by omega))
 | 5,_=>exact CallV.of_ret (a:=[]) (c:=[]) (w5_ok V ml bs e base w hown hb hm (by omega) (by omega))
theorem tdivN (q m:Nat):(q:Int).tdiv (m:Int)=((q / m:Nat):Int):=(Int.ofNat_tdiv q m).symm
theorem tmodN (q m:Nat):(q:Int).tmod (m:Int)=((q % m:Nat):Int):=(Int.ofNat_tmod q m).symm
theorem frames_snoc (l:List En) (e:En):frames (l++[e])=frames l++(le4 (sumW (body e))++[UInt8.ofNat (body e).length]++body e):=by simp [frames,frame,framed]
theorem frames_len {l:List En} (h:∀ e∈l,Right e):(frames l).length<=40*l.length:=by
 induction l with
 | nil=>simp [frames]
 | cons e l ih=>
   have h1:=(frame_len (h e List.mem_cons_self)).2
   have h2:=ih (fun x hx=>h x (List.mem_cons_of_mem _ hx))
   simp [frames] at h2 ⊢
   omega
theorem le4_0 (x:W32):IntKind.u8.wrap (x.toNat:Int)=((le4 x)[0]'(by show 0<4;omega):UInt8).toNat:=by
 have:=le4_get x 0 (by show 0<4;omega)
 simpa using this.symm
set_option maxHeartbeats 2000000 in
theorem frames_ok (A:Option Addr) (n c:Nat) (l:List En) (w:World) [hra:RowB w A w (l.flatMap enC)] (hl:l.length=n) (hn:n<=1000000) (hR:∀ e∈l,Right e):Ret Tryz.prog 49 #[.slice A n c] w (fun v w'=>(∃ A' c',v=.tuple #[.slice A' (frames l).length c',.int .i64 0]/\w'.ownsRow w.heap.size 5 1 (.slice A' (frames l).length c') (frames l).length (bytesC (frames l)))/\Lk w' w NoB):=by
 refine ret_of_x (N:=61) (l:=[.slice A n c]) Tryz.func49 rfl rfl (Nat.le_of_ble_eq_true rfl) ?_
 refine xq (xa (xz ?_))
 refine xq (xz ?_)
 refine x_seq (xq (xm (xl_v v_len (xm (xl_nil ?_)))))
 refine x_block ?_
 refine x_loop (fun t τ ds w'=>ds=[]/\∃ (k:Nat) (V:Value),t=n - k/\k<=n/\w'.ownsRow w.heap.size 5 1 V (frames (l.take k)).length (bytesC (frames (l.take k)))/\Ev τ 4 V/\Ev τ 12 (.slice A n c)/\Ev τ 13 (.int .i64 (n:Int))/\Ev τ 14 (.int .i64 (k:Int))/\Lk w' w NoB) (n) ?start ?round
 case start=>
  exact ⟨rfl,0,_,rfl,Nat.zero_le _,World.ownsRow_nil _ _ _ _,ii,ii,ii,evc,lkc⟩
 case round=>
  intro m τ1 ds1 w1 hI
  obtain ⟨rfl,k,V,rfl,hk,hown,e4,e12,e13,e14,lk⟩:=hI
  obtain ⟨AV,cV,rfl,_⟩:=ownsRow_form hown
  refine xq (xl_v v_lss (xl_nil ?_))
  refine x_seq ?_
  refine x_if (fun c1=>?_) (fun c1=>?_)
  ·have hk1:k<l.length:=by omega
   have hRk:=hR _ (List.getElem_mem hk1)
   have hbl:=body_len hRk
   have hfl:=frames_len (l:=l.take k) (fun e he=>hR e (List.mem_of_mem_take he))
   have hftk:(l.take k).length<=1000000:=by rw [List.length_take];omega
   refine x_skip (x_seq (x_block (xq ?_)))
   refine xl_v (v_indexF k (by decide) rfl (by omega) hk1) ?_
   refine xl_v (v_loadF (k:=k) (by decide) hk1) ?_
   refine xl_e (e_alloc fun b6 w2 n6 l6 k6=>?_)
   refine xl_s (e_storeA fun w3 l3 k3=>?_)
   refine xl_nil ?_
   refine x_seq (xq (xl_Lb ?_))
   refine xl_call (check_ok l[k] w3) ?_
   rintro _ w4 ⟨rfl,lk5⟩
   rw [if_pos hRk]
   refine xz ?_
   refine xq (xm ?_)
   refine xl_v (v_neqF rfl) ?_
   refine xl_nil ?_
   refine x_condF ?_
   refine x_skip (xq (xz ?_))
   refine x_seq (xq ?_)
   refine xl_call (parts_ok w4) ?_
   rintro _ w5 ⟨⟨b2,b3,rfl,hb2,hb3,hg2,hg3⟩,lk9⟩
   haveI kb2:Blk w5 b2 _:=⟨hb2⟩
   haveI kb3:Blk w5 b3 _:=⟨hb3⟩
   refine xm (xl_nil ?_)
   refine x_block ?_
   obtain ⟨wL,hwL⟩:∃ x,x=w5:=⟨_,rfl⟩
   have hgL:(w1).heap.size<=wL.heap.size:=by rw [hwL];exact Ge.le
   have lkLB:Lk wL w1 NoB:=⟨by rw [hwL];exact kpc⟩
   haveI kb6L:Blk wL b6 (.cells (enC l[k]).toArray 51 (0,0)):=⟨by rw [hwL];exact Blk.eq⟩
   haveI kb2L:Blk wL b2 (.cells #[fnV 83] 118 (0,0)):=⟨by rw [hwL];exact Blk.eq⟩
   haveI kb3L:Blk wL b3 (.cells #[fnV 84] 118 (0,0)):=⟨by rw [hwL];exact Blk.eq⟩
   have hownL:wL.ownsRow w.heap.size 5 1 (.slice AV (frames (l.take k)).length cV) (frames (l.take k)).length (bytesC (frames (l.take k))):=by rw [hwL];exact own_ext hown lkc
   refine x_loop (fun t τ ds w'=>ds=[]/\∃ (j:Nat) (V2:Value),t=6 - j/\j<=6/\w'.ownsRow wL.heap.size 5 1 V2 (bodyTo l[k] j).length (bytesC (bodyTo l[k] j))/\Ev τ 4 (.slice AV (frames (l.take k)).length cV)/\Ev τ 6 (.pointer (some ⟨b6,0,none⟩))/\Ev τ 8 V2/\Ev τ 12 (.slice A n c)/\Ev τ 13 (.int .i64 (n:Int))/\Ev τ 14 (.int .i64 (k:Int))/\Ev τ 23 (.agg (partsC b2 b3).toArray)/\Ev τ 24 (.int .i64 (j:Int))/\Lk w' wL NoB) (6) ?start ?round
   case start=>
    exact ⟨rfl,0,.slice none 0 0,rfl,Nat.zero_le _,World.ownsRow_nil _ _ _ _,ii,ii,ii,ii,ii,ii,ii,evc,by rw [hwL];exact lkc⟩
   case round=>
    intro m τ6 ds6 w6 hI
    clear hown e4 e12 e13 e14
    obtain ⟨rfl,j,V2,rfl,hj,hown2,e4,e6,e8,e12,e13,e14,e23,e24,lk2⟩:=hI
    obtain ⟨A2,c2,rfl,_⟩:=ownsRow_form hown2
    haveI:=lkLB
    refine xq (xl_v v_lss (xl_nil ?_))
    refine x_seq ?_
    refine x_if (fun c3=>?_) (fun c3=>?_)
    ·have hj1:j<6:=by omega
     have hbj:=bodyTo_len hRk (j:=j) (by omega)
     haveI:=ownN_of hown2 (Nat.le_refl _)
     refine x_skip (x_seq (x_block (xq ?_)))
     refine xl_v (v_indexGM (us:=partC b2 b3 j) j rfl hj1 (partsC_get b2 b3 j hj1)) ?_
     refine xl_e (e_alloc fun b10 w7 n10 l10 k10=>?_)
     refine xl_s (e_storeA fun w8 l8 k8=>?_)
     refine xl_nil ?_
     refine xq (xl_Fb ?_)
     refine xl_Lc ?_
     refine xl_Lb ?_
     refine xl_callv (has_ok l[k] b2 b3 j w8 Blk.eq Blk.eq hj1) ?_
     rintro _ w9 ⟨rfl,lk12⟩
     refine xl_nil ?_
     refine x_condE (fun c4=>?_) (fun c4=>?_)
     ·refine x_regionL (xl_Fb ?_)
      refine xl_Lc ?_
      refine xm (xl_Lb ?_)
      refine xl_callv (wr_ok _ _ _ l[k] wL.heap.size j w9 (own_ext hown2 lkc) (Nat.le_trans lk2.keep.size Ge.le) (by omega) hRk hj1 c4) ?_
      rintro _ w10 ⟨⟨A3,c3',rfl,ho3,hf3⟩,lk13⟩
      have hown3:World.ownsRow w10 wL.heap.size 5 1 (.slice A3 ((bodyTo l[k] j).length+(wrB l[k] j).length) c3') (bodyTo l[k] (j+1)).length (bytesC (bodyTo l[k] (j+1))):=by
       rw [bodyTo_succ,if_pos c4,List.length_append]
       exact ho3
      refine xz ?_
      refine x_regionL ?_
      refine xl_v (v_add (by omega)) ?_
      refine xm (xl_nil ?_)
      refine ⟨_,?_,rfl,j+1,_,rfl,by omega,hown3,ii,ii,ii,ii,ii,ii,ii,evc,lkc⟩
      omega
     have hown3:World.ownsRow w9 wL.heap.size 5 1 (.slice A2 (bodyTo l[k] j).length c2) (bodyTo l[k] (j+1)).length (bytesC (bodyTo l[k] (j+1))):=by
      rw [bodyTo_succ,if_neg (by rw [c4];decide),List.append_nil]
      exact own_ext hown2 lkc
     refine x_skip (x_regionL ?_)
     refine xl_v (v_add (by omega)) ?_
     refine xm (xl_nil ?_)
     refine ⟨_,?_,rfl,j+1,_,rfl,by omega,hown3,ii,ii,ii,ii,ii,ii,ii,evc,lkc⟩
     omega
    have hj6:j=6:=by omega
    subst hj6
    rw [bodyTo_all] at hown2 e8
    obtain ⟨s,hs⟩:∃ s,s=sumW (body l[k]):=⟨_,rfl⟩
    haveI oB:OwnI w6 A2 _ _ _ _ _ _ _:=⟨hown2⟩
    refine x_exit (xq (xm ?_))
    refine xl_call (sum_ok A2 (body l[k]).length c2 (body l[k]) w6 rfl (by omega)) ?_
    rintro _ w11 ⟨rfl,lk15⟩
    rw [<- hs]
    refine xz ?_
    refine xq (xm (xm ?_))
    refine xl_v (v_congr (u:=.int .u8 (((le4 s)[0]'(by show 0<4;omega)).toNat:Int)) v_convert (congrArg (Value.int .u8) (le4_0 s))) ?_
    refine xm ?_
    refine xl_v (v_congr (u:=.int .u32 ((s >>> (8*1)).toNat:Int)) (v_shr (by omega)) (congrArg (Value.int .u32) (shrW s 8 (by omega)))) ?_
    refine xl_v (v_congr (u:=.int .u8 (((le4 s)[1]'(by show 1<4;omega)).toNat:Int)) v_convert (congrArg (Value.int .u8) (le4_get s 1 (by show 1<4;omega)).symm)) ?_
    refine xm ?_
    refine xl_v (v_congr (u:=.int .u32 ((s >>> (8*2)).toNat:Int)) (v_shr (by omega)) (congrArg (Value.int .u32) (shrW s 16 (by omega)))) ?_
    refine xl_v (v_congr (u:=.int .u8 (((le4 s)[2]'(by show 2<4;omega)).toNat:Int)) v_convert (congrArg (Value.int .u8) (le4_get s 2 (by show 2<4;omega)).symm)) ?_
    refine xm ?_
    refine xl_v (v_congr (u:=.int .u32 ((s >>> (8*3)).toNat:Int)) (v_shr (by omega)) (congrArg (Value.int .u32) (shrW s 24 (by omega)))) ?_
    refine xl_v (v_congr (u:=.int .u8 (((le4 s)[3]'(by show 3<4;omega)).toNat:Int)) v_convert (congrArg (Value.int .u8) (le4_get s 3 (by show 3<4;omega)).symm)) ?_
    refine xm (xl_v v_len ?_)
    refine xl_v (v_congr (u:=.int .u8 ((UInt8.ofNat (body l[k]).length).toNat:Int)) v_convert (congrArg (Value.int .u8) (byte_of _ (by omega)))) ?_
    refine xl_e (e_buildSliceN rfl fun b15 w12 n15 l15 k15=>?_)
    haveI:=ownN_of hownL (Nat.le_refl _)
    have hge16:w.heap.size<=(w12).heap.size:=Nat.le_trans (Nat.le_trans lk.keep.size hgL) (Nat.le_trans lk2.keep.size Ge.le)
    refine xl_e (e_append' (own_ext (own_ext hownL lk2) lkc) hge16 rfl Cell1L.eq (by decide) (.inl rfl) (by omega) (by omega) fun A16 c16 w13 ho16 l16 hn16=>?_)
    refine xz ?_
    refine x_regionL (xm (xm ?_))
    haveI:RowOut (OwnB (.slice AV (frames (l.take k)).length cV)) A2:=⟨fun a ha e=>by
     have h1:=own_blk hown2 a ha
     have e':some a.block=(Value.slice AV (frames (l.take k)).length cV).ownBlock:=e
     cases AV with
     | none=>simp [Value.ownBlock] at e'
     | some x=>
       have h2:=own_blk hownL x rfl
       simp [Value.ownBlock] at e'
       omega⟩
    haveI:=ownN_of ho16 (Nat.le_refl _)
    haveI oO:OwnI w13 A16 _ _ _ _ _ _ _:=⟨ho16⟩
    refine xl_e (e_append' ho16 (Nat.le_trans hge16 Ge.le) (by simp [bytesC]) (bytesC_one _) (by decide) (.inl (row_some (w:=w13) (A:=A2) (cs:=bytesC (body l[k])) ii (by simp [bytesC];omega))) (by omega) (by omega) fun A17 c17 w14 ho17 l17 hn17=>?_)
    refine xa ?_
    have hlen:(frames (l.take (k+1))).length=(frames (l.take k)).length+5+(body l[k]).length:=by
     rw [take_snoc l k hk1,frames_snoc]
     simp [le4_len];omega
    have hown5:World.ownsRow w14 w.heap.size 5 1 (.slice A17 ((frames (l.take k)).length+5+(body l[k]).length) c17) (frames (l.take (k+1))).length (bytesC (frames (l.take (k+1)))):=by
     rw [hlen,take_snoc l k hk1,frames_snoc,<- bytesC_append,<- bytesC_append,<- hs,<- List.append_assoc]
     exact ho17
    refine xl_nil ?_
    refine x_regionL ?_
    refine xl_v (v_add (by omega)) ?_
    refine xm (xl_nil ?_)
    refine ⟨_,?_,rfl,k+1,_,rfl,by omega,hown5,ii,ii,ii,evc,lkc⟩
    omega
  have hkn:k=n:=by omega
  subst hkn
  rw [List.take_of_length_le (by omega)] at hown e4
  refine x_exit (xq (xm (xa (xz ?_))))
  refine x_ret ?_
  refine fin2 rfl ?_
  exact ⟨⟨AV,cV,rfl,hown⟩,lkc⟩
end Go.Proofs.YtigmfcgeljjgnaaGreat
