/- A part of the walks through the log and its document, and of the law in plain Lean: GF GL GG GH. -/
import Derived.Test.YtigmfcgeljjgnaaGreatJ09
set_option linter.all false
set_option maxRecDepth 100000
set_option synthInstance.maxSize 100000
set_option synthInstance.maxHeartbeats 400000
namespace Go.Proofs.YtigmfcgeljjgnaaGreat
open Go.Wst
open Go.Wst.Dm Go.Wst.Sg
abbrev failC (e:Int):List PanicEntry:=[{ v:=.iface 168 (.agg #[.int .i64 e]),recovered:=false }]
abbrev ptrV (b:Nat):Value:=.pointer (some ⟨b,0,none⟩)
abbrev nextV (b2 b3:Nat):Value:=.func (.func 122) ([]:List Value).toArray [ptrV b2,ptrV b3].toArray
structure Left (w0:World) (cb:Nat) (xs:By) (w:World):Prop where
 ex:∃ A c,w.heap[cb]?=some (.cells #[.slice A xs.length c] 80 (0,0))/\xs.length<=c/\RowB w A w0 (bytesC xs)
structure Taker (cb b2 b3:Nat) (w:World):Prop where
 p:w.heap[b2]?=some (.cells #[ptrV cb] 153 (0,0))
 e:w.heap[b3]?=some (.cells #[.int .i64 121] 29 (0,0))
 n2:b2≠cb
 n3:b3≠cb
theorem Left.ext {w0 w w':World} {cb:Nat} {xs:By} {S:Nat->Prop} (h:Left w0 cb xs w) (k:Keep S w w') (hs:∀ k,S k->w0.heap.size<=k) (hn:¬ S cb):Left w0 cb xs w':=by
 obtain ⟨A,c,h1,h2,h3⟩:=h.ex
 exact ⟨A,c,(k.block cb (Array.getElem?_eq_some_iff.1 h1).1 hn).trans h1,h2,h3.keep k hs⟩
theorem Taker.ext {w w':World} {cb b2 b3:Nat} {S:Nat->Prop} (h:Taker cb b2 b3 w) (k:Keep S w w') (h2:¬ S b2) (h3:¬ S b3):Taker cb b2 b3 w':=
 ⟨(k.block b2 (Array.getElem?_eq_some_iff.1 h.p).1 h2).trans h.p,(k.block b3 (Array.getElem?_eq_some_iff.1 h.e).1 h3).trans h.e,h.n2,h.n3⟩
section
variable {P:Program} {r:Option Nat} {N:Nat} {S:Nat->Prop} {τ:Tau} {w:World} {ty:TypeId}
theorem v_makeInterfaceC {x:Operand} {t:TypeId} {v:Value} [hx:EvO N τ x v] (h:P.concrete t=true):Val P r N S (.makeInterface t x) ty τ w (.iface t v):=⟨fun _=>nofun,fun W _=>by
 simp [execOp,hx.eq,run_makeInterface,h]⟩
theorem v_eql_ifaceS {x:Operand} {t t' s:TypeId} {v:Value} {m:Array (String×TypeId)} [hx:EvO N τ x (.iface s v)] [hu:Und P t (.interface m)]:Val P r N S (.binOp .eql t x (.const .nilIface) t') ty τ w (.bool false):=⟨fun _=>nofun,fun W _=>by
 have hy:evO N τ (.const .nilIface)=.nilIface:=rfl
 have h0:∀ d,(Op.equalIn (d+1) t (.iface s v) .nilIface).run P W=.ok false W:=fun d=>by simp [Op.equalIn,run_underlying hu.eq]
 have:=h0 9999
 simp [execOp,hx.eq,hy,eqGuard,binOp,Op.equal,Op.maxDepth,this]⟩
theorem v_eql_ifaceN {x:Operand} {t t':TypeId} {m:Array (String×TypeId)} [hx:EvO N τ x .nilIface] [hu:Und P t (.interface m)]:Val P r N S (.binOp .eql t x (.const .nilIface) t') ty τ w (.bool true):=⟨fun _=>nofun,fun W _=>by
 have hy:evO N τ (.const .nilIface)=.nilIface:=rfl
 have h0:∀ d,(Op.equalIn (d+1) t .nilIface .nilIface).run P W=.ok true W:=fun d=>by simp [Op.equalIn,run_underlying hu.eq]
 have:=h0 9999
 simp [execOp,hx.eq,hy,eqGuard,binOp,Op.equal,Op.maxDepth,this]⟩
theorem v_typeAssertC {x:Operand} {t xT:TypeId} {v:Value} [hx:EvO N τ x (.iface t v)] (h:P.concrete t=true):Val P r N S (.typeAssert x xT t true) ty τ w (.tuple #[v,.bool true]):=⟨fun _=>nofun,fun W _=>by
 unfold Program.concrete at h
 cases hd:P.underlying t with
 | none=>simp [hd] at h
 | some d=>cases d<;>first | (simp [hd] at h;done) | simp [execOp,hx.eq,Instr.typeAssert,run_underlying hd]⟩
end
theorem must_ok (b:Bool) (e:Int) (w:World):RetP Tryz.prog 109 #[.bool b,.int .i64 e] w (fun v w'=>w=w'/\v=.tuple #[]/\b=true) (fun ch w'=>w=w'/\ch=failC e/\b=false):=by
 refine retP_of_x (N:=9) (l:=[.bool b,.int .i64 e]) Tryz.func109 rfl rfl (Nat.le_of_ble_eq_true rfl) ?_
 refine xq (xm (xl_v v_not (xl_nil ?_)))
 refine x_condE (fun c1=>?_) (fun c1=>?_)
 ·refine x_regionL (xm (xl_v v_build ?_))
  refine xl_v (v_makeInterfaceC (by kernel_rfl)) ?_
  refine xl_panic ?_
  refine And.intro rfl ?_
  exact ⟨rfl,rfl,by simpa using c1⟩
 refine x_skip ?_
 first | refine finP0 rfl ?_ | refine finP0 (RP:=fun _ _=>True) rfl ?_
 exact ⟨rfl,rfl,by simpa using c1⟩
theorem taker_ok (cb:Nat) (w:World):Ret Tryz.prog 111 #[ptrV cb,.int .i64 121] w (fun v w'=>(∃ b2 b3,v=nextV b2 b3/\w'.heap[b2]?=some (.cells #[ptrV cb] 153 (0,0))/\w'.heap[b3]?=some (.cells #[.int .i64 121] 29 (0,0))/\w.heap.size<=b2/\w.heap.size<=b3)/\Lk w' w NoB):=by
 refine ret_of_x (N:=6) (l:=[ptrV cb,.int .i64 121]) Tryz.func111 rfl rfl (Nat.le_of_ble_eq_true rfl) ?_
 refine xq ?_
 refine xl_e (e_box fun b2 w1 n2 l2 k2=>?_)
 refine xl_e (e_box fun b3 w2 n3 l3 k3=>?_)
 refine xz ?_
 refine xq (xl_v v_makeFunc (xz ?_))
 refine x_ret ?_
 refine fin1 rfl ?_
 exact ⟨⟨b2,b3,rfl,Blk.eq,Blk.eq,by rw [n2.eq];exact Nat.le_refl _,by rw [n3.eq];exact Ge.le⟩,lkc⟩
theorem next_ok (cb b2 b3:Nat) (w0:World) (xs:By) (w:World) (hL:Left w0 cb xs w) (hT:Taker cb b2 b3 w) (hc:w0.heap.size<=cb) (hn:xs.length<=100000000):RetP Tryz.prog 122 #[ptrV b2,ptrV b3] w (fun v w'=>(∃ c r,xs=c :: r/\v=.int .u8 (c.toNat:Int)/\Left w0 cb r w')/\Lk w' w (OneB cb)) (fun ch w'=>xs=[]/\ch=failC 121/\Lk w' w (OneB cb)):=by
 obtain ⟨A,c,hb,hlc,hr⟩:=hL.ex
 obtain ⟨n,hnn⟩:∃ n,n=xs.length:=⟨_,rfl⟩
 rw [<- hnn] at hb hlc hn
 haveI kcb:Blk w cb (.cells #[.slice A n c] 80 (0,0)):=⟨hb⟩
 haveI kb2:Blk w b2 (.cells #[ptrV cb] 153 (0,0)):=⟨hT.p⟩
 haveI kb3:Blk w b3 (.cells #[.int .i64 121] 29 (0,0)):=⟨hT.e⟩
 haveI:=hr
 haveI:Above (OneB cb) w0:=⟨fun k e=>by have e':k=cb:=e;omega⟩
 refine retP_of_x (N:=23) (l:=[ptrV b2,ptrV b3]) Tryz.func122 rfl rfl (Nat.le_of_ble_eq_true rfl) ?_
 refine xq (xz ?_)
 refine x_seq ?_
 refine x_drawL (NoB) (allS) (.take 0 (.take 1 (.take 2 (.take 3 (.take 4 (.take 5 (.eff 6 .done))))))) mixed (by kernel_rfl) (fun _ _ _ _ _ h=>h) (fun w1 l1=>?_)
 refine xt_Lc rfl ?_
 refine xt_Nc rfl ?_
 refine xt_Lc rfl ?_
 refine xt_v rfl v_len ?_
 refine xt_v rfl v_gtr ?_
 refine xt_Lc rfl ?_
 refine xt_callP rfl (must_ok (decide (0<(n:Int))) 121 w1) ?hp ?_
 case hp=>
  rintro ch w' ⟨rfl,rfl,hd⟩
  have h0:¬ 0<(n:Int):=by simpa using hd
  refine And.intro rfl ?_
  exact ⟨List.length_eq_zero_iff.1 (by omega),rfl,lkc⟩
 rintro _ _ ⟨rfl,rfl,hd⟩
 refine ⟨kpc,?_⟩
 refine xt_nil ?_
 have h0:0<(n:Int):=by simpa using hd
 obtain ⟨x,r,rfl⟩:∃ x r,xs=x :: r:=by cases xs with | nil=>(simp at hnn;omega) | cons x r=>exact ⟨x,r,rfl⟩
 have hn1:n=r.length+1:=by simpa using hnn
 have hA:A.isSome=true:=row_some (w:=w) (cs:=bytesC (x :: r)) ⟨hr.row⟩ (by simp [bytesC])
 refine xq (xl_Lc ?_)
 refine xl_Nc ?_
 refine xl_Lc ?_
 refine xl_v (v_indexO 0 rfl (by omega) (by simp)) ?_
 refine xl_v (v_loadO (k:=0) (by simp)) ?_
 refine xz ?_
 refine x_seq ?_
 refine x_drawL (NoB) (allS) (.take 0 (.take 1 (.take 2 (.take 3 (.take 4 (.take 5 (.last 6))))))) mixed (by kernel_rfl) (fun _ _ _ _ _ h=>h) (fun w3 l3=>?_)
 refine xt_Lc rfl ?_
 refine xt_Lc rfl ?_
 refine xt_Nc rfl ?_
 refine xt_Lc rfl ?_
 refine xt_v rfl (v_sliceL 1 rfl (by omega)) ?_
 refine xt_Nc rfl ?_
 refine xt_lastS rfl (e_store fun w4 l4 k4=>?_)
 refine xq (xm (xz ?_))
 refine x_ret ?_
 first | refine finP1 rfl ?_ | refine finP1 (RP:=fun _ _=>True) rfl ?_
 refine ⟨⟨x,r,rfl,rfl,⟨_,c - 1,(ii:Blk w4 cb _).eq.trans (by rw [hn1];rfl),by omega,?_⟩⟩,lkc⟩
 exact ⟨brow_drop (bs:=x :: r) (c:=c) (k:=1) (ii:RowB w4 A w0 (bytesC (x :: r))).row (by simp;omega),hr.far.elim (fun h=>by simp [bytesC] at h) (fun h=>.inr fun a ha=>by
     split at ha
     ·exact h a ha
     ·cases A with
      | none=>simp at ha
      | some a0=>simp at ha;subst ha;rw [block_add];exact h a0 rfl)⟩
theorem and127 (c:UInt8):IntKind.u8.wrap ((BitVec.ofInt IntKind.u8.bits (c.toNat:Int) &&& BitVec.ofInt IntKind.u8.bits 127).toNat:Int)=((c.toNat % 128:Nat):Int):=by
 have h:∀ b:BitVec 8,(b &&& 127#8).toNat=b.toNat % 128:=by decide
 have h1:=c.toNat_lt
 show IntKind.u8.wrap (((BitVec.ofInt 8 (c.toNat:Int) &&& 127#8).toNat:Nat):Int)=_
 rw [BitVec.ofInt_natCast,h,BitVec.toNat_ofNat,u8wrap]
 congr 1
 omega
theorem pow7 (i:Nat):(2:Int) ^ (7*i)=((128 ^ i:Nat):Int):=by
 rw [show (128:Nat)=2 ^ 7 from rfl,<- Nat.pow_mul];simp
theorem pow_le {i:Nat} (hi:i<=8):128 ^ i<=72057594037927936:=Nat.le_trans (Nat.pow_le_pow_right (by omega) hi) (by decide)
theorem shl7 {a i:Nat} (ha:a<128) (hi:i<=8):IntKind.i64.wrap ((a:Int)*2 ^ min ((7*(i:Int)).toNat) IntKind.i64.bits)=((a*128 ^ i:Nat):Int):=by
 have e:min ((7*(i:Int)).toNat) IntKind.i64.bits=7*i:=by show min _ 64=_;omega
 have h1:=Nat.mul_le_mul (show a<=127 by omega) (pow_le hi)
 rw [e,pow7,<- Int.natCast_mul]
 exact wrap_in (by omega) (by omega)
theorem or7 {acc x i:Nat} (h:acc<128 ^ i) (hi:i<=8) (hx:x<128):IntKind.i64.wrap ((BitVec.ofInt IntKind.i64.bits (acc:Int) ||| BitVec.ofInt IntKind.i64.bits ((x*128 ^ i:Nat):Int)).toNat:Int)=((acc+x*128 ^ i:Nat):Int):=by
 have h1:=Nat.mul_le_mul (show x<=127 by omega) (pow_le hi)
 have h2:=pow_le hi
 show IntKind.i64.wrap (((BitVec.ofInt 64 (acc:Int) ||| BitVec.ofInt 64 ((x*128 ^ i:Nat):Int)).toNat:Nat):Int)=_
 rw [BitVec.ofInt_natCast,BitVec.ofInt_natCast,BitVec.toNat_or,BitVec.toNat_ofNat,BitVec.toNat_ofNat,Nat.mod_eq_of_lt (by omega),Nat.mod_eq_of_lt (by omega)]
 have e:128 ^ i=2 ^ (7*i):=by rw [show (128:Nat)=2 ^ 7 from rfl,<- Nat.pow_mul]
 have h3:=Nat.two_pow_add_eq_or_of_lt (b:=acc) (i:=7*i) (by rw [<- e];exact h) x
 rw [<- e,Nat.mul_comm] at h3
 rw [Nat.or_comm,<- h3,Nat.add_comm]
 exact wrap_in (by omega) (by omega)
theorem acc_lt {acc x i:Nat} (h:acc<128 ^ i) (hx:x<128):acc+x*128 ^ i<128 ^ (i+1):=by
 have h1:=Nat.mul_le_mul (show x<=127 by omega) (Nat.le_refl (128 ^ i))
 rw [Nat.pow_succ]
 omega
theorem take_ok (cb b2 b3:Nat) (w0:World) (xs:By) (w:World) (hL:Left w0 cb xs w) (hT:Taker cb b2 b3 w) (hc:w0.heap.size<=cb) (hn:xs.length<=100000000):RetP Tryz.prog 90 #[nextV b2 b3] w (fun v w'=>(∃ n r,takeB 0 0 xs=some (n,r)/\v=.int .i64 (n:Int)/\Left w0 cb r w')/\Lk w' w (OneB cb)) (fun ch w'=>takeB 0 0 xs=none/\ch=failC 121/\Lk w' w (OneB cb)):=by
 refine retP_of_x (N:=35) (l:=[nextV b2 b3]) Tryz.func90 rfl rfl (Nat.le_of_ble_eq_true rfl) ?_
 refine xq (xz ?_)
 refine xq (xz ?_)
 refine xq (xz ?_)
 refine x_block ?_
 refine x_loop (fun t τ ds w'=>ds=[]/\∃ (i acc:Nat) (ys:By),t=9 - i/\i<=8/\acc<128 ^ i/\takeB i acc ys=takeB 0 0 xs/\ys.length<=xs.length/\Left w0 cb ys w'/\Ev τ 0 (nextV b2 b3)/\Ev τ 3 (.int .i64 (acc:Int))/\Ev τ 4 (.int .i64 (i:Int))/\Lk w' w (OneB cb)) (9) ?start ?round
 case start=>
  exact ⟨rfl,0,0,xs,rfl,Nat.zero_le _,by decide,rfl,Nat.le_refl _,hL,ii,evc,evc,lkc⟩
 case round=>
  intro m τ1 ds1 w1 hI
  obtain ⟨rfl,i,acc,ys,rfl,hi,hacc,htk,hys,hL1,e0,e3,e4,lk⟩:=hI
  have hT1:Taker cb b2 b3 w1:=hT.ext lk.keep hT.n2 hT.n3
  refine x_seq (x_block (xq (xm ?_)))
  refine xl_callvP ((CallVP.of_ret (a:=[]) (c:=[ptrV b2,ptrV b3]) (next_ok cb b2 b3 w0 ys w1 hL1 hT1 hc (by omega)))) ?hp ?_
  case hp=>
   rintro ch w' ⟨rfl,rfl,lkp⟩
   exact ⟨rfl,htk.symm,rfl,lkc⟩
  rintro _ w2 ⟨⟨c,l,rfl,rfl,hL2⟩,lk4⟩
  have hc256:=c.toNat_lt
  have hacc2:=acc_lt hacc (x:=c.toNat % 128) (by omega)
  refine xz ?_
  refine x_cut (fun τ ds w'=>ds=[]/\¬ (8<=i/\128<=c.toNat)/\w'=w2/\Ev τ 0 (nextV b2 b3)/\Ev τ 3 (.int .i64 (acc:Int))/\Ev τ 4 (.int .i64 (i:Int))/\Ev τ 5 (.int .u8 (c.toNat:Int))) ?_ ?_
  ·refine x_regionL (xm (xl_v v_lss (xm ?_)))
   refine xl_split 12 (fun g12=>?_) (fun g12=>?_)
   ·have h12:=of_decide_eq_true g12
    refine xl_gs rfl EvO.eq (xl_gs rfl EvO.eq (xl_Pk ?_))
    refine xl_callP (must_ok _ 121 w2) ?hp ?_
    case hp=>
     rintro ch w' ⟨rfl,rfl,hd5⟩
     first
      | exact absurd hd5 (by decide)
      | exact ⟨rfl,by rw [<- htk];simp only [takeB];rw [if_pos (by have:=of_decide_eq_false hd5;omega)],rfl,lkc⟩
    rintro _ _ ⟨rfl,rfl,hd5⟩
    refine xl_nil ?_
    exact ⟨rfl,by first | omega | (have:=of_decide_eq_true hd5;omega),rfl,ii,ii,ii,ii⟩
   have h12:=of_decide_eq_false g12
   refine xl_gv rfl EvO.eq v_move (xl_gv rfl EvO.eq v_lss (xl_Pk ?_))
   refine xl_callP (must_ok _ 121 w2) ?hp ?_
   case hp=>
    rintro ch w' ⟨rfl,rfl,hd5⟩
    first
     | exact absurd hd5 (by decide)
     | exact ⟨rfl,by rw [<- htk];simp only [takeB];rw [if_pos (by have:=of_decide_eq_false hd5;omega)],rfl,lkc⟩
   rintro _ _ ⟨rfl,rfl,hd5⟩
   refine xl_nil ?_
   exact ⟨rfl,by first | omega | (have:=of_decide_eq_true hd5;omega),rfl,ii,ii,ii,ii⟩
  intro τ5 ds5 w5 hI
  obtain ⟨rfl,h8,hw',e0,e3,e4,e5⟩:=hI
  subst hw'
  refine xq (xm (xm ?_))
  refine xl_v (v_congr (u:=.int .u8 ((c.toNat % 128:Nat):Int)) v_and (congrArg (Value.int .u8) (and127 c))) ?_
  refine xl_v (v_congr (u:=.int .i64 ((c.toNat % 128:Nat):Int)) v_convert (congrArg (Value.int .i64) (wrap_in (by omega) (by omega)))) ?_
  refine xm ?_
  refine xl_v (v_mul (by omega)) ?_
  refine xl_v (v_congr (u:=.int .i64 ((c.toNat % 128*128 ^ i:Nat):Int)) (v_shl (by omega)) (congrArg (Value.int .i64) (shl7 (by omega) hi))) ?_
  refine xl_v (v_congr (u:=.int .i64 ((acc+c.toNat % 128*128 ^ i:Nat):Int)) v_or (congrArg (Value.int .i64) (or7 hacc hi (by omega)))) ?_
  refine xz ?_
  refine xq (xm (xl_v v_lss (xl_nil ?_)))
  refine x_if (fun c1=>?_) (fun c1=>?_)
  ·refine xq (xm (xl_v v_eql (xm ?_)))
   refine xl_split 29 (fun g29=>?_) (fun g29=>?_)
   ·have h29:=of_decide_eq_true g29
    refine xl_gs rfl EvO.eq (xl_gs rfl EvO.eq (xl_Pk ?_))
    refine xl_callP (must_ok _ 121 w5) ?hp ?_
    case hp=>
     rintro ch w' ⟨rfl,rfl,hd8⟩
     first
      | exact absurd hd8 (by decide)
      | exact ⟨rfl,by rw [<- htk];simp only [takeB];rw [if_neg (by omega),if_pos (by omega),if_pos (by simp only [Bool.not_eq_false',decide_eq_true_eq] at hd8;omega)],rfl,lkc⟩
    rintro _ _ ⟨rfl,rfl,hd8⟩
    refine xl_nil ?_
    refine xq (xm (xz ?_))
    refine x_ret ?_
    first | refine finP1 rfl ?_ | refine finP1 (RP:=fun _ _=>True) rfl ?_
    refine ⟨⟨_,l,?_,rfl,hL2⟩,lkc⟩
    have h0:¬ (0<i/\c.toNat=0):=by first | omega | (simp only [Bool.not_eq_true',decide_eq_false_iff_not] at hd8;omega)
    rw [<- htk];simp only [takeB]
    rw [if_neg (by omega),if_pos (by omega),if_neg h0,show c.toNat % 128=c.toNat by omega]
   have h29:=of_decide_eq_false g29
   refine xl_gv rfl EvO.eq v_move (xl_gv rfl EvO.eq v_neq (xl_Pk ?_))
   refine xl_callP (must_ok _ 121 w5) ?hp ?_
   case hp=>
    rintro ch w' ⟨rfl,rfl,hd8⟩
    first
     | exact absurd hd8 (by decide)
     | exact ⟨rfl,by rw [<- htk];simp only [takeB];rw [if_neg (by omega),if_pos (by omega),if_pos (by simp only [Bool.not_eq_false',decide_eq_true_eq] at hd8;omega)],rfl,lkc⟩
   rintro _ _ ⟨rfl,rfl,hd8⟩
   refine xl_nil ?_
   refine xq (xm (xz ?_))
   refine x_ret ?_
   first | refine finP1 rfl ?_ | refine finP1 (RP:=fun _ _=>True) rfl ?_
   refine ⟨⟨_,l,?_,rfl,hL2⟩,lkc⟩
   have h0:¬ (0<i/\c.toNat=0):=by first | omega | (simp only [Bool.not_eq_true',decide_eq_false_iff_not] at hd8;omega)
   rw [<- htk];simp only [takeB]
   rw [if_neg (by omega),if_pos (by omega),if_neg h0,show c.toNat % 128=c.toNat by omega]
  have htk2:takeB (i+1) (acc+c.toNat % 128*128 ^ i) l=takeB 0 0 xs:=by
   rw [<- htk];simp only [takeB];rw [if_neg (by omega),if_neg (by omega)]
  refine x_skip (x_regionL (xm ?_))
  refine xl_v (v_add (by omega)) ?_
  refine xz ?_
  refine ⟨_,?_,rfl,i+1,_,l,rfl,by omega,hacc2,htk2,by simp at hys;omega,hL2,ii,evc,evc,lkc⟩
  omega
def TwoB (b mb:Nat):Nat->Prop:=fun k=>k=b\/k=mb
section
variable {b mb:Nat} {w:World}
instance subF_two1 (b mb:Nat) (w:World):SubF (OneB b) (TwoB b mb) w:=⟨fun _ _ e=>.inl e⟩
instance subF_two2 (b mb:Nat) (w:World):SubF (OneB mb) (TwoB b mb) w:=⟨fun _ _ e=>.inr e⟩
end
def rdP:Nat->St->Option St
 | 0=>rd0
 | 1=>rd1
 | 2=>rd2
 | 3=>rd3
 | 4=>rd4
 | _=>rd5
def Got (k cb bx:Nat) (w0:World) (e:En) (xs:By) (w:World):Value->World->Prop:=fun v w'=>
 v=.tuple #[]/\(∃ e' r,rdP k (e,xs)=some (e',r)/\Left w0 cb r w'/\w'.heap[bx]?=some (.cells (enC e').toArray 51 (0,0)))/\Lk w' w (TwoB cb bx)
def Given (k cb:Nat) (e:En) (xs:By) (w:World):List PanicEntry->World->Prop:=fun ch w'=>rdP k (e,xs)=none/\ch=failC 121/\Lk w' w (OneB cb)
theorem g0_ok (cb b2 b3 bx:Nat) (w0:World) (xs:By) (e:En) (w:World) (hx:w.heap[bx]?=some (.cells (enC e).toArray 51 (0,0))) (hL:Left w0 cb xs w) (hT:Taker cb b2 b3 w) (hc:w0.heap.size<=cb) (hn:xs.length<=100000000) (hne:bx≠cb) (hcx:w0.heap.size<=bx) (hh:hasB e 0=true):RetP Tryz.prog 86 #[nextV b2 b3,ptrV bx] w (Got 0 cb bx w0 e xs w) (Given 0 cb e xs w):=by
 haveI:NeB bx cb:=⟨hne⟩
 haveI kx:Blk w bx (.cells (enC e).toArray 51 (0,0)):=⟨hx⟩
 refine retP_of_x (N:=10) (l:=[nextV b2 b3,ptrV bx]) Tryz.func86 rfl rfl (Nat.le_of_ble_eq_true rfl) ?_
 refine x_regionL (xm (xm ?_))
 refine xl_callvP ((CallVP.of_ret (a:=[]) (c:=[ptrV b2,ptrV b3]) (next_ok cb b2 b3 w0 xs w hL hT hc hn))) ?hp ?_
 case hp=>
  rintro ch w' ⟨rfl,rfl,lkp⟩
  exact ⟨rfl,rfl,rfl,lkc⟩
 rintro _ w1 ⟨⟨c,l,rfl,rfl,hL2⟩,lk2⟩
 have hc256:=c.toNat_lt
 refine xl_v (v_congr (u:=.int .i64 (c.toNat:Int)) v_convert (congrArg (Value.int .i64) (wrap_in (by omega) (by omega)))) ?_
 refine xl_Nc ?_
 refine xl_Fb ?_
 refine xl_s (e_store fun w2 l2 k2=>?_)
 refine xl_nil ?_
 first | refine finP0 rfl ?_ | refine finP0 (RP:=fun _ _=>True) rfl ?_
 exact ⟨rfl,⟨_,l,rfl,hL2.ext (S:=OneB bx) (w':=w2) kpc (fun k hk=>by have e':k=bx:=hk;omega) (fun e'=>hne (Eq.symm e')),Blk.eq⟩,lkc⟩
theorem g1_ok (cb b2 b3 bx:Nat) (w0:World) (xs:By) (e:En) (w:World) (hx:w.heap[bx]?=some (.cells (enC e).toArray 51 (0,0))) (hL:Left w0 cb xs w) (hT:Taker cb b2 b3 w) (hc:w0.heap.size<=cb) (hn:xs.length<=100000000) (hne:bx≠cb) (hcx:w0.heap.size<=bx) (hh:hasB e 1=true):RetP Tryz.prog 89 #[nextV b2 b3,ptrV bx] w (Got 1 cb bx w0 e xs w) (Given 1 cb e xs w):=by
 haveI:NeB bx cb:=⟨hne⟩
 haveI kx:Blk w bx (.cells (enC e).toArray 51 (0,0)):=⟨hx⟩
 refine retP_of_x (N:=9) (l:=[nextV b2 b3,ptrV bx]) Tryz.func89 rfl rfl (Nat.le_of_ble_eq_true rfl) ?_
 refine x_regionL (xm (xm ?_))
 refine xl_callP (take_ok cb b2 b3 w0 xs w hL hT hc hn) ?hp ?_
 case hp=>
  rintro ch w' ⟨htk,rfl,lkp⟩
  exact ⟨rfl,by show rd1 (e,xs)=_;unfold rd1;simp [htk],rfl,lkc⟩
 rintro _ w1 ⟨⟨n,r,htk,rfl,hL2⟩,lk2⟩
 have hk:rdP 1 (e,xs)=some ({ e with epoch:=n },r):=by show rd1 (e,xs)=_;unfold rd1;simp [htk]
 refine xl_Nc ?_
 refine xl_Fb ?_
 refine xl_s (e_store fun w2 l2 k2=>?_)
 refine xl_nil ?_
 first | refine finP0 rfl ?_ | refine finP0 (RP:=fun _ _=>True) rfl ?_
 exact ⟨rfl,⟨_,r,hk,hL2.ext (S:=OneB bx) (w':=w2) kpc (fun k hk=>by have e':k=bx:=hk;omega) (fun e'=>hne (Eq.symm e')),Blk.eq⟩,lkc⟩
theorem g2_ok (cb b2 b3 bx:Nat) (w0:World) (xs:By) (e:En) (w:World) (hx:w.heap[bx]?=some (.cells (enC e).toArray 51 (0,0))) (hL:Left w0 cb xs w) (hT:Taker cb b2 b3 w) (hc:w0.heap.size<=cb) (hn:xs.length<=100000000) (hne:bx≠cb) (hcx:w0.heap.size<=bx) (hh:hasB e 2=true):RetP Tryz.prog 92 #[nextV b2 b3,ptrV bx] w (Got 2 cb bx w0 e xs w) (Given 2 cb e xs w):=by
 haveI:NeB bx cb:=⟨hne⟩
 haveI kx:Blk w bx (.cells (enC e).toArray 51 (0,0)):=⟨hx⟩
 refine retP_of_x (N:=11) (l:=[nextV b2 b3,ptrV bx]) Tryz.func92 rfl rfl (Nat.le_of_ble_eq_true rfl) ?_
 refine x_regionL (xm (xm ?_))
 refine xl_callvP ((CallVP.of_ret (a:=[]) (c:=[ptrV b2,ptrV b3]) (next_ok cb b2 b3 w0 xs w hL hT hc hn))) ?hp ?_
 case hp=>
  rintro ch w' ⟨rfl,rfl,lkp⟩
  exact ⟨rfl,rfl,rfl,lkc⟩
 rintro _ w1 ⟨⟨c,l,rfl,rfl,hL2⟩,lk2⟩
 have hc256:=c.toNat_lt
 refine xl_v (v_congr (u:=.int .i64 (c.toNat:Int)) v_convert (congrArg (Value.int .i64) (wrap_in (by omega) (by omega)))) ?_
 refine xl_v (v_sub (by omega)) ?_
 refine xl_Nc ?_
 refine xl_Fb ?_
 refine xl_s (e_store fun w2 l2 k2=>?_)
 refine xl_nil ?_
 first | refine finP0 rfl ?_ | refine finP0 (RP:=fun _ _=>True) rfl ?_
 exact ⟨rfl,⟨_,l,rfl,hL2.ext (S:=OneB bx) (w':=w2) kpc (fun k hk=>by have e':k=bx:=hk;omega) (fun e'=>hne (Eq.symm e')),Blk.eq⟩,lkc⟩
theorem g3_ok (cb b2 b3 bx:Nat) (w0:World) (xs:By) (e:En) (w:World) (hx:w.heap[bx]?=some (.cells (enC e).toArray 51 (0,0))) (hL:Left w0 cb xs w) (hT:Taker cb b2 b3 w) (hc:w0.heap.size<=cb) (hn:xs.length<=100000000) (hne:bx≠cb) (hcx:w0.heap.size<=bx) (hh:hasB e 3=true):RetP Tryz.prog 94 #[nextV b2 b3,ptrV bx] w (Got 3 cb bx w0 e xs w) (Given 3 cb e xs w):=by
 haveI:NeB bx cb:=⟨hne⟩
 haveI kx:Blk w bx (.cells (enC e).toArray 51 (0,0)):=⟨hx⟩
 refine retP_of_x (N:=9) (l:=[nextV b2 b3,ptrV bx]) Tryz.func94 rfl rfl (Nat.le_of_ble_eq_true rfl) ?_
 refine x_regionL (xm (xm ?_))
 refine xl_callP (take_ok cb b2 b3 w0 xs w hL hT hc hn) ?hp ?_
 case hp=>
  rintro ch w' ⟨htk,rfl,lkp⟩
  exact ⟨rfl,by show rd3 (e,xs)=_;unfold rd3;rw [if_pos (by simpa [hasB] using hh)];simp [htk],rfl,lkc⟩
 rintro _ w1 ⟨⟨n,r,htk,rfl,hL2⟩,lk2⟩
 have hk:rdP 3 (e,xs)=some ({ e with num:=n },r):=by show rd3 (e,xs)=_;unfold rd3;rw [if_pos (by simpa [hasB] using hh)];simp [htk]
 refine xl_Nc ?_
 refine xl_Fb ?_
 refine xl_s (e_store fun w2 l2 k2=>?_)
 refine xl_nil ?_
 first | refine finP0 rfl ?_ | refine finP0 (RP:=fun _ _=>True) rfl ?_
 exact ⟨rfl,⟨_,r,hk,hL2.ext (S:=OneB bx) (w':=w2) kpc (fun k hk=>by have e':k=bx:=hk;omega) (fun e'=>hne (Eq.symm e')),Blk.eq⟩,lkc⟩
theorem g4_ok (cb b2 b3 bx:Nat) (w0:World) (xs:By) (e:En) (w:World) (hx:w.heap[bx]?=some (.cells (enC e).toArray 51 (0,0))) (hL:Left w0 cb xs w) (hT:Taker cb b2 b3 w) (hc:w0.heap.size<=cb) (hn:xs.length<=100000000) (hne:bx≠cb) (hcx:w0.heap.size<=bx) (hh:hasB e 4=true):RetP Tryz.prog 97 #[nextV b2 b3,ptrV bx] w (Got 4 cb bx w0 e xs w) (Given 4 cb e xs w):=by
 haveI:NeB bx cb:=⟨hne⟩
 haveI kx:Blk w bx (.cells (enC e).toArray 51 (0,0)):=⟨hx⟩
 refine retP_of_x (N:=9) (l:=[nextV b2 b3,ptrV bx]) Tryz.func97 rfl rfl (Nat.le_of_ble_eq_true rfl) ?_
 refine x_regionL (xm (xm ?_))
 refine xl_callP (take_ok cb b2 b3 w0 xs w hL hT hc hn) ?hp ?_
 case hp=>
  rintro ch w' ⟨htk,rfl,lkp⟩
  exact ⟨rfl,by show rd4 (e,xs)=_;unfold rd4;rw [if_pos (by simpa [hasB] using hh)];simp [htk],rfl,lkc⟩
 rintro _ w1 ⟨⟨n,r,htk,rfl,hL2⟩,lk2⟩
 have hk:rdP 4 (e,xs)=some ({ e with seq:=n },r):=by show rd4 (e,xs)=_;unfold rd4;rw [if_pos (by simpa [hasB] using hh)];simp [htk]
 refine xl_Nc ?_
 refine xl_Fb ?_
 refine xl_s (e_store fun w2 l2 k2=>?_)
 refine xl_nil ?_
 first | refine finP0 rfl ?_ | refine finP0 (RP:=fun _ _=>True) rfl ?_
 exact ⟨rfl,⟨_,r,hk,hL2.ext (S:=OneB bx) (w':=w2) kpc (fun k hk=>by have e':k=bx:=hk;omega) (fun e'=>hne (Eq.symm e')),Blk.eq⟩,lkc⟩
theorem g5_ok (cb b2 b3 bx:Nat) (w0:World) (xs:By) (e:En) (w:World) (hx:w.heap[bx]?=some (.cells (enC e).toArray 51 (0,0))) (hL:Left w0 cb xs w) (hT:Taker cb b2 b3 w) (hc:w0.heap.size<=cb) (hn:xs.length<=100000000) (hne:bx≠cb) (hcx:w0.heap.size<=bx) (hh:hasB e 5=true):RetP Tryz.prog 100 #[nextV b2 b3,ptrV bx] w (Got 5 cb bx w0 e xs w) (Given 5 cb e xs w):=by
 haveI:NeB bx cb:=⟨hne⟩
 haveI kx:Blk w bx (.cells (enC e).toArray 51 (0,0)):=⟨hx⟩
 refine retP_of_x (N:=10) (l:=[nextV b2 b3,ptrV bx]) Tryz.func100 rfl rfl (Nat.le_of_ble_eq_true rfl) ?_
 refine x_regionL (xm (xm ?_))
 refine xl_callP (take_ok cb b2 b3 w0 xs w hL hT hc hn) ?hp ?_
 case hp=>
  rintro ch w' ⟨htk,rfl,lkp⟩
  exact ⟨rfl,by show rd5 (e,xs)=_;unfold rd5;rw [if_pos (by simpa [hasB] using hh)];simp [htk],rfl,lkc⟩
 rintro _ w1 ⟨⟨n,r,htk,rfl,hL2⟩,lk2⟩
 have hk:rdP 5 (e,xs)=some ({ e with val:=unz n },r):=by show rd5 (e,xs)=_;unfold rd5;rw [if_pos (by simpa [hasB] using hh)];simp [htk]
 refine xl_call (unsigned_ok n w1 (num_take0 htk).2) ?_
 rintro _ _ ⟨rfl,rfl⟩
 refine xl_Nc ?_
 refine xl_Fb ?_
 refine xl_s (e_store fun w3 l3 k3=>?_)
 refine xl_nil ?_
 first | refine finP0 rfl ?_ | refine finP0 (RP:=fun _ _=>True) rfl ?_
 exact ⟨rfl,⟨_,r,hk,hL2.ext (S:=OneB bx) (w':=w3) kpc (fun k hk=>by have e':k=bx:=hk;omega) (fun e'=>hne (Eq.symm e')),Blk.eq⟩,lkc⟩
theorem rd_ok (cb b2 b3 bx k:Nat) (w0:World) (xs:By) (e:En) (w:World) (hx:w.heap[bx]?=some (.cells (enC e).toArray 51 (0,0))) (hL:Left w0 cb xs w) (hT:Taker cb b2 b3 w) (hc:w0.heap.size<=cb) (hn:xs.length<=100000000) (hne:bx≠cb) (hcx:w0.heap.size<=bx) (hk:k<6) (hh:hasB e k=true) :
    CallVP Tryz.prog (rdV k) [nextV b2 b3,ptrV bx] w (Got k cb bx w0 e xs w) (Given k cb e xs w):=by
 match k,hk with
 | 0,_=>exact CallVP.of_ret (a:=[]) (c:=[]) (g0_ok cb b2 b3 bx w0 xs e w hx hL hT hc hn hne hcx hh)
 | 1,_=>exact CallVP.of_ret (a:=[]) (c:=[]) (g1_ok cb b2 b3 bx w0 xs e w hx hL hT hc hn hne hcx hh)
 | 2,_=>exact CallVP.of_ret (a:=[]) (c:=[]) (g2_ok cb b2 b3 bx w0 xs e w hx hL hT hc hn hne hcx hh)
 | 3,_=>exact CallVP.of_ret (a:=[]) (c:=[]) (g3_ok cb b2 b3 bx w0 xs e w hx hL hT hc hn hne hcx hh)
 | 4,_=>exact CallVP.of_ret (a:=[]) (c:=[]) (g4_ok cb b2 b3 bx w0 xs e w hx hL hT hc hn hne hcx hh)
 | 5,_=>exact CallVP.of_ret (a:=[]) (c:=[]) (g5_ok cb b2 b3 bx w0 xs e w hx hL hT hc hn hne hcx hh)
instance csput6 (cs:Array Value) (a b c d e f:Value) [h:Siz cs 6]:CsPut cs 0 [a,b,c,d,e,f] #[a,b,c,d,e,f]:=csput_whole h.eq
abbrev clearV (b2 b3:Nat):Value:=.func (.func 108) ([]:List Value).toArray [ptrV b2,ptrV b3].toArray
def Three (a b c:Nat):Nat->Prop:=fun k=>k=a\/k=b\/k=c
instance subF_three1 (a b c:Nat) (w:World):SubF (TwoB a b) (Three a b c) w:=⟨fun _ _ e=>e.elim .inl (fun e=>.inr (.inl e))⟩
instance subF_three2 (a b c:Nat) (w:World):SubF (OneB c) (Three a b c) w:=⟨fun _ _ e=>.inr (.inr e)⟩
theorem clear_ok (b2 b3:Nat) (w:World) (cs:List Value) (n:Int) [Siz cs.toArray 6] [k2:Blk w b2 (.cells cs.toArray 51 (0,0))] [k3:Blk w b3 (.cells #[.int .i64 n] 3 (0,0))] (h23:b2≠b3):Ret Tryz.prog 108 #[ptrV b2,ptrV b3] w (fun v w'=>v=.tuple #[]/\w'.heap[b2]?=some (.cells (enC En.zero).toArray 51 (0,0))/\w'.heap[b3]?=some (.cells #[.int .i64 0] 3 (0,0))/\Lk w' w (TwoB b2 b3)):=by
 haveI:NeB b2 b3:=⟨h23⟩
 haveI:NeB b3 b2:=⟨fun e=>h23 e.symm⟩
 refine ret_of_x (N:=3) (l:=[ptrV b2,ptrV b3]) Tryz.func108 rfl rfl (Nat.le_of_ble_eq_true rfl) ?_
 refine x_regionL (xl_v v_build ?_)
 refine xl_s (e_storeA fun w1 l1 k1=>?_)
 refine xl_s (e_store fun w2 l2 k2=>?_)
 refine xl_nil ?_
 refine fin0 rfl ?_
 exact ⟨rfl,(ii:Blk w2 b2 (.cells #[.int .i64 0,.int .i64 0,.int .i64 0,.int .i64 0,.int .i64 0,.int .i64 0] 51 (0,0))).eq,Blk.eq,lkc⟩
theorem caught_pan (b2 b3 b4:Nat) (no:Int) (w:World) (e:En) (n y:Int) [q2:Blk w b2 (.cells (enC e).toArray 51 (0,0))] [q3:Blk w b3 (.cells #[.int .i64 n] 3 (0,0))] [q4:Blk w b4 (.cells #[.int .i64 y] 29 (0,0))] (h23:b2≠b3) (h24:b2≠b4) (h34:b3≠b4):CallsDIn (FX none) 0 Tryz.prog 107 #[ptrV b4,clearV b2 b3] (.panicking (failC no)) w (fun e u'' w'=>e=.returned (.tuple #[])/\u''=.panicking [{ v:=.iface 168 (.agg #[.int .i64 no]),recovered:=true }]/\(fun w'=>w'.heap[b2]?=some (.cells (enC En.zero).toArray 51 (0,0))/\w'.heap[b3]?=some (.cells #[.int .i64 0] 3 (0,0))/\w'.heap[b4]?=some (.cells #[.int .i64 no] 29 (0,0))/\Lk w' w (Three b2 b3 b4)) w'):=by
 haveI:NeB b4 b3:=⟨fun e=>h34 e.symm⟩
 haveI:NeB b4 b2:=⟨fun e=>h24 e.symm⟩
 haveI:NeB b2 b4:=⟨h24⟩
 haveI:NeB b3 b4:=⟨h34⟩
 refine deferred_of_x (N:=19) (l:=[ptrV b4,clearV b2 b3]) (R:=fun w'=>w'.heap[b2]?=some (.cells (enC En.zero).toArray 51 (0,0))/\w'.heap[b3]?=some (.cells #[.int .i64 0] 3 (0,0))/\w'.heap[b4]?=some (.cells #[.int .i64 no] 29 (0,0))/\Lk w' w (Three b2 b3 b4)) Tryz.func107 rfl rfl rfl (Nat.le_of_ble_eq_true rfl) (.panics _ _) ?_
 refine x_block (xq ?_)
 refine xl_v (v_eql_ifaceS) ?_
 refine xl_nil ?_
 refine x_condF ?_
 refine xq ?_
 refine xl_v (v_typeAssertC (by kernel_rfl)) ?_
 refine xl_v v_extract (xl_v v_extract (xl_nil ?_))
 refine x_condT ?_
 refine xq ?_
 refine xl_e (e_alloc fun bx w1 nx lx kx=>?_)
 refine xl_s (e_storeA fun w2 l2 k2=>?_)
 refine xl_nil ?_
 refine xq (xm ?_)
 haveI:NotS (TwoB b2 b3) bx:=⟨fun e=>by
  have h1:=(Array.getElem?_eq_some_iff.1 q2.eq).1
  have h2:=(Array.getElem?_eq_some_iff.1 q3.eq).1
  have h3:=nx.eq
  rcases e with e | e<;>omega⟩
 refine xl_callv ((CallV.of_ret (a:=[]) (c:=[ptrV b2,ptrV b3]) (clear_ok b2 b3 w2 _ _ h23))) ?_
 rintro _ w3 ⟨rfl,h2',h3',lk7⟩
 haveI k2':Blk w3 b2 (.cells (enC En.zero).toArray 51 (0,0)):=⟨h2'⟩
 haveI k3':Blk w3 b3 (.cells #[.int .i64 0] 3 (0,0)):=⟨h3'⟩
 haveI:NotS (TwoB b2 b3) b4:=⟨fun e=>e.elim (fun e=>h24 e.symm) (fun e=>h34 e.symm)⟩
 refine xl_nil ?_
 refine x_regionL (xm (xl_Fb ?_))
 refine xl_Lc ?_
 refine xl_Nc ?_
 refine xl_s (e_store fun w4 l4 k4=>?_)
 refine xl_nil ?_
 exact ⟨rfl,Blk.eq,Blk.eq,Blk.eq,lkc⟩
theorem caught_idle (b2 b3 b4:Nat) (w:World):CallsDIn (FX none) 0 Tryz.prog 107 #[ptrV b4,clearV b2 b3] (.returning) w (fun e u'' w'=>e=.returned (.tuple #[])/\u''=.returning/\(fun w'=>w=w') w'):=by
 refine deferred_of_x (N:=19) (l:=[ptrV b4,clearV b2 b3]) (R:=fun w'=>w=w') Tryz.func107 rfl rfl rfl (Nat.le_of_ble_eq_true rfl) (.returns) ?_
 refine x_block (xq ?_)
 refine xl_v (v_eql_ifaceN) ?_
 refine xl_nil ?_
 refine x_condT ?_
 refine x_regionL (xz ?_)
 exact ⟨rfl,rfl⟩
open Go in
theorem leave_one {P:Program} {N:Nat} {fn:Func} {τ:Tau} {a:Act} {ds:List Deferred} {f:FuncId} {c args as2:List Value} {u u1:FrameMode} {w:World} {R:Value->World->Prop} {R1:World->Prop} {rs:List ResultVar} {vs:List Value} [hf:Fun P f] [h1:App args c as2]
    (hc:CallsDIn (FX none) 0 P f as2.toArray u w (fun e u'' w'=>e=.returned (.tuple #[])/\u''=u1/\R1 w')) (hu:u≠.run) (hs:settle u1=.returning) (hr:fn.results=rs.toArray) (ha:Rel N τ ds a)
    (h:∀ w',R1 w'->RsV P N τ w' rs vs/\R (outV vs) w'):LeavesInM (FX none) 0 P fn a.tmps (fun e w'=>∃ v,e=.returned v/\R v w') [{ target:=.fn (.func f) c.toArray,args:=args.toArray }] u w:=by
 refine ⟨hu,.inr ⟨fun h=>by simp [FX] at h,.func f,c.toArray,f,as2.toArray,rfl,?_,fun _ _=>trivial,?_⟩⟩
 ·obtain ⟨fn',cc,hfn,hnm,hb⟩:=hf.ex
  have e:args.toArray++c.toArray=as2.toArray:=by rw [<- h1.eq];simp
  simp only [invoke,callFunc,program,Sem.run_bind,Sem.run,hfn,hnm,hb,Sem.run_pure,Result.andThen_ok,beq_iff_eq,if_false,Option.isNone_some,Bool.false_eq_true,e]
 ·refine CallsDIn.mono hc ?_
  rintro e u'' w' ⟨rfl,rfl,hR⟩
  obtain ⟨h3,h4⟩:=h w' hR
  show LeavesInM (FX none) 0 P fn a.tmps _ [] (settle u'') w'
  rw [hs]
  exact ⟨_,run_results hr h3 a.tmps (fun t ht=>ha.get t ht),_,rfl,h4⟩
def stepsTo (xs:By) (j:Nat):Option St:=(List.range j).foldl (fun s k=>s.bind (rdP k)) (some (En.zero,xs))
theorem stepsTo_succ (xs:By) (j:Nat):stepsTo xs (j+1)=(stepsTo xs j).bind (rdP j):=by
 unfold stepsTo
 rw [List.range_succ,List.foldl_append]
 rfl
theorem stepsTo_none {xs:By} {j:Nat} (h:stepsTo xs j=none) (d:Nat):stepsTo xs (j+d)=none:=by
 induction d with
 | zero=>exact h
 | succ d ih=>rw [<- Nat.add_assoc,stepsTo_succ,ih];rfl
theorem parse_steps (xs:By):parse xs=match stepsTo xs 6 with | some (e,[])=>if Right e then some e else none | _=>none:=by
 have h:List.range 6=[0,1,2,3,4,5]:=rfl
 unfold parse stepsTo
 rw [h]
 rfl
theorem rdP_no {e:En} {k:Nat} (h:hasB e k=false) (hk:k<6) (r:By):rdP k (e,r)=some (e,r):=by
 match k,hk with
 | 0,_=>cases h
 | 1,_=>cases h
 | 2,_=>cases h
 | 3,_=>exact rd3_no (by simpa [hasB] using h) r
 | 4,_=>exact rd4_no (by simpa [hasB] using h) r
 | 5,_=>exact rd5_no (by simpa [hasB] using h) r
theorem rdP_len {k:Nat} {e e':En} {xs r:By} (h:rdP k (e,xs)=some (e',r)) (hk:k<6):r.length<=xs.length:=by
 have ht:∀ {n:Nat} {q:By},takeB 0 0 xs=some (n,q)->q.length<=xs.length:=fun hh=>by
  obtain ⟨h1,_⟩:=num_take0 hh
  rw [h1];simp
 match k,hk with
 | 0,_=>cases xs with
   | nil=>cases h
   | cons c l=>simp only [rdP,rd0,Option.some.injEq,Prod.mk.injEq] at h;rw [<- h.2];simp
 | 1,_=>
   simp only [rdP,rd1,Option.map_eq_some_iff,Prod.mk.injEq] at h
   obtain ⟨p,hp,_,rfl⟩:=h
   exact ht (n:=p.1) (q:=p.2) hp
 | 2,_=>cases xs with
   | nil=>cases h
   | cons c l=>simp only [rdP,rd2,Option.some.injEq,Prod.mk.injEq] at h;rw [<- h.2];simp
 | 3,_=>
   simp only [rdP,rd3] at h
   split at h
   ·simp only [Option.map_eq_some_iff,Prod.mk.injEq] at h
    obtain ⟨p,hp,_,rfl⟩:=h
    exact ht (n:=p.1) (q:=p.2) hp
   ·simp only [Option.some.injEq,Prod.mk.injEq] at h;rw [<- h.2];exact Nat.le_refl _
 | 4,_=>
   simp only [rdP,rd4] at h
   split at h
   ·simp only [Option.map_eq_some_iff,Prod.mk.injEq] at h
    obtain ⟨p,hp,_,rfl⟩:=h
    exact ht (n:=p.1) (q:=p.2) hp
   ·simp only [Option.some.injEq,Prod.mk.injEq] at h;rw [<- h.2];exact Nat.le_refl _
 | 5,_=>
   simp only [rdP,rd5] at h
   split at h
   ·simp only [Option.map_eq_some_iff,Prod.mk.injEq] at h
    obtain ⟨p,hp,_,rfl⟩:=h
    exact ht (n:=p.1) (q:=p.2) hp
   ·simp only [Option.some.injEq,Prod.mk.injEq] at h;rw [<- h.2];exact Nat.le_refl _
theorem framed_iff {bs:By} {m:Nat} (h:5+m<=bs.length) (hm:m=(bs.getD 4 0).toNat):le4 (sumW ((bs.drop 5).take m))=bs.take 4↔framed ((bs.drop 5).take m)=bs.take (5+m):=by
 have hlen:((bs.drop 5).take m).length=m:=by simp;omega
 have h4:4<bs.length:=by omega
 have h256:=(bs.getD 4 0).toNat_lt
 have e1:bs.take (5+m)=bs.take 4++([UInt8.ofNat m]++(bs.drop 5).take m):=by
  have e2:bs.drop 4=bs[4] :: bs.drop 5:=List.drop_eq_getElem_cons h4
  have e3:UInt8.ofNat m=bs[4]:=by
   rw [hm,List.getD_eq_getElem?_getD,List.getElem?_eq_getElem h4];simp
  rw [show 5+m=4+(m+1) by omega,List.take_add,e2,List.take_succ_cons,e3];rfl
 unfold framed
 rw [hlen,e1,List.append_assoc]
 constructor
 ·intro h;rw [h]
 ·intro h;exact (List.append_inj h (by simp [le4];omega)).1
abbrev readD (b2 b3 b4:Nat):Deferred:={ target:=.fn (.func 107) ([]:List Value).toArray,args:=[ptrV b4,clearV b2 b3].toArray }
def ReadR (bs:By) (w:World):Value->World->Prop:=fun v w'=>v=.tuple #[.agg (enC (readF bs).1).toArray,.int .i64 ((readF bs).2.1:Int),.int .i64 (readF bs).2.2]/\Lk w' w NoB
theorem three_no {b2 b3 b4:Nat} {w w1 w2:World} (lk:Lk w1 w NoB) (k:Lk w2 w1 (Three b2 b3 b4)) (hg2:w.heap.size<=b2) (hg3:w.heap.size<=b3) (hg4:w.heap.size<=b4):Lk w2 w NoB:=
 ⟨lk.keep.then k.keep (fun j hj e=>by rcases e with e | e | e<;>omega)⟩
theorem read_pan (bs:By) (b2 b3 b4:Nat) (no:Int) (e:En) (n y:Int) {τ:Tau} (w w1:World) [e2:Ev τ 2 (ptrV b2)] [e3:Ev τ 3 (ptrV b3)] [e4:Ev τ 4 (ptrV b4)]
    [q2:Blk w1 b2 (.cells (enC e).toArray 51 (0,0))] [q3:Blk w1 b3 (.cells #[.int .i64 n] 3 (0,0))] [q4:Blk w1 b4 (.cells #[.int .i64 y] 29 (0,0))]
    (h23:b2≠b3) (h24:b2≠b4) (h34:b3≠b4) (hg2:w.heap.size<=b2) (hg3:w.heap.size<=b3) (hg4:w.heap.size<=b4) (lk:Lk w1 w NoB) (hR:readF bs=(En.zero,0,no)) :
    bodyQD Tryz.prog Tryz.f81 76 (ReadR bs w) (.panic (failC no)) τ [readD b2 b3 b4] w1:=by
 intro a ha
 refine leave_one (rs:=[.cell 2 51,.cell 3 3,.cell 4 29]) (vs:=[.agg (enC En.zero).toArray,.int .i64 0,.int .i64 no]) (caught_pan b2 b3 b4 no w1 e n y h23 h24 h34) (by simp) rfl rfl ha ?_
 rintro w2 ⟨h2,h3,h4,lk2⟩
 haveI:Blk w2 b2 (.cells (enC En.zero).toArray 51 (0,0)):=⟨h2⟩
 haveI:Blk w2 b3 (.cells #[.int .i64 0] 3 (0,0)):=⟨h3⟩
 haveI:Blk w2 b4 (.cells #[.int .i64 no] 29 (0,0)):=⟨h4⟩
 exact ⟨ii,by rw [hR];rfl,three_no lk lk2 hg2 hg3 hg4⟩
theorem read_ret (bs:By) (b2 b3 b4:Nat) (e:En) (n:Nat) {τ:Tau} (w w1:World) [e2:Ev τ 2 (ptrV b2)] [e3:Ev τ 3 (ptrV b3)] [e4:Ev τ 4 (ptrV b4)]
    [q2:Blk w1 b2 (.cells (enC e).toArray 51 (0,0))] [q3:Blk w1 b3 (.cells #[.int .i64 n] 3 (0,0))] [q4:Blk w1 b4 (.cells #[.int .i64 0] 29 (0,0))]
    (lk:Lk w1 w NoB) (hR:readF bs=(e,n,0)) :
    bodyQD Tryz.prog Tryz.f81 76 (ReadR bs w) .ret τ [readD b2 b3 b4] w1:=by
 intro a ha
 refine leave_one (rs:=[.cell 2 51,.cell 3 3,.cell 4 29]) (vs:=[.agg (enC e).toArray,.int .i64 n,.int .i64 0]) (caught_idle b2 b3 b4 w1) (by simp) rfl rfl ha ?_
 rintro w2 rfl
 exact ⟨ii,by rw [hR];rfl,lk⟩
theorem open2_ok (A:Option Addr) (n c:Nat) (bs:List UInt8) (w:World) [hr:Row w A (bytesC bs)] (hl:bs.length=n) (h4:4<=n) (hn:n<=100000000) (hc:n<=c) :
    Ret Tryz.prog 110 #[.slice A n c] w (fun v w'=>(∃ A' n' c',v=.tuple #[.slice A' n' c',.int .i64 (if le4 (sumW (bs.take (n - 4)))=bs.drop (n - 4) then 0 else 110)])/\Lk w' w NoB):=
 (open_ok A n c bs w hl h4 hn hc).mono (fun v w' h=>⟨by
   have h1:=h.1
   split at h1
   ·next hh=>obtain ⟨A',c',rfl⟩:=h1;exact ⟨_,_,_,by rw [if_pos hh]⟩
   ·next hh=>exact ⟨_,_,_,by rw [if_neg hh];exact h1⟩,h.2⟩)
set_option maxHeartbeats 2000000 in
theorem wread_ok (A:Option Addr) (n c:Nat) (bs:By) (w:World) [hr0:Row w A (bytesC bs)] (hl:bs.length=n) (hn:n<=100000000) (hc:n<=c):Ret Tryz.prog 81 #[.slice A n c] w (ReadR bs w):=by
 haveI hr:RowB w A w (bytesC bs):=rowB_of hr0.row
 refine retD_of_x (N:=76) (l:=[.slice A n c]) Tryz.func81 rfl rfl (Nat.le_of_ble_eq_true rfl) ?_
 refine xq ?_
 refine xl_e (e_alloc fun b2 w1 n2 l2 q2=>?_)
 refine xl_e (e_alloc fun b3 w2 n3 l3 q3=>?_)
 have hlt23:b2<b3:=by have h1:=n3.eq;have h2:=(Array.getElem?_eq_some_iff.1 q2.eq).1;omega
 refine xl_e (e_alloc fun b4 w3 n4 l4 q4=>?_)
 have hlt34:b3<b4:=by have h1:=n4.eq;have h2:=(Array.getElem?_eq_some_iff.1 q3.eq).1;omega
 refine xl_nil ?_
 refine xq (xl_v v_makeFunc ?_)
 refine xl_defer ?_
 refine xl_nil ?_
 refine x_seq ?_
 have hg2:w.heap.size<=b2:=Nat.le_of_eq n2.eq.symm
 have hg3:w.heap.size<=b3:=by omega
 have hg4:w.heap.size<=b4:=by omega
 have h23:b2≠b3:=by omega
 have h24:b2≠b4:=by omega
 have h34:b3≠b4:=by omega
 refine x_regionL (xm (xl_v v_len (xl_v v_geq ?_)))
 refine xl_callP (must_ok _ 120 w3) ?hp ?_
 case hp=>
  rintro ch w' ⟨rfl,rfl,hd2⟩
  have hd2':=of_decide_eq_false hd2
  exact read_pan bs b2 b3 b4 120 En.zero 0 0 w _ h23 h24 h34 hg2 hg3 hg4 lkc (by unfold readF;rw [if_pos (by omega)])
 rintro _ _ ⟨rfl,rfl,hd2⟩
 refine xl_nil ?_
 refine x_seq ?_
 have hd2':=of_decide_eq_true hd2
 have h4:4<bs.length:=by omega
 obtain ⟨m,hm⟩:∃ m,m=(bs.getD 4 0).toNat:=⟨_,rfl⟩
 have hm':m=bs[4].toNat:=by rw [hm,List.getD_eq_getElem?_getD,List.getElem?_eq_getElem h4];rfl
 have hm256:=(bs[4]).toNat_lt
 refine x_regionL (xm ?_)
 refine xl_v (v_indexO 4 rfl (by omega) h4) ?_
 refine xl_v (v_loadO (k:=4) h4) ?_
 refine xl_v (v_congr (u:=.int .i64 (m:Int)) v_convert (congrArg (Value.int .i64) (by rw [hm'];exact wrap_in (by omega) (by omega)))) ?_
 refine xz ?_
 refine x_cut (fun τ ds w'=>ds=[readD b2 b3 b4]/\(1<=m/\m<=35)/\w'=w3/\Ev τ 0 (.slice A n c)/\Ev τ 2 (ptrV b2)/\Ev τ 3 (ptrV b3)/\Ev τ 4 (ptrV b4)/\Ev τ 5 (.int .i64 (m:Int))) ?_ ?_
 ·refine x_regionL (xm (xl_v v_leq (xm ?_)))
  refine xl_split 23 (fun g23=>?_) (fun g23=>?_)
  ·have g4:=of_decide_eq_true g23
   refine xl_gv rfl EvO.eq v_move (xl_gv rfl EvO.eq v_leq (xl_Pk ?_))
   refine xl_callP (must_ok _ 121 w3) ?hp ?_
   case hp=>
    rintro ch w' ⟨rfl,rfl,hd4⟩
    have hbad:m=0\/35<m:=by first | omega | (have:=of_decide_eq_false hd4;omega)
    exact read_pan bs b2 b3 b4 121 En.zero 0 0 w _ h23 h24 h34 hg2 hg3 hg4 lkc (by unfold readF;rw [if_neg (by omega)];simp only [<- hm];rw [if_pos hbad])
   rintro _ _ ⟨rfl,rfl,hd4⟩
   refine xl_nil ?_
   exact ⟨rfl,by first | exact absurd hd4 (by decide) | (have:=of_decide_eq_true hd4;omega),rfl,ii,ii,ii,ii,ii⟩
  have g4:=of_decide_eq_false g23
  refine xl_gs rfl EvO.eq (xl_gs rfl EvO.eq (xl_Pk ?_))
  refine xl_callP (must_ok _ 121 w3) ?hp ?_
  case hp=>
   rintro ch w' ⟨rfl,rfl,hd4⟩
   have hbad:m=0\/35<m:=by first | omega | (have:=of_decide_eq_false hd4;omega)
   exact read_pan bs b2 b3 b4 121 En.zero 0 0 w _ h23 h24 h34 hg2 hg3 hg4 lkc (by unfold readF;rw [if_neg (by omega)];simp only [<- hm];rw [if_pos hbad])
  rintro _ _ ⟨rfl,rfl,hd4⟩
  refine xl_nil ?_
  exact ⟨rfl,by first | exact absurd hd4 (by decide) | (have:=of_decide_eq_true hd4;omega),rfl,ii,ii,ii,ii,ii⟩
 intro τ7 ds7 w7 hI
 obtain ⟨rfl,hm35,hw',e0,e2,e3,e4,e5⟩:=hI
 subst hw'
 refine xq (xm (xl_v v_len (xm ?_)))
 refine xl_v (v_add (by omega)) ?_
 refine xl_v v_geq ?_
 refine xl_callP (must_ok _ 120 w7) ?hp ?_
 case hp=>
  rintro ch w' ⟨rfl,rfl,hd5⟩
  have hd5':=of_decide_eq_false hd5
  exact read_pan bs b2 b3 b4 120 En.zero 0 0 w _ h23 h24 h34 hg2 hg3 hg4 lkc (by unfold readF;rw [if_neg (by omega)];simp only [<- hm];rw [if_neg (by omega),if_pos (by omega)])
 rintro _ _ ⟨rfl,rfl,hd5⟩
 refine xl_nil ?_
 refine x_seq ?_
 have hd5':=of_decide_eq_true hd5
 obtain ⟨xs,hxs⟩:∃ xs,xs=(bs.drop 5).take m:=⟨_,rfl⟩
 have hxl:xs.length=m:=by rw [hxs];simp;omega
 obtain ⟨Ab,hAb⟩:∃ Ab,Ab=(if c=5 then A else A.map (·.add (5*1))):=⟨_,rfl⟩
 have hrb:RowB w Ab w (bytesC xs):=rowB_of (by rw [hxs,hAb];exact brow_take (brow_drop hr.row (by omega)) m)
 have hrt:RowB w A w (bytesC (bs.take 4)):=rowB_of (brow_take hr.row 4)
 refine x_regionL (xm (xm ?_))
 refine xl_v (v_add (by omega)) ?_
 refine xl_v (v_congr (u:=.slice Ab xs.length (c - 5)) (v_sliceLH 5 (5+m) rfl (by omega) (by omega) (by omega)) (by rw [hAb,hxl,Nat.add_sub_cancel_left])) ?_
 have hsz4:b4<(w7).heap.size:=(Array.getElem?_eq_some_iff.1 (ii:Blk w7 b4 (.cells #[.int .i64 0] 29 (0,0))).eq).1
 refine xl_e (e_alloc fun b6 w9 n6 l6 q6=>?_)
 have hlt46:b4<b6:=by have h1:=n6.eq;omega
 have hg6:w.heap.size<=b6:=by omega
 refine xl_s (e_store fun w10 l10 k10=>?_)
 refine xl_nil ?_
 refine x_seq ?_
 refine x_drawN (NoB) (allS) (.take 0 (.take 1 (.take 2 (.eff 3 (.eff 4 (.eff 5 (.take 6 (.take 7 (.take 8 (.take 9 (.take 10 .done))))))))))) mixed (by kernel_rfl) (fun w11 l11=>?_)
 refine xt_Lc rfl ?_
 refine xt_v rfl v_move ?_
 refine xt_v rfl (v_congr (u:=.slice A (bs.take 4).length c) (v_sliceH 4 rfl (by omega)) (by rw [List.length_take,Nat.min_eq_left (by omega)])) ?_
 refine xt_e rfl (e_buildSliceN rfl fun b7 w12 n7 l7 q7=>?_)
 refine xt_call rfl (concat_ok (some ⟨b7,0,none⟩) 2 2 [⟨xs,Ab,c - 5⟩,⟨bs.take 4,A,c⟩] w12 (hra:=rowB_of (row_blk Blk.eq)) (fun j h=>by
     match j,h with
     | 0,_=>exact rowB_of (ii:Row w12 Ab (bytesC xs)).row
     | 1,_=>exact rowB_of (ii:Row w12 A (bytesC (bs.take 4))).row) rfl (by decide) (by simp [lensB];omega)) ?_
 rintro _ w13 ⟨⟨A8,c8,rfl,ho8⟩,lk8⟩
 refine ⟨kpc,?_⟩
 obtain ⟨N,hN⟩:∃ N,N=lensB [⟨xs,Ab,c - 5⟩,⟨bs.take 4,A,c⟩]:=⟨_,rfl⟩
 rw [<- hN] at ho8 ⊢
 have hN':N=m+4:=by rw [hN];simp [lensB];omega
 have hfl:List.flatMap (fun (x:LB)=>x.bytes) [⟨xs,Ab,c - 5⟩,⟨bs.take 4,A,c⟩]=xs++bs.take 4:=by simp
 rw [hfl] at ho8
 obtain ⟨_,_,hf8,_,hc8,_⟩:=ownsRow_form ho8
 obtain ⟨rfl,rfl⟩:_/\_:=by simpa using hf8
 haveI o8:OwnI w13 A8 _ _ _ _ _ _ _:=⟨ho8⟩
 refine xt_call rfl (open2_ok A8 N c8 (xs++bs.take 4) w13 (by simp;omega) (by omega) (by omega) hc8) ?_
 rintro _ w14 ⟨⟨A9,n9,c9,rfl⟩,lk9⟩
 refine ⟨kpc,?_⟩
 have hok:le4 (sumW ((xs++bs.take 4).take (N - 4)))=(xs++bs.take 4).drop (N - 4)↔framed xs=bs.take (5+m):=by
  rw [hN',Nat.add_sub_cancel,List.take_append_of_le_length (by omega),List.take_of_length_le (by omega),List.drop_append_of_le_length (by omega),List.drop_of_length_le (by omega),List.nil_append,hxs]
  exact framed_iff (by omega) hm
 refine xt_v rfl v_move (xt_v rfl v_extract (xt_v rfl v_extract (xt_v rfl v_assign (xt_v rfl v_assign (xt_nil ?_)))))
 refine xq (xm (xl_v v_eql ?_))
 refine xl_callP (must_ok _ 110 w14) ?hp ?_
 case hp=>
  rintro ch w' ⟨rfl,rfl,hd8⟩
  have hbad:¬ framed xs=bs.take (5+m):=fun h=>by
   have h1:=of_decide_eq_false hd8
   rw [if_pos (hok.2 h)] at h1
   exact h1 rfl
  exact read_pan bs b2 b3 b4 110 En.zero 0 0 w _ h23 h24 h34 hg2 hg3 hg4 lkc (by unfold readF;rw [if_neg (by omega)];simp only [<- hm,<- hxs];rw [if_neg (by omega),if_neg (by omega),if_pos hbad])
 rintro _ _ ⟨rfl,rfl,hd8⟩
 refine xl_nil ?_
 refine x_seq ?_
 have hsz6:b6<(w14).heap.size:=(Array.getElem?_eq_some_iff.1 (ii:Blk w14 b6 (.cells #[.slice Ab xs.length (c - 5)] 80 (0,0))).eq).1
 have hgood:framed xs=bs.take (5+m):=by
  have h1:=of_decide_eq_true hd8
  split at h1
  ·next h=>exact hok.1 h
  ·cases h1
 have hread:readF bs=match parse xs with | some e=>(e,5+m,0) | none=>(En.zero,0,121):=by
  unfold readF
  rw [if_neg (by omega)]
  simp only [<- hm,<- hxs]
  rw [if_neg (by omega),if_neg (by omega),if_neg (fun h=>h hgood)]
  cases parse xs<;>rfl
 refine x_regionL ?_
 refine xl_call (taker_ok b6 w14) ?_
 rintro _ w16 ⟨⟨bt2,bt3,rfl,ht2,ht3,hgt2,hgt3⟩,lk10⟩
 haveI kt2:Blk w16 bt2 _:=⟨ht2⟩
 haveI kt3:Blk w16 bt3 _:=⟨ht3⟩
 refine xz ?_
 refine x_seq (xq ?_)
 refine xl_call (parts_ok w16) ?_
 rintro _ w17 ⟨⟨bp2,bp3,rfl,hp2,hp3,hgp2,hgp3⟩,lk11⟩
 haveI kp2:Blk w17 bp2 _:=⟨hp2⟩
 haveI kp3:Blk w17 bp3 _:=⟨hp3⟩
 refine xm (xl_nil ?_)
 refine x_block ?_
 obtain ⟨wL,hwL⟩:∃ x,x=w17:=⟨_,rfl⟩
 have hszL:(w17).heap.size<=wL.heap.size:=by rw [hwL];exact Nat.le_refl _
 have hltp:b6<bt2/\b6<bt3/\b6<bp2/\b6<bp3:=⟨by omega,by omega,Nat.lt_of_lt_of_le (Nat.lt_of_lt_of_le hsz6 Ge.le) hgp2,Nat.lt_of_lt_of_le (Nat.lt_of_lt_of_le hsz6 Ge.le) hgp3⟩
 have lkL:Lk wL w NoB:=by rw [hwL];exact lkc
 have hb2L:wL.heap[b2]?=some (.cells (enC En.zero).toArray 51 (0,0)):=by rw [hwL];exact (ii:Blk w17 b2 (.cells #[.int .i64 0,.int .i64 0,.int .i64 0,.int .i64 0,.int .i64 0,.int .i64 0] 51 (0,0))).eq
 have hb3L:wL.heap[b3]?=some (.cells #[.int .i64 0] 3 (0,0)):=by rw [hwL];exact Blk.eq
 have hb4L:wL.heap[b4]?=some (.cells #[.int .i64 0] 29 (0,0)):=by rw [hwL];exact Blk.eq
 have hp2L:wL.heap[bp2]?=some (.cells #[fnV 83] 118 (0,0)):=by rw [hwL];exact Blk.eq
 have hp3L:wL.heap[bp3]?=some (.cells #[fnV 84] 118 (0,0)):=by rw [hwL];exact Blk.eq
 have hL0:Left w b6 xs wL:=by rw [hwL];exact ⟨Ab,c - 5,Blk.eq,by omega,ii⟩
 have hT0:Taker b6 bt2 bt3 wL:=by rw [hwL];exact ⟨Blk.eq,Blk.eq,by omega,by omega⟩
 have hno:∀ k,k≠b6->k≠b2->¬ TwoB b6 b2 k:=fun k h1 h2 e=>e.elim h1 h2
 haveI hsub:SubF (TwoB b6 b2) NoB w:=⟨fun k hk e=>by rcases e with e | e<;>omega⟩
 have hst0:stepsTo xs 0=some (En.zero,xs):=rfl
 refine x_loop (fun t τ ds w'=>ds=[readD b2 b3 b4]/\∃ (j:Nat) (e:En) (r:By),t=6 - j/\j<=6/\stepsTo xs j=some (e,r)/\r.length<=m/\Left w b6 r w'/\w'.heap[b2]?=some (.cells (enC e).toArray 51 (0,0))/\Ev τ 2 (ptrV b2)/\Ev τ 3 (ptrV b3)/\Ev τ 4 (ptrV b4)/\Ev τ 5 (.int .i64 (m:Int))/\Ev τ 6 (ptrV b6)/\Ev τ 9 (nextV bt2 bt3)/\Ev τ 51 (.agg (partsC bp2 bp3).toArray)/\Ev τ 52 (.int .i64 (j:Int))/\Lk w' wL (TwoB b6 b2)) (6) ?start ?round
 case start=>
  exact ⟨rfl,0,En.zero,xs,rfl,Nat.zero_le _,hst0,by omega,by rw [<- hwL];exact hL0,by rw [<- hwL];exact hb2L,ii,ii,ii,ii,ii,ii,ii,evc,by rw [hwL];exact lkc⟩
 case round=>
  intro m τ18 ds18 w18 hI
  obtain ⟨rfl,j,e,r,rfl,hj,hst,hrm,hLr,hbe,e2,e3,e4,e5,e6,e9,e51,e52,lk⟩:=hI
  clear e0
  haveI:=lkL
  haveI kb2:Blk w18 b2 (.cells (enC e).toArray 51 (0,0)):=⟨hbe⟩
  haveI kb3:Blk w18 b3 (.cells #[.int .i64 0] 3 (0,0)):=⟨(lk.keep.block b3 (Array.getElem?_eq_some_iff.1 hb3L).1 (hno _ (by omega) (by omega))).trans hb3L⟩
  haveI kb4:Blk w18 b4 (.cells #[.int .i64 0] 29 (0,0)):=⟨(lk.keep.block b4 (Array.getElem?_eq_some_iff.1 hb4L).1 (hno _ (by omega) (by omega))).trans hb4L⟩
  haveI kp2:Blk w18 bp2 (.cells #[fnV 83] 118 (0,0)):=⟨(lk.keep.block bp2 (Array.getElem?_eq_some_iff.1 hp2L).1 (hno _ (by omega) (by omega))).trans hp2L⟩
  haveI kp3:Blk w18 bp3 (.cells #[fnV 84] 118 (0,0)):=⟨(lk.keep.block bp3 (Array.getElem?_eq_some_iff.1 hp3L).1 (hno _ (by omega) (by omega))).trans hp3L⟩
  have hT1:Taker b6 bt2 bt3 w18:=hT0.ext lk.keep (hno _ (by omega) (by omega)) (hno _ (by omega) (by omega))
  refine xq (xl_v v_lss (xl_nil ?_))
  refine x_seq ?_
  refine x_if (fun c1=>?_) (fun c1=>?_)
  ·have hj1:j<6:=by omega
   refine x_skip (x_seq (x_block (xq ?_)))
   refine xl_v (v_indexGM (us:=partC bp2 bp3 j) j rfl hj1 (partsC_get bp2 bp3 j hj1)) ?_
   refine xl_e (e_alloc fun b10 w19 n10 l10 k10=>?_)
   refine xl_s (e_storeA fun w20 l20 k20=>?_)
   refine xl_nil ?_
   refine xq (xl_Fb ?_)
   refine xl_Lc ?_
   refine xl_Lb ?_
   refine xl_callv (has_ok e bp2 bp3 j w20 Blk.eq Blk.eq hj1) ?_
   rintro _ w21 ⟨rfl,lk13⟩
   refine xl_nil ?_
   refine x_condE (fun c2=>?_) (fun c2=>?_)
   ·refine x_regionL (xl_Fb ?_)
    refine xl_Lc ?_
    refine xm ?_
    refine xl_callvP (rd_ok b6 bt2 bt3 b2 j w r e w21 Blk.eq (hLr.ext (S:=NoB) kpc (fun _ h=>h.elim) (fun h=>h)) (hT1.ext (S:=NoB) kpc (fun h=>h) (fun h=>h)) hg6 (by omega) (by omega) hg2 hj1 c2) ?hp ?_
    case hp=>
     rintro ch w' ⟨hnone,rfl,lkp⟩
     haveI:NotS (OneB b6) b2:=⟨fun e=>by have e':b2=b6:=e;omega⟩
     haveI:NotS (OneB b6) b3:=⟨fun e=>by have e':b3=b6:=e;omega⟩
     haveI:NotS (OneB b6) b4:=⟨fun e=>by have e':b4=b6:=e;omega⟩
     have hpn:parse xs=none:=by
      have h1:stepsTo xs (j+1)=none:=by rw [stepsTo_succ,hst];exact hnone
      have h2:=stepsTo_none h1 (6 - (j+1))
      rw [show j+1+(6 - (j+1))=6 by omega] at h2
      rw [parse_steps,h2]
     exact read_pan bs b2 b3 b4 121 e 0 0 w w' h23 h24 h34 hg2 hg3 hg4 lkc (by rw [hread,hpn])
    rintro _ w22 ⟨rfl,⟨e',r',hst',hLr2,hbe2⟩,lk14⟩
    have hst2:stepsTo xs (j+1)=some (e',r'):=by rw [stepsTo_succ,hst];exact hst'
    have hrm2:r'.length<=m:=Nat.le_trans (rdP_len hst' hj1) hrm
    refine xl_nil ?_
    refine x_regionL ?_
    refine xl_v (v_add (by omega)) ?_
    refine xm (xl_nil ?_)
    refine ⟨_,?_,rfl,j+1,_,_,rfl,by omega,hst2,hrm2,hLr2,hbe2,ii,ii,ii,ii,ii,ii,ii,evc,lkc⟩
    omega
   have hst2:stepsTo xs (j+1)=some (e,r):=by rw [stepsTo_succ,hst];exact rdP_no c2 hj1 r
   have hrm2:=hrm
   have hLr2:Left w b6 r w21:=hLr.ext (S:=NoB) kpc (fun _ h=>h.elim) (fun h=>h)
   have hbe2:(w21).heap[b2]?=some (.cells (enC e).toArray 51 (0,0)):=Blk.eq
   refine x_skip (x_regionL ?_)
   refine xl_v (v_add (by omega)) ?_
   refine xm (xl_nil ?_)
   refine ⟨_,?_,rfl,j+1,_,_,rfl,by omega,hst2,hrm2,hLr2,hbe2,ii,ii,ii,ii,ii,ii,ii,evc,lkc⟩
   omega
  have hj6:j=6:=by omega
  subst hj6
  obtain ⟨A6,c6,h6,hc6,hr6⟩:=hLr.ex
  haveI k6:Blk w18 b6 (.cells #[.slice A6 r.length c6] 80 (0,0)):=⟨h6⟩
  refine x_exit ?_
  refine x_cut (fun τ ds w'=>ds=[readD b2 b3 b4]/\parse xs=some e/\Lk w' w18 NoB/\Ev τ 2 (ptrV b2)/\Ev τ 3 (ptrV b3)/\Ev τ 4 (ptrV b4)/\Ev τ 5 (.int .i64 (m:Int))) ?_ ?_
  ·refine x_regionL (xl_Lc ?_)
   refine xl_v v_len (xl_v v_eql (xm ?_))
   refine xl_split 67 (fun g67=>?_) (fun g67=>?_)
   ·have g16:=of_decide_eq_true g67
    refine xl_gLb rfl EvO.eq ?_
    refine xl_gcall rfl EvO.eq (check_ok e w18) ?_
    rintro _ w23 ⟨rfl,lk16⟩
    refine xl_gv rfl EvO.eq v_eql (xl_Pk ?_)
    refine xl_callP (must_ok _ 121 w23) ?hp ?_
    case hp=>
     rintro ch w' ⟨rfl,rfl,hd16⟩
     have hpn:parse xs=none:=by
      rw [parse_steps,hst]
      cases r with
      | nil=>first | exact if_neg (fun h=>by have h1:=of_decide_eq_false hd16;rw [if_pos h] at h1;exact h1 rfl) | exact absurd rfl g16
      | cons _ _=>rfl
     exact read_pan bs b2 b3 b4 121 e 0 0 w _ h23 h24 h34 hg2 hg3 hg4 lkc (by rw [hread,hpn])
    rintro _ _ ⟨rfl,rfl,hd16⟩
    refine xl_nil ?_
    refine ⟨rfl,?_,lkc,ii,ii,ii,ii⟩
    rw [parse_steps,hst]
    cases r with
    | nil=>first | exact absurd hd16 (by decide) | exact if_pos (Decidable.byContradiction fun h=>by have h1:=of_decide_eq_true hd16;rw [if_neg h] at h1;cases h1)
    | cons _ _=>first | exact absurd hd16 (by decide) | (simp at g16;omega)
   have g16:=of_decide_eq_false g67
   refine xl_gs rfl EvO.eq (xl_gs rfl EvO.eq (xl_gs rfl EvO.eq (xl_Pk ?_)))
   refine xl_callP (must_ok _ 121 w18) ?hp ?_
   case hp=>
    rintro ch w' ⟨rfl,rfl,hd16⟩
    have hpn:parse xs=none:=by
     rw [parse_steps,hst]
     cases r with
     | nil=>first | exact if_neg (fun h=>by have h1:=of_decide_eq_false hd16;rw [if_pos h] at h1;exact h1 rfl) | exact absurd rfl g16
     | cons _ _=>rfl
    exact read_pan bs b2 b3 b4 121 e 0 0 w _ h23 h24 h34 hg2 hg3 hg4 lkc (by rw [hread,hpn])
   rintro _ _ ⟨rfl,rfl,hd16⟩
   refine xl_nil ?_
   refine ⟨rfl,?_,lkc,ii,ii,ii,ii⟩
   rw [parse_steps,hst]
   cases r with
   | nil=>first | exact absurd hd16 (by decide) | exact if_pos (Decidable.byContradiction fun h=>by have h1:=of_decide_eq_true hd16;rw [if_neg h] at h1;cases h1)
   | cons _ _=>first | exact absurd hd16 (by decide) | (simp at g16;omega)
  intro τ26 ds26 w26 hI
  obtain ⟨rfl,hparse,lk17,e2,e3,e4,e5⟩:=hI
  refine xq (xl_Lb ?_)
  refine xm ?_
  refine xl_v (v_congr (u:=.int .i64 ((5+m:Nat):Int)) (v_add (by omega)) (congrArg (Value.int .i64) (by omega))) ?_
  refine xl_s (e_storeA fun w27 l27 k27=>?_)
  refine xl_s (e_store fun w28 l28 k28=>?_)
  refine xl_s (e_store fun w29 l29 k29=>?_)
  refine xl_nil ?_
  refine x_ret ?_
  exact read_ret bs b2 b3 b4 e (5+m) w _ lkc (by rw [hread,hparse])
end Go.Proofs.YtigmfcgeljjgnaaGreat
