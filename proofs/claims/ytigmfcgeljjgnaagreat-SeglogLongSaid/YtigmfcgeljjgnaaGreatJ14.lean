/- A part of the walks through the log and its document, and of the law in plain Lean: GP GQ GR GS. -/
import Derived.Test.YtigmfcgeljjgnaaGreatJ13
import Derived.Lib.ConvBytes
set_option linter.all false
set_option maxRecDepth 100000
set_option synthInstance.maxSize 100000
set_option synthInstance.maxHeartbeats 400000
namespace Go.Proofs.YtigmfcgeljjgnaaGreat
open Go.Wst
open Go.Wst.Dm Go.Wst.Sg
section
variable {P:Program} {r:Option Nat} {N:Nat} {S:Nat->Prop} {τ:Tau} {w:World} {ty:TypeId}
theorem v_sadd {a b:ByteArray} {x y:Operand} {t t':TypeId} [hx:EvO N τ x (.string a)] [hy:EvO N τ y (.string b)] (h:a.size+b.size<=9223372036854775807):Val P r N S (.binOp .add t x y t') ty τ w (.string (a++b)):=⟨fun _=>nofun,fun W _=>by
 have h1:¬ ((a.size+b.size:Nat):Int) > IntKind.i64.max:=by show ¬ ((a.size+b.size:Nat):Int) > 9223372036854775807;omega
 simp only [execOp,hx.eq,hy.eq,eqGuard,binOp,Op.stringOp]
 rw [if_neg h1]
 simp⟩
theorem v_ssliceH {s:ByteArray} {x y:Operand} {t:TypeId} {i:Int} (k:Nat) [hx:EvO N τ x (.string s)] [hy:EvO N τ y (.int .i64 i)] [hu:Und P t .string] (hk:i=(k:Int)) (hn:k<=s.size):Val P r N S (.slice t x none (some y) none) ty τ w (.string (s.extract 0 k)):=⟨fun _=>nofun,fun W _=>by
 subst hk
 simp [execOp,hx.eq,hy.eq,Instr.sliceAt,run_underlying hu.eq,Instr.slice,Instr.sliceBounds,Instr.sliceBound,asIntOf,hn]⟩
theorem v_ssliceL {s:ByteArray} {x y:Operand} {t:TypeId} {i:Int} (k:Nat) [hx:EvO N τ x (.string s)] [hy:EvO N τ y (.int .i64 i)] [hu:Und P t .string] (hk:i=(k:Int)) (hn:k<=s.size):Val P r N S (.slice t x (some y) none none) ty τ w (.string (s.extract k s.size)):=⟨fun _=>nofun,fun W _=>by
 subst hk
 simp [execOp,hx.eq,hy.eq,Instr.sliceAt,run_underlying hu.eq,Instr.slice,Instr.sliceBounds,Instr.sliceBound,asIntOf,hn]⟩
theorem v_sliceArr0 {x:Operand} {t e:TypeId} {n b off sz bytes:Nat} {z:Value} [hx:EvO N τ x (.pointer (some ⟨b,off,none⟩))] [hu:Und P t (.array n e)] [hi:Inf P e sz bytes z]:Val P r N S (.slice t x none none none) ty τ w (.slice (some ⟨b,off,none⟩) n n):=⟨fun _=>nofun,fun W _=>by
 obtain ⟨ii,h1,h2,h3,h4⟩:=hi.ex
 subst h2
 simp [execOp,hx.eq,padd,Instr.sliceAt,Instr.sureAddr,Instr.sliceBounds,Instr.sliceBound,asIntOf,run_underlying hu.eq,sizeOf,typeInfo,program,Sem.run,h1,Addr.add]⟩
end
theorem ext_list (s:ByteArray) (a b:Nat):(s.extract a b).toList=(s.toList.take b).drop a:=by
 rw [ByteArray.toList_eq,ByteArray.toList_eq,ByteArray.data_extract,Array.toList_extract,List.extract_eq_take_drop,List.drop_take]
theorem app_list (a b:ByteArray):(a++b).toList=a.toList++b.toList:=by
 rw [ByteArray.toList_eq,ByteArray.toList_eq,ByteArray.toList_eq,ByteArray.data_append,Array.toList_append]
abbrev calC (name:ByteArray) (per:Nat):List Value:=[.string name,.int .i64 (per:Int)]
theorem digs_cons:∀ (k n:Nat),digs (k+1) n=digB (n / 10 ^ k) :: digs k n
 | 0,n=>by simp [digs]
 | k+1,n=>by
   rw [digs,digs_cons k (n / 10),digs,Nat.div_div_eq_div_mul,Nat.pow_succ,Nat.mul_comm (10 ^ k) 10]
   rfl
theorem set_rep {k:Nat} {l:By} (c:UInt8):(List.replicate (k+1) (0:UInt8)++l).set k c=List.replicate k 0++c :: l:=by
 rw [List.replicate_succ',List.append_assoc,List.set_append_right _ _ (by simp)]
 simp
theorem file_ok (name:ByteArray) (per n:Nat) (w:World) (hn:n<1000000) (hs:name.size<=1000000000):Ret Tryz.prog 31 #[.agg (calC name per).toArray,.int .i64 (n:Int)] w (fun v w'=>v=.string (fileN name n)/\Lk w' w NoB):=by
 refine ret_of_x (N:=26) (l:=[.agg (calC name per).toArray,.int .i64 (n:Int)]) Tryz.func31 rfl rfl (Nat.le_of_ble_eq_true rfl) ?_
 refine xq ?_
 refine xl_e (e_box fun b2 w1 n2 l2 k2=>?_)
 refine xz ?_
 refine xq ?_
 refine xl_e (e_alloc fun b5 w2 n5 l5 k5=>?_)
 refine xl_nil ?_
 refine x_seq (xq (xm (xl_nil ?_)))
 refine x_block ?_
 haveI kz:Blk w2 b5 (.cells (bytesC (List.replicate 6 (0:UInt8)++digs 0 n)).toArray 104 (0,0)):=k5
 clear k5
 refine x_loop (fun t τ ds w'=>ds=[]/\∃ i:Nat,t=6 - i/\i<=6/\Ev τ 1 (.int .i64 ((n / 10 ^ i:Nat):Int))/\Ev τ 2 (ptrV b2)/\Ev τ 5 (ptrV b5)/\Ev τ 7 (.int .i64 (i:Int))/\Blk w' b2 (.cells (calC name per).toArray 67 (0,0))/\Blk w' b5 (.cells (bytesC (List.replicate (6 - i) (0:UInt8)++digs i n)).toArray 104 (0,0))/\Lk w' w NoB) (6) ?start ?round
 case start=>
  exact ⟨rfl,0,rfl,Nat.zero_le _,by simpa using (ii:Ev _ 1 (.int .i64 (n:Int))),ii,ii,evc,ii,kz,lkc⟩
 case round=>
  intro m τ3 ds3 w3 hI
  obtain ⟨rfl,i,rfl,hi,e1,e2,e5,e7,kb2,kb5,lk⟩:=hI
  have hle:=Nat.div_le_self n (10 ^ i)
  obtain ⟨q,hq⟩:∃ q,q=n / 10 ^ i:=⟨_,rfl⟩
  rw [<- hq] at e1 hle
  refine xq (xl_v v_lss (xl_nil ?_))
  refine x_seq ?_
  refine x_if (fun c1=>?_) (fun c1=>?_)
  ·have hi1:i<6:=by omega
   have hq2:((q / 10:Nat):Int)=((n / 10 ^ (i+1):Nat):Int):=by rw [hq,Nat.div_div_eq_div_mul,Nat.pow_succ]
   refine x_skip (x_seq (x_block (xq (xm (xz ?_)))))
   refine xq (xm ?_)
   refine xl_v (v_sub (by omega)) ?_
   refine xm ?_
   refine xl_v (v_congr (u:=.int .i64 ((q % 10:Nat):Int)) (v_rem (by decide)) (congrArg (Value.int .i64) (tmodN q 10))) ?_
   refine xl_v (v_congr (u:=.int .i64 ((48+q % 10:Nat):Int)) (v_add (by omega)) (congrArg (Value.int .i64) (by omega))) ?_
   refine xl_v (v_congr (u:=.int .u8 ((digB q).toNat:Int)) v_convert (congrArg (Value.int .u8) (by rw [u8wrap,digB_nat];congr 1;omega))) ?_
   refine xl_v (v_indexArrK (5 - i) (by omega) (by omega)) ?_
   refine xl_s (e_storeB (by simp [bytesC,digs_len];omega) fun w4 l6 k6=>?_)
   haveI kz2:Blk w4 b5 (.cells (bytesC (List.replicate (6 - (i+1)) (0:UInt8)++digs (i+1) n)).toArray 104 (0,0)):=⟨by
    have h1:=set_rep (k:=5 - i) (l:=digs i n) (digB q)
    have h2:bytesC (List.replicate (5 - i) 0++digB q :: digs i n)=(bytesC (List.replicate (6 - i) (0:UInt8)++digs i n)).set (5 - i) (.int .u8 ((digB q).toNat:Int)):=by
     rw [<- h1,show 5 - i+1=6 - i by omega]
     simp [bytesC,List.map_set]
    rw [show 6 - (i+1)=5 - i by omega,digs_cons,<- hq,h2]
    simpa using k6.eq⟩
   refine xl_nil ?_
   refine x_regionL (xm ?_)
   refine xl_v (v_congr (u:=.int .i64 ((q / 10:Nat):Int)) (v_quo (by decide)) (congrArg (Value.int .i64) (by rw [show (10:Int)=((10:Nat):Int) from rfl,tdivN];exact wrap_in (by omega) (by omega)))) ?_
   refine xz ?_
   refine x_regionL ?_
   refine xl_v (v_add (by omega)) ?_
   refine xm (xl_nil ?_)
   refine ⟨_,?_,rfl,i+1,rfl,by omega,evc (congrArg (Value.int .i64) hq2),ii,ii,evc,ii,kz2,lkc⟩
   omega
  have hi6:i=6:=by omega
  subst hi6
  refine x_exit (x_seq ?_)
  refine x_drawL (NoB) (allS) (.take 0 (.take 1 (.take 2 (.take 3 (.take 4 (.take 5 (.take 6 .done))))))) mixed (by kernel_rfl) (fun _ _ _ _ _ h=>h) (fun w5 l5=>?_)
  refine xt_Fb rfl ?_
  refine xt_Lc rfl ?_
  refine xt_v rfl (v_sadd (by show name.size+1<=_;omega)) ?_
  refine xt_v rfl (v_sliceArr0) ?_
  haveI hro:Row w5 (some ⟨b5,0,none⟩) (bytesC (digs 6 n)):=⟨row_blk (Blk.eq:(w5).heap[b5]?=_)⟩
  refine xt_v rfl (v_bytesStr (xs:=digs 6 n) (digs_len 6 n)) ?_
  refine xt_v rfl (v_sadd (by rw [ByteArray.size_append];show name.size+1+(digs 6 n).length<=_;rw [digs_len];omega)) ?_
  refine xt_v rfl v_assign (xt_nil ?_)
  refine x_ret ?_
  refine fin1 rfl ?_
  refine ⟨congrArg Value.string (toList_inj ?_),lkc⟩
  unfold fileN
  rw [app_list,app_list,strOf_list]
  have h1:(⟨#[46]⟩:ByteArray).toList=[46]:=strOf_list [46]
  have h2:(⟨(digs 6 n).toArray⟩:ByteArray).toList=digs 6 n:=strOf_list _
  rw [h1,h2]
  simp
theorem hasPrefix_ok (s p:ByteArray) (w:World):Ret Tryz.prog 119 #[.string s,.string p] w (fun v w'=>v=.bool (decide (s.toList.take p.size=p.toList))/\w=w'):=by
 refine ret_of_x (N:=18) (l:=[.string s,.string p]) Tryz.func119 rfl rfl (Nat.le_of_ble_eq_true rfl) ?_
 refine xq (xz ?_)
 refine xq (xm (xl_v v_lens (xm (xl_v v_lens (xl_v v_geq (xm ?_))))))
 refine xl_split 10 (fun g10=>?_) (fun g10=>?_)
 ·refine xl_gv rfl EvO.eq v_move (xl_gv rfl EvO.eq v_move (xl_gv rfl EvO.eq v_lens ?_))
  refine xl_gv rfl EvO.eq (v_ssliceH p.size rfl (by have:=of_decide_eq_true g10;omega)) ?_
  refine xl_gv rfl EvO.eq v_move (xl_gv rfl EvO.eq v_seql (xl_Pk ?_))
  refine xz ?_
  refine x_ret ?_
  refine fin1 rfl ?_
  refine ⟨congrArg Value.bool ?_,rfl⟩
  first
   | (have h1:¬ p.size<=s.size:=by have:=of_decide_eq_false g10;omega
      symm
      rw [decide_eq_false]
      intro h
      have h2:=congrArg List.length h
      rw [List.length_take,size_list,size_list] at h2
      omega)
   | (congr 1
      rw [eq_iff_iff]
      constructor
      ·intro h
       have h3:=congrArg ByteArray.toList h
       rw [ext_list] at h3
       simpa using h3
      ·intro h;exact toList_inj (by rw [ext_list];simpa using h))
 refine xl_gs rfl EvO.eq (xl_gs rfl EvO.eq (xl_gs rfl EvO.eq (xl_gs rfl EvO.eq (xl_gs rfl EvO.eq (xl_gs rfl EvO.eq (xl_Pk ?_))))))
 refine xz ?_
 refine x_ret ?_
 refine fin1 rfl ?_
 refine ⟨congrArg Value.bool ?_,rfl⟩
 first
  | (have h1:¬ p.size<=s.size:=by have:=of_decide_eq_false g10;omega
     symm
     rw [decide_eq_false]
     intro h
     have h2:=congrArg List.length h
     rw [List.length_take,size_list,size_list] at h2
     omega)
  | (congr 1
     rw [eq_iff_iff]
     constructor
     ·intro h
      have h3:=congrArg ByteArray.toList h
      rw [ext_list] at h3
      simpa using h3
     ·intro h;exact toList_inj (by rw [ext_list];simpa using h))
def cutS (s p:ByteArray):ByteArray×Bool:=if s.toList.take p.size=p.toList then (s.extract p.size s.size,true) else (s,false)
theorem cutPrefix_ok (s p:ByteArray) (w:World):Ret Tryz.prog 106 #[.string s,.string p] w (fun v w'=>v=.tuple #[.string (cutS s p).1,.bool (cutS s p).2]/\w=w'):=by
 refine ret_of_x (N:=15) (l:=[.string s,.string p]) Tryz.func106 rfl rfl (Nat.le_of_ble_eq_true rfl) ?_
 refine xq (xa (xz ?_))
 refine x_seq (xq (xm (xm ?_)))
 refine xl_call (hasPrefix_ok s p w) ?_
 rintro _ _ ⟨rfl,rfl⟩
 refine xl_v v_not (xl_nil ?_)
 refine x_condE (fun c1=>?_) (fun c1=>?_)
 ·refine xq (xm (xa (xz ?_)))
  refine x_ret ?_
  refine fin2 rfl ?_
  exact ⟨by unfold cutS;rw [if_neg (by simpa using c1)],rfl⟩
 have hp:s.toList.take p.size=p.toList:=by simpa using c1
 have hps:p.size<=s.size:=by
  have h2:=congrArg List.length hp
  rw [List.length_take,size_list,size_list] at h2
  omega
 refine x_skip (xq (xm (xm (xl_v v_lens ?_))))
 refine xl_v (v_ssliceL p.size rfl hps) ?_
 refine xa (xz ?_)
 refine x_ret ?_
 refine fin2 rfl ?_
 exact ⟨by unfold cutS;rw [if_pos hp],rfl⟩
theorem scutPrefix_ok (s p:ByteArray) (w:World):Ret Tryz.prog 74 #[.string s,.string p] w (fun v w'=>v=.tuple #[.string (cutS s p).1,.bool (cutS s p).2]/\w=w'):=by
 refine ret_of_x (N:=11) (l:=[.string s,.string p]) Tryz.func74 rfl rfl (Nat.le_of_ble_eq_true rfl) ?_
 refine xq (xa (xz ?_))
 refine xq (xm (xm ?_))
 refine xl_call (cutPrefix_ok s p w) ?_
 rintro _ _ ⟨rfl,rfl⟩
 refine xl_v v_extract (xl_v v_extract (xa (xz ?_)))
 refine x_ret ?_
 refine fin2 rfl ?_
 exact ⟨rfl,rfl⟩
def oddD (r:Int):Bool:=decide (r<48) || decide (57<r)
def oddL (r:Int):Bool:=(decide (r<97) || decide (122<r)) && (decide (r<48) || decide (57<r))
theorem dec_D (s:ByteArray) (pos:Nat) (h:pos<s.size):oddD ((Utf8.decode s pos).1:Nat)=!byteD (s[pos]'h)/\(byteD (s[pos]'h)=true->(Utf8.decode s pos).2=1):=by
 by_cases ha:(s[pos]'h).toNat<128
 ·rw [decode_ascii s pos h ha]
  refine ⟨?_,fun _=>rfl⟩
  simp only [oddD,byteD]
  rw [Bool.eq_iff_iff]
  simp
  omega
 ·have h1:=decode_odd s pos h (by omega)
  have h2:byteD (s[pos]'h)=false:=by
   simp only [byteD]
   rw [Bool.eq_false_iff]
   simp
   omega
  refine ⟨?_,fun e=>by rw [h2] at e;cases e⟩
  rw [h2]
  simp only [oddD]
  simp
  omega
theorem dec_L (s:ByteArray) (pos:Nat) (h:pos<s.size):oddL ((Utf8.decode s pos).1:Nat)=!byteL (s[pos]'h)/\(byteL (s[pos]'h)=true->(Utf8.decode s pos).2=1):=by
 by_cases ha:(s[pos]'h).toNat<128
 ·rw [decode_ascii s pos h ha]
  refine ⟨?_,fun _=>rfl⟩
  simp only [oddL,byteL]
  rw [Bool.eq_iff_iff]
  simp
  omega
 ·have h1:=decode_odd s pos h (by omega)
  have h2:byteL (s[pos]'h)=false:=by
   simp only [byteL]
   rw [Bool.eq_false_iff]
   simp
   omega
  refine ⟨?_,fun e=>by rw [h2] at e;cases e⟩
  rw [h2]
  simp only [oddL]
  simp
  omega
section
variable {P:Program} {N:Nat} {τ:Tau} {w:World} {ty:TypeId}
theorem e_strBytes {x:Operand} {s:ByteArray} {t t' e:TypeId} {G:Value->World->Prop} [hx:EvO N τ x (.string s)] [ht:Und P t .string] [ht':Und P t' (.slice e)] [he:Und P e (.int .u8)]
    (h:∀ (b c:Nat) (w':World),New b w->Lk w' w NoB->Row w' (some ⟨b,0,none⟩) (bytesC s.toList)->G (.slice (some ⟨b,0,none⟩) s.size c) w'):EffV P N NoB (.convert t t' x) ty τ w G:=by
 have hk:Keep NoB w (Lib.bytesWorld w e s):=by
  refine ⟨?_,?_,?_,by rw [Lib.bytesWorld_size];omega,fun k hk _=>Lib.bytesWorld_at_old w e s k hk⟩<;>simp [Lib.bytesWorld,World.freeze,World.alloc,World.drew,-World.alloc_eq,-World.drew_eq]
 refine ⟨fun _=>nofun,_,_,?_,hk,h w.heap.size (grownCap w s.size 0 e) _ ⟨rfl⟩ ⟨hk⟩ ⟨?_⟩⟩
 ·have h1:=Lib.run_convert_string_bytes (P:=P) w t t' e s ht.eq ht'.eq he.eq
  simp [execOp,hx.eq,h1,Result.andThen]
 ·have h1:=row_blk (w:=Lib.bytesWorld w e s) (b:=w.heap.size) (cs:=(Lib.bytesCells w e s).toList) (by simpa using Lib.bytesWorld_at_new w e s)
  intro j v hj
  refine h1 j v ?_
  have hb:bytesC s.toList=(s.data.map fun b=>Value.int .u8 b.toNat).toList:=by simp [bytesC,ByteArray.toList_eq]
  rw [hb] at hj
  obtain ⟨hj1,hj2⟩:=List.getElem?_eq_some_iff.1 hj
  simp only [Lib.bytesCells,Array.toList_append]
  rw [List.getElem?_append_left hj1]
  exact hj
end
theorem odd_D (r:Int) (w:World):Ret Tryz.prog 75 #[.int .i32 r] w (fun v w'=>v=.bool (oddD r)/\w=w'):=by
 refine ret_of_x (N:=9) (l:=[.int .i32 r]) Tryz.func75 rfl rfl (Nat.le_of_ble_eq_true rfl) ?_
 refine xq (xz ?_)
 refine xq (xm (xl_v v_lss (xm ?_)))
 refine xl_split 5 (fun g5=>?_) (fun g5=>?_)
 ·refine xl_gs rfl EvO.eq (xl_gs rfl EvO.eq (xl_Pk ?_))
  refine xz ?_
  refine x_ret ?_
  refine fin1 rfl ?_
  refine ⟨congrArg Value.bool ?_,rfl⟩
  simp only [oddD]
  simp_all<;>omega
 refine xl_gv rfl EvO.eq v_move (xl_gv rfl EvO.eq v_gtr (xl_Pk ?_))
 refine xz ?_
 refine x_ret ?_
 refine fin1 rfl ?_
 refine ⟨congrArg Value.bool ?_,rfl⟩
 simp only [oddD]
 simp_all<;>omega
theorem odd_L (r:Int) (w:World):Ret Tryz.prog 23 #[.int .i32 r] w (fun v w'=>v=.bool (oddL r)/\w=w'):=by
 refine ret_of_x (N:=17) (l:=[.int .i32 r]) Tryz.func23 rfl rfl (Nat.le_of_ble_eq_true rfl) ?_
 refine xq (xz ?_)
 refine xq (xm (xl_v v_lss (xm ?_)))
 refine xl_split 5 (fun g5=>?_) (fun g5=>?_)
 ·refine xl_gs rfl EvO.eq (xl_gs rfl EvO.eq (xl_Pk ?_))
  refine xm (xl_gv rfl EvO.eq v_move (xl_gv rfl EvO.eq v_lss (xl_gv rfl EvO.eq v_move ?_)))
  refine xl_split 12 (fun g12=>?_) (fun g12=>?_)
  ·refine xl_gs rfl EvO.eq (xl_gs rfl EvO.eq ?_)
   refine xl_gPk rfl EvO.eq ?_
   refine xl_Pk ?_
   refine xz ?_
   refine x_ret ?_
   refine fin1 rfl ?_
   refine ⟨congrArg Value.bool ?_,rfl⟩
   simp only [oddL]
   simp_all<;>omega
  refine xl_gv rfl EvO.eq v_move (xl_gv rfl EvO.eq v_gtr ?_)
  refine xl_gPk rfl EvO.eq ?_
  refine xl_Pk ?_
  refine xz ?_
  refine x_ret ?_
  refine fin1 rfl ?_
  refine ⟨congrArg Value.bool ?_,rfl⟩
  simp only [oddL]
  simp_all<;>omega
 refine xl_gv rfl EvO.eq v_move (xl_gv rfl EvO.eq v_gtr (xl_Pk ?_))
 refine xm ?_
 refine xl_split 9 (fun g9=>?_) (fun g9=>?_)
 ·refine xl_gv rfl EvO.eq v_move (xl_gv rfl EvO.eq v_lss (xl_gv rfl EvO.eq v_move ?_))
  refine xl_split 12 (fun g12=>?_) (fun g12=>?_)
  ·refine xl_gs rfl EvO.eq (xl_gs rfl EvO.eq ?_)
   refine xl_gPk rfl EvO.eq ?_
   refine xl_Pk ?_
   refine xz ?_
   refine x_ret ?_
   refine fin1 rfl ?_
   refine ⟨congrArg Value.bool ?_,rfl⟩
   simp only [oddL]
   simp_all<;>omega
  refine xl_gv rfl EvO.eq v_move (xl_gv rfl EvO.eq v_gtr ?_)
  refine xl_gPk rfl EvO.eq ?_
  refine xl_Pk ?_
  refine xz ?_
  refine x_ret ?_
  refine fin1 rfl ?_
  refine ⟨congrArg Value.bool ?_,rfl⟩
  simp only [oddL]
  simp_all<;>omega
 refine xl_gs rfl EvO.eq (xl_gs rfl EvO.eq (xl_gs rfl EvO.eq ?_))
 refine xl_gu rfl EvO.eq ?_
 refine xl_gu rfl EvO.eq ?_
 refine xl_gs rfl EvO.eq (xl_Pk ?_)
 refine xz ?_
 refine x_ret ?_
 refine fin1 rfl ?_
 refine ⟨congrArg Value.bool ?_,rfl⟩
 simp only [oddL]
 simp_all<;>omega
theorem idxf_D (s:ByteArray) (w:World) (hs:s.size<=1000000000):Ret Tryz.prog 46 #[.string s,.func (.func 75) ([]:List Value).toArray ([]:List Value).toArray,.bool true] w (fun v w'=>(∃ i:Int,v=.int .i64 i/\(0<=i↔s.toList.all byteD=false))/\Lk w' w NoB):=by
 refine ret_of_x (N:=21) (l:=[.string s,.func (.func 75) ([]:List Value).toArray ([]:List Value).toArray,.bool true]) Tryz.func46 rfl rfl (Nat.le_of_ble_eq_true rfl) ?_
 refine xq (xz ?_)
 refine x_seq (xq (xm ?_))
 refine xl_e (e_rangeS fun it w1 ni li hit hhas=>?_)
 refine xl_nil ?_
 refine x_block ?_
 refine x_loop (fun m τ ds w'=>ds=[]/\∃ (pos:Nat),m=s.size - pos/\pos<=s.size/\StrIt w' it s pos/\(∀ j (h:j<s.size),j<pos->byteD (s[j]'h)=true)/\Ev τ 1 (.func (.func 75) ([]:List Value).toArray ([]:List Value).toArray)/\Ev τ 2 (.bool true)/\Ev τ 10 (.pointer (some ⟨it,0,none⟩))/\Lk w' w NoB) (s.size) ?start ?round
 case start=>
  exact ⟨rfl,0,rfl,by omega,hit,fun j _ h=>by omega,ii,ii,ii,lkc⟩
 case round=>
  intro m τ2 ds2 w2 hI
  obtain ⟨rfl,pos,rfl,hpos,hst,hall,e1,e2,e10,lk⟩:=hI
  haveI:NotS NoB it:=⟨fun h=>h⟩
  haveI sI:SubF (OneB it) NoB w:=⟨fun k hk e=>by have e':k=it:=e;have:=ni.eq;omega⟩
  refine xq ?_
  refine xl_e (e_nextS hst fun bb qs w3 l2 hb0 hb1=>?_)
  refine xl_v v_extract (xl_nil ?_)
  refine x_seq ?_
  refine x_condE (fun c1=>?_) (fun c1=>?_)
  ·obtain ⟨hps,rfl,hst2⟩:=hb1 c1
   obtain ⟨hod,hwd⟩:=dec_D s pos hps
   refine x_skip (x_block (xq (xl_v v_extract (xl_v v_extract (xa (xz ?_))))))
   refine xq (xm (xm ?_))
   refine xl_call (odd_D _ w3) ?_
   rintro _ _ ⟨rfl,rfl⟩
   refine xm ?_
   refine xl_v (v_beql) ?_
   refine xl_nil ?_
   refine x_condE (fun c2=>?_) (fun c2=>?_)
   ·have hbo:byteD (s[pos]'hps)=false:=by
     rw [hod] at c2
     simpa using c2
    refine xq (xm (xz ?_))
    refine x_ret ?_
    refine fin1 rfl ?_
    refine ⟨⟨pos,rfl,⟨fun _=>?_,fun _=>by omega⟩⟩,lkc⟩
    rw [List.all_eq_false]
    exact ⟨s[pos]'hps,List.mem_of_getElem? (toList_get s pos hps),by simp [hbo]⟩
   have hbo:byteD (s[pos]'hps)=true:=by
    rw [hod] at c2
    simpa using c2
   have hst3:StrIt w3 it s (pos+1):=by rw [<- hwd hbo];exact hst2
   refine x_skip ?_
   refine ⟨_,?_,rfl,pos+1,rfl,by omega,hst3,?_,ii,ii,ii,lkc⟩
   ·omega
   ·intro j hj hj2
    by_cases e:j=pos
    ·subst e;exact hbo
    ·exact hall j hj (by omega)
  refine x_exit (xq (xz ?_))
  refine x_ret ?_
  refine fin1 rfl ?_
  have hps:=hb0 (by simpa using c1)
  refine ⟨⟨-1,rfl,⟨fun h=>by omega,fun h=>?_⟩⟩,lkc⟩
  rw [List.all_eq_false] at h
  obtain ⟨x,hx,h1⟩:=h
  obtain ⟨j,hj,hxj⟩:=List.getElem_of_mem hx
  have hj2:j<s.size:=by
   have:s.toList.length=s.size:=by rw [ByteArray.toList_eq];rfl
   omega
  have h2:=toList_get s j hj2
  rw [List.getElem?_eq_getElem hj] at h2
  have h3:=hall j hj2 (by omega)
  rw [<- Option.some.inj h2,hxj] at h3
  exact absurd h3 h1
theorem IdxF_D (s:ByteArray) (w:World) (hs:s.size<=1000000000):Ret Tryz.prog 26 #[.string s,.func (.func 75) ([]:List Value).toArray ([]:List Value).toArray] w (fun v w'=>(∃ i:Int,v=.int .i64 i/\(0<=i↔s.toList.all byteD=false))/\Lk w' w NoB):=by
 refine ret_of_x (N:=8) (l:=[.string s,.func (.func 75) ([]:List Value).toArray ([]:List Value).toArray]) Tryz.func26 rfl rfl (Nat.le_of_ble_eq_true rfl) ?_
 refine xq (xz ?_)
 refine xq (xm (xm ?_))
 refine xl_call (idxf_D s w hs) ?_
 rintro _ w1 ⟨⟨i,rfl,hi⟩,lk1⟩
 refine xz ?_
 refine x_ret ?_
 refine fin1 rfl ?_
 exact ⟨⟨i,rfl,hi⟩,lkc⟩
theorem idxf_L (s:ByteArray) (w:World) (hs:s.size<=1000000000):Ret Tryz.prog 46 #[.string s,.func (.func 23) ([]:List Value).toArray ([]:List Value).toArray,.bool true] w (fun v w'=>(∃ i:Int,v=.int .i64 i/\(0<=i↔s.toList.all byteL=false))/\Lk w' w NoB):=by
 refine ret_of_x (N:=21) (l:=[.string s,.func (.func 23) ([]:List Value).toArray ([]:List Value).toArray,.bool true]) Tryz.func46 rfl rfl (Nat.le_of_ble_eq_true rfl) ?_
 refine xq (xz ?_)
 refine x_seq (xq (xm ?_))
 refine xl_e (e_rangeS fun it w1 ni li hit hhas=>?_)
 refine xl_nil ?_
 refine x_block ?_
 refine x_loop (fun m τ ds w'=>ds=[]/\∃ (pos:Nat),m=s.size - pos/\pos<=s.size/\StrIt w' it s pos/\(∀ j (h:j<s.size),j<pos->byteL (s[j]'h)=true)/\Ev τ 1 (.func (.func 23) ([]:List Value).toArray ([]:List Value).toArray)/\Ev τ 2 (.bool true)/\Ev τ 10 (.pointer (some ⟨it,0,none⟩))/\Lk w' w NoB) (s.size) ?start ?round
 case start=>
  exact ⟨rfl,0,rfl,by omega,hit,fun j _ h=>by omega,ii,ii,ii,lkc⟩
 case round=>
  intro m τ2 ds2 w2 hI
  obtain ⟨rfl,pos,rfl,hpos,hst,hall,e1,e2,e10,lk⟩:=hI
  haveI:NotS NoB it:=⟨fun h=>h⟩
  haveI sI:SubF (OneB it) NoB w:=⟨fun k hk e=>by have e':k=it:=e;have:=ni.eq;omega⟩
  refine xq ?_
  refine xl_e (e_nextS hst fun bb qs w3 l2 hb0 hb1=>?_)
  refine xl_v v_extract (xl_nil ?_)
  refine x_seq ?_
  refine x_condE (fun c1=>?_) (fun c1=>?_)
  ·obtain ⟨hps,rfl,hst2⟩:=hb1 c1
   obtain ⟨hod,hwd⟩:=dec_L s pos hps
   refine x_skip (x_block (xq (xl_v v_extract (xl_v v_extract (xa (xz ?_))))))
   refine xq (xm (xm ?_))
   refine xl_call (odd_L _ w3) ?_
   rintro _ _ ⟨rfl,rfl⟩
   refine xm ?_
   refine xl_v (v_beql) ?_
   refine xl_nil ?_
   refine x_condE (fun c2=>?_) (fun c2=>?_)
   ·have hbo:byteL (s[pos]'hps)=false:=by
     rw [hod] at c2
     simpa using c2
    refine xq (xm (xz ?_))
    refine x_ret ?_
    refine fin1 rfl ?_
    refine ⟨⟨pos,rfl,⟨fun _=>?_,fun _=>by omega⟩⟩,lkc⟩
    rw [List.all_eq_false]
    exact ⟨s[pos]'hps,List.mem_of_getElem? (toList_get s pos hps),by simp [hbo]⟩
   have hbo:byteL (s[pos]'hps)=true:=by
    rw [hod] at c2
    simpa using c2
   have hst3:StrIt w3 it s (pos+1):=by rw [<- hwd hbo];exact hst2
   refine x_skip ?_
   refine ⟨_,?_,rfl,pos+1,rfl,by omega,hst3,?_,ii,ii,ii,lkc⟩
   ·omega
   ·intro j hj hj2
    by_cases e:j=pos
    ·subst e;exact hbo
    ·exact hall j hj (by omega)
  refine x_exit (xq (xz ?_))
  refine x_ret ?_
  refine fin1 rfl ?_
  have hps:=hb0 (by simpa using c1)
  refine ⟨⟨-1,rfl,⟨fun h=>by omega,fun h=>?_⟩⟩,lkc⟩
  rw [List.all_eq_false] at h
  obtain ⟨x,hx,h1⟩:=h
  obtain ⟨j,hj,hxj⟩:=List.getElem_of_mem hx
  have hj2:j<s.size:=by
   have:s.toList.length=s.size:=by rw [ByteArray.toList_eq];rfl
   omega
  have h2:=toList_get s j hj2
  rw [List.getElem?_eq_getElem hj] at h2
  have h3:=hall j hj2 (by omega)
  rw [<- Option.some.inj h2,hxj] at h3
  exact absurd h3 h1
theorem IdxF_L (s:ByteArray) (w:World) (hs:s.size<=1000000000):Ret Tryz.prog 26 #[.string s,.func (.func 23) ([]:List Value).toArray ([]:List Value).toArray] w (fun v w'=>(∃ i:Int,v=.int .i64 i/\(0<=i↔s.toList.all byteL=false))/\Lk w' w NoB):=by
 refine ret_of_x (N:=8) (l:=[.string s,.func (.func 23) ([]:List Value).toArray ([]:List Value).toArray]) Tryz.func26 rfl rfl (Nat.le_of_ble_eq_true rfl) ?_
 refine xq (xz ?_)
 refine xq (xm (xm ?_))
 refine xl_call (idxf_L s w hs) ?_
 rintro _ w1 ⟨⟨i,rfl,hi⟩,lk1⟩
 refine xz ?_
 refine x_ret ?_
 refine fin1 rfl ?_
 exact ⟨⟨i,rfl,hi⟩,lkc⟩
set_option maxHeartbeats 1000000 in
theorem number_ok (name file:ByteArray) (per:Nat) (w:World) (hs:name.size<=100000) (hf:file.size<=100000000):Ret Tryz.prog 58 #[.agg (calC name per).toArray,.string file] w (fun v w'=>(match ownN name file with | some n=>v=.tuple #[.int .i64 (n:Int),.bool true] | none=>v=.tuple #[.int .i64 0,.bool false])/\Lk w' w NoB):=by
 have hp:((name++(⟨#[46]⟩:ByteArray)).toList)=name.toList++[46]:=by rw [app_list];exact congrArg (name.toList++·) (strOf_list [46])
 have hps:(name++(⟨#[46]⟩:ByteArray)).size=name.toList.length+1:=by rw [<- size_list,hp];simp
 obtain ⟨rest,ok,hro⟩:∃ rest ok,cutS file (name++(⟨#[46]⟩:ByteArray))=(rest,ok):=⟨_,_,rfl⟩
 have hrest:ok=true->file.toList.take (name.toList.length+1)=name.toList++[46]/\rest.toList=file.toList.drop (name.toList.length+1)/\rest.size+name.toList.length+1=file.size:=by
  intro hok
  unfold cutS at hro
  split at hro
  ·next h=>
   rw [hps,hp] at h
   injection hro with h1 h2
   have h3:rest.toList=file.toList.drop (name.toList.length+1):=by
    rw [<- h1,ext_list,hps]
    rw [List.take_of_length_le (by rw [size_list];exact Nat.le_refl _)]
   refine ⟨h,h3,?_⟩
   have h4:=congrArg List.length h3
   have h5:=congrArg List.length h
   simp only [List.length_take,size_list,List.length_append,List.length_singleton,List.length_drop] at h4 h5 ⊢
   omega
  ·injection hro with h1 h2
   rw [hok] at h2;cases h2
 have hno:ok=false->ownN name file=none:=by
  intro hok
  unfold cutS at hro
  split at hro
  ·injection hro with h1 h2;rw [hok] at h2;cases h2
  ·next h=>
   rw [hps,hp] at h
   unfold ownN ownL
   rw [if_neg (fun hh=>h hh.1)]
 refine ret_of_x (N:=48) (l:=[.agg (calC name per).toArray,.string file]) Tryz.func58 rfl rfl (Nat.le_of_ble_eq_true rfl) ?_
 refine xq ?_
 refine xl_e (e_box fun b2 w1 n2 l2 k2=>?_)
 refine xa (xz ?_)
 refine xq (xm (xl_Fb ?_))
 refine xl_Lc ?_
 refine xl_v (v_sadd (by show name.size+1<=_;omega)) ?_
 refine xl_call (scutPrefix_ok file _ w1) ?_
 rintro _ _ ⟨rfl,rfl⟩
 simp only [hro]
 refine xm (xl_v v_extract (xl_v v_extract (xa (xz ?_))))
 refine xq (xz ?_)
 refine x_seq (xq (xm (xl_v v_not (xm ?_))))
 refine xl_split 22 (fun g22=>?_) (fun g22=>?_)
 ·have gok:ok=false:=by simpa using g22
  refine xl_gs rfl EvO.eq (xl_gs rfl EvO.eq (xl_gs rfl EvO.eq (xl_Pk ?_)))
  refine xm (xl_gs rfl EvO.eq (xl_gs rfl EvO.eq (xl_gs rfl EvO.eq (xl_gs rfl EvO.eq (xl_Pk ?_)))))
  refine xl_nil ?_
  refine x_condT ?_
  refine xq (xa (xz ?_))
  refine x_ret ?_
  refine fin2 rfl ?_
  have hn:ownN name file=none:=by
   first
    | exact hno gok
    | (unfold ownN ownL
       rw [if_neg]
       rintro ⟨h1,h2,h3⟩
       rw [size_list] at h2
       first
        | omega
        | (rw [<- hr2] at h3
           have h4:rest.toList.all byteD=false:=hi.1 (by first | omega | (simp at c1;omega))
           rw [h3] at h4;cases h4))
  rw [hn]
  exact ⟨rfl,lkc⟩
 have gok:ok=true:=by simpa using g22
 obtain ⟨hr1,hr2,hr3⟩:=hrest gok
 refine xl_gv rfl EvO.eq v_move (xl_gv rfl EvO.eq v_lens (xl_gv rfl EvO.eq v_neq (xl_Pk ?_)))
 refine xm ?_
 refine xl_split 27 (fun g27=>?_) (fun g27=>?_)
 ·have glen:¬ rest.size=6:=by simp at g27;omega
  refine xl_gs rfl EvO.eq (xl_gs rfl EvO.eq (xl_gs rfl EvO.eq (xl_gs rfl EvO.eq (xl_Pk ?_))))
  refine xl_nil ?_
  refine x_condT ?_
  refine xq (xa (xz ?_))
  refine x_ret ?_
  refine fin2 rfl ?_
  have hn:ownN name file=none:=by
   first
    | exact hno gok
    | (unfold ownN ownL
       rw [if_neg]
       rintro ⟨h1,h2,h3⟩
       rw [size_list] at h2
       first
        | omega
        | (rw [<- hr2] at h3
           have h4:rest.toList.all byteD=false:=hi.1 (by first | omega | (simp at c1;omega))
           rw [h3] at h4;cases h4))
  rw [hn]
  exact ⟨rfl,lkc⟩
 have glen:rest.size=6:=by simp at g27;omega
 refine xl_gv rfl EvO.eq v_move (xl_gv rfl EvO.eq v_move ?_)
 refine xl_gcall rfl EvO.eq (IdxF_D rest w1 (by omega)) ?_
 rintro _ w3 ⟨⟨i,rfl,hi⟩,lk10⟩
 refine xl_gv rfl EvO.eq v_geq (xl_Pk ?_)
 refine xl_nil ?_
 refine x_if (fun c1=>?_) (fun c1=>?_)
 ·skip
  refine xq (xa (xz ?_))
  refine x_ret ?_
  refine fin2 rfl ?_
  have hn:ownN name file=none:=by
   first
    | exact hno gok
    | (unfold ownN ownL
       rw [if_neg]
       rintro ⟨h1,h2,h3⟩
       rw [size_list] at h2
       first
        | omega
        | (rw [<- hr2] at h3
           have h4:rest.toList.all byteD=false:=hi.1 (by first | omega | (simp at c1;omega))
           rw [h3] at h4;cases h4))
  rw [hn]
  exact ⟨rfl,lkc⟩
 refine x_skip (x_seq ?_)
 have hall:rest.toList.all byteD=true:=by
  rcases Bool.eq_false_or_eq_true (rest.toList.all byteD) with h | h
  ·exact h
  ·exact absurd (hi.2 h) (by first | omega | (simp at c1;omega))
 have hl6:rest.toList.length=6:=by rw [size_list];exact glen
 have hn:ownN name file=some (valD rest.toList):=by
  unfold ownN ownL
  rw [<- hr2,if_pos ⟨hr1,by rw [size_list];omega,hall⟩]
 refine x_regionL (xz ?_)
 refine x_seq (xq (xm ?_))
 refine xl_e (e_strBytes fun b34 c34 w4 n34 l34 hrow34=>?_)
 refine xl_v v_len (xm (xl_nil ?_))
 refine x_block ?_
 refine x_loop (fun t τ ds w'=>ds=[]/\∃ k:Nat,t=6 - k/\k<=6/\Ev τ 9 (.int .i64 ((valD (rest.toList.take k):Nat):Int))/\Ev τ 34 (.slice (some ⟨b34,0,none⟩) rest.size c34)/\Ev τ 35 (.int .i64 (rest.size:Int))/\Ev τ 36 (.int .i64 (k:Int))/\Lk w' w4 NoB) (6) ?start ?round
 case start=>
  exact ⟨rfl,0,rfl,Nat.zero_le _,ii,ii,ii,evc,lkc⟩
 case round=>
  intro m τ5 ds5 w5 hI
  obtain ⟨rfl,k,rfl,hk,e9,e34,e35,e36,lk⟩:=hI
  refine xq (xl_v v_lss (xl_nil ?_))
  refine x_seq ?_
  refine x_if (fun c2=>?_) (fun c2=>?_)
  ·have hk1:k<rest.toList.length:=by omega
   have hbk:byteD rest.toList[k]=true:=List.all_eq_true.1 hall _ (List.getElem_mem hk1)
   have hbk2:48<=rest.toList[k].toNat/\rest.toList[k].toNat<=57:=by simpa [byteD] using hbk
   have hv9:=(digs_valD k (rest.toList.take k) (by rw [List.length_take];omega) (by
    rw [List.all_eq_true] at hall ⊢
    exact fun x hx=>hall x (List.mem_of_mem_take hx))).2
   have hv8:valD (rest.toList.take k)<1000000:=Nat.lt_of_lt_of_le hv9 (Nat.le_trans (Nat.pow_le_pow_right (by omega) hk) (by decide))
   have hv2:(10*((valD (rest.toList.take k):Nat):Int)+((rest.toList[k].toNat - 48:Nat):Int))=((valD (rest.toList.take (k+1)):Nat):Int):=by
    rw [List.take_succ_eq_append_getElem hk1,valD_snoc];omega
   refine x_skip (x_seq (x_block (xq ?_)))
   refine xl_v (v_indexO k rfl (by omega) hk1) ?_
   refine xl_v (v_loadO (k:=k) hk1) ?_
   refine xz ?_
   refine x_regionL (xm ?_)
   refine xl_v (v_mul (by omega)) ?_
   refine xm ?_
   refine xl_v (v_congr (u:=.int .u8 ((rest.toList[k].toNat - 48:Nat):Int)) v_subw (congrArg (Value.int .u8) (by rw [show (rest.toList[k].toNat:Int) - 48=((rest.toList[k].toNat - 48:Nat):Int) by omega,u8wrap];congr 1;omega))) ?_
   refine xl_v (v_congr (u:=.int .i64 ((rest.toList[k].toNat - 48:Nat):Int)) v_convert (congrArg (Value.int .i64) (wrap_in (by omega) (by omega)))) ?_
   refine xl_v (v_add (by omega)) ?_
   refine xz ?_
   refine x_regionL ?_
   refine xl_v (v_add (by omega)) ?_
   refine xm (xl_nil ?_)
   refine ⟨_,?_,rfl,k+1,rfl,by omega,evc (congrArg (Value.int .i64) hv2),ii,ii,evc,lkc⟩
   omega
  have hk6:k=6:=by omega
  subst hk6
  rw [List.take_of_length_le (by omega)] at e9
  refine x_exit (xq (xm (xa (xz ?_))))
  refine x_ret ?_
  refine fin2 rfl ?_
  rw [hn]
  exact ⟨rfl,lkc⟩
theorem base_ok (name:ByteArray) (per n:Nat) (w:World) (hp:1<=per) (hp2:per<=256) (hn:n<=1000000):Ret Tryz.prog 38 #[.agg (calC name per).toArray,.int .i64 (n:Int)] w (fun v w'=>v=.int .i64 ((n / per*per:Nat):Int)/\Lk w' w NoB):=by
 have hd:=Nat.div_mul_le_self n per
 have hd1:=Nat.div_le_self n per
 obtain ⟨q,hq⟩:∃ q,q=n / per:=⟨_,rfl⟩
 rw [<- hq] at hd hd1 ⊢
 refine ret_of_x (N:=12) (l:=[.agg (calC name per).toArray,.int .i64 (n:Int)]) Tryz.func38 rfl rfl (Nat.le_of_ble_eq_true rfl) ?_
 refine xq ?_
 refine xl_e (e_box fun b2 w1 n2 l2 k2=>?_)
 refine xz ?_
 refine x_seq ?_
 refine x_drawL (NoB) (allS) (.take 0 (.take 1 (.take 2 (.take 3 (.take 4 (.take 5 (.take 6 (.take 7 .done)))))))) mixed (by kernel_rfl) (fun _ _ _ _ _ h=>h) (fun w2 l2=>?_)
 refine xt_v rfl v_move (xt_Fb rfl ?_)
 refine xt_Lc rfl ?_
 refine xt_v rfl (v_congr (u:=.int .i64 (q:Int)) (v_quo (by omega)) (congrArg (Value.int .i64) (by rw [tdivN,<- hq];exact wrap_in (by omega) (by omega)))) ?_
 refine xt_Fb rfl ?_
 refine xt_Lc rfl ?_
 refine xt_v rfl (v_congr (u:=.int .i64 ((q*per:Nat):Int)) (v_mul (by rw [<- Int.natCast_mul];omega)) (congrArg (Value.int .i64) (Int.natCast_mul _ _).symm)) ?_
 refine xt_v rfl v_assign (xt_nil ?_)
 refine x_ret ?_
 refine fin1 rfl ?_
 exact ⟨rfl,lkc⟩
theorem below_ok (a b c:Int) (w:World):Ret Tryz.prog 25 #[.int .i64 a,.int .i64 b,.int .i64 c] w (fun v w'=>v=.bool (decide (b<=a/\a<c))/\w=w'):=by
 refine ret_of_x (N:=15) (l:=[.int .i64 a,.int .i64 b,.int .i64 c]) Tryz.func25 rfl rfl (Nat.le_of_ble_eq_true rfl) ?_
 refine xq (xz ?_)
 refine xq (xm (xm (xl_v v_leq (xm ?_))))
 refine xl_split 10 (fun g10=>?_) (fun g10=>?_)
 ·refine xl_gv rfl EvO.eq v_move (xl_gv rfl EvO.eq v_move (xl_gv rfl EvO.eq v_lss (xl_Pk ?_)))
  refine xz ?_
  refine x_ret ?_
  refine fin1 rfl ?_
  refine ⟨congrArg Value.bool ?_,rfl⟩
  simp_all<;>omega
 refine xl_gs rfl EvO.eq (xl_gs rfl EvO.eq (xl_gs rfl EvO.eq (xl_Pk ?_)))
 refine xz ?_
 refine x_ret ?_
 refine fin1 rfl ?_
 refine ⟨congrArg Value.bool ?_,rfl⟩
 simp_all<;>omega
theorem size_ok (A:Option Addr) (n c:Nat) (l:List En) (w:World) [hra:RowB w A w (l.flatMap enC)] (hl:l.length=n) (hn:n<=1000000) (hR:∀ e∈l,Right e):Ret Tryz.prog 29 #[.slice A n c] w (fun v w'=>v=.int .i64 ((frames l).length:Int)/\Lk w' w NoB):=by
 refine ret_of_x (N:=12) (l:=[.slice A n c]) Tryz.func29 rfl rfl (Nat.le_of_ble_eq_true rfl) ?_
 refine xq (xz ?_)
 refine xq (xm ?_)
 refine xl_call (frames_ok A n c l w hl hn hR) ?_
 rintro _ w1 ⟨⟨A',c',rfl,ho⟩,lk⟩
 refine xm (xl_v v_extract (xl_v v_extract (xa (xz ?_))))
 refine xq (xm (xl_v v_len (xz ?_)))
 refine x_ret ?_
 refine fin1 rfl ?_
 exact ⟨rfl,lkc⟩
theorem alG_prefix {tl pre:Seen} (h:pre <+: tl):AlG tl pre:=⟨h.length_le,List.prefix_iff_eq_take.1 h⟩
structure LLog where
 name:ByteArray
 per:Nat
 d:Nat
 es:List En
 A:Option Addr
 c:Nat
 sure:Nat
abbrev logC (L:LLog):List Value:=[.string L.name,.int .i64 (L.per:Int),ptrV L.d,.slice L.A L.es.length L.c,.int .i64 (L.sure:Int)]
def tlB (ks:List ByteArray):Seen:=(List.range ks.length).map (fun j=>[Value.int .i64 ((ks.length - 1 - j:Nat):Int),.string (ks.getD (ks.length - 1 - j) ⟨#[]⟩)])
theorem tlB_len (ks:List ByteArray):(tlB ks).length=ks.length:=by simp [tlB]
theorem tlB_get {ks:List ByteArray} {j:Nat} (h:j<ks.length) (h2:j<(tlB ks).length):(tlB ks)[j]=[Value.int .i64 ((ks.length - 1 - j:Nat):Int),.string (ks[ks.length - 1 - j]'(by omega))]:=by
 have h3:ks.length - 1 - j<ks.length:=by omega
 simp [tlB,List.getD_eq_getElem?_getD,List.getElem?_eq_getElem h3]
theorem rev_get {ks:List ByteArray} {j:Nat} (h:j<ks.length):ks.reverse[j]'(by simpa using h)=ks[ks.length - 1 - j]'(by omega):=by
 rw [List.getElem_reverse]
def tellO (name:ByteArray) (f:ByteArray):List Value:=[.int .i64 ((ownN name f).getD 0:Int),.string f]
def tlO (fs:Fs) (name:ByteArray):Seen:=(ownFiles fs name).reverse.map (tellO name)
def partO (ks:List ByteArray) (name:ByteArray) (j:Nat):Seen:=((ks.reverse.take j).filter (ownB name)).map (tellO name)
theorem partO_all (fs:Fs) (name:ByteArray):partO (fs.map (·.1)) name (fs.map (·.1)).length=tlO fs name:=by
 unfold partO tlO ownFiles
 rw [List.take_of_length_le (by simp),List.filter_reverse]
theorem partO_pre (fs:Fs) (name:ByteArray) (j:Nat):partO (fs.map (·.1)) name j <+: tlO fs name:=by
 rw [<- partO_all]
 unfold partO
 rw [List.take_of_length_le (i:=(fs.map (·.1)).length) (by simp)]
 exact List.IsPrefix.map _ (List.IsPrefix.filter _ (List.take_prefix _ _))
theorem partO_succ {ks:List ByteArray} {name:ByteArray} {j:Nat} (h:j<ks.length):partO ks name (j+1)=partO ks name j++(if ownB name (ks[ks.length - 1 - j]'(by omega))=true then [tellO name (ks[ks.length - 1 - j]'(by omega))] else []):=by
 unfold partO
 rw [take_snoc ks.reverse j (by simpa using h),List.filter_append,List.map_append,rev_get h]
 split
 ·next hh=>simp [hh]
 ·next hh=>simp [hh]
abbrev backV (bx:Nat):Value:=.func (.func 71) ([]:List Value).toArray [ptrV bx].toArray
abbrev fallV (bl:Nat):Value:=.func (.func 55) ([]:List Value).toArray [ptrV bl].toArray
theorem number2_ok (name file:ByteArray) (per:Nat) (w:World) (hs:name.size<=100000) (hf:file.size<=100000000):Ret Tryz.prog 58 #[.agg (calC name per).toArray,.string file] w (fun v w'=>v=.tuple #[.int .i64 ((ownN name file).getD 0:Int),.bool (ownB name file)]/\Lk w' w NoB):=
 (number_ok name file per w hs hf).mono (fun v w' h=>⟨by
   have h1:=h.1
   unfold ownB
   split at h1
   ·next n hn=>rw [hn];exact h1
   ·next hn=>rw [hn];exact h1,h.2⟩)
theorem lnone_ok (b:Nat) (L:LLog) (w:World) [Blk w b (.cells (logC L).toArray 69 (0,0))]:Ret Tryz.prog 34 #[ptrV b] w (fun v w'=>v=.bool false/\w=w'):=by
 refine ret_of_x (N:=12) (l:=[ptrV b]) Tryz.func34 rfl rfl (Nat.le_of_ble_eq_true rfl) ?_
 refine xq (xz ?_)
 refine xq (xm ?_)
 refine xl_v (by first | exact v_eql_pointerS | exact v_eql_pointerN) ?_
 refine xm (xl_gv rfl EvO.eq v_move ?_)
 refine xl_gNc rfl EvO.eq ?_
 refine xl_gFb rfl EvO.eq ?_
 refine xl_gLc rfl EvO.eq ?_
 refine xl_gv rfl EvO.eq (by first | exact v_eql_pointerS | exact v_eql_pointerN) ?_
 refine xl_Pk ?_
 refine xz ?_
 refine x_ret ?_
 refine fin1 rfl ?_
 exact ⟨rfl,rfl⟩
theorem backward_ok (A:Option Addr) (n c:Nat) (w:World):Ret Tryz.prog 56 #[.slice A n c] w (fun v w'=>(∃ bx,v=backV bx/\w'.heap[bx]?=some (.cells #[.slice A n c] 55 (0,0))/\w.heap.size<=bx)/\Lk w' w NoB):=by
 refine ret_of_x (N:=4) (l:=[.slice A n c]) Tryz.func56 rfl rfl (Nat.le_of_ble_eq_true rfl) ?_
 refine xq ?_
 refine xl_e (e_box fun bx w1 n2 l2 k2=>?_)
 refine xz ?_
 refine xq (xl_v v_makeFunc (xz ?_))
 refine x_ret ?_
 refine fin1 rfl ?_
 exact ⟨⟨bx,rfl,Blk.eq,by rw [n2.eq];exact Nat.le_refl _⟩,lkc⟩
theorem back1_ok (y:Value) (bx:Nat) (G:Nat->Prop) (A:Option Addr) (n c:Nat) (ks:List ByteArray) (I J:Seen->(Nat->Prop)->World->Prop) (F:Nat->Prop) (w:World) [kbx:Blk w bx (.cells #[.slice A n c] 55 (0,0))] (hr:FRow w G A (strs ks)) (hl:ks.length=n) (hn:n<=1000000) (w0:World) (hy:YieldsI Tryz.prog y (AlG (tlB ks)) I J w0) (hw0:w0.heap.size<=w.heap.size) (h0:I [] F w) (hF:∀ k,F k->¬ (k=bx\/G k)):Ret Tryz.prog 71 #[y,ptrV bx] w (fun _ w'=>∃ pre F',((FinG (tlB ks) pre/\I pre F' w')\/J pre F' w')/\Keep F w w'/\Sub F' F w):=by
 refine ret_of_x (N:=19) (l:=[y,ptrV bx]) Tryz.func71 rfl rfl (Nat.le_of_ble_eq_true rfl) ?_
 refine xq (xl_Lc ?_)
 refine xl_v v_len ?_
 refine xl_v (v_sub (by omega)) ?_
 refine xz ?_
 refine x_block ?_
 refine x_loop (fun t τ ds w'=>ds=[]/\∃ (j:Nat) (Fc:Nat->Prop),t=n - j/\j<=n/\I ((tlB ks).take j) Fc w'/\Keep F w w'/\Sub Fc F w/\Ev τ 0 y/\Ev τ 1 (ptrV bx)/\Ev τ 3 (.int .i64 ((n:Int) - 1 - (j:Int)))) (n) ?start ?round
 case start=>
  exact ⟨rfl,0,F,rfl,Nat.zero_le _,h0,Keep.refl _ _,Sub.refl _ _,ii,ii,evc (congrArg (Value.int .i64) (by omega))⟩
 case round=>
  intro m τ1 ds1 w1 hI
  obtain ⟨rfl,j,Fc,rfl,hj,hI,hkF,hsF,e0,e1,e3⟩:=hI
  haveI kbx1:Blk w1 bx (.cells #[.slice A n c] 55 (0,0)):=⟨(hkF.block bx (Array.getElem?_eq_some_iff.1 kbx.eq).1 (fun e=>hF _ e (.inl rfl))).trans kbx.eq⟩
  have hr1:=hr.keep hkF (fun j hj e=>hF _ e (.inr hj))
  haveI:Row w1 A (strs ks):=⟨hr1.row⟩
  have hBw:w.heap.size<=(w1).heap.size:=hkF.size
  refine x_seq (xq (xm (xl_v v_geq (xl_nil ?_))))
  refine x_if (fun c1=>?_) (fun c1=>?_)
  ·have hj1:j<ks.length:=by omega
   have hjt:j<(tlB ks).length:=by rw [tlB_len];exact hj1
   have hq:ks.length - 1 - j<ks.length:=by omega
   refine x_skip (x_seq (x_block (xq (xm (xm (xl_Lc ?_))))))
   refine xm ?_
   refine xl_v (v_indexO (ks.length - 1 - j) (by omega) (by omega) (by simpa [strs] using hq)) ?_
   refine xl_v (v_congr (u:=.string ks[ks.length - 1 - j]) (v_loadO (k:=ks.length - 1 - j) (by simpa [strs] using hq)) (by simp [strs])) ?_
   have hal:AlG (tlB ks) ((tlB ks).take j++[(tlB ks)[j]]):=alG_step hjt
   have htl:(tlB ks)[j]=[Value.int .i64 ((n:Int) - 1 - (j:Int)),.string ks[ks.length - 1 - j]]:=by
    rw [tlB_get hj1 hjt]
    congr 2
    omega
   rw [htl] at hal
   refine xl_callv (hy.step _ _ Fc w1 hal hI) ?_
   rintro _ w2 ⟨bo,F2,rfl,hI3,hk3,hs3⟩
   have hkw:Keep F w w2:=hkF.then hk3 (fun j hj e=>(hsF j e).elim id (fun h=>by omega))
   have hsw:Sub F2 F w:=hs3.trans hsF hBw
   refine xl_v v_not (xl_nil ?_)
   refine x_condE (fun c2=>?_) (fun c2=>?_)
   ·refine x_ret ?_
    refine fin0r rfl ?_
    rw [if_neg (by simpa using c2)] at hI3
    exact ⟨_,F2,.inr hI3,hkw,hsw⟩
   refine x_skip (x_regionL (xm ?_))
   refine xl_v (v_sub (by omega)) ?_
   refine xz ?_
   rw [if_pos (by simpa using c2)] at hI3
   refine ⟨_,?_,rfl,j+1,F2,rfl,by omega,?_,hkw,hsw,ii,ii,evc (congrArg (Value.int .i64) (by omega))⟩
   ·omega
   ·rw [take_snoc (tlB ks) j hjt,htl];exact hI3
  refine x_exit ?_
  refine fin0 rfl ?_
  have hjn:j=n:=by omega
  refine ⟨_,Fc,.inl ⟨?_,hI⟩,hkF,hsF⟩
  rw [FinG,List.take_of_length_le (by rw [tlB_len];omega)]
theorem falling_ok (lb:Nat) (w:World):Ret Tryz.prog 33 #[ptrV lb] w (fun v w'=>(∃ bl,v=fallV bl/\w'.heap[bl]?=some (.cells #[ptrV lb] 32 (0,0))/\w.heap.size<=bl)/\Lk w' w NoB):=by
 refine ret_of_x (N:=4) (l:=[ptrV lb]) Tryz.func33 rfl rfl (Nat.le_of_ble_eq_true rfl) ?_
 refine xq ?_
 refine xl_e (e_box fun bl w1 n2 l2 k2=>?_)
 refine xz ?_
 refine xq (xl_v v_makeFunc (xz ?_))
 refine x_ret ?_
 refine fin1 rfl ?_
 exact ⟨⟨bl,rfl,Blk.eq,by rw [n2.eq];exact Nat.le_refl _⟩,lkc⟩
theorem yieldsI_of {P:Program} {y:Value} {Al:Seen->Prop} {I J:Seen->(Nat->Prop)->World->Prop} {w0:World} {n:Nat} (hy:YieldsE P y Al NoE I J w0 n):YieldsI P y Al I J w0:=
 ⟨hy.i,hy.j,fun pre v F W hal hI=>(hy.step pre v F NoB W hal hI (fun k h=>h) (fun k h=>h.elim) (fun k h=>h.elim)).mono (by
  rintro r W' ⟨b,F',h1,h2,h3,h4⟩
  exact ⟨b,F',h1,h2,h3.mono (fun k _ e=>e.elim id (fun e=>e.elim)),fun k e=>(h4 k e).imp (fun e=>e.elim id (fun e=>e.elim)) id⟩)⟩
theorem two_of {l:List Value} (h:l.length=2):∃ a b,l=[a,b]:=by
 match l,h with
 | [a,b],_=>exact ⟨a,b,rfl⟩
def FallI (ks:List ByteArray) (name:ByteArray) (I:Seen->(Nat->Prop)->World->Prop) (F:Nat->Prop) (wS:World):Seen->(Nat->Prop)->World->Prop:=fun pre F2 W=>
 ∃ j,pre=(tlB ks).take j/\j<=ks.length/\I (partO ks name j) F2 W/\Keep F wS W/\Sub F2 F wS
def FallJ (J:Seen->(Nat->Prop)->World->Prop) (F:Nat->Prop) (wS:World):Exit->Seen->(Nat->Prop)->World->Prop:=fun e _ F2 W=>e=.ret/\(∃ pre,J pre F2 W)/\Keep F wS W/\Sub F2 F wS
theorem fallI_stable {ks:List ByteArray} {name:ByteArray} {I:Seen->(Nat->Prop)->World->Prop} {F:Nat->Prop} {w0 wS:World} (h:Stable I w0) (hw:w0.heap.size<=wS.heap.size):Stable (FallI ks name I F wS) wS:=by
 refine ⟨?_,?_⟩
 ·rintro pre F2 W ⟨j,_,_,h1,_⟩ k hk
  exact h.lt _ _ _ h1 k hk
 ·rintro pre F2 W W' S ⟨j,h1,h2,h3,h4,h5⟩ hk hs hn
  exact ⟨j,h1,h2,h.keep _ _ _ _ _ h3 hk hs (fun k e=>Nat.le_trans hw (hn k e)),h4.then hk (fun k hlt e=>by have:=hn k e;omega),h5⟩
theorem fallJ_stable {J:Seen->(Nat->Prop)->World->Prop} {F:Nat->Prop} {w0 wS:World} (h:Stable J w0) (hw:w0.heap.size<=wS.heap.size) (e:Exit):Stable (FallJ J F wS e) wS:=by
 refine ⟨?_,?_⟩
 ·rintro pre F2 W ⟨_,⟨p,h1⟩,_⟩ k hk
  exact h.lt _ _ _ h1 k hk
 ·rintro pre F2 W W' S ⟨he,⟨p,h3⟩,h4,h5⟩ hk hs hn
  exact ⟨he,⟨p,h.keep _ _ _ _ _ h3 hk hs (fun k e=>Nat.le_trans hw (hn k e))⟩,h4.then hk (fun k hlt e=>by have:=hn k e;omega),h5⟩
set_option maxHeartbeats 1000000 in
theorem fall1_ok (y:Value) (bl lb:Nat) (L:LLog) (P R:Nat->Prop) (M:Disk) (I J:Seen->(Nat->Prop)->World->Prop) (Fo:Nat->Prop) (w:World) [kbl:Blk w bl (.cells #[ptrV lb] 32 (0,0))] [klb:Blk w lb (.cells (logC L).toArray 69 (0,0))] (hD:DiskW P R L.d M w) (hs:L.name.size<=100000) (hy1:Cell1 y) (w0:World) (hy:YieldsI Tryz.prog y (AlG (tlO M.files L.name)) I J w0) (hw0:w0.heap.size<=w.heap.size) (h0:I [] Fo w) (hF:∀ k,Fo k->¬ (k=bl\/k=lb)):Ret Tryz.prog 55 #[y,ptrV bl] w (fun _ w'=>∃ pre F',((FinG (tlO M.files L.name) pre/\I pre F' w')\/J pre F' w')/\Keep Fo w w'/\Sub F' Fo w):=by
 haveI:=hy1
 haveI:Cells y [y].toArray:=⟨cells_cell1 hy1.eq⟩
 have hnames:∀ f∈M.files,f.1.size<=24:=fun f hf=>by
  have h1:=hD.ok.1.files.2.2 f hf
  simp only [nameOk,Bool.and_eq_true,decide_eq_true_eq] at h1
  rw [<- size_list]
  exact h1.1.2
 have hflen:M.files.length<=1000000:=Nat.le_trans (fold_len _ _) hD.ok.2
 obtain ⟨ks,hks⟩:∃ ks,ks=M.files.map (·.1):=⟨_,rfl⟩
 have hkl:ks.length=M.files.length:=by rw [hks];simp
 refine ret_of_x (N:=32) (l:=[y,ptrV bl]) Tryz.func55 rfl rfl (Nat.le_of_ble_eq_true rfl) ?_
 refine xq ?_
 refine xl_e (e_box fun b2 w1 nb2 lb2 kb2=>?_)
 refine xl_nil ?_
 refine xq (xl_Lc ?_)
 refine xl_Nc ?_
 refine xl_Fb ?_
 refine xl_Lc ?_
 refine xl_call (names_ok P R L.d M w1 (hD.ext (kpc:Keep NoB w w1))) ?_
 rintro _ w2 ⟨⟨A,c,rfl,ho⟩,lk4⟩
 rw [<- hks] at ho
 have hszo:w.heap.size<=(w1).heap.size:=Ge.le
 refine xl_call (backward_ok A M.files.length c w2) ?_
 rintro _ w3 ⟨⟨bx,rfl,hbx,hgx⟩,lk5⟩
 haveI kbx:Blk w3 bx (.cells #[.slice A M.files.length c] 55 (0,0)):=⟨hbx⟩
 have hszp:w.heap.size<=(w2).heap.size:=Ge.le
 refine xl_nil ?_
 refine x_block ?_
 have hFlt:=hy.i.lt _ _ _ h0
 have hszw:w.heap.size<=(w3).heap.size:=Ge.le
 have hszb:w.heap.size<=b2:=Nat.le_of_eq nb2.eq.symm
 have hr0:=FRow.of_own ho
 have hlt0:=ownB_lt ho
 have hi0:FallI ks L.name I Fo w3 [] Fo w3:=⟨0,rfl,Nat.zero_le _,hy.i.keep _ _ _ _ _ h0 (kpc:Keep NoB w w3) (fun _ _ h=>h) (fun _ h=>h.elim),Keep.refl _ _,Sub.refl _ _⟩
 haveI kb2w:Blk w3 b2 (.cells #[y] 105 (0,0)):=ii
 obtain ⟨wS,hwS⟩:∃ x,x=w3:=⟨_,rfl⟩
 have hblS:wS.heap[bl]?=some (.cells #[ptrV lb] 32 (0,0)):=by rw [hwS];exact Blk.eq
 have hlbS:wS.heap[lb]?=some (.cells (logC L).toArray 69 (0,0)):=by rw [hwS];exact Blk.eq
 have hb2S:wS.heap[b2]?=some (.cells #[y] 105 (0,0)):=by rw [hwS];exact Blk.eq
 have hFb2:¬ Fo b2:=fun e=>by have:=hFlt _ e;omega
 have hkwS:Keep NoB w wS:=by rw [hwS];exact kpc
 rw [<- hwS] at hi0
 refine x_range (ps:=[13,14]) (fun k=>k=bx\/OwnB (.slice A M.files.length c) k) (AlG (tlB ks)) (FinG (tlB ks)) (fun W lW=>fun y I J F w0 hy hw0 h0 hF=>CallV.of_ret (back1_ok y bx (OwnB (.slice A M.files.length c)) A M.files.length c ks I J F W (hr0.keep (kpc:Keep NoB _ W) (fun _ _ h=>h)) hkl (by omega) w0 hy hw0 h0 hF)) (by rintro k (rfl | e);exact Has.lt;exact Nat.lt_of_lt_of_le (hlt0 k e).2 Ge.le) (fun pre v h=>(by obtain ⟨h1,h2,_⟩:=alG_last h;rw [h2,tlB_get (by rw [tlB_len] at h1;exact h1) h1];rfl)) (FallI ks L.name I Fo wS) (FallJ J Fo wS) (Fo) (hwS ▸ fallI_stable hy.i (Nat.le_trans hw0 (by rw [hwS];exact hszw))) (fun e=>hwS ▸ fallJ_stable hy.j (Nat.le_trans hw0 (by rw [hwS];exact hszw)) e) (hwS ▸ hi0) (fun k hk e=>by have h1:=hFlt k hk;rcases e with e | e;omega;have:=(hlt0 k e).1;omega) (fun v τ=>Ev τ 1 (ptrV bl)/\Ev τ 2 (ptrV b2)/\∃ (a b:Value),v=[a,b]/\Ev τ 4 b) ?assign ?body ?normal ?jump
 case assign=>
  intro l4 v4 w4 hv4
  obtain ⟨a,b,rfl⟩:∃ a b,v4=[a,b]:=two_of hv4
  simp only [updL]
  refine x_regionL (xz ?_)
  exact ⟨rfl,ii,ii,_,_,rfl,ii⟩
 case body=>
  intro l pre v F w5 τ5 ds5 hal hI hB
  obtain ⟨j,hpre,hj,hI2,hkF2,hsF2⟩:=hI
  obtain ⟨hpl,hv,_⟩:=alG_last hal
  have hplj:pre.length=j:=by rw [hpre,List.length_take,tlB_len];omega
  have hj1:j<ks.length:=by rw [tlB_len] at hpl;omega
  obtain ⟨e1,e2,va,vb,hve,e4⟩:=hB
  have hv2:v=[Value.int .i64 ((ks.length - 1 - j:Nat):Int),.string (ks[ks.length - 1 - j]'(by omega))]:=by
   rw [hv]
   simp only [hplj]
   exact tlB_get hj1 _
  rw [hv2] at hve
  simp only [List.cons.injEq,and_true] at hve
  obtain ⟨f,hf⟩:∃ f,(ks[ks.length - 1 - j]'(by omega))=f:=⟨_,rfl⟩
  rw [<- hve.2,hf] at e4
  have hfs:f.size<=100000000:=by
   have h1:f∈M.files.map (·.1):=by rw [<- hks,<- hf];exact List.getElem_mem _
   obtain ⟨g,hg,rfl⟩:=List.mem_map.1 h1
   have:=hnames g hg
   omega
  have hps:=partO_succ (name:=L.name) hj1
  rw [hf] at hps
  haveI kbl1:Blk w5 bl (.cells #[ptrV lb] 32 (0,0)):=⟨(hkF2.block bl (Array.getElem?_eq_some_iff.1 hblS).1 (fun e=>hF _ e (.inl rfl))).trans hblS⟩
  haveI klb1:Blk w5 lb (.cells (logC L).toArray 69 (0,0)):=⟨(hkF2.block lb (Array.getElem?_eq_some_iff.1 hlbS).1 (fun e=>hF _ e (.inr rfl))).trans hlbS⟩
  haveI kb21:Blk w5 b2 (.cells #[y] 105 (0,0)):=⟨(hkF2.block b2 (Array.getElem?_eq_some_iff.1 hb2S).1 hFb2).trans hb2S⟩
  refine x_block (xq (xl_Lc ?_))
  refine xl_Nc ?_
  refine xl_Fb ?_
  refine xl_Lb ?_
  refine xm ?_
  refine xl_call (number2_ok L.name f L.per w5 hs hfs) ?_
  rintro _ w6 ⟨rfl,lk5b⟩
  refine xm (xl_v v_extract (xl_v v_extract (xa (xz ?_))))
  refine xq (xm (xm ?_))
  refine xl_split 25 (fun g25=>?_) (fun g25=>?_)
  ·have hown:ownB L.name f=true:=g25
   rw [if_pos hown] at hps
   refine xl_gLc rfl EvO.eq ?_
   refine xl_gv rfl EvO.eq v_move (xl_gv rfl EvO.eq v_move ?_)
   have hal2:AlG (tlO M.files L.name) (partO ks L.name j++[tellO L.name f]):=by rw [<- hps,hks];exact alG_prefix (partO_pre _ _ _)
   have hI2w:=hy.i.keep _ _ _ _ _ hI2 (kpc:Keep NoB w5 w6) (fun _ _ h=>h) (fun _ h=>h.elim)
   have hBw:(w5).heap.size<=(w6).heap.size:=Ge.le
   refine xl_gcallv rfl EvO.eq (hy.step _ _ F w6 hal2 hI2w) ?_
   rintro _ w7 ⟨bo,F3,rfl,hI3,hk3,hs3⟩
   refine xl_gv rfl EvO.eq v_not (xl_Pk ?_)
   refine xl_nil ?_
   refine x_condE (fun c1=>?_) (fun c1=>?_)
   ·refine x_ret ?_
    rw [if_neg (by simpa using c1)] at hI3
    have hk4:Keep F w5 w7:=(kpc:Keep NoB w5 _).mono (fun _ _ h=>h.elim) |>.trans hk3
    have hs4:Sub F3 F w5:=fun k e=>(hs3 k e).imp id (fun h=>Nat.le_trans Ge.le h)
    exact ⟨F3,⟨rfl,⟨_,hI3⟩,hkF2.then hk4 (fun k hk e=>(hsF2 k e).elim id (fun h=>by omega)),hs4.trans hsF2 hkF2.size⟩,hk4,hs4⟩
   rw [if_pos (by simpa using c1)] at hI3
   obtain ⟨F4,hI4,hk4,hs4⟩:∃ F4,I (partO ks L.name (j+1)) F4 w7/\Keep F w5 w7/\Sub F4 F w5:=⟨F3,by rw [hps];exact hI3,(kpc:Keep NoB w5 _).mono (fun _ _ h=>h.elim) |>.trans hk3,fun k e=>(hs3 k e).imp id (fun h=>Nat.le_trans Ge.le h)⟩
   refine x_skip ?_
   exact ⟨F4,⟨j+1,by rw [take_snoc (tlB ks) j (by rw [tlB_len];exact hj1),hpre,hv,];simp [hplj],hj1,hI4,hkF2.then hk4 (fun k hk e=>(hsF2 k e).elim id (fun h=>by omega)),hs4.trans hsF2 hkF2.size⟩,hk4,hs4⟩
  have hown:¬ ownB L.name f=true:=by rw [g25];decide
  rw [if_neg hown,List.append_nil] at hps
  obtain ⟨F4,hI4,hk4,hs4⟩:∃ F4,I (partO ks L.name (j+1)) F4 w6/\Keep F w5 w6/\Sub F4 F w5:=⟨F,by rw [hps];exact hy.i.keep _ _ _ _ _ hI2 (kpc:Keep NoB w5 w6) (fun _ _ h=>h) (fun _ h=>h.elim),(kpc:Keep NoB w5 w6).mono (fun _ _ h=>h.elim),Sub.refl _ _⟩
  refine xl_gs rfl EvO.eq (xl_gs rfl EvO.eq (xl_gs rfl EvO.eq (xl_gs rfl EvO.eq (xl_gs rfl EvO.eq (xl_Pk ?_)))))
  refine xl_nil ?_
  refine x_condF ?_
  refine x_skip ?_
  exact ⟨F4,⟨j+1,by rw [take_snoc (tlB ks) j (by rw [tlB_len];exact hj1),hpre,hv,];simp [hplj],hj1,hI4,hkF2.then hk4 (fun k hk e=>(hsF2 k e).elim id (fun h=>by omega)),hs4.trans hsF2 hkF2.size⟩,hk4,hs4⟩
 case normal=>
  intro D8 pre F w8 hfin hI hkF hsF hD8 hge8 hnF8
  obtain ⟨j,hpre,hj,hI2,hkF2,hsF2⟩:=hI
  have hjn:j=ks.length:=by
   have h1:pre=tlB ks:=hfin
   have h2:=congrArg List.length hpre
   rw [h1,List.length_take,tlB_len] at h2
   omega
  subst hjn
  rw [hks,partO_all] at hI2
  refine finMn (rs:=[]) rfl [D8] rfl (by simpa using hD8.eq) (by simp) (fun w9 lm9=>⟨_,ii,?_⟩)
  have hge:=hge8
  rw [<- hwS] at hge
  have hsz:=hkwS.size
  have hin:∀ k,k∈[D8]->k=D8:=fun k e=>by simpa using e
  refine ⟨_,_,.inl ⟨rfl,hy.i.keep _ _ _ _ _ hI2 lm9.keep (fun k hk e=>hnF8 (hin k e ▸ hk)) (fun k e=>by have:=hin k e;omega)⟩,?_,fun k e=>(hsF2 k e).imp id (fun h=>by omega)⟩
  exact ((hkwS.mono (fun _ _ h=>h.elim)).trans hkF2).then lm9.keep (fun k hk e=>by have:=hin k e;omega)
 case jump=>
  intro D e pre F W hJ hc hkF hsF hD hge hnF
  obtain ⟨rfl,⟨p,hJ⟩,hkF2,hsF2⟩:=hJ
  refine finM (rs:=[]) rfl [D] rfl (by simpa using hD.eq) (by simp) (fun w' lm=>⟨_,ii,?_⟩)
  rw [<- hwS] at hge
  have hsz:=hkwS.size
  have hin:∀ k,k∈[D]->k=D:=fun k e=>by simpa using e
  refine ⟨p,F,.inr (hy.j.keep _ _ _ _ _ hJ lm.keep (fun k hk e=>hnF (hin k e ▸ hk)) (fun k e=>by have:=hin k e;omega)),?_,fun k e=>(hsF2 k e).imp id (fun h=>by omega)⟩
  exact ((hkwS.mono (fun _ _ h=>h.elim)).trans hkF2).then lm.keep (fun k hk e=>by have:=hin k e;omega)
end Go.Proofs.YtigmfcgeljjgnaaGreat
