/- A part of the walks through the log and its document, and of the law in plain Lean: GZ HA Sj. -/
import Derived.Test.YtigmfcgeljjgnaaGreatDoorJ22
import Derived.Lib.ItoaMem
import Derived.Lib.AppendIntMem
set_option linter.all false
set_option maxRecDepth 100000
set_option synthInstance.maxSize 100000
set_option synthInstance.maxHeartbeats 400000
namespace Go.Proofs.YtigmfcgeljjgnaaGreatDoor
open Go.Wst
open Go.Wst.Dm Go.Wst.Sg
theorem byteL_f (c:UInt8):byteL c=false↔(c.toNat<97\/122<c.toNat)/\(c.toNat<48\/57<c.toNat):=by
 rw [<- Bool.not_eq_true]
 simp [byteL]
 omega
theorem byteD_f (c:UInt8):byteD c=false↔c.toNat<48\/57<c.toNat:=by
 rw [<- Bool.not_eq_true]
 simp [byteD]
 omega
theorem logName_f {s:ByteArray}:logName s=false↔((1<=s.size/\s.size<=8)->s.toList.all byteL=false):=by
 unfold logName
 constructor
 ·intro h ⟨h1,h2⟩
  simpa [h1,h2] using h
 ·intro h
  by_cases h1:1<=s.size/\s.size<=8
  ·rw [h h1];simp
  ·rcases Decidable.not_and_iff_or_not.1 h1 with h2 | h2<;>simp [h2]
theorem logName_t {s:ByteArray} (h1:1<=s.size) (h2:s.size<=8) (h:s.toList.all byteL=true):logName s=true:=by
 unfold logName
 simp only [h1,h2,h,decide_true,Bool.and_self]
theorem refName_ok (s:ByteArray) (w:World) (hs:s.size<=1000000000):Ret Tryz.prog 52 #[.string s] w (fun v w'=>v=.bool (logName s)/\w=w'):=by
 refine ret_of_x (N:=40) (l:=[.string s]) Tryz.func52 rfl rfl (Nat.le_of_ble_eq_true rfl) ?_
 refine xq (xz ?_)
 refine x_seq (xq (xm (xl_v v_lens (xl_v v_lss (xm ?_)))))
 refine xl_split 7 (fun g7=>?_) (fun g7=>?_)
 ·refine xl_gs rfl EvO.eq (xl_gs rfl EvO.eq (xl_gs rfl EvO.eq (xl_Pk ?_)))
  refine xl_nil ?_
  refine x_condT ?_
  refine xq (xz ?_)
  refine x_ret ?_
  refine fin1 rfl ?_
  refine ⟨congrArg Value.bool (Eq.symm ?_),rfl⟩
  rw [logName_f]
  rintro ⟨h1,h2⟩
  first
   | omega
   | (have g0:=of_decide_eq_true g7;omega)
 refine xl_gv rfl EvO.eq v_move (xl_gv rfl EvO.eq v_lens (xl_gv rfl EvO.eq v_gtr (xl_Pk ?_)))
 refine xl_nil ?_
 refine x_if (fun c1=>?_) (fun c1=>?_)
 ·refine xq (xz ?_)
  refine x_ret ?_
  refine fin1 rfl ?_
  refine ⟨congrArg Value.bool (Eq.symm ?_),rfl⟩
  rw [logName_f]
  rintro ⟨h1,h2⟩
  omega
 have hsz:1<=s.size/\s.size<=8:=by
  have g0:=of_decide_eq_false g7
  omega
 refine x_skip (x_seq (xq (xz ?_)))
 refine x_block ?_
 refine x_loop (fun m τ ds w'=>ds=[]/\w=w'/\∃ k:Nat,m=s.size - k/\k<=s.size/\(∀ j (h:j<s.size),j<k->byteL (s[j]'h)=true)/\Ev τ 0 (.string s)/\Ev τ 3 (.int .i64 (k:Int))) (s.size) ?start ?round
 case start=>
  exact ⟨rfl,rfl,0,rfl,by omega,fun j _ h=>by omega,ii,evc⟩
 case round=>
  intro m τ1 ds1 w1 hI
  obtain ⟨rfl,hww,k,rfl,hk,hall,e0,e3⟩:=hI
  refine x_seq (xq (xm (xm (xl_v v_lens (xl_v v_lss (xl_nil ?_))))))
  refine x_if (fun c2=>?_) (fun c2=>?_)
  ·have hk1:k<s.size:=by omega
   refine x_skip (x_seq (x_block (xq (xm (xm ?_)))))
   refine xl_v (v_indexS k rfl hk1) ?_
   refine xl_v v_lss (xm ?_)
   refine xl_split 22 (fun g22=>?_) (fun g22=>?_)
   ·refine xl_gs rfl EvO.eq (xl_gs rfl EvO.eq (xl_gs rfl EvO.eq (xl_gs rfl EvO.eq (xl_Pk ?_))))
    refine xm (xl_gv rfl EvO.eq v_move (xl_gv rfl EvO.eq v_move ?_))
    refine xl_gv rfl EvO.eq (v_indexS k rfl hk1) ?_
    refine xl_gv rfl EvO.eq v_lss (xl_gv rfl EvO.eq v_move ?_)
    refine xl_split 33 (fun g33=>?_) (fun g33=>?_)
    ·refine xl_gs rfl EvO.eq (xl_gs rfl EvO.eq (xl_gs rfl EvO.eq (xl_gs rfl EvO.eq ?_)))
     refine xl_gPk rfl EvO.eq ?_
     refine xl_Pk ?_
     refine xl_nil ?_
     refine x_condT ?_
     refine xq (xz ?_)
     refine x_ret ?_
     refine fin1 rfl ?_
     refine ⟨congrArg Value.bool (Eq.symm ?_),hww⟩
     rw [logName_f]
     intro _
     rw [List.all_eq_false]
     refine ⟨s[k]'hk1,List.mem_of_getElem? (toList_get s k hk1),?_⟩
     rw [Bool.not_eq_true,byteL_f]
     (simp at *;omega)
    refine xl_gv rfl EvO.eq v_move (xl_gv rfl EvO.eq v_move ?_)
    refine xl_gv rfl EvO.eq (v_indexS k rfl hk1) ?_
    refine xl_gv rfl EvO.eq v_gtr ?_
    refine xl_gPk rfl EvO.eq ?_
    refine xl_Pk ?_
    refine xl_nil ?_
    refine x_if (fun c3=>?_) (fun c3=>?_)
    ·refine xq (xz ?_)
     refine x_ret ?_
     refine fin1 rfl ?_
     refine ⟨congrArg Value.bool (Eq.symm ?_),hww⟩
     rw [logName_f]
     intro _
     rw [List.all_eq_false]
     refine ⟨s[k]'hk1,List.mem_of_getElem? (toList_get s k hk1),?_⟩
     rw [Bool.not_eq_true,byteL_f]
     (simp at *;omega)
    refine x_skip (x_regionL (xm ?_))
    refine xl_v (v_add (by omega)) ?_
    refine xz ?_
    refine ⟨_,?_,rfl,hww,k+1,rfl,by omega,?_,ii,evc⟩
    ·omega
    ·intro j hj hj2
     by_cases e:j=k
     ·subst e
      rw [<- Bool.not_eq_false,byteL_f]
      rintro ⟨q1,q2⟩
      first
       | (simp at g22;omega)
       | (simp at c3;omega)
       | (simp at g28 g22 c3;omega)
       | (simp at *;omega)
     ·exact hall j hj (by omega)
   refine xl_gv rfl EvO.eq v_move (xl_gv rfl EvO.eq v_move ?_)
   refine xl_gv rfl EvO.eq (v_indexS k rfl hk1) ?_
   refine xl_gv rfl EvO.eq v_gtr (xl_Pk ?_)
   refine xm ?_
   refine xl_split 28 (fun g28=>?_) (fun g28=>?_)
   ·refine xl_gv rfl EvO.eq v_move (xl_gv rfl EvO.eq v_move ?_)
    refine xl_gv rfl EvO.eq (v_indexS k rfl hk1) ?_
    refine xl_gv rfl EvO.eq v_lss (xl_gv rfl EvO.eq v_move ?_)
    refine xl_split 33 (fun g33=>?_) (fun g33=>?_)
    ·refine xl_gs rfl EvO.eq (xl_gs rfl EvO.eq (xl_gs rfl EvO.eq (xl_gs rfl EvO.eq ?_)))
     refine xl_gPk rfl EvO.eq ?_
     refine xl_Pk ?_
     refine xl_nil ?_
     refine x_condT ?_
     refine xq (xz ?_)
     refine x_ret ?_
     refine fin1 rfl ?_
     refine ⟨congrArg Value.bool (Eq.symm ?_),hww⟩
     rw [logName_f]
     intro _
     rw [List.all_eq_false]
     refine ⟨s[k]'hk1,List.mem_of_getElem? (toList_get s k hk1),?_⟩
     rw [Bool.not_eq_true,byteL_f]
     (simp at *;omega)
    refine xl_gv rfl EvO.eq v_move (xl_gv rfl EvO.eq v_move ?_)
    refine xl_gv rfl EvO.eq (v_indexS k rfl hk1) ?_
    refine xl_gv rfl EvO.eq v_gtr ?_
    refine xl_gPk rfl EvO.eq ?_
    refine xl_Pk ?_
    refine xl_nil ?_
    refine x_if (fun c3=>?_) (fun c3=>?_)
    ·refine xq (xz ?_)
     refine x_ret ?_
     refine fin1 rfl ?_
     refine ⟨congrArg Value.bool (Eq.symm ?_),hww⟩
     rw [logName_f]
     intro _
     rw [List.all_eq_false]
     refine ⟨s[k]'hk1,List.mem_of_getElem? (toList_get s k hk1),?_⟩
     rw [Bool.not_eq_true,byteL_f]
     (simp at *;omega)
    refine x_skip (x_regionL (xm ?_))
    refine xl_v (v_add (by omega)) ?_
    refine xz ?_
    refine ⟨_,?_,rfl,hww,k+1,rfl,by omega,?_,ii,evc⟩
    ·omega
    ·intro j hj hj2
     by_cases e:j=k
     ·subst e
      rw [<- Bool.not_eq_false,byteL_f]
      rintro ⟨q1,q2⟩
      (simp at g22;omega)
     ·exact hall j hj (by omega)
   refine xl_gs rfl EvO.eq (xl_gs rfl EvO.eq (xl_gs rfl EvO.eq (xl_gs rfl EvO.eq (xl_gs rfl EvO.eq ?_))))
   refine xl_gu rfl EvO.eq ?_
   refine xl_gu rfl EvO.eq ?_
   refine xl_gu rfl EvO.eq ?_
   refine xl_gu rfl EvO.eq ?_
   refine xl_gs rfl EvO.eq (xl_Pk ?_)
   refine xl_nil ?_
   refine x_condF ?_
   refine x_skip (x_regionL (xm ?_))
   refine xl_v (v_add (by omega)) ?_
   refine xz ?_
   refine ⟨_,?_,rfl,hww,k+1,rfl,by omega,?_,ii,evc⟩
   ·omega
   ·intro j hj hj2
    by_cases e:j=k
    ·subst e
     rw [<- Bool.not_eq_false,byteL_f]
     rintro ⟨q1,q2⟩
     first
      | (simp at g22;omega)
      | (simp at c3;omega)
      | (simp at g28 g22 c3;omega)
      | (simp at *;omega)
    ·exact hall j hj (by omega)
  refine x_exit (xq (xz ?_))
  refine x_ret ?_
  refine fin1 rfl ?_
  refine ⟨congrArg Value.bool (Eq.symm ?_),hww⟩
  refine logName_t hsz.1 hsz.2 ?_
  rw [List.all_eq_true]
  intro c hc
  obtain ⟨j,hj,rfl⟩:=List.getElem_of_mem hc
  have hj2:j<s.size:=by rw [size_list] at hj;exact hj
  have h2:=toList_get s j hj2
  rw [List.getElem?_eq_getElem hj] at h2
  rw [Option.some.inj h2]
  exact hall j hj2 (by omega)
theorem digs_zero:∀ k,digs k 0=List.replicate k 48
 | 0=>rfl
 | k+1=>by
   rw [digs,Nat.zero_div,digs_zero k,List.replicate_succ']
   rfl
theorem digs_dec:∀ (k n:Nat),n<10 ^ (k+1)->(Lib.decDigits n).length<=k+1/\digs (k+1) n=List.replicate (k+1 - (Lib.decDigits n).length) 48++Lib.decDigits n
 | 0,n,h=>by
   have h1:n<10:=by simpa using h
   rw [Lib.decDigits,dif_pos h1]
   refine ⟨by simp,?_⟩
   simp [digs,digB,Nat.mod_eq_of_lt h1]
 | k+1,n,h=>by
   by_cases h1:n<10
   ·rw [Lib.decDigits,dif_pos h1,digs,Nat.div_eq_of_lt h1,digs_zero]
    refine ⟨by simp,?_⟩
    simp [digB,Nat.mod_eq_of_lt h1]
   ·have h2:=digs_dec k (n / 10) (by rw [Nat.pow_succ] at h;omega)
    rw [Lib.decDigits,dif_neg h1,digs,h2.2]
    refine ⟨by simp;omega,?_⟩
    rw [List.append_assoc]
    congr 1
    simp
def tabA:Array Value:=(Lib.pow10Tab.map fun z=>Value.int .u64 z).toArray
theorem gT_eq:Tryz.prog.globalNamed "internal/strconv.uint64pow10"=some 0:=by kernel_rfl
theorem tab_is {w:World} {tt:TypeId} {tr:Nat×Nat} (h:w.heap[0]?=some (.cells tabA tt tr)):Lib.TabIs Tryz.prog w "internal/strconv.uint64pow10" .u64 Lib.pow10Tab:=by
 unfold Lib.TabIs World.var?
 rw [gT_eq]
 simp only [Option.bind_some,h]
 rfl
theorem tab_of {w:World} (h:Lib.TabIs Tryz.prog w "internal/strconv.uint64pow10" .u64 Lib.pow10Tab):∃ (tt:TypeId) (tr:Nat×Nat),w.heap[0]?=some (.cells tabA tt tr):=by
 unfold Lib.TabIs World.var? at h
 rw [gT_eq] at h
 simp only [Option.bind_some] at h
 split at h
 ·next cs tt tr he=>exact ⟨tt,tr,by rw [he];injection h with h;rw [h];rfl⟩
 ·cases h
theorem itoa_ok (n:Nat) (w:World) {tt:TypeId} {tr:Nat×Nat} (hn:n<=1000000000) [hb:Blk w 0 (.cells tabA tt tr)] :
    Ret Tryz.prog 98 #[.int .i64 (n:Int)] w (fun v w'=>v=.string (strOf (Lib.decDigits n))/\Lk w' w NoB):=by
 refine Calls.mono (Tryz.strconv_Itoa (n:Int) (by omega) (by omega) w (tab_is hb.eq)) ?_
 rintro e w' ⟨rfl,k,os,rfl⟩
 refine ⟨_,rfl,by rw [Lib.itoa_nonneg];rfl,⟨?_⟩⟩
 exact Ext.of_below (Lib.below_grow _ _ (Nat.le_refl _) _ _)
theorem refFile_ok (name:ByteArray) (n:Nat) (w:World) (tt:TypeId) (tr:Nat×Nat) [htab:Blk w 0 (.cells tabA tt tr)] (hn:n<1000000) (hs:name.size<=1000000000):Ret Tryz.prog 54 #[.string name,.int .i64 (n:Int)] w (fun v w'=>v=.string (fileN name n)/\Lk w' w NoB):=by
 obtain ⟨hdl,hdd⟩:=digs_dec 5 n (by omega)
 obtain ⟨dl,hdl2⟩:∃ dl,dl=Lib.decDigits n:=⟨_,rfl⟩
 refine ret_of_x (N:=17) (l:=[.string name,.int .i64 (n:Int)]) Tryz.func54 rfl rfl (Nat.le_of_ble_eq_true rfl) ?_
 refine xq (xz ?_)
 refine xq (xm ?_)
 refine xl_call (itoa_ok n w (by omega)) ?_
 rintro _ w1 ⟨rfl,lk1⟩
 refine xz ?_
 refine x_seq (x_block ?_)
 rw [<- hdl2] at hdl hdd
 refine x_loop (fun t τ ds w'=>ds=[]/\∃ i:Nat,t=6 - dl.length - i/\i+dl.length<=6/\Ev τ 0 (.string name)/\Ev τ 5 (.string (strOf (List.replicate i 48++dl)))/\Lk w' w NoB) (6 - dl.length) ?start ?round
 case start=>
  exact ⟨rfl,0,rfl,by omega,ii,evc (congrArg (fun l=>Value.string (strOf l)) (by rw [hdl2];rfl)),lkc⟩
 case round=>
  intro m τ2 ds2 w2 hI
  obtain ⟨rfl,i,rfl,hi,e0,e5,lk⟩:=hI
  have hsz:(strOf (List.replicate i 48++dl)).size=i+dl.length:=by rw [strOf_size];simp
  refine x_seq (xq (xm (xl_v v_lens (xl_v v_lss (xl_nil ?_)))))
  refine x_if (fun c1=>?_) (fun c1=>?_)
  ·refine x_skip (x_block (x_regionL (xm ?_)))
   refine xl_v (v_sadd (by rw [hsz];show 1+_<=_;omega)) ?_
   refine xz ?_
   refine ⟨_,?_,rfl,i+1,rfl,by omega,ii,evc (congrArg Value.string (toList_inj ?_)),lkc⟩
   ·omega
   ·rw [app_list,strOf_list,strOf_list]
    rw [show ((⟨#[48]⟩:ByteArray)).toList=[48] from strOf_list [48],List.replicate_succ]
    rfl
  refine x_exit (xq (xm ?_))
  refine xl_v (v_sadd (by show name.size+1<=_;omega)) ?_
  refine xm ?_
  refine xl_v (v_sadd (by rw [ByteArray.size_append,hsz];show name.size+1+_<=_;omega)) ?_
  refine xz ?_
  refine x_ret ?_
  refine fin1 rfl ?_
  refine ⟨congrArg Value.string (toList_inj ?_),lkc⟩
  have hi6:i=6 - dl.length:=by omega
  unfold fileN
  rw [app_list,app_list,strOf_list,strOf_list,hdd,hi6]
  rw [show ((⟨#[46]⟩:ByteArray)).toList=[46] from strOf_list [46]]
  simp
def ownI (name f:ByteArray):Int:=match ownN name f with
 | some n=>(n:Int)
 | none=>-1
theorem ownI_none {name f:ByteArray} (h:ownN name f=none):ownI name f=-1:=by unfold ownI;rw [h]
theorem ownI_some {name f:ByteArray} {n:Nat} (h:ownN name f=some n):ownI name f=(n:Int):=by unfold ownI;rw [h]
theorem refown_ok (name file:ByteArray) (w:World) (hs:name.size<=100000) (hf:file.size<=100000000):Ret Tryz.prog 55 #[.string name,.string file] w (fun v w'=>v=.int .i64 (ownI name file)/\w=w'):=by
 have hp:((name++(⟨#[46]⟩:ByteArray)).toList)=name.toList++[46]:=by rw [app_list];exact congrArg (name.toList++·) (strOf_list [46])
 obtain ⟨rest,hrest⟩:∃ rest,rest=file.toList.drop (name.toList.length+1):=⟨_,rfl⟩
 refine ret_of_x (N:=51) (l:=[.string name,.string file]) Tryz.func55 rfl rfl (Nat.le_of_ble_eq_true rfl) ?_
 refine xq (xz ?_)
 refine x_seq (xq (xm (xl_v v_lens (xm (xl_v v_lens ?_)))))
 refine xl_v (v_add (by omega)) ?_
 refine xl_v v_neq (xm ?_)
 refine xl_split 13 (fun g13=>?_) (fun g13=>?_)
 ·have glen:¬ file.size=name.size+7:=by simp at g13;omega
  refine xl_gs rfl EvO.eq (xl_gs rfl EvO.eq (xl_gs rfl EvO.eq (xl_gs rfl EvO.eq (xl_gs rfl EvO.eq (xl_gs rfl EvO.eq (xl_gs rfl EvO.eq (xl_gs rfl EvO.eq (xl_Pk ?_))))))))
  refine xl_nil ?_
  refine x_condT ?_
  refine xq (xz ?_)
  refine x_ret ?_
  refine fin1 rfl ?_
  refine ⟨congrArg (Value.int .i64) (Eq.symm ?_),rfl⟩
  refine ownI_none ?_
  unfold ownN ownL
  rw [if_neg]
  rintro ⟨h1,h2,h3⟩
  rw [size_list,size_list] at h2
  omega
 have glen:file.size=name.size+7:=by simp at g13;omega
 refine xl_gv rfl EvO.eq v_move (xl_gv rfl EvO.eq v_move (xl_gv rfl EvO.eq v_lens ?_))
 refine xl_gv rfl EvO.eq (v_add (by omega)) ?_
 refine xl_gv rfl EvO.eq (v_ssliceH (name.size+1) rfl (by omega)) ?_
 refine xl_gv rfl EvO.eq v_move ?_
 refine xl_gv rfl EvO.eq (v_sadd (by show name.size+1<=_;omega)) ?_
 refine xl_gv rfl EvO.eq v_sneq (xl_Pk ?_)
 refine xl_nil ?_
 refine x_condE (fun c1=>?_) (fun c1=>?_)
 ·refine xq (xz ?_)
  refine x_ret ?_
  refine fin1 rfl ?_
  refine ⟨congrArg (Value.int .i64) (Eq.symm ?_),rfl⟩
  refine ownI_none ?_
  unfold ownN ownL
  rw [if_neg]
  rintro ⟨h1,h2,h3⟩
  rw [size_list,size_list] at h2
  first
   | omega
   | (simp at c1
      apply c1
      refine toList_inj ?_
      rw [ext_list,hp,<- h1,size_list]
      simp)
 refine x_skip (x_seq ?_)
 have hpre:file.toList.take (name.toList.length+1)=name.toList++[46]:=by
  have h1:file.extract 0 (name.size+1)=name++(⟨#[46]⟩:ByteArray):=by simpa using c1
  have h2:=congrArg ByteArray.toList h1
  rw [ext_list,hp] at h2
  rw [size_list]
  simpa using h2
 have hl6:rest.length=6:=by rw [hrest,List.length_drop,size_list,size_list];omega
 have hat:∀ k (h:k<6) (h2:name.size+1+k<file.size),file[name.size+1+k]'h2=rest[k]'(by omega):=by
  intro k h h2
  have h3:=toList_get file _ h2
  have h4:rest[k]?=some (file[name.size+1+k]'h2):=by rw [hrest,List.getElem?_drop,size_list];exact h3
  rw [List.getElem?_eq_getElem (by omega)] at h4
  exact (Option.some.inj h4).symm
 refine x_regionL (xz ?_)
 refine x_seq (xq (xm (xl_v v_lens ?_)))
 refine xl_v (v_add (by omega)) ?_
 refine xz ?_
 refine x_block ?_
 refine x_loop (fun m τ ds w'=>ds=[]/\w=w'/\∃ k:Nat,m=6 - k/\k<=6/\(∀ j (h:j<rest.length),j<k->byteD (rest[j]'h)=true)/\Ev τ 0 (.string name)/\Ev τ 1 (.string file)/\Ev τ 5 (.int .i64 (valD (rest.take k):Int))/\Ev τ 6 (.int .i64 ((name.size+1+k:Nat):Int))) (6) ?start ?round
 case start=>
  exact ⟨rfl,rfl,0,rfl,by omega,fun j _ h=>by omega,ii,ii,ii,evc⟩
 case round=>
  intro m τ1 ds1 w1 hI
  obtain ⟨rfl,hww,k,rfl,hk,hall,e0,e1,e5,e6⟩:=hI
  refine x_seq (xq (xm (xm (xl_v v_lens (xl_v v_lss (xl_nil ?_))))))
  refine x_if (fun c2=>?_) (fun c2=>?_)
  ·have hk1:k<6:=by omega
   have hk2:name.size+1+k<file.size:=by omega
   have hk3:k<rest.length:=by omega
   refine x_skip (x_seq (x_block (x_seq (xq (xm (xm ?_))))))
   refine xl_v (v_congr (u:=.int .u8 ((rest[k].toNat:Nat):Int)) (v_indexS (name.size+1+k) rfl hk2) (congrArg (fun c:UInt8=>Value.int .u8 (c.toNat:Int)) (hat k hk1 hk2))) ?_
   refine xl_v v_lss (xm ?_)
   refine xl_split 36 (fun g36=>?_) (fun g36=>?_)
   ·refine xl_gs rfl EvO.eq (xl_gs rfl EvO.eq (xl_gs rfl EvO.eq (xl_gs rfl EvO.eq (xl_Pk ?_))))
    refine xl_nil ?_
    refine x_condT ?_
    refine xq (xz ?_)
    refine x_ret ?_
    refine fin1 rfl ?_
    refine ⟨congrArg (Value.int .i64) (Eq.symm ?_),hww⟩
    refine ownI_none ?_
    unfold ownN ownL
    rw [<- hrest,if_neg]
    rintro ⟨_,_,h3⟩
    have h4:byteD rest[k]=true:=List.all_eq_true.1 h3 _ (List.getElem_mem hk3)
    have h5:byteD rest[k]=false:=by
     rw [byteD_f]
     (simp at *;omega)
    rw [h4] at h5
    cases h5
   refine xl_gv rfl EvO.eq v_move (xl_gv rfl EvO.eq v_move ?_)
   refine xl_gv rfl EvO.eq (v_congr (u:=.int .u8 ((rest[k].toNat:Nat):Int)) (v_indexS (name.size+1+k) rfl hk2) (congrArg (fun c:UInt8=>Value.int .u8 (c.toNat:Int)) (hat k hk1 hk2))) ?_
   refine xl_gv rfl EvO.eq v_gtr (xl_Pk ?_)
   refine xl_nil ?_
   refine x_if (fun c3=>?_) (fun c3=>?_)
   ·refine xq (xz ?_)
    refine x_ret ?_
    refine fin1 rfl ?_
    refine ⟨congrArg (Value.int .i64) (Eq.symm ?_),hww⟩
    refine ownI_none ?_
    unfold ownN ownL
    rw [<- hrest,if_neg]
    rintro ⟨_,_,h3⟩
    have h4:byteD rest[k]=true:=List.all_eq_true.1 h3 _ (List.getElem_mem hk3)
    have h5:byteD rest[k]=false:=by
     rw [byteD_f]
     (simp at *;omega)
    rw [h4] at h5
    cases h5
   refine x_skip ?_
   have hbk:byteD rest[k]=true:=by
    rw [<- Bool.not_eq_false,byteD_f]
    intro q1
    (simp at g36;omega)
   have hbk2:48<=rest[k].toNat/\rest[k].toNat<=57:=by simpa [byteD] using hbk
   have hv9:=(digs_valD k (rest.take k) (by rw [List.length_take];omega) (by
    rw [List.all_eq_true]
    intro x hx
    obtain ⟨j,hj,rfl⟩:=List.getElem_of_mem hx
    rw [List.length_take] at hj
    rw [List.getElem_take]
    exact hall j (by omega) (by omega))).2
   have hv8:valD (rest.take k)<1000000:=Nat.lt_of_lt_of_le hv9 (Nat.le_trans (Nat.pow_le_pow_right (by omega) hk) (by decide))
   have hv2:(10*((valD (rest.take k):Nat):Int)+((rest[k].toNat - 48:Nat):Int))=((valD (rest.take (k+1)):Nat):Int):=by
    rw [List.take_succ_eq_append_getElem hk3,valD_snoc];omega
   refine x_regionL (xm ?_)
   refine xl_v (v_mul (by omega)) ?_
   refine xm (xm ?_)
   refine xl_v (v_congr (u:=.int .u8 ((rest[k].toNat:Nat):Int)) (v_indexS (name.size+1+k) rfl hk2) (congrArg (fun c:UInt8=>Value.int .u8 (c.toNat:Int)) (hat k hk1 hk2))) ?_
   refine xl_v (v_congr (u:=.int .u8 ((rest[k].toNat - 48:Nat):Int)) v_subw (congrArg (Value.int .u8) (by rw [show (rest[k].toNat:Int) - 48=((rest[k].toNat - 48:Nat):Int) by omega,u8wrap];congr 1;omega))) ?_
   refine xl_v (v_congr (u:=.int .i64 ((rest[k].toNat - 48:Nat):Int)) v_convert (congrArg (Value.int .i64) (wrap_in (by omega) (by omega)))) ?_
   refine xl_v (v_add (by omega)) ?_
   refine xz ?_
   refine x_regionL (xm ?_)
   refine xl_v (v_add (by omega)) ?_
   refine xz ?_
   refine ⟨_,?_,rfl,hww,k+1,rfl,by omega,?_,ii,ii,evc (congrArg (Value.int .i64) hv2),evc (congrArg (Value.int .i64) (by omega))⟩
   ·omega
   ·intro j hj hj2
    by_cases e:j=k
    ·subst e;exact hbk
    ·exact hall j hj (by omega)
  refine x_exit (xq (xm (xz ?_)))
  refine x_ret ?_
  refine fin1 rfl ?_
  have hk6:k=6:=by omega
  subst hk6
  rw [List.take_of_length_le (by omega)]
  refine ⟨congrArg (Value.int .i64) (Eq.symm ?_),hww⟩
  refine ownI_some ?_
  unfold ownN ownL
  rw [<- hrest,if_pos ⟨hpre,by rw [size_list,size_list];omega,by
   rw [List.all_eq_true]
   intro x hx
   obtain ⟨j,hj,rfl⟩:=List.getElem_of_mem hx
   exact hall j hj (by omega)⟩]
structure RLog where
 R:LRef
 name:ByteArray
 per:Nat
 sure:Nat
abbrev rlogC (r:RLog):List Value:=[.int .i64 r.R.room,.slice r.R.A r.R.lasts.length r.R.c,.slice r.R.B r.R.waits.length r.R.e,.string r.name,.int .i64 (r.per:Int),.int .i64 (r.sure:Int)]
structure RLogW (W:World) (F:Nat->Prop) (r:RLog) (M:Disk):Prop where
 at_:RefAt W F r.R
 s:RefS r.R M
 name:logName r.name=true
 per1:1<=r.per
 per2:r.per<=256
theorem RLogW.keep {W W':World} {F S:Nat->Prop} {r:RLog} {M:Disk} (h:RLogW W F r M) (hk:Keep S W W') (hs:∀ k,F k->¬ S k):RLogW W' F r M:=⟨h.at_.keep hk hs,h.s,h.name,h.per1,h.per2⟩
theorem RLogW.ext {W W':World} {F:Nat->Prop} {r:RLog} {M:Disk} (h:RLogW W F r M) (hk:Keep NoB W W'):RLogW W' F r M:=h.keep hk (fun _ _ h=>h)
theorem RLogW.size {W:World} {F:Nat->Prop} {r:RLog} {M:Disk} (h:RLogW W F r M):r.name.size<=8:=by
 have:=h.name
 simp only [logName,Bool.and_eq_true,decide_eq_true_eq] at this
 exact this.1.2
theorem nameOk_size {s:ByteArray} (h:nameOk s=true):s.size<=24:=by
 simp only [nameOk,Bool.and_eq_true,decide_eq_true_eq,size_list] at h
 exact h.1.2
theorem ownI_nonneg {name f:ByteArray}:0<=ownI name f↔ownB name f=true:=by
 unfold ownI ownB
 cases ownN name f<;>simp
theorem RefS.flen {R:LRef} {M:Disk} (h:RefS R M):M.files.length<=1000000:=Nat.le_trans (fold_len _ _) h.few
theorem refFiles_ok (F:Nat->Prop) (r:RLog) (M:Disk) (w:World) (h:RLogW w F r M):Ret Tryz.prog 24 #[.agg (rlogC r).toArray] w (fun v w'=>(∃ A' c',v=.slice A' (ownFiles M.files r.name).length c'/\w'.ownsRow w.heap.size 9 1 (.slice A' (ownFiles M.files r.name).length c') (ownFiles M.files r.name).length (strs (ownFiles M.files r.name)))/\Lk w' w NoB):=by
 have hns:=h.size
 refine ret_of_x (N:=33) (l:=[.agg (rlogC r).toArray]) Tryz.func24 rfl rfl (Nat.le_of_ble_eq_true rfl) ?_
 refine xq ?_
 refine xl_e (e_box fun b1 w1 nb1 lb1 kb1=>?_)
 refine xz ?_
 refine xq (xz ?_)
 refine xq (xl_Fb ?_)
 refine xl_Lb ?_
 refine xl_call (reffiles_ok r.R M F w1 (h.at_.ext (kpc:Keep NoB w w1)) h.s) ?_
 rintro _ w2 ⟨⟨A4,c4,l,F4,rfl,hfl,hfs,hF4⟩,lk2⟩
 refine xz ?_
 refine x_seq (xq (xz ?_))
 refine x_block ?_
 have hll:l.length<=1000000:=by rw [<- fsP_len,hfl];exact h.s.flen
 have hnm:∀ k (hk:k<l.length),l[k].1.size<=24:=by
  intro k hk
  have h1:=h.s.ok.files.2.2
  rw [<- hfl] at h1
  exact nameOk_size (h1 _ (List.mem_map.2 ⟨l[k],List.getElem_mem hk,rfl⟩))
 have hof:∀ k,ownFiles (fsP (l.take k)) r.name=((l.take k).map (·.1)).filter (ownB r.name):=fun k=>by unfold ownFiles fsP;rw [List.map_map];rfl
 haveI hrA:RowB w2 A4 w2 (l.flatMap fileC):=rowB_of hfs.row.row
 have hsz9:w.heap.size<=(w2).heap.size:=Ge.le
 have hlen9:∀ k,(ownFiles (fsP (l.take k)) r.name).length<=1000000:=by
  intro k
  rw [hof]
  refine Nat.le_trans (List.length_filter_le _ _) ?_
  simp;omega
 refine x_loop (fun t τ ds w'=>ds=[]/\∃ (k:Nat) (A3:Option Addr) (c3:Nat),t=l.length - k/\k<=l.length/\w'.ownsRow w2.heap.size 9 1 (.slice A3 (ownFiles (fsP (l.take k)) r.name).length c3) (ownFiles (fsP (l.take k)) r.name).length (strs (ownFiles (fsP (l.take k)) r.name))/\Ev τ 1 (ptrV b1)/\Ev τ 3 (.slice A3 (ownFiles (fsP (l.take k)) r.name).length c3)/\Ev τ 4 (.slice A4 l.length c4)/\Ev τ 5 (.int .i64 (k:Int))/\Lk w' w2 NoB) (l.length) ?start ?round
 case start=>
  exact ⟨rfl,0,none,0,rfl,Nat.zero_le _,World.ownsRow_nil _ _ _ _,ii,ii,ii,evc,lkc⟩
 case round=>
  intro m τ3 ds3 w3 hI
  obtain ⟨rfl,k,A3,c3,rfl,hk,hown,e1,e3,e4,e5,lk⟩:=hI
  haveI:=ownN_of hown (Nat.le_refl _)
  refine x_seq (xq (xm (xm (xl_v v_len (xl_v v_lss (xl_nil ?_))))))
  refine x_if (fun c1=>?_) (fun c1=>?_)
  ·have hk1:k<l.length:=by omega
   have hnk:=hnm k hk1
   have hlk:=hlen9 k
   have hsn:ownFiles (fsP (l.take (k+1))) r.name=if ownB r.name l[k].1 then ownFiles (fsP (l.take k)) r.name++[l[k].1] else ownFiles (fsP (l.take k)) r.name:=by
    rw [hof,hof,take_snoc l k hk1,List.map_append,List.filter_append,List.map_cons,List.map_nil,List.filter_cons,List.filter_nil]
    split
    ·rfl
    ·simp
   refine x_skip (x_seq (x_block (x_seq ?_)))
   refine x_drawL (NoB) (allS) (.take 0 (.take 1 (.take 2 (.take 3 (.take 4 (.take 5 (.take 6 (.eff 7 (.take 8 .done))))))))) mixed (by kernel_rfl) (fun _ _ _ _ _ h=>h) (fun w4 l4=>?_)
   refine xt_Fb rfl ?_
   refine xt_Lc rfl ?_
   refine xt_v rfl v_move (xt_v rfl v_move ?_)
   refine xt_v rfl (v_indexF k (by decide) rfl (by omega) hk1) ?_
   refine xt_Fb rfl ?_
   refine xt_v rfl (v_loadF0 hk1) ?_
   refine xt_call rfl (refown_ok r.name l[k].1 w4 (by omega) (by omega)) ?_
   rintro _ _ ⟨rfl,rfl⟩
   refine ⟨kpc,?_⟩
   refine xt_v rfl v_geq ?_
   refine xt_nil ?_
   refine x_if (fun c2=>?_) (fun c2=>?_)
   ·have hob:ownB r.name l[k].1=true:=ownI_nonneg.1 (by simpa using c2)
    rw [if_pos hob] at hsn
    refine x_regionL (xm (xm (xm ?_)))
    refine xl_v (v_indexF k (by decide) rfl (by omega) hk1) ?_
    refine xl_Fb ?_
    refine xl_v (v_loadF0 hk1) ?_
    refine xl_e (e_buildSlice1 rfl fun b30 w6 n30 l30 k30=>?_)
    refine xl_e (e_append' (own_ext hown lkc) Ge.le rfl Cell1L.eq (by decide) (.inl rfl) (by omega) (by omega) fun A6 c6 w7 ho6 l6 hn6=>?_)
    refine xz ?_
    have hown6:World.ownsRow w7 w2.heap.size 9 1 (.slice A6 (ownFiles (fsP (l.take k)) r.name++[l[k].1]).length c6) (ownFiles (fsP (l.take k)) r.name++[l[k].1]).length (strs (ownFiles (fsP (l.take k)) r.name++[l[k].1])):=by
     rw [List.length_append,List.length_singleton]
     simpa [strs] using ho6
    refine x_regionL (xm ?_)
    refine xl_v (v_add (by omega)) ?_
    refine xz ?_
    refine ⟨_,?_,rfl,k+1,A6,c6,rfl,by omega,?_,ii,?_,ii,evc,lkc⟩
    ·omega
    ·rw [hsn];exact hown6
    ·rw [hsn];first | infer_instance | (rw [List.length_append,List.length_singleton];infer_instance)
   have hob:ownB r.name l[k].1=false:=by
    rw [<- Bool.not_eq_true]
    intro e
    have:=ownI_nonneg.2 e
    simp at c2
    omega
   rw [if_neg (by rw [hob];decide)] at hsn
   obtain ⟨A6,c6,rfl,rfl⟩:∃ A6 c6,A6=A3/\c6=c3:=⟨_,_,rfl,rfl⟩
   have hown6:=own_ext hown (lkc:Lk w4 _ NoB)
   refine x_skip (x_regionL (xm ?_))
   refine xl_v (v_add (by omega)) ?_
   refine xz ?_
   refine ⟨_,?_,rfl,k+1,A6,c6,rfl,by omega,?_,ii,?_,ii,evc,lkc⟩
   ·omega
   ·rw [hsn];exact hown6
   ·rw [hsn];first | infer_instance | (rw [List.length_append,List.length_singleton];infer_instance)
  have hkl:k=l.length:=by omega
  subst hkl
  rw [List.take_of_length_le (Nat.le_refl _),hfl] at hown e3
  refine x_exit (xq (xm (xz ?_)))
  refine x_ret ?_
  refine fin1 rfl ?_
  exact ⟨⟨A3,c3,rfl,own_mono (own_ext hown lkc) hsz9⟩,lkc⟩
end Go.Proofs.YtigmfcgeljjgnaaGreatDoor
namespace Go.Wst.Sg
open Go Go.Wst Go.Wst.Dm
theorem lastE_cons (q:Int) (x:En) (l:List En):lastE q (x :: l)=lastE x.epoch l:=by
  unfold lastE
  cases l with
  | nil=>rfl
  | cons y l=>rw [List.getLast?_cons_cons];cases h:(y :: l).getLast? with
    | none=>simp at h
    | some z=>rfl
theorem lastE_nil (q:Int):lastE q []=q:=rfl
theorem lastE_add (q:Int):∀ (a b:List En),lastE q (a++b)=lastE (lastE q a) b:=by
  intro a
  induction a generalizing q with
  | nil=>intro b;rfl
  | cons x a ih=>intro b;rw [List.cons_append,lastE_cons,lastE_cons,ih]
theorem rise_add:∀ (a b:List En) (q:Int),riseE q (a++b)=a++b↔riseE q a=a/\riseE (lastE q a) b=b:=by
  intro a
  induction a with
  | nil=>intro b q;simp [riseE,lastE_nil]
  | cons x a ih=>
    intro b q
    rw [List.cons_append,riseE,riseE,lastE_cons]
    by_cases h:q<=x.epoch
    · rw [if_pos h,if_pos h]
      simp only [List.cons.injEq,true_and]
      exact ih b x.epoch
    rw [if_neg h,if_neg h]
    simp
theorem rise_idem:∀ (l:List En) (q:Int),riseE q (riseE q l)=riseE q l
  | [],q=>rfl
  | x :: l,q=>by
    rw [riseE]
    split
    · next h=>rw [riseE,if_pos h,rise_idem l]
    rfl
theorem rise_pre:∀ (l:List En) (q:Int),∃ r,l=riseE q l++r
  | [],q=>⟨[],rfl⟩
  | x :: l,q=>by
    rw [riseE]
    split
    · obtain ⟨r,h⟩:=rise_pre l x.epoch
      exact ⟨r,by rw [List.cons_append,<- h]⟩
    exact ⟨x :: l,rfl⟩
theorem frames_app (a b:List En):frames (a++b)=frames a++frames b:=List.flatMap_append
theorem frames_ne {l:List En} (h:∀ e∈l,Right e) (h2:(frames l).length=0):l=[]:=by
  cases l with
  | nil=>rfl
  | cons x l=>
    have h3:=frame_len (h x List.mem_cons_self)
    simp [frames] at h2
    rw [h2.1] at h3
    simp at h3
theorem fileN_ne {name:ByteArray} {n m:Nat} (hn:n<1000000) (hm:m<1000000) (h:n≠m):fileN name n≠fileN name m:=fun e=>h (file_inj hn hm e)
structure LogI (fs:Fs) (name:ByteArray) (per:Nat) (es:List En):Prop where
  right:∀ e∈es,Right e
  rise:riseE 0 es=es
  len:es.length<=4096
  own:∀ n,n<1000000->akey fs (fileN name n)≠none->n % per=0/\n<es.length
  seg:∀ j,j*per<es.length->∃ r,akey fs (fileN name (j*per))=some (frames ((es.drop (j*per)).take per)++r)/\(es.length<j*per+per\/4096<=j*per+per->r=[])
theorem LogI.congr {fs fs':Fs} {name:ByteArray} {per:Nat} {es:List En} (h:LogI fs name per es) (he:∀ n,n<1000000->akey fs' (fileN name n)=akey fs (fileN name n)):LogI fs' name per es:=
  ⟨h.right,h.rise,h.len,fun n hn hk=>h.own n hn (by rwa [he n hn] at hk),fun j hj=>by have:=h.len;rw [he _ (by omega)];exact h.seg j hj⟩
theorem segE_nil {fs:Fs} {name:ByteArray} {per first:Nat} {q:Int} (h:akey fs (fileN name first)=none):segE fs name per first q=[]:=by
  unfold segE
  rw [h]
  simp [allB_nil,riseE]
theorem LogI.segE {fs:Fs} {name:ByteArray} {per:Nat} {es:List En} (h:LogI fs name per es) {j:Nat} (hj:j*per<es.length):segE fs name per (j*per) (lastE 0 (es.take (j*per)))=(es.drop (j*per)).take per:=by
  obtain ⟨r,h1,h2⟩:=h.seg j hj
  have hl:=h.len
  have hr:riseE (lastE 0 (es.take (j*per))) ((es.drop (j*per)).take per)=(es.drop (j*per)).take per:=by
    have h3:riseE 0 (es.take (j*per)++es.drop (j*per))=es.take (j*per)++es.drop (j*per):=by rw [List.take_append_drop];exact h.rise
    have h4:=((rise_add _ _ _).1 h3).2
    have h5:riseE (lastE 0 (es.take (j*per))) ((es.drop (j*per)).take per++(es.drop (j*per)).drop per)=(es.drop (j*per)).take per++(es.drop (j*per)).drop per:=by rw [List.take_append_drop];exact h4
    exact ((rise_add _ _ _).1 h5).1
  have hs:((es.drop (j*per)).take per).length=min per (es.length - j*per):=by simp
  have hR:∀ e∈(es.drop (j*per)).take per,Right e:=fun e he=>h.right e (List.mem_of_mem_drop (List.mem_of_mem_take he))
  unfold Sg.segE
  rw [h1]
  simp only [Option.getD_some]
  rw [allB_frames hR]
  clear hR h1
  generalize lastE 0 (es.take (j*per))=q at hr ⊢
  generalize (es.drop (j*per)).take per=s at hr hs ⊢
  by_cases hc:es.length<j*per+per
  · rw [h2 (.inl hc),allB_nil,List.append_nil,List.take_of_length_le (by omega),hr]
  rw [List.take_append_of_le_length (by omega),List.take_of_length_le (by omega),hr]
theorem LogI.toldN {fs:Fs} {name:ByteArray} {per:Nat} {es:List En} (h:LogI fs name per es) (hp:1<=per):∀ (k j:Nat),j*per<=es.length->j*per<4096->es.length<j*per+k->∃ fz,toldN fs name per k (j*per) (lastE 0 (es.take (j*per)))=(es.drop (j*per),fz)/\(akey fs (fileN name fz)=none/\es.length=fz\/∃ i,fz=i*per/\fz<es.length/\es.length<=fz+per/\(es.length<fz+per\/4096<=fz+per))
  | 0,j,h1,_,h2=>by omega
  | k+1,j,h1,h3,h2=>by
    have hl:=h.len
    rw [Sg.toldN]
    by_cases hj:j*per<es.length
    · rw [h.segE hj]
      have hs:((es.drop (j*per)).take per).length=min per (es.length - j*per):=by simp
      by_cases hc:((es.drop (j*per)).take per).length<per\/4096<=j*per+((es.drop (j*per)).take per).length
      · rw [if_pos hc]
        have e:(es.drop (j*per)).take per=es.drop (j*per):=List.take_of_length_le (by rw [List.length_drop];omega)
        exact ⟨j*per,by rw [e],.inr ⟨j,rfl,hj,by omega,by omega⟩⟩
      rw [if_neg hc]
      have e2:(j+1)*per=j*per+per:=Nat.succ_mul j per
      have e3:es.take ((j+1)*per)=es.take (j*per)++(es.drop (j*per)).take per:=by rw [e2,List.take_add]
      obtain ⟨fz,h4,h5⟩:=LogI.toldN h hp k (j+1) (by omega) (by omega) (by omega)
      rw [e3,lastE_add,e2] at h4
      refine ⟨fz,?_,h5⟩
      rw [h4]
      simp only [Prod.mk.injEq,and_true]
      rw [<- List.drop_drop,List.take_append_drop]
    have hz:akey fs (fileN name (j*per))=none:=by
      rcases Decidable.em (akey fs (fileN name (j*per))=none) with e | e
      · exact e
      exact absurd (h.own _ (by omega) e).2 hj
    rw [segE_nil hz,if_pos (.inl (by simp;omega))]
    exact ⟨j*per,by rw [List.drop_of_length_le (by omega)],.inl ⟨hz,by omega⟩⟩
theorem LogI.told2 {fs:Fs} {name:ByteArray} {per:Nat} {es:List En} (h:LogI fs name per es) (hp:1<=per):∃ fz,told fs name per=(es,fz)/\(akey fs (fileN name fz)=none/\es.length=fz\/∃ i,fz=i*per/\fz<es.length/\es.length<=fz+per/\(es.length<fz+per\/4096<=fz+per)):=by
  have hl:=h.len
  obtain ⟨fz,h1,h2⟩:=h.toldN hp 4097 0 (by omega) (by omega) (by omega)
  exact ⟨fz,by unfold told;simpa [lastE_nil] using h1,h2⟩
theorem LogI.told {fs:Fs} {name:ByteArray} {per:Nat} {es:List En} (h:LogI fs name per es) (hp:1<=per):(told fs name per).1=es:=by
  obtain ⟨fz,h1,_⟩:=h.told2 hp
  rw [h1]
theorem LogI.mend {fs:Fs} {name:ByteArray} {per:Nat} {es:List En} (h:LogI fs name per es) (hp:1<=per):mendT fs name per=[]:=by
  obtain ⟨fz,h1,h2⟩:=h.told2 hp
  unfold mendT
  rw [h1]
  rcases h2 with ⟨h2,_⟩ | ⟨i,rfl,h2,h3,h4⟩
  · simp only [h2]
  obtain ⟨r,h5,h6⟩:=h.seg i h2
  have e:(es.drop (i*per)).take per=es.drop (i*per):=List.take_of_length_le (by rw [List.length_drop];omega)
  rw [h6 h4,e,List.append_nil] at h5
  simp only [h5]
  rw [if_neg,if_neg (by omega)]
  intro e2
  have e3:=congrArg List.length (frames_ne (fun e he=>h.right e (List.mem_of_mem_drop he)) e2)
  simp at e3
  omega
theorem key_ne {fs:Fs} {f:ByteArray} (h:f∈fs.map (·.1)):akey fs f≠none:=fun e=>by
  obtain ⟨p,hp,he⟩:=List.mem_map.1 h
  exact akey_none.1 e p hp he
theorem ne_key {fs:Fs} {f:ByteArray} (h:akey fs f≠none):f∈fs.map (·.1):=by
  refine Classical.byContradiction fun hh=>h (akey_none.2 fun p hp e=>hh (List.mem_map.2 ⟨p,hp,e⟩))
theorem fall_mem {fs:Fs} {p:ByteArray->Bool} {f:ByteArray}:f∈fallOwn fs p↔akey fs f≠none/\p f=true:=by
  unfold fallOwn
  rw [List.mem_reverse,List.mem_filter]
  exact ⟨fun h=>⟨key_ne h.1,h.2⟩,fun h=>⟨ne_key h.1,h.2⟩⟩
theorem stray_true {name:ByteArray} {per len:Nat} {f:ByteArray} (h:strayB name per len f=true):∃ n,f=fileN name n/\n<1000000/\¬ (n % per=0/\n<len):=by
  unfold strayB at h
  split at h
  · next n hn=>
    obtain ⟨h1,h2⟩:=own_some hn
    exact ⟨n,h1,h2,fun e=>by simp at h;omega⟩
  cases h
theorem stray_file {name:ByteArray} {per len n:Nat} (hn:n<1000000):strayB name per len (fileN name n)=true↔¬ (n % per=0/\n<len):=by
  unfold strayB
  rw [own_file name hn]
  simp
  omega
theorem from_file {name:ByteArray} {m n:Nat} (hn:n<1000000):fromB name m (fileN name n)=true↔m<=n:=by
  unfold fromB
  rw [own_file name hn]
  simp
theorem LogI.again {M:Disk} {name:ByteArray} {per:Nat} {es:List En} (h:LogI M.files name per es) (hp:1<=per):openM M name per=M:=by
  have h1:fallOwn M.files (strayB name per es.length)=[]:=by
    refine List.eq_nil_iff_forall_not_mem.2 fun f hf=>?_
    obtain ⟨h2,h3⟩:=fall_mem.1 hf
    obtain ⟨n,rfl,hn,h4⟩:=stray_true h3
    exact h4 (h.own n hn h2)
  unfold openM
  rw [h.mend hp,h.told hp]
  show doAll M ((fallOwn M.files _).map rmT)=M
  rw [h1]
  rfl
theorem akey_does {M:Disk} (hm:M.ok) {t:Thing} (hw:okWhat t) (h0:M.doNo t=0) (k:ByteArray):akey (M.does t).files k=if k=t.name then t.look (akey M.files t.name) else akey M.files k:=by
  rw [foldl_snoc h0]
  exact akey_done hw hm.files.1 k
theorem akey_rm {M:Disk} (hm:M.ok) {f:ByteArray} (hf:nameOk f=true) (k:ByteArray):akey (M.does (rmT f)).files k=if k=f then none else akey M.files k:=by
  by_cases h0:M.doNo (rmT f)=0
  · rw [akey_does hm (.inr (.inr rfl)) h0]
    rfl
  rw [Disk.does,if_neg h0]
  split
  · next e=>
    subst e
    rw [doNo_remove,readNo,if_neg (by rw [hf];decide)] at h0
    refine Decidable.byContradiction fun hh=>h0 (if_neg hh)
  rfl
theorem doAll_ok:∀ (ts:List Thing) (M:Disk),M.ok->(∀ t∈ts,okWhat t)->(doAll M ts).ok
  | [],M,h,_=>h
  | t :: ts,M,h,hw=>doAll_ok ts (M.does t) (h.does (hw t List.mem_cons_self)) (fun u hu=>hw u (List.mem_cons_of_mem _ hu))
theorem rm_ok (l:List ByteArray):∀ t∈l.map rmT,okWhat t:=fun t ht=>by
  obtain ⟨f,_,rfl⟩:=List.mem_map.1 ht
  exact .inr (.inr rfl)
theorem akey_rms:∀ (l:List ByteArray) (M:Disk),M.ok->(∀ f∈l,nameOk f=true)->∀ k,(k∈l->akey (doAll M (l.map rmT)).files k=none)/\(¬ k∈l->akey (doAll M (l.map rmT)).files k=akey M.files k)
  | [],M,_,_,k=>⟨by simp,fun _=>rfl⟩
  | f :: l,M,hm,hf,k=>by
    have h1:=akey_rms l (M.does (rmT f)) (hm.does (.inr (.inr rfl))) (fun g hg=>hf g (List.mem_cons_of_mem _ hg)) k
    have h4:=akey_rm hm (hf f List.mem_cons_self) k
    show (_->akey (doAll (M.does (rmT f)) (l.map rmT)).files k=none)/\(_->akey (doAll (M.does (rmT f)) (l.map rmT)).files k=_)
    refine ⟨fun h=>?_,fun h=>?_⟩
    · by_cases h2:k∈l
      · exact h1.1 h2
      rw [h1.2 h2,h4,if_pos]
      rcases List.mem_cons.1 h with e | e
      · exact e
      exact absurd e h2
    rw [h1.2 (fun e=>h (List.mem_cons_of_mem _ e)),h4,if_neg (fun e=>h (by rw [e];exact List.mem_cons_self))]
theorem fall_ok {M:Disk} (hm:M.ok) (p:ByteArray->Bool):∀ f∈fallOwn M.files p,nameOk f=true:=fun f hf=>by
  obtain ⟨q,hq,rfl⟩:=List.mem_map.1 (ne_key (fall_mem.1 hf).1)
  exact hm.files.2.2 q hq
theorem akey_fall {M:Disk} (hm:M.ok) (p:ByteArray->Bool) (k:ByteArray):akey (doAll M ((fallOwn M.files p).map rmT)).files k=if p k=true then none else akey M.files k:=by
  have h3:=akey_rms _ M hm (fall_ok hm p) k
  by_cases h:p k=true
  · rw [if_pos h]
    by_cases h2:akey M.files k=none
    · rw [h3.2 (fun e=>(fall_mem.1 e).1 h2),h2]
    rw [h3.1 (fall_mem.2 ⟨h2,h⟩)]
  rw [if_neg h,h3.2 (fun e=>h (fall_mem.1 e).2)]
theorem LogI.put {M:Disk} {name:ByteArray} {per:Nat} {es:List En} {x:En} (hm:M.ok) (h:LogI M.files name per es) (hp:1<=per) (h0:appNo M name per es x=0):LogI (M.does (putT name per es.length x)).files name per (es++[x])/\M.doNo (putT name per es.length x)=0:=by
  have hl:=h.len
  unfold appNo at h0
  split at h0
  · cases h0
  next hR=>
  split at h0
  · cases h0
  next hL=>
  split at h0
  · cases h0
  next hq=>
  refine ⟨?_,h0⟩
  have hR:Right x:=Decidable.byContradiction hR
  have hdm:=Nat.div_mul_le_self es.length per
  have hdl:es.length<es.length / per*per+per:=by
    have h1:=Nat.mod_lt es.length (show per > 0 by omega)
    have h2:=Nat.div_add_mod es.length per
    rw [Nat.mul_comm] at h2
    omega
  obtain ⟨b,hb⟩:∃ b,b=es.length / per*per:=⟨_,rfl⟩
  have hk:∀ n,n<1000000->akey (M.does (putT name per es.length x)).files (fileN name n)=if n=b then some ((akey M.files (fileN name b)).getD []++frame x) else akey M.files (fileN name n):=by
    intro n hn
    rw [akey_does hm (.inl rfl) h0]
    show (if fileN name n=fileN name (es.length / per*per) then _ else _)=_
    rw [<- hb]
    by_cases e:n=b
    · rw [if_pos e,if_pos (by rw [e])]
      simp only [Thing.look,putT,if_true,<- hb]
    rw [if_neg e,if_neg (fileN_ne hn (by omega) e)]
  rw [<- hb] at hdm hdl
  have hlen:(es++[x]).length=es.length+1:=by simp
  refine ⟨fun e he=>?_,?_,by omega,fun n hn hk2=>?_,fun j hj=>?_⟩
  · rcases List.mem_append.1 he with he | he
    · exact h.right e he
    simp only [List.mem_singleton] at he;rw [he];exact hR
  · refine (rise_add _ _ _).2 ⟨h.rise,?_⟩
    have h4:lastE 0 es<=x.epoch:=by
      rcases Decidable.em (es=[]) with e | e
      · subst e;have:=hR.1.1;show (0:Int)<=_;omega
      exact Decidable.byContradiction fun hh=>hq ⟨e,by omega⟩
    rw [riseE,if_pos h4]
    rfl
  · rw [hk n hn] at hk2
    by_cases e:n=b
    · subst e
      rw [hlen]
      exact ⟨by rw [hb];exact Nat.mul_mod_left _ _,by omega⟩
    rw [if_neg e] at hk2
    have:=h.own n hn hk2
    omega
  rw [hlen] at hj ⊢
  rw [hk _ (by omega)]
  by_cases e:j*per=b
  · rw [if_pos e]
    have h5:((es++[x]).drop (j*per)).take per=es.drop b++[x]:=by
      rw [e,List.drop_append_of_le_length hdm,List.take_of_length_le (by simp;omega)]
    have h6:(akey M.files (fileN name b)).getD []=frames (es.drop b):=by
      rcases Nat.lt_or_ge b es.length with h7 | h7
      · obtain ⟨r,h8,h9⟩:=h.seg j (by omega)
        rw [e] at h8 h9
        rw [h8,h9 (.inl hdl),List.append_nil,List.take_of_length_le (by rw [List.length_drop];omega)]
        rfl
      have h8:akey M.files (fileN name b)=none:=by
        rcases Decidable.em (akey M.files (fileN name b)=none) with e2 | e2
        · exact e2
        have:=(h.own b (by omega) e2).2;omega
      rw [h8,List.drop_of_length_le h7]
      rfl
    rw [h5,h6]
    exact ⟨[],by simp [frames],fun _=>rfl⟩
  rw [if_neg e]
  have h7:j*per+per<=b:=by
    have h8:j<es.length / per:=by
      rcases Nat.lt_or_ge j (es.length / per) with h9 | h9
      · exact h9
      have h11:j<=es.length / per:=(Nat.le_div_iff_mul_le (by omega)).2 (by omega)
      have h12:j=es.length / per:=by omega
      exact absurd (by rw [h12,hb]) e
    have h11:=Nat.mul_le_mul_right per (show j+1<=es.length / per from h8)
    rw [Nat.succ_mul] at h11
    omega
  obtain ⟨r,h8,h9⟩:=h.seg j (by omega)
  refine ⟨r,?_,fun h10=>h9 (by omega)⟩
  rw [h8,List.drop_append_of_le_length (by omega),List.take_append_of_le_length (by rw [List.length_drop];omega)]
theorem LogI.appAll {name:ByteArray} {per:Nat} (hp:1<=per):∀ (xs:List En) (M:Disk) (es:List En),M.ok->LogI M.files name per es->(appAll name per M es xs).1.ok/\LogI (appAll name per M es xs).1.files name per (appAll name per M es xs).2.1
  | [],M,es,hm,h=>⟨hm,h⟩
  | x :: xs,M,es,hm,h=>by
    rw [Sg.appAll]
    by_cases h0:appNo M name per es x=0
    · rw [if_pos h0]
      exact LogI.appAll hp xs _ _ (hm.does (.inl rfl)) (h.put hm hp h0).1
    rw [if_neg h0]
    exact ⟨hm,h⟩
def appD (name:ByteArray) (per:Nat):Disk->List En->Disk×Nat×Int
  | M,[]=>(M,0,0)
  | M,x :: xs=>
    if appNo M name per (told M.files name per).1 x=0 then ((appD name per (M.does (putT name per (told M.files name per).1.length x)) xs).1,(appD name per (M.does (putT name per (told M.files name per).1.length x)) xs).2.1+1,(appD name per (M.does (putT name per (told M.files name per).1.length x)) xs).2.2)
    else (M,0,appNo M name per (told M.files name per).1 x)
theorem LogI.appD {name:ByteArray} {per:Nat} (hp:1<=per):∀ (xs:List En) (M:Disk) (es:List En),M.ok->LogI M.files name per es->appD name per M xs=((Sg.appAll name per M es xs).1,(Sg.appAll name per M es xs).2.2.1,(Sg.appAll name per M es xs).2.2.2)
  | [],M,es,hm,h=>rfl
  | x :: xs,M,es,hm,h=>by
    rw [Sg.appAll,Sg.appD,h.told hp]
    by_cases h0:appNo M name per es x=0
    · rw [if_pos h0,if_pos h0,LogI.appD hp xs _ _ (hm.does (.inl rfl)) (h.put hm hp h0).1]
    rw [if_neg h0,if_neg h0]
theorem LogI.trunc {M:Disk} {name:ByteArray} {per:Nat} {es:List En} (hm:M.ok) (hname:logName name=true) (h:LogI M.files name per es) (hp:1<=per) (hok:∀ n,nameOk (fileN name n)=true) {n:Nat} (hn:n<=es.length):LogI (truncM M name per es n).files name per (es.take n):=by
  have hl:=h.len
  have hdm:=Nat.div_mul_le_self n per
  have hdl:n<n / per*per+per:=by
    have h1:=Nat.mod_lt n (show per > 0 by omega)
    have h2:=Nat.div_add_mod n per
    rw [Nat.mul_comm] at h2
    omega
  obtain ⟨b,hb⟩:∃ b,b=n / per*per:=⟨_,rfl⟩
  obtain ⟨M1,hM1⟩:∃ M1,M1=doAll M ((fallOwn M.files (fromB name n)).map rmT):=⟨_,rfl⟩
  have hm1:M1.ok:=by rw [hM1];exact doAll_ok _ M hm (rm_ok _)
  have hk1:∀ k,k<1000000->akey M1.files (fileN name k)=if n<=k then none else akey M.files (fileN name k):=by
    intro k hk
    rw [hM1,akey_fall hm]
    by_cases e:n<=k
    · rw [if_pos e,if_pos ((from_file hk).2 e)]
    rw [if_neg e,if_neg (fun e2=>e ((from_file hk).1 e2))]
  have htl:(es.take n).length=n:=by rw [List.length_take];omega
  have hseg:∀ j,j*per<n->j*per≠b->j*per+per<=n:=by
    intro j hj e
    have h8:j<n / per:=by
      rcases Nat.lt_or_ge j (n / per) with h9 | h9
      · exact h9
      have h10:=Nat.mul_le_mul_right per h9
      have h11:j<=n / per:=(Nat.le_div_iff_mul_le (by omega)).2 (by omega)
      have:j=n / per:=by omega
      exact absurd (by rw [this,hb]) e
    have h11:=Nat.mul_le_mul_right per (show j+1<=n / per from h8)
    rw [Nat.succ_mul] at h11
    omega
  have hold:∀ j,j*per<n->j*per≠b->∃ r,akey M.files (fileN name (j*per))=some (frames (((es.take n).drop (j*per)).take per)++r)/\(n<j*per+per\/4096<=j*per+per->r=[]):=by
    intro j hj e
    have h7:=hseg j hj e
    obtain ⟨r,h8,h9⟩:=h.seg j (by omega)
    refine ⟨r,?_,fun h10=>h9 (by omega)⟩
    rw [h8,List.drop_take,List.take_take,Nat.min_eq_left (by omega)]
  have hrise:riseE 0 (es.take n)=es.take n:=((rise_add (es.take n) (es.drop n) 0).1 (by rw [List.take_append_drop];exact h.rise)).1
  have hright:∀ e∈es.take n,Right e:=fun e he=>h.right e (List.mem_of_mem_take he)
  unfold truncM
  rw [<- hM1,<- hb]
  rw [<- hb] at hdm hdl
  split
  · next hc=>
    have hbl:b<es.length:=by omega
    obtain ⟨j0,hj0⟩:∃ j0,j0*per=b:=⟨_,hb.symm⟩
    obtain ⟨r,h8,h9⟩:=h.seg j0 (by omega)
    rw [hj0] at h8 h9
    have hsp:(es.drop b).take per=(es.take n).drop b++((es.drop b).take per).drop (n - b):=by
      have h10:(es.take n).drop b=((es.drop b).take per).take (n - b):=by rw [List.drop_take,List.take_take,Nat.min_eq_left (by omega)]
      rw [h10,List.take_append_drop]
    have hfile:akey M.files (fileN name b)=some (frames ((es.take n).drop b)++(frames (((es.drop b).take per).drop (n - b))++r)):=by
      rw [h8,<- List.append_assoc,<- frames_app,<- hsp]
    have hf1:akey M1.files (fileN name b)=some (frames ((es.take n).drop b)++(frames (((es.drop b).take per).drop (n - b))++r)):=by rw [hk1 _ (by omega),if_neg (by omega),hfile]
    have h0:M1.doNo (cutT (fileN name b) (frames ((es.take n).drop b)).length)=0:=by
      rw [doNo_cut]
      have e1:readNo M1.files (fileN name b)=0:=by unfold readNo;rw [if_neg (by rw [hok];decide),if_neg (by rw [hf1];simp)]
      have e2:readB M1.files (fileN name b)=frames ((es.take n).drop b)++(frames (((es.drop b).take per).drop (n - b))++r):=by unfold readB;rw [if_pos (hok b),hf1];rfl
      rw [e1,e2,if_neg (by decide),if_neg]
      rw [List.length_append]
      omega
    have hk2:∀ k,k<1000000->akey (M1.does (cutT (fileN name b) (frames ((es.take n).drop b)).length)).files (fileN name k)=if k=b then some (frames ((es.take n).drop b)) else akey M1.files (fileN name k):=by
      intro k hk
      rw [akey_does hm1 (.inr (.inl rfl)) h0]
      show (if fileN name k=fileN name b then _ else _)=_
      by_cases e:k=b
      · rw [if_pos e,if_pos (by rw [e])]
        simp [Thing.look,hf1]
      rw [if_neg e,if_neg (fileN_ne hk (by omega) e)]
    refine ⟨hright,hrise,by omega,fun k hk hk3=>?_,fun j hj=>?_⟩
    · rw [hk2 k hk] at hk3
      rw [htl]
      by_cases e:k=b
      · subst e
        exact ⟨by rw [hb];exact Nat.mul_mod_left _ _,by omega⟩
      rw [if_neg e,hk1 k hk] at hk3
      by_cases e2:n<=k
      · rw [if_pos e2] at hk3;exact absurd rfl hk3
      rw [if_neg e2] at hk3
      exact ⟨(h.own k hk hk3).1,by omega⟩
    rw [htl] at hj ⊢
    rw [hk2 _ (by omega)]
    by_cases e:j*per=b
    · rw [if_pos e,e]
      exact ⟨[],by rw [List.append_nil,List.take_of_length_le (l:=(es.take n).drop b) (by rw [List.length_drop,htl];omega)],fun _=>rfl⟩
    rw [if_neg e,hk1 _ (by omega),if_neg (by omega)]
    exact hold j hj e
  next hc=>
  refine ⟨hright,hrise,by omega,fun k hk hk3=>?_,fun j hj=>?_⟩
  · rw [hk1 k hk] at hk3
    rw [htl]
    by_cases e2:n<=k
    · rw [if_pos e2] at hk3;exact absurd rfl hk3
    rw [if_neg e2] at hk3
    exact ⟨(h.own k hk hk3).1,by omega⟩
  rw [htl] at hj ⊢
  rw [hk1 _ (by omega),if_neg (by omega)]
  by_cases e:j*per=b
  · have hnl:n=es.length:=by omega
    have h10:=h.seg j (by omega)
    rw [hnl,List.take_of_length_le (Nat.le_refl _)]
    exact h10
  exact hold j hj e
theorem rise_right {l:List En} (h:∀ e∈l,Right e) (q:Int):∀ e∈riseE q l,Right e:=fun e he=>by
  obtain ⟨r,hr⟩:=rise_pre l q
  exact h e (by rw [hr];exact List.mem_append_left _ he)
theorem segE_spec {fs:Fs} {name:ByteArray} {per first:Nat} {q:Int} {b:By} (h:akey fs (fileN name first)=some b):(∀ e∈segE fs name per first q,Right e)/\∃ r,b=frames (segE fs name per first q)++r:=by
  unfold segE
  rw [h]
  simp only [Option.getD_some]
  obtain ⟨h1,r,h2,_⟩:=allB_spec b
  obtain ⟨m,hm⟩:∃ m,m=min per (4096 - first):=⟨_,rfl⟩
  rw [<- hm]
  obtain ⟨r2,h3⟩:=rise_pre ((allB b).take m) q
  refine ⟨rise_right (fun e he=>h1 e (List.mem_of_mem_take he)) q,frames r2++(frames ((allB b).drop m)++r),?_⟩
  have h4:allB b=riseE q ((allB b).take m)++(r2++(allB b).drop m):=by rw [<- List.append_assoc,<- h3,List.take_append_drop]
  conv=>lhs;rw [h2,h4]
  rw [frames_app,frames_app]
  simp
theorem segE_len2 {fs:Fs} {name:ByteArray} {per first:Nat} {q:Int}:(segE fs name per first q).length<=per/\(segE fs name per first q).length<=4096 - first:=by
  unfold segE
  obtain ⟨r,hr⟩:=rise_pre ((allB ((akey fs (fileN name first)).getD [])).take (min per (4096 - first))) q
  have h1:=congrArg List.length hr
  rw [List.length_append,List.length_take] at h1
  omega
theorem segE_rise {fs:Fs} {name:ByteArray} {per first:Nat} {q:Int}:riseE q (segE fs name per first q)=segE fs name per first q:=by unfold segE;exact rise_idem _ _
structure ToldI (fs:Fs) (name:ByteArray) (per:Nat) (es:List En) (i:Nat):Prop where
  right:∀ e∈es,Right e
  rise:riseE 0 es=es
  len:es.length<=4096
  at_:i*per<=es.length
  up:es.length<=i*per+per
  end_:es.length<i*per+per\/4096<=es.length
  few:i*per<4096
  seg:∀ j,j<i->∃ r,akey fs (fileN name (j*per))=some (frames ((es.drop (j*per)).take per)++r)
  last:∀ b,akey fs (fileN name (i*per))=some b->∃ r,b=frames (es.drop (i*per))++r
  none_:akey fs (fileN name (i*per))=none->es.length=i*per
theorem toldI_at {fs:Fs} {name:ByteArray} {per:Nat} (hp:1<=per):∀ (k j:Nat) (pre:List En),(∀ e∈pre,Right e)->riseE 0 pre=pre->pre.length=j*per->j*per<4096->4096<j*per+k->(∀ i,i<j->∃ r,akey fs (fileN name (i*per))=some (frames ((pre.drop (i*per)).take per)++r))->∃ i,(toldN fs name per k (j*per) (lastE 0 pre)).2=i*per/\ToldI fs name per (pre++(toldN fs name per k (j*per) (lastE 0 pre)).1) i
  | 0,j,pre,_,_,_,h1,h2,_=>by omega
  | k+1,j,pre,hR,hr,hl,h1,h2,hs=>by
    have hln:=segE_len2 (fs:=fs) (name:=name) (per:=per) (first:=j*per) (q:=lastE 0 pre)
    have hri:=segE_rise (fs:=fs) (name:=name) (per:=per) (first:=j*per) (q:=lastE 0 pre)
    have hnn:akey fs (fileN name (j*per))=none->segE fs name per (j*per) (lastE 0 pre)=[]:=segE_nil
    have hsp:∀ b,akey fs (fileN name (j*per))=some b->(∀ e∈segE fs name per (j*per) (lastE 0 pre),Right e)/\∃ r,b=frames (segE fs name per (j*per) (lastE 0 pre))++r:=fun b hb=>segE_spec hb
    rw [toldN]
    obtain ⟨s,hsd⟩:∃ s,s=segE fs name per (j*per) (lastE 0 pre):=⟨_,rfl⟩
    rw [<- hsd] at hln hri hnn hsp ⊢
    have hsR:∀ e∈s,Right e:=by
      cases hb:akey fs (fileN name (j*per)) with
      | none=>rw [hnn hb];simp
      | some b=>exact (hsp b hb).1
    have hR2:∀ e∈pre++s,Right e:=fun e he=>by
      rcases List.mem_append.1 he with he | he
      · exact hR e he
      exact hsR e he
    have hr2:riseE 0 (pre++s)=pre++s:=(rise_add _ _ _).2 ⟨hr,hri⟩
    have hl2:(pre++s).length=j*per+s.length:=by rw [List.length_append,hl]
    have hdr:(pre++s).drop (j*per)=s:=by rw [<- hl,List.drop_left]
    have hs2:∀ i,i<j->∃ r,akey fs (fileN name (i*per))=some (frames (((pre++s).drop (i*per)).take per)++r):=fun i hi=>by
      obtain ⟨r,h3⟩:=hs i hi
      have h4:=Nat.mul_le_mul_right per (show i+1<=j from hi)
      rw [Nat.succ_mul] at h4
      exact ⟨r,by rw [h3,List.drop_append_of_le_length (by omega),List.take_append_of_le_length (by rw [List.length_drop];omega)]⟩
    by_cases hc:s.length<per\/4096<=j*per+s.length
    · rw [if_pos hc]
      refine ⟨j,rfl,?_⟩
      show ToldI fs name per (pre++s) j
      refine ⟨hR2,hr2,by omega,by omega,by omega,by omega,h1,hs2,fun b hb=>?_,fun hb=>?_⟩
      · rw [hdr];exact (hsp b hb).2
      have:=hnn hb
      rw [this] at hl2 ⊢
      simpa using hl2
    rw [if_neg hc]
    have e2:(j+1)*per=j*per+per:=Nat.succ_mul j per
    obtain ⟨i,h5,h6⟩:=toldI_at hp k (j+1) (pre++s) hR2 hr2 (by omega) (by omega) (by omega) (fun i hi=>by
      by_cases e:i=j
      · subst e
        cases hb:akey fs (fileN name (i*per)) with
        | none=>rw [hnn hb] at hc;simp at hc;omega
        | some b=>
          obtain ⟨r,h7⟩:=(hsp b hb).2
          exact ⟨r,by rw [h7,hdr,List.take_of_length_le (by omega)]⟩
      exact hs2 i (by omega))
    rw [lastE_add,e2] at h5 h6
    rw [List.append_assoc] at h6
    exact ⟨i,h5,h6⟩
theorem told_spec (fs:Fs) (name:ByteArray) {per:Nat} (hp:1<=per):∃ i,(told fs name per).2=i*per/\ToldI fs name per (told fs name per).1 i:=by
  have h1:=toldI_at (fs:=fs) (name:=name) hp 4097 0 [] (by simp) rfl (by simp) (by omega) (by omega) (fun i hi=>by omega)
  rw [Nat.zero_mul] at h1
  unfold told
  simpa [lastE_nil] using h1
theorem open_I {M:Disk} {name:ByteArray} {per:Nat} (hm:M.ok) (hp:1<=per) (hok:∀ n,nameOk (fileN name n)=true):(openM M name per).ok/\LogI (openM M name per).files name per (told M.files name per).1:=by
  obtain ⟨i,h1,h2⟩:=told_spec M.files name hp
  obtain ⟨es,hes⟩:∃ es,es=(told M.files name per).1:=⟨_,rfl⟩
  have hmend:∀ b,akey M.files (fileN name (i*per))=some b->mendT M.files name per=if (frames (es.drop (i*per))).length=0 then [rmT (fileN name (i*per))] else if (frames (es.drop (i*per))).length<b.length then [cutT (fileN name (i*per)) (frames (es.drop (i*per))).length] else []:=fun b hb=>by
    unfold mendT
    rw [h1,<- hes]
    simp only [hb]
  have hmend0:akey M.files (fileN name (i*per))=none->mendT M.files name per=[]:=fun hb=>by
    unfold mendT
    rw [h1]
    simp only [hb]
  unfold openM
  rw [<- hes] at h2 ⊢
  obtain ⟨M1,hM1⟩:∃ M1,M1=doAll M (mendT M.files name per):=⟨_,rfl⟩
  rw [<- hM1]
  have hfew:=h2.few
  have hl:=h2.len
  have hRd:∀ e∈es.drop (i*per),Right e:=fun e he=>h2.right e (List.mem_of_mem_drop he)
  have key:M1.ok/\∀ n,n<1000000->akey M1.files (fileN name n)=if n=i*per then (if es.length=i*per then none else some (frames (es.drop (i*per)))) else akey M.files (fileN name n):=by
    cases hb:akey M.files (fileN name (i*per)) with
    | none=>
      rw [hM1,hmend0 hb]
      refine ⟨hm,fun n hn=>?_⟩
      show akey M.files _=_
      by_cases e:n=i*per
      · rw [if_pos e,if_pos (h2.none_ hb),e,hb]
      rw [if_neg e]
    | some b=>
      obtain ⟨r,hr⟩:=h2.last b hb
      rw [hM1,hmend b hb]
      by_cases h3:(frames (es.drop (i*per))).length=0
      · rw [if_pos h3]
        refine ⟨hm.does (.inr (.inr rfl)),fun n hn=>?_⟩
        have h4:es.length=i*per:=by
          have h5:=congrArg List.length (frames_ne hRd h3)
          have:=h2.at_
          simp at h5
          omega
        show akey (M.does (rmT _)).files _=_
        rw [akey_rm hm (hok _)]
        by_cases e:n=i*per
        · rw [if_pos e,if_pos (by rw [e]),if_pos h4]
        rw [if_neg e,if_neg (fileN_ne hn (by omega) e)]
      rw [if_neg h3]
      have h4:¬ es.length=i*per:=fun e=>h3 (by rw [List.drop_of_length_le (by omega)];rfl)
      by_cases h5:(frames (es.drop (i*per))).length<b.length
      · rw [if_pos h5]
        have h0:M.doNo (cutT (fileN name (i*per)) (frames (es.drop (i*per))).length)=0:=by
          rw [doNo_cut]
          have e1:readNo M.files (fileN name (i*per))=0:=by unfold readNo;rw [if_neg (by rw [hok];decide),if_neg (by rw [hb];simp)]
          have e2:readB M.files (fileN name (i*per))=b:=by unfold readB;rw [if_pos (hok _),hb];rfl
          rw [e1,e2,if_neg (by decide),if_neg (by omega)]
        refine ⟨hm.does (.inr (.inl rfl)),fun n hn=>?_⟩
        show akey (M.does (cutT _ _)).files _=_
        rw [akey_does hm (.inr (.inl rfl)) h0]
        show (if fileN name n=fileN name (i*per) then _ else _)=_
        by_cases e:n=i*per
        · rw [if_pos e,if_pos (by rw [e]),if_neg h4]
          simp [Thing.look,hb,hr]
        rw [if_neg e,if_neg (fileN_ne hn (by omega) e)]
      rw [if_neg h5]
      refine ⟨hm,fun n hn=>?_⟩
      show akey M.files _=_
      by_cases e:n=i*per
      · rw [if_pos e,if_neg h4,e,hb]
        have h6:r=[]:=by
          have h7:=congrArg List.length hr
          rw [List.length_append] at h7
          exact List.eq_nil_of_length_eq_zero (by omega)
        rw [hr,h6,List.append_nil]
      rw [if_neg e]
  obtain ⟨hm1,hk1⟩:=key
  have hk2:∀ n,n<1000000->akey (doAll M1 ((fallOwn M1.files (strayB name per es.length)).map rmT)).files (fileN name n)=if n % per=0/\n<es.length then akey M1.files (fileN name n) else none:=by
    intro n hn
    rw [akey_fall hm1]
    by_cases e:n % per=0/\n<es.length
    · rw [if_pos e,if_neg (fun e2=>(stray_file hn).1 e2 e)]
    rw [if_neg e,if_pos ((stray_file hn).2 e)]
  refine ⟨doAll_ok _ M1 hm1 (rm_ok _),h2.right,h2.rise,h2.len,fun n hn hk=>?_,fun j hj=>?_⟩
  · rw [hk2 n hn] at hk
    exact Decidable.byContradiction fun hh=>hk (if_neg hh)
  have h3:=h2.up
  have h4:=h2.at_
  rw [hk2 _ (by omega),if_pos ⟨Nat.mul_mod_left _ _,hj⟩,hk1 _ (by omega)]
  by_cases e:j*per=i*per
  · rw [if_pos e,if_neg (by omega),e]
    exact ⟨[],by rw [List.append_nil,List.take_of_length_le (by rw [List.length_drop];omega)],fun _=>rfl⟩
  rw [if_neg e]
  have h5:j<i:=by
    rcases Nat.lt_or_ge j i with h6 | h6
    · exact h6
    have h7:i+1<=j:=by
      rcases Nat.eq_or_lt_of_le h6 with h8 | h8
      · exact absurd (by rw [h8]) e
      exact h8
    have h8:=Nat.mul_le_mul_right per h7
    rw [Nat.succ_mul] at h8
    omega
  have h6:=Nat.mul_le_mul_right per (show j+1<=i from h5)
  rw [Nat.succ_mul] at h6
  obtain ⟨r,h7⟩:=h2.seg j h5
  exact ⟨r,h7,fun h8=>by omega⟩
end Go.Wst.Sg
