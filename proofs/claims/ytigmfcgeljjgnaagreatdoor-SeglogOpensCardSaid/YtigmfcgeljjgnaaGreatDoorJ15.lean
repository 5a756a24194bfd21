/- A part of the walks through the log and its document, and of the law in plain Lean: Sl J K L Sh M N O P. -/
import Derived.Test.YtigmfcgeljjgnaaGreatDoorJ14
import Derived.Shelf.Small.Bits
import Derived.Shelf.Strconv.Itoa0
import Derived.Shelf.Strconv.Itoa1
import Derived.Shelf.LaysM
import Derived.Shelf.Strconv.Itoa2
import Derived.Shelf.Strconv.Itoa3
import Derived.Shelf.Sort.Plain
import Derived.Shelf.Slices.In.SortNone
import Derived.Test.YtigmfcgeljjgnaaGreatDoorProg
import Derived.Sort.OwnSorted
set_option linter.all false
namespace Go.Wst.Sg
open Go.Wst.Dm
def digB (n:Nat):UInt8:=UInt8.ofNat (48+n % 10)
def digs:Nat->Nat->By
  | 0,_=>[]
  | k+1,n=>digs k (n / 10)++[digB n]
def byteD (c:UInt8):Bool:=decide (48<=c.toNat) && decide (c.toNat<=57)
def byteL (c:UInt8):Bool:=(decide (97<=c.toNat) && decide (c.toNat<=122)) || (decide (48<=c.toNat) && decide (c.toNat<=57))
def strOf (l:By):ByteArray:=⟨l.toArray⟩
theorem strOf_list (l:By):(strOf l).toList=l:=by simp [strOf,ByteArray.toList_eq]
theorem strOf_of (s:ByteArray):strOf s.toList=s:=toList_inj (strOf_list _)
theorem strOf_size (l:By):(strOf l).size=l.length:=by simp [strOf,ByteArray.size]
theorem size_list (s:ByteArray):s.toList.length=s.size:=by rw [ByteArray.toList_eq];rfl
def fileN (name:ByteArray) (n:Nat):ByteArray:=strOf (name.toList++46 :: digs 6 n)
def valD (l:By):Nat:=l.foldl (fun n c=>10*n+(c.toNat - 48)) 0
def ownL (name file:By):Option Nat:=if file.take (name.length+1)=name++[46]/\file.length=name.length+7/\(file.drop (name.length+1)).all byteD=true then some (valD (file.drop (name.length+1))) else none
def ownN (name file:ByteArray):Option Nat:=ownL name.toList file.toList
def logName (s:ByteArray):Bool:=decide (1<=s.size) && decide (s.size<=8) && s.toList.all byteL
theorem digB_nat (n:Nat):(digB n).toNat=48+n % 10:=toNat_ofNat (by omega)
theorem digs_len:∀ (k n:Nat),(digs k n).length=k
  | 0,_=>rfl
  | k+1,n=>by simp [digs,digs_len k]
theorem digB_D (n:Nat):byteD (digB n)=true:=by
  unfold byteD
  rw [digB_nat]
  simp;omega
theorem digs_D:∀ (k n:Nat),(digs k n).all byteD=true
  | 0,_=>rfl
  | k+1,n=>by
    rw [digs,List.all_append,digs_D k]
    simp [digB_D]
theorem valD_snoc (l:By) (c:UInt8):valD (l++[c])=10*valD l+(c.toNat - 48):=by simp [valD]
theorem valD_digs:∀ (k n:Nat),n<10 ^ k->valD (digs k n)=n
  | 0,n,h=>by
    have:n=0:=by simpa using h
    subst this;rfl
  | k+1,n,h=>by
    rw [digs,valD_snoc,valD_digs k (n / 10) (by rw [Nat.pow_succ] at h;omega),digB_nat]
    omega
theorem digs_valD:∀ (k:Nat) (l:By),l.length=k->l.all byteD=true->digs k (valD l)=l/\valD l<10 ^ k
  | 0,l,h,_=>by
    have:l=[]:=List.eq_nil_of_length_eq_zero h
    subst this
    exact ⟨rfl,by decide⟩
  | k+1,l,h,hd=>by
    obtain ⟨l',c,rfl⟩:∃ l' c,l=l'++[c]:=⟨l.dropLast,l.getLast (fun e=>by subst e;simp at h),(List.dropLast_concat_getLast _).symm⟩
    rw [List.all_append] at hd
    simp only [Bool.and_eq_true,List.all_cons,List.all_nil,Bool.and_true] at hd
    obtain ⟨h1,h2⟩:=digs_valD k l' (by simpa using h) hd.1
    have hc:48<=c.toNat/\c.toNat<=57:=by simpa [byteD] using hd.2
    rw [valD_snoc]
    refine ⟨?_,by rw [Nat.pow_succ];omega⟩
    rw [digs,show (10*valD l'+(c.toNat - 48)) / 10=valD l' by omega,h1]
    congr 2
    apply UInt8.toNat_inj.1
    rw [digB_nat]
    omega
theorem own_file (name:ByteArray) {n:Nat} (h:n<1000000):ownN name (fileN name n)=some n:=by
  have hd:(name.toList++46 :: digs 6 n).drop (name.toList.length+1)=digs 6 n:=by
    rw [show name.toList++46 :: digs 6 n=(name.toList++[46])++digs 6 n by simp,show name.toList.length+1=(name.toList++[46]).length by simp,List.drop_left]
  have ht:(name.toList++46 :: digs 6 n).take (name.toList.length+1)=name.toList++[46]:=by
    rw [show name.toList++46 :: digs 6 n=(name.toList++[46])++digs 6 n by simp,show name.toList.length+1=(name.toList++[46]).length by simp,List.take_left]
  unfold ownN fileN ownL
  rw [strOf_list,hd,ht,if_pos ⟨rfl,by simp [digs_len],digs_D 6 n⟩,valD_digs 6 n h]
theorem own_some {name file:ByteArray} {n:Nat} (h:ownN name file=some n):file=fileN name n/\n<1000000:=by
  unfold ownN ownL at h
  split at h
  · next hh=>
    obtain ⟨h1,h2,h3⟩:=hh
    injection h with h
    have hl:(file.toList.drop (name.toList.length+1)).length=6:=by rw [List.length_drop,h2];omega
    obtain ⟨h4,h5⟩:=digs_valD 6 _ hl h3
    rw [h] at h4 h5
    refine ⟨?_,h5⟩
    unfold fileN
    rw [h4,<- strOf_of file]
    congr 1
    rw [<- List.take_append_drop (name.toList.length+1) file.toList,h1]
    simp [strOf_list]
  cases h
theorem file_inj {name:ByteArray} {n m:Nat} (hn:n<1000000) (hm:m<1000000) (h:fileN name n=fileN name m):n=m:=by
  have h1:=own_file name hn
  rw [h,own_file name hm] at h1
  exact (Option.some.inj h1).symm
def riseE:Int->List En->List En
  | _,[]=>[]
  | q,e :: l=>if q<=e.epoch then e :: riseE e.epoch l else []
def lastE (q:Int) (l:List En):Int:=match l.getLast? with
  | some e=>e.epoch
  | none=>q
def segE (fs:Fs) (name:ByteArray) (per first:Nat) (q:Int):List En:=riseE q ((allB ((akey fs (fileN name first)).getD [])).take (min per (4096 - first)))
def toldN (fs:Fs) (name:ByteArray) (per:Nat):Nat->Nat->Int->List En×Nat
  | 0,first,_=>([],first)
  | k+1,first,q=>
    if (segE fs name per first q).length<per\/4096<=first+(segE fs name per first q).length then (segE fs name per first q,first)
    else (segE fs name per first q++(toldN fs name per k (first+per) (lastE q (segE fs name per first q))).1,(toldN fs name per k (first+per) (lastE q (segE fs name per first q))).2)
def told (fs:Fs) (name:ByteArray) (per:Nat):List En×Nat:=toldN fs name per 4097 0 0
def doAll (M:Disk) (ts:List Thing):Disk:=ts.foldl Disk.does M
abbrev rmT (f:ByteArray):Thing:=⟨2,f,[],0⟩
abbrev cutT (f:ByteArray) (n:Nat):Thing:=⟨1,f,[],n⟩
def mendT (fs:Fs) (name:ByteArray) (per:Nat):List Thing:=
  match akey fs (fileN name (told fs name per).2) with
  | none=>[]
  | some b=>
    if (frames ((told fs name per).1.drop (told fs name per).2)).length=0 then [rmT (fileN name (told fs name per).2)]
    else if (frames ((told fs name per).1.drop (told fs name per).2)).length<b.length then [cutT (fileN name (told fs name per).2) (frames ((told fs name per).1.drop (told fs name per).2)).length]
    else []
def strayB (name:ByteArray) (per len:Nat) (f:ByteArray):Bool:=match ownN name f with
  | some n=>decide (n % per≠0) || decide (len<=n)
  | none=>false
def fallOwn (fs:Fs) (p:ByteArray->Bool):List ByteArray:=((fs.map (·.1)).filter p).reverse
def openM (M:Disk) (name:ByteArray) (per:Nat):Disk:=
  doAll (doAll M (mendT M.files name per)) ((fallOwn (doAll M (mendT M.files name per)).files (strayB name per (told M.files name per).1.length)).map rmT)
abbrev putT (name:ByteArray) (per n:Nat) (x:En):Thing:=⟨0,fileN name (n / per*per),frame x,0⟩
def appNo (M:Disk) (name:ByteArray) (per:Nat) (es:List En) (x:En):Int:=
  if ¬ Right x then 2 else if 4096<=es.length then 3 else if es≠[]/\x.epoch<lastE 0 es then 140 else M.doNo (putT name per es.length x)
def appAll (name:ByteArray) (per:Nat):Disk->List En->List En->Disk×List En×Nat×Int
  | M,es,[]=>(M,es,0,0)
  | M,es,x :: xs=>
    if appNo M name per es x=0 then ((appAll name per (M.does (putT name per es.length x)) (es++[x]) xs).1,(appAll name per (M.does (putT name per es.length x)) (es++[x]) xs).2.1,(appAll name per (M.does (putT name per es.length x)) (es++[x]) xs).2.2.1+1,(appAll name per (M.does (putT name per es.length x)) (es++[x]) xs).2.2.2)
    else (M,es,0,appNo M name per es x)
def fromB (name:ByteArray) (n:Nat) (f:ByteArray):Bool:=match ownN name f with
  | some k=>decide (n<=k)
  | none=>false
def truncM (M:Disk) (name:ByteArray) (per:Nat) (es:List En) (n:Nat):Disk:=
  if n / per*per<n/\n<min es.length (n / per*per+per) then (doAll M ((fallOwn M.files (fromB name n)).map rmT)).does (cutT (fileN name (n / per*per)) (frames ((es.take n).drop (n / per*per))).length)
  else doAll M ((fallOwn M.files (fromB name n)).map rmT)
def ownB (name:ByteArray) (f:ByteArray):Bool:=(ownN name f).isSome
def ownFiles (fs:Fs) (name:ByteArray):List ByteArray:=(fs.map (·.1)).filter (ownB name)
end Go.Wst.Sg
set_option maxRecDepth 100000
set_option synthInstance.maxSize 100000
set_option synthInstance.maxHeartbeats 400000
namespace Go.Proofs.YtigmfcgeljjgnaaGreatDoor
open Go.Wst
open Go.Wst.Dm
theorem DiskW.new {P R:Nat->Prop} {d mb ml:Nat} {room:Int} {W:World} (h:DiskAt W d mb ml NoB ⟨room,[],[],[],none,0⟩) (hm:1<=room/\room<=16777216) (hP:∀ k,P k->k<W.heap.size/\k≠d/\k≠mb/\k≠ml) (hR:∀ k,R k->k<W.heap.size/\k≠d/\k≠mb/\k≠ml):DiskW P R d ⟨room,[],[]⟩ W:=
 ⟨mb,ml,NoB,_,h,⟨rfl,rfl,Dm.Alike.nil,Dm.Alike.nil,⟨hm.1,hm.2,by simp [Rise],nofun,by show ((0:Nat):Int)<=room;omega⟩,by simp,nofun⟩,fun k e=>⟨(hP k e).1,by
  rintro ((e2 | e2 | e2 | ⟨a,ha,_⟩) | e2)
  ·exact (hP k e).2.1 e2
  ·exact (hP k e).2.2.1 e2
  ·exact (hP k e).2.2.2 e2
  ·cases ha
  ·exact e2⟩,fun k e=>⟨(hR k e).1,by
  rintro (e2 | e2 | e2 | ⟨a,ha,_⟩)
  ·exact (hR k e).2.1 e2
  ·exact (hR k e).2.2.1 e2
  ·exact (hR k e).2.2.2 e2
  ·cases ha⟩⟩
def wa:ByteArray:=⟨#[97]⟩
def wb':ByteArray:=⟨#[98]⟩
abbrev T1:Thing:=⟨0,wa,[104,105],0⟩
abbrev T2:Thing:=⟨0,wa,[121,111,117],0⟩
abbrev T3:Thing:=⟨0,wb',[49,50,51,52],0⟩
abbrev M1:Disk:=⟨8,[],[T1]⟩
abbrev M2:Disk:=⟨8,[(wa,[104,105])],[]⟩
abbrev M3:Disk:=⟨8,[(wa,[104,105])],[T2]⟩
theorem byteOk_iff (c:UInt8):byteOk c=true↔(97<=c.toNat/\c.toNat<=122)\/(48<=c.toNat/\c.toNat<=57)\/c.toNat=46:=by
 simp [byteOk,or_assoc]
theorem byteOk_f (c:UInt8):byteOk c=false↔(c.toNat<97\/122<c.toNat)/\(c.toNat<48\/57<c.toNat)/\c.toNat≠46:=by
 rw [<- Bool.not_eq_true,byteOk_iff]
 omega
theorem Name_ok (s:ByteArray) (w:World) (hs:s.size<=9223372036854775807):Ret Tryz.prog 79 #[.string s] w (fun v w'=>v=.bool (nameOk s)/\w=w'):=by
 refine ret_of_x (N:=46) (l:=[.string s]) Tryz.func79 rfl rfl (Nat.le_of_ble_eq_true rfl) ?_
 refine xq (xz ?_)
 refine x_seq (xq (xm (xl_v v_lens (xl_v v_lss (xm ?_)))))
 refine xl_split 7 (fun g7=>?_) (fun g7=>?_)
 ·refine xl_gs rfl EvO.eq (xl_gs rfl EvO.eq (xl_gs rfl EvO.eq (xl_Pk ?_)))
  refine xl_nil ?_
  refine x_condT ?_
  refine xq (xz ?_)
  refine x_ret ?_
  refine fin1 rfl ?_
  refine ⟨congrArg Value.bool (Eq.symm ?_),rfl⟩
  rw [nameOk_f]
  rintro ⟨h1,h2⟩
  first
   | omega
   | (have g0:=of_decide_eq_true g7;omega)
 refine xl_gv rfl EvO.eq v_move (xl_gv rfl EvO.eq v_lens (xl_gv rfl EvO.eq v_gtr (xl_Pk ?_)))
 refine xl_nil ?_
 refine x_if (fun c1=>?_) (fun c1=>?_)
 ·refine xq (xz ?_)
  refine x_ret ?_
  refine fin1 rfl ?_
  refine ⟨congrArg Value.bool (Eq.symm ?_),rfl⟩
  rw [nameOk_f]
  rintro ⟨h1,h2⟩
  omega
 have hsz:1<=s.size/\s.size<=24:=by
  have g0:=of_decide_eq_false g7
  omega
 refine x_skip (x_seq (xq (xz ?_)))
 refine x_block ?_
 refine x_loop (fun m τ ds w'=>ds=[]/\w=w'/\∃ k:Nat,m=s.size - k/\k<=s.size/\(∀ j (h:j<s.size),j<k->byteOk (s[j]'h)=true)/\Ev τ 0 (.string s)/\Ev τ 3 (.int .i64 (k:Int))) (s.size) ?start ?round
 case start=>
  exact ⟨rfl,rfl,0,rfl,by omega,fun j _ h=>by omega,ii,evc⟩
 case round=>
  intro m τ1 ds1 w1 hI
  obtain ⟨rfl,hww,k,rfl,hk,hall,e0,e3⟩:=hI
  refine x_seq (xq (xm (xm (xl_v v_lens (xl_v v_lss (xl_nil ?_))))))
  refine x_if (fun c2=>?_) (fun c2=>?_)
  ·have hk1:k<s.size:=by omega
   refine x_skip (x_seq (x_block (xq (xm (xm ?_)))))
   refine xl_v (v_indexS k rfl hk1) ?_
   refine xl_v v_lss (xm ?_)
   refine xl_split 22 (fun g22=>?_) (fun g22=>?_)
   ·refine xl_gs rfl EvO.eq (xl_gs rfl EvO.eq (xl_gs rfl EvO.eq (xl_gs rfl EvO.eq (xl_Pk ?_))))
    refine xm (xl_gv rfl EvO.eq v_move (xl_gv rfl EvO.eq v_move ?_))
    refine xl_gv rfl EvO.eq (v_indexS k rfl hk1) ?_
    refine xl_gv rfl EvO.eq v_lss (xl_gv rfl EvO.eq v_move ?_)
    refine xl_split 33 (fun g33=>?_) (fun g33=>?_)
    ·refine xl_gs rfl EvO.eq (xl_gs rfl EvO.eq (xl_gs rfl EvO.eq (xl_gs rfl EvO.eq ?_)))
     refine xl_gPk rfl EvO.eq ?_
     refine xl_Pk ?_
     refine xm (xl_gv rfl EvO.eq v_move (xl_gv rfl EvO.eq v_move ?_))
     refine xl_gv rfl EvO.eq (v_indexS k rfl hk1) ?_
     refine xl_gv rfl EvO.eq v_neq (xl_Pk ?_)
     refine xl_nil ?_
     refine x_if (fun c3=>?_) (fun c3=>?_)
     ·refine xq (xz ?_)
      refine x_ret ?_
      refine fin1 rfl ?_
      refine ⟨congrArg Value.bool (Eq.symm ?_),hww⟩
      rw [nameOk_f]
      intro _
      rw [List.all_eq_false]
      refine ⟨s[k]'hk1,List.mem_of_getElem? (toList_get s k hk1),?_⟩
      rw [Bool.not_eq_true,byteOk_f]
      (simp at *;omega)
     refine x_skip (x_regionL (xm ?_))
     refine xl_v (v_add (by omega)) ?_
     refine xz ?_
     refine ⟨_,?_,rfl,hww,k+1,rfl,by omega,?_,ii,evc⟩
     ·omega
     ·intro j hj hj2
      by_cases e:j=k
      ·subst e
       rw [<- Bool.not_eq_false,byteOk_f]
       rintro ⟨q1,q2,q3⟩
       (simp at g22;omega)
      ·exact hall j hj (by omega)
    refine xl_gv rfl EvO.eq v_move (xl_gv rfl EvO.eq v_move ?_)
    refine xl_gv rfl EvO.eq (v_indexS k rfl hk1) ?_
    refine xl_gv rfl EvO.eq v_gtr ?_
    refine xl_gPk rfl EvO.eq ?_
    refine xl_Pk ?_
    refine xm ?_
    refine xl_split 40 (fun g40=>?_) (fun g40=>?_)
    ·refine xl_gv rfl EvO.eq v_move (xl_gv rfl EvO.eq v_move ?_)
     refine xl_gv rfl EvO.eq (v_indexS k rfl hk1) ?_
     refine xl_gv rfl EvO.eq v_neq (xl_Pk ?_)
     refine xl_nil ?_
     refine x_if (fun c3=>?_) (fun c3=>?_)
     ·refine xq (xz ?_)
      refine x_ret ?_
      refine fin1 rfl ?_
      refine ⟨congrArg Value.bool (Eq.symm ?_),hww⟩
      rw [nameOk_f]
      intro _
      rw [List.all_eq_false]
      refine ⟨s[k]'hk1,List.mem_of_getElem? (toList_get s k hk1),?_⟩
      rw [Bool.not_eq_true,byteOk_f]
      (simp at *;omega)
     refine x_skip (x_regionL (xm ?_))
     refine xl_v (v_add (by omega)) ?_
     refine xz ?_
     refine ⟨_,?_,rfl,hww,k+1,rfl,by omega,?_,ii,evc⟩
     ·omega
     ·intro j hj hj2
      by_cases e:j=k
      ·subst e
       rw [<- Bool.not_eq_false,byteOk_f]
       rintro ⟨q1,q2,q3⟩
       (simp at g22;omega)
      ·exact hall j hj (by omega)
    refine xl_gs rfl EvO.eq (xl_gs rfl EvO.eq (xl_gs rfl EvO.eq (xl_gs rfl EvO.eq (xl_Pk ?_))))
    refine xl_nil ?_
    refine x_condF ?_
    refine x_skip (x_regionL (xm ?_))
    refine xl_v (v_add (by omega)) ?_
    refine xz ?_
    refine ⟨_,?_,rfl,hww,k+1,rfl,by omega,?_,ii,evc⟩
    ·omega
    ·intro j hj hj2
     by_cases e:j=k
     ·subst e
      rw [<- Bool.not_eq_false,byteOk_f]
      rintro ⟨q1,q2,q3⟩
      first
       | (simp at g22;omega)
       | (simp at c3;omega)
       | (simp at g28 g22 c3;omega)
       | (simp at *;omega)
     ·exact hall j hj (by omega)
   refine xl_gv rfl EvO.eq v_move (xl_gv rfl EvO.eq v_move ?_)
   refine xl_gv rfl EvO.eq (v_indexS k rfl hk1) ?_
   refine xl_gv rfl EvO.eq v_gtr (xl_Pk ?_)
   refine xm ?_
   refine xl_split 28 (fun g28=>?_) (fun g28=>?_)
   ·refine xl_gv rfl EvO.eq v_move (xl_gv rfl EvO.eq v_move ?_)
    refine xl_gv rfl EvO.eq (v_indexS k rfl hk1) ?_
    refine xl_gv rfl EvO.eq v_lss (xl_gv rfl EvO.eq v_move ?_)
    refine xl_split 33 (fun g33=>?_) (fun g33=>?_)
    ·refine xl_gs rfl EvO.eq (xl_gs rfl EvO.eq (xl_gs rfl EvO.eq (xl_gs rfl EvO.eq ?_)))
     refine xl_gPk rfl EvO.eq ?_
     refine xl_Pk ?_
     refine xm (xl_gv rfl EvO.eq v_move (xl_gv rfl EvO.eq v_move ?_))
     refine xl_gv rfl EvO.eq (v_indexS k rfl hk1) ?_
     refine xl_gv rfl EvO.eq v_neq (xl_Pk ?_)
     refine xl_nil ?_
     refine x_if (fun c3=>?_) (fun c3=>?_)
     ·refine xq (xz ?_)
      refine x_ret ?_
      refine fin1 rfl ?_
      refine ⟨congrArg Value.bool (Eq.symm ?_),hww⟩
      rw [nameOk_f]
      intro _
      rw [List.all_eq_false]
      refine ⟨s[k]'hk1,List.mem_of_getElem? (toList_get s k hk1),?_⟩
      rw [Bool.not_eq_true,byteOk_f]
      (simp at *;omega)
     refine x_skip (x_regionL (xm ?_))
     refine xl_v (v_add (by omega)) ?_
     refine xz ?_
     refine ⟨_,?_,rfl,hww,k+1,rfl,by omega,?_,ii,evc⟩
     ·omega
     ·intro j hj hj2
      by_cases e:j=k
      ·subst e
       rw [<- Bool.not_eq_false,byteOk_f]
       rintro ⟨q1,q2,q3⟩
       (simp at g22;omega)
      ·exact hall j hj (by omega)
    refine xl_gv rfl EvO.eq v_move (xl_gv rfl EvO.eq v_move ?_)
    refine xl_gv rfl EvO.eq (v_indexS k rfl hk1) ?_
    refine xl_gv rfl EvO.eq v_gtr ?_
    refine xl_gPk rfl EvO.eq ?_
    refine xl_Pk ?_
    refine xm ?_
    refine xl_split 40 (fun g40=>?_) (fun g40=>?_)
    ·refine xl_gv rfl EvO.eq v_move (xl_gv rfl EvO.eq v_move ?_)
     refine xl_gv rfl EvO.eq (v_indexS k rfl hk1) ?_
     refine xl_gv rfl EvO.eq v_neq (xl_Pk ?_)
     refine xl_nil ?_
     refine x_if (fun c3=>?_) (fun c3=>?_)
     ·refine xq (xz ?_)
      refine x_ret ?_
      refine fin1 rfl ?_
      refine ⟨congrArg Value.bool (Eq.symm ?_),hww⟩
      rw [nameOk_f]
      intro _
      rw [List.all_eq_false]
      refine ⟨s[k]'hk1,List.mem_of_getElem? (toList_get s k hk1),?_⟩
      rw [Bool.not_eq_true,byteOk_f]
      (simp at *;omega)
     refine x_skip (x_regionL (xm ?_))
     refine xl_v (v_add (by omega)) ?_
     refine xz ?_
     refine ⟨_,?_,rfl,hww,k+1,rfl,by omega,?_,ii,evc⟩
     ·omega
     ·intro j hj hj2
      by_cases e:j=k
      ·subst e
       rw [<- Bool.not_eq_false,byteOk_f]
       rintro ⟨q1,q2,q3⟩
       (simp at g22;omega)
      ·exact hall j hj (by omega)
    refine xl_gs rfl EvO.eq (xl_gs rfl EvO.eq (xl_gs rfl EvO.eq (xl_gs rfl EvO.eq (xl_Pk ?_))))
    refine xl_nil ?_
    refine x_condF ?_
    refine x_skip (x_regionL (xm ?_))
    refine xl_v (v_add (by omega)) ?_
    refine xz ?_
    refine ⟨_,?_,rfl,hww,k+1,rfl,by omega,?_,ii,evc⟩
    ·omega
    ·intro j hj hj2
     by_cases e:j=k
     ·subst e
      rw [<- Bool.not_eq_false,byteOk_f]
      rintro ⟨q1,q2,q3⟩
      first
       | (simp at g22;omega)
       | (simp at c3;omega)
       | (simp at g28 g22 c3;omega)
       | (simp at *;omega)
     ·exact hall j hj (by omega)
   refine xl_gs rfl EvO.eq (xl_gs rfl EvO.eq (xl_gs rfl EvO.eq (xl_gs rfl EvO.eq (xl_gs rfl EvO.eq ?_))))
   refine xl_gu rfl EvO.eq ?_
   refine xl_gu rfl EvO.eq ?_
   refine xl_gu rfl EvO.eq ?_
   refine xl_gu rfl EvO.eq ?_
   refine xl_gs rfl EvO.eq (xl_Pk ?_)
   refine xm (xl_gs rfl EvO.eq (xl_gs rfl EvO.eq (xl_gs rfl EvO.eq (xl_gs rfl EvO.eq (xl_Pk ?_)))))
   refine xl_nil ?_
   refine x_condF ?_
   refine x_skip (x_regionL (xm ?_))
   refine xl_v (v_add (by omega)) ?_
   refine xz ?_
   refine ⟨_,?_,rfl,hww,k+1,rfl,by omega,?_,ii,evc⟩
   ·omega
   ·intro j hj hj2
    by_cases e:j=k
    ·subst e
     rw [<- Bool.not_eq_false,byteOk_f]
     rintro ⟨q1,q2,q3⟩
     first
      | (simp at g22;omega)
      | (simp at c3;omega)
      | (simp at g28 g22 c3;omega)
      | (simp at *;omega)
    ·exact hall j hj (by omega)
  refine x_exit (xq (xz ?_))
  refine x_ret ?_
  refine fin1 rfl ?_
  refine ⟨congrArg Value.bool (Eq.symm ?_),hww⟩
  rw [nameOk_iff]
  refine ⟨hsz.1,hsz.2,?_⟩
  rw [List.all_eq_true]
  intro x hx
  obtain ⟨j,hj,rfl⟩:=List.getElem_of_mem hx
  have hj2:j<s.size:=by rw [toList_len] at hj;exact hj
  have h2:=toList_get s j hj2
  rw [List.getElem?_eq_getElem hj] at h2
  rw [Option.some.inj h2]
  exact hall j hj2 (by omega)
end Go.Proofs.YtigmfcgeljjgnaaGreatDoor
namespace Go.Proofs
open Go.Shelf
def Tryz.laysM243_ren:Go.Shelf.Ren:=⟨fun | 243=>119 | 246=>153 | 283=>169 | 284=>170 | 285=>171 | 286=>172 | 129=>189 | 317=>192 | 318=>193 | 319=>194 | 320=>195 | 337=>202 | 338=>203 | n=>n,fun | 3=>3 | 9=>9 | 2=>2 | 4=>4 | 171=>220 | 0=>0 | 53=>206 | 37=>60 | 5=>5 | 173=>223 | 212=>243 | 51=>176 | 20=>20 | 213=>244 | 46=>178 | 232=>255 | 233=>256 | n=>n,fun | 17=>0 | 18=>1 | 19=>2 | n=>n⟩
def Tryz.laysM171_ren:Go.Shelf.Ren:=⟨fun | 171=>98 | 243=>119 | 246=>153 | 283=>169 | 284=>170 | 285=>171 | 286=>172 | 129=>189 | 317=>192 | 318=>193 | 319=>194 | 320=>195 | 337=>202 | 338=>203 | n=>n,fun | 3=>3 | 9=>9 | 2=>2 | 4=>4 | 171=>220 | 0=>0 | 53=>206 | 37=>60 | 5=>5 | 173=>223 | 212=>243 | 51=>176 | 20=>20 | 213=>244 | 46=>178 | 232=>255 | 233=>256 | n=>n,fun | 17=>0 | 18=>1 | 19=>2 | n=>n⟩
theorem Tryz.laysM171:Go.Proofs.LaysM.n171 Tryz.prog Tryz.laysM171_ren:={
  mixed:=by kernel_rfl
  f129:=Tryz.func189.trans (congrArg some (by kernel_rfl))
  f171:=Tryz.func98.trans (congrArg some (by kernel_rfl))
  f243:=Tryz.func119.trans (congrArg some (by kernel_rfl))
  f246:=Tryz.func153.trans (congrArg some (by kernel_rfl))
  f283:=Tryz.func169.trans (congrArg some (by kernel_rfl))
  f284:=Tryz.func170.trans (congrArg some (by kernel_rfl))
  f285:=Tryz.func171.trans (congrArg some (by kernel_rfl))
  f286:=Tryz.func172.trans (congrArg some (by kernel_rfl))
  f317:=Tryz.func192.trans (congrArg some (by kernel_rfl))
  f318:=Tryz.func193.trans (congrArg some (by kernel_rfl))
  f319:=Tryz.func194.trans (congrArg some (by kernel_rfl))
  f320:=Tryz.func195.trans (congrArg some (by kernel_rfl))
  f337:=Tryz.func202.trans (congrArg some (by kernel_rfl))
  f338:=Tryz.func203.trans (congrArg some (by kernel_rfl))
  t0:=Tryz.underlying0
  a0:=Tryz.isAgg0
  z0:=Tryz.sizeOf0
  v0:=Tryz.zeroValue0
  t2:=Tryz.underlying2
  a2:=Tryz.isAgg2
  z2:=Tryz.sizeOf2
  v2:=Tryz.zeroValue2
  t3:=Tryz.underlying3
  a3:=Tryz.isAgg3
  z3:=Tryz.sizeOf3
  v3:=Tryz.zeroValue3
  t4:=Tryz.underlying4
  a4:=Tryz.isAgg4
  z4:=Tryz.sizeOf4
  v4:=Tryz.zeroValue4
  t5:=Tryz.underlying5
  a5:=Tryz.isAgg5
  z5:=Tryz.sizeOf5
  v5:=Tryz.zeroValue5
  t9:=Tryz.underlying9
  a9:=Tryz.isAgg9
  z9:=Tryz.sizeOf9
  v9:=Tryz.zeroValue9
  t20:=Tryz.underlying20
  a20:=Tryz.isAgg20
  z20:=Tryz.sizeOf20
  v20:=Tryz.zeroValue20
  t37:=Tryz.underlying60
  a37:=Tryz.isAgg60
  z37:=Tryz.sizeOf60
  v37:=Tryz.zeroValue60
  t46:=Tryz.underlying178
  a46:=Tryz.isAgg178
  z46:=Tryz.sizeOf178
  v46:=Tryz.zeroValue178
  t51:=Tryz.underlying176
  a51:=Tryz.isAgg176
  z51:=Tryz.sizeOf176
  v51:=Tryz.zeroValue176
  t53:=Tryz.underlying206
  a53:=Tryz.isAgg206
  z53:=Tryz.sizeOf206
  v53:=Tryz.zeroValue206
  t171:=Tryz.underlying220
  a171:=Tryz.isAgg220
  z171:=Tryz.sizeOf220
  v171:=Tryz.zeroValue220
  t173:=Tryz.underlying223
  a173:=Tryz.isAgg223
  z173:=Tryz.sizeOf223
  v173:=Tryz.zeroValue223
  t212:=Tryz.underlying243
  a212:=Tryz.isAgg243
  z212:=Tryz.sizeOf243
  v212:=Tryz.zeroValue243
  t213:=Tryz.underlying244
  a213:=Tryz.isAgg244
  z213:=Tryz.sizeOf244
  t232:=Tryz.underlying255
  a232:=Tryz.isAgg255
  z232:=Tryz.sizeOf255
  v232:=Tryz.zeroValue255
  t233:=Tryz.underlying256
  a233:=Tryz.isAgg256
  z233:=Tryz.sizeOf256
  v233:=Tryz.zeroValue256
  g17:=by kernel_rfl
  g18:=by kernel_rfl
  g19:=by kernel_rfl
  i0:=by kernel_rfl
  i2:=by kernel_rfl
  i3:=by kernel_rfl
  i4:=by kernel_rfl
  i5:=by kernel_rfl
  i9:=by kernel_rfl
  i20:=by kernel_rfl
  i37:=by kernel_rfl
  i46:=by kernel_rfl
  i51:=by kernel_rfl
  i53:=by kernel_rfl
  i171:=by kernel_rfl
  i173:=by kernel_rfl
  i212:=by kernel_rfl
  i232:=by kernel_rfl
  i233:=by kernel_rfl
  m17:=by kernel_rfl
  m18:=by kernel_rfl
  m19:=by kernel_rfl }
open Go.RowKit Go.Sort Go.Lib in
theorem Tryz.strconv_Itoa (n:Int) (h0:-9223372036854775808<=n) (h1:n<=9223372036854775807) (w:World) (htab:Lib.TabIs Tryz.prog w "internal/strconv.uint64pow10" .u64 Lib.pow10Tab) :
    Calls Tryz.prog 98 #[.int .i64 n] w fun e w'=>e=.returned (.string ⟨(Lib.itoa n).toArray⟩)/\∃ k os,w'=grow (w.drewN k) os:=Any.strconv_Itoa Tryz.laysM171 n h0 h1 w htab
def Tryz.lays190_ren:Go.Shelf.Ren:=⟨fun | 190=>149 | 125=>166 | 258=>165 | 128=>188 | 129=>189 | 302=>179 | 303=>180 | 304=>181 | 305=>182 | 306=>183 | 307=>184 | 308=>185 | 309=>186 | 310=>187 | 333=>196 | 329=>197 | 330=>198 | 334=>199 | 335=>200 | 336=>201 | 344=>204 | n=>n,fun | 31=>51 | 9=>9 | 3=>3 | 46=>178 | 0=>0 | 51=>176 | 53=>206 | 4=>4 | 183=>234 | 182=>233 | 131=>154 | 5=>5 | 218=>246 | 222=>250 | 228=>252 | 229=>253 | n=>n,fun | n=>n⟩
theorem Tryz.lays190:Go.Proofs.Lays.n190 Tryz.prog Tryz.lays190_ren:={
  mixed:=by kernel_rfl
  f125:=Tryz.func166.trans (congrArg some (by kernel_rfl))
  f128:=Tryz.func188.trans (congrArg some (by kernel_rfl))
  f129:=Tryz.func189.trans (congrArg some (by kernel_rfl))
  f190:=Tryz.func149.trans (congrArg some (by kernel_rfl))
  f258:=Tryz.func165.trans (congrArg some (by kernel_rfl))
  f302:=Tryz.func179.trans (congrArg some (by kernel_rfl))
  f303:=Tryz.func180.trans (congrArg some (by kernel_rfl))
  f304:=Tryz.func181.trans (congrArg some (by kernel_rfl))
  f305:=Tryz.func182.trans (congrArg some (by kernel_rfl))
  f306:=Tryz.func183.trans (congrArg some (by kernel_rfl))
  f307:=Tryz.func184.trans (congrArg some (by kernel_rfl))
  f308:=Tryz.func185.trans (congrArg some (by kernel_rfl))
  f309:=Tryz.func186.trans (congrArg some (by kernel_rfl))
  f310:=Tryz.func187.trans (congrArg some (by kernel_rfl))
  f329:=Tryz.func197.trans (congrArg some (by kernel_rfl))
  f330:=Tryz.func198.trans (congrArg some (by kernel_rfl))
  f333:=Tryz.func196.trans (congrArg some (by kernel_rfl))
  f334:=Tryz.func199.trans (congrArg some (by kernel_rfl))
  f335:=Tryz.func200.trans (congrArg some (by kernel_rfl))
  f336:=Tryz.func201.trans (congrArg some (by kernel_rfl))
  f344:=Tryz.func204.trans (congrArg some (by kernel_rfl))
  t0:=Tryz.underlying0
  a0:=Tryz.isAgg0
  z0:=Tryz.sizeOf0
  v0:=Tryz.zeroValue0
  t3:=Tryz.underlying3
  a3:=Tryz.isAgg3
  z3:=Tryz.sizeOf3
  v3:=Tryz.zeroValue3
  t4:=Tryz.underlying4
  a4:=Tryz.isAgg4
  z4:=Tryz.sizeOf4
  v4:=Tryz.zeroValue4
  t5:=Tryz.underlying5
  a5:=Tryz.isAgg5
  z5:=Tryz.sizeOf5
  v5:=Tryz.zeroValue5
  t9:=Tryz.underlying9
  a9:=Tryz.isAgg9
  z9:=Tryz.sizeOf9
  v9:=Tryz.zeroValue9
  t31:=Tryz.underlying51
  a31:=Tryz.isAgg51
  z31:=Tryz.sizeOf51
  v31:=Tryz.zeroValue51
  t46:=Tryz.underlying178
  a46:=Tryz.isAgg178
  z46:=Tryz.sizeOf178
  v46:=Tryz.zeroValue178
  t51:=Tryz.underlying176
  a51:=Tryz.isAgg176
  z51:=Tryz.sizeOf176
  v51:=Tryz.zeroValue176
  t53:=Tryz.underlying206
  a53:=Tryz.isAgg206
  z53:=Tryz.sizeOf206
  v53:=Tryz.zeroValue206
  t131:=Tryz.underlying154
  a131:=Tryz.isAgg154
  z131:=Tryz.sizeOf154
  v131:=Tryz.zeroValue154
  t182:=Tryz.underlying233
  a182:=Tryz.isAgg233
  z182:=Tryz.sizeOf233
  v182:=Tryz.zeroValue233
  t183:=Tryz.underlying234
  a183:=Tryz.isAgg234
  z183:=Tryz.sizeOf234
  v183:=Tryz.zeroValue234
  t218:=Tryz.underlying246
  a218:=Tryz.isAgg246
  z218:=Tryz.sizeOf246
  v218:=Tryz.zeroValue246
  t222:=Tryz.underlying250
  a222:=Tryz.isAgg250
  z222:=Tryz.sizeOf250
  v222:=Tryz.zeroValue250
  t228:=Tryz.underlying252
  a228:=Tryz.isAgg252
  z228:=Tryz.sizeOf252
  v228:=Tryz.zeroValue252
  t229:=Tryz.underlying253
  a229:=Tryz.isAgg253
  z229:=Tryz.sizeOf253
  v229:=Tryz.zeroValue253 }
open Go.Sort Go.RowKit in
theorem Tryz.slices_Sort_string (blk off cap:Nat) (ss:List (List UInt8)) (w:World) (hH:Holds encStr w blk off ss.toArray) (hblk:blk<w.heap.size) (hsz:ss.length<4611686018427387904) :
    Calls Tryz.prog 149 #[.slice (some ⟨blk,off,none⟩) ss.length cap] w fun e w'=>
      e=.returned (.tuple #[])/\∃ n os,w'=grow (putRow encStr (Sort.ahead w n) blk off (ss.mergeSort fun x y=>decide (x<=y)).toArray) os:=Any.slices_Sort_string Tryz.lays190 blk off cap ss w hH hblk hsz
open Go.RowKit Go.Sort in
theorem Tryz.slices_Sort_string_none (p:Option Addr) (cap:Nat) (w:World) :
    Calls Tryz.prog 149 #[.slice p 0 cap] w fun e w'=>e=.returned (.tuple #[])/\w'=w:=Any.slices_Sort_string_none Tryz.lays190 p cap w
end Go.Proofs
namespace Go.Proofs.YtigmfcgeljjgnaaGreatDoor
open Go.Wst
open Go.Wst.Dm
abbrev strs (ks:List ByteArray):List Value:=ks.map Value.string
def toB (l:List UInt8):ByteArray:=⟨l.toArray⟩
def sortB (ks:List ByteArray):List ByteArray:=((ks.map (fun s=>s.data.toList)).mergeSort fun x y=>decide (x<=y)).map toB
theorem toB_data (s:ByteArray):toB s.data.toList=s:=by cases s;rfl
theorem strs_enc (ks:List ByteArray):strs ks=(ks.map (fun s=>s.data.toList)).map encStr:=by
 simp only [strs,List.map_map]
 apply List.map_congr_left
 intro s _
 show Value.string s=Value.string (toB s.data.toList)
 rw [toB_data]
theorem strs_toB (ls:List (List UInt8)):strs (ls.map toB)=ls.map encStr:=by
 simp only [strs,List.map_map]
 rfl
theorem sortB_perm {ks L:List ByteArray} (hp:ks.Perm L) (hr:L.Pairwise blt):sortB ks=L:=by
 have h1:(ks.map (fun s=>s.data.toList)).mergeSort (fun x y=>decide (x<=y))=L.map (fun s=>s.data.toList):=by
  have tr:∀ a b c:List UInt8,decide (a<=b)=true->decide (b<=c)=true->decide (a<=c)=true:=fun a b c h1 h2=>decide_eq_true (List.le_trans (of_decide_eq_true h1) (of_decide_eq_true h2))
  have to:∀ a b:List UInt8,(decide (a<=b) || decide (b<=a))=true:=fun a b=>by
   rcases List.le_total a b with h | h<;>simp [h]
  refine List.Perm.eq_of_pairwise (le:=fun x y=>decide (x<=y)=true) ?_ (List.pairwise_mergeSort tr to _) ?_ ?_
  ·intro a b _ _ h1 h2
   exact List.le_antisymm (of_decide_eq_true h1) (of_decide_eq_true h2)
  ·rw [List.pairwise_map]
   exact hr.imp (fun {a b} h=>decide_eq_true (by
    have h':a.data.toList<b.data.toList:=by rw [<- ByteArray.toList_eq,<- ByteArray.toList_eq];exact h
    exact List.le_of_lt h'))
  ·exact (List.mergeSort_perm _ _).trans (hp.map _)
 rw [sortB,h1,List.map_map]
 have:(toB ∘ fun s:ByteArray=>s.data.toList)=id:=by funext s;exact toB_data s
 rw [this,List.map_id]
def KeysAl (ks:List ByteArray):Seen->Prop:=fun pre=>∃ l rest:List ByteArray,pre=l.map (fun k=>[Value.string k])/\(l++rest).Perm ks
def KeysFin (ks:List ByteArray):Seen->Prop:=fun pre=>∃ l:List ByteArray,pre=l.map (fun k=>[Value.string k])/\l.Perm ks
theorem mkeys_ok (m:Option Nat) (w:World):Ret Tryz.prog 115 #[.map m] w (fun v w'=>∃ b,v=.func (.func 150) ([]:List Value).toArray [Value.pointer (some ⟨b,0,none⟩)].toArray/\Blk w' b (.cells #[.map m] 87 (0,0))/\w.heap.size<=b/\Lk w' w NoB):=by
 refine ret_of_x (N:=4) (l:=[.map m]) Tryz.func115 rfl rfl (Nat.le_of_ble_eq_true rfl) ?_
 refine xq ?_
 refine xl_e (e_box fun b w1 nb lb kb=>?_)
 refine xz ?_
 refine xq (xl_v v_makeFunc (xz ?_))
 refine x_ret ?_
 refine fin1 rfl ?_
 exact ⟨b,rfl,ii,Nat.le_of_eq nb.eq.symm,lkc⟩
theorem mkeys1_ok (y:Value) (b mb:Nat) (kvs:List (ByteArray×Value)) (I J:Seen->(Nat->Prop)->World->Prop) (F:Nat->Prop) (w:World) [Blk w b (.cells #[.map (some mb)] 87 (0,0))] (hm:MapB w mb Value.string kvs) (w0:World) (hy:YieldsI Tryz.prog y (KeysAl (kvs.map (·.1))) I J w0) (hw0:w0.heap.size<=w.heap.size) (h0:I [] F w) (hF:∀ k,F k->¬ (k=b\/k=mb)):Ret Tryz.prog 150 #[y,.pointer (some ⟨b,0,none⟩)] w (fun _ w'=>∃ pre F',((KeysFin (kvs.map (·.1)) pre/\I pre F' w')\/J pre F' w')/\Keep F w w'/\Sub F' F w):=by
 haveI hmi:MapI w mb _ _ _:=⟨hm⟩
 have hmlt:=hm.lt
 refine ret_of_x (N:=14) (l:=[y,.pointer (some ⟨b,0,none⟩)]) Tryz.func150 rfl rfl (Nat.le_of_ble_eq_true rfl) ?_
 refine xq (xl_Lc ?_)
 refine xl_e (e_range fun it w1 ni li hit hhas=>?_)
 refine xl_nil ?_
 refine x_block ?_
 have hFlt:=hy.i.lt _ _ _ h0
 refine x_loop (fun m τ ds w'=>ds=[]/\∃ (ks rest:List (ByteArray×Value)) (Fc:Nat->Prop),m=rest.length/\MapIt w' it mb Value.string kvs ks rest/\I (ks.map (fun p=>[Value.string p.1])) Fc w'/\¬ Fc it/\¬ Fc mb/\Keep F w w'/\Sub Fc F w/\Ev τ 0 y/\Ev τ 5 (.pointer (some ⟨it,0,none⟩))) (kvs.length) ?start ?round
 case start=>
  refine ⟨rfl,[],kvs,F,rfl,hit,hy.i.keep _ _ _ _ _ h0 (kpc:Keep NoB w w1) (fun _ _ h=>h) (fun _ h=>h.elim),?_,?_,(kpc:Keep NoB w w1).mono (fun _ _ h=>h.elim),Sub.refl _ _,ii,ii⟩
  ·intro e;have:=hFlt _ e;rw [ni.eq] at this;omega
  ·exact fun e=>hF _ e (.inr rfl)
 case round=>
  intro m τ2 ds2 w2 hI
  obtain ⟨rfl,ks,rest,Fc,rfl,hmit,hI,hnit,hnmb,hkF,hsF,e0,e5⟩:=hI
  have hit1:=hmit.lt.1
  have hne:it≠mb:=fun e=>by have:=ni.eq;omega
  have hwit:w.heap.size<=it:=by rw [ni.eq];exact Ge.le
  refine xq ?_
  refine xl_e (e_next hmit hne fun bb qs w3 l1 hb0 hb1=>?_)
  refine xl_v v_extract (xl_nil ?_)
  refine x_seq ?_
  refine x_condE (fun c1=>?_) (fun c1=>?_)
  ·obtain ⟨⟨k,u⟩,rest',hperm,hmi2⟩:=hb1 c1
   have hI2:=hy.i.keep _ _ _ _ _ hI l1.keep (fun j hj e=>hnit (by have e':j=it:=e;rw [<- e'];exact hj)) (fun j e=>by have e':j=it:=e;omega)
   have hal:KeysAl (kvs.map (·.1)) (ks.map (fun p=>[Value.string p.1])++[[Value.string k]]):=⟨ks.map (·.1)++[k],rest'.map (·.1),by simp,by
    have:=hmi2.perm.map (·.1)
    simpa using this⟩
   refine x_skip (x_block (xq ?_))
   refine xl_v (v_entry hmi2 (fun h=>h) (fun h=>h)) ?_
   refine xl_v v_extract (xz ?_)
   refine xq (xm (xm ?_))
   refine xl_callv (hy.step _ _ Fc w3 hal hI2) ?_
   rintro _ w4 ⟨bb2,F2,rfl,hI3,hk3,hs3⟩
   refine xl_v v_not (xl_nil ?_)
   refine x_condE (fun c2=>?_) (fun c2=>?_)
   ·refine x_ret ?_
    refine fin0r rfl ?_
    rw [if_neg (by simpa using c2)] at hI3
    refine ⟨_,F2,.inr hI3,?_,?_⟩
    ·refine (hkF.then l1.keep (fun j hj e=>by have e':j=it:=e;omega)).then hk3 (fun j hj e=>?_)
     exact (hsF j e).elim id (fun h=>by omega)
    ·intro j hj
     rcases hs3 j hj with e | e
     ·exact hsF j e
     ·exact .inr (Nat.le_trans (Nat.le_trans hkF.size l1.keep.size) e)
   refine x_skip ?_
   refine ⟨_,?_,rfl,ks++[(k,u)],rest',F2,rfl,hmi2.keep hk3 hnit hnmb,?_,?_,?_,?_,?_,ii,ii⟩
   ·rw [hperm.length_eq];simp
   ·rw [if_pos (by simpa using c2)] at hI3
    simpa using hI3
   ·intro e
    rcases hs3 _ e with e | e
    ·exact hnit e
    ·have:=hmi2.lt.1;omega
   ·intro e
    rcases hs3 _ e with e | e
    ·exact hnmb e
    ·have:=hmi2.lt.2;omega
   ·refine (hkF.then l1.keep (fun j hj e=>by have e':j=it:=e;omega)).then hk3 (fun j hj e=>?_)
    exact (hsF j e).elim id (fun h=>by omega)
   ·intro j hj
    rcases hs3 j hj with e | e
    ·exact hsF j e
    ·exact .inr (Nat.le_trans (Nat.le_trans hkF.size l1.keep.size) e)
  refine x_exit ?_
  refine fin0 rfl ?_
  obtain ⟨hrest,hmi2⟩:=hb0 c1
  subst hrest
  refine ⟨_,Fc,.inl ⟨⟨ks.map (·.1),by simp,?_⟩,hy.i.keep _ _ _ _ _ hI l1.keep (fun j hj e=>hnit (by have e':j=it:=e;rw [<- e'];exact hj)) (fun j e=>by have e':j=it:=e;omega)⟩,hkF.then l1.keep (fun j hj e=>by have e':j=it:=e;omega),hsF⟩
  have:=hmi2.perm.map (·.1)
  simpa using this
def AppI (b2:Nat) (tc te:TypeId) (base:Nat):Seen->(Nat->Prop)->World->Prop:=fun pre F W=>
 ∃ (ks:List ByteArray) (V:Value),pre=ks.map (fun k=>[Value.string k])/\W.heap[b2]?=some (.cells [V].toArray tc (0,0))/\W.ownsRow base te 1 V ks.length (strs ks)/\(∀ k,F k↔(k=b2\/V.ownBlock=some k))/\base<=W.heap.size
theorem appI_stable {b2:Nat} {tc te:TypeId} {base:Nat} {w0:World}:Stable (AppI b2 tc te base) w0:=by
 refine ⟨?_,?_⟩
 ·rintro pre F W ⟨ks,V,_,h1,h2,h3,_⟩ k hk
  rcases (h3 k).1 hk with e | e
  ·subst e;exact (Array.getElem?_eq_some_iff.1 h1).1
  ·exact (h2.lt k e).2
 ·rintro pre F W W' S ⟨ks,V,h0,h1,h2,h3,h4⟩ hk hs _
  exact ⟨ks,V,h0,(hk.block b2 (Array.getElem?_eq_some_iff.1 h1).1 (hs b2 ((h3 b2).2 (.inl rfl)))).trans h1,own_keep h2 hk (fun k hk=>hs k ((h3 k).2 (.inr hk))),h3,Nat.le_trans h4 hk.size⟩
theorem appendSeq_ok (gf:FuncId) (gc:List Value) (Own:Nat->Prop) (Al Fin:Seen->Prop) (w:World) (hit:∀ W,Lk W w NoB->IterI Tryz.prog (.func (.func gf) ([]:List Value).toArray gc.toArray) Own Al Fin W) (hOwn:∀ k,Own k->k<w.heap.size) (hAl:∀ pre,Al pre->∃ ks:List ByteArray,pre=ks.map (fun k=>[Value.string k])/\ks.length<=1000000):Ret Tryz.prog 164 #[.slice none 0 0,.func (.func gf) ([]:List Value).toArray gc.toArray] w (fun v w'=>∃ (ks:List ByteArray) (A:Option Addr) (c:Nat),Fin (ks.map (fun k=>[Value.string k]))/\v=.slice A ks.length c/\w'.ownsRow w.heap.size 9 1 v ks.length (strs ks)/\Lk w' w NoB):=by
 refine ret_of_x (N:=13) (l:=[.slice none 0 0,.func (.func gf) ([]:List Value).toArray gc.toArray]) Tryz.func164 rfl rfl (Nat.le_of_ble_eq_true rfl) ?_
 refine xq ?_
 refine xl_e (e_box fun b2 w1 nb2 lb2 kb2=>?_)
 refine xz ?_
 refine x_seq (xq (xm (xl_nil ?_)))
 refine x_block ?_
 have hb2w:w.heap.size<=b2:=Nat.le_of_eq nb2.eq.symm
 have hb2l:b2<w1.heap.size:=Has.lt
 refine x_range (ps:=[7]) (Own) (Al) (Fin) (fun W l=>hit W lkc) (fun k hk=>Nat.lt_of_lt_of_le (hOwn k hk) Ge.le) (fun pre v h=>(by obtain ⟨ks,h1,_⟩:=hAl _ h;obtain ⟨a,b,_,_,h2⟩:=List.map_eq_append_iff.1 h1.symm;obtain ⟨k,c,_,h3,_⟩:=List.map_eq_cons_iff.1 h2;rw [<- h3];rfl)) (AppI b2 51 9 w1.heap.size) (fun _ _ _ _=>False) (OneB b2) (appI_stable) (fun _=>⟨fun _ _ _ h=>h.elim,fun _ _ _ _ _ h=>h.elim⟩) (⟨[],.slice none 0 0,rfl,Blk.eq,World.ownsRow_nil _ _ _ _,fun k=>⟨fun e=>.inl e,fun e=>e.elim id (fun e=>by cases e)⟩,Nat.le_refl _⟩) (fun k hk e=>by have e':k=b2:=hk;have:=hOwn k e;omega) (fun v τ=>Ev τ 2 (.pointer (some ⟨b2,0,none⟩))/\∃ x,v=[x]/\Ev τ 5 x) ?assign ?body ?normal ?jump
 case assign=>
  intro l2 v2 w2 hv2
  obtain ⟨x,rfl⟩:∃ x,v2=[x]:=List.length_eq_one_iff.1 hv2
  simp only [updL]
  refine x_regionL (xz ?_)
  exact ⟨rfl,ii,x,rfl,ii⟩
 case body=>
  intro l pre v F w3 τ3 ds3 hal hI hB
  obtain ⟨ks,V,rfl,hb2,hown,hFe,hsz⟩:=hI
  obtain ⟨e2,x,rfl,e5⟩:=hB
  obtain ⟨ks2,hks2,hlen2⟩:=hAl _ hal
  obtain ⟨a,b,rfl,h1,h2⟩:=List.map_eq_append_iff.1 hks2.symm
  obtain ⟨k,c,rfl,h3,h4⟩:=List.map_eq_cons_iff.1 h2
  obtain rfl:Value.string k=x:=by simpa using h3
  have hla:a.length=ks.length:=by simpa using congrArg List.length h1
  have hkl:ks.length+1<=1000000:=by simp at hlen2;omega
  haveI kb:Blk w3 b2 _:=⟨hb2⟩
  haveI nb:NotS (OwnB V) b2:=⟨fun e=>by have:=(hown.lt _ (Eq.symm e)).1;omega⟩
  refine x_block (x_regionL (xl_Lc ?_))
  refine xm ?_
  refine xl_e (e_buildSliceN rfl fun b3 w4 n3 l3 k3=>?_)
  refine xl_e (e_append' (own_ext hown lkc) (Nat.le_trans hsz Ge.le) rfl Cell1L.eq (by decide) (.inl rfl) (by omega) (by omega) fun A3 c3 w5 ho3 l3 hn3=>?_)
  refine xl_s (e_store fun w6 l4 k4=>?_)
  refine xl_nil ?_
  haveI s1:SubF (OwnB V) F w3:=⟨fun j _ e=>(hFe j).2 (.inr (Eq.symm e))⟩
  haveI s2:SubF (OneB b2) F w3:=⟨fun j _ e=>(hFe j).2 (.inl e)⟩
  refine ⟨fun j=>j=b2\/(Value.slice A3 (ks.length+1) c3).ownBlock=some j,⟨ks++[k],_,by simp,k4.eq,?_,fun j=>Iff.rfl,Nat.le_trans hsz (Ge.le:w3.heap.size<=w6.heap.size)⟩,kpc,?_⟩
  ·have:=own_keep ho3 l4.keep (fun j hj e=>by have e':j=b2:=e;have:=(ho3.lt j hj).1;omega)
   simpa [strs] using this
  ·rintro j (hj | hj)
   ·exact .inl ((hFe j).2 (.inl hj))
   ·rcases hn3 with h5 | h5
    ·exact .inl ((hFe j).2 (.inr (h5 ▸ hj)))
    ·rw [h5] at hj
     cases hj
     exact .inr Ge.le
 case normal=>
  intro D7 pre F w7 hfin hI hkF hsF hD7 hge7 hnF7
  obtain ⟨ks,V,rfl,hb2,hown,hFe,hsz⟩:=hI
  haveI kb:Blk w7 b2 _:=⟨hb2⟩
  haveI lkF:Lk w7 _ (OneB b2):=⟨hkF⟩
  obtain ⟨A,c,rfl,_⟩:=ownsRow_form hown
  have hDw:w.heap.size<=D7:=Nat.le_trans (Nat.le_trans hb2w (Nat.le_of_lt hb2l)) hge7
  haveI sD:SubF (fun k=>k∈[D7]) NoB w:=⟨fun k hk e=>by simp at e;omega⟩
  refine xq (xl_Lc ?_)
  refine xz ?_
  refine x_ret ?_
  refine finM (rs:=[.tmp 4]) rfl [D7] rfl (by simpa using hD7.eq) (by simp) (fun w8 lm8=>⟨_,ii,?_⟩)
  refine ⟨ks,A,c,hfin,rfl,?_,lkc⟩
  refine own_mono (own_keep hown lm8.keep ?_) Ge.le
  intro k hk e
  simp at e
  subst e
  exact hnF7 ((hFe _).2 (.inr hk))
 case jump=>
  exact fun _ _ _ _ _ h=>h.elim
theorem sort_ok (base:Nat) (A:Option Addr) (c:Nat) (ks:List ByteArray) (w:World) (ho:w.ownsRow base 9 1 (.slice A ks.length c) ks.length (strs ks)) (hl:ks.length<=1000000) :
    Ret Tryz.prog 149 #[.slice A ks.length c] w (fun v w'=>v=.tuple #[]/\w'.ownsRow base 9 1 (.slice A ks.length c) ks.length (strs (sortB ks))/\Lk w' w (OwnB (.slice A ks.length c))):=by
 rcases ho.2 with ⟨he,hn⟩ | ⟨g,cap,cur,he,hb,hg,hnc,hcm,hcs,htk⟩
 ·have hk:ks=[]:=List.eq_nil_of_length_eq_zero hn
  subst hk
  refine Calls.mono (Tryz.slices_Sort_string_none A c w) ?_
  rintro e w' ⟨rfl,rfl⟩
  exact ⟨_,rfl,rfl,by simpa [sortB] using ho,⟨Keep.refl _ _⟩⟩
 ·cases he
  obtain ⟨ss,hss⟩:∃ ss:List (List UInt8),ss=ks.map (fun s=>s.data.toList):=⟨_,rfl⟩
  have hsl:ss.length=ks.length:=by rw [hss];simp
  have hH:=holds_of_block (ss:=ss) hg (by rw [hsl,hss,<- strs_enc];simpa using htk)
  have hcall:=Tryz.slices_Sort_string g 0 c ss w hH (Array.getElem?_eq_some_iff.1 hg).1 (by omega)
  rw [hsl] at hcall
  refine Calls.mono hcall ?_
  rintro e w' ⟨rfl,n,os,rfl⟩
  refine ⟨_,rfl,rfl,?_,⟨Keep.of_grown (grownBy_sorted _)⟩⟩
  have:=ownsRow_sorted (os:=os) (n:=n) (ss:=ss) (ts:=ss.mergeSort fun x y=>decide (x<=y)) (by simp) hb hg (by omega) hcm hcs
  rw [hsl] at this
  rw [sortB,<- hss,strs_toB]
  exact this
theorem collect_ok (gf:FuncId) (gc:List Value) (Own:Nat->Prop) (Al Fin:Seen->Prop) (w:World) (hit:∀ W,Lk W w NoB->IterI Tryz.prog (.func (.func gf) ([]:List Value).toArray gc.toArray) Own Al Fin W) (hOwn:∀ k,Own k->k<w.heap.size) (hAl:∀ pre,Al pre->∃ ks:List ByteArray,pre=ks.map (fun k=>[Value.string k])/\ks.length<=1000000):Ret Tryz.prog 148 #[.func (.func gf) ([]:List Value).toArray gc.toArray] w (fun v w'=>∃ (ks:List ByteArray) (A:Option Addr) (c:Nat),Fin (ks.map (fun k=>[Value.string k]))/\v=.slice A ks.length c/\w'.ownsRow w.heap.size 9 1 v ks.length (strs ks)/\Lk w' w NoB):=by
 refine ret_of_x (N:=5) (l:=[.func (.func gf) ([]:List Value).toArray gc.toArray]) Tryz.func148 rfl rfl (Nat.le_of_ble_eq_true rfl) ?_
 refine xq (xz ?_)
 refine xq (xm ?_)
 refine xl_call (appendSeq_ok gf gc Own Al Fin _ hit hOwn hAl) ?_
 rintro _ w1 ⟨ks,A,c,hfin,rfl,ho,lk⟩
 refine xz ?_
 refine x_ret ?_
 refine fin1 rfl ?_
 exact ⟨ks,A,c,hfin,rfl,own_ext ho lkc,lkc⟩
theorem sorted_ok (gf:FuncId) (gc:List Value) (Own:Nat->Prop) (Al Fin:Seen->Prop) (w:World) (hit:∀ W,Lk W w NoB->IterI Tryz.prog (.func (.func gf) ([]:List Value).toArray gc.toArray) Own Al Fin W) (hOwn:∀ k,Own k->k<w.heap.size) (hAl:∀ pre,Al pre->∃ ks:List ByteArray,pre=ks.map (fun k=>[Value.string k])/\ks.length<=1000000) (hFin:∀ pre,Fin pre->Al pre):Ret Tryz.prog 114 #[.func (.func gf) ([]:List Value).toArray gc.toArray] w (fun v w'=>∃ (ks:List ByteArray) (A:Option Addr) (c:Nat),Fin (ks.map (fun k=>[Value.string k]))/\v=.slice A ks.length c/\w'.ownsRow w.heap.size 9 1 v ks.length (strs (sortB ks))/\Lk w' w NoB):=by
 refine ret_of_x (N:=9) (l:=[.func (.func gf) ([]:List Value).toArray gc.toArray]) Tryz.func114 rfl rfl (Nat.le_of_ble_eq_true rfl) ?_
 refine xq (xz ?_)
 refine xq (xm ?_)
 refine xl_call (collect_ok gf gc Own Al Fin _ hit hOwn hAl) ?_
 rintro _ w1 ⟨ks,A,c,hfin,rfl,ho,lk⟩
 have hkl:ks.length<=1000000:=by
  obtain ⟨ks2,h1,h2⟩:=hAl _ (hFin _ hfin)
  have:=congrArg List.length h1
  simp at this
  omega
 haveI:=ownA_of ho (Nat.le_refl _)
 refine xz ?_
 refine xq (xm ?_)
 refine xl_call (sort_ok _ A c ks _ (own_ext ho lkc) hkl) ?_
 rintro _ w2 ⟨rfl,ho2,lk2⟩
 refine xl_nil ?_
 refine xq (xm (xz ?_))
 refine x_ret ?_
 refine fin1 rfl ?_
 exact ⟨ks,A,c,hfin,rfl,own_ext ho2 lkc,lkc⟩
theorem mkeysIter (b mb:Nat) (kvs:List (ByteArray×Value)) (w:World) [Blk w b (.cells #[.map (some mb)] 87 (0,0))] (hm:MapB w mb Value.string kvs) :
    IterI Tryz.prog (.func (.func 150) ([]:List Value).toArray [Value.pointer (some ⟨b,0,none⟩)].toArray) (fun k=>k=b\/k=mb) (KeysAl (kvs.map (·.1))) (KeysFin (kvs.map (·.1))) w:=
 fun y I J F w0 hy hw0 h0 hF=>CallV.of_ret (mkeys1_ok y b mb kvs I J F w hm w0 hy hw0 h0 hF)
theorem files_len {M:Disk} (h:M.lasts.length+M.waits.length<=1000000):M.files.length<=1000000:=by
 have:=fold_len M.waits M.lasts
 show (M.waits.foldl Dm.done M.lasts).length<=1000000
 omega
theorem names_ok (P R:Nat->Prop) (d:Nat) (M:Disk) (w:World) (h:DiskW P R d M w):Ret Tryz.prog 95 #[.pointer (some ⟨d,0,none⟩)] w (fun v w'=>(∃ A c,v=.slice A M.files.length c/\w'.ownsRow w.heap.size 9 1 (.slice A M.files.length c) M.files.length (strs (M.files.map (·.1))))/\Lk w' w NoB):=by
 obtain ⟨hok0,hfew0⟩:=h.ok
 obtain ⟨mb,ml,G,D,hD,hS,hP,hR⟩:=h
 haveI hb:Blk w d _:=⟨hD.hb⟩
 have hfl:=files_len hfew0
 have hlen:D.cur.length=M.files.length:=by have:=hS.cur.len;simpa [fsP] using this
 refine ret_of_x (N:=12) (l:=[.pointer (some ⟨d,0,none⟩)]) Tryz.func95 rfl rfl (Nat.le_of_ble_eq_true rfl) ?_
 refine xq (xz ?_)
 refine x_seq (xq (xm ?_))
 refine xl_call (none_ok d mb ml G D M w (hD.ext (kpc:Keep NoB w w)) hS) ?_
 rintro _ _ ⟨rfl,rfl⟩
 refine xl_nil ?_
 refine x_condF ?_
 refine x_skip (xq (xm (xl_Nc ?_)))
 refine xl_Fb ?_
 refine xl_Fb ?_
 refine xl_Lc ?_
 refine xl_call (mkeys_ok (some mb) w) ?_
 rintro _ w2 ⟨bk,rfl,kbk,hgk,lkk⟩
 have hblt:bk<(w2).heap.size:=Has.lt
 have hmb:=(hD.cur.ext (kpc:Keep NoB w w2)).map
 have hmlt2:=hmb.lt
 refine xl_call (sorted_ok _ [_] (fun k=>k=bk\/k=mb) (KeysAl ((fsV D.cur).map (·.1))) (KeysFin ((fsV D.cur).map (·.1))) _ (fun W l=>mkeysIter bk mb (fsV D.cur) W (hmb.keep l.keep (fun h=>h))) (by rintro k (rfl | rfl);exact hblt;exact hmlt2) (by rintro pre ⟨l,rest,h1,h2⟩;exact ⟨l,h1,by have:=h2.length_eq;simp [fsV] at this;omega⟩) (by rintro pre ⟨l,h1,h2⟩;exact ⟨l,[],h1,by simpa using h2⟩)) ?_
 rintro _ w3 ⟨ks,A,c,hfin,rfl,ho,lk⟩
 have hperm:sortB ks=M.files.map (·.1):=by
  obtain ⟨l,hl1,hl2⟩:=hfin
  have hkl:ks=l:=(List.map_inj_right (fun x y h=>by simpa using h)).1 hl1
  subst hkl
  rw [fsV_keys,<- fsP_keys] at hl2
  exact sortB_perm (hl2.trans (hS.cur.perm.map _)) hS.cur.rise
 rw [hperm] at ho
 have hidl:ks.length=M.files.length:=by
  have h1:=congrArg List.length hperm
  simp [sortB] at h1
  exact h1
 rw [hidl] at ho ⊢
 refine xz ?_
 refine x_ret ?_
 refine fin1 rfl ?_
 exact ⟨⟨A,c,rfl,own_mono (own_ext ho lkc) Ge.le⟩,lkc⟩
abbrev fileC (p:ByteArray×LB):List Value:=[.string p.1,lbV p.2]
instance encN_file:EncN fileC 2:=⟨fun _=>rfl⟩
structure FsRow (W:World) (F:Nat->Prop) (A:Option Addr) (l:List (ByteArray×LB)):Prop where
 row:FRow W F A (l.flatMap fileC)
 items:∀ p∈l,FRow W F p.2.A (bytesC p.2.bytes)
 caps:∀ p∈l,p.2.bytes.length<=p.2.c
 lt:∀ k,F k->k<W.heap.size
theorem FsRow.keep {W W':World} {F S:Nat->Prop} {A:Option Addr} {l:List (ByteArray×LB)} (h:FsRow W F A l) (hk:Keep S W W') (hs:∀ k,F k->¬ S k):FsRow W' F A l:=
 ⟨h.row.keep hk hs,fun p hp=>(h.items p hp).keep hk hs,h.caps,fun k e=>Nat.lt_of_lt_of_le (h.lt k e) hk.size⟩
theorem FsRow.ext {W W':World} {F:Nat->Prop} {A:Option Addr} {l:List (ByteArray×LB)} (h:FsRow W F A l) (hk:Keep NoB W W'):FsRow W' F A l:=h.keep hk (fun _ _ h=>h)
theorem fsP_len (l:List (ByteArray×LB)):(fsP l).length=l.length:=by simp [fsP]
theorem fsP_get {l:List (ByteArray×LB)} {k:Nat} (h:k<l.length):(fsP l)[k]?=some (l[k].1,l[k].2.bytes):=by simp [fsP,h]
theorem file_read {M:Disk} (hok:M.ok) {k:Nat} (hk:k<M.files.length):readNo M.files M.files[k].1=0/\readB M.files M.files[k].1=M.files[k].2:=by
 have hm:=List.getElem_mem hk
 have h1:=hok.files.2.2 _ hm
 have h2:akey M.files M.files[k].1=some M.files[k].2:=(akey_mem hok.files.1.nodup).2 hm
 unfold readNo readB
 rw [h1,h2]
 exact ⟨rfl,rfl⟩
theorem fs_eq {l q:List (ByteArray×LB)} (hl:l.length=q.length) (h:∀ j (h1:j<l.length) (h2:j<q.length),l[j].1=q[j].1/\l[j].2.bytes=q[j].2.bytes):fsP l=fsP q:=by
 apply List.ext_getElem (by simp [fsP,hl])
 intro j h1 h2
 have h3:=h j (by simpa [fsP] using h1) (by simpa [fsP] using h2)
 simp [fsP,h3.1,h3.2]
theorem fs_at {l q:List (ByteArray×LB)} (e:fsP l=fsP q) (j:Nat) (h1:j<l.length) (h2:j<q.length):l[j].1=q[j].1/\l[j].2.bytes=q[j].2.bytes:=by
 have h3:(fsP l)[j]?=(fsP q)[j]?:=by rw [e]
 rw [fsP_get h1,fsP_get h2] at h3
 simpa using h3
theorem bytes_dec {a b:List UInt8}:((⟨a.toArray⟩:ByteArray)=⟨b.toArray⟩)↔a=b:=by
 constructor
 ·intro h
  have h1:=congrArg (fun x:ByteArray=>x.data.toList) h
  simpa using h1
 ·rintro rfl;rfl
theorem sameFiles_ok (A B:Option Addr) (ca cb:Nat) (l q:List (ByteArray×LB)) (F E:Nat->Prop) (w:World) (h:FsRow w F A l) (h':FsRow w E B q) (hl:l.length<=1000000) (hq:q.length<=1000000):Ret Tryz.prog 82 #[.slice A l.length ca,.slice B q.length cb] w (fun v w'=>v=.bool (decide (fsP l=fsP q))/\Lk w' w NoB):=by
 refine ret_of_x (N:=43) (l:=[.slice A l.length ca,.slice B q.length cb]) Tryz.func82 rfl rfl (Nat.le_of_ble_eq_true rfl) ?_
 refine xq (xz ?_)
 refine x_seq (xq (xm (xl_v v_len (xm (xl_v v_len (xl_v v_neq (xl_nil ?_)))))))
 refine x_if (fun c1=>?_) (fun c1=>?_)
 ·refine xq (xz ?_)
  refine x_ret ?_
  refine fin1 rfl ?_
  refine ⟨congrArg Value.bool (Eq.symm (decide_eq_false fun e=>?_)),lkc⟩
  have h3:l.length=q.length:=by rw [<- fsP_len,<- fsP_len,e]
  omega
 have hl1:l.length=q.length:=by
  omega
 refine x_skip (x_seq (xq (xz ?_)))
 refine x_block ?_
 have hRL:=h.ext (kpc:Keep NoB w w)
 have hQL:=h'.ext (kpc:Keep NoB w w)
 refine x_loop (fun m τ ds w'=>ds=[]/\∃ k:Nat,m=l.length - k/\k<=l.length/\(∀ j (h1:j<l.length) (h2:j<q.length),j<k->l[j].1=q[j].1/\l[j].2.bytes=q[j].2.bytes)/\Ev τ 0 (.slice A l.length ca)/\Ev τ 1 (.slice B q.length cb)/\Ev τ 5 (.int .i64 (k:Int))/\Lk w' w NoB) (l.length) ?start ?round
 case start=>
  exact ⟨rfl,0,rfl,by omega,fun j _ _ h=>by omega,ii,ii,evc,lkc⟩
 case round=>
  intro m τ1 ds1 w1 hI
  obtain ⟨rfl,k,rfl,hk,hall,e0,e1,e5,lk⟩:=hI
  have hRr:=hRL.ext lk.keep
  have hQr:=hQL.ext lk.keep
  refine x_seq (xq (xm (xm (xl_v v_len (xl_v v_lss (xl_nil ?_))))))
  refine x_if (fun c2=>?_) (fun c2=>?_)
  ·have hkR:k<l.length:=by omega
   have hkQ:k<q.length:=by omega
   haveI:Row w1 A (l.flatMap fileC):=⟨hRr.row.row⟩
   haveI:Row w1 B (q.flatMap fileC):=⟨hQr.row.row⟩
   haveI:Row w1 l[k].2.A (bytesC l[k].2.bytes):=⟨(hRr.items _ (List.getElem_mem hkR)).row⟩
   haveI:Row w1 q[k].2.A (bytesC q[k].2.bytes):=⟨(hQr.items _ (List.getElem_mem hkQ)).row⟩
   refine x_skip (x_seq (x_block (x_seq ?_)))
   refine x_drawL (NoB) (allS) (.take 0 (.take 1 (.take 2 (.take 3 (.take 4 (.take 5 (.take 6 (.take 7 (.take 8 (.take 9 (.take 10 (.take 11 (.take 12 (.take 13 (.take 14 (.take 15 (.take 16 (.take 17 (.take 18 (.take 19 (.take 20 (.take 21 (.take 22 (.take 23 (.take 24 (.take 25 .done)))))))))))))))))))))))))) mixed (by kernel_rfl) (fun _ _ _ _ _ h=>h) (fun w2 l2=>?_)
   refine xt_v rfl v_move (xt_v rfl v_move ?_)
   refine xt_v rfl (v_indexF k (by decide) rfl (by omega) hkR) ?_
   refine xt_Fb rfl ?_
   refine xt_v rfl (v_loadF0 hkR) ?_
   refine xt_v rfl v_move (xt_v rfl v_move ?_)
   refine xt_v rfl (v_indexF k (by decide) rfl (by omega) hkQ) ?_
   refine xt_Fb rfl ?_
   refine xt_v rfl (v_loadF0 hkQ) ?_
   refine xt_v rfl (v_sneq) ?_
   refine xt_v rfl v_move ?_
   refine xt_split 28 (fun g28=>?_) (fun g28=>?_)
   ·refine xt_gs rfl rfl EvO.eq (xt_gs rfl rfl EvO.eq (xt_gs rfl rfl EvO.eq (xt_gs rfl rfl EvO.eq (xt_gs rfl rfl EvO.eq (xt_gs rfl rfl EvO.eq (xt_gs rfl rfl EvO.eq (xt_gs rfl rfl EvO.eq (xt_gs rfl rfl EvO.eq (xt_gs rfl rfl EvO.eq (xt_gs rfl rfl EvO.eq (xt_gs rfl rfl EvO.eq (xt_gs rfl rfl EvO.eq (xt_Pk rfl ?_)))))))))))))
    refine xt_nil ?_
    refine x_condT ?_
    refine xq (xz ?_)
    refine x_ret ?_
    refine fin1 rfl ?_
    refine ⟨congrArg Value.bool (Eq.symm (decide_eq_false fun e=>?_)),lkc⟩
    have h1:=fs_at e k hkR hkQ
    (simp at g28;exact g28 h1.1)
   refine xt_gv rfl rfl EvO.eq v_move (xt_gv rfl rfl EvO.eq v_move ?_)
   refine xt_gv rfl rfl EvO.eq (v_indexF k (by decide) rfl (by omega) hkR) ?_
   refine xt_gFb rfl rfl EvO.eq ?_
   refine xt_gv rfl rfl EvO.eq (v_loadFf hkR) ?_
   refine xt_gv rfl rfl EvO.eq (v_bytesStr (xs:=l[k].2.bytes) rfl) ?_
   refine xt_gv rfl rfl EvO.eq v_move (xt_gv rfl rfl EvO.eq v_move ?_)
   refine xt_gv rfl rfl EvO.eq (v_indexF k (by decide) rfl (by omega) hkQ) ?_
   refine xt_gFb rfl rfl EvO.eq ?_
   refine xt_gv rfl rfl EvO.eq (v_loadFf hkQ) ?_
   refine xt_gv rfl rfl EvO.eq (v_bytesStr (xs:=q[k].2.bytes) rfl) ?_
   refine xt_gv rfl rfl EvO.eq (v_sneq) ?_
   refine xt_Pk rfl ?_
   refine xt_nil ?_
   refine x_if (fun c3=>?_) (fun c3=>?_)
   ·refine xq (xz ?_)
    refine x_ret ?_
    refine fin1 rfl ?_
    refine ⟨congrArg Value.bool (Eq.symm (decide_eq_false fun e=>?_)),lkc⟩
    have h1:=fs_at e k hkR hkQ
    first
     | (simp at g28;exact g28 h1.1)
     | (rw [<- bytes_dec] at h1;first | exact c3 h1.2 | (simp at c3;exact c3 h1.2) | (simp [h1.2] at c3))
   refine x_skip (x_regionL (xm ?_))
   refine xl_v (v_add (by omega)) ?_
   refine xz ?_
   refine ⟨_,?_,rfl,k+1,rfl,by omega,?_,ii,ii,evc,lkc⟩
   ·omega
   ·intro j h1 h2 hj
    by_cases hjk:j=k
    ·subst hjk
     refine ⟨by simpa using g28,?_⟩
     rw [<- bytes_dec]
     exact c3
    ·exact hall j h1 h2 (by omega)
  refine x_exit (xq (xz ?_))
  refine x_ret ?_
  refine fin1 rfl ?_
  refine ⟨congrArg Value.bool (Eq.symm (decide_eq_true ?_)),lkc⟩
  exact fs_eq hl1 (fun j h1 h2=>hall j h1 h2 (by omega))
structure LT where
 t:Thing
 A:Option Addr
 c:Nat
abbrev thC (x:LT):List Value:=[.int .i64 x.t.what,.string x.t.name,.slice x.A x.t.bytes.length x.c,.int .i64 x.t.n]
instance encN_th:EncN thC 4:=⟨fun _=>rfl⟩
theorem crash_files (M:Disk) (kp tn:Int):(M.crash kp tn).files=(M.crash kp tn).lasts:=by
 obtain ⟨_,h2⟩:=crash_shape M kp tn
 rw [Disk.files,h2];rfl
theorem crash_none (M:Disk):(M.crash 0 0).lasts=M.lasts:=by
 have h0:∀ n,pickN 0 n=0:=fun n=>by simp [pickN]
 unfold Disk.crash
 dsimp only
 rw [h0]
 split
 ·rfl
 ·rw [if_neg]
  ·rfl
  ·rintro ⟨_,h⟩
   rw [h0] at h
   omega
abbrev blkP (A:Option Addr):Nat->Prop:=fun j=>∃ a,A=some a/\a.block=j
end Go.Proofs.YtigmfcgeljjgnaaGreatDoor
