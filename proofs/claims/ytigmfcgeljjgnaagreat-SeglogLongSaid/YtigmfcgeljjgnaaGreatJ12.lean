/- A part of the walks through the log and its document, and of the law in plain Lean: G H I GI. -/
import Derived.Test.YtigmfcgeljjgnaaGreatJ11
import Derived.Test.YtigmfcgeljjgnaaGreatJ10
set_option linter.all false
set_option maxRecDepth 100000
set_option synthInstance.maxSize 100000
set_option synthInstance.maxHeartbeats 400000
namespace Go.Proofs.YtigmfcgeljjgnaaGreat
open Go.Wst
open Go.Wst.Dm
theorem there_read {l:List (ByteArray×LB)} {L:Fs} (h:Dm.Alike (fsP l) L) (name:ByteArray):(thereB l name).bytes=readB L name/\thereNo l name=readNo L name:=by
 have e:akey L name=(akey l name).map (fun x=>x.bytes):=by rw [<- h.eq,fsP_akey]
 unfold thereB thereNo readB readNo
 rw [e]
 constructor
 ·split
  ·cases akey l name<;>rfl
  ·rfl
 ·split
  ·rfl
  ·cases akey l name<;>simp
theorem there_row {W:World} {m:Nat} {G:Nat->Prop} {l:List (ByteArray×LB)} (h:FilesAt W m G l) (name:ByteArray):FRow W G (thereB l name).A (bytesC (thereB l name).bytes):=by
 unfold thereB
 split
 ·exact (atB_row h name).1
 ·exact FRow.nil _ _
theorem there_len {l:List (ByteArray×LB)} (hn:(l.map (·.1)).Nodup) (name:ByteArray):(thereB l name).bytes.length<=usedB (fsP l):=by
 unfold thereB
 split
 ·exact used_at hn name
 ·exact Nat.zero_le _
theorem cut_ok (P R:Nat->Prop) (d:Nat) (M:Disk) (name:ByteArray) (n:Int) (xs:List UInt8) (w:World) (h:DiskW P R d M w) (hn:xs.length<=16777216) (hfew:M.lasts.length+M.waits.length+1<=1000000):Ret Tryz.prog 32 #[.pointer (some ⟨d,0,none⟩),.string name,.int .i64 n] w (fun v w'=>v=.int .i64 (M.doNo ⟨1,name,xs,n⟩)/\DiskW P R d (M.does ⟨1,name,xs,n⟩) w'/\Lk w' w (NotP R)):=by
 obtain ⟨mb,ml,G,D,hD,hS,hP,hR⟩:=h
 haveI sP:SubF (DiskB d mb ml D.A) (NotP R) w:=⟨fun k _ e e2=>(hR k e2).2 e⟩
 have hno:=doNo_cut M name xs n
 obtain ⟨hr1,hr2⟩:=there_read hS.cur name
 have hlen:=there_len hD.cur.nodup name
 have hu:=hS.used
 refine ret_of_x (N:=37) (l:=[.pointer (some ⟨d,0,none⟩),.string name,.int .i64 n]) Tryz.func32 rfl rfl (Nat.le_of_ble_eq_true rfl) ?_
 refine xq ?_
 refine xl_e (e_box fun b1 w1 n1 l1 k1=>?_)
 refine xl_e (e_box fun b2 w2 n2 l2 k2=>?_)
 refine xz ?_
 refine xq (xm (xm (xl_v v_makeFunc (xl_Lc ?_))))
 refine xl_call (there_ok d mb ml G D M name 51 mb D.cur w2 (hD.ext (kpc:Keep NoB w w2)) hS (hD.cur.ext (kpc:Keep NoB w w2)) (fun W l=>stands_ok d mb ml G D W (hD.ext (kpc:Keep NoB w W)))) ?_
 rintro _ w3 ⟨rfl,lk1⟩
 have hb1w:w.heap.size<=b1:=by rw [n1.eq];exact Ge.le
 have hb2w:w.heap.size<=b2:=by rw [n2.eq];exact Ge.le
 refine xm (xl_v v_extract (xl_v v_extract (xa (xz ?_))))
 refine x_seq (x_block (xq (xm (xl_v v_neq (xz ?_)))))
 refine x_condE (fun c1=>?_) (fun c1=>?_)
 ·refine xq (xm (xz ?_))
  refine x_ret ?_
  refine fin1 rfl ?_
  rw [if_pos (by rw [<- hr2];intro e;rw [e] at c1;simp at c1)] at hno
  refine ⟨by rw [hno,hr2],?_,lkc⟩
  rw [Disk.does,if_neg (by rw [hno,<- hr2];intro e;rw [e] at c1;simp at c1)]
  exact DiskW.ext ⟨mb,ml,G,D,hD,hS,hP,hR⟩ (kpc:Keep NoB w w3)
 have h0:readNo M.files name=0:=by
  rw [<- hr2]
  simpa using c1
 rw [if_neg (fun h=>h h0)] at hno
 refine xq (xl_Lc ?_)
 refine xl_v v_lss (xm ?_)
 refine xl_split 24 (fun g24=>?_) (fun g24=>?_)
 ·refine xl_gs rfl EvO.eq (xl_gs rfl EvO.eq (xl_gs rfl EvO.eq (xl_gs rfl EvO.eq (xl_Pk ?_))))
  refine xz ?_
  refine x_condT ?_
  refine xq (xz ?_)
  refine x_ret ?_
  refine fin1 rfl ?_
  rw [if_pos (by
   rw [<- hr1]
   first
    | (simp at c2;omega)
    | (simp at g24;omega))] at hno
  refine ⟨by rw [hno],?_,lkc⟩
  rw [Disk.does,if_neg (by rw [hno];decide)]
  exact DiskW.ext ⟨mb,ml,G,D,hD,hS,hP,hR⟩ (kpc:Keep NoB w w3)
 refine xl_gLc rfl EvO.eq ?_
 refine xl_gv rfl EvO.eq v_move (xl_gv rfl EvO.eq v_len (xl_gv rfl EvO.eq v_gtr (xl_Pk ?_)))
 refine xz ?_
 refine x_if (fun c2=>?_) (fun c2=>?_)
 ·refine xq (xz ?_)
  refine x_ret ?_
  refine fin1 rfl ?_
  rw [if_pos (by
   rw [<- hr1]
   first
    | (simp at c2;omega)
    | (simp at g24;omega))] at hno
  refine ⟨by rw [hno],?_,lkc⟩
  rw [Disk.does,if_neg (by rw [hno];decide)]
  exact DiskW.ext ⟨mb,ml,G,D,hD,hS,hP,hR⟩ (kpc:Keep NoB w w3)
 have hn0:0<=n/\n<=((thereB D.cur name).bytes.length:Int):=by
  simp at g24 c2
  omega
 rw [if_neg (by rw [<- hr1];omega)] at hno
 have hok:okT M.room M.files ⟨1,name,xs,n⟩:=Disk.doNo_ok (.inr (.inl rfl)) hno
 refine x_skip (xq (xm (xl_v v_makeFunc (xl_Lc ?_))))
 refine xl_Lc ?_
 refine xl_v (v_buildA) ?_
 refine xl_v v_build ?_
 refine xl_call (begin_ok d mb ml G (fun j=>j=b1\/j=b2) D M ⟨⟨1,name,xs,n⟩,.func (.func 54) ([]:List Value).toArray [Value.pointer (some ⟨b1,0,none⟩),Value.pointer (some ⟨b2,0,none⟩)].toArray,rfl⟩ w3 (hD.ext (kpc:Keep NoB w w3)) hS (acts_cut b1 b2 name xs n hn0.1 w3 Blk.eq Blk.eq) (fun j e e2=>by
       have h1:=hD.lt j (.inl e2)
       rcases e with e | e<;>omega) hok hn hfew) ?_
 rintro _ w4 ⟨rfl,⟨G',D',hD',hS',hB',hG'⟩,lk4⟩
 have hgp9:=(Ge.le:w.heap.size<=(w3).heap.size)
 refine xz ?_
 refine x_ret ?_
 refine fin1 rfl ?_
 refine ⟨by rw [hno],?_,lkc⟩
 rw [Disk.does,if_pos hno]
 refine DiskW.begun hD.lt hP hR (fun j e=>?_) hgp9 lk4.keep.size hD' hS' hB' hG'
 rcases e with e | e<;>omega
theorem remove_ok (P R:Nat->Prop) (d:Nat) (M:Disk) (name:ByteArray) (n:Int) (xs:List UInt8) (w:World) (h:DiskW P R d M w) (hn:xs.length<=16777216) (hfew:M.lasts.length+M.waits.length+1<=1000000):Ret Tryz.prog 30 #[.pointer (some ⟨d,0,none⟩),.string name] w (fun v w'=>v=.int .i64 (M.doNo ⟨2,name,xs,n⟩)/\DiskW P R d (M.does ⟨2,name,xs,n⟩) w'/\Lk w' w (NotP R)):=by
 obtain ⟨mb,ml,G,D,hD,hS,hP,hR⟩:=h
 haveI sP:SubF (DiskB d mb ml D.A) (NotP R) w:=⟨fun k _ e e2=>(hR k e2).2 e⟩
 have hno:=doNo_remove M name xs n
 obtain ⟨hr1,hr2⟩:=there_read hS.cur name
 refine ret_of_x (N:=24) (l:=[.pointer (some ⟨d,0,none⟩),.string name]) Tryz.func30 rfl rfl (Nat.le_of_ble_eq_true rfl) ?_
 refine xq ?_
 refine xl_e (e_box fun b1 w1 n1 l1 k1=>?_)
 refine xz ?_
 refine x_seq (xq (xm (xm (xl_v v_makeFunc (xl_Lc ?_)))))
 refine xl_call (there_ok d mb ml G D M name 51 mb D.cur w1 (hD.ext (kpc:Keep NoB w w1)) hS (hD.cur.ext (kpc:Keep NoB w w1)) (fun W l=>stands_ok d mb ml G D W (hD.ext (kpc:Keep NoB w W)))) ?_
 rintro _ w2 ⟨rfl,lk1⟩
 have hb1w:w.heap.size<=b1:=by rw [n1.eq];exact Ge.le
 refine xm (xl_v v_extract (xl_v v_extract (xa (xz ?_))))
 refine xq (xm (xl_v v_neq (xl_nil ?_)))
 refine x_condE (fun c1=>?_) (fun c1=>?_)
 ·refine xq (xm (xz ?_))
  refine x_ret ?_
  refine fin1 rfl ?_
  refine ⟨by rw [hno,hr2],?_,lkc⟩
  rw [Disk.does,if_neg (by rw [hno,<- hr2];intro e;rw [e] at c1;simp at c1)]
  exact DiskW.ext ⟨mb,ml,G,D,hD,hS,hP,hR⟩ (kpc:Keep NoB w w2)
 have h0:readNo M.files name=0:=by
  rw [<- hr2]
  simpa using c1
 rw [h0] at hno
 have hok:okT M.room M.files ⟨2,name,xs,n⟩:=Disk.doNo_ok (.inr (.inr rfl)) hno
 refine x_skip (xq (xm (xl_v v_makeFunc (xl_Lc ?_))))
 refine xl_v (v_buildA) ?_
 refine xl_v v_build ?_
 refine xl_call (begin_ok d mb ml G (fun j=>j=b1) D M ⟨⟨2,name,xs,n⟩,.func (.func 53) ([]:List Value).toArray [Value.pointer (some ⟨b1,0,none⟩)].toArray,rfl⟩ w2 (hD.ext (kpc:Keep NoB w w2)) hS (acts_remove b1 name xs n w2 Blk.eq) (fun j e e2=>by
       have h1:=hD.lt j (.inl e2)
       omega) hok hn hfew) ?_
 rintro _ w3 ⟨rfl,⟨G',D',hD',hS',hB',hG'⟩,lk4⟩
 have hgp9:=(Ge.le:w.heap.size<=(w2).heap.size)
 refine xz ?_
 refine x_ret ?_
 refine fin1 rfl ?_
 refine ⟨by rw [hno],?_,lkc⟩
 rw [Disk.does,if_pos hno]
 exact DiskW.begun hD.lt hP hR (fun j e=>by omega) hgp9 lk4.keep.size hD' hS' hB' hG'
theorem flush_ok (P R:Nat->Prop) (d:Nat) (M:Disk) (w:World) (h:DiskW P R d M w):Ret Tryz.prog 40 #[.pointer (some ⟨d,0,none⟩)] w (fun v w'=>v=.int .i64 0/\DiskW P R d M.flush w'/\Lk w' w (NotP R)):=by
 obtain ⟨mb,ml,G,D,hD,hS,hP,hR⟩:=h
 haveI hb:Blk w d _:=⟨hD.hb⟩
 haveI sP:SubF (OneB d) (NotP R) w:=⟨fun k _ e e2=>(hR k e2).2 (.inl e)⟩
 have hdl:=hD.lt d (.inl (.inl rfl))
 have hmbl:=hD.lt mb (.inl (.inr (.inl rfl)))
 refine ret_of_x (N:=16) (l:=[.pointer (some ⟨d,0,none⟩)]) Tryz.func40 rfl rfl (Nat.le_of_ble_eq_true rfl) ?_
 refine xq (xz ?_)
 refine x_seq (xq (xm ?_))
 refine xl_call (none_ok d mb ml G D M w (hD.ext (kpc:Keep NoB w w)) hS) ?_
 rintro _ _ ⟨rfl,rfl⟩
 refine xl_nil ?_
 refine x_condF ?_
 refine x_skip (xq (xm (xm (xm (xl_Nc ?_)))))
 refine xl_Fb ?_
 refine xl_Lb ?_
 refine xl_call (copied_ok mb G D.cur w (hD.cur.ext (kpc:Keep NoB w w))) ?_
 rintro _ w2 ⟨⟨ml2,rfl,hF2,hg2⟩,lk1⟩
 have hgp:=(Ge.le:w.heap.size<=(w).heap.size)
 refine xl_Nc ?_
 refine xl_Fb ?_
 refine xl_s (e_storeA fun w3 l3 k3=>?_)
 refine xl_Nc ?_
 refine xl_Fb ?_
 refine xl_s (e_store fun w4 l4 k4=>?_)
 refine xl_nil ?_
 refine xq (xz ?_)
 refine x_ret ?_
 refine fin1 rfl ?_
 have K:Keep (OneB d) w w4:=kpc
 have hGd:∀ k,G k->¬ OneB d k:=fun k e e2=>hD.gd (by have e2':k=d:=e2;exact e2' ▸ e)
 refine ⟨rfl,⟨mb,ml2,G,⟨D.room,D.cur,D.cur,[],none,0⟩,⟨by simpa using (Blk.eq:(w4).heap[d]?=_),hD.cur.keep K (fun e=>hD.d1 (by have e':mb=d:=e;exact e'.symm)) hGd,hF2.keep (kpc:Keep (OneB d) _ w4) (fun e=>by have e':ml2=d:=e;omega) hGd,World.ownsRow_nil _ _ _ _,nofun,hD.d1,by omega,by omega,hD.gd,nofun⟩,⟨hS.room,rfl,hS.cur,hS.cur,hS.ok.flush,?_,nofun⟩,?_,?_⟩,lkc⟩
 ·have:=fold_len M.waits M.lasts
  have:=hS.few
  show (M.waits.foldl done M.lasts).length+0<=1000000
  omega
 ·intro k e
  obtain ⟨e1,e2⟩:=hP k e
  refine ⟨Nat.lt_of_lt_of_le e1 Ge.le,?_⟩
  rintro ((e3 | e3 | e3 | ⟨a,ha,_⟩) | e3)
  ·exact e2 (.inl (.inl e3))
  ·exact e2 (.inl (.inr (.inl e3)))
  ·omega
  ·cases ha
  ·exact e2 (.inr e3)
 ·intro k e
  obtain ⟨e1,e2⟩:=hR k e
  refine ⟨Nat.lt_of_lt_of_le e1 Ge.le,?_⟩
  rintro (e3 | e3 | e3 | ⟨a,ha,_⟩)
  ·exact e2 (.inl e3)
  ·exact e2 (.inr (.inl e3))
  ·omega
  ·cases ha
theorem read_ok (P R:Nat->Prop) (d:Nat) (M:Disk) (name:ByteArray) (w:World) (h:DiskW P R d M w):Ret Tryz.prog 47 #[.pointer (some ⟨d,0,none⟩),.string name] w (fun v w'=>(∃ A' c',v=.tuple #[.slice A' (readB M.files name).length c',.int .i64 (readNo M.files name)]/\w'.ownsRow w.heap.size 5 1 (.slice A' (readB M.files name).length c') (readB M.files name).length (bytesC (readB M.files name)))/\Lk w' w NoB):=by
 obtain ⟨mb,ml,G,D,hD,hS,hP,hR⟩:=h
 obtain ⟨hr1,hr2⟩:=there_read hS.cur name
 have hlen:=there_len hD.cur.nodup name
 have hu:=hS.used
 have hrow:=there_row hD.cur name
 haveI:Row w (thereB D.cur name).A (bytesC (thereB D.cur name).bytes):=⟨hrow.row⟩
 refine ret_of_x (N:=19) (l:=[.pointer (some ⟨d,0,none⟩),.string name]) Tryz.func47 rfl rfl (Nat.le_of_ble_eq_true rfl) ?_
 refine xq (xa (xz ?_))
 refine xq (xm (xm (xl_v v_makeFunc (xm ?_))))
 refine xl_call (there_ok d mb ml G D M name 51 mb D.cur w (hD.ext (kpc:Keep NoB w w)) hS (hD.cur.ext (kpc:Keep NoB w w)) (fun W l=>stands_ok d mb ml G D W (hD.ext (kpc:Keep NoB w W)))) ?_
 rintro _ w1 ⟨rfl,lk1⟩
 refine xm (xl_v v_extract (xl_v v_extract (xa (xz ?_))))
 refine xq (xm ?_)
 refine xl_call (cloneb_ok (thereB D.cur name).A (thereB D.cur name).bytes.length (thereB D.cur name).c (bytesC (thereB D.cur name).bytes) w1 (by simp) (by omega) (bytesC_one _) (nil_some hrow.row rfl)) ?_
 rintro _ w2 ⟨⟨A2,c2,rfl,ho2⟩,lk3⟩
 refine xm (xa (xz ?_))
 refine x_ret ?_
 refine fin2 rfl ?_
 rw [<- hr1,<- hr2]
 exact ⟨⟨A2,c2,by simp [outV],own_mono (own_ext ho2 lkc) Ge.le⟩,lkc⟩
theorem waits_ok (P R:Nat->Prop) (d:Nat) (M:Disk) (w:World) (h:DiskW P R d M w):Ret Tryz.prog 27 #[.pointer (some ⟨d,0,none⟩)] w (fun v w'=>v=.int .i64 (M.waits.length:Int)/\Lk w' w NoB):=by
 obtain ⟨mb,ml,G,D,hD,hS,hP,hR⟩:=h
 haveI hb:Blk w d _:=⟨hD.hb⟩
 refine ret_of_x (N:=10) (l:=[.pointer (some ⟨d,0,none⟩)]) Tryz.func27 rfl rfl (Nat.le_of_ble_eq_true rfl) ?_
 refine xq (xz ?_)
 refine x_seq (xq (xm ?_))
 refine xl_call (none_ok d mb ml G D M w (hD.ext (kpc:Keep NoB w w)) hS) ?_
 rintro _ _ ⟨rfl,rfl⟩
 refine xl_nil ?_
 refine x_condF ?_
 refine x_skip (xq (xm (xl_Nc ?_)))
 refine xl_Fb ?_
 refine xl_Lc ?_
 refine xl_v v_len (xz ?_)
 refine x_ret ?_
 refine fin1 rfl ?_
 exact ⟨by rw [<- hS.waits];simp,lkc⟩
instance cell1_g (x:LThing):Cell1 x.g:=⟨x.one⟩
def tellT (p:Nat×LThing):List Value:=[.int .i64 (p.1:Int),.agg (thingC p.2).toArray]
def lastT (ws:List LThing) (k:Nat) (torn:Int):List (Nat×LThing):=match ws[k]? with
 | none=>[]
 | some x=>if 0<pickN torn (putsN x.t) then [(pickN torn (putsN x.t),x)] else []
def told (ws:List LThing) (k:Nat) (torn:Int):List (Nat×LThing):=(ws.take k).map (fun x=>(putsN x.t,x))++lastT ws k torn
def AlT (l:List (Nat×LThing)):Seen->Prop:=fun pre=>pre.length<=l.length/\pre=(l.take pre.length).map tellT
def FinT (l:List (Nat×LThing)):Seen->Prop:=fun pre=>pre=l.map tellT
theorem told_get {ws:List LThing} {k:Nat} {torn:Int} {i:Nat} (hi:i<k) (hi2:i<ws.length):(told ws k torn)[i]?=some (putsN ws[i].t,ws[i]):=by
 have h1:i<((ws.take k).map (fun x=>(putsN x.t,x))).length:=by simp;omega
 rw [told,List.getElem?_append_left h1]
 simp [hi,hi2]
theorem told_take {ws:List LThing} {k:Nat} {torn:Int} (hk:k<=ws.length):(told ws k torn).take k=(ws.take k).map (fun x=>(putsN x.t,x)):=by
 rw [told,List.take_append_of_le_length (by rw [List.length_map,List.length_take];omega),List.take_of_length_le (by rw [List.length_map,List.length_take];omega)]
theorem told_end {ws:List LThing} {k:Nat} {torn:Int} (hk:k<=ws.length) (h0:lastT ws k torn=[]):(told ws k torn).take k=told ws k torn:=by
 rw [told_take hk,told,h0,List.append_nil]
theorem told_snoc {ws:List LThing} {k:Nat} {torn:Int} {p:Nat×LThing} (hk:k<=ws.length) (h0:lastT ws k torn=[p]):(told ws k torn).take k++[p]=told ws k torn:=by
 rw [told_take hk,told,h0]
theorem take_step {α:Type} {l:List α} {i:Nat} {x:α} (h:l[i]?=some x):l.take (i+1)=l.take i++[x]:=by
 obtain ⟨h1,h2⟩:=List.getElem?_eq_some_iff.1 h
 rw [take_snoc _ i h1,h2]
theorem alT_step {l:List (Nat×LThing)} {i:Nat} {p:Nat×LThing} (h:l[i]?=some p):AlT l ((l.take i).map tellT++[tellT p]):=by
 obtain ⟨h1,h2⟩:=List.getElem?_eq_some_iff.1 h
 have h3:((l.take i).map tellT++[tellT p]).length=i+1:=by simp;omega
 refine ⟨by rw [h3];omega,?_⟩
 rw [h3,take_step h]
 simp
theorem told_last {ws:List LThing} {k:Nat} {torn:Int} {p:Nat×LThing} (hk:k<=ws.length) (h0:lastT ws k torn=[p]):(told ws k torn)[k]?=some p:=by
 rw [told,h0,List.getElem?_append_right (by simp;omega)]
 have:k - ((ws.take k).map (fun x=>(putsN x.t,x))).length=0:=by simp;omega
 rw [this]
 rfl
theorem last_some {ws:List LThing} {k:Nat} {torn:Int} (hk:k<ws.length) (h0:0<pickN torn (putsN ws[k].t)):lastT ws k torn=[(pickN torn (putsN ws[k].t),ws[k])]:=by
 rw [lastT,List.getElem?_eq_getElem hk]
 simp only [h0,if_true]
theorem last_none {ws:List LThing} {k:Nat} {torn:Int} (hk:k<ws.length) (h0:¬ 0<pickN torn (putsN ws[k].t)):lastT ws k torn=[]:=by
 rw [lastT,List.getElem?_eq_getElem hk]
 simp only [h0,if_false]
theorem last_len {ws:List LThing} {k:Nat} {torn:Int} (hk:¬ k<ws.length):lastT ws k torn=[]:=by
 rw [lastT,List.getElem?_eq_none (by omega)]
theorem keeps1_ok (y:Value) (cc cd d mb ml:Nat) (G:Nat->Prop) (D:LDisk) (keep torn:Int) (I J:Seen->(Nat->Prop)->World->Prop) (F:Nat->Prop) (w:World) [hbc:Blk w cc (.cells #[.int .i64 keep,.int .i64 torn] 24 (0,0))] [hbd:Blk w cd (.cells #[.pointer (some ⟨d,0,none⟩)] 28 (0,0))] (hD:DiskAt w d mb ml G D) (hfew:D.waits.length<=1000000) (hk:In64 keep) (ht:In64 torn) (hlen:∀ x∈D.waits,x.t.bytes.length<=16777216) (w0:World) (hy:YieldsI Tryz.prog y (AlT (told D.waits (pickN keep D.waits.length) torn)) I J w0) (hw0:w0.heap.size<=w.heap.size) (h0:I [] F w) (hF:∀ k,F k->¬ (k=cc\/k=cd\/DiskF d mb ml D.A G k)):Ret Tryz.prog 66 #[y,.pointer (some ⟨cc,0,none⟩),.pointer (some ⟨cd,0,none⟩)] w (fun _ w'=>∃ pre F',((FinT (told D.waits (pickN keep D.waits.length) torn) pre/\I pre F' w')\/J pre F' w')/\Keep F w w'/\Sub F' F w):=by
 haveI hb:Blk w d _:=⟨hD.hb⟩
 haveI hrow:Row w D.A (D.waits.flatMap thingC):=⟨(FRow.of_own hD.row).row⟩
 have hFlt:=hy.i.lt _ _ _ h0
 have hkk:=pickN_le keep D.waits.length
 obtain ⟨kk,hkd⟩:∃ kk,kk=pickN keep D.waits.length:=⟨_,rfl⟩
 rw [<- hkd] at hkk hy ⊢
 have hFd:∀ j,F j->j≠d:=fun j e e2=>hF j e (.inr (.inr (.inl (.inl e2))))
 refine ret_of_x (N:=53) (l:=[y,.pointer (some ⟨cc,0,none⟩),.pointer (some ⟨cd,0,none⟩)]) Tryz.func66 rfl rfl (Nat.le_of_ble_eq_true rfl) ?_
 refine x_scope ?_
 refine x_seq ?_
 refine x_drawL (NoB) (allS) (.take 0 (.take 1 (.take 2 (.take 3 (.take 4 (.take 5 (.take 6 (.eff 7 (.take 8 .done))))))))) mixed (by kernel_rfl) (fun _ _ _ _ _ h=>h) (fun w1 l1=>?_)
 refine xt_Fb rfl ?_
 refine xt_Lc rfl ?_
 refine xt_Lc rfl ?_
 refine xt_Nc rfl ?_
 refine xt_Fb rfl ?_
 refine xt_Lc rfl ?_
 refine xt_v rfl v_len ?_
 refine xt_call rfl (pick_ok keep D.waits.length w1 hk (by omega)) ?_
 rintro _ _ ⟨rfl,rfl⟩
 refine ⟨kpc,?_⟩
 rw [<- hkd]
 refine xt_v rfl v_assign (xt_nil ?_)
 refine x_seq ?_
 refine x_label ?_
 refine xq (xl_Lc ?_)
 refine xl_Nc ?_
 refine xl_Fb ?_
 refine xl_Lc ?_
 refine xl_v v_len (xm (xl_nil ?_))
 refine x_block ?_
 have hI0:=hy.i.keep _ _ _ _ _ h0 (kpc:Keep NoB w w1) (fun _ _ h=>h) (fun _ h=>h.elim)
 have K0:Keep F w w1:=(kpc:Keep NoB w w1).mono (fun _ _ h=>h.elim)
 refine x_loop (fun m τ ds w'=>ds=[]/\∃ (k:Nat) (Fc:Nat->Prop),m=D.waits.length - k/\k<=D.waits.length/\k<=kk/\I (((told D.waits kk torn).take k).map tellT) Fc w'/\Keep F w w'/\Sub Fc F w/\Ev τ 0 y/\Ev τ 1 (.pointer (some ⟨cc,0,none⟩))/\Ev τ 2 (.pointer (some ⟨cd,0,none⟩))/\Ev τ 4 (.int .i64 (kk:Int))/\Ev τ 19 (.slice D.A D.waits.length D.c)/\Ev τ 20 (.int .i64 (D.waits.length:Int))/\Ev τ 21 (.int .i64 (k:Int))) (D.waits.length) ?start ?round
 case start=>
  exact ⟨rfl,0,F,rfl,by omega,by omega,hI0,K0,Sub.refl _ _,ii,ii,ii,ii,ii,ii,evc⟩
 case round=>
  intro m τ3 ds3 w3 hI
  obtain ⟨rfl,k,Fc,rfl,hkl,hkk2,hI,hkF,hsF,e0,e1,e2,e4,e19,e20,e21⟩:=hI
  haveI lF:Lk w3 w F:=⟨hkF⟩
  haveI:NotS F cc:=⟨fun e=>hF cc e (.inl rfl)⟩
  haveI:NotS F cd:=⟨fun e=>hF cd e (.inr (.inl rfl))⟩
  haveI:NotS F d:=⟨fun e=>hFd d e rfl⟩
  haveI:RowOut F D.A:=⟨fun a ha e=>hF _ e (.inr (.inr (.inl (.inr (.inr (.inr ⟨a,ha,rfl⟩))))))⟩
  haveI:Blk w3 cc _:=ii
  haveI:Blk w3 cd _:=ii
  haveI:Row w3 D.A (D.waits.flatMap thingC):=ii
  refine xq (xl_v v_lss (xl_nil ?_))
  refine x_seq ?_
  refine x_if (fun c1=>?_) (fun c1=>?_)
  ·have hk1:k<D.waits.length:=by omega
   have hA:=row_some (w:=w3) (A:=D.A) (cs:=D.waits.flatMap thingC) ii (by rw [flat_len (sz:=7) (fun _=>rfl)];omega)
   refine x_skip (x_seq (x_block (xq (xm ?_))))
   refine xl_v (v_indexF k (by decide) rfl (by omega) hk1) ?_
   refine xl_v (v_loadRA (vs:=thingC D.waits[k]) rfl hA (flat_get (enc:=thingC) (fun _=>rfl) D.waits k hk1)) ?_
   refine xl_e (e_alloc fun b6 w4 n6 l6 k6=>?_)
   refine xa ?_
   refine xl_s (e_storeA fun w5 l5 k5=>?_)
   refine xl_nil ?_
   refine x_seq (x_block (xq (xm (xm (xl_v v_lss (xm ?_))))))
   refine xl_split 30 (fun g30=>?_) (fun g30=>?_)
   ·refine xl_gv rfl EvO.eq v_move ?_
    refine xl_gFb rfl EvO.eq ?_
    refine xl_gv rfl EvO.eq (v_congr (u:=.int .i64 ((putsN D.waits[k].t:Nat):Int)) v_load (congrArg _ (putsI_N _))) ?_
    refine xl_gLb rfl EvO.eq ?_
    have hkk3:k<kk:=by simpa using g30
    have hg:=told_get (torn:=torn) hkk3 hk1
    have hI2:=hy.i.keep _ _ _ _ _ hI (kpc:Keep NoB w3 w5) (fun _ _ h=>h) (fun _ h=>h.elim)
    have hszB:=(Ge.le:(w3).heap.size<=(w5).heap.size)
    refine xl_gcallv rfl EvO.eq (hy.step _ _ Fc w5 (alT_step hg) hI2) ?_
    rintro _ w6 ⟨bb,F2,rfl,hI3,hk3,hs3⟩
    have hkF3:Keep F w w6:=(hkF.then (kpc:Keep NoB w3 w5) (fun _ _ h=>h.elim)).then hk3 (fun j hj e=>(hsF j e).elim id (fun h=>by omega))
    have hsF3:Sub F2 F w:=fun j e=>(hs3 j e).elim (fun e=>hsF j e) (fun e=>.inr (by have:=hkF.size;omega))
    refine xl_Pk ?_
    refine xz ?_
    refine x_condE (fun c2=>?_) (fun c2=>?_)
    ·have hI3:I (((told D.waits kk torn).take (k+1)).map tellT) F2 w6:=by
      rw [if_pos c2] at hI3
      rw [take_step hg]
      simpa using hI3
     refine x_exit (x_regionL ?_)
     refine xl_v (v_add (by omega)) ?_
     refine xm (xl_nil ?_)
     refine ⟨_,?_,rfl,k+1,F2,rfl,by omega,by omega,hI3,hkF3,hsF3,ii,ii,ii,ii,ii,ii,evc⟩
     omega
    have hfin:∃ pre F',((FinT (told D.waits kk torn) pre/\I pre F' w6)\/J pre F' w6)/\Keep F w w6/\Sub F' F w:=⟨_,F2,.inr (by rw [if_neg (by simpa using c2)] at hI3;exact hI3),hkF3,hsF3⟩
    refine xq (xm (xm ?_))
    refine xl_v (v_congr (u:=.bool false) v_eql (by simp;omega)) ?_
    refine xz ?_
    refine x_condF ?_
    refine x_skip (x_exit ?_)
    refine fin0 rfl ?_
    exact hfin
   refine xl_gs rfl EvO.eq (xl_gs rfl EvO.eq (xl_gs rfl EvO.eq (xl_gs rfl EvO.eq (xl_gs rfl EvO.eq (xl_Pk ?_)))))
   refine xz ?_
   refine x_condF ?_
   refine xq (xm (xm (xl_v v_eql (xz ?_))))
   refine x_if (fun c3=>?_) (fun c3=>?_)
   ·have hkn:k=kk:=by omega
    subst hkn
    have hI5:=hy.i.keep _ _ _ _ _ hI (kpc:Keep NoB w3 w5) (fun _ _ h=>h) (fun _ h=>h.elim)
    have hkF5:Keep F w w5:=hkF.then (kpc:Keep NoB w3 w5) (fun _ _ h=>h.elim)
    refine xq (xl_Fb ?_)
    refine xl_Lc ?_
    refine xl_Fb ?_
    refine xl_v (v_congr (u:=.int .i64 ((putsN D.waits[k].t:Nat):Int)) v_load (congrArg _ (putsI_N _))) ?_
    refine xl_call (pick_ok torn (putsN D.waits[k].t) w5 ht (by have:=hlen _ (List.getElem_mem hk1);have:=putsN_le D.waits[k].t;omega)) ?_
    rintro _ _ ⟨rfl,rfl⟩
    refine xz ?_
    refine xq (xm ?_)
    refine xl_v (v_congr (u:=.bool (decide (0<pickN torn (putsN D.waits[k].t)))) v_gtr (by simp)) ?_
    refine xl_nil ?_
    refine x_if (fun c4=>?_) (fun c4=>?_)
    ·have hls:=last_some (torn:=torn) hk1 c4
     refine x_regionL (xm (xm (xl_Lb ?_)))
     refine xl_callv (hy.step _ _ Fc w5 (alT_step (told_last hkl hls)) hI5) ?_
     rintro _ w8 ⟨bb,F2,rfl,hI3,hk3,hs3⟩
     have hfin:∃ pre F',((FinT (told D.waits k torn) pre/\I pre F' w8)\/J pre F' w8)/\Keep F w w8/\Sub F' F w:=by
      refine ⟨(told D.waits k torn).map tellT,F2,?_,hkF5.then hk3 (fun j hj e=>(hsF j e).elim id (fun h=>by omega)),fun j e=>(hs3 j e).elim (fun e=>hsF j e) (fun e=>.inr (by have:=hkF5.size;omega))⟩
      cases bb with
      | true=>exact .inl ⟨rfl,by
            rw [if_pos rfl] at hI3
            rw [<- told_snoc hkl hls,List.map_append]
            exact hI3⟩
      | false=>exact .inr (by
            rw [if_neg (by decide)] at hI3
            rw [<- told_snoc hkl hls,List.map_append]
            exact hI3)
     refine xl_nil ?_
     refine x_exit ?_
     refine fin0 rfl ?_
     exact hfin
    have hfin:∃ pre F',((FinT (told D.waits k torn) pre/\I pre F' w5)\/J pre F' w5)/\Keep F w w5/\Sub F' F w:=⟨_,Fc,.inl ⟨by rw [FinT,told_end hkl (last_none hk1 c4)],hI5⟩,hkF5,hsF⟩
    refine x_skip (x_exit ?_)
    refine fin0 rfl ?_
    exact hfin
   simp at g30
   omega
  have hkn:k=kk:=by omega
  subst hkn
  have hfin:∃ pre F',((FinT (told D.waits k torn) pre/\I pre F' w3)\/J pre F' w3)/\Keep F w w3/\Sub F' F w:=⟨_,Fc,.inl ⟨by rw [FinT,told_end hkl (last_len (by omega))],hI⟩,hkF,hsF⟩
  refine x_exit ?_
  refine fin0 rfl ?_
  exact hfin
def NoE:List Value->(Nat->Prop)->World->Prop:=fun _ Fv _=>∀ k,¬ Fv k
theorem noE_elem:Elem NoE:=⟨fun _ _ _ h k e=>absurd e (h k),fun _ _ _ _ _ h _ _=>h⟩
theorem iterE_of {P:Program} {g:Value} {Own:Nat->Prop} {Al Fin:Seen->Prop} {w:World} (h:IterI P g Own Al Fin w):IterE P g Own Al Fin NoE w:=
 fun y I J F w0 hy hw0 h0 hF=>h y I J F w0 ⟨hy.i,hy.j,fun pre v F W hal hI=>(hy.step pre v F NoB W hal hI (fun k h=>h) (fun k h=>h.elim) (fun k h=>h.elim)).mono (by
  rintro r W' ⟨b,F',h1,h2,h3,h4⟩
  exact ⟨b,F',h1,h2,h3.mono (fun k _ e=>e.elim id (fun e=>e.elim)),fun k e=>(h4 k e).imp (fun e=>e.elim id (fun e=>e.elim)) id⟩)⟩ hw0 h0 hF
theorem alT_last {tl:List (Nat×LThing)} {pre:Seen} {v:List Value} (h:AlT tl (pre++[v])):∃ h:pre.length<tl.length,v=tellT tl[pre.length]:=by
 obtain ⟨h1,h2⟩:=h
 have hl:pre.length<tl.length:=by simp at h1;omega
 refine ⟨hl,?_⟩
 have h3:=congrArg (fun l=>l[pre.length]?) h2
 simp [hl] at h3
 exact h3
theorem alT_len {tl:List (Nat×LThing)} {pre:Seen} {v:List Value} (h:AlT tl (pre++[v])):v.length=2:=by
 obtain ⟨h1,rfl⟩:=alT_last h
 rfl
theorem finT_len {tl:List (Nat×LThing)} {pre:Seen} (h:FinT tl pre):pre.length=tl.length:=by
 rw [h];simp
abbrev partsT (tl:List (Nat×LThing)):List Thing:=tl.map (fun p=>tornT p.2.t p.1)
theorem told_len (ws:List LThing) (k:Nat) (torn:Int):(told ws k torn).length<=ws.length:=by
 rw [told,List.length_append,List.length_map,List.length_take]
 by_cases h:k<ws.length
 ·have:(lastT ws k torn).length<=1:=by
   rw [lastT,List.getElem?_eq_getElem h]
   dsimp only
   split<;>simp
  omega
 ·rw [last_len h];simp;omega
theorem crash_shape (M:Disk) (keep torn:Int):(M.crash keep torn).room=M.room/\(M.crash keep torn).waits=[]:=by
 unfold Disk.crash
 dsimp only
 split
 ·exact ⟨rfl,rfl⟩
 ·split<;>exact ⟨rfl,rfl⟩
theorem told_pure {M:Disk} {ws:List LThing} {keep torn:Int} (hw:ws.map (·.t)=M.waits) (hr:Rise M.lasts) (hg:Dm.Good M.room M.lasts M.waits) :
    Dm.Good M.room M.lasts (partsT (told ws (pickN keep ws.length) torn))/\(partsT (told ws (pickN keep ws.length) torn)).foldl Dm.done M.lasts=(M.crash keep torn).lasts/\∀ p∈told ws (pickN keep ws.length) torn,p.2∈ws/\p.1<=p.2.t.bytes.length:=by
 have hl:M.waits.length=ws.length:=by rw [<- hw];simp
 obtain ⟨kk,hkk⟩:∃ kk,kk=pickN keep ws.length:=⟨_,rfl⟩
 have hc:M.crash keep torn=(match M.waits[kk]? with
     | none=>⟨M.room,(M.waits.take kk).foldl Dm.done M.lasts,[]⟩
     | some t=>if t.what=0/\0<pickN torn t.bytes.length then ⟨M.room,Dm.done ((M.waits.take kk).foldl Dm.done M.lasts) (tornT t (pickN torn t.bytes.length)),[]⟩ else ⟨M.room,(M.waits.take kk).foldl Dm.done M.lasts,[]⟩):=by
  rw [Disk.crash,hl,<- hkk]
  rfl
 have hwk:M.waits[kk]?=(ws[kk]?).map (·.t):=by rw [<- hw,List.getElem?_map]
 have h1:((ws.take kk).map (fun x=>(putsN x.t,x.t))).map (·.2)=M.waits.take kk:=by rw [<- hw];simp [List.map_take,Function.comp_def]
 have h2:partsT ((ws.take kk).map (fun x=>(putsN x.t,x)))=((ws.take kk).map (fun x=>(putsN x.t,x.t))).map (fun p=>tornT p.2 p.1):=by simp [partsT,Function.comp_def]
 obtain ⟨g1,g2⟩:=Dm.Good.torn (ts:=(ws.take kk).map (fun x=>(putsN x.t,x.t))) (h1 ▸ hg.take kk) (by
  rintro p hp h0
  obtain ⟨x,_,rfl⟩:=List.mem_map.1 hp
  show x.t.bytes.length<=putsN x.t
  unfold putsN
  rw [if_pos h0]
  exact Nat.le_refl _)
 rw [<- h2] at g1 g2
 rw [h1] at g2
 have hmem:∀ p∈(ws.take kk).map (fun x=>(putsN x.t,x)),p.2∈ws/\p.1<=p.2.t.bytes.length:=by
  rintro p hp
  obtain ⟨x,hx,rfl⟩:=List.mem_map.1 hp
  exact ⟨List.mem_of_mem_take hx,putsN_le _⟩
 rw [<- hkk]
 cases hx:ws[kk]? with
 | none=>
   have e:told ws kk torn=(ws.take kk).map (fun x=>(putsN x.t,x)):=by simp [told,lastT,hx]
   rw [e,hc,hwk,hx]
   exact ⟨g1,g2,hmem⟩
 | some x=>
   obtain ⟨hk1,hxe⟩:=List.getElem?_eq_some_iff.1 hx
   by_cases h0:0<pickN torn (putsN x.t)
   ·have hw0:x.t.what=0:=by
     apply Decidable.byContradiction
     intro hne
     have:=pickN_le torn (putsN x.t)
     unfold putsN at this h0
     rw [if_neg hne] at this h0
     omega
    have hpn:putsN x.t=x.t.bytes.length:=by unfold putsN;rw [if_pos hw0]
    have e:told ws kk torn=(ws.take kk).map (fun x=>(putsN x.t,x))++[(pickN torn (putsN x.t),x)]:=by
     simp [told,lastT,hx,h0]
    have e2:partsT (told ws kk torn)=partsT ((ws.take kk).map (fun x=>(putsN x.t,x)))++[tornT x.t (pickN torn x.t.bytes.length)]:=by
     rw [e,<- hpn];simp [partsT]
    have hok:okT M.room ((M.waits.take kk).foldl Dm.done M.lasts) x.t:=by
     have:=hg.at_ kk (by omega)
     have e3:M.waits[kk]'(by omega)=x.t:=by
      have h5:M.waits[kk]?=some x.t:=by rw [hwk,hx];rfl
      exact (List.getElem?_eq_some_iff.1 h5).2
     rwa [e3] at this
    rw [e2,hc,hwk,hx]
    refine ⟨Dm.Good.snoc' hr g1 (by rw [g2];exact okT_torn hok),?_,?_⟩
    ·rw [List.foldl_append,g2]
     simp only [Option.map_some]
     rw [if_pos ⟨hw0,hpn ▸ h0⟩]
     rfl
    ·rw [e]
     intro p hp
     rcases List.mem_append.1 hp with hp | hp
     ·exact hmem p hp
     ·have e4:p=(pickN torn (putsN x.t),x):=by simpa using hp
      rw [e4]
      exact ⟨List.mem_of_getElem? hx,by have:=pickN_le torn (putsN x.t);have:=putsN_le x.t;show pickN torn (putsN x.t)<=x.t.bytes.length;omega⟩
   ·have e:told ws kk torn=(ws.take kk).map (fun x=>(putsN x.t,x)):=by simp [told,lastT,hx,h0]
    rw [e,hc,hwk,hx]
    refine ⟨g1,?_,hmem⟩
    simp only [Option.map_some]
    rw [if_neg]
    ·exact g2
    ·rintro ⟨h3,h4⟩
     have hpn:putsN x.t=x.t.bytes.length:=by unfold putsN;rw [if_pos h3]
     exact h0 (hpn ▸ h4)
def CrashI (m2:Nat) (G:Nat->Prop) (L0:Fs) (tl:List (Nat×LThing)) (wb:World):Seen->(Nat->Prop)->World->Prop:=fun pre F W=>
 ∃ (Gn:Nat->Prop) (l:List (ByteArray×LB)),FilesAt W m2 (fun k=>G k\/Gn k) l/\fsP l=(partsT (tl.take pre.length)).foldl doneM L0/\(∀ k,F k↔k=m2\/Gn k)/\(∀ k,Gn k->wb.heap.size<=k)/\Keep (OneB m2) wb W
theorem crashI_stable {m2:Nat} {G:Nat->Prop} {L0:Fs} {tl:List (Nat×LThing)} {wb:World} (hG:∀ k,G k->k<wb.heap.size):Stable (CrashI m2 G L0 tl wb) wb:=by
 refine ⟨?_,?_⟩
 ·rintro pre F W ⟨Gn,l,h1,_,h3,h4,_⟩ k hk
  rcases (h3 k).1 hk with rfl | e
  ·exact h1.map.lt
  ·exact h1.lt k (.inr e)
 ·rintro pre F W W' S ⟨Gn,l,h1,h2,h3,h4,h5⟩ hk hs hn
  refine ⟨Gn,l,h1.keep hk (hs m2 ((h3 m2).2 (.inl rfl))) (fun k e e2=>?_),h2,h3,h4,h5.then hk (fun k hlt hS=>by have:=hn k hS;omega)⟩
  rcases e with e | e
  ·have:=hG k e;have:=hn k e2;omega
  ·exact hs k ((h3 k).2 (.inr e)) e2
theorem keeps_ok (d:Nat) (keep torn:Int) (w:World):Ret Tryz.prog 43 #[.pointer (some ⟨d,0,none⟩),.agg #[.int .i64 keep,.int .i64 torn]] w (fun v w'=>(∃ cc cd,v=.func (.func 66) ([]:List Value).toArray [Value.pointer (some ⟨cc,0,none⟩),Value.pointer (some ⟨cd,0,none⟩)].toArray/\w'.heap[cc]?=some (.cells #[.int .i64 keep,.int .i64 torn] 24 (0,0))/\w'.heap[cd]?=some (.cells #[.pointer (some ⟨d,0,none⟩)] 28 (0,0))/\w.heap.size<=cc/\w.heap.size<=cd)/\Lk w' w NoB):=by
 refine ret_of_x (N:=6) (l:=[.pointer (some ⟨d,0,none⟩),.agg #[.int .i64 keep,.int .i64 torn]]) Tryz.func43 rfl rfl (Nat.le_of_ble_eq_true rfl) ?_
 refine xq ?_
 refine xl_e (e_box fun b1 w1 n1 l1 k1=>?_)
 refine xl_e (e_box fun b2 w2 n2 l2 k2=>?_)
 refine xz ?_
 refine xq (xl_v v_makeFunc (xz ?_))
 refine x_ret ?_
 refine fin1 rfl ?_
 exact ⟨⟨b2,b1,rfl,Blk.eq,Blk.eq,by rw [n2.eq];exact Ge.le,by rw [n1.eq];exact Ge.le⟩,lkc⟩
theorem keepsIter (cc cd d mb ml:Nat) (G:Nat->Prop) (D:LDisk) (keep torn:Int) (w:World) [hbc:Blk w cc (.cells #[.int .i64 keep,.int .i64 torn] 24 (0,0))] [hbd:Blk w cd (.cells #[.pointer (some ⟨d,0,none⟩)] 28 (0,0))] (hD:DiskAt w d mb ml G D) (hfew:D.waits.length<=1000000) (hk:In64 keep) (ht:In64 torn) (hlen:∀ x∈D.waits,x.t.bytes.length<=16777216) :
    IterI Tryz.prog (.func (.func 66) ([]:List Value).toArray [Value.pointer (some ⟨cc,0,none⟩),Value.pointer (some ⟨cd,0,none⟩)].toArray) (fun k=>k=cc\/k=cd\/DiskF d mb ml D.A G k) (AlT (told D.waits (pickN keep D.waits.length) torn)) (FinT (told D.waits (pickN keep D.waits.length) torn)) w:=
 fun y I J F w0 hy hw0 h0 hF=>CallV.of_ret (keeps1_ok y cc cd d mb ml G D keep torn I J F w hD hfew hk ht hlen w0 hy hw0 h0 hF)
theorem crash_ok (P R:Nat->Prop) (d:Nat) (M:Disk) (keep torn:Int) (w:World) (h:DiskW P R d M w) (hk:In64 keep) (ht:In64 torn):Ret Tryz.prog 16 #[.pointer (some ⟨d,0,none⟩),.agg #[.int .i64 keep,.int .i64 torn]] w (fun v w'=>(∃ x,v=.tuple #[.pointer (some ⟨x,0,none⟩),.int .i64 0]/\DiskW P (fun k=>k<w.heap.size) x (M.crash keep torn) w'/\w.heap.size<=x)/\Lk w' w NoB):=by
 obtain ⟨mb,ml,G,D,hD,hS,hP,hR⟩:=h
 haveI hb:Blk w d _:=⟨hD.hb⟩
 have hwl:D.waits.length=M.waits.length:=by rw [<- hS.waits];simp
 have hfew:=hS.few
 have hlens:∀ x∈D.waits,x.t.bytes.length<=16777216:=fun x hx=>hS.lens x.t (by rw [<- hS.waits];exact List.mem_map.2 ⟨x,hx,rfl⟩)
 obtain ⟨hgood,hfold,htl⟩:=told_pure (keep:=keep) (torn:=torn) hS.waits hS.ok.rise hS.ok.good
 obtain ⟨tl,htld⟩:∃ tl,tl=told D.waits (pickN keep D.waits.length) torn:=⟨_,rfl⟩
 rw [<- htld] at hgood hfold htl
 have hroom:=hS.room
 refine ret_of_x (N:=35) (l:=[.pointer (some ⟨d,0,none⟩),.agg #[.int .i64 keep,.int .i64 torn]]) Tryz.func16 rfl rfl (Nat.le_of_ble_eq_true rfl) ?_
 refine xq ?_
 refine xl_e (e_box fun b1 w1 n1 l1 k1=>?_)
 refine xa (xz ?_)
 refine x_seq (xq (xm ?_))
 refine xl_call (none_ok d mb ml G D M w1 (hD.ext (kpc:Keep NoB w w1)) hS) ?_
 rintro _ _ ⟨rfl,rfl⟩
 refine xl_nil ?_
 refine x_condF ?_
 refine x_skip (xq (xm (xl_Nc ?_)))
 refine xl_Fb ?_
 refine xl_Lb ?_
 refine xl_call (copied_ok ml G D.lasts w1 (hD.las.ext (kpc:Keep NoB w w1))) ?_
 rintro _ w3 ⟨⟨m2,rfl,hF2,hg2⟩,lk1⟩
 have hgp:=(Ge.le:w.heap.size<=(w1).heap.size)
 have hm2l:=hF2.map.lt
 refine xl_e (e_alloc fun b6 w4 n6 l6 k6=>?_)
 refine xl_s (e_storeA fun w5 l5 k5=>?_)
 refine xl_nil ?_
 refine x_seq (xq (xm (xl_Lb ?_)))
 refine xl_call (keeps_ok d keep torn w5) ?_
 rintro _ w6 ⟨⟨cc,cd,rfl,hcc,hcd,hgc,hgd⟩,lk2⟩
 haveI:Blk w6 cc _:=⟨hcc⟩
 haveI:Blk w6 cd _:=⟨hcd⟩
 have hm2p:m2<(w5).heap.size:=Nat.lt_of_lt_of_le hm2l Ge.le
 have hb6p:b6<(w5).heap.size:=Has.lt
 refine xl_nil ?_
 refine x_block ?_
 have hDw:=hD.ext (kpc:Keep NoB w w6)
 have hFw:=hF2.keep (kpc:Keep (OneB b6) _ w6) (fun e=>by have e':m2=b6:=e;have:=n6.eq;omega) (fun k e e2=>by have:=hD.cur.lt k e;have e':k=b6:=e2;have:=n6.eq;have:=lk1.keep.size;omega)
 haveI kb6:Blk w6 b6 _:=ii
 have hwE:=(Ge.le:w.heap.size<=(w6).heap.size)
 have hb6l:b6<(w6).heap.size:=Has.lt
 have hm2w:=hFw.map.lt
 have hdl:=hD.lt d (.inl (.inl rfl))
 haveI:NeB d m2:=⟨by omega⟩
 haveI kbd:Blk w6 d _:=ii
 haveI:NeB b6 m2:=⟨by have:=n6.eq;omega⟩
 have hG2:∀ k,G k->k<w.heap.size:=hD.cur.lt
 obtain ⟨wS,hwS⟩:∃ x,x=w6:=⟨_,rfl⟩
 refine x_rangeE (ps:=[19,20]) (fun k=>k=cc\/k=cd\/DiskF d mb ml D.A G k) (AlT tl) (FinT tl) (NoE) (noE_elem) (fun W l=>iterE_of (htld ▸ keepsIter cc cd d mb ml G D keep torn W (hDw.ext (kpc:Keep NoB w6 W)) (by omega) hk ht hlens)) (by rintro k (rfl | rfl | e);exact Has.lt;exact Has.lt;exact hDw.lt k e) (fun pre v h=>alT_len h) (CrashI m2 G (fsP D.lasts) tl w6) (fun _ _ _ _=>False) (OneB m2) (crashI_stable (fun k e=>hDw.cur.lt k e)) (fun _=>⟨fun _ _ _ h=>h.elim,fun _ _ _ _ _ h=>h.elim⟩) (⟨NoB,D.lasts,hFw.mono (fun k e=>.inl e) (fun k e=>e.elim (fun e=>hFw.lt k e) (fun e=>e.elim)) (fun e=>e.elim hFw.out (fun e=>e)),rfl,fun k=>⟨fun e=>.inl e,fun e=>e.elim id (fun e=>e.elim)⟩,fun k e=>e.elim,Keep.refl _ _⟩) (fun k hk e=>by have e':k=m2:=hk;subst e';rcases e with e | e | e;omega;omega;have:=hD.lt _ e;omega) (fun v τ n W=>∃ (p:Nat×LThing) (c8:Nat),v=tellT p/\Ev τ 6 (.pointer (some ⟨b6,0,none⟩))/\Ev τ 7 (.int .i64 (p.1:Int))/\Ev τ 8 (.pointer (some ⟨c8,0,none⟩))/\W.heap[c8]?=some (.cells (thingC p.2).toArray 93 (0,0))/\n<=c8) (by rintro v τ n W1 W2 S ⟨p,c8,h1,h2,h3,h4,h5,h6⟩ hk hs;exact ⟨p,c8,h1,h2,h3,h4,(hk.block c8 (Array.getElem?_eq_some_iff.1 h5).1 (fun e=>by have:=hs _ e;omega)).trans h5,h6⟩) ?assign ?body ?normal ?jump
 case assign=>
  intro l7 pre v7 w7 hal hv7
  obtain ⟨hj,rfl⟩:=alT_last hal
  simp only [updL,tellT]
  refine xq (xz ?_)
  refine x_regionL ?_
  refine xl_e (e_alloc fun c8 w8 n8 l8 k8=>?_)
  refine xl_s (e_storeA fun w9 l9 k9=>?_)
  refine xl_nil ?_
  exact ⟨lkc,tl[pre.length],c8,rfl,ii,ii,ii,Blk.eq,by rw [n8.eq];exact Nat.le_refl _⟩
 case body=>
  intro l pre v F Fv nb w10 τ10 ds10 hal hI hE hdis hnew hlt hnb hnbw hB
  obtain ⟨Gn,l,hFl,hfl,hFe,hGn,hkw⟩:=hI
  obtain ⟨hj,rfl⟩:=alT_last hal
  obtain ⟨p,c8,hv,e6,e7,e8,hc8,hnc⟩:=hB
  obtain ⟨q,hq⟩:∃ q,q=tl[pre.length]:=⟨_,rfl⟩
  rw [<- hq] at hv
  have hv':=hv
  injection hv with hv1 hv2
  injection hv2 with hv3 _
  injection hv1 with _ hv1
  injection hv3 with hv3
  rw [<- hv3] at hc8
  rw [<- hv1] at e7
  obtain ⟨hqw,hqn⟩:=htl q (hq ▸ List.getElem_mem hj)
  haveI lkB:Lk w10 _ (OneB m2):=⟨hkw⟩
  haveI:Blk w10 b6 _:=ii
  haveI:Blk w10 c8 _:=⟨hc8⟩
  have hact:=hDw.acts q.2 hqw
  have htake:partsT (tl.take (pre.length+1))=partsT (tl.take pre.length)++[tornT q.2.t q.1]:=by
   rw [take_snoc _ _ hj,hq]
   simp only [partsT,List.map_append,List.map_cons,List.map_nil]
  have hgk:=hgood.take pre.length
  have hal2:Dm.Alike (fsP l) ((partsT (tl.take pre.length)).foldl Dm.done M.lasts):=by
   rw [hfl]
   have e:partsT (tl.take pre.length)=(partsT tl).take pre.length:=by simp [partsT,List.map_take]
   rw [e]
   exact hS.las.fold hgk
  have hokq:okT M.room ((partsT (tl.take pre.length)).foldl Dm.done M.lasts) (tornT q.2.t q.1):=by
   have h9:=hgood.at_ pre.length (by simpa [partsT] using hj)
   have e:(partsT tl).take pre.length=partsT (tl.take pre.length):=by simp [partsT,List.map_take]
   have e2:(partsT tl)[pre.length]'(by simpa [partsT] using hj)=tornT q.2.t q.1:=by simp [partsT,hq]
   rwa [e,e2] at h9
  have hul:usedB (fsP l)<=16777216:=by
   have h9:=hal2.used
   have e:partsT (tl.take pre.length)=(partsT tl).take pre.length:=by simp [partsT,List.map_take]
   have h10:=(hgood.take pre.length).fold
   rw [<- e] at h10
   have:=hS.ok.most
   omega
  have hpreq:q.2.t.what=1->∃ b,akey (fsP l) q.2.t.name=some b/\q.2.t.n.toNat<=b.length:=by
   intro h1
   rw [hal2.eq]
   rcases hokq.2 with ⟨e,_⟩ | ⟨_,b,hb,h2,h3⟩ | ⟨e,_⟩
   ·have e':q.2.t.what=0:=e;omega
   ·exact ⟨b,hb,by have e':(tornT q.2.t q.1).n=q.2.t.n:=rfl;omega⟩
   ·have e':q.2.t.what=2:=e;omega
  have hGm:∀ k,G k->¬ OneB m2 k:=fun k e e2=>by have e':k=m2:=e2;have:=hG2 k e;omega
  refine x_block (x_regionL (xl_Fb ?_))
  refine xl_Lc ?_
  refine xl_Lb ?_
  refine xm ?_
  refine xl_callv (hact.2 w10 (OneB m2) (hkw.then (kpc:Keep NoB w10 w10) (fun _ _ h=>h.elim)) hGm m2 (fun k=>G k\/Gn k) l q.1 (hFl.ext (kpc:Keep NoB w10 w10)) (fun e=>hFl.out (.inl e)) hpreq hqn (hlens q.2 hqw) hul) ?_
  rintro _ w11 ⟨rfl,G1,l1,hF1,hl1,hG1,lk4⟩
  refine xl_nil ?_
  refine ⟨fun j=>j=m2\/(Gn j\/((w10).heap.size<=j/\G1 j)),⟨fun j=>Gn j\/((w10).heap.size<=j/\G1 j),l1,?_,?_,fun _=>Iff.rfl,?_,?_⟩,?_,?_⟩
  ·refine hF1.mono (fun j e=>?_) (fun j e=>?_) ?_
   ·rcases hG1 j e with (e2 | e2) | e2
    ·exact .inl e2
    ·exact .inr (.inl e2)
    ·exact .inr (.inr ⟨e2,e⟩)
   ·rcases e with e | e | ⟨_,e⟩
    ·exact Nat.lt_of_lt_of_le (hG2 j e) (Nat.le_trans hwE (Nat.le_trans hkw.size Ge.le))
    ·exact Nat.lt_of_lt_of_le (hFl.lt j (.inr e)) Ge.le
    ·exact hF1.lt j e
   ·rintro (e | e | ⟨_,e⟩)
    ·exact hFl.out (.inl e)
    ·exact hFl.out (.inr e)
    ·exact hF1.out e
  ·rw [List.length_append,List.length_singleton,htake,List.foldl_append,<- hfl]
   exact hl1
  ·rintro j (e | ⟨e,_⟩)
   ·exact hGn j e
   ·have:=hkw.size
    omega
  ·exact hkw.then (kpc:Keep (OneB m2) w10 w11) (fun j hj e=>e)
  ·exact (kpc:Keep (OneB m2) w10 w11).mono (fun j _ e=>.inl ((hFe j).2 (.inl e)))
  ·rintro j (e | e | ⟨e,_⟩)
   ·exact .inl (.inl ((hFe j).2 (.inl e)))
   ·exact .inl (.inl ((hFe j).2 (.inr e)))
   ·exact .inr (by omega)
 case normal=>
  intro D12 pre F w12 hfin hI hkF hsF hD12 hge12 hnF12
  obtain ⟨Gn,l,hFl,hfl,hFe,hGn,hkw⟩:=hI
  have hjn:=finT_len hfin
  rw [hjn,List.take_of_length_le (Nat.le_refl _)] at hfl
  haveI lkB:Lk w12 _ (OneB m2):=⟨hkF⟩
  haveI:Blk w12 b6 _:=ii
  haveI sM:SubF (OneB m2) NoB w:=⟨fun k hk e=>by have e':k=m2:=e;omega⟩
  have hDg:=hge12
  have hDn:=hnF12
  have hDl:D12<(w12).heap.size:=Has.lt
  have hDw2:w.heap.size<=D12:=Nat.le_trans hwE hDg
  haveI sD:SubF (fun k=>k∈[D12]) NoB w:=⟨fun k hk e=>by simp at e;omega⟩
  have hDm:D12≠m2:=fun e=>hDn ((hFe _).2 (.inl e))
  have hDG:∀ k,(G k\/Gn k)->k≠D12:=fun k e e2=>by
   subst e2
   rcases e with e | e
   ·have:=hG2 _ e;omega
   ·exact hDn ((hFe _).2 (.inr e))
  refine x_seq ?_
  refine x_drawL (NoB) (allS) (.take 0 (.take 1 (.take 3 (.take 4 (.take 5 (.take 6 (.eff 2 (.take 7 (.eff 8 (.take 9 (.take 10 .done))))))))))) mixed (by kernel_rfl) (fun _ _ _ _ _ h=>h) (fun w13 l13=>?_)
  refine xt_Lb rfl ?_
  refine xt_Lb rfl ?_
  refine xt_v rfl v_move (xt_Nc rfl ?_)
  refine xt_Fb rfl ?_
  refine xt_Lc rfl ?_
  refine xt_call rfl (copied_ok m2 (fun k=>G k\/Gn k) l w13 (hFl.ext (kpc:Keep NoB _ w13))) ?_
  rintro _ w14 ⟨⟨m3,rfl,hF3,hg3⟩,lk5⟩
  refine ⟨kpc,?_⟩
  have hm3l:=hF3.map.lt
  have hDp:D12<(w13).heap.size:=Has.lt
  have hm2p3:m2<(w13).heap.size:=Nat.lt_of_lt_of_le hFl.map.lt Ge.le
  have hszp:=(Ge.le:w.heap.size<=(w13).heap.size)
  have hs12:∀ k,(G k\/Gn k)->k<(w13).heap.size:=fun k e=>Nat.lt_of_lt_of_le (hFl.lt k e) Ge.le
  refine xt_v rfl v_build ?_
  refine xt_e rfl (e_box fun x w15 nx lx kx=>?_)
  have hx3:m3<x:=by rw [nx.eq];exact Nat.lt_of_lt_of_le hm3l Ge.le
  haveI:NotS (fun k=>k∈[D12]) x:=⟨fun e=>by have e':=List.mem_singleton.1 e;omega⟩
  refine xt_v rfl v_assign (xt_v rfl v_assign (xt_nil ?_))
  refine x_ret ?_
  refine finM (rs:=[.tmp 4,.tmp 5]) rfl [D12] rfl (by simpa using (Blk.eq:(w15).heap[D12]?=_)) (by simp) (fun w16 lm16=>⟨_,ii,?_⟩)
  obtain ⟨hc1,hc2⟩:=crash_shape M keep torn
  have hff:(M.crash keep torn).files=(M.crash keep torn).lasts:=by rw [Disk.files,hc2];rfl
  have hali:Dm.Alike (fsP l) (M.crash keep torn).lasts:=by
   rw [hfl,<- hfold]
   exact hS.las.fold hgood
  have hnD:∀ k,k≠D12->¬ (k∈[D12]):=fun k hk e=>hk (List.mem_singleton.1 e)
  have hAt:DiskAt w16 x m2 m3 (fun k=>G k\/Gn k) ⟨D.room,l,l,[],none,0⟩:=⟨by simpa using (Blk.eq:(w16).heap[x]?=_),hFl.keep (kpc:Keep (fun k=>k∈[D12]) _ w16) (hnD _ (fun e=>hDm e.symm)) (fun k e=>hnD k (hDG k e)),hF3.keep (kpc:Keep (fun k=>k∈[D12]) _ w16) (hnD _ (by omega)) (fun k e=>hnD k (hDG k e)),World.ownsRow_nil _ _ _ _,nofun,by omega,by omega,by omega,fun e=>by rcases e with e | e;have:=hG2 _ e;omega;have:=hs12 _ (.inr e);omega,nofun⟩
  refine ⟨⟨x,by simp [outV],⟨m2,m3,_,_,hAt,⟨hroom.trans hc1.symm,by rw [hc2];rfl,by rw [hff];exact hali,hali,hS.ok.crash keep torn,?_,by rw [hc2];nofun⟩,fun k e=>?_,fun k e=>?_⟩,by omega⟩,lkc⟩
  ·rw [hc2,<- hfold]
   have h1:=fold_len (partsT tl) M.lasts
   have h2:(partsT tl).length<=M.waits.length:=by
    have:=told_len D.waits (pickN keep D.waits.length) torn
    rw [<- htld] at this
    simp [partsT]
    omega
   simp only [List.length_nil]
   omega
  ·obtain ⟨q1,q2⟩:=hP k e
   refine ⟨Nat.lt_of_lt_of_le q1 Ge.le,?_⟩
   rintro ((e2 | e2 | e2 | ⟨a,ha,_⟩) | e2 | e2)
   ·omega
   ·omega
   ·omega
   ·cases ha
   ·exact q2 (.inr e2)
   ·have:=hGn k e2;omega
  ·refine ⟨Nat.lt_of_lt_of_le e Ge.le,?_⟩
   rintro (e2 | e2 | e2 | ⟨a,ha,_⟩)
   ·omega
   ·omega
   ·omega
   ·cases ha
 case jump=>
  exact fun _ _ _ _ _ h=>h.elim
end Go.Proofs.YtigmfcgeljjgnaaGreat
namespace Go.Proofs.YtigmfcgeljjgnaaGreat
open Go.Wst
open Go.Wst.Dm Go.Wst.Sg
def AlG (tl:Seen):Seen->Prop:=fun pre=>pre.length<=tl.length/\pre=tl.take pre.length
def FinG (tl:Seen):Seen->Prop:=fun pre=>pre=tl
theorem alG_step {tl:Seen} {k:Nat} (h:k<tl.length):AlG tl (tl.take k++[tl[k]]):=by
 have h1:tl.take k++[tl[k]]=tl.take (k+1):=(take_snoc tl k h).symm
 rw [h1]
 refine ⟨by rw [List.length_take];omega,?_⟩
 rw [List.length_take,Nat.min_eq_left (by omega)]
theorem alG_last {tl:Seen} {pre:Seen} {v:List Value} (h:AlG tl (pre++[v])):∃ hl:pre.length<tl.length,v=tl[pre.length]/\pre=tl.take pre.length:=by
 obtain ⟨h1,h2⟩:=h
 have hl:pre.length<tl.length:=by simp at h1;omega
 refine ⟨hl,?_⟩
 rw [List.length_append,List.length_cons,List.length_nil,Nat.zero_add,take_snoc tl _ hl] at h2
 have h3:=List.append_inj h2 (by rw [List.length_take,Nat.min_eq_left (by omega)])
 exact ⟨by simpa using h3.2,h3.1⟩
def tlF (l:List En):Seen:=(List.range l.length).map (fun k=>[Value.int .i64 ((frames (l.take (k+1))).length:Int),.agg (enC (l.getD k En.zero)).toArray])
theorem tlF_len (l:List En):(tlF l).length=l.length:=by simp [tlF]
theorem tlF_get {l:List En} {k:Nat} (h:k<l.length) (h2:k<(tlF l).length):(tlF l)[k]=[Value.int .i64 ((frames (l.take (k+1))).length:Int),.agg (enC l[k]).toArray]:=by
 simp [tlF,List.getD_eq_getElem?_getD,List.getElem?_eq_getElem h]
def ScanAt (c:Nat) (w:World):Prop:=∃ (a b:Value) (y:Int),w.heap[c]?=some (.cells #[a,b,.int .i64 y] 99 (0,0))
def WhyW (c:Nat) (w w':World):Prop:=Keep (OneB c) w w'/\∃ (a b:Value) (y x:Int),w.heap[c]?=some (.cells #[a,b,.int .i64 y] 99 (0,0))/\w'.heap[c]?=some (.cells #[a,b,.int .i64 x] 99 (0,0))
abbrev framesV (bw bb:Nat):Value:=.func (.func 80) ([]:List Value).toArray [ptrV bw,ptrV bb].toArray
set_option maxHeartbeats 1000000 in
theorem frames1_ok (y:Value) (bw bb c:Nat) (G:Nat->Prop) (A:Option Addr) (n cap:Nat) (bs:By) (I J:Seen->(Nat->Prop)->World->Prop) (F:Nat->Prop) (w:World) [kbw:Blk w bw (.cells #[.pointer (some ⟨c,2,none⟩)] 117 (0,0))] [kbb:Blk w bb (.cells #[.slice A n cap] 80 (0,0))] (hr:FRow w G A (bytesC bs)) (hl:bs.length=n) (hn:n<=100000000) (hcap:n<=cap) (w0:World) (hy:YieldsE Tryz.prog y (AlG (tlF (allB bs))) NoE I J w0 w.heap.size) (hRd:∀ pre F W,I pre F W->ScanAt c W) (hWr:∀ pre F W W',I pre F W->WhyW c W W'->I pre F W') (hFc:F c) (hw0:w0.heap.size<=w.heap.size) (h0:I [] F w) (hF:∀ k,F k->¬ (k=bw\/k=bb\/G k)):Ret Tryz.prog 80 #[y,ptrV bw,ptrV bb] w (fun _ w'=>∃ pre F',((FinG (tlF (allB bs)) pre/\I pre F' w')\/J pre F' w')/\Keep F w w'/\Sub F' F w):=by
 obtain ⟨a0,b0,y0,hc0⟩:=hRd _ _ _ h0
 haveI kc0:Blk w c (.cells #[a0,b0,.int .i64 y0] 99 (0,0)):=⟨hc0⟩
 obtain ⟨l,hl0⟩:∃ l,l=allB bs:=⟨_,rfl⟩
 rw [<- hl0] at hy ⊢
 have hcl:c<w.heap.size:=(Array.getElem?_eq_some_iff.1 hc0).1
 have hbwc:bw≠c:=fun e=>hF c hFc (.inl e.symm)
 have hbbc:bb≠c:=fun e=>hF c hFc (.inr (.inl e.symm))
 haveI:NeB bw c:=⟨hbwc⟩
 haveI:NeB bb c:=⟨hbbc⟩
 refine ret_of_x (N:=35) (l:=[y,ptrV bw,ptrV bb]) Tryz.func80 rfl rfl (Nat.le_of_ble_eq_true rfl) ?_
 refine xq (xz ?_)
 refine xq (xl_Lc ?_)
 refine xl_Nc ?_
 refine xl_s (e_store fun w1 l1 k1=>?_)
 refine xl_nil ?_
 have hI0:I [] F w1:=hWr _ _ _ _ h0 ⟨kpc,a0,b0,y0,0,hc0,Blk.eq⟩
 have hk0:Keep F w w1:=(kpc:Keep (OneB c) w w1).mono (fun k _ e=>by have e':k=c:=e;rw [e'];exact hFc)
 refine x_block ?_
 refine x_loop (fun t τ ds w'=>ds=[]/\∃ (k:Nat) (Fc:Nat->Prop),t=l.length - k/\k<=l.length/\I ((tlF l).take k) Fc w'/\Keep F w w'/\Sub Fc F w/\(frames (l.take k)).length<=n/\allB (bs.drop (frames (l.take k)).length)=l.drop k/\Ev τ 0 y/\Ev τ 1 (ptrV bw)/\Ev τ 2 (ptrV bb)/\Ev τ 4 (.int .i64 ((frames (l.take k)).length:Int))) (l.length) ?start ?round
 case start=>
  exact ⟨rfl,0,F,rfl,Nat.zero_le _,hI0,hk0,Sub.refl _ _,Nat.zero_le _,by rw [hl0];rfl,ii,ii,ii,evc⟩
 case round=>
  intro m τ2 ds2 w2 hI
  obtain ⟨rfl,k,Fc,rfl,hk,hI,hkF,hsF,hat,hdrop,e0,e1,e2,e4⟩:=hI
  obtain ⟨at',hat'⟩:∃ x,x=(frames (l.take k)).length:=⟨_,rfl⟩
  rw [<- hat'] at hat hdrop e4
  haveI kbw1:Blk w2 bw (.cells #[.pointer (some ⟨c,2,none⟩)] 117 (0,0)):=⟨(hkF.block bw (Array.getElem?_eq_some_iff.1 kbw.eq).1 (fun e=>hF _ e (.inl rfl))).trans kbw.eq⟩
  haveI kbb1:Blk w2 bb (.cells #[.slice A n cap] 80 (0,0)):=⟨(hkF.block bb (Array.getElem?_eq_some_iff.1 kbb.eq).1 (fun e=>hF _ e (.inr (.inl rfl)))).trans kbb.eq⟩
  have hr1:=hr.keep hkF (fun j hj e=>hF _ e (.inr (.inr hj)))
  obtain ⟨a1,b1,y1,hc1⟩:=hRd _ _ _ hI
  haveI kc1:Blk w2 c (.cells #[a1,b1,.int .i64 y1] 99 (0,0)):=⟨hc1⟩
  have hBw:w.heap.size<=(w2).heap.size:=hkF.size
  refine x_seq (xq (xm (xl_Lc ?_)))
  refine xl_v v_len (xl_v v_lss (xl_nil ?_))
  refine x_if (fun c1=>?_) (fun c1=>?_)
  ·refine x_skip (x_block (x_seq ?_))
   obtain ⟨A1,hA1⟩:∃ A1,A1=(if cap=at' then A else A.map (·.add (at'*1))):=⟨_,rfl⟩
   haveI hrA:Row w2 A1 (bytesC (bs.drop at')):=⟨by rw [hA1];exact brow_drop hr1.row (by omega)⟩
   obtain ⟨e,m,no,hrd⟩:∃ e m no,readF (bs.drop at')=(e,m,no):=⟨_,_,_,rfl⟩
   refine x_regionL (xl_Lc ?_)
   refine xm ?_
   refine xl_v (v_congr (u:=.slice A1 (n - at') (cap - at')) (v_sliceL at' rfl (by omega)) (by rw [hA1])) ?_
   refine xl_call (wread_ok A1 (n - at') (cap - at') (bs.drop at') w2 (by rw [List.length_drop,hl]) (by omega) (by omega)) ?_
   rintro _ w3 ⟨rfl,lk3⟩
   simp only [hrd]
   refine xm (xl_v v_extract (xl_v v_extract (xl_v v_extract ?_)))
   refine xl_e (e_alloc fun b4 w4 n4 l4 k4=>?_)
   refine xl_s (e_storeA fun w5 l5 k5=>?_)
   refine xa (xz ?_)
   refine x_seq (xq (xm (xl_v v_neq (xl_nil ?_))))
   refine x_if (fun c2=>?_) (fun c2=>?_)
   ·have hno:no≠0:=by simpa using c2
    have hend:l.drop k=[]:=by rw [<- hdrop];exact allB_bad hrd hno
    have hkl:k=l.length:=by have:=congrArg List.length hend;simp at this;omega
    refine xq ?_
    have hI4:I ((tlF l).take k) Fc w5:=hy.i.keep _ _ _ _ _ hI (kpc:Keep NoB w2 w5) (fun _ _ h=>h) (fun _ h=>h.elim)
    have hc4:(w5).heap[c]?=some (.cells #[a1,b1,.int .i64 y1] 99 (0,0)):=Blk.eq
    have hkF4:Keep F w w5:=hkF.then (kpc:Keep NoB w2 w5) (fun _ _ h=>h.elim)
    obtain ⟨w4,hw4⟩:∃ x,x=w5:=⟨_,rfl⟩
    have hkp:Keep NoB w4 w5:=by rw [hw4];exact Keep.refl _ _
    rw [<- hw4] at hI4 hc4 hkF4
    refine xl_Lc ?_
    refine xm (xl_Nc ?_)
    refine xl_s (e_store fun w6 l6 k6=>?_)
    refine xl_nil ?_
    refine x_ret ?_
    refine fin0r rfl ?_
    have hk5:Keep (OneB c) w4 w6:=by rw [hw4];exact kpc
    refine ⟨_,Fc,.inl ⟨?_,hWr _ _ _ _ hI4 ⟨hk5,a1,b1,y1,no,hc4,Blk.eq⟩⟩,hkF4.then hk5 (fun j _ e=>by have e':j=c:=e;rw [e'];exact hFc),hsF⟩
    rw [FinG,List.take_of_length_le (by rw [tlF_len];omega)]
   have hno:no=0:=by simpa using c2
   subst hno
   have hcons:=allB_cons hrd
   rw [hdrop] at hcons
   have hk1:k<l.length:=by
    rcases Nat.lt_or_ge k l.length with h | h
    ·exact h
    ·rw [List.drop_of_length_le h] at hcons;cases hcons
   rw [List.drop_eq_getElem_cons hk1] at hcons
   injection hcons with hl1 hl2
   have hkt:k<(tlF l).length:=by rw [tlF_len];exact hk1
   obtain ⟨hR,hm,hb⟩:=Go.Wst.Sg.read_ok hrd
   have hfl:=frame_len hR
   have hml:m<=n - at':=by
    have:=congrArg List.length hb
    simp at this
    omega
   have hatk:((at':Int)+(m:Int))=((frames (l.take (k+1))).length:Int):=by
    rw [take_snoc l k hk1,frames,List.flatMap_append,List.length_append,<- frames,<- hat',hl1,hm]
    simp
   refine x_skip (xq (xm (xm ?_)))
   refine xl_v (v_add (by omega)) ?_
   refine xz ?_
   refine xq (xm (xm (xl_Lb ?_)))
   have hal:AlG (tlF l) ((tlF l).take k++[(tlF l)[k]]):=alG_step hkt
   have hI4:I ((tlF l).take k) Fc w5:=hy.i.keep _ _ _ _ _ hI (kpc:Keep NoB w2 w5) (fun _ _ h=>h) (fun _ h=>h.elim)
   have htl:(tlF l)[k]=[Value.int .i64 ((at':Int)+(m:Int)),.agg (enC e).toArray]:=by rw [tlF_get hk1 hkt,hatk,hl1]
   rw [htl] at hal
   refine xl_callv (hy.step _ _ Fc NoB w5 hal hI4 (fun _ h=>h) (fun _ h=>h.elim) (fun _ h=>h.elim)) ?_
   rintro _ w7 ⟨bo,F2,rfl,hI3,hk3,hs3⟩
   have hkB:Keep Fc w2 w7:=((kpc:Keep NoB w2 w5).mono (fun _ _ h=>h.elim)).then hk3 (fun j hj e=>e.elim id (fun e=>e.elim))
   have hkw:Keep F w w7:=hkF.then hkB (fun j hj e=>(hsF j e).elim id (fun h=>by omega))
   have hsw:Sub F2 F w:=by
    intro j hj
    rcases hs3 j hj with (e | e) | e
    ·exact hsF j e
    ·exact e.elim
    ·have:=(Ge.le:(w2).heap.size<=(w5).heap.size);exact .inr (by omega)
   refine xl_v v_not (xl_nil ?_)
   refine x_condE (fun c3=>?_) (fun c3=>?_)
   ·refine x_ret ?_
    refine fin0r rfl ?_
    rw [if_neg (by simpa using c3)] at hI3
    exact ⟨_,F2,.inr hI3,hkw,hsw⟩
   refine x_skip ?_
   rw [if_pos (by simpa using c3)] at hI3
   refine ⟨_,?_,rfl,k+1,F2,rfl,by omega,?_,hkw,hsw,?_,?_,ii,ii,ii,evc (congrArg (Value.int .i64) hatk)⟩
   ·omega
   ·rw [take_snoc (tlF l) k hkt,htl];exact hI3
   ·omega
   ·rw [show (frames (l.take (k+1))).length=at'+m by omega,<- List.drop_drop,hl2]
  refine x_exit ?_
  refine fin0 rfl ?_
  have hdn:at'=n:=by omega
  have hend:l.drop k=[]:=by rw [<- hdrop,List.drop_of_length_le (by omega)];rfl
  have hkl:k=l.length:=by have:=congrArg List.length hend;simp at this;omega
  refine ⟨_,Fc,.inl ⟨?_,hI⟩,hkF,hsF⟩
  rw [FinG,List.take_of_length_le (by rw [tlF_len];omega)]
end Go.Proofs.YtigmfcgeljjgnaaGreat
