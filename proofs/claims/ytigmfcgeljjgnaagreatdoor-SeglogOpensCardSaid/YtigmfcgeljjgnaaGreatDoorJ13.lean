/- A part of the walks through the log and its document, and of the law in plain Lean: E F G H. -/
import Derived.Test.YtigmfcgeljjgnaaGreatDoorJ12
set_option linter.all false
set_option maxRecDepth 100000
set_option synthInstance.maxSize 100000
set_option synthInstance.maxHeartbeats 400000
namespace Go.Proofs.YtigmfcgeljjgnaaGreatDoor
open Go.Wst
open Go.Wst.Dm
theorem FilesAt.mono {W:World} {m:Nat} {G G':Nat->Prop} {l:List (ByteArray×LB)} (h:FilesAt W m G l) (hG:∀ k,G k->G' k) (hlt:∀ k,G' k->k<W.heap.size) (hm:¬ G' m):FilesAt W m G' l:=
 ⟨h.map,fun p hp=>(h.rows p hp).mono hG,h.caps,hlt,hm⟩
theorem ownB_ex {A:Option Addr} {n c k:Nat} (e:OwnB (.slice A n c) k):∃ a,A=some a/\a.block=k:=by
 cases A with
 | none=>cases e
 | some a=>exact ⟨a,rfl,by injection e with e;exact e.symm⟩
theorem thing_one (x:LThing):∀ u∈thingC x,u.oneCell'=true:=by
 intro u hu
 simp only [thingC,List.mem_cons,List.not_mem_nil,or_false] at hu
 rcases hu with rfl | rfl | rfl | rfl | rfl | rfl | rfl
 ·exact x.one
 all_goals rfl
def putsN (t:Thing):Nat:=if t.what=0 then t.bytes.length else 0
theorem putsI_N (t:Thing):putsI t=(putsN t:Int):=by unfold putsI putsN;split<;>rfl
theorem putsN_le (t:Thing):putsN t<=t.bytes.length:=by unfold putsN;split<;>omega
theorem Stands.used {D:LDisk} {M:Disk} (hs:Stands D M):usedB (fsP D.cur)<=16777216/\usedB (fsP D.lasts)<=16777216:=by
 have h1:=hs.cur.used
 have h2:=hs.ok.files.2.1
 have h3:=hs.las.used
 have h4:=hs.ok.good.used
 have h5:=hs.ok.most
 omega
theorem Stands.pre {D:LDisk} {M:Disk} (hs:Stands D M) {t:Thing} (hok:okT M.room M.files t):t.what=1->∃ b,akey (fsP D.cur) t.name=some b/\t.n.toNat<=b.length:=by
 intro h1
 rw [hs.cur.eq]
 rcases hok.2 with ⟨e,_⟩ | ⟨_,b,hb,h2,h3⟩ | ⟨e,_⟩
 ·omega
 ·exact ⟨b,hb,by omega⟩
 ·omega
theorem begin_ok (d mb ml:Nat) (G E:Nat->Prop) (D:LDisk) (M:Disk) (x:LThing) (w:World) (h:DiskAt w d mb ml G D) (hs:Stands D M) (hx:Acts x.g E x.t w) (hE:∀ k,E k->¬ DiskB d mb ml D.A k) (hok:okT M.room M.files x.t) (hxl:x.t.bytes.length<=16777216) (hfew:M.lasts.length+M.waits.length+1<=1000000):Ret Tryz.prog 70 #[.pointer (some ⟨d,0,none⟩),.agg (thingC x).toArray] w (fun v w'=>v=.int .i64 0/\(∃ (G':Nat->Prop) (D':LDisk),DiskAt w' d mb ml G' D'/\Stands D' ⟨M.room,M.lasts,M.waits++[x.t]⟩/\(∀ k,DiskB d mb ml D'.A k->DiskB d mb ml D.A k\/w.heap.size<=k)/\(∀ k,G' k->G k\/E k\/w.heap.size<=k))/\Lk w' w (DiskB d mb ml D.A)):=by
 haveI hb:Blk w d _:=⟨h.hb⟩
 haveI s1:SubF (OneB mb) (DiskB d mb ml D.A) w:=⟨fun k _ e=>.inr (.inl e)⟩
 haveI s2:SubF (OneB d) (DiskB d mb ml D.A) w:=⟨fun k _ e=>.inl e⟩
 haveI s3:SubF (OwnB (.slice D.A D.waits.length D.c)) (DiskB d mb ml D.A) w:=⟨fun k _ e=>.inr (.inr (.inr (ownB_ex e)))⟩
 haveI:NeB d mb:=⟨h.d1⟩
 have hdl:=h.lt d (.inl (.inl rfl))
 have hmbl:=h.lt mb (.inl (.inr (.inl rfl)))
 have hmll:=h.lt ml (.inl (.inr (.inr (.inl rfl))))
 haveI hno:NotS (OwnB (.slice D.A D.waits.length D.c)) d:=⟨fun e=>by obtain ⟨a,h1,h2⟩:=ownB_ex e;exact (h.own a h1).1 h2⟩
 have hwl:D.waits.length=M.waits.length:=by rw [<- hs.waits];simp
 refine ret_of_x (N:=24) (l:=[.pointer (some ⟨d,0,none⟩),.agg (thingC x).toArray]) Tryz.func70 rfl rfl (Nat.le_of_ble_eq_true rfl) ?_
 refine xq ?_
 refine xl_e (e_box fun b1 w1 n1 l1 k1=>?_)
 refine xz ?_
 haveI:NeB b1 mb:=⟨by have:=n1.eq;omega⟩
 haveI:NeB b1 d:=⟨by have:=n1.eq;omega⟩
 haveI:NotS (OwnB (.slice D.A D.waits.length D.c)) b1:=⟨fun e=>by obtain ⟨a,h1,h2⟩:=ownB_ex e;have:=(own_blk h.row a h1).2;have:=n1.eq;omega⟩
 refine x_seq ?_
 refine x_drawL (OneB mb) (allS) (.take 0 (.take 1 (.take 2 (.take 3 (.take 4 (.take 5 (.take 6 (.take 7 (.eff 8 .done))))))))) mixed (by kernel_rfl) (fun _ _ _ _ _ h=>h) (fun w2 l2=>?_)
 refine xt_Fb rfl ?_
 refine xt_Lc rfl ?_
 refine xt_v rfl v_move (xt_Nc rfl ?_)
 refine xt_Fb rfl ?_
 refine xt_Lb rfl ?_
 refine xt_Fb rfl ?_
 refine xt_v rfl (v_congr (u:=.int .i64 ((putsN x.t:Nat):Int)) v_load (congrArg _ (putsI_N x.t))) ?_
 refine xt_callv rfl (hx.2 w2 NoB (kpc:Keep NoB w w2) (fun _ _ h=>h) mb G D.cur (putsN x.t) (h.cur.ext (kpc:Keep NoB w w2)) (fun e=>hE mb e (.inr (.inl rfl))) (hs.pre hok) (putsN_le x.t) hxl hs.used.1) ?_
 rintro _ w3 ⟨rfl,G1,l1,hF1,hl1,hG1,lk1⟩
 refine ⟨kpc,?_⟩
 have hgp:=(Ge.le:w.heap.size<=(w2).heap.size)
 obtain ⟨wD,hwD⟩:∃ wD,wD=w3:=⟨_,rfl⟩
 have ho1:=own_keep h.row (kpc:Keep (OneB mb) w w3) (fun k e e2=>by obtain ⟨a,h1,h2⟩:=ownB_ex e.symm;exact (h.own a h1).2.1 (by have e2':k=mb:=e2;rw [h2];exact e2'))
 refine xt_nil ?_
 refine x_seq ?_
 refine x_drawL (fun k=>OneB d k\/OwnB (.slice D.A D.waits.length D.c) k) (allS) (.take 0 (.take 1 (.take 2 (.take 3 (.take 5 (.fork 4 (.eff 6 (.eff 7 (.take 8 (.take 9 (.eff 10 .done))))) 6 (.eff 4 (.eff 7 (.take 8 (.take 9 (.eff 10 .done))))))))))) mixed (by kernel_rfl) (fun _ _ _ _ _ h=>h) (fun w4 l4=>?_)
 refine xt_v rfl v_move (xt_v rfl v_move (xt_Nc rfl ?_))
 refine xt_Fb rfl ?_
 refine xt_Lb rfl ?_
 refine xt_fork ?_ ?_
 ·refine xt_e rfl (e_v (v_load (r:=none)) ?_)
  refine xt_e rfl (e_buildSlice1 (vs:=thingC x) rfl fun bs w5 ns ls ks=>?_)
  refine xt_e rfl (e_append' (own_ext ho1 lkc) (Nat.zero_le _) (by rfl) (thing_one x) (by decide) (.inl rfl) (by omega) (by omega) fun A2 c2 w6 ho2 l2 hf2=>?_)
  refine xt_Nc rfl ?_
  refine xt_Fb rfl ?_
  refine xt_s rfl (e_store fun w7 l7 k7=>?_)
  refine xt_nil ?_
  refine xq (xz ?_)
  refine x_ret ?_
  refine fin1 rfl ?_
  subst hwD
  have hE2:∀ k,E k->k<w.heap.size:=hx.1
  have hA2n:∀ a,A2=some a->(∀ b,D.A=some b->b.block≠a.block)->wD.heap.size<=a.block:=by
   rintro a rfl hn
   rcases hf2 with e | e
   ·obtain ⟨b,hb2,e⟩:=ownB_ex (k:=a.block) e
    exact absurd e (hn b hb2)
   ·have e':some a.block=some _:=e
    injection e' with e'
    rw [e']
    exact Ge.le
  have hG1w:∀ k,G1 k->G k\/w.heap.size<=k:=fun k e=>(hG1 k e).imp id (fun e=>Nat.le_trans hgp e)
  have hoA:∀ a,D.A=some a->a.block<w.heap.size:=fun a ha=>(own_blk h.row a ha).2
  have hA2:∀ a,A2=some a->(∃ b,D.A=some b/\b.block=a.block)\/w.heap.size<=a.block:=by
   rintro a rfl
   rcases hf2 with e | e
   ·exact .inl (ownB_ex (k:=a.block) e)
   ·refine .inr ?_
    have e':some a.block=some _:=e
    injection e' with e'
    rw [e']
    exact Ge.le
  have hlt:∀ k,k<w.heap.size->k<(w7).heap.size:=fun k e=>Nat.lt_of_lt_of_le e Ge.le
  have K:Keep (fun k=>OneB mb k\/OneB d k\/OwnB (.slice D.A D.waits.length D.c) k) w w7:=kpc
  have hS:∀ k,(k≠mb/\k≠d/\∀ a,D.A=some a->a.block≠k)->¬ (OneB mb k\/OneB d k\/OwnB (.slice D.A D.waits.length D.c) k):=by
   rintro k ⟨h1,h2,h3⟩ (e | e | e)
   ·exact h1 e
   ·exact h2 e
   ·obtain ⟨a,ha,e⟩:=ownB_ex e
    exact h3 a ha e
  have hGS:∀ k,G k->(k≠mb/\k≠d/\∀ a,D.A=some a->a.block≠k):=fun k e=>⟨fun e2=>h.cur.out (e2 ▸ e),fun e2=>h.gd (e2 ▸ e),fun a ha e2=>(h.own a ha).2.2.2 (e2 ▸ e)⟩
  have hES:∀ k,E k->(k≠mb/\k≠d/\∀ a,D.A=some a->a.block≠k):=fun k e=>⟨fun e2=>hE k e (.inr (.inl e2)),fun e2=>hE k e (.inl e2),fun a ha e2=>hE k e (.inr (.inr (.inr ⟨a,ha,e2⟩)))⟩
  have hG1S:∀ k,G1 k->(k≠d/\∀ a,D.A=some a->a.block≠k):=fun k e=>by
   rcases hG1w k e with e2 | e2
   ·exact (hGS k e2).2
   ·exact ⟨by omega,fun a ha=>by have:=hoA a ha;omega⟩
  have K3:Keep (fun k=>OneB d k\/OwnB (.slice D.A D.waits.length D.c) k) _ w7:=(kpc:Keep (fun k=>OneB d k\/OwnB (.slice D.A D.waits.length D.c) k) wD w7)
  have hltG:∀ k,(G1 k\/G k\/E k)->k<(w7).heap.size:=by
   rintro k (e | e | e)
   ·exact Nat.lt_of_lt_of_le (hF1.lt k e) K3.size
   ·exact hlt k (h.cur.lt k e)
   ·exact hlt k (hE2 k e)
  refine ⟨rfl,⟨fun k=>G1 k\/G k\/E k,⟨D.room,l1,D.lasts,D.waits++[x],A2,c2⟩,⟨by simpa using (Blk.eq:(w7).heap[d]?=_),?_,?_,?_,?_,h.d1,h.d2,h.d3,?_,?_⟩,?_,?_,?_⟩,lkc⟩
  ·refine (hF1.keep K3 (fun e=>?_) (fun k e e2=>?_)).mono (fun k e=>.inl e) hltG ?_
   ·rcases e with e | e
    ·exact h.d1 e.symm
    ·obtain ⟨a,ha,e⟩:=ownB_ex e
     exact (h.own a ha).2.1 e
   ·rcases e2 with e2 | e2
    ·exact (hG1S k e).1 e2
    ·obtain ⟨a,ha,e2⟩:=ownB_ex e2
     exact (hG1S k e).2 a ha e2
   ·rintro (e | e | e)
    ·exact hF1.out e
    ·exact h.cur.out e
    ·exact hE mb e (.inr (.inl rfl))
  ·refine (h.las.keep K (hS ml ⟨fun e=>h.d3 e.symm,fun e=>h.d2 e.symm,fun a ha e=>(h.own a ha).2.2.1 e⟩) (fun k e=>hS k (hGS k e))).mono (fun k e=>.inr (.inl e)) hltG ?_
   rintro (e | e | e)
   ·rcases hG1w ml e with e | e
    ·exact h.las.out e
    ·omega
   ·exact h.las.out e
   ·exact hE ml e (.inr (.inr (.inl rfl)))
  ·have:=own_keep ho2 (kpc:Keep (OneB d) _ w7) (fun k e e2=>by
    obtain ⟨a,ha,e3⟩:=ownB_ex e.symm
    have e2':k=d:=e2
    rcases hA2 a ha with ⟨b,hb2,e4⟩ | e4
    ·exact (h.own b hb2).1 (by omega)
    ·omega)
   simpa using this
  ·intro y hy
   rcases List.mem_append.1 hy with hy | hy
   ·exact ((h.acts y hy).keep K (fun k e=>hS k (hGS k e))).mono (fun k e=>.inr (.inl e)) hltG
   ·have e:y=x:=by simpa using hy
    subst e
    exact (hx.keep K (fun k e=>hS k (hES k e))).mono (fun k e=>.inr (.inr e)) hltG
  ·rintro (e | e | e)
   ·exact (hG1S d e).1 rfl
   ·exact h.gd e
   ·exact hE d e (.inl rfl)
  ·intro a ha
   rcases hA2 a ha with ⟨b,hb2,e4⟩ | e4
   ·obtain ⟨q1,q2,q3,q4⟩:=h.own b hb2
    refine ⟨by omega,by omega,by omega,?_⟩
    rintro (e | e | e)
    ·exact (hG1S _ e).2 b hb2 e4
    ·exact q4 (e4 ▸ e)
    ·exact (hES _ e).2.2 b hb2 e4
   ·have h9:(wD).heap.size<=a.block:=hA2n a ha (fun b hb2=>by have:=hoA b hb2;omega)
    refine ⟨by omega,by omega,by omega,?_⟩
    rintro (e | e | e)
    ·have:=hF1.lt _ e;omega
    ·have:=h.cur.lt _ e;omega
    ·have:=hE2 _ e;omega
  ·refine ⟨hs.room,by simp [hs.waits],?_,hs.las,hs.ok.snoc hok,by simp;omega,fun t ht=>by
    rcases List.mem_append.1 ht with h1 | h1
    ·exact hs.lens t h1
    ·have e:t=x.t:=by simpa using h1
     rw [e];exact hxl⟩
   rw [files_snoc,hl1,doneM_torn _ _ _ (fun h0=>by unfold putsN;rw [if_pos h0];exact Nat.le_refl _)]
   exact hs.cur.done hok.what hok.there
  ·rintro k (e | e | e | ⟨a,ha,e⟩)
   ·exact .inl (.inl e)
   ·exact .inl (.inr (.inl e))
   ·exact .inl (.inr (.inr (.inl e)))
   ·rcases hA2 a ha with ⟨b,hb2,e4⟩ | e4
    ·exact .inl (.inr (.inr (.inr ⟨b,hb2,e4.trans e⟩)))
    ·exact .inr (by omega)
  ·rintro k (e | e | e)
   ·exact (hG1w k e).imp id .inr
   ·exact .inl e
   ·exact .inr (.inl e)
 refine xt_e rfl (e_buildSlice1 (vs:=thingC x) rfl fun bs w8 ns ls ks=>?_)
 refine xt_e rfl (e_v (v_load (r:=none)) ?_)
 refine xt_e rfl (e_append' (own_ext ho1 lkc) (Nat.zero_le _) (by rfl) (thing_one x) (by decide) (.inl rfl) (by omega) (by omega) fun A2 c2 w9 ho2 l2 hf2=>?_)
 refine xt_Nc rfl ?_
 refine xt_Fb rfl ?_
 refine xt_s rfl (e_store fun w10 l10 k10=>?_)
 refine xt_nil ?_
 refine xq (xz ?_)
 refine x_ret ?_
 refine fin1 rfl ?_
 subst hwD
 have hE2:∀ k,E k->k<w.heap.size:=hx.1
 have hA2n:∀ a,A2=some a->(∀ b,D.A=some b->b.block≠a.block)->wD.heap.size<=a.block:=by
  rintro a rfl hn
  rcases hf2 with e | e
  ·obtain ⟨b,hb2,e⟩:=ownB_ex (k:=a.block) e
   exact absurd e (hn b hb2)
  ·have e':some a.block=some _:=e
   injection e' with e'
   rw [e']
   exact Ge.le
 have hG1w:∀ k,G1 k->G k\/w.heap.size<=k:=fun k e=>(hG1 k e).imp id (fun e=>Nat.le_trans hgp e)
 have hoA:∀ a,D.A=some a->a.block<w.heap.size:=fun a ha=>(own_blk h.row a ha).2
 have hA2:∀ a,A2=some a->(∃ b,D.A=some b/\b.block=a.block)\/w.heap.size<=a.block:=by
  rintro a rfl
  rcases hf2 with e | e
  ·exact .inl (ownB_ex (k:=a.block) e)
  ·refine .inr ?_
   have e':some a.block=some _:=e
   injection e' with e'
   rw [e']
   exact Ge.le
 have hlt:∀ k,k<w.heap.size->k<(w10).heap.size:=fun k e=>Nat.lt_of_lt_of_le e Ge.le
 have K:Keep (fun k=>OneB mb k\/OneB d k\/OwnB (.slice D.A D.waits.length D.c) k) w w10:=kpc
 have hS:∀ k,(k≠mb/\k≠d/\∀ a,D.A=some a->a.block≠k)->¬ (OneB mb k\/OneB d k\/OwnB (.slice D.A D.waits.length D.c) k):=by
  rintro k ⟨h1,h2,h3⟩ (e | e | e)
  ·exact h1 e
  ·exact h2 e
  ·obtain ⟨a,ha,e⟩:=ownB_ex e
   exact h3 a ha e
 have hGS:∀ k,G k->(k≠mb/\k≠d/\∀ a,D.A=some a->a.block≠k):=fun k e=>⟨fun e2=>h.cur.out (e2 ▸ e),fun e2=>h.gd (e2 ▸ e),fun a ha e2=>(h.own a ha).2.2.2 (e2 ▸ e)⟩
 have hES:∀ k,E k->(k≠mb/\k≠d/\∀ a,D.A=some a->a.block≠k):=fun k e=>⟨fun e2=>hE k e (.inr (.inl e2)),fun e2=>hE k e (.inl e2),fun a ha e2=>hE k e (.inr (.inr (.inr ⟨a,ha,e2⟩)))⟩
 have hG1S:∀ k,G1 k->(k≠d/\∀ a,D.A=some a->a.block≠k):=fun k e=>by
  rcases hG1w k e with e2 | e2
  ·exact (hGS k e2).2
  ·exact ⟨by omega,fun a ha=>by have:=hoA a ha;omega⟩
 have K3:Keep (fun k=>OneB d k\/OwnB (.slice D.A D.waits.length D.c) k) _ w10:=(kpc:Keep (fun k=>OneB d k\/OwnB (.slice D.A D.waits.length D.c) k) wD w10)
 have hltG:∀ k,(G1 k\/G k\/E k)->k<(w10).heap.size:=by
  rintro k (e | e | e)
  ·exact Nat.lt_of_lt_of_le (hF1.lt k e) K3.size
  ·exact hlt k (h.cur.lt k e)
  ·exact hlt k (hE2 k e)
 refine ⟨rfl,⟨fun k=>G1 k\/G k\/E k,⟨D.room,l1,D.lasts,D.waits++[x],A2,c2⟩,⟨by simpa using (Blk.eq:(w10).heap[d]?=_),?_,?_,?_,?_,h.d1,h.d2,h.d3,?_,?_⟩,?_,?_,?_⟩,lkc⟩
 ·refine (hF1.keep K3 (fun e=>?_) (fun k e e2=>?_)).mono (fun k e=>.inl e) hltG ?_
  ·rcases e with e | e
   ·exact h.d1 e.symm
   ·obtain ⟨a,ha,e⟩:=ownB_ex e
    exact (h.own a ha).2.1 e
  ·rcases e2 with e2 | e2
   ·exact (hG1S k e).1 e2
   ·obtain ⟨a,ha,e2⟩:=ownB_ex e2
    exact (hG1S k e).2 a ha e2
  ·rintro (e | e | e)
   ·exact hF1.out e
   ·exact h.cur.out e
   ·exact hE mb e (.inr (.inl rfl))
 ·refine (h.las.keep K (hS ml ⟨fun e=>h.d3 e.symm,fun e=>h.d2 e.symm,fun a ha e=>(h.own a ha).2.2.1 e⟩) (fun k e=>hS k (hGS k e))).mono (fun k e=>.inr (.inl e)) hltG ?_
  rintro (e | e | e)
  ·rcases hG1w ml e with e | e
   ·exact h.las.out e
   ·omega
  ·exact h.las.out e
  ·exact hE ml e (.inr (.inr (.inl rfl)))
 ·have:=own_keep ho2 (kpc:Keep (OneB d) _ w10) (fun k e e2=>by
   obtain ⟨a,ha,e3⟩:=ownB_ex e.symm
   have e2':k=d:=e2
   rcases hA2 a ha with ⟨b,hb2,e4⟩ | e4
   ·exact (h.own b hb2).1 (by omega)
   ·omega)
  simpa using this
 ·intro y hy
  rcases List.mem_append.1 hy with hy | hy
  ·exact ((h.acts y hy).keep K (fun k e=>hS k (hGS k e))).mono (fun k e=>.inr (.inl e)) hltG
  ·have e:y=x:=by simpa using hy
   subst e
   exact (hx.keep K (fun k e=>hS k (hES k e))).mono (fun k e=>.inr (.inr e)) hltG
 ·rintro (e | e | e)
  ·exact (hG1S d e).1 rfl
  ·exact h.gd e
  ·exact hE d e (.inl rfl)
 ·intro a ha
  rcases hA2 a ha with ⟨b,hb2,e4⟩ | e4
  ·obtain ⟨q1,q2,q3,q4⟩:=h.own b hb2
   refine ⟨by omega,by omega,by omega,?_⟩
   rintro (e | e | e)
   ·exact (hG1S _ e).2 b hb2 e4
   ·exact q4 (e4 ▸ e)
   ·exact (hES _ e).2.2 b hb2 e4
  ·have h9:(wD).heap.size<=a.block:=hA2n a ha (fun b hb2=>by have:=hoA b hb2;omega)
   refine ⟨by omega,by omega,by omega,?_⟩
   rintro (e | e | e)
   ·have:=hF1.lt _ e;omega
   ·have:=h.cur.lt _ e;omega
   ·have:=hE2 _ e;omega
 ·refine ⟨hs.room,by simp [hs.waits],?_,hs.las,hs.ok.snoc hok,by simp;omega,fun t ht=>by
   rcases List.mem_append.1 ht with h1 | h1
   ·exact hs.lens t h1
   ·have e:t=x.t:=by simpa using h1
    rw [e];exact hxl⟩
  rw [files_snoc,hl1,doneM_torn _ _ _ (fun h0=>by unfold putsN;rw [if_pos h0];exact Nat.le_refl _)]
  exact hs.cur.done hok.what hok.there
 ·rintro k (e | e | e | ⟨a,ha,e⟩)
  ·exact .inl (.inl e)
  ·exact .inl (.inr (.inl e))
  ·exact .inl (.inr (.inr (.inl e)))
  ·rcases hA2 a ha with ⟨b,hb2,e4⟩ | e4
   ·exact .inl (.inr (.inr (.inr ⟨b,hb2,e4.trans e⟩)))
   ·exact .inr (by omega)
 ·rintro k (e | e | e)
  ·exact (hG1w k e).imp id .inr
  ·exact .inl e
  ·exact .inr (.inl e)
def DiskW (P R:Nat->Prop) (d:Nat) (M:Disk) (W:World):Prop:=
 ∃ (mb ml:Nat) (G:Nat->Prop) (D:LDisk),DiskAt W d mb ml G D/\Stands D M/\(∀ k,P k->k<W.heap.size/\¬ DiskF d mb ml D.A G k)/\(∀ k,R k->k<W.heap.size/\¬ DiskB d mb ml D.A k)
def NotP (P:Nat->Prop):Nat->Prop:=fun k=>¬ P k
theorem DiskW.keep {P R:Nat->Prop} {d:Nat} {M:Disk} {W W':World} {S:Nat->Prop} (h:DiskW P R d M W) (hk:Keep S W W') (hs:∀ k,k<W.heap.size->S k->P k) {P' R':Nat->Prop} (hP:∀ k,P' k->k<W'.heap.size/\(P k\/W.heap.size<=k)) (hR:∀ k,R' k->k<W'.heap.size/\(R k\/W.heap.size<=k)):DiskW P' R' d M W':=by
 obtain ⟨mb,ml,G,D,h1,h2,h3,h4⟩:=h
 refine ⟨mb,ml,G,D,h1.keep hk (fun k e e2=>(h3 k (hs k (h1.lt k e) e2)).2 e),h2,fun k e=>?_,fun k e=>?_⟩
 ·obtain ⟨e1,e2⟩:=hP k e
  refine ⟨e1,fun e3=>?_⟩
  rcases e2 with e2 | e2
  ·exact (h3 k e2).2 e3
  ·have:=h1.lt k e3;omega
 ·obtain ⟨e1,e2⟩:=hR k e
  refine ⟨e1,fun e3=>?_⟩
  rcases e2 with e2 | e2
  ·exact (h4 k e2).2 e3
  ·have:=h1.lt k (.inl e3);omega
theorem DiskW.lt {P R:Nat->Prop} {d:Nat} {M:Disk} {W:World} (h:DiskW P R d M W):(∀ k,P k->k<W.heap.size)/\∀ k,R k->k<W.heap.size:=by
 obtain ⟨mb,ml,G,D,h1,h2,h3,h4⟩:=h
 exact ⟨fun k e=>(h3 k e).1,fun k e=>(h4 k e).1⟩
theorem DiskW.cell {P R:Nat->Prop} {d:Nat} {M:Disk} {W W':World} {S:Nat->Prop} (h:DiskW P R d M W) (hk:Keep S W W') (hs:∀ k,k<W.heap.size->S k->P k):DiskW P R d M W':=
 h.keep hk hs (fun k e=>⟨Nat.lt_of_lt_of_le (h.lt.1 k e) hk.size,.inl e⟩) (fun k e=>⟨Nat.lt_of_lt_of_le (h.lt.2 k e) hk.size,.inl e⟩)
theorem DiskW.ext {P R:Nat->Prop} {d:Nat} {M:Disk} {W W':World} (h:DiskW P R d M W) (hk:Keep NoB W W'):DiskW P R d M W':=h.cell hk (fun _ _ h=>h.elim)
theorem DiskW.ok {P R:Nat->Prop} {d:Nat} {M:Disk} {W:World} (h:DiskW P R d M W):M.ok/\M.lasts.length+M.waits.length<=1000000:=by
 obtain ⟨mb,ml,G,D,h1,h2,h3,h4⟩:=h
 exact ⟨h2.ok,h2.few⟩
theorem nil_some {W:World} {A:Option Addr} {xs:List UInt8} {n:Nat} (h:RowP W A (bytesC xs)) (hl:xs.length=n):A.isSome=true\/n=0:=by
 rcases Nat.eq_zero_or_pos n with h0 | h0
 ·exact .inr h0
 ·exact .inl (row_some (w:=W) ⟨h⟩ (by simp;omega))
theorem okT_put {M:Disk} {name:ByteArray} {xs:List UInt8} {k:Int} (h1:nameOk name=true) (h2:¬ M.room - (usedB M.files:Int)<(xs.length:Int)):okT M.room M.files ⟨0,name,xs,k⟩:=⟨h1,.inl ⟨rfl,by show (xs.length:Int)+usedB M.files<=M.room;omega⟩⟩
theorem doNo_put (M:Disk) (name:ByteArray) (xs:List UInt8) (k:Int):M.doNo ⟨0,name,xs,k⟩=if nameOk name=false then 130 else if M.room - (usedB M.files:Int)<(xs.length:Int) then 131 else 0:=by
 unfold Disk.doNo
 by_cases h1:nameOk name=false
 ·rw [if_pos h1,if_pos h1]
 ·rw [if_neg h1,if_neg h1,if_neg (fun h=>h.1 rfl),if_neg (fun h=>by have:=h.1;simp at this)]
  simp
theorem DiskW.begun {P R E:Nat->Prop} {d mb ml:Nat} {G G':Nat->Prop} {D D':LDisk} {M':Disk} {w W W':World} (hl:∀ k,DiskF d mb ml D.A G k->k<w.heap.size) (hP:∀ k,P k->k<w.heap.size/\¬ DiskF d mb ml D.A G k) (hR:∀ k,R k->k<w.heap.size/\¬ DiskB d mb ml D.A k) (hE:∀ k,E k->w.heap.size<=k) (hW:w.heap.size<=W.heap.size) (hW':W.heap.size<=W'.heap.size) (h1:DiskAt W' d mb ml G' D') (h2:Stands D' M') (h3:∀ k,DiskB d mb ml D'.A k->DiskB d mb ml D.A k\/W.heap.size<=k) (h4:∀ k,G' k->G k\/E k\/W.heap.size<=k):DiskW P R d M' W':=
 ⟨mb,ml,G',D',h1,h2,fun k e=>⟨by have:=(hP k e).1;omega,fun e2=>by
  obtain ⟨q1,q2⟩:=hP k e
  rcases e2 with e2 | e2
  ·rcases h3 k e2 with e3 | e3
   ·exact q2 (.inl e3)
   ·omega
  ·rcases h4 k e2 with e3 | e3 | e3
   ·exact q2 (.inr e3)
   ·have:=hE k e3;omega
   ·omega⟩,fun k e=>⟨by have:=(hR k e).1;omega,fun e2=>by
  obtain ⟨q1,q2⟩:=hR k e
  rcases h3 k e2 with e3 | e3
  ·exact q2 e3
  ·omega⟩⟩
theorem put_ok (P R:Nat->Prop) (d:Nat) (M:Disk) (name:ByteArray) (A:Option Addr) (c:Nat) (xs:List UInt8) (k:Int) (w:World) (h:DiskW P R d M w) [Row w A (bytesC xs)] (hn:xs.length<=100000000) (hfew:M.lasts.length+M.waits.length+1<=1000000):Ret Tryz.prog 28 #[.pointer (some ⟨d,0,none⟩),.string name,.slice A xs.length c] w (fun v w'=>v=.int .i64 (M.doNo ⟨0,name,xs,k⟩)/\DiskW P R d (M.does ⟨0,name,xs,k⟩) w'/\Lk w' w (NotP R)):=by
 have hr0:RowP w A (bytesC xs):=(ii:Row w A (bytesC xs)).row
 obtain ⟨mb,ml,G,D,hD,hS,hP,hR⟩:=h
 haveI sP:SubF (DiskB d mb ml D.A) (NotP R) w:=⟨fun k _ e e2=>(hR k e2).2 e⟩
 haveI hb:Blk w d _:=⟨hD.hb⟩
 have hu:=hS.used
 have hcu:=hS.cur.used
 have hm:=hS.ok.most
 have h1m:=hS.ok.one
 have hrm:=hS.room
 have hno:=doNo_put M name xs k
 have hdl:=hD.lt d (.inl (.inl rfl))
 refine ret_of_x (N:=39) (l:=[.pointer (some ⟨d,0,none⟩),.string name,.slice A xs.length c]) Tryz.func28 rfl rfl (Nat.le_of_ble_eq_true rfl) ?_
 refine xq ?_
 refine xl_e (e_box fun b1 w1 n1 l1 k1=>?_)
 refine xl_e (e_box fun b2 w2 n2 l2 k2=>?_)
 refine xz ?_
 refine x_seq (xq (xm (xl_Lc ?_)))
 refine xl_call (named_ok d mb ml G D M name w2 (hD.ext (kpc:Keep NoB w w2)) hS) ?_
 rintro _ w3 ⟨rfl,lk1⟩
 refine xz ?_
 refine xq (xm (xl_v v_neq (xl_nil ?_)))
 refine x_condE (fun c1=>?_) (fun c1=>?_)
 ·have hnn:nameOk name=false:=by
   cases hn2:nameOk name with
   | false=>rfl
   | true=>rw [if_pos hn2] at c1;simp at c1
  refine xq (xm (xz ?_))
  refine x_ret ?_
  refine fin1 rfl ?_
  rw [if_pos hnn] at hno
  refine ⟨by rw [hno,if_neg (by simp [hnn])],?_,lkc⟩
  rw [Disk.does,if_neg (by rw [hno];decide)]
  exact DiskW.ext ⟨mb,ml,G,D,hD,hS,hP,hR⟩ (kpc:Keep NoB w w3)
 have hnn:nameOk name=true:=by
  cases hn2:nameOk name with
  | true=>rfl
  | false=>rw [hn2] at c1;simp at c1
 refine x_skip (x_seq (x_seq ?_))
 refine x_drawL (NoB) (allS) (.take 0 (.take 1 (.take 2 (.take 3 (.take 4 (.take 5 (.take 6 (.take 7 (.take 8 (.take 9 (.eff 10 (.take 11 (.take 12 .done))))))))))))) mixed (by kernel_rfl) (fun _ _ _ _ _ h=>h) (fun w4 l4=>?_)
 refine xt_Lc rfl ?_
 refine xt_v rfl v_len (xt_v rfl v_move (xt_Nc rfl ?_))
 refine xt_Fb rfl ?_
 refine xt_Lc rfl ?_
 refine xt_v rfl v_move (xt_Nc rfl ?_)
 refine xt_Fb rfl ?_
 refine xt_Lb rfl ?_
 refine xt_call rfl (used_ok mb G D.cur w4 (hD.cur.ext (kpc:Keep NoB w w4)) (by omega)) ?_
 rintro _ w5 ⟨rfl,lk2⟩
 refine ⟨kpc,?_⟩
 refine xt_v rfl (v_sub (by omega)) ?_
 refine xt_v rfl v_gtr ?_
 refine xt_nil ?_
 refine x_if (fun c2=>?_) (fun c2=>?_)
 ·refine xq (xz ?_)
  refine x_ret ?_
  refine fin1 rfl ?_
  rw [if_neg (by simp [hnn]),if_pos (by omega)] at hno
  refine ⟨by rw [hno],?_,lkc⟩
  rw [Disk.does,if_neg (by rw [hno];decide)]
  exact DiskW.ext ⟨mb,ml,G,D,hD,hS,hP,hR⟩ (kpc:Keep NoB w w5)
 have hlt2:¬ M.room - (usedB M.files:Int)<(xs.length:Int):=by omega
 rw [if_neg (by simp [hnn]),if_neg hlt2] at hno
 have hok:okT M.room M.files ⟨0,name,xs,k⟩:=okT_put hnn hlt2
 refine x_skip (xq (xl_Lc ?_))
 refine xl_call (cloneb_ok A xs.length c (bytesC xs) w5 (by simp) hn (bytesC_one xs) (nil_some hr0 rfl)) ?_
 rintro _ w6 ⟨⟨A2,c2,rfl,ho2⟩,lk3⟩
 haveI:OwnI w6 A2 _ _ _ _ _ _ _:=⟨ho2⟩
 haveI:NewA A2 w5:=newA_of ho2 (Nat.le_refl _)
 have hcap:=own_cap ho2
 have hgp:=(Ge.le:w.heap.size<=(w5).heap.size)
 have hb1w:w.heap.size<=b1:=by rw [n1.eq];exact Ge.le
 have hb2w:w.heap.size<=b2:=by rw [n2.eq];exact Ge.le
 refine xl_s (e_store fun w7 l7 k7=>?_)
 refine xl_nil ?_
 refine xq (xm (xl_v v_makeFunc (xl_Lc ?_)))
 refine xl_v v_len (xl_Lc ?_)
 refine xl_v (v_buildA) ?_
 refine xl_Lc ?_
 refine xl_v (v_bytesStr (xs:=xs) rfl) ?_
 refine xl_v v_build ?_
 refine xl_call (begin_ok d mb ml G (fun j=>j=b1\/j=b2\/∃ a,A2=some a/\a.block=j) D M ⟨⟨0,name,xs,k⟩,.func (.func 71) ([]:List Value).toArray [Value.pointer (some ⟨b1,0,none⟩),Value.pointer (some ⟨b2,0,none⟩)].toArray,rfl⟩ w7 (hD.ext (kpc:Keep NoB w w7)) hS (acts_put b1 b2 name ⟨xs,A2,c2⟩ k w7 Blk.eq Blk.eq Row.row hcap (fun a ha=>by have:=own_blk (OwnI.own:World.ownsRow w7 _ _ _ (.slice A2 _ c2) _ _) a ha;omega)) (fun j e e2=>by
       have h1:=hD.lt j (.inl e2)
       rcases e with e | e | ⟨a,ha,e⟩
       ·omega
       ·omega
       ·have:=(own_blk ho2 a ha).1;omega) hok (hok.len (by omega) rfl) hfew) ?_
 rintro _ w8 ⟨rfl,⟨G',D',hD',hS',hB',hG'⟩,lk4⟩
 have hgp9:=(Ge.le:w.heap.size<=(w7).heap.size)
 refine xz ?_
 refine x_ret ?_
 refine fin1 rfl ?_
 refine ⟨by rw [hno],?_,lkc⟩
 rw [Disk.does,if_pos hno]
 refine DiskW.begun hD.lt hP hR (fun j e=>?_) hgp9 lk4.keep.size hD' hS' hB' hG'
 rcases e with e | e | ⟨a,ha,e⟩
 ·omega
 ·omega
 ·have:=(own_blk ho2 a ha).1;omega
theorem there_read {l:List (ByteArray×LB)} {L:Fs} (h:Dm.Alike (fsP l) L) (name:ByteArray):(thereB l name).bytes=readB L name/\thereNo l name=readNo L name:=by
 have e:akey L name=(akey l name).map (fun x=>x.bytes):=by rw [<- h.eq,fsP_akey]
 unfold thereB thereNo readB readNo
 rw [e]
 constructor
 ·split
  ·cases akey l name<;>rfl
  ·rfl
 ·split
  ·rfl
  ·cases akey l name<;>simp
theorem there_row {W:World} {m:Nat} {G:Nat->Prop} {l:List (ByteArray×LB)} (h:FilesAt W m G l) (name:ByteArray):FRow W G (thereB l name).A (bytesC (thereB l name).bytes):=by
 unfold thereB
 split
 ·exact (atB_row h name).1
 ·exact FRow.nil _ _
theorem there_len {l:List (ByteArray×LB)} (hn:(l.map (·.1)).Nodup) (name:ByteArray):(thereB l name).bytes.length<=usedB (fsP l):=by
 unfold thereB
 split
 ·exact used_at hn name
 ·exact Nat.zero_le _
theorem cut_ok (P R:Nat->Prop) (d:Nat) (M:Disk) (name:ByteArray) (n:Int) (xs:List UInt8) (w:World) (h:DiskW P R d M w) (hn:xs.length<=16777216) (hfew:M.lasts.length+M.waits.length+1<=1000000):Ret Tryz.prog 29 #[.pointer (some ⟨d,0,none⟩),.string name,.int .i64 n] w (fun v w'=>v=.int .i64 (M.doNo ⟨1,name,xs,n⟩)/\DiskW P R d (M.does ⟨1,name,xs,n⟩) w'/\Lk w' w (NotP R)):=by
 obtain ⟨mb,ml,G,D,hD,hS,hP,hR⟩:=h
 haveI sP:SubF (DiskB d mb ml D.A) (NotP R) w:=⟨fun k _ e e2=>(hR k e2).2 e⟩
 have hno:=doNo_cut M name xs n
 obtain ⟨hr1,hr2⟩:=there_read hS.cur name
 have hlen:=there_len hD.cur.nodup name
 have hu:=hS.used
 refine ret_of_x (N:=37) (l:=[.pointer (some ⟨d,0,none⟩),.string name,.int .i64 n]) Tryz.func29 rfl rfl (Nat.le_of_ble_eq_true rfl) ?_
 refine xq ?_
 refine xl_e (e_box fun b1 w1 n1 l1 k1=>?_)
 refine xl_e (e_box fun b2 w2 n2 l2 k2=>?_)
 refine xz ?_
 refine xq (xm (xm (xl_v v_makeFunc (xl_Lc ?_))))
 refine xl_call (there_ok d mb ml G D M name 74 mb D.cur w2 (hD.ext (kpc:Keep NoB w w2)) hS (hD.cur.ext (kpc:Keep NoB w w2)) (fun W l=>stands_ok d mb ml G D W (hD.ext (kpc:Keep NoB w W)))) ?_
 rintro _ w3 ⟨rfl,lk1⟩
 have hb1w:w.heap.size<=b1:=by rw [n1.eq];exact Ge.le
 have hb2w:w.heap.size<=b2:=by rw [n2.eq];exact Ge.le
 refine xm (xl_v v_extract (xl_v v_extract (xa (xz ?_))))
 refine x_seq (x_block (xq (xm (xl_v v_neq (xz ?_)))))
 refine x_condE (fun c1=>?_) (fun c1=>?_)
 ·refine xq (xm (xz ?_))
  refine x_ret ?_
  refine fin1 rfl ?_
  rw [if_pos (by rw [<- hr2];intro e;rw [e] at c1;simp at c1)] at hno
  refine ⟨by rw [hno,hr2],?_,lkc⟩
  rw [Disk.does,if_neg (by rw [hno,<- hr2];intro e;rw [e] at c1;simp at c1)]
  exact DiskW.ext ⟨mb,ml,G,D,hD,hS,hP,hR⟩ (kpc:Keep NoB w w3)
 have h0:readNo M.files name=0:=by
  rw [<- hr2]
  simpa using c1
 rw [if_neg (fun h=>h h0)] at hno
 refine xq (xl_Lc ?_)
 refine xl_v v_lss (xm ?_)
 refine xl_split 24 (fun g24=>?_) (fun g24=>?_)
 ·refine xl_gs rfl EvO.eq (xl_gs rfl EvO.eq (xl_gs rfl EvO.eq (xl_gs rfl EvO.eq (xl_Pk ?_))))
  refine xz ?_
  refine x_condT ?_
  refine xq (xz ?_)
  refine x_ret ?_
  refine fin1 rfl ?_
  rw [if_pos (by
   rw [<- hr1]
   first
    | (simp at c2;omega)
    | (simp at g24;omega))] at hno
  refine ⟨by rw [hno],?_,lkc⟩
  rw [Disk.does,if_neg (by rw [hno];decide)]
  exact DiskW.ext ⟨mb,ml,G,D,hD,hS,hP,hR⟩ (kpc:Keep NoB w w3)
 refine xl_gLc rfl EvO.eq ?_
 refine xl_gv rfl EvO.eq v_move (xl_gv rfl EvO.eq v_len (xl_gv rfl EvO.eq v_gtr (xl_Pk ?_)))
 refine xz ?_
 refine x_if (fun c2=>?_) (fun c2=>?_)
 ·refine xq (xz ?_)
  refine x_ret ?_
  refine fin1 rfl ?_
  rw [if_pos (by
   rw [<- hr1]
   first
    | (simp at c2;omega)
    | (simp at g24;omega))] at hno
  refine ⟨by rw [hno],?_,lkc⟩
  rw [Disk.does,if_neg (by rw [hno];decide)]
  exact DiskW.ext ⟨mb,ml,G,D,hD,hS,hP,hR⟩ (kpc:Keep NoB w w3)
 have hn0:0<=n/\n<=((thereB D.cur name).bytes.length:Int):=by
  simp at g24 c2
  omega
 rw [if_neg (by rw [<- hr1];omega)] at hno
 have hok:okT M.room M.files ⟨1,name,xs,n⟩:=Disk.doNo_ok (.inr (.inl rfl)) hno
 refine x_skip (xq (xm (xl_v v_makeFunc (xl_Lc ?_))))
 refine xl_Lc ?_
 refine xl_v (v_buildA) ?_
 refine xl_v v_build ?_
 refine xl_call (begin_ok d mb ml G (fun j=>j=b1\/j=b2) D M ⟨⟨1,name,xs,n⟩,.func (.func 75) ([]:List Value).toArray [Value.pointer (some ⟨b1,0,none⟩),Value.pointer (some ⟨b2,0,none⟩)].toArray,rfl⟩ w3 (hD.ext (kpc:Keep NoB w w3)) hS (acts_cut b1 b2 name xs n hn0.1 w3 Blk.eq Blk.eq) (fun j e e2=>by
       have h1:=hD.lt j (.inl e2)
       rcases e with e | e<;>omega) hok hn hfew) ?_
 rintro _ w4 ⟨rfl,⟨G',D',hD',hS',hB',hG'⟩,lk4⟩
 have hgp9:=(Ge.le:w.heap.size<=(w3).heap.size)
 refine xz ?_
 refine x_ret ?_
 refine fin1 rfl ?_
 refine ⟨by rw [hno],?_,lkc⟩
 rw [Disk.does,if_pos hno]
 refine DiskW.begun hD.lt hP hR (fun j e=>?_) hgp9 lk4.keep.size hD' hS' hB' hG'
 rcases e with e | e<;>omega
theorem remove_ok (P R:Nat->Prop) (d:Nat) (M:Disk) (name:ByteArray) (n:Int) (xs:List UInt8) (w:World) (h:DiskW P R d M w) (hn:xs.length<=16777216) (hfew:M.lasts.length+M.waits.length+1<=1000000):Ret Tryz.prog 30 #[.pointer (some ⟨d,0,none⟩),.string name] w (fun v w'=>v=.int .i64 (M.doNo ⟨2,name,xs,n⟩)/\DiskW P R d (M.does ⟨2,name,xs,n⟩) w'/\Lk w' w (NotP R)):=by
 obtain ⟨mb,ml,G,D,hD,hS,hP,hR⟩:=h
 haveI sP:SubF (DiskB d mb ml D.A) (NotP R) w:=⟨fun k _ e e2=>(hR k e2).2 e⟩
 have hno:=doNo_remove M name xs n
 obtain ⟨hr1,hr2⟩:=there_read hS.cur name
 refine ret_of_x (N:=24) (l:=[.pointer (some ⟨d,0,none⟩),.string name]) Tryz.func30 rfl rfl (Nat.le_of_ble_eq_true rfl) ?_
 refine xq ?_
 refine xl_e (e_box fun b1 w1 n1 l1 k1=>?_)
 refine xz ?_
 refine x_seq (xq (xm (xm (xl_v v_makeFunc (xl_Lc ?_)))))
 refine xl_call (there_ok d mb ml G D M name 74 mb D.cur w1 (hD.ext (kpc:Keep NoB w w1)) hS (hD.cur.ext (kpc:Keep NoB w w1)) (fun W l=>stands_ok d mb ml G D W (hD.ext (kpc:Keep NoB w W)))) ?_
 rintro _ w2 ⟨rfl,lk1⟩
 have hb1w:w.heap.size<=b1:=by rw [n1.eq];exact Ge.le
 refine xm (xl_v v_extract (xl_v v_extract (xa (xz ?_))))
 refine xq (xm (xl_v v_neq (xl_nil ?_)))
 refine x_condE (fun c1=>?_) (fun c1=>?_)
 ·refine xq (xm (xz ?_))
  refine x_ret ?_
  refine fin1 rfl ?_
  refine ⟨by rw [hno,hr2],?_,lkc⟩
  rw [Disk.does,if_neg (by rw [hno,<- hr2];intro e;rw [e] at c1;simp at c1)]
  exact DiskW.ext ⟨mb,ml,G,D,hD,hS,hP,hR⟩ (kpc:Keep NoB w w2)
 have h0:readNo M.files name=0:=by
  rw [<- hr2]
  simpa using c1
 rw [h0] at hno
 have hok:okT M.room M.files ⟨2,name,xs,n⟩:=Disk.doNo_ok (.inr (.inr rfl)) hno
 refine x_skip (xq (xm (xl_v v_makeFunc (xl_Lc ?_))))
 refine xl_v (v_buildA) ?_
 refine xl_v v_build ?_
 refine xl_call (begin_ok d mb ml G (fun j=>j=b1) D M ⟨⟨2,name,xs,n⟩,.func (.func 76) ([]:List Value).toArray [Value.pointer (some ⟨b1,0,none⟩)].toArray,rfl⟩ w2 (hD.ext (kpc:Keep NoB w w2)) hS (acts_remove b1 name xs n w2 Blk.eq) (fun j e e2=>by
       have h1:=hD.lt j (.inl e2)
       omega) hok hn hfew) ?_
 rintro _ w3 ⟨rfl,⟨G',D',hD',hS',hB',hG'⟩,lk4⟩
 have hgp9:=(Ge.le:w.heap.size<=(w2).heap.size)
 refine xz ?_
 refine x_ret ?_
 refine fin1 rfl ?_
 refine ⟨by rw [hno],?_,lkc⟩
 rw [Disk.does,if_pos hno]
 exact DiskW.begun hD.lt hP hR (fun j e=>by omega) hgp9 lk4.keep.size hD' hS' hB' hG'
theorem flush_ok (P R:Nat->Prop) (d:Nat) (M:Disk) (w:World) (h:DiskW P R d M w):Ret Tryz.prog 31 #[.pointer (some ⟨d,0,none⟩)] w (fun v w'=>v=.int .i64 0/\DiskW P R d M.flush w'/\Lk w' w (NotP R)):=by
 obtain ⟨mb,ml,G,D,hD,hS,hP,hR⟩:=h
 haveI hb:Blk w d _:=⟨hD.hb⟩
 haveI sP:SubF (OneB d) (NotP R) w:=⟨fun k _ e e2=>(hR k e2).2 (.inl e)⟩
 have hdl:=hD.lt d (.inl (.inl rfl))
 have hmbl:=hD.lt mb (.inl (.inr (.inl rfl)))
 refine ret_of_x (N:=16) (l:=[.pointer (some ⟨d,0,none⟩)]) Tryz.func31 rfl rfl (Nat.le_of_ble_eq_true rfl) ?_
 refine xq (xz ?_)
 refine x_seq (xq (xm ?_))
 refine xl_call (none_ok d mb ml G D M w (hD.ext (kpc:Keep NoB w w)) hS) ?_
 rintro _ _ ⟨rfl,rfl⟩
 refine xl_nil ?_
 refine x_condF ?_
 refine x_skip (xq (xm (xm (xm (xl_Nc ?_)))))
 refine xl_Fb ?_
 refine xl_Lb ?_
 refine xl_call (copied_ok mb G D.cur w (hD.cur.ext (kpc:Keep NoB w w))) ?_
 rintro _ w2 ⟨⟨ml2,rfl,hF2,hg2⟩,lk1⟩
 have hgp:=(Ge.le:w.heap.size<=(w).heap.size)
 refine xl_Nc ?_
 refine xl_Fb ?_
 refine xl_s (e_storeA fun w3 l3 k3=>?_)
 refine xl_Nc ?_
 refine xl_Fb ?_
 refine xl_s (e_store fun w4 l4 k4=>?_)
 refine xl_nil ?_
 refine xq (xz ?_)
 refine x_ret ?_
 refine fin1 rfl ?_
 have K:Keep (OneB d) w w4:=kpc
 have hGd:∀ k,G k->¬ OneB d k:=fun k e e2=>hD.gd (by have e2':k=d:=e2;exact e2' ▸ e)
 refine ⟨rfl,⟨mb,ml2,G,⟨D.room,D.cur,D.cur,[],none,0⟩,⟨by simpa using (Blk.eq:(w4).heap[d]?=_),hD.cur.keep K (fun e=>hD.d1 (by have e':mb=d:=e;exact e'.symm)) hGd,hF2.keep (kpc:Keep (OneB d) _ w4) (fun e=>by have e':ml2=d:=e;omega) hGd,World.ownsRow_nil _ _ _ _,nofun,hD.d1,by omega,by omega,hD.gd,nofun⟩,⟨hS.room,rfl,hS.cur,hS.cur,hS.ok.flush,?_,nofun⟩,?_,?_⟩,lkc⟩
 ·have:=fold_len M.waits M.lasts
  have:=hS.few
  show (M.waits.foldl done M.lasts).length+0<=1000000
  omega
 ·intro k e
  obtain ⟨e1,e2⟩:=hP k e
  refine ⟨Nat.lt_of_lt_of_le e1 Ge.le,?_⟩
  rintro ((e3 | e3 | e3 | ⟨a,ha,_⟩) | e3)
  ·exact e2 (.inl (.inl e3))
  ·exact e2 (.inl (.inr (.inl e3)))
  ·omega
  ·cases ha
  ·exact e2 (.inr e3)
 ·intro k e
  obtain ⟨e1,e2⟩:=hR k e
  refine ⟨Nat.lt_of_lt_of_le e1 Ge.le,?_⟩
  rintro (e3 | e3 | e3 | ⟨a,ha,_⟩)
  ·exact e2 (.inl e3)
  ·exact e2 (.inr (.inl e3))
  ·omega
  ·cases ha
theorem read_ok (P R:Nat->Prop) (d:Nat) (M:Disk) (name:ByteArray) (w:World) (h:DiskW P R d M w):Ret Tryz.prog 90 #[.pointer (some ⟨d,0,none⟩),.string name] w (fun v w'=>(∃ A' c',v=.tuple #[.slice A' (readB M.files name).length c',.int .i64 (readNo M.files name)]/\w'.ownsRow w.heap.size 5 1 (.slice A' (readB M.files name).length c') (readB M.files name).length (bytesC (readB M.files name)))/\Lk w' w NoB):=by
 obtain ⟨mb,ml,G,D,hD,hS,hP,hR⟩:=h
 obtain ⟨hr1,hr2⟩:=there_read hS.cur name
 have hlen:=there_len hD.cur.nodup name
 have hu:=hS.used
 have hrow:=there_row hD.cur name
 haveI:Row w (thereB D.cur name).A (bytesC (thereB D.cur name).bytes):=⟨hrow.row⟩
 refine ret_of_x (N:=19) (l:=[.pointer (some ⟨d,0,none⟩),.string name]) Tryz.func90 rfl rfl (Nat.le_of_ble_eq_true rfl) ?_
 refine xq (xa (xz ?_))
 refine xq (xm (xm (xl_v v_makeFunc (xm ?_))))
 refine xl_call (there_ok d mb ml G D M name 74 mb D.cur w (hD.ext (kpc:Keep NoB w w)) hS (hD.cur.ext (kpc:Keep NoB w w)) (fun W l=>stands_ok d mb ml G D W (hD.ext (kpc:Keep NoB w W)))) ?_
 rintro _ w1 ⟨rfl,lk1⟩
 refine xm (xl_v v_extract (xl_v v_extract (xa (xz ?_))))
 refine xq (xm ?_)
 refine xl_call (cloneb_ok (thereB D.cur name).A (thereB D.cur name).bytes.length (thereB D.cur name).c (bytesC (thereB D.cur name).bytes) w1 (by simp) (by omega) (bytesC_one _) (nil_some hrow.row rfl)) ?_
 rintro _ w2 ⟨⟨A2,c2,rfl,ho2⟩,lk3⟩
 refine xm (xa (xz ?_))
 refine x_ret ?_
 refine fin2 rfl ?_
 rw [<- hr1,<- hr2]
 exact ⟨⟨A2,c2,by simp [outV],own_mono (own_ext ho2 lkc) Ge.le⟩,lkc⟩
theorem waits_ok (P R:Nat->Prop) (d:Nat) (M:Disk) (w:World) (h:DiskW P R d M w):Ret Tryz.prog 36 #[.pointer (some ⟨d,0,none⟩)] w (fun v w'=>v=.int .i64 (M.waits.length:Int)/\Lk w' w NoB):=by
 obtain ⟨mb,ml,G,D,hD,hS,hP,hR⟩:=h
 haveI hb:Blk w d _:=⟨hD.hb⟩
 refine ret_of_x (N:=10) (l:=[.pointer (some ⟨d,0,none⟩)]) Tryz.func36 rfl rfl (Nat.le_of_ble_eq_true rfl) ?_
 refine xq (xz ?_)
 refine x_seq (xq (xm ?_))
 refine xl_call (none_ok d mb ml G D M w (hD.ext (kpc:Keep NoB w w)) hS) ?_
 rintro _ _ ⟨rfl,rfl⟩
 refine xl_nil ?_
 refine x_condF ?_
 refine x_skip (xq (xm (xl_Nc ?_)))
 refine xl_Fb ?_
 refine xl_Lc ?_
 refine xl_v v_len (xz ?_)
 refine x_ret ?_
 refine fin1 rfl ?_
 exact ⟨by rw [<- hS.waits];simp,lkc⟩
instance cell1_g (x:LThing):Cell1 x.g:=⟨x.one⟩
def tellT (p:Nat×LThing):List Value:=[.int .i64 (p.1:Int),.agg (thingC p.2).toArray]
def lastT (ws:List LThing) (k:Nat) (torn:Int):List (Nat×LThing):=match ws[k]? with
 | none=>[]
 | some x=>if 0<pickN torn (putsN x.t) then [(pickN torn (putsN x.t),x)] else []
def told (ws:List LThing) (k:Nat) (torn:Int):List (Nat×LThing):=(ws.take k).map (fun x=>(putsN x.t,x))++lastT ws k torn
def AlT (l:List (Nat×LThing)):Seen->Prop:=fun pre=>pre.length<=l.length/\pre=(l.take pre.length).map tellT
def FinT (l:List (Nat×LThing)):Seen->Prop:=fun pre=>pre=l.map tellT
theorem told_get {ws:List LThing} {k:Nat} {torn:Int} {i:Nat} (hi:i<k) (hi2:i<ws.length):(told ws k torn)[i]?=some (putsN ws[i].t,ws[i]):=by
 have h1:i<((ws.take k).map (fun x=>(putsN x.t,x))).length:=by simp;omega
 rw [told,List.getElem?_append_left h1]
 simp [hi,hi2]
theorem told_take {ws:List LThing} {k:Nat} {torn:Int} (hk:k<=ws.length):(told ws k torn).take k=(ws.take k).map (fun x=>(putsN x.t,x)):=by
 rw [told,List.take_append_of_le_length (by rw [List.length_map,List.length_take];omega),List.take_of_length_le (by rw [List.length_map,List.length_take];omega)]
theorem told_end {ws:List LThing} {k:Nat} {torn:Int} (hk:k<=ws.length) (h0:lastT ws k torn=[]):(told ws k torn).take k=told ws k torn:=by
 rw [told_take hk,told,h0,List.append_nil]
theorem told_snoc {ws:List LThing} {k:Nat} {torn:Int} {p:Nat×LThing} (hk:k<=ws.length) (h0:lastT ws k torn=[p]):(told ws k torn).take k++[p]=told ws k torn:=by
 rw [told_take hk,told,h0]
theorem take_step {α:Type} {l:List α} {i:Nat} {x:α} (h:l[i]?=some x):l.take (i+1)=l.take i++[x]:=by
 obtain ⟨h1,h2⟩:=List.getElem?_eq_some_iff.1 h
 rw [take_snoc _ i h1,h2]
theorem alT_step {l:List (Nat×LThing)} {i:Nat} {p:Nat×LThing} (h:l[i]?=some p):AlT l ((l.take i).map tellT++[tellT p]):=by
 obtain ⟨h1,h2⟩:=List.getElem?_eq_some_iff.1 h
 have h3:((l.take i).map tellT++[tellT p]).length=i+1:=by simp;omega
 refine ⟨by rw [h3];omega,?_⟩
 rw [h3,take_step h]
 simp
theorem told_last {ws:List LThing} {k:Nat} {torn:Int} {p:Nat×LThing} (hk:k<=ws.length) (h0:lastT ws k torn=[p]):(told ws k torn)[k]?=some p:=by
 rw [told,h0,List.getElem?_append_right (by simp;omega)]
 have:k - ((ws.take k).map (fun x=>(putsN x.t,x))).length=0:=by simp;omega
 rw [this]
 rfl
theorem last_some {ws:List LThing} {k:Nat} {torn:Int} (hk:k<ws.length) (h0:0<pickN torn (putsN ws[k].t)):lastT ws k torn=[(pickN torn (putsN ws[k].t),ws[k])]:=by
 rw [lastT,List.getElem?_eq_getElem hk]
 simp only [h0,if_true]
theorem last_none {ws:List LThing} {k:Nat} {torn:Int} (hk:k<ws.length) (h0:¬ 0<pickN torn (putsN ws[k].t)):lastT ws k torn=[]:=by
 rw [lastT,List.getElem?_eq_getElem hk]
 simp only [h0,if_false]
theorem last_len {ws:List LThing} {k:Nat} {torn:Int} (hk:¬ k<ws.length):lastT ws k torn=[]:=by
 rw [lastT,List.getElem?_eq_none (by omega)]
theorem keeps1_ok (y:Value) (cc cd d mb ml:Nat) (G:Nat->Prop) (D:LDisk) (keep torn:Int) (I J:Seen->(Nat->Prop)->World->Prop) (F:Nat->Prop) (w:World) [hbc:Blk w cc (.cells #[.int .i64 keep,.int .i64 torn] 75 (0,0))] [hbd:Blk w cd (.cells #[.pointer (some ⟨d,0,none⟩)] 24 (0,0))] (hD:DiskAt w d mb ml G D) (hfew:D.waits.length<=1000000) (hk:In64 keep) (ht:In64 torn) (hlen:∀ x∈D.waits,x.t.bytes.length<=16777216) (w0:World) (hy:YieldsI Tryz.prog y (AlT (told D.waits (pickN keep D.waits.length) torn)) I J w0) (hw0:w0.heap.size<=w.heap.size) (h0:I [] F w) (hF:∀ k,F k->¬ (k=cc\/k=cd\/DiskF d mb ml D.A G k)):Ret Tryz.prog 108 #[y,.pointer (some ⟨cc,0,none⟩),.pointer (some ⟨cd,0,none⟩)] w (fun _ w'=>∃ pre F',((FinT (told D.waits (pickN keep D.waits.length) torn) pre/\I pre F' w')\/J pre F' w')/\Keep F w w'/\Sub F' F w):=by
 haveI hb:Blk w d _:=⟨hD.hb⟩
 haveI hrow:Row w D.A (D.waits.flatMap thingC):=⟨(FRow.of_own hD.row).row⟩
 have hFlt:=hy.i.lt _ _ _ h0
 have hkk:=pickN_le keep D.waits.length
 obtain ⟨kk,hkd⟩:∃ kk,kk=pickN keep D.waits.length:=⟨_,rfl⟩
 rw [<- hkd] at hkk hy ⊢
 have hFd:∀ j,F j->j≠d:=fun j e e2=>hF j e (.inr (.inr (.inl (.inl e2))))
 refine ret_of_x (N:=53) (l:=[y,.pointer (some ⟨cc,0,none⟩),.pointer (some ⟨cd,0,none⟩)]) Tryz.func108 rfl rfl (Nat.le_of_ble_eq_true rfl) ?_
 refine x_scope ?_
 refine x_seq ?_
 refine x_drawL (NoB) (allS) (.take 0 (.take 1 (.take 2 (.take 3 (.take 4 (.take 5 (.take 6 (.eff 7 (.take 8 .done))))))))) mixed (by kernel_rfl) (fun _ _ _ _ _ h=>h) (fun w1 l1=>?_)
 refine xt_Fb rfl ?_
 refine xt_Lc rfl ?_
 refine xt_Lc rfl ?_
 refine xt_Nc rfl ?_
 refine xt_Fb rfl ?_
 refine xt_Lc rfl ?_
 refine xt_v rfl v_len ?_
 refine xt_call rfl (pick_ok keep D.waits.length w1 hk (by omega)) ?_
 rintro _ _ ⟨rfl,rfl⟩
 refine ⟨kpc,?_⟩
 rw [<- hkd]
 refine xt_v rfl v_assign (xt_nil ?_)
 refine x_seq ?_
 refine x_label ?_
 refine xq (xl_Lc ?_)
 refine xl_Nc ?_
 refine xl_Fb ?_
 refine xl_Lc ?_
 refine xl_v v_len (xm (xl_nil ?_))
 refine x_block ?_
 have hI0:=hy.i.keep _ _ _ _ _ h0 (kpc:Keep NoB w w1) (fun _ _ h=>h) (fun _ h=>h.elim)
 have K0:Keep F w w1:=(kpc:Keep NoB w w1).mono (fun _ _ h=>h.elim)
 refine x_loop (fun m τ ds w'=>ds=[]/\∃ (k:Nat) (Fc:Nat->Prop),m=D.waits.length - k/\k<=D.waits.length/\k<=kk/\I (((told D.waits kk torn).take k).map tellT) Fc w'/\Keep F w w'/\Sub Fc F w/\Ev τ 0 y/\Ev τ 1 (.pointer (some ⟨cc,0,none⟩))/\Ev τ 2 (.pointer (some ⟨cd,0,none⟩))/\Ev τ 4 (.int .i64 (kk:Int))/\Ev τ 19 (.slice D.A D.waits.length D.c)/\Ev τ 20 (.int .i64 (D.waits.length:Int))/\Ev τ 21 (.int .i64 (k:Int))) (D.waits.length) ?start ?round
 case start=>
  exact ⟨rfl,0,F,rfl,by omega,by omega,hI0,K0,Sub.refl _ _,ii,ii,ii,ii,ii,ii,evc⟩
 case round=>
  intro m τ3 ds3 w3 hI
  obtain ⟨rfl,k,Fc,rfl,hkl,hkk2,hI,hkF,hsF,e0,e1,e2,e4,e19,e20,e21⟩:=hI
  haveI lF:Lk w3 w F:=⟨hkF⟩
  haveI:NotS F cc:=⟨fun e=>hF cc e (.inl rfl)⟩
  haveI:NotS F cd:=⟨fun e=>hF cd e (.inr (.inl rfl))⟩
  haveI:NotS F d:=⟨fun e=>hFd d e rfl⟩
  haveI:RowOut F D.A:=⟨fun a ha e=>hF _ e (.inr (.inr (.inl (.inr (.inr (.inr ⟨a,ha,rfl⟩))))))⟩
  haveI:Blk w3 cc _:=ii
  haveI:Blk w3 cd _:=ii
  haveI:Row w3 D.A (D.waits.flatMap thingC):=ii
  refine xq (xl_v v_lss (xl_nil ?_))
  refine x_seq ?_
  refine x_if (fun c1=>?_) (fun c1=>?_)
  ·have hk1:k<D.waits.length:=by omega
   have hA:=row_some (w:=w3) (A:=D.A) (cs:=D.waits.flatMap thingC) ii (by rw [flat_len (sz:=7) (fun _=>rfl)];omega)
   refine x_skip (x_seq (x_block (xq (xm ?_))))
   refine xl_v (v_indexF k (by decide) rfl (by omega) hk1) ?_
   refine xl_v (v_loadRA (vs:=thingC D.waits[k]) rfl hA (flat_get (enc:=thingC) (fun _=>rfl) D.waits k hk1)) ?_
   refine xl_e (e_alloc fun b6 w4 n6 l6 k6=>?_)
   refine xa ?_
   refine xl_s (e_storeA fun w5 l5 k5=>?_)
   refine xl_nil ?_
   refine x_seq (x_block (xq (xm (xm (xl_v v_lss (xm ?_))))))
   refine xl_split 30 (fun g30=>?_) (fun g30=>?_)
   ·refine xl_gv rfl EvO.eq v_move ?_
    refine xl_gFb rfl EvO.eq ?_
    refine xl_gv rfl EvO.eq (v_congr (u:=.int .i64 ((putsN D.waits[k].t:Nat):Int)) v_load (congrArg _ (putsI_N _))) ?_
    refine xl_gLb rfl EvO.eq ?_
    have hkk3:k<kk:=by simpa using g30
    have hg:=told_get (torn:=torn) hkk3 hk1
    have hI2:=hy.i.keep _ _ _ _ _ hI (kpc:Keep NoB w3 w5) (fun _ _ h=>h) (fun _ h=>h.elim)
    have hszB:=(Ge.le:(w3).heap.size<=(w5).heap.size)
    refine xl_gcallv rfl EvO.eq (hy.step _ _ Fc w5 (alT_step hg) hI2) ?_
    rintro _ w6 ⟨bb,F2,rfl,hI3,hk3,hs3⟩
    have hkF3:Keep F w w6:=(hkF.then (kpc:Keep NoB w3 w5) (fun _ _ h=>h.elim)).then hk3 (fun j hj e=>(hsF j e).elim id (fun h=>by omega))
    have hsF3:Sub F2 F w:=fun j e=>(hs3 j e).elim (fun e=>hsF j e) (fun e=>.inr (by have:=hkF.size;omega))
    refine xl_Pk ?_
    refine xz ?_
    refine x_condE (fun c2=>?_) (fun c2=>?_)
    ·have hI3:I (((told D.waits kk torn).take (k+1)).map tellT) F2 w6:=by
      rw [if_pos c2] at hI3
      rw [take_step hg]
      simpa using hI3
     refine x_exit (x_regionL ?_)
     refine xl_v (v_add (by omega)) ?_
     refine xm (xl_nil ?_)
     refine ⟨_,?_,rfl,k+1,F2,rfl,by omega,by omega,hI3,hkF3,hsF3,ii,ii,ii,ii,ii,ii,evc⟩
     omega
    have hfin:∃ pre F',((FinT (told D.waits kk torn) pre/\I pre F' w6)\/J pre F' w6)/\Keep F w w6/\Sub F' F w:=⟨_,F2,.inr (by rw [if_neg (by simpa using c2)] at hI3;exact hI3),hkF3,hsF3⟩
    refine xq (xm (xm ?_))
    refine xl_v (v_congr (u:=.bool false) v_eql (by simp;omega)) ?_
    refine xz ?_
    refine x_condF ?_
    refine x_skip (x_exit ?_)
    refine fin0 rfl ?_
    exact hfin
   refine xl_gs rfl EvO.eq (xl_gs rfl EvO.eq (xl_gs rfl EvO.eq (xl_gs rfl EvO.eq (xl_gs rfl EvO.eq (xl_Pk ?_)))))
   refine xz ?_
   refine x_condF ?_
   refine xq (xm (xm (xl_v v_eql (xz ?_))))
   refine x_if (fun c3=>?_) (fun c3=>?_)
   ·have hkn:k=kk:=by omega
    subst hkn
    have hI5:=hy.i.keep _ _ _ _ _ hI (kpc:Keep NoB w3 w5) (fun _ _ h=>h) (fun _ h=>h.elim)
    have hkF5:Keep F w w5:=hkF.then (kpc:Keep NoB w3 w5) (fun _ _ h=>h.elim)
    refine xq (xl_Fb ?_)
    refine xl_Lc ?_
    refine xl_Fb ?_
    refine xl_v (v_congr (u:=.int .i64 ((putsN D.waits[k].t:Nat):Int)) v_load (congrArg _ (putsI_N _))) ?_
    refine xl_call (pick_ok torn (putsN D.waits[k].t) w5 ht (by have:=hlen _ (List.getElem_mem hk1);have:=putsN_le D.waits[k].t;omega)) ?_
    rintro _ _ ⟨rfl,rfl⟩
    refine xz ?_
    refine xq (xm ?_)
    refine xl_v (v_congr (u:=.bool (decide (0<pickN torn (putsN D.waits[k].t)))) v_gtr (by simp)) ?_
    refine xl_nil ?_
    refine x_if (fun c4=>?_) (fun c4=>?_)
    ·have hls:=last_some (torn:=torn) hk1 c4
     refine x_regionL (xm (xm (xl_Lb ?_)))
     refine xl_callv (hy.step _ _ Fc w5 (alT_step (told_last hkl hls)) hI5) ?_
     rintro _ w8 ⟨bb,F2,rfl,hI3,hk3,hs3⟩
     have hfin:∃ pre F',((FinT (told D.waits k torn) pre/\I pre F' w8)\/J pre F' w8)/\Keep F w w8/\Sub F' F w:=by
      refine ⟨(told D.waits k torn).map tellT,F2,?_,hkF5.then hk3 (fun j hj e=>(hsF j e).elim id (fun h=>by omega)),fun j e=>(hs3 j e).elim (fun e=>hsF j e) (fun e=>.inr (by have:=hkF5.size;omega))⟩
      cases bb with
      | true=>exact .inl ⟨rfl,by
            rw [if_pos rfl] at hI3
            rw [<- told_snoc hkl hls,List.map_append]
            exact hI3⟩
      | false=>exact .inr (by
            rw [if_neg (by decide)] at hI3
            rw [<- told_snoc hkl hls,List.map_append]
            exact hI3)
     refine xl_nil ?_
     refine x_exit ?_
     refine fin0 rfl ?_
     exact hfin
    have hfin:∃ pre F',((FinT (told D.waits k torn) pre/\I pre F' w5)\/J pre F' w5)/\Keep F w w5/\Sub F' F w:=⟨_,Fc,.inl ⟨by rw [FinT,told_end hkl (last_none hk1 c4)],hI5⟩,hkF5,hsF⟩
    refine x_skip (x_exit ?_)
    refine fin0 rfl ?_
    exact hfin
   simp at g30
   omega
  have hkn:k=kk:=by omega
  subst hkn
  have hfin:∃ pre F',((FinT (told D.waits k torn) pre/\I pre F' w3)\/J pre F' w3)/\Keep F w w3/\Sub F' F w:=⟨_,Fc,.inl ⟨by rw [FinT,told_end hkl (last_len (by omega))],hI⟩,hkF,hsF⟩
  refine x_exit ?_
  refine fin0 rfl ?_
  exact hfin
end Go.Proofs.YtigmfcgeljjgnaaGreatDoor
