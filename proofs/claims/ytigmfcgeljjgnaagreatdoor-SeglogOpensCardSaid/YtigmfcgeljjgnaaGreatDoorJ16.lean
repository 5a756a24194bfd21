/- A part of the walks through the log and its document, and of the law in plain Lean: Q. -/
import Derived.Test.YtigmfcgeljjgnaaGreatDoorJ15
set_option linter.all false
set_option maxRecDepth 100000
set_option synthInstance.maxSize 100000
set_option synthInstance.maxHeartbeats 400000
namespace Go.Proofs.YtigmfcgeljjgnaaGreatDoor
open Go.Wst
open Go.Wst.Dm
theorem blt_gtr {a b:ByteArray}:(!(Op.bytesLess a.toList b.toList || a.toList == b.toList))=decide (blt b a):=by
 rw [bytesLess_eq]
 have h2:(a.toList == b.toList)=decide (a=b):=by
  rw [beq_dec];congr 1;rw [eq_iff_iff]
  exact ⟨toList_inj,fun h=>by rw [h]⟩
 rw [h2]
 by_cases h:blt b a
 ·have h3:¬ a.toList<b.toList:=fun h'=>blt_asymm h h'
  have h4:¬ a=b:=fun e=>blt_ne h e.symm
  simp [h,h3,h4]
 ·by_cases e:a=b
  ·subst e
   simp [blt_irrefl]
  ·have h3:a.toList<b.toList:=blt_or h (fun e2=>e e2.symm)
   simp [h,h3]
theorem v_sgtr {P:Program} {r:Option Nat} {N:Nat} {S:Nat->Prop} {τ:Tau} {w:World} {ty:TypeId} {a b:ByteArray} {x y:Operand} {t t':TypeId} [hx:EvO N τ x (.string a)] [hy:EvO N τ y (.string b)]:Val P r N S (.binOp .gtr t x y t') ty τ w (.bool (decide (blt b a))):=⟨fun _=>nofun,fun W _=>by
 rw [<- @blt_gtr a b]
 simp [execOp,hx.eq,hy.eq,eqGuard,binOp,Op.stringOp]⟩
theorem FsRow.mono {W:World} {F G:Nat->Prop} {A:Option Addr} {l:List (ByteArray×LB)} (h:FsRow W F A l) (hs:∀ k,F k->G k) (hl:∀ k,G k->k<W.heap.size):FsRow W G A l:=⟨h.row.mono hs,fun p hp=>(h.items p hp).mono hs,h.caps,hl⟩
theorem done_round (t:Thing) (f:ByteArray×Bs) (l:Fs) (b:Bool):doneL t (f :: l) b=(if b=false/\t.what=0/\blt t.name f.1 then [(t.name,t.bytes)] else [])++(if f.1=t.name then t.of f else [f])++doneL t l (b || decide (t.what=0/\blt t.name f.1) || decide (f.1=t.name)):=rfl
structure DoneS (w0:World) (b1:Nat) (F:Nat->Prop) (q:List (ByteArray×LB)) (nq:Nat) (A7:Option Addr) (cq:Nat) (F7:Nat->Prop) (W:World):Prop where
 len:nq=q.length
 own:W.ownsRow w0.heap.size 125 2 (.slice A7 nq cq) nq (q.flatMap fileC)
 rows:∀ p∈q,FRow W F7 p.2.A (bytesC p.2.bytes)/\p.2.bytes.length<=p.2.c
 f7:∀ j,F7 j->j<W.heap.size/\(F j\/w0.heap.size<=j)/\j≠b1/\∀ a,A7=some a->a.block≠j
 ff:∀ j,F j->F7 j
 ab:∀ a,A7=some a->a.block≠b1
section
variable {w0 W W':World} {b1 nq cq c8:Nat} {F F7 E:Nat->Prop} {q:List (ByteArray×LB)} {A7 A8:Option Addr} {p:ByteArray×LB}
theorem DoneS.ext (h:DoneS w0 b1 F q nq A7 cq F7 W) (hk:Keep NoB W W'):DoneS w0 b1 F q nq A7 cq F7 W':=
 ⟨h.len,own_keep h.own hk (fun _ _ e=>e),fun p hp=>⟨(h.rows p hp).1.keep hk (fun _ _ e=>e),(h.rows p hp).2⟩,fun j e=>⟨Nat.lt_of_lt_of_le (h.f7 j e).1 hk.size,(h.f7 j e).2⟩,h.ff,h.ab⟩
theorem DoneS.notS (h:DoneS w0 b1 F q nq A7 cq F7 W):NotS (OwnB (.slice A7 nq cq)) b1:=⟨fun e=>by obtain ⟨a,ha,e2⟩:=ownB_ex e;exact h.ab a ha e2⟩
theorem DoneS.app (h:DoneS w0 b1 F q nq A7 cq F7 W) (ho:W'.ownsRow w0.heap.size 125 2 (.slice A8 (nq+1) c8) (nq+1) (q.flatMap fileC++fileC p)) (hk:Keep (OwnB (.slice A7 nq cq)) W W') (hf:FromA A8 A7 W) (hb1:b1<W.heap.size) (hr:FRow W E p.2.A (bytesC p.2.bytes)) (hc:p.2.bytes.length<=p.2.c) (hE:∀ j,E j->j<W.heap.size/\(F j\/w0.heap.size<=j)/\j≠b1/\∀ a,A7=some a->a.block≠j):DoneS w0 b1 F (q++[p]) (nq+1) A8 c8 (fun j=>F7 j\/E j) W':=by
 have hA:∀ a,A8=some a->(∃ b,A7=some b/\b.block=a.block)\/W.heap.size<=a.block:=fun a ha=>by
  rcases hf.or a ha with ⟨b,hb,e⟩ | e
  ·exact .inl ⟨b,hb,e.symm⟩
  ·exact .inr (by omega)
 have hnE:∀ j,E j->¬ OwnB (.slice A7 nq cq) j:=fun j e e2=>by obtain ⟨a,ha,e3⟩:=ownB_ex e2;exact (hE j e).2.2.2 a ha e3
 have hnF:∀ j,F7 j->¬ OwnB (.slice A7 nq cq) j:=fun j e e2=>by obtain ⟨a,ha,e3⟩:=ownB_ex e2;exact (h.f7 j e).2.2.2 a ha e3
 refine ⟨by rw [h.len];simp,by simpa using ho,?_,?_,fun j e=>.inl (h.ff j e),?_⟩
 ·intro u hu
  rcases List.mem_append.1 hu with hu | hu
  ·exact ⟨((h.rows u hu).1.keep hk hnF).mono (fun j e=>.inl e),(h.rows u hu).2⟩
  ·have e:u=p:=by simpa using hu
   subst e
   exact ⟨(hr.keep hk hnE).mono (fun j e=>.inr e),hc⟩
 ·have key:∀ j,(j<W.heap.size/\(F j\/w0.heap.size<=j)/\j≠b1/\∀ a,A7=some a->a.block≠j)->j<W'.heap.size/\(F j\/w0.heap.size<=j)/\j≠b1/\∀ a,A8=some a->a.block≠j:=by
   rintro j ⟨z1,z2,z3,z4⟩
   refine ⟨Nat.lt_of_lt_of_le z1 hk.size,z2,z3,fun a ha e=>?_⟩
   rcases hA a ha with ⟨b,hb,e2⟩ | e2
   ·exact z4 b hb (e2.trans e)
   ·omega
  rintro j (e | e)
  ·exact key j (h.f7 j e)
  ·exact key j (hE j e)
 ·intro a ha e
  rcases hA a ha with ⟨b,hb,e2⟩ | e2
  ·exact h.ab b hb (e2.trans e)
  ·omega
theorem DoneS.outF (h:DoneS w0 b1 F q nq A7 cq F7 W) (hF:∀ j,F j->j<w0.heap.size) (hb:w0.heap.size<=b1) (hW:w0.heap.size<=W.heap.size):∀ j,F j->j<W.heap.size/\(F j\/w0.heap.size<=j)/\j≠b1/\∀ a,A7=some a->a.block≠j:=
 fun j e=>⟨Nat.lt_of_lt_of_le (hF j e) hW,.inl e,by have:=hF j e;omega,fun a ha e2=>by have:=(own_blk h.own a ha).1;have:=hF j e;omega⟩
theorem DoneS.fs (h:DoneS w0 b1 F q nq A7 cq F7 W):FsRow W (fun j=>F7 j\/blkP A7 j) A7 q:=
 ⟨⟨(FRow.of_own h.own).row,fun a ha=>.inr ⟨a,ha,rfl⟩⟩,fun p hp=>(h.rows p hp).1.mono (fun j e=>.inl e),fun p hp=>(h.rows p hp).2,fun j e=>by
  rcases e with e | ⟨a,ha,e⟩
  ·exact (h.f7 j e).1
  ·have:=(own_blk h.own a ha).2;omega⟩
end
theorem done_push (q:List (ByteArray×LB)) (p:ByteArray×LB) (R D:Fs) (h:fsP q++([(p.1,p.2.bytes)]++R)=D):fsP (q++[p])++R=D:=by rw [<- h];simp [fsP]
theorem fsP_snoc (q:List (ByteArray×LB)) (p:ByteArray×LB):fsP (q++[p])=fsP q++[(p.1,p.2.bytes)]:=by simp [fsP]
set_option maxHeartbeats 1000000 in
theorem done_ok (A:Option Addr) (c:Nat) (l:List (ByteArray×LB)) (F:Nat->Prop) (x:LT) (w:World) (h:FsRow w F A l) (hx:RowP w x.A (bytesC x.t.bytes)) (hw:okWhat x.t) (hcut:x.t.what=1->∀ b,akey (fsP l) x.t.name=some b->0<=x.t.n/\x.t.n<=b.length) (hl:l.length<=1000000) (hb:x.t.bytes.length<=16777216) (hu:usedB (fsP l)<=16777216) (hnd:((fsP l).map (·.1)).Nodup):Ret Tryz.prog 103 #[.slice A l.length c,.agg (thC x).toArray] w (fun v w'=>(∃ (A':Option Addr) (c':Nat) (l':List (ByteArray×LB)) (F':Nat->Prop),v=.slice A' l'.length c'/\fsP l'=Dm.done (fsP l) x.t/\FsRow w' F' A' l'/\∀ k,F' k->F k\/w.heap.size<=k)/\Lk w' w NoB):=by
 haveI hrA:RowB w A w (l.flatMap fileC):=rowB_of h.row.row
 haveI hrx:RowB w x.A w (bytesC x.t.bytes):=rowB_of hx
 have hhw:(x.t.what=0\/x.t.what=1\/x.t.what=2):=hw
 refine ret_of_x (N:=95) (l:=[.slice A l.length c,.agg (thC x).toArray]) Tryz.func103 rfl rfl (Nat.le_of_ble_eq_true rfl) ?_
 refine xq ?_
 refine xl_e (e_box fun b1 w1 n1 l1 k1=>?_)
 refine xz ?_
 refine xq (xz ?_)
 refine xq (xz ?_)
 refine x_seq (xq (xz ?_))
 refine x_block ?_
 have hb1l:b1<(w1).heap.size:=Has.lt
 have hb1g:w.heap.size<=b1:=by rw [n1.eq];exact Nat.le_refl _
 have hb1w:=(Blk.eq:(w1).heap[b1]?=_)
 refine x_loop (fun m τ ds w'=>ds=[]/\∃ (k:Nat) (q:List (ByteArray×LB)) (nq:Nat) (A7:Option Addr) (cq:Nat) (F7:Nat->Prop) (there:Bool),m=l.length - k/\k<=l.length/\nq<=2*k/\fsP q++doneL x.t ((fsP l).drop k) there=Dm.done (fsP l) x.t/\DoneS w b1 F q nq A7 cq F7 w'/\w'.heap[b1]?=some (.cells (thC x).toArray 62 (0,0))/\Ev τ 0 (.slice A l.length c)/\Ev τ 3 (.pointer (some ⟨b1,0,none⟩))/\Ev τ 5 (.slice A7 nq cq)/\Ev τ 6 (.bool there)/\Ev τ 7 (.int .i64 (k:Int))/\Lk w' w NoB) (l.length) ?start ?round
 case start=>
  exact ⟨rfl,0,[],0,none,0,F,false,rfl,by omega,by simp,rfl,⟨rfl,World.ownsRow_nil _ _ _ _,nofun,fun j e=>⟨Nat.lt_of_lt_of_le (h.lt j e) Ge.le,.inl e,by have:=h.lt j e;omega,nofun⟩,fun j e=>e,nofun⟩,hb1w,ii,ii,ii,ii,evc,lkc⟩
 case round=>
  intro m τ2 ds2 w2 hI
  obtain ⟨rfl,k,q,nq,A7,cq,F7,there,rfl,hk,hql,hq,hS,hb1r,e0,e3,e5,e6,e7,lk⟩:=hI
  haveI:OwnI w2 A7 _ _ _ _ _ _ _:=⟨hS.own⟩
  haveI:NewA A7 w:=newA_of hS.own (Nat.le_refl _)
  haveI:Blk w2 b1 _:=⟨hb1r⟩
  haveI:=hS.notS
  have hb1B:b1<(w2).heap.size:=Has.lt
  refine x_seq (xq (xm (xm (xl_v v_len (xl_v v_lss (xl_nil ?_))))))
  refine x_if (fun c1=>?_) (fun c1=>?_)
  ·have hk1:k<l.length:=by omega
   have hdrop:(fsP l).drop k=(l[k].1,l[k].2.bytes) :: (fsP l).drop (k+1):=by
    rw [List.drop_eq_getElem_cons (by rw [fsP_len];exact hk1)]
    simp [fsP]
   rw [hdrop,done_round] at hq
   have hbk:l[k].2.bytes.length<=16777216:=by
    have:=le_sum ((fsP l).map (fun f=>f.2.length)) l[k].2.bytes.length (List.mem_map.2 ⟨(l[k].1,l[k].2.bytes),List.mem_map.2 ⟨l[k],List.getElem_mem hk1,rfl⟩,rfl⟩)
    have h2:usedB (fsP l)=((fsP l).map (fun f=>f.2.length)).sum:=rfl
    omega
   haveI hrk:RowB w l[k].2.A w (bytesC l[k].2.bytes):=rowB_of (h.items _ (List.getElem_mem hk1)).row
   refine x_skip (x_seq (x_block (x_seq (x_seq ?_))))
   refine x_drawL (NoB) (allS) (.take 0 (.take 1 (.take 2 (.take 3 (.take 4 (.take 5 (.take 6 (.take 7 (.take 8 (.take 9 (.take 10 (.take 11 (.take 12 (.take 13 (.take 14 (.take 15 (.take 16 .done))))))))))))))))) mixed (by kernel_rfl) (fun _ _ _ _ _ h=>h) (fun w3 l3=>?_)
   refine xt_v rfl v_move ?_
   refine xt_v rfl v_not ?_
   refine xt_v rfl v_move ?_
   refine xt_split 17 (fun g17=>?_) (fun g17=>?_)
   ·refine xt_gFb rfl rfl EvO.eq ?_
    refine xt_gLc rfl rfl EvO.eq ?_
    refine xt_gv rfl rfl EvO.eq v_eql ?_
    refine xt_Pk rfl ?_
    refine xt_v rfl v_move ?_
    refine xt_split 22 (fun g22=>?_) (fun g22=>?_)
    ·refine xt_gv rfl rfl EvO.eq v_move (xt_gv rfl rfl EvO.eq v_move ?_)
     refine xt_gv rfl rfl EvO.eq (v_indexF k (by decide) rfl (by omega) hk1) ?_
     refine xt_gFb rfl rfl EvO.eq ?_
     refine xt_gv rfl rfl EvO.eq (v_loadF0 hk1) ?_
     refine xt_gFb rfl rfl EvO.eq ?_
     refine xt_gLc rfl rfl EvO.eq ?_
     refine xt_gv rfl rfl EvO.eq (v_sgtr) ?_
     refine xt_Pk rfl ?_
     refine xt_nil ?_
     refine x_if (fun c2=>?_) (fun c2=>?_)
     ·refine x_seq ?_
      refine x_drawL (fun j=>OwnB (.slice A7 nq cq) j\/NewS w3 j) (allS) (.take 0 (.take 1 (.take 2 (.take 4 (.take 5 (.eff 3 (.eff 6 (.take 7 (.eff 8 (.eff 9 (.take 10 .done))))))))))) mixed (by kernel_rfl) (fun _ _ _ _ _ h=>h) (fun w4 l4=>?_)
      refine xt_v rfl v_move (xt_Fb rfl ?_)
      refine xt_Lc rfl ?_
      refine xt_Fb rfl ?_
      refine xt_Lc rfl ?_
      refine xt_e rfl (e_buildSlice0 fun b5 w5 n5 l5 k5=>?_)
      refine xt_e rfl (e_appE (by simp) (by decide) (by omega) (by omega) fun Ab cb w6 ob lb ab fb=>?_)
      refine xt_v rfl v_build ?_
      refine xt_e rfl (e_buildSlice1 rfl fun b7 w7 n7 l7 k7=>?_)
      have hSa:=hS.ext (kpc:Keep NoB w2 w7)
      have hba:=own_blk (OwnI.own:World.ownsRow w7 _ _ _ (.slice Ab _ cb) _ _)
      have hbr:=(ii:Row w7 Ab (bytesC x.t.bytes)).row
      have hbc:=own_cap (OwnI.own:World.ownsRow w7 _ _ _ (.slice Ab _ cb) _ _)
      refine xt_e rfl (e_app (by simp) (by decide) (by omega) (by omega) Ge.le fun Ad cd w8 od ld ad fd=>?_)
      have hnb:∀ a,Ab=some a->(w2).heap.size<=a.block:=fun a ha=>Nat.le_trans Ge.le (ab.le a ha)
      have hwB:=lk.keep.size
      have hS1:=hSa.app (p:=(x.t.name,⟨x.t.bytes,Ab,cb⟩)) (E:=blkP Ab) od.own ld.keep fd (Nat.lt_of_lt_of_le hb1B Ge.le) ⟨hbr,fun a ha=>⟨a,ha,rfl⟩⟩ hbc (by
       rintro j ⟨a,ha,rfl⟩
       have z1:=hnb a ha
       exact ⟨(hba a ha).2,.inr (by omega),by omega,fun b hb e=>by have:=(own_blk hS.own b hb).2;omega⟩)
      have hQ1:fsP (q++[(x.t.name,⟨x.t.bytes,Ab,cb⟩)])++((if l[k].1=x.t.name then x.t.of (l[k].1,l[k].2.bytes) else [(l[k].1,l[k].2.bytes)])++doneL x.t ((fsP l).drop (k+1)) (true || decide (l[k].1=x.t.name)))=Dm.done (fsP l) x.t:=by
       have z1:there=false:=by simpa using g17
       have z2:x.t.what=0:=by simpa using g22
       rw [if_pos ⟨z1,z2,c2⟩,decide_eq_true (show x.t.what=0/\blt x.t.name l[k].1 from ⟨z2,c2⟩),z1] at hq
       rw [fsP_snoc,<- hq]
       simp
      have hn1:nq+1<=2*k+1:=by omega
      refine xt_v rfl v_assign (xt_nil ?_)
      refine x_regionL (xz ?_)
      refine x_seq ?_
      (have hdummy:=hQ1)
      haveI:=hS1.notS
      haveI:=newA_of hS1.own (Nat.le_refl _)
      haveI:OwnI w8 _ _ _ _ _ _ _ _:=⟨hS1.own⟩
      have hwB9:=lk.keep.size
      obtain ⟨wN,hwN⟩:∃ wN,wN=w8:=⟨_,rfl⟩
      refine x_regionL (xm (xm ?_))
      refine xl_v (v_indexF k (by decide) rfl (by omega) hk1) ?_
      refine xl_Lb ?_
      refine xl_e (e_alloc fun b8 w9 n8 l8 k8=>?_)
      refine xl_s (e_storeA fun w10 l10 k10=>?_)
      refine xl_nil ?_
      refine x_seq (xq (xl_Fb ?_))
      refine xl_Lc ?_
      refine xl_Fb ?_
      refine xl_Lc ?_
      refine xl_v v_seql (xl_nil ?_)
      refine x_if (fun c3=>?_) (fun c3=>?_)
      ·rw [if_pos c3,decide_eq_true c3,Bool.or_true] at hQ1
       have hkey:akey (fsP l) x.t.name=some l[k].2.bytes:=(akey_mem hnd).2 (by rw [<- c3];exact List.mem_map.2 ⟨l[k],List.getElem_mem hk1,rfl⟩)
       refine xq (xz ?_)
       refine xq (xl_Fb ?_)
       refine xl_Lc ?_
       refine xl_nil ?_
       refine x_block (xq (xl_v v_eql (xz ?_)))
       refine x_if (fun c4=>?_) (fun c4=>?_)
       ·rw [Thing.of,if_pos c4] at hQ1
        refine x_drawL (fun j=>NewS w10 j\/OneB b8 j) (allS) (.take 1 (.take 4 (.take 5 (.fork 0 (.eff 2 (.eff 3 (.eff 6 (.take 7 (.last 8))))) 2 (.eff 0 (.eff 3 (.eff 6 (.take 7 (.last 8))))))))) mixed (by kernel_rfl) (fun _ _ _ _ _ h=>h) (fun w11 l11=>?_)
        refine xt_Fb rfl ?_
        refine xt_Fb rfl ?_
        refine xt_Lc rfl ?_
        refine xt_fork ?_ ?_
        ·refine xt_e rfl (e_buildSlice0 fun b12 w12 n12 l12 k12=>?_)
         refine xt_e rfl (e_v (v_load (r:=none)) ?_)
         refine xt_e rfl (e_appE (by simp) (by decide) (by omega) (by omega) fun Ae ce w13 oe le ae fe=>?_)
         refine xt_e rfl (e_app (by simp) (by decide) (by omega) (by omega) Ge.le fun Ac cc w14 oc lc ac fc=>?_)
         refine xt_Fb rfl ?_
         refine xt_lastS rfl (e_store fun w15 l15 k15=>?_)
         refine x_regionL (xm (xl_Lb ?_))
         refine xl_e (e_buildSlice1 rfl fun b16 w16 n16 l16 k16=>?_)
         have hSz:=hS1.ext (kpc:Keep NoB _ w16)
         have hb1z:b1<(w16).heap.size:=Nat.lt_of_lt_of_le hb1B Ge.le
         have hszF:=hSz.outF h.lt hb1g Ge.le
         have hrz:=(h.items _ (List.getElem_mem hk1)).keep (kpc:Keep NoB w w16) (fun _ _ e=>e)
         have hcz:=h.caps _ (List.getElem_mem hk1)
         (have hoc:=(OwnI.own:World.ownsRow w16 _ _ _ (.slice Ac _ cc) _ _)
          have hcr:RowP w16 Ac (bytesC (l[k].2.bytes++x.t.bytes)):=by
           have:=(ii:Row w16 Ac (bytesC l[k].2.bytes++bytesC x.t.bytes)).row
           rwa [bytesC_append] at this
          have hca:=own_blk hoc
          have hcc2:=own_cap hoc
          have hnc:∀ a,Ac=some a->b1<a.block/\w.heap.size<=a.block:=fun a ha=>⟨Nat.lt_of_lt_of_le hb1B (Nat.le_trans Ge.le (ac.le a ha)),Nat.le_trans Ge.le (ac.le a ha)⟩)
         refine xl_e (e_app (by simp) (by decide) (by omega) (by omega) Ge.le fun Ag cg w17 og lg ag fg=>?_)
         (have hS4:=hSz.app (p:=(l[k].1,⟨l[k].2.bytes++x.t.bytes,Ac,cc⟩)) (E:=blkP Ac) (by have z:=og.own;rw [<- List.length_append] at z;exact z) lg.keep fg hb1z ⟨hcr,fun a ha=>⟨a,ha,rfl⟩⟩ (by simpa using hcc2) (by
           rintro j ⟨a,ha,rfl⟩
           obtain ⟨z1,z2⟩:=hnc a ha
           exact ⟨(hca a ha).2,.inr z2,by omega,fun b hb e=>by
            have z3:=Nat.lt_of_lt_of_le (own_blk hS1.own b hb).2 (Nat.le_trans Ge.le (ac.le a ha))
            omega⟩)
          have hQ4:=done_push _ (l[k].1,(⟨l[k].2.bytes++x.t.bytes,Ac,cc⟩:LB)) _ _ hQ1)
         have hn4:=Nat.succ_le_succ hn1
         refine xz ?_
         refine x_regionL (xm ?_)
         refine xl_v (v_add (by omega)) ?_
         refine xz ?_
         refine ⟨_,?_,rfl,k+1,_,_,_,_,_,_,rfl,by omega,hn4,hQ4,hS4,Blk.eq,ii,ii,ii,ii,evc,lkc⟩
         omega
        refine xt_e rfl (e_v (v_load (r:=none)) ?_)
        refine xt_e rfl (e_buildSlice0 fun b18 w18 n18 l18 k18=>?_)
        refine xt_e rfl (e_appE (by simp) (by decide) (by omega) (by omega) fun Ae ce w19 oe le ae fe=>?_)
        refine xt_e rfl (e_app (by simp) (by decide) (by omega) (by omega) Ge.le fun Ac cc w20 oc lc ac fc=>?_)
        refine xt_Fb rfl ?_
        refine xt_lastS rfl (e_store fun w21 l21 k21=>?_)
        refine x_regionL (xm (xl_Lb ?_))
        refine xl_e (e_buildSlice1 rfl fun b22 w22 n22 l22 k22=>?_)
        have hSz:=hS1.ext (kpc:Keep NoB _ w22)
        have hb1z:b1<(w22).heap.size:=Nat.lt_of_lt_of_le hb1B Ge.le
        have hszF:=hSz.outF h.lt hb1g Ge.le
        have hrz:=(h.items _ (List.getElem_mem hk1)).keep (kpc:Keep NoB w w22) (fun _ _ e=>e)
        have hcz:=h.caps _ (List.getElem_mem hk1)
        (have hoc:=(OwnI.own:World.ownsRow w22 _ _ _ (.slice Ac _ cc) _ _)
         have hcr:RowP w22 Ac (bytesC (l[k].2.bytes++x.t.bytes)):=by
          have:=(ii:Row w22 Ac (bytesC l[k].2.bytes++bytesC x.t.bytes)).row
          rwa [bytesC_append] at this
         have hca:=own_blk hoc
         have hcc2:=own_cap hoc
         have hnc:∀ a,Ac=some a->b1<a.block/\w.heap.size<=a.block:=fun a ha=>⟨Nat.lt_of_lt_of_le hb1B (Nat.le_trans Ge.le (ac.le a ha)),Nat.le_trans Ge.le (ac.le a ha)⟩)
        refine xl_e (e_app (by simp) (by decide) (by omega) (by omega) Ge.le fun Ag cg w23 og lg ag fg=>?_)
        (have hS4:=hSz.app (p:=(l[k].1,⟨l[k].2.bytes++x.t.bytes,Ac,cc⟩)) (E:=blkP Ac) (by have z:=og.own;rw [<- List.length_append] at z;exact z) lg.keep fg hb1z ⟨hcr,fun a ha=>⟨a,ha,rfl⟩⟩ (by simpa using hcc2) (by
          rintro j ⟨a,ha,rfl⟩
          obtain ⟨z1,z2⟩:=hnc a ha
          exact ⟨(hca a ha).2,.inr z2,by omega,fun b hb e=>by
           have z3:=Nat.lt_of_lt_of_le (own_blk hS1.own b hb).2 (Nat.le_trans Ge.le (ac.le a ha))
           omega⟩)
         have hQ4:=done_push _ (l[k].1,(⟨l[k].2.bytes++x.t.bytes,Ac,cc⟩:LB)) _ _ hQ1)
        have hn4:=Nat.succ_le_succ hn1
        refine xz ?_
        refine x_regionL (xm ?_)
        refine xl_v (v_add (by omega)) ?_
        refine xz ?_
        refine ⟨_,?_,rfl,k+1,_,_,_,_,_,_,rfl,by omega,hn4,hQ4,hS4,Blk.eq,ii,ii,ii,ii,evc,lkc⟩
        omega
       rw [Thing.of,if_neg c4] at hQ1
       refine xq (xl_v v_eql (xz ?_))
       refine x_if (fun c5=>?_) (fun c5=>?_)
       ·rw [if_pos c5] at hQ1
        obtain ⟨hN0,hN1⟩:=hcut c5 _ hkey
        have hNt:x.t.n=((x.t.n.toNat:Nat):Int):=by omega
        refine x_regionL (xl_Fb ?_)
        refine xl_Lc ?_
        refine xl_Fb ?_
        refine xl_Lc ?_
        refine xl_v (v_sliceH x.t.n.toNat hNt (by have:=h.caps _ (List.getElem_mem hk1);omega)) ?_
        refine xl_Fb ?_
        refine xl_s (e_store fun w24 l24 k24=>?_)
        refine xl_nil ?_
        refine x_regionL (xm (xl_Lb ?_))
        refine xl_e (e_buildSlice1 rfl fun b25 w25 n25 l25 k25=>?_)
        have hSz:=hS1.ext (kpc:Keep NoB _ w25)
        have hb1z:b1<(w25).heap.size:=Nat.lt_of_lt_of_le hb1B Ge.le
        have hszF:=hSz.outF h.lt hb1g Ge.le
        have hrz:=(h.items _ (List.getElem_mem hk1)).keep (kpc:Keep NoB w w25) (fun _ _ e=>e)
        have hcz:=h.caps _ (List.getElem_mem hk1)
        first
         | (have hoc:=(OwnI.own:World.ownsRow w25 _ _ _ (.slice Ac _ cc) _ _)
            have hcr:RowP w25 Ac (bytesC (l[k].2.bytes++x.t.bytes)):=by
             have:=(ii:Row w25 Ac (bytesC l[k].2.bytes++bytesC x.t.bytes)).row
             rwa [bytesC_append] at this
            have hca:=own_blk hoc
            have hcc2:=own_cap hoc
            have hnc:∀ a,Ac=some a->b1<a.block/\w.heap.size<=a.block:=fun a ha=>⟨Nat.lt_of_lt_of_le hb1B (Nat.le_trans Ge.le (ac.le a ha)),Nat.le_trans Ge.le (ac.le a ha)⟩)
         | skip
        refine xl_e (e_app (by simp) (by decide) (by omega) (by omega) Ge.le fun Ag cg w26 og lg ag fg=>?_)
        first
         | (have hS4:=hSz.app (p:=(l[k].1,⟨l[k].2.bytes++x.t.bytes,Ac,cc⟩)) (E:=blkP Ac) (by have z:=og.own;rw [<- List.length_append] at z;exact z) lg.keep fg hb1z ⟨hcr,fun a ha=>⟨a,ha,rfl⟩⟩ (by simpa using hcc2) (by
             rintro j ⟨a,ha,rfl⟩
             obtain ⟨z1,z2⟩:=hnc a ha
             exact ⟨(hca a ha).2,.inr z2,by omega,fun b hb e=>by
              have z3:=Nat.lt_of_lt_of_le (own_blk hS1.own b hb).2 (Nat.le_trans Ge.le (ac.le a ha))
              omega⟩)
            have hQ4:=done_push _ (l[k].1,(⟨l[k].2.bytes++x.t.bytes,Ac,cc⟩:LB)) _ _ hQ1)
         | (have hbt:(l[k].2.bytes.take x.t.n.toNat).length=x.t.n.toNat:=by simp;omega
            have hS4:=hSz.app (p:=(l[k].1,⟨l[k].2.bytes.take x.t.n.toNat,l[k].2.A,l[k].2.c⟩)) (E:=F) (by have z:=og.own;rw [<- hbt] at z;exact z) lg.keep fg hb1z ⟨rowP_bytes _ hrz.row,hrz.blk⟩ (by show (l[k].2.bytes.take x.t.n.toNat).length<=l[k].2.c;omega) hszF
            have hQ4:=done_push _ (l[k].1,(⟨l[k].2.bytes.take x.t.n.toNat,l[k].2.A,l[k].2.c⟩:LB)) _ _ hQ1)
        have hn4:=Nat.succ_le_succ hn1
        refine xz ?_
        refine x_regionL (xm ?_)
        refine xl_v (v_add (by omega)) ?_
        refine xz ?_
        refine ⟨_,?_,rfl,k+1,_,_,_,_,_,_,rfl,by omega,hn4,hQ4,hS4,Blk.eq,ii,ii,ii,ii,evc,lkc⟩
        omega
       rw [if_neg c5] at hQ1
       refine xq (xl_v v_eql (xz ?_))
       refine x_if (fun c6=>?_) (fun c6=>?_)
       ·rw [if_pos c6,List.nil_append] at hQ1
        have hS4:=hS1.ext (kpc:Keep NoB _ w10)
        have hQ4:=hQ1
        have hn4:=Nat.le_succ_of_le hn1
        refine x_exit (x_regionL (xm ?_))
        refine xl_v (v_add (by omega)) ?_
        refine xz ?_
        refine ⟨_,?_,rfl,k+1,_,_,_,_,_,_,rfl,by omega,hn4,hQ4,hS4,Blk.eq,ii,ii,ii,ii,evc,lkc⟩
        omega
       exfalso
       omega
      rw [if_neg c3,decide_eq_false c3,Bool.or_false] at hQ1
      refine x_skip (x_regionL (xm (xl_Lb ?_)))
      refine xl_e (e_buildSlice1 rfl fun b27 w27 n27 l27 k27=>?_)
      have hSz:=hS1.ext (kpc:Keep NoB _ w27)
      have hb1z:b1<(w27).heap.size:=Nat.lt_of_lt_of_le hb1B Ge.le
      have hszF:=hSz.outF h.lt hb1g Ge.le
      have hrz:=(h.items _ (List.getElem_mem hk1)).keep (kpc:Keep NoB w w27) (fun _ _ e=>e)
      have hcz:=h.caps _ (List.getElem_mem hk1)
      first
       | (have hoc:=(OwnI.own:World.ownsRow w27 _ _ _ (.slice Ac _ cc) _ _)
          have hcr:RowP w27 Ac (bytesC (l[k].2.bytes++x.t.bytes)):=by
           have:=(ii:Row w27 Ac (bytesC l[k].2.bytes++bytesC x.t.bytes)).row
           rwa [bytesC_append] at this
          have hca:=own_blk hoc
          have hcc2:=own_cap hoc
          have hnc:∀ a,Ac=some a->b1<a.block/\w.heap.size<=a.block:=fun a ha=>⟨Nat.lt_of_lt_of_le hb1B (Nat.le_trans Ge.le (ac.le a ha)),Nat.le_trans Ge.le (ac.le a ha)⟩)
       | skip
      refine xl_e (e_app (by simp) (by decide) (by omega) (by omega) Ge.le fun Ag cg w28 og lg ag fg=>?_)
      first
       | (have hS4:=hSz.app (p:=(l[k].1,⟨l[k].2.bytes++x.t.bytes,Ac,cc⟩)) (E:=blkP Ac) (by have z:=og.own;rw [<- List.length_append] at z;exact z) lg.keep fg hb1z ⟨hcr,fun a ha=>⟨a,ha,rfl⟩⟩ (by simpa using hcc2) (by
           rintro j ⟨a,ha,rfl⟩
           obtain ⟨z1,z2⟩:=hnc a ha
           exact ⟨(hca a ha).2,.inr z2,by omega,fun b hb e=>by
            have z3:=Nat.lt_of_lt_of_le (own_blk hS1.own b hb).2 (Nat.le_trans Ge.le (ac.le a ha))
            omega⟩)
          have hQ4:=done_push _ (l[k].1,(⟨l[k].2.bytes++x.t.bytes,Ac,cc⟩:LB)) _ _ hQ1)
       | (have hbt:(l[k].2.bytes.take x.t.n.toNat).length=x.t.n.toNat:=by simp;omega
          have hS4:=hSz.app (p:=(l[k].1,⟨l[k].2.bytes.take x.t.n.toNat,l[k].2.A,l[k].2.c⟩)) (E:=F) (by have z:=og.own;rw [<- hbt] at z;exact z) lg.keep fg hb1z ⟨rowP_bytes _ hrz.row,hrz.blk⟩ (by show (l[k].2.bytes.take x.t.n.toNat).length<=l[k].2.c;omega) hszF
          have hQ4:=done_push _ (l[k].1,(⟨l[k].2.bytes.take x.t.n.toNat,l[k].2.A,l[k].2.c⟩:LB)) _ _ hQ1)
       | (have hS4:=hSz.app (p:=l[k]) (E:=F) og.own lg.keep fg hb1z hrz hcz hszF
          have hQ4:=done_push _ l[k] _ _ hQ1)
      have hn4:=Nat.succ_le_succ hn1
      refine xz ?_
      refine x_regionL (xm ?_)
      refine xl_v (v_add (by omega)) ?_
      refine xz ?_
      refine ⟨_,?_,rfl,k+1,_,_,_,_,_,_,rfl,by omega,hn4,hQ4,hS4,Blk.eq,ii,ii,ii,ii,evc,lkc⟩
      omega
     refine x_skip (x_seq ?_)
     first
      | (have hdummy:=hQ1)
      | (have hno:¬ (there=false/\x.t.what=0/\blt x.t.name l[k].1):=by
          rintro ⟨z1,z2,z3⟩
          first
           | (simp [z1] at g17;done)
           | (simp [z2] at g22;done)
           | exact c2 z3
         have hfl:(there || decide (x.t.what=0/\blt x.t.name l[k].1))=there:=by
          cases there with
          | true=>rfl
          | false=>simpa using fun z2 z3=>hno ⟨rfl,z2,z3⟩
         rw [if_neg hno,List.nil_append,hfl] at hq
         have hQ1:=hq
         have hS1:=hS.ext (kpc:Keep NoB w2 w3)
         have hn1:nq<=2*k+1:=by omega)
     haveI:=hS1.notS
     haveI:=newA_of hS1.own (Nat.le_refl _)
     haveI:OwnI w3 _ _ _ _ _ _ _ _:=⟨hS1.own⟩
     have hwB9:=lk.keep.size
     obtain ⟨wN,hwN⟩:∃ wN,wN=w3:=⟨_,rfl⟩
     refine x_regionL (xm (xm ?_))
     refine xl_v (v_indexF k (by decide) rfl (by omega) hk1) ?_
     refine xl_Lb ?_
     refine xl_e (e_alloc fun b8 w29 n8 l8 k8=>?_)
     refine xl_s (e_storeA fun w30 l30 k30=>?_)
     refine xl_nil ?_
     refine x_seq (xq (xl_Fb ?_))
     refine xl_Lc ?_
     refine xl_Fb ?_
     refine xl_Lc ?_
     refine xl_v v_seql (xl_nil ?_)
     refine x_if (fun c3=>?_) (fun c3=>?_)
     ·rw [if_pos c3,decide_eq_true c3,Bool.or_true] at hQ1
      have hkey:akey (fsP l) x.t.name=some l[k].2.bytes:=(akey_mem hnd).2 (by rw [<- c3];exact List.mem_map.2 ⟨l[k],List.getElem_mem hk1,rfl⟩)
      refine xq (xz ?_)
      refine xq (xl_Fb ?_)
      refine xl_Lc ?_
      refine xl_nil ?_
      refine x_block (xq (xl_v v_eql (xz ?_)))
      refine x_if (fun c4=>?_) (fun c4=>?_)
      ·rw [Thing.of,if_pos c4] at hQ1
       refine x_drawL (fun j=>NewS w30 j\/OneB b8 j) (allS) (.take 1 (.take 4 (.take 5 (.fork 0 (.eff 2 (.eff 3 (.eff 6 (.take 7 (.last 8))))) 2 (.eff 0 (.eff 3 (.eff 6 (.take 7 (.last 8))))))))) mixed (by kernel_rfl) (fun _ _ _ _ _ h=>h) (fun w31 l31=>?_)
       refine xt_Fb rfl ?_
       refine xt_Fb rfl ?_
       refine xt_Lc rfl ?_
       refine xt_fork ?_ ?_
       ·refine xt_e rfl (e_buildSlice0 fun b32 w32 n32 l32 k32=>?_)
        refine xt_e rfl (e_v (v_load (r:=none)) ?_)
        refine xt_e rfl (e_appE (by simp) (by decide) (by omega) (by omega) fun Ae ce w33 oe le ae fe=>?_)
        refine xt_e rfl (e_app (by simp) (by decide) (by omega) (by omega) Ge.le fun Ac cc w34 oc lc ac fc=>?_)
        refine xt_Fb rfl ?_
        refine xt_lastS rfl (e_store fun w35 l35 k35=>?_)
        refine x_regionL (xm (xl_Lb ?_))
        refine xl_e (e_buildSlice1 rfl fun b36 w36 n36 l36 k36=>?_)
        have hSz:=hS1.ext (kpc:Keep NoB _ w36)
        have hb1z:b1<(w36).heap.size:=Nat.lt_of_lt_of_le hb1B Ge.le
        have hszF:=hSz.outF h.lt hb1g Ge.le
        have hrz:=(h.items _ (List.getElem_mem hk1)).keep (kpc:Keep NoB w w36) (fun _ _ e=>e)
        have hcz:=h.caps _ (List.getElem_mem hk1)
        (have hoc:=(OwnI.own:World.ownsRow w36 _ _ _ (.slice Ac _ cc) _ _)
         have hcr:RowP w36 Ac (bytesC (l[k].2.bytes++x.t.bytes)):=by
          have:=(ii:Row w36 Ac (bytesC l[k].2.bytes++bytesC x.t.bytes)).row
          rwa [bytesC_append] at this
         have hca:=own_blk hoc
         have hcc2:=own_cap hoc
         have hnc:∀ a,Ac=some a->b1<a.block/\w.heap.size<=a.block:=fun a ha=>⟨Nat.lt_of_lt_of_le hb1B (Nat.le_trans Ge.le (ac.le a ha)),Nat.le_trans Ge.le (ac.le a ha)⟩)
        refine xl_e (e_app (by simp) (by decide) (by omega) (by omega) Ge.le fun Ag cg w37 og lg ag fg=>?_)
        (have hS4:=hSz.app (p:=(l[k].1,⟨l[k].2.bytes++x.t.bytes,Ac,cc⟩)) (E:=blkP Ac) (by have z:=og.own;rw [<- List.length_append] at z;exact z) lg.keep fg hb1z ⟨hcr,fun a ha=>⟨a,ha,rfl⟩⟩ (by simpa using hcc2) (by
          rintro j ⟨a,ha,rfl⟩
          obtain ⟨z1,z2⟩:=hnc a ha
          exact ⟨(hca a ha).2,.inr z2,by omega,fun b hb e=>by
           have z3:=Nat.lt_of_lt_of_le (own_blk hS1.own b hb).2 (Nat.le_trans Ge.le (ac.le a ha))
           omega⟩)
         have hQ4:=done_push _ (l[k].1,(⟨l[k].2.bytes++x.t.bytes,Ac,cc⟩:LB)) _ _ hQ1)
        have hn4:=Nat.succ_le_succ hn1
        refine xz ?_
        refine x_regionL (xm ?_)
        refine xl_v (v_add (by omega)) ?_
        refine xz ?_
        refine ⟨_,?_,rfl,k+1,_,_,_,_,_,_,rfl,by omega,hn4,hQ4,hS4,Blk.eq,ii,ii,ii,ii,evc,lkc⟩
        omega
       refine xt_e rfl (e_v (v_load (r:=none)) ?_)
       refine xt_e rfl (e_buildSlice0 fun b38 w38 n38 l38 k38=>?_)
       refine xt_e rfl (e_appE (by simp) (by decide) (by omega) (by omega) fun Ae ce w39 oe le ae fe=>?_)
       refine xt_e rfl (e_app (by simp) (by decide) (by omega) (by omega) Ge.le fun Ac cc w40 oc lc ac fc=>?_)
       refine xt_Fb rfl ?_
       refine xt_lastS rfl (e_store fun w41 l41 k41=>?_)
       refine x_regionL (xm (xl_Lb ?_))
       refine xl_e (e_buildSlice1 rfl fun b42 w42 n42 l42 k42=>?_)
       have hSz:=hS1.ext (kpc:Keep NoB _ w42)
       have hb1z:b1<(w42).heap.size:=Nat.lt_of_lt_of_le hb1B Ge.le
       have hszF:=hSz.outF h.lt hb1g Ge.le
       have hrz:=(h.items _ (List.getElem_mem hk1)).keep (kpc:Keep NoB w w42) (fun _ _ e=>e)
       have hcz:=h.caps _ (List.getElem_mem hk1)
       (have hoc:=(OwnI.own:World.ownsRow w42 _ _ _ (.slice Ac _ cc) _ _)
        have hcr:RowP w42 Ac (bytesC (l[k].2.bytes++x.t.bytes)):=by
         have:=(ii:Row w42 Ac (bytesC l[k].2.bytes++bytesC x.t.bytes)).row
         rwa [bytesC_append] at this
        have hca:=own_blk hoc
        have hcc2:=own_cap hoc
        have hnc:∀ a,Ac=some a->b1<a.block/\w.heap.size<=a.block:=fun a ha=>⟨Nat.lt_of_lt_of_le hb1B (Nat.le_trans Ge.le (ac.le a ha)),Nat.le_trans Ge.le (ac.le a ha)⟩)
       refine xl_e (e_app (by simp) (by decide) (by omega) (by omega) Ge.le fun Ag cg w43 og lg ag fg=>?_)
       (have hS4:=hSz.app (p:=(l[k].1,⟨l[k].2.bytes++x.t.bytes,Ac,cc⟩)) (E:=blkP Ac) (by have z:=og.own;rw [<- List.length_append] at z;exact z) lg.keep fg hb1z ⟨hcr,fun a ha=>⟨a,ha,rfl⟩⟩ (by simpa using hcc2) (by
         rintro j ⟨a,ha,rfl⟩
         obtain ⟨z1,z2⟩:=hnc a ha
         exact ⟨(hca a ha).2,.inr z2,by omega,fun b hb e=>by
          have z3:=Nat.lt_of_lt_of_le (own_blk hS1.own b hb).2 (Nat.le_trans Ge.le (ac.le a ha))
          omega⟩)
        have hQ4:=done_push _ (l[k].1,(⟨l[k].2.bytes++x.t.bytes,Ac,cc⟩:LB)) _ _ hQ1)
       have hn4:=Nat.succ_le_succ hn1
       refine xz ?_
       refine x_regionL (xm ?_)
       refine xl_v (v_add (by omega)) ?_
       refine xz ?_
       refine ⟨_,?_,rfl,k+1,_,_,_,_,_,_,rfl,by omega,hn4,hQ4,hS4,Blk.eq,ii,ii,ii,ii,evc,lkc⟩
       omega
      rw [Thing.of,if_neg c4] at hQ1
      refine xq (xl_v v_eql (xz ?_))
      refine x_if (fun c5=>?_) (fun c5=>?_)
      ·rw [if_pos c5] at hQ1
       obtain ⟨hN0,hN1⟩:=hcut c5 _ hkey
       have hNt:x.t.n=((x.t.n.toNat:Nat):Int):=by omega
       refine x_regionL (xl_Fb ?_)
       refine xl_Lc ?_
       refine xl_Fb ?_
       refine xl_Lc ?_
       refine xl_v (v_sliceH x.t.n.toNat hNt (by have:=h.caps _ (List.getElem_mem hk1);omega)) ?_
       refine xl_Fb ?_
       refine xl_s (e_store fun w44 l44 k44=>?_)
       refine xl_nil ?_
       refine x_regionL (xm (xl_Lb ?_))
       refine xl_e (e_buildSlice1 rfl fun b45 w45 n45 l45 k45=>?_)
       have hSz:=hS1.ext (kpc:Keep NoB _ w45)
       have hb1z:b1<(w45).heap.size:=Nat.lt_of_lt_of_le hb1B Ge.le
       have hszF:=hSz.outF h.lt hb1g Ge.le
       have hrz:=(h.items _ (List.getElem_mem hk1)).keep (kpc:Keep NoB w w45) (fun _ _ e=>e)
       have hcz:=h.caps _ (List.getElem_mem hk1)
       first
        | (have hoc:=(OwnI.own:World.ownsRow w45 _ _ _ (.slice Ac _ cc) _ _)
           have hcr:RowP w45 Ac (bytesC (l[k].2.bytes++x.t.bytes)):=by
            have:=(ii:Row w45 Ac (bytesC l[k].2.bytes++bytesC x.t.bytes)).row
            rwa [bytesC_append] at this
           have hca:=own_blk hoc
           have hcc2:=own_cap hoc
           have hnc:∀ a,Ac=some a->b1<a.block/\w.heap.size<=a.block:=fun a ha=>⟨Nat.lt_of_lt_of_le hb1B (Nat.le_trans Ge.le (ac.le a ha)),Nat.le_trans Ge.le (ac.le a ha)⟩)
        | skip
       refine xl_e (e_app (by simp) (by decide) (by omega) (by omega) Ge.le fun Ag cg w46 og lg ag fg=>?_)
       first
        | (have hS4:=hSz.app (p:=(l[k].1,⟨l[k].2.bytes++x.t.bytes,Ac,cc⟩)) (E:=blkP Ac) (by have z:=og.own;rw [<- List.length_append] at z;exact z) lg.keep fg hb1z ⟨hcr,fun a ha=>⟨a,ha,rfl⟩⟩ (by simpa using hcc2) (by
            rintro j ⟨a,ha,rfl⟩
            obtain ⟨z1,z2⟩:=hnc a ha
            exact ⟨(hca a ha).2,.inr z2,by omega,fun b hb e=>by
             have z3:=Nat.lt_of_lt_of_le (own_blk hS1.own b hb).2 (Nat.le_trans Ge.le (ac.le a ha))
             omega⟩)
           have hQ4:=done_push _ (l[k].1,(⟨l[k].2.bytes++x.t.bytes,Ac,cc⟩:LB)) _ _ hQ1)
        | (have hbt:(l[k].2.bytes.take x.t.n.toNat).length=x.t.n.toNat:=by simp;omega
           have hS4:=hSz.app (p:=(l[k].1,⟨l[k].2.bytes.take x.t.n.toNat,l[k].2.A,l[k].2.c⟩)) (E:=F) (by have z:=og.own;rw [<- hbt] at z;exact z) lg.keep fg hb1z ⟨rowP_bytes _ hrz.row,hrz.blk⟩ (by show (l[k].2.bytes.take x.t.n.toNat).length<=l[k].2.c;omega) hszF
           have hQ4:=done_push _ (l[k].1,(⟨l[k].2.bytes.take x.t.n.toNat,l[k].2.A,l[k].2.c⟩:LB)) _ _ hQ1)
       have hn4:=Nat.succ_le_succ hn1
       refine xz ?_
       refine x_regionL (xm ?_)
       refine xl_v (v_add (by omega)) ?_
       refine xz ?_
       refine ⟨_,?_,rfl,k+1,_,_,_,_,_,_,rfl,by omega,hn4,hQ4,hS4,Blk.eq,ii,ii,ii,ii,evc,lkc⟩
       omega
      rw [if_neg c5] at hQ1
      refine xq (xl_v v_eql (xz ?_))
      refine x_if (fun c6=>?_) (fun c6=>?_)
      ·rw [if_pos c6,List.nil_append] at hQ1
       have hS4:=hS1.ext (kpc:Keep NoB _ w30)
       have hQ4:=hQ1
       have hn4:=Nat.le_succ_of_le hn1
       refine x_exit (x_regionL (xm ?_))
       refine xl_v (v_add (by omega)) ?_
       refine xz ?_
       refine ⟨_,?_,rfl,k+1,_,_,_,_,_,_,rfl,by omega,hn4,hQ4,hS4,Blk.eq,ii,ii,ii,ii,evc,lkc⟩
       omega
      exfalso
      omega
     rw [if_neg c3,decide_eq_false c3,Bool.or_false] at hQ1
     refine x_skip (x_regionL (xm (xl_Lb ?_)))
     refine xl_e (e_buildSlice1 rfl fun b47 w47 n47 l47 k47=>?_)
     have hSz:=hS1.ext (kpc:Keep NoB _ w47)
     have hb1z:b1<(w47).heap.size:=Nat.lt_of_lt_of_le hb1B Ge.le
     have hszF:=hSz.outF h.lt hb1g Ge.le
     have hrz:=(h.items _ (List.getElem_mem hk1)).keep (kpc:Keep NoB w w47) (fun _ _ e=>e)
     have hcz:=h.caps _ (List.getElem_mem hk1)
     first
      | (have hoc:=(OwnI.own:World.ownsRow w47 _ _ _ (.slice Ac _ cc) _ _)
         have hcr:RowP w47 Ac (bytesC (l[k].2.bytes++x.t.bytes)):=by
          have:=(ii:Row w47 Ac (bytesC l[k].2.bytes++bytesC x.t.bytes)).row
          rwa [bytesC_append] at this
         have hca:=own_blk hoc
         have hcc2:=own_cap hoc
         have hnc:∀ a,Ac=some a->b1<a.block/\w.heap.size<=a.block:=fun a ha=>⟨Nat.lt_of_lt_of_le hb1B (Nat.le_trans Ge.le (ac.le a ha)),Nat.le_trans Ge.le (ac.le a ha)⟩)
      | skip
     refine xl_e (e_app (by simp) (by decide) (by omega) (by omega) Ge.le fun Ag cg w48 og lg ag fg=>?_)
     first
      | (have hS4:=hSz.app (p:=(l[k].1,⟨l[k].2.bytes++x.t.bytes,Ac,cc⟩)) (E:=blkP Ac) (by have z:=og.own;rw [<- List.length_append] at z;exact z) lg.keep fg hb1z ⟨hcr,fun a ha=>⟨a,ha,rfl⟩⟩ (by simpa using hcc2) (by
          rintro j ⟨a,ha,rfl⟩
          obtain ⟨z1,z2⟩:=hnc a ha
          exact ⟨(hca a ha).2,.inr z2,by omega,fun b hb e=>by
           have z3:=Nat.lt_of_lt_of_le (own_blk hS1.own b hb).2 (Nat.le_trans Ge.le (ac.le a ha))
           omega⟩)
         have hQ4:=done_push _ (l[k].1,(⟨l[k].2.bytes++x.t.bytes,Ac,cc⟩:LB)) _ _ hQ1)
      | (have hbt:(l[k].2.bytes.take x.t.n.toNat).length=x.t.n.toNat:=by simp;omega
         have hS4:=hSz.app (p:=(l[k].1,⟨l[k].2.bytes.take x.t.n.toNat,l[k].2.A,l[k].2.c⟩)) (E:=F) (by have z:=og.own;rw [<- hbt] at z;exact z) lg.keep fg hb1z ⟨rowP_bytes _ hrz.row,hrz.blk⟩ (by show (l[k].2.bytes.take x.t.n.toNat).length<=l[k].2.c;omega) hszF
         have hQ4:=done_push _ (l[k].1,(⟨l[k].2.bytes.take x.t.n.toNat,l[k].2.A,l[k].2.c⟩:LB)) _ _ hQ1)
      | (have hS4:=hSz.app (p:=l[k]) (E:=F) og.own lg.keep fg hb1z hrz hcz hszF
         have hQ4:=done_push _ l[k] _ _ hQ1)
     have hn4:=Nat.succ_le_succ hn1
     refine xz ?_
     refine x_regionL (xm ?_)
     refine xl_v (v_add (by omega)) ?_
     refine xz ?_
     refine ⟨_,?_,rfl,k+1,_,_,_,_,_,_,rfl,by omega,hn4,hQ4,hS4,Blk.eq,ii,ii,ii,ii,evc,lkc⟩
     omega
    refine xt_gs rfl rfl EvO.eq (xt_gs rfl rfl EvO.eq (xt_gs rfl rfl EvO.eq (xt_gs rfl rfl EvO.eq (xt_gs rfl rfl EvO.eq (xt_gs rfl rfl EvO.eq (xt_gs rfl rfl EvO.eq (xt_gs rfl rfl EvO.eq (xt_Pk rfl ?_))))))))
    refine xt_nil ?_
    refine x_condF ?_
    refine x_skip (x_seq ?_)
    first
     | (have hdummy:=hQ1)
     | (have hno:¬ (there=false/\x.t.what=0/\blt x.t.name l[k].1):=by
         rintro ⟨z1,z2,z3⟩
         first
          | (simp [z1] at g17;done)
          | (simp [z2] at g22;done)
          | exact c2 z3
        have hfl:(there || decide (x.t.what=0/\blt x.t.name l[k].1))=there:=by
         cases there with
         | true=>rfl
         | false=>simpa using fun z2 z3=>hno ⟨rfl,z2,z3⟩
        rw [if_neg hno,List.nil_append,hfl] at hq
        have hQ1:=hq
        have hS1:=hS.ext (kpc:Keep NoB w2 w3)
        have hn1:nq<=2*k+1:=by omega)
    haveI:=hS1.notS
    haveI:=newA_of hS1.own (Nat.le_refl _)
    haveI:OwnI w3 _ _ _ _ _ _ _ _:=⟨hS1.own⟩
    have hwB9:=lk.keep.size
    obtain ⟨wN,hwN⟩:∃ wN,wN=w3:=⟨_,rfl⟩
    refine x_regionL (xm (xm ?_))
    refine xl_v (v_indexF k (by decide) rfl (by omega) hk1) ?_
    refine xl_Lb ?_
    refine xl_e (e_alloc fun b8 w49 n8 l8 k8=>?_)
    refine xl_s (e_storeA fun w50 l50 k50=>?_)
    refine xl_nil ?_
    refine x_seq (xq (xl_Fb ?_))
    refine xl_Lc ?_
    refine xl_Fb ?_
    refine xl_Lc ?_
    refine xl_v v_seql (xl_nil ?_)
    refine x_if (fun c3=>?_) (fun c3=>?_)
    ·rw [if_pos c3,decide_eq_true c3,Bool.or_true] at hQ1
     have hkey:akey (fsP l) x.t.name=some l[k].2.bytes:=(akey_mem hnd).2 (by rw [<- c3];exact List.mem_map.2 ⟨l[k],List.getElem_mem hk1,rfl⟩)
     refine xq (xz ?_)
     refine xq (xl_Fb ?_)
     refine xl_Lc ?_
     refine xl_nil ?_
     refine x_block (xq (xl_v v_eql (xz ?_)))
     refine x_if (fun c4=>?_) (fun c4=>?_)
     ·rw [Thing.of,if_pos c4] at hQ1
      refine x_drawL (fun j=>NewS w50 j\/OneB b8 j) (allS) (.take 1 (.take 4 (.take 5 (.fork 0 (.eff 2 (.eff 3 (.eff 6 (.take 7 (.last 8))))) 2 (.eff 0 (.eff 3 (.eff 6 (.take 7 (.last 8))))))))) mixed (by kernel_rfl) (fun _ _ _ _ _ h=>h) (fun w51 l51=>?_)
      refine xt_Fb rfl ?_
      refine xt_Fb rfl ?_
      refine xt_Lc rfl ?_
      refine xt_fork ?_ ?_
      ·refine xt_e rfl (e_buildSlice0 fun b52 w52 n52 l52 k52=>?_)
       refine xt_e rfl (e_v (v_load (r:=none)) ?_)
       refine xt_e rfl (e_appE (by simp) (by decide) (by omega) (by omega) fun Ae ce w53 oe le ae fe=>?_)
       refine xt_e rfl (e_app (by simp) (by decide) (by omega) (by omega) Ge.le fun Ac cc w54 oc lc ac fc=>?_)
       refine xt_Fb rfl ?_
       refine xt_lastS rfl (e_store fun w55 l55 k55=>?_)
       refine x_regionL (xm (xl_Lb ?_))
       refine xl_e (e_buildSlice1 rfl fun b56 w56 n56 l56 k56=>?_)
       have hSz:=hS1.ext (kpc:Keep NoB _ w56)
       have hb1z:b1<(w56).heap.size:=Nat.lt_of_lt_of_le hb1B Ge.le
       have hszF:=hSz.outF h.lt hb1g Ge.le
       have hrz:=(h.items _ (List.getElem_mem hk1)).keep (kpc:Keep NoB w w56) (fun _ _ e=>e)
       have hcz:=h.caps _ (List.getElem_mem hk1)
       (have hoc:=(OwnI.own:World.ownsRow w56 _ _ _ (.slice Ac _ cc) _ _)
        have hcr:RowP w56 Ac (bytesC (l[k].2.bytes++x.t.bytes)):=by
         have:=(ii:Row w56 Ac (bytesC l[k].2.bytes++bytesC x.t.bytes)).row
         rwa [bytesC_append] at this
        have hca:=own_blk hoc
        have hcc2:=own_cap hoc
        have hnc:∀ a,Ac=some a->b1<a.block/\w.heap.size<=a.block:=fun a ha=>⟨Nat.lt_of_lt_of_le hb1B (Nat.le_trans Ge.le (ac.le a ha)),Nat.le_trans Ge.le (ac.le a ha)⟩)
       refine xl_e (e_app (by simp) (by decide) (by omega) (by omega) Ge.le fun Ag cg w57 og lg ag fg=>?_)
       (have hS4:=hSz.app (p:=(l[k].1,⟨l[k].2.bytes++x.t.bytes,Ac,cc⟩)) (E:=blkP Ac) (by have z:=og.own;rw [<- List.length_append] at z;exact z) lg.keep fg hb1z ⟨hcr,fun a ha=>⟨a,ha,rfl⟩⟩ (by simpa using hcc2) (by
         rintro j ⟨a,ha,rfl⟩
         obtain ⟨z1,z2⟩:=hnc a ha
         exact ⟨(hca a ha).2,.inr z2,by omega,fun b hb e=>by
          have z3:=Nat.lt_of_lt_of_le (own_blk hS1.own b hb).2 (Nat.le_trans Ge.le (ac.le a ha))
          omega⟩)
        have hQ4:=done_push _ (l[k].1,(⟨l[k].2.bytes++x.t.bytes,Ac,cc⟩:LB)) _ _ hQ1)
       have hn4:=Nat.succ_le_succ hn1
       refine xz ?_
       refine x_regionL (xm ?_)
       refine xl_v (v_add (by omega)) ?_
       refine xz ?_
       refine ⟨_,?_,rfl,k+1,_,_,_,_,_,_,rfl,by omega,hn4,hQ4,hS4,Blk.eq,ii,ii,ii,ii,evc,lkc⟩
       omega
      refine xt_e rfl (e_v (v_load (r:=none)) ?_)
      refine xt_e rfl (e_buildSlice0 fun b58 w58 n58 l58 k58=>?_)
      refine xt_e rfl (e_appE (by simp) (by decide) (by omega) (by omega) fun Ae ce w59 oe le ae fe=>?_)
      refine xt_e rfl (e_app (by simp) (by decide) (by omega) (by omega) Ge.le fun Ac cc w60 oc lc ac fc=>?_)
      refine xt_Fb rfl ?_
      refine xt_lastS rfl (e_store fun w61 l61 k61=>?_)
      refine x_regionL (xm (xl_Lb ?_))
      refine xl_e (e_buildSlice1 rfl fun b62 w62 n62 l62 k62=>?_)
      have hSz:=hS1.ext (kpc:Keep NoB _ w62)
      have hb1z:b1<(w62).heap.size:=Nat.lt_of_lt_of_le hb1B Ge.le
      have hszF:=hSz.outF h.lt hb1g Ge.le
      have hrz:=(h.items _ (List.getElem_mem hk1)).keep (kpc:Keep NoB w w62) (fun _ _ e=>e)
      have hcz:=h.caps _ (List.getElem_mem hk1)
      (have hoc:=(OwnI.own:World.ownsRow w62 _ _ _ (.slice Ac _ cc) _ _)
       have hcr:RowP w62 Ac (bytesC (l[k].2.bytes++x.t.bytes)):=by
        have:=(ii:Row w62 Ac (bytesC l[k].2.bytes++bytesC x.t.bytes)).row
        rwa [bytesC_append] at this
       have hca:=own_blk hoc
       have hcc2:=own_cap hoc
       have hnc:∀ a,Ac=some a->b1<a.block/\w.heap.size<=a.block:=fun a ha=>⟨Nat.lt_of_lt_of_le hb1B (Nat.le_trans Ge.le (ac.le a ha)),Nat.le_trans Ge.le (ac.le a ha)⟩)
      refine xl_e (e_app (by simp) (by decide) (by omega) (by omega) Ge.le fun Ag cg w63 og lg ag fg=>?_)
      (have hS4:=hSz.app (p:=(l[k].1,⟨l[k].2.bytes++x.t.bytes,Ac,cc⟩)) (E:=blkP Ac) (by have z:=og.own;rw [<- List.length_append] at z;exact z) lg.keep fg hb1z ⟨hcr,fun a ha=>⟨a,ha,rfl⟩⟩ (by simpa using hcc2) (by
        rintro j ⟨a,ha,rfl⟩
        obtain ⟨z1,z2⟩:=hnc a ha
        exact ⟨(hca a ha).2,.inr z2,by omega,fun b hb e=>by
         have z3:=Nat.lt_of_lt_of_le (own_blk hS1.own b hb).2 (Nat.le_trans Ge.le (ac.le a ha))
         omega⟩)
       have hQ4:=done_push _ (l[k].1,(⟨l[k].2.bytes++x.t.bytes,Ac,cc⟩:LB)) _ _ hQ1)
      have hn4:=Nat.succ_le_succ hn1
      refine xz ?_
      refine x_regionL (xm ?_)
      refine xl_v (v_add (by omega)) ?_
      refine xz ?_
      refine ⟨_,?_,rfl,k+1,_,_,_,_,_,_,rfl,by omega,hn4,hQ4,hS4,Blk.eq,ii,ii,ii,ii,evc,lkc⟩
      omega
     rw [Thing.of,if_neg c4] at hQ1
     refine xq (xl_v v_eql (xz ?_))
     refine x_if (fun c5=>?_) (fun c5=>?_)
     ·rw [if_pos c5] at hQ1
      obtain ⟨hN0,hN1⟩:=hcut c5 _ hkey
      have hNt:x.t.n=((x.t.n.toNat:Nat):Int):=by omega
      refine x_regionL (xl_Fb ?_)
      refine xl_Lc ?_
      refine xl_Fb ?_
      refine xl_Lc ?_
      refine xl_v (v_sliceH x.t.n.toNat hNt (by have:=h.caps _ (List.getElem_mem hk1);omega)) ?_
      refine xl_Fb ?_
      refine xl_s (e_store fun w64 l64 k64=>?_)
      refine xl_nil ?_
      refine x_regionL (xm (xl_Lb ?_))
      refine xl_e (e_buildSlice1 rfl fun b65 w65 n65 l65 k65=>?_)
      have hSz:=hS1.ext (kpc:Keep NoB _ w65)
      have hb1z:b1<(w65).heap.size:=Nat.lt_of_lt_of_le hb1B Ge.le
      have hszF:=hSz.outF h.lt hb1g Ge.le
      have hrz:=(h.items _ (List.getElem_mem hk1)).keep (kpc:Keep NoB w w65) (fun _ _ e=>e)
      have hcz:=h.caps _ (List.getElem_mem hk1)
      first
       | (have hoc:=(OwnI.own:World.ownsRow w65 _ _ _ (.slice Ac _ cc) _ _)
          have hcr:RowP w65 Ac (bytesC (l[k].2.bytes++x.t.bytes)):=by
           have:=(ii:Row w65 Ac (bytesC l[k].2.bytes++bytesC x.t.bytes)).row
           rwa [bytesC_append] at this
          have hca:=own_blk hoc
          have hcc2:=own_cap hoc
          have hnc:∀ a,Ac=some a->b1<a.block/\w.heap.size<=a.block:=fun a ha=>⟨Nat.lt_of_lt_of_le hb1B (Nat.le_trans Ge.le (ac.le a ha)),Nat.le_trans Ge.le (ac.le a ha)⟩)
       | skip
      refine xl_e (e_app (by simp) (by decide) (by omega) (by omega) Ge.le fun Ag cg w66 og lg ag fg=>?_)
      first
       | (have hS4:=hSz.app (p:=(l[k].1,⟨l[k].2.bytes++x.t.bytes,Ac,cc⟩)) (E:=blkP Ac) (by have z:=og.own;rw [<- List.length_append] at z;exact z) lg.keep fg hb1z ⟨hcr,fun a ha=>⟨a,ha,rfl⟩⟩ (by simpa using hcc2) (by
           rintro j ⟨a,ha,rfl⟩
           obtain ⟨z1,z2⟩:=hnc a ha
           exact ⟨(hca a ha).2,.inr z2,by omega,fun b hb e=>by
            have z3:=Nat.lt_of_lt_of_le (own_blk hS1.own b hb).2 (Nat.le_trans Ge.le (ac.le a ha))
            omega⟩)
          have hQ4:=done_push _ (l[k].1,(⟨l[k].2.bytes++x.t.bytes,Ac,cc⟩:LB)) _ _ hQ1)
       | (have hbt:(l[k].2.bytes.take x.t.n.toNat).length=x.t.n.toNat:=by simp;omega
          have hS4:=hSz.app (p:=(l[k].1,⟨l[k].2.bytes.take x.t.n.toNat,l[k].2.A,l[k].2.c⟩)) (E:=F) (by have z:=og.own;rw [<- hbt] at z;exact z) lg.keep fg hb1z ⟨rowP_bytes _ hrz.row,hrz.blk⟩ (by show (l[k].2.bytes.take x.t.n.toNat).length<=l[k].2.c;omega) hszF
          have hQ4:=done_push _ (l[k].1,(⟨l[k].2.bytes.take x.t.n.toNat,l[k].2.A,l[k].2.c⟩:LB)) _ _ hQ1)
      have hn4:=Nat.succ_le_succ hn1
      refine xz ?_
      refine x_regionL (xm ?_)
      refine xl_v (v_add (by omega)) ?_
      refine xz ?_
      refine ⟨_,?_,rfl,k+1,_,_,_,_,_,_,rfl,by omega,hn4,hQ4,hS4,Blk.eq,ii,ii,ii,ii,evc,lkc⟩
      omega
     rw [if_neg c5] at hQ1
     refine xq (xl_v v_eql (xz ?_))
     refine x_if (fun c6=>?_) (fun c6=>?_)
     ·rw [if_pos c6,List.nil_append] at hQ1
      have hS4:=hS1.ext (kpc:Keep NoB _ w50)
      have hQ4:=hQ1
      have hn4:=Nat.le_succ_of_le hn1
      refine x_exit (x_regionL (xm ?_))
      refine xl_v (v_add (by omega)) ?_
      refine xz ?_
      refine ⟨_,?_,rfl,k+1,_,_,_,_,_,_,rfl,by omega,hn4,hQ4,hS4,Blk.eq,ii,ii,ii,ii,evc,lkc⟩
      omega
     exfalso
     omega
    rw [if_neg c3,decide_eq_false c3,Bool.or_false] at hQ1
    refine x_skip (x_regionL (xm (xl_Lb ?_)))
    refine xl_e (e_buildSlice1 rfl fun b67 w67 n67 l67 k67=>?_)
    have hSz:=hS1.ext (kpc:Keep NoB _ w67)
    have hb1z:b1<(w67).heap.size:=Nat.lt_of_lt_of_le hb1B Ge.le
    have hszF:=hSz.outF h.lt hb1g Ge.le
    have hrz:=(h.items _ (List.getElem_mem hk1)).keep (kpc:Keep NoB w w67) (fun _ _ e=>e)
    have hcz:=h.caps _ (List.getElem_mem hk1)
    first
     | (have hoc:=(OwnI.own:World.ownsRow w67 _ _ _ (.slice Ac _ cc) _ _)
        have hcr:RowP w67 Ac (bytesC (l[k].2.bytes++x.t.bytes)):=by
         have:=(ii:Row w67 Ac (bytesC l[k].2.bytes++bytesC x.t.bytes)).row
         rwa [bytesC_append] at this
        have hca:=own_blk hoc
        have hcc2:=own_cap hoc
        have hnc:∀ a,Ac=some a->b1<a.block/\w.heap.size<=a.block:=fun a ha=>⟨Nat.lt_of_lt_of_le hb1B (Nat.le_trans Ge.le (ac.le a ha)),Nat.le_trans Ge.le (ac.le a ha)⟩)
     | skip
    refine xl_e (e_app (by simp) (by decide) (by omega) (by omega) Ge.le fun Ag cg w68 og lg ag fg=>?_)
    first
     | (have hS4:=hSz.app (p:=(l[k].1,⟨l[k].2.bytes++x.t.bytes,Ac,cc⟩)) (E:=blkP Ac) (by have z:=og.own;rw [<- List.length_append] at z;exact z) lg.keep fg hb1z ⟨hcr,fun a ha=>⟨a,ha,rfl⟩⟩ (by simpa using hcc2) (by
         rintro j ⟨a,ha,rfl⟩
         obtain ⟨z1,z2⟩:=hnc a ha
         exact ⟨(hca a ha).2,.inr z2,by omega,fun b hb e=>by
          have z3:=Nat.lt_of_lt_of_le (own_blk hS1.own b hb).2 (Nat.le_trans Ge.le (ac.le a ha))
          omega⟩)
        have hQ4:=done_push _ (l[k].1,(⟨l[k].2.bytes++x.t.bytes,Ac,cc⟩:LB)) _ _ hQ1)
     | (have hbt:(l[k].2.bytes.take x.t.n.toNat).length=x.t.n.toNat:=by simp;omega
        have hS4:=hSz.app (p:=(l[k].1,⟨l[k].2.bytes.take x.t.n.toNat,l[k].2.A,l[k].2.c⟩)) (E:=F) (by have z:=og.own;rw [<- hbt] at z;exact z) lg.keep fg hb1z ⟨rowP_bytes _ hrz.row,hrz.blk⟩ (by show (l[k].2.bytes.take x.t.n.toNat).length<=l[k].2.c;omega) hszF
        have hQ4:=done_push _ (l[k].1,(⟨l[k].2.bytes.take x.t.n.toNat,l[k].2.A,l[k].2.c⟩:LB)) _ _ hQ1)
     | (have hS4:=hSz.app (p:=l[k]) (E:=F) og.own lg.keep fg hb1z hrz hcz hszF
        have hQ4:=done_push _ l[k] _ _ hQ1)
    have hn4:=Nat.succ_le_succ hn1
    refine xz ?_
    refine x_regionL (xm ?_)
    refine xl_v (v_add (by omega)) ?_
    refine xz ?_
    refine ⟨_,?_,rfl,k+1,_,_,_,_,_,_,rfl,by omega,hn4,hQ4,hS4,Blk.eq,ii,ii,ii,ii,evc,lkc⟩
    omega
   refine xt_gs rfl rfl EvO.eq (xt_gs rfl rfl EvO.eq (xt_gs rfl rfl EvO.eq (xt_Pk rfl ?_)))
   refine xt_v rfl v_move (xt_gs rfl rfl EvO.eq (xt_gs rfl rfl EvO.eq (xt_gs rfl rfl EvO.eq (xt_gs rfl rfl EvO.eq (xt_gs rfl rfl EvO.eq (xt_gs rfl rfl EvO.eq (xt_gs rfl rfl EvO.eq (xt_gs rfl rfl EvO.eq (xt_Pk rfl ?_)))))))))
   refine xt_nil ?_
   refine x_condF ?_
   refine x_skip (x_seq ?_)
   first
    | (have hdummy:=hQ1)
    | (have hno:¬ (there=false/\x.t.what=0/\blt x.t.name l[k].1):=by
        rintro ⟨z1,z2,z3⟩
        first
         | (simp [z1] at g17;done)
         | (simp [z2] at g22;done)
         | exact c2 z3
       have hfl:(there || decide (x.t.what=0/\blt x.t.name l[k].1))=there:=by
        cases there with
        | true=>rfl
        | false=>simpa using fun z2 z3=>hno ⟨rfl,z2,z3⟩
       rw [if_neg hno,List.nil_append,hfl] at hq
       have hQ1:=hq
       have hS1:=hS.ext (kpc:Keep NoB w2 w3)
       have hn1:nq<=2*k+1:=by omega)
   haveI:=hS1.notS
   haveI:=newA_of hS1.own (Nat.le_refl _)
   haveI:OwnI w3 _ _ _ _ _ _ _ _:=⟨hS1.own⟩
   have hwB9:=lk.keep.size
   obtain ⟨wN,hwN⟩:∃ wN,wN=w3:=⟨_,rfl⟩
   refine x_regionL (xm (xm ?_))
   refine xl_v (v_indexF k (by decide) rfl (by omega) hk1) ?_
   refine xl_Lb ?_
   refine xl_e (e_alloc fun b8 w69 n8 l8 k8=>?_)
   refine xl_s (e_storeA fun w70 l70 k70=>?_)
   refine xl_nil ?_
   refine x_seq (xq (xl_Fb ?_))
   refine xl_Lc ?_
   refine xl_Fb ?_
   refine xl_Lc ?_
   refine xl_v v_seql (xl_nil ?_)
   refine x_if (fun c3=>?_) (fun c3=>?_)
   ·rw [if_pos c3,decide_eq_true c3,Bool.or_true] at hQ1
    have hkey:akey (fsP l) x.t.name=some l[k].2.bytes:=(akey_mem hnd).2 (by rw [<- c3];exact List.mem_map.2 ⟨l[k],List.getElem_mem hk1,rfl⟩)
    refine xq (xz ?_)
    refine xq (xl_Fb ?_)
    refine xl_Lc ?_
    refine xl_nil ?_
    refine x_block (xq (xl_v v_eql (xz ?_)))
    refine x_if (fun c4=>?_) (fun c4=>?_)
    ·rw [Thing.of,if_pos c4] at hQ1
     refine x_drawL (fun j=>NewS w70 j\/OneB b8 j) (allS) (.take 1 (.take 4 (.take 5 (.fork 0 (.eff 2 (.eff 3 (.eff 6 (.take 7 (.last 8))))) 2 (.eff 0 (.eff 3 (.eff 6 (.take 7 (.last 8))))))))) mixed (by kernel_rfl) (fun _ _ _ _ _ h=>h) (fun w71 l71=>?_)
     refine xt_Fb rfl ?_
     refine xt_Fb rfl ?_
     refine xt_Lc rfl ?_
     refine xt_fork ?_ ?_
     ·refine xt_e rfl (e_buildSlice0 fun b72 w72 n72 l72 k72=>?_)
      refine xt_e rfl (e_v (v_load (r:=none)) ?_)
      refine xt_e rfl (e_appE (by simp) (by decide) (by omega) (by omega) fun Ae ce w73 oe le ae fe=>?_)
      refine xt_e rfl (e_app (by simp) (by decide) (by omega) (by omega) Ge.le fun Ac cc w74 oc lc ac fc=>?_)
      refine xt_Fb rfl ?_
      refine xt_lastS rfl (e_store fun w75 l75 k75=>?_)
      refine x_regionL (xm (xl_Lb ?_))
      refine xl_e (e_buildSlice1 rfl fun b76 w76 n76 l76 k76=>?_)
      have hSz:=hS1.ext (kpc:Keep NoB _ w76)
      have hb1z:b1<(w76).heap.size:=Nat.lt_of_lt_of_le hb1B Ge.le
      have hszF:=hSz.outF h.lt hb1g Ge.le
      have hrz:=(h.items _ (List.getElem_mem hk1)).keep (kpc:Keep NoB w w76) (fun _ _ e=>e)
      have hcz:=h.caps _ (List.getElem_mem hk1)
      (have hoc:=(OwnI.own:World.ownsRow w76 _ _ _ (.slice Ac _ cc) _ _)
       have hcr:RowP w76 Ac (bytesC (l[k].2.bytes++x.t.bytes)):=by
        have:=(ii:Row w76 Ac (bytesC l[k].2.bytes++bytesC x.t.bytes)).row
        rwa [bytesC_append] at this
       have hca:=own_blk hoc
       have hcc2:=own_cap hoc
       have hnc:∀ a,Ac=some a->b1<a.block/\w.heap.size<=a.block:=fun a ha=>⟨Nat.lt_of_lt_of_le hb1B (Nat.le_trans Ge.le (ac.le a ha)),Nat.le_trans Ge.le (ac.le a ha)⟩)
      refine xl_e (e_app (by simp) (by decide) (by omega) (by omega) Ge.le fun Ag cg w77 og lg ag fg=>?_)
      (have hS4:=hSz.app (p:=(l[k].1,⟨l[k].2.bytes++x.t.bytes,Ac,cc⟩)) (E:=blkP Ac) (by have z:=og.own;rw [<- List.length_append] at z;exact z) lg.keep fg hb1z ⟨hcr,fun a ha=>⟨a,ha,rfl⟩⟩ (by simpa using hcc2) (by
        rintro j ⟨a,ha,rfl⟩
        obtain ⟨z1,z2⟩:=hnc a ha
        exact ⟨(hca a ha).2,.inr z2,by omega,fun b hb e=>by
         have z3:=Nat.lt_of_lt_of_le (own_blk hS1.own b hb).2 (Nat.le_trans Ge.le (ac.le a ha))
         omega⟩)
       have hQ4:=done_push _ (l[k].1,(⟨l[k].2.bytes++x.t.bytes,Ac,cc⟩:LB)) _ _ hQ1)
      have hn4:=Nat.succ_le_succ hn1
      refine xz ?_
      refine x_regionL (xm ?_)
      refine xl_v (v_add (by omega)) ?_
      refine xz ?_
      refine ⟨_,?_,rfl,k+1,_,_,_,_,_,_,rfl,by omega,hn4,hQ4,hS4,Blk.eq,ii,ii,ii,ii,evc,lkc⟩
      omega
     refine xt_e rfl (e_v (v_load (r:=none)) ?_)
     refine xt_e rfl (e_buildSlice0 fun b78 w78 n78 l78 k78=>?_)
     refine xt_e rfl (e_appE (by simp) (by decide) (by omega) (by omega) fun Ae ce w79 oe le ae fe=>?_)
     refine xt_e rfl (e_app (by simp) (by decide) (by omega) (by omega) Ge.le fun Ac cc w80 oc lc ac fc=>?_)
     refine xt_Fb rfl ?_
     refine xt_lastS rfl (e_store fun w81 l81 k81=>?_)
     refine x_regionL (xm (xl_Lb ?_))
     refine xl_e (e_buildSlice1 rfl fun b82 w82 n82 l82 k82=>?_)
     have hSz:=hS1.ext (kpc:Keep NoB _ w82)
     have hb1z:b1<(w82).heap.size:=Nat.lt_of_lt_of_le hb1B Ge.le
     have hszF:=hSz.outF h.lt hb1g Ge.le
     have hrz:=(h.items _ (List.getElem_mem hk1)).keep (kpc:Keep NoB w w82) (fun _ _ e=>e)
     have hcz:=h.caps _ (List.getElem_mem hk1)
     (have hoc:=(OwnI.own:World.ownsRow w82 _ _ _ (.slice Ac _ cc) _ _)
      have hcr:RowP w82 Ac (bytesC (l[k].2.bytes++x.t.bytes)):=by
       have:=(ii:Row w82 Ac (bytesC l[k].2.bytes++bytesC x.t.bytes)).row
       rwa [bytesC_append] at this
      have hca:=own_blk hoc
      have hcc2:=own_cap hoc
      have hnc:∀ a,Ac=some a->b1<a.block/\w.heap.size<=a.block:=fun a ha=>⟨Nat.lt_of_lt_of_le hb1B (Nat.le_trans Ge.le (ac.le a ha)),Nat.le_trans Ge.le (ac.le a ha)⟩)
     refine xl_e (e_app (by simp) (by decide) (by omega) (by omega) Ge.le fun Ag cg w83 og lg ag fg=>?_)
     (have hS4:=hSz.app (p:=(l[k].1,⟨l[k].2.bytes++x.t.bytes,Ac,cc⟩)) (E:=blkP Ac) (by have z:=og.own;rw [<- List.length_append] at z;exact z) lg.keep fg hb1z ⟨hcr,fun a ha=>⟨a,ha,rfl⟩⟩ (by simpa using hcc2) (by
       rintro j ⟨a,ha,rfl⟩
       obtain ⟨z1,z2⟩:=hnc a ha
       exact ⟨(hca a ha).2,.inr z2,by omega,fun b hb e=>by
        have z3:=Nat.lt_of_lt_of_le (own_blk hS1.own b hb).2 (Nat.le_trans Ge.le (ac.le a ha))
        omega⟩)
      have hQ4:=done_push _ (l[k].1,(⟨l[k].2.bytes++x.t.bytes,Ac,cc⟩:LB)) _ _ hQ1)
     have hn4:=Nat.succ_le_succ hn1
     refine xz ?_
     refine x_regionL (xm ?_)
     refine xl_v (v_add (by omega)) ?_
     refine xz ?_
     refine ⟨_,?_,rfl,k+1,_,_,_,_,_,_,rfl,by omega,hn4,hQ4,hS4,Blk.eq,ii,ii,ii,ii,evc,lkc⟩
     omega
    rw [Thing.of,if_neg c4] at hQ1
    refine xq (xl_v v_eql (xz ?_))
    refine x_if (fun c5=>?_) (fun c5=>?_)
    ·rw [if_pos c5] at hQ1
     obtain ⟨hN0,hN1⟩:=hcut c5 _ hkey
     have hNt:x.t.n=((x.t.n.toNat:Nat):Int):=by omega
     refine x_regionL (xl_Fb ?_)
     refine xl_Lc ?_
     refine xl_Fb ?_
     refine xl_Lc ?_
     refine xl_v (v_sliceH x.t.n.toNat hNt (by have:=h.caps _ (List.getElem_mem hk1);omega)) ?_
     refine xl_Fb ?_
     refine xl_s (e_store fun w84 l84 k84=>?_)
     refine xl_nil ?_
     refine x_regionL (xm (xl_Lb ?_))
     refine xl_e (e_buildSlice1 rfl fun b85 w85 n85 l85 k85=>?_)
     have hSz:=hS1.ext (kpc:Keep NoB _ w85)
     have hb1z:b1<(w85).heap.size:=Nat.lt_of_lt_of_le hb1B Ge.le
     have hszF:=hSz.outF h.lt hb1g Ge.le
     have hrz:=(h.items _ (List.getElem_mem hk1)).keep (kpc:Keep NoB w w85) (fun _ _ e=>e)
     have hcz:=h.caps _ (List.getElem_mem hk1)
     first
      | (have hoc:=(OwnI.own:World.ownsRow w85 _ _ _ (.slice Ac _ cc) _ _)
         have hcr:RowP w85 Ac (bytesC (l[k].2.bytes++x.t.bytes)):=by
          have:=(ii:Row w85 Ac (bytesC l[k].2.bytes++bytesC x.t.bytes)).row
          rwa [bytesC_append] at this
         have hca:=own_blk hoc
         have hcc2:=own_cap hoc
         have hnc:∀ a,Ac=some a->b1<a.block/\w.heap.size<=a.block:=fun a ha=>⟨Nat.lt_of_lt_of_le hb1B (Nat.le_trans Ge.le (ac.le a ha)),Nat.le_trans Ge.le (ac.le a ha)⟩)
      | skip
     refine xl_e (e_app (by simp) (by decide) (by omega) (by omega) Ge.le fun Ag cg w86 og lg ag fg=>?_)
     first
      | (have hS4:=hSz.app (p:=(l[k].1,⟨l[k].2.bytes++x.t.bytes,Ac,cc⟩)) (E:=blkP Ac) (by have z:=og.own;rw [<- List.length_append] at z;exact z) lg.keep fg hb1z ⟨hcr,fun a ha=>⟨a,ha,rfl⟩⟩ (by simpa using hcc2) (by
          rintro j ⟨a,ha,rfl⟩
          obtain ⟨z1,z2⟩:=hnc a ha
          exact ⟨(hca a ha).2,.inr z2,by omega,fun b hb e=>by
           have z3:=Nat.lt_of_lt_of_le (own_blk hS1.own b hb).2 (Nat.le_trans Ge.le (ac.le a ha))
           omega⟩)
         have hQ4:=done_push _ (l[k].1,(⟨l[k].2.bytes++x.t.bytes,Ac,cc⟩:LB)) _ _ hQ1)
      | (have hbt:(l[k].2.bytes.take x.t.n.toNat).length=x.t.n.toNat:=by simp;omega
         have hS4:=hSz.app (p:=(l[k].1,⟨l[k].2.bytes.take x.t.n.toNat,l[k].2.A,l[k].2.c⟩)) (E:=F) (by have z:=og.own;rw [<- hbt] at z;exact z) lg.keep fg hb1z ⟨rowP_bytes _ hrz.row,hrz.blk⟩ (by show (l[k].2.bytes.take x.t.n.toNat).length<=l[k].2.c;omega) hszF
         have hQ4:=done_push _ (l[k].1,(⟨l[k].2.bytes.take x.t.n.toNat,l[k].2.A,l[k].2.c⟩:LB)) _ _ hQ1)
     have hn4:=Nat.succ_le_succ hn1
     refine xz ?_
     refine x_regionL (xm ?_)
     refine xl_v (v_add (by omega)) ?_
     refine xz ?_
     refine ⟨_,?_,rfl,k+1,_,_,_,_,_,_,rfl,by omega,hn4,hQ4,hS4,Blk.eq,ii,ii,ii,ii,evc,lkc⟩
     omega
    rw [if_neg c5] at hQ1
    refine xq (xl_v v_eql (xz ?_))
    refine x_if (fun c6=>?_) (fun c6=>?_)
    ·rw [if_pos c6,List.nil_append] at hQ1
     have hS4:=hS1.ext (kpc:Keep NoB _ w70)
     have hQ4:=hQ1
     have hn4:=Nat.le_succ_of_le hn1
     refine x_exit (x_regionL (xm ?_))
     refine xl_v (v_add (by omega)) ?_
     refine xz ?_
     refine ⟨_,?_,rfl,k+1,_,_,_,_,_,_,rfl,by omega,hn4,hQ4,hS4,Blk.eq,ii,ii,ii,ii,evc,lkc⟩
     omega
    exfalso
    omega
   rw [if_neg c3,decide_eq_false c3,Bool.or_false] at hQ1
   refine x_skip (x_regionL (xm (xl_Lb ?_)))
   refine xl_e (e_buildSlice1 rfl fun b87 w87 n87 l87 k87=>?_)
   have hSz:=hS1.ext (kpc:Keep NoB _ w87)
   have hb1z:b1<(w87).heap.size:=Nat.lt_of_lt_of_le hb1B Ge.le
   have hszF:=hSz.outF h.lt hb1g Ge.le
   have hrz:=(h.items _ (List.getElem_mem hk1)).keep (kpc:Keep NoB w w87) (fun _ _ e=>e)
   have hcz:=h.caps _ (List.getElem_mem hk1)
   first
    | (have hoc:=(OwnI.own:World.ownsRow w87 _ _ _ (.slice Ac _ cc) _ _)
       have hcr:RowP w87 Ac (bytesC (l[k].2.bytes++x.t.bytes)):=by
        have:=(ii:Row w87 Ac (bytesC l[k].2.bytes++bytesC x.t.bytes)).row
        rwa [bytesC_append] at this
       have hca:=own_blk hoc
       have hcc2:=own_cap hoc
       have hnc:∀ a,Ac=some a->b1<a.block/\w.heap.size<=a.block:=fun a ha=>⟨Nat.lt_of_lt_of_le hb1B (Nat.le_trans Ge.le (ac.le a ha)),Nat.le_trans Ge.le (ac.le a ha)⟩)
    | skip
   refine xl_e (e_app (by simp) (by decide) (by omega) (by omega) Ge.le fun Ag cg w88 og lg ag fg=>?_)
   first
    | (have hS4:=hSz.app (p:=(l[k].1,⟨l[k].2.bytes++x.t.bytes,Ac,cc⟩)) (E:=blkP Ac) (by have z:=og.own;rw [<- List.length_append] at z;exact z) lg.keep fg hb1z ⟨hcr,fun a ha=>⟨a,ha,rfl⟩⟩ (by simpa using hcc2) (by
        rintro j ⟨a,ha,rfl⟩
        obtain ⟨z1,z2⟩:=hnc a ha
        exact ⟨(hca a ha).2,.inr z2,by omega,fun b hb e=>by
         have z3:=Nat.lt_of_lt_of_le (own_blk hS1.own b hb).2 (Nat.le_trans Ge.le (ac.le a ha))
         omega⟩)
       have hQ4:=done_push _ (l[k].1,(⟨l[k].2.bytes++x.t.bytes,Ac,cc⟩:LB)) _ _ hQ1)
    | (have hbt:(l[k].2.bytes.take x.t.n.toNat).length=x.t.n.toNat:=by simp;omega
       have hS4:=hSz.app (p:=(l[k].1,⟨l[k].2.bytes.take x.t.n.toNat,l[k].2.A,l[k].2.c⟩)) (E:=F) (by have z:=og.own;rw [<- hbt] at z;exact z) lg.keep fg hb1z ⟨rowP_bytes _ hrz.row,hrz.blk⟩ (by show (l[k].2.bytes.take x.t.n.toNat).length<=l[k].2.c;omega) hszF
       have hQ4:=done_push _ (l[k].1,(⟨l[k].2.bytes.take x.t.n.toNat,l[k].2.A,l[k].2.c⟩:LB)) _ _ hQ1)
    | (have hS4:=hSz.app (p:=l[k]) (E:=F) og.own lg.keep fg hb1z hrz hcz hszF
       have hQ4:=done_push _ l[k] _ _ hQ1)
   have hn4:=Nat.succ_le_succ hn1
   refine xz ?_
   refine x_regionL (xm ?_)
   refine xl_v (v_add (by omega)) ?_
   refine xz ?_
   refine ⟨_,?_,rfl,k+1,_,_,_,_,_,_,rfl,by omega,hn4,hQ4,hS4,Blk.eq,ii,ii,ii,ii,evc,lkc⟩
   omega
  have hkl:k=l.length:=by omega
  rw [List.drop_eq_nil_of_le (by rw [fsP_len];omega),doneL] at hq
  refine x_exit (x_seq (xq (xm (xl_v v_not (xm ?_)))))
  refine xl_split 79 (fun g79=>?_) (fun g79=>?_)
  ·refine xl_gFb rfl EvO.eq ?_
   refine xl_gLc rfl EvO.eq ?_
   refine xl_gv rfl EvO.eq v_eql (xl_Pk ?_)
   refine xl_nil ?_
   refine x_if (fun c7=>?_) (fun c7=>?_)
   ·refine x_drawL (fun j=>OwnB (.slice A7 nq cq) j\/NewS w2 j) (allS) (.take 0 (.take 1 (.take 2 (.take 4 (.take 5 (.eff 3 (.eff 6 (.take 7 (.eff 8 (.eff 9 (.take 10 .done))))))))))) mixed (by kernel_rfl) (fun _ _ _ _ _ h=>h) (fun w89 l89=>?_)
    refine xt_v rfl v_move (xt_Fb rfl ?_)
    refine xt_Lc rfl ?_
    refine xt_Fb rfl ?_
    refine xt_Lc rfl ?_
    refine xt_e rfl (e_buildSlice0 fun b90 w90 n90 l90 k90=>?_)
    refine xt_e rfl (e_appE (by simp) (by decide) (by omega) (by omega) fun Ab cb w91 ob lb ab fb=>?_)
    refine xt_v rfl v_build ?_
    refine xt_e rfl (e_buildSlice1 rfl fun b92 w92 n92 l92 k92=>?_)
    have hSa:=hS.ext (kpc:Keep NoB _ w92)
    have hba:=own_blk (OwnI.own:World.ownsRow w92 _ _ _ (.slice Ab _ cb) _ _)
    have hbr:=(ii:Row w92 Ab (bytesC x.t.bytes)).row
    have hbc:=own_cap (OwnI.own:World.ownsRow w92 _ _ _ (.slice Ab _ cb) _ _)
    refine xt_e rfl (e_app (by simp) (by decide) (by omega) (by omega) Ge.le fun Ad cd w93 od ld ad fd=>?_)
    have hnb:∀ a,Ab=some a->b1<a.block/\w.heap.size<=a.block/\∀ b,A7=some b->b.block≠a.block:=fun a ha=>⟨Nat.lt_of_lt_of_le hb1B (Nat.le_trans Ge.le (ab.le a ha)),Nat.le_trans Ge.le (ab.le a ha),fun b hb e=>by
        have z1:=Nat.lt_of_lt_of_le (own_blk hS.own b hb).2 (Nat.le_trans Ge.le (ab.le a ha))
        omega⟩
    have hS5:=hSa.app (p:=(x.t.name,⟨x.t.bytes,Ab,cb⟩)) (E:=blkP Ab) od.own ld.keep fd (Nat.lt_of_lt_of_le hb1B Ge.le) ⟨hbr,fun a ha=>⟨a,ha,rfl⟩⟩ hbc (by
     rintro j ⟨a,ha,rfl⟩
     obtain ⟨z1,z2,z3⟩:=hnb a ha
     exact ⟨(hba a ha).2,.inr z2,by omega,z3⟩)
    have hQ5:fsP (q++[(x.t.name,⟨x.t.bytes,Ab,cb⟩)])=Dm.done (fsP l) x.t:=by
     rw [if_pos ⟨by simpa using g79,c7⟩] at hq
     rw [fsP_snoc,<- hq]
    refine xt_v rfl v_assign (xt_nil ?_)
    refine xq (xm (xz ?_))
    refine x_ret ?_
    refine fin1 rfl ?_
    first
    | exact ⟨⟨Ad,cd,q++[(x.t.name,⟨x.t.bytes,Ab,cb⟩)],_,by rw [<- hS5.len],hQ5,hS5.fs,fun j e=>by
       rcases e with e | ⟨a,ha,rfl⟩
       ·exact (hS5.f7 j e).2.1
       ·exact .inr (own_blk hS5.own a ha).1⟩,lkc⟩
    | (rw [if_neg (by
        rintro ⟨z1,z2⟩
        first
         | (simp [z1] at g79;done)
         | exact c7 z2),List.append_nil] at hq
       exact ⟨⟨A7,cq,q,_,by rw [<- hS.len],hq,hS.fs,fun j e=>by
        rcases e with e | ⟨a,ha,rfl⟩
        ·exact (hS.f7 j e).2.1
        ·exact .inr (own_blk hS.own a ha).1⟩,lkc⟩)
   refine x_skip (xq (xm (xz ?_)))
   refine x_ret ?_
   refine fin1 rfl ?_
   first
   | exact ⟨⟨Ad,cd,q++[(x.t.name,⟨x.t.bytes,Ab,cb⟩)],_,by rw [<- hS5.len],hQ5,hS5.fs,fun j e=>by
      rcases e with e | ⟨a,ha,rfl⟩
      ·exact (hS5.f7 j e).2.1
      ·exact .inr (own_blk hS5.own a ha).1⟩,lkc⟩
   | (rw [if_neg (by
       rintro ⟨z1,z2⟩
       first
        | (simp [z1] at g79;done)
        | exact c7 z2),List.append_nil] at hq
      exact ⟨⟨A7,cq,q,_,by rw [<- hS.len],hq,hS.fs,fun j e=>by
       rcases e with e | ⟨a,ha,rfl⟩
       ·exact (hS.f7 j e).2.1
       ·exact .inr (own_blk hS.own a ha).1⟩,lkc⟩)
  refine xl_gs rfl EvO.eq (xl_gs rfl EvO.eq (xl_gs rfl EvO.eq (xl_Pk ?_)))
  refine xl_nil ?_
  refine x_condF ?_
  refine x_skip (xq (xm (xz ?_)))
  refine x_ret ?_
  refine fin1 rfl ?_
  first
  | exact ⟨⟨Ad,cd,q++[(x.t.name,⟨x.t.bytes,Ab,cb⟩)],_,by rw [<- hS5.len],hQ5,hS5.fs,fun j e=>by
     rcases e with e | ⟨a,ha,rfl⟩
     ·exact (hS5.f7 j e).2.1
     ·exact .inr (own_blk hS5.own a ha).1⟩,lkc⟩
  | (rw [if_neg (by
      rintro ⟨z1,z2⟩
      first
       | (simp [z1] at g79;done)
       | exact c7 z2),List.append_nil] at hq
     exact ⟨⟨A7,cq,q,_,by rw [<- hS.len],hq,hS.fs,fun j e=>by
      rcases e with e | ⟨a,ha,rfl⟩
      ·exact (hS.f7 j e).2.1
      ·exact .inr (own_blk hS.own a ha).1⟩,lkc⟩)
end Go.Proofs.YtigmfcgeljjgnaaGreatDoor
