/- A part of the walks through the log and its document, and of the law in plain Lean: S. -/
import Derived.Test.YtigmfcgeljjgnaaGreatDoorJ17
set_option linter.all false
set_option maxRecDepth 100000
set_option synthInstance.maxSize 100000
set_option synthInstance.maxHeartbeats 400000
namespace Go.Proofs.YtigmfcgeljjgnaaGreatDoor
open Go.Wst
open Go.Wst.Dm
theorem doNo_0 {M:Disk} {t:Thing} (h1:nameOk t.name=true) (h2:¬ (t.what≠0/\akey M.files t.name=none)) (h3:¬ (t.what=1/\(t.n<0\/((akey M.files t.name).getD []).length<t.n))) (h4:¬ (t.what=0/\M.room - usedB M.files<t.bytes.length)):M.doNo t=0:=by
 unfold Disk.doNo
 rw [if_neg (by simp [h1]),if_neg h2,if_neg h3,if_neg h4]
theorem doNo_130 {M:Disk} {t:Thing} (h1:nameOk t.name=false):M.doNo t=130:=by
 unfold Disk.doNo
 rw [if_pos h1]
theorem doNo_5 {M:Disk} {t:Thing} (h1:nameOk t.name=true) (h2:t.what≠0/\akey M.files t.name=none):M.doNo t=5:=by
 unfold Disk.doNo
 rw [if_neg (by simp [h1]),if_pos h2]
theorem doNo_4 {M:Disk} {t:Thing} (h1:nameOk t.name=true) (h2:¬ (t.what≠0/\akey M.files t.name=none)) (h3:t.what=1/\(t.n<0\/((akey M.files t.name).getD []).length<t.n)):M.doNo t=4:=by
 unfold Disk.doNo
 rw [if_neg (by simp [h1]),if_neg h2,if_pos h3]
theorem doNo_131 {M:Disk} {t:Thing} (h1:nameOk t.name=true) (h4:t.what=0/\M.room - usedB M.files<t.bytes.length):M.doNo t=131:=by
 unfold Disk.doNo
 rw [if_neg (by simp [h1]),if_neg (fun h=>h.1 h4.1),if_neg (fun h=>by have:=h.1;have:=h4.1;omega),if_pos h4]
theorem RefAt.snoc {w W:World} {R:LRef} {F:Nat->Prop} {x:LT} {Ac:Option Addr} {base n cc:Nat} {e:TypeId} (h:RefAt w F R) (hk:Keep NoB w W) (hx:RowP w x.A (bytesC x.t.bytes)) (hxc:x.t.bytes.length<=x.c) (hn2:n=R.waits.length+1) (ho:W.ownsRow base e 4 (.slice Ac n cc) n (R.waits.flatMap thC++thC x)) (hb:w.heap.size<=base):RefAt W (fun j=>F j\/blkP Ac j\/(x.t.bytes≠[]/\blkP x.A j)) ⟨R.room,R.lasts,R.A,R.c,R.waits++[x],Ac,cc⟩/\∀ k,(F k\/blkP Ac k\/(x.t.bytes≠[]/\blkP x.A k))->F k\/w.heap.size<=k\/(x.t.bytes≠[]/\∃ a,x.A=some a/\a.block=k):=by
 have hol:=own_blk ho
 have hxl:x.t.bytes≠[]->∀ a,x.A=some a->a.block<w.heap.size:=fun hn=>FRowE.lt hx (by simpa [bytesC] using hn)
 have hF:=h.lt
 refine ⟨⟨(h.lasts.ext hk).mono (fun j e=>.inl e) ?_,⟨?_,fun a ha=>.inr (.inl ⟨a,ha,rfl⟩)⟩,?_,?_,?_⟩,?_⟩
 ·rintro j (e | ⟨a,ha,e⟩ | ⟨hn,a,ha,e⟩)
  ·exact Nat.lt_of_lt_of_le (hF j e) hk.size
  ·exact e ▸ (hol a ha).2
  ·exact e ▸ Nat.lt_of_lt_of_le (hxl hn a ha) hk.size
 ·have:=(FRow.of_own ho).row
  simpa using this
 ·intro y hy
  rcases List.mem_append.1 hy with hy | hy
  ·exact ((h.items y hy).keep hk (fun _ _ h=>h)).mono (fun j e=>.inl e)
  ·have e:y=x:=by simpa using hy
   subst e
   refine ⟨hx.keep hk (fun _ _ h=>h),?_⟩
   by_cases hn:y.t.bytes=[]
   ·exact .inl (by rw [hn];rfl)
   ·exact .inr fun a ha=>.inr (.inr ⟨hn,a,ha,rfl⟩)
 ·intro y hy
  rcases List.mem_append.1 hy with hy | hy
  ·exact h.caps y hy
  ·have e:y=x:=by simpa using hy
   subst e;exact hxc
 ·have:=own_cap ho
  simp;omega
 ·rintro k (e | ⟨a,ha,e⟩ | e)
  ·exact .inl e
  ·exact .inr (.inl (by have:=(hol a ha).1;omega))
  ·exact .inr (.inr e)
theorem RefS.snoc {R:LRef} {M:Disk} {x:LT} (hs:RefS R M) (hw:okWhat x.t) (hno:M.doNo x.t=0) (hfew:M.lasts.length+M.waits.length+1<=1000000) (hb:x.t.bytes.length<=16777216) (Ac:Option Addr) (cc:Nat):RefS ⟨R.room,R.lasts,R.A,R.c,R.waits++[x],Ac,cc⟩ (M.does x.t):=by
 rw [Disk.does,if_pos hno]
 refine ⟨hs.room,hs.lasts,by simp [hs.waits],hs.ok.snoc (Dm.Disk.doNo_ok hw hno),by simp;omega,fun t ht=>?_⟩
 rcases List.mem_append.1 ht with ht | ht
 ·exact hs.lens t ht
 ·have e:t=x.t:=by simpa using ht
  subst e;exact hb
set_option maxHeartbeats 1000000 in
theorem refdo_ok (R:LRef) (M:Disk) (F:Nat->Prop) (x:LT) (w:World) (h:RefAt w F R) (hs:RefS R M) (hfew:M.lasts.length+M.waits.length+1<=1000000) (hx:RowP w x.A (bytesC x.t.bytes)) (hxc:x.t.bytes.length<=x.c) (hb:x.t.bytes.length<=16777216) (hw:okWhat x.t) (hnm:x.t.name.size<=9223372036854775807) (hn:In64 x.t.n):Ret Tryz.prog 33 #[.agg (refC R).toArray,.agg (thC x).toArray] w (fun v w'=>(∃ (R':LRef) (F':Nat->Prop),v=.tuple #[.agg (refC R').toArray,.int .i64 (M.doNo x.t)]/\RefS R' (M.does x.t)/\RefAt w' F' R'/\∀ k,F' k->F k\/w.heap.size<=k\/(x.t.bytes≠[]/\∃ a,x.A=some a/\a.block=k))/\Lk w' w NoB):=by
 haveI hrB:RowB w R.B w (R.waits.flatMap thC):=rowB_of h.row.row
 have hwl:=hs.len
 have hll:=hs.llen
 have hmost:=hs.ok.most
 have hone:=hs.ok.one
 have hroom:=hs.room
 have hufs:=hs.ok.files.2.1
 have hhw:x.t.what=0\/x.t.what=1\/x.t.what=2:=hw
 have hn':-9223372036854775808<=x.t.n/\x.t.n<=9223372036854775807:=hn
 have stay:∀ w' no,Lk w' w NoB->M.doNo x.t=no->no≠0->(∃ (R':LRef) (F':Nat->Prop),Value.tuple #[.agg (refC R).toArray,.int .i64 no]=.tuple #[.agg (refC R').toArray,.int .i64 (M.doNo x.t)]/\RefS R' (M.does x.t)/\RefAt w' F' R'/\∀ k,F' k->F k\/w.heap.size<=k\/(x.t.bytes≠[]/\∃ a,x.A=some a/\a.block=k))/\Lk w' w NoB:=by
  intro w' no hk hno hne
  exact ⟨⟨R,F,by rw [hno],by rw [Disk.does,if_neg (by omega)];exact hs,h.ext hk.keep,fun k e=>.inl e⟩,hk⟩
 refine ret_of_x (N:=71) (l:=[.agg (refC R).toArray,.agg (thC x).toArray]) Tryz.func33 rfl rfl (Nat.le_of_ble_eq_true rfl) ?_
 refine x_seq ?_
 refine x_regionL ?_
 refine xl_e (e_box fun b1 w1 n1 l1 k1=>?_)
 refine xl_e (e_box fun b2 w2 n2 l2 k2=>?_)
 refine xl_e (e_alloc fun b3 w3 n3 l3 k3=>?_)
 refine xl_v v_assign ?_
 refine xl_nil ?_
 refine x_seq ?_
 refine x_seq ?_
 refine x_regionL ?_
 refine xl_Fb ?_
 refine xl_Lc ?_
 refine xl_call (Name_ok x.t.name w3 hnm) ?_
 rintro _ _ ⟨rfl,rfl⟩
 refine xl_v v_not ?_
 refine xl_nil ?_
 refine x_condE (fun c1=>?_) (fun c1=>?_)
 ·refine x_seq ?_
  refine x_regionL ?_
  refine xl_Lb ?_
  refine xl_s (e_storeA fun w5 l5 k5=>?_)
  refine xl_v v_assign ?_
  refine xl_nil ?_
  refine x_ret ?_
  refine finR (rs:=[.cell 4 34,.tmp 5]) rfl ?_
  exact stay _ 130 lkc (doNo_130 (by simpa using c1)) (by decide)
 have hname:nameOk x.t.name=true:=by simpa using c1
 refine x_skip ?_
 refine x_seq ?_
 refine x_regionL ?_
 refine xl_Lb ?_
 refine xl_call (reffiles_ok R M F w3 (h.ext (kpc:Keep NoB w w3)) hs) ?_
 rintro _ w6 ⟨⟨A6,c6,l6,F6,rfl,hf6,hr6,hF6⟩,lk1⟩
 have hu6:usedB (fsP l6)=usedB M.files:=by rw [hf6]
 have hl6:l6.length<=1000000:=by rw [<- fsP_len,hf6];exact files_len hs.few
 refine xl_v v_assign ?_
 refine xl_nil ?_
 refine x_seq ?_
 refine x_regionL ?_
 refine xl_v v_move ?_
 refine xl_Fb ?_
 refine xl_Lc ?_
 refine xl_call (find_ok A6 c6 l6 F6 x.t.name w6 (hr6.ext (kpc:Keep NoB _ w6)) (by omega)) ?_
 rintro _ w7 ⟨⟨i,rfl,hfi⟩,lk2⟩
 rw [hf6] at hfi
 have hi2:-1<=i/\i<=1000000:=by
  rcases hfi with ⟨e,_⟩ | ⟨k,hk,e,_⟩<;>omega
 refine xl_v v_assign ?_
 refine xl_nil ?_
 refine x_seq ?_
 refine x_seq ?_
 refine x_regionL ?_
 refine xl_Fb ?_
 refine xl_Lc ?_
 refine xl_v v_neq ?_
 refine xl_v v_move ?_
 refine xl_split 22 (fun g22=>?_) (fun g22=>?_)
 ·refine xl_gv rfl EvO.eq v_move ?_
  refine xl_gv rfl EvO.eq v_lss ?_
  refine xl_Pk ?_
  refine xl_nil ?_
  first | refine x_condP (fun c2=>?_) (fun c2=>?_) | refine x_condN (fun c2=>?_) (fun c2=>?_) | refine x_condE (fun c2=>?_) (fun c2=>?_)
  ·refine x_seq ?_
   refine x_regionL ?_
   refine xl_Lb ?_
   refine xl_s (e_storeA fun w8 l8 k8=>?_)
   refine xl_v v_assign ?_
   refine xl_nil ?_
   refine x_ret ?_
   refine finR (rs:=[.cell 4 34,.tmp 5]) rfl ?_
   refine stay _ 5 lkc (doNo_5 hname ⟨?_,?_⟩) (by decide)
   ·first
     | simpa using g22
     | skip
   ·rcases hfi with ⟨e,h2⟩ | ⟨k,hk,e,_⟩
    ·exact h2
    ·omega
  refine x_skip ?_
  refine x_seq ?_
  refine x_seq ?_
  have hthere:¬ (x.t.what≠0/\akey M.files x.t.name=none):=by
   rintro ⟨h1,h2⟩
   rcases hfi with ⟨e,_⟩ | ⟨k,hk,e,_,h3⟩
   ·first
     | omega
     | (simp at g22;omega)
     | (simp [h1] at g22;done)
     | (simp at c2;omega)
   ·rw [h3] at h2;cases h2
  haveI:RowB w7 A6 _ (l6.flatMap fileC):=rowB_of (hr6.ext (kpc:Keep NoB _ w7)).row.row
  refine x_drawL (NoB) (allS) (.take 0 (.take 1 (.take 2 (.take 3 (.take 4 (.take 5 (.take 6 (.take 7 (.take 8 (.take 9 (.take 10 (.take 11 (.take 12 (.take 13 (.take 14 (.take 15 (.take 16 (.take 17 (.take 18 .done))))))))))))))))))) mixed (by kernel_rfl) (fun _ _ _ _ _ h=>h) (fun w9 l9=>?_)
  refine xt_Fb rfl ?_
  refine xt_Lc rfl ?_
  refine xt_v rfl v_eql ?_
  refine xt_v rfl v_move ?_
  refine xt_split 30 (fun g30=>?_) (fun g30=>?_)
  ·obtain ⟨kf,hkf,hik,hnmf,hsomef⟩:∃ (k:Nat) (hk:k<l6.length),i=(k:Int)/\l6[k].1=x.t.name/\akey M.files x.t.name=some l6[k].2.bytes:=by
    rcases hfi with ⟨e,h2⟩ | hh
    ·exact absurd ⟨by first | (simp at g30;omega) | omega,h2⟩ hthere
    ·exact hh
   refine xt_gFb rfl rfl EvO.eq ?_
   refine xt_gLc rfl rfl EvO.eq ?_
   refine xt_gv rfl rfl EvO.eq v_lss ?_
   refine xt_gv rfl rfl EvO.eq v_move ?_
   refine xt_split 34 (fun g34=>?_) (fun g34=>?_)
   ·refine xt_gs rfl rfl EvO.eq ?_
    refine xt_gs rfl rfl EvO.eq ?_
    refine xt_gs rfl rfl EvO.eq ?_
    refine xt_gs rfl rfl EvO.eq ?_
    refine xt_gs rfl rfl EvO.eq ?_
    refine xt_gs rfl rfl EvO.eq ?_
    refine xt_gs rfl rfl EvO.eq ?_
    refine xt_gs rfl rfl EvO.eq ?_
    refine xt_gs rfl rfl EvO.eq ?_
    refine xt_gPk rfl rfl EvO.eq ?_
    refine xt_Pk rfl ?_
    refine xt_nil ?_
    refine x_condT ?_
    refine x_seq ?_
    refine x_regionL ?_
    refine xl_Lb ?_
    refine xl_s (e_storeA fun w10 l10 k10=>?_)
    refine xl_v v_assign ?_
    refine xl_nil ?_
    refine x_ret ?_
    refine finR (rs:=[.cell 4 34,.tmp 5]) rfl ?_
    exact stay _ 4 lkc (doNo_4 hname hthere ⟨by simpa using g30,by first | (left;simp at g34;exact g34) | (right;rw [hsomef];show (l6[kf].2.bytes.length:Int)<x.t.n;omega) | (right;rw [hsomef];simpa using c3)⟩) (by decide)
   refine xt_gFb rfl rfl EvO.eq ?_
   refine xt_gLc rfl rfl EvO.eq ?_
   refine xt_gv rfl rfl EvO.eq v_move ?_
   refine xt_gv rfl rfl EvO.eq v_move ?_
   refine xt_gv rfl rfl EvO.eq (v_indexF kf (by decide) hik (by omega) hkf) ?_
   refine xt_gFb rfl rfl EvO.eq ?_
   refine xt_gv rfl rfl EvO.eq (v_loadFf hkf) ?_
   refine xt_gv rfl rfl EvO.eq v_len ?_
   refine xt_gv rfl rfl EvO.eq v_gtr ?_
   refine xt_gPk rfl rfl EvO.eq ?_
   refine xt_Pk rfl ?_
   refine xt_nil ?_
   first | refine x_condP (fun c3=>?_) (fun c3=>?_) | refine x_condN (fun c3=>?_) (fun c3=>?_) | refine x_condE (fun c3=>?_) (fun c3=>?_)
   ·refine x_seq ?_
    refine x_regionL ?_
    refine xl_Lb ?_
    refine xl_s (e_storeA fun w11 l11 k11=>?_)
    refine xl_v v_assign ?_
    refine xl_nil ?_
    refine x_ret ?_
    refine finR (rs:=[.cell 4 34,.tmp 5]) rfl ?_
    exact stay _ 4 lkc (doNo_4 hname hthere ⟨by simpa using g30,by first | (left;simp at g34;exact g34) | (right;rw [hsomef];show (l6[kf].2.bytes.length:Int)<x.t.n;omega) | (right;rw [hsomef];simpa using c3)⟩) (by decide)
   refine x_skip ?_
   refine x_seq ?_
   refine x_seq ?_
   have hno4:¬ (x.t.what=1/\(x.t.n<0\/((akey M.files x.t.name).getD []).length<x.t.n)):=by
    rintro ⟨z1,z2⟩
    first
     | (simp [z1] at g30;done)
     | (rw [hsomef] at z2;simp at g34 c3 z2;omega)
   refine x_drawL (NoB) (allS) (.take 0 (.take 1 (.take 2 (.take 3 (.take 4 (.take 5 (.take 6 (.take 7 (.take 8 (.take 9 (.eff 10 (.take 11 (.take 12 (.take 13 .done)))))))))))))) mixed (by kernel_rfl) (fun _ _ _ _ _ h=>h) (fun w12 l12=>?_)
   refine xt_Fb rfl ?_
   refine xt_Lc rfl ?_
   refine xt_v rfl v_eql ?_
   refine xt_v rfl v_move ?_
   refine xt_split 50 (fun g50=>?_) (fun g50=>?_)
   ·refine xt_gFb rfl rfl EvO.eq ?_
    refine xt_gLc rfl rfl EvO.eq ?_
    refine xt_gv rfl rfl EvO.eq v_len ?_
    refine xt_gFb rfl rfl EvO.eq ?_
    refine xt_gLc rfl rfl EvO.eq ?_
    refine xt_gv rfl rfl EvO.eq v_move ?_
    refine xt_gcall rfl rfl EvO.eq (refused_ok A6 c6 l6 F6 w12 (hr6.ext (kpc:Keep NoB _ w12)) (by omega) (by rw [hf6];omega)) ?_
    rintro _ w13 ⟨rfl,lk3⟩
    refine ⟨kpc,?_⟩
    refine xt_gv rfl rfl EvO.eq (v_sub (by omega)) ?_
    refine xt_gv rfl rfl EvO.eq v_gtr ?_
    refine xt_Pk rfl ?_
    refine xt_nil ?_
    first | refine x_condP (fun c4=>?_) (fun c4=>?_) | refine x_condN (fun c4=>?_) (fun c4=>?_) | refine x_condE (fun c4=>?_) (fun c4=>?_)
    ·refine x_seq ?_
     refine x_regionL ?_
     refine xl_Lb ?_
     refine xl_s (e_storeA fun w14 l14 k14=>?_)
     refine xl_v v_assign ?_
     refine xl_nil ?_
     refine x_ret ?_
     refine finR (rs:=[.cell 4 34,.tmp 5]) rfl ?_
     exact stay _ 131 lkc (doNo_131 hname ⟨by simpa using g50,by omega⟩) (by decide)
    refine x_skip ?_
    refine x_seq ?_
    have hno131:¬ (x.t.what=0/\M.room - usedB M.files<x.t.bytes.length):=by
     rintro ⟨z1,z2⟩
     first
      | (simp [z1] at g50;done)
      | omega
    have hno:=doNo_0 hname hthere hno4 hno131
    refine x_drawL (NewS w13) (allS) (.take 1 (.take 2 (.take 4 (.fork 0 (.fork 3 (.eff 5 (.eff 6 (.take 7 (.last 8)))) 5 (.eff 3 (.eff 6 (.take 7 (.last 8))))) 5 (.eff 0 (.eff 3 (.eff 6 (.take 7 (.last 8))))))))) mixed (by kernel_rfl) (fun _ _ _ _ _ h=>h) (fun w15 l15=>?_)
    refine xt_Fb rfl ?_
    refine xt_Lc rfl ?_
    refine xt_Lb rfl ?_
    refine xt_fork ?_ ?_
    ·refine xt_e rfl (e_buildSlice0 fun b16 w16 n16 l16 k16=>?_)
     refine xt_fork ?_ ?_
     ·refine xt_e rfl (e_appE (by simp) (by decide) (by omega) (by omega) fun Ae ce w17 oe le ae fe=>?_)
      refine xt_e rfl (e_buildSlice1 rfl fun b18 w18 n18 l18 k18=>?_)
      refine xt_e rfl (e_app (by simp) (by decide) (by omega) (by omega) Ge.le fun Ac cc w19 oc lc ac fc=>?_)
      refine xt_Fb rfl ?_
      refine xt_lastS rfl (e_store fun w20 l20 k20=>?_)
      refine x_seq ?_
      refine x_regionL ?_
      refine xl_Lb ?_
      refine xl_s (e_storeA fun w21 l21 k21=>?_)
      refine xl_v v_assign ?_
      refine xl_nil ?_
      refine x_ret ?_
      refine finR (rs:=[.cell 4 34,.tmp 5]) rfl ?_
      obtain ⟨q1,q2⟩:=RefAt.snoc (x:=x) h (kpc:Keep NoB w w21) hx hxc rfl (OwnI.own:World.ownsRow w21 _ _ _ (.slice Ac _ cc) _ _) Ge.le
      exact ⟨⟨_,_,by rw [hno];simp [outV],hs.snoc hw hno hfew hb Ac cc,q1,q2⟩,lkc⟩
     refine xt_e rfl (e_buildSlice1 rfl fun b22 w22 n22 l22 k22=>?_)
     refine xt_e rfl (e_appE (by simp) (by decide) (by omega) (by omega) fun Ae ce w23 oe le ae fe=>?_)
     refine xt_e rfl (e_app (by simp) (by decide) (by omega) (by omega) Ge.le fun Ac cc w24 oc lc ac fc=>?_)
     refine xt_Fb rfl ?_
     refine xt_lastS rfl (e_store fun w25 l25 k25=>?_)
     refine x_seq ?_
     refine x_regionL ?_
     refine xl_Lb ?_
     refine xl_s (e_storeA fun w26 l26 k26=>?_)
     refine xl_v v_assign ?_
     refine xl_nil ?_
     refine x_ret ?_
     refine finR (rs:=[.cell 4 34,.tmp 5]) rfl ?_
     obtain ⟨q1,q2⟩:=RefAt.snoc (x:=x) h (kpc:Keep NoB w w26) hx hxc rfl (OwnI.own:World.ownsRow w26 _ _ _ (.slice Ac _ cc) _ _) Ge.le
     exact ⟨⟨_,_,by rw [hno];simp [outV],hs.snoc hw hno hfew hb Ac cc,q1,q2⟩,lkc⟩
    refine xt_e rfl (e_buildSlice1 rfl fun b27 w27 n27 l27 k27=>?_)
    refine xt_e rfl (e_buildSlice0 fun b28 w28 n28 l28 k28=>?_)
    refine xt_e rfl (e_appE (by simp) (by decide) (by omega) (by omega) fun Ae ce w29 oe le ae fe=>?_)
    refine xt_e rfl (e_app (by simp) (by decide) (by omega) (by omega) Ge.le fun Ac cc w30 oc lc ac fc=>?_)
    refine xt_Fb rfl ?_
    refine xt_lastS rfl (e_store fun w31 l31 k31=>?_)
    refine x_seq ?_
    refine x_regionL ?_
    refine xl_Lb ?_
    refine xl_s (e_storeA fun w32 l32 k32=>?_)
    refine xl_v v_assign ?_
    refine xl_nil ?_
    refine x_ret ?_
    refine finR (rs:=[.cell 4 34,.tmp 5]) rfl ?_
    obtain ⟨q1,q2⟩:=RefAt.snoc (x:=x) h (kpc:Keep NoB w w32) hx hxc rfl (OwnI.own:World.ownsRow w32 _ _ _ (.slice Ac _ cc) _ _) Ge.le
    exact ⟨⟨_,_,by rw [hno];simp [outV],hs.snoc hw hno hfew hb Ac cc,q1,q2⟩,lkc⟩
   refine xt_gs rfl rfl EvO.eq ?_
   refine xt_gs rfl rfl EvO.eq ?_
   refine xt_gs rfl rfl EvO.eq ?_
   refine xt_gs rfl rfl EvO.eq ?_
   refine xt_gs rfl rfl EvO.eq ?_
   refine xt_gs rfl rfl EvO.eq ?_
   refine xt_gse rfl rfl EvO.eq ?_
   refine xt_gs rfl rfl EvO.eq ?_
   refine xt_gs rfl rfl EvO.eq ?_
   refine xt_Pk rfl ?_
   refine xt_nil ?_
   refine x_condF ?_
   refine x_skip ?_
   refine x_seq ?_
   have hno131:¬ (x.t.what=0/\M.room - usedB M.files<x.t.bytes.length):=by
    rintro ⟨z1,z2⟩
    first
     | (simp [z1] at g50;done)
     | omega
   have hno:=doNo_0 hname hthere hno4 hno131
   refine x_drawL (NewS w12) (allS) (.take 1 (.take 2 (.take 4 (.fork 0 (.fork 3 (.eff 5 (.eff 6 (.take 7 (.last 8)))) 5 (.eff 3 (.eff 6 (.take 7 (.last 8))))) 5 (.eff 0 (.eff 3 (.eff 6 (.take 7 (.last 8))))))))) mixed (by kernel_rfl) (fun _ _ _ _ _ h=>h) (fun w33 l33=>?_)
   refine xt_Fb rfl ?_
   refine xt_Lc rfl ?_
   refine xt_Lb rfl ?_
   refine xt_fork ?_ ?_
   ·refine xt_e rfl (e_buildSlice0 fun b34 w34 n34 l34 k34=>?_)
    refine xt_fork ?_ ?_
    ·refine xt_e rfl (e_appE (by simp) (by decide) (by omega) (by omega) fun Ae ce w35 oe le ae fe=>?_)
     refine xt_e rfl (e_buildSlice1 rfl fun b36 w36 n36 l36 k36=>?_)
     refine xt_e rfl (e_app (by simp) (by decide) (by omega) (by omega) Ge.le fun Ac cc w37 oc lc ac fc=>?_)
     refine xt_Fb rfl ?_
     refine xt_lastS rfl (e_store fun w38 l38 k38=>?_)
     refine x_seq ?_
     refine x_regionL ?_
     refine xl_Lb ?_
     refine xl_s (e_storeA fun w39 l39 k39=>?_)
     refine xl_v v_assign ?_
     refine xl_nil ?_
     refine x_ret ?_
     refine finR (rs:=[.cell 4 34,.tmp 5]) rfl ?_
     obtain ⟨q1,q2⟩:=RefAt.snoc (x:=x) h (kpc:Keep NoB w w39) hx hxc rfl (OwnI.own:World.ownsRow w39 _ _ _ (.slice Ac _ cc) _ _) Ge.le
     exact ⟨⟨_,_,by rw [hno];simp [outV],hs.snoc hw hno hfew hb Ac cc,q1,q2⟩,lkc⟩
    refine xt_e rfl (e_buildSlice1 rfl fun b40 w40 n40 l40 k40=>?_)
    refine xt_e rfl (e_appE (by simp) (by decide) (by omega) (by omega) fun Ae ce w41 oe le ae fe=>?_)
    refine xt_e rfl (e_app (by simp) (by decide) (by omega) (by omega) Ge.le fun Ac cc w42 oc lc ac fc=>?_)
    refine xt_Fb rfl ?_
    refine xt_lastS rfl (e_store fun w43 l43 k43=>?_)
    refine x_seq ?_
    refine x_regionL ?_
    refine xl_Lb ?_
    refine xl_s (e_storeA fun w44 l44 k44=>?_)
    refine xl_v v_assign ?_
    refine xl_nil ?_
    refine x_ret ?_
    refine finR (rs:=[.cell 4 34,.tmp 5]) rfl ?_
    obtain ⟨q1,q2⟩:=RefAt.snoc (x:=x) h (kpc:Keep NoB w w44) hx hxc rfl (OwnI.own:World.ownsRow w44 _ _ _ (.slice Ac _ cc) _ _) Ge.le
    exact ⟨⟨_,_,by rw [hno];simp [outV],hs.snoc hw hno hfew hb Ac cc,q1,q2⟩,lkc⟩
   refine xt_e rfl (e_buildSlice1 rfl fun b45 w45 n45 l45 k45=>?_)
   refine xt_e rfl (e_buildSlice0 fun b46 w46 n46 l46 k46=>?_)
   refine xt_e rfl (e_appE (by simp) (by decide) (by omega) (by omega) fun Ae ce w47 oe le ae fe=>?_)
   refine xt_e rfl (e_app (by simp) (by decide) (by omega) (by omega) Ge.le fun Ac cc w48 oc lc ac fc=>?_)
   refine xt_Fb rfl ?_
   refine xt_lastS rfl (e_store fun w49 l49 k49=>?_)
   refine x_seq ?_
   refine x_regionL ?_
   refine xl_Lb ?_
   refine xl_s (e_storeA fun w50 l50 k50=>?_)
   refine xl_v v_assign ?_
   refine xl_nil ?_
   refine x_ret ?_
   refine finR (rs:=[.cell 4 34,.tmp 5]) rfl ?_
   obtain ⟨q1,q2⟩:=RefAt.snoc (x:=x) h (kpc:Keep NoB w w50) hx hxc rfl (OwnI.own:World.ownsRow w50 _ _ _ (.slice Ac _ cc) _ _) Ge.le
   exact ⟨⟨_,_,by rw [hno];simp [outV],hs.snoc hw hno hfew hb Ac cc,q1,q2⟩,lkc⟩
  refine xt_gs rfl rfl EvO.eq ?_
  refine xt_gs rfl rfl EvO.eq ?_
  refine xt_gs rfl rfl EvO.eq ?_
  refine xt_gs rfl rfl EvO.eq ?_
  refine xt_gu rfl rfl EvO.eq ?_
  refine xt_gu rfl rfl EvO.eq ?_
  refine xt_gu rfl rfl EvO.eq ?_
  refine xt_gu rfl rfl EvO.eq ?_
  refine xt_gu rfl rfl EvO.eq ?_
  refine xt_gu rfl rfl EvO.eq ?_
  refine xt_gu rfl rfl EvO.eq ?_
  refine xt_gu rfl rfl EvO.eq ?_
  refine xt_gu rfl rfl EvO.eq ?_
  refine xt_gs rfl rfl EvO.eq ?_
  refine xt_Pk rfl ?_
  refine xt_nil ?_
  refine x_condF ?_
  refine x_skip ?_
  refine x_seq ?_
  refine x_seq ?_
  have hno4:¬ (x.t.what=1/\(x.t.n<0\/((akey M.files x.t.name).getD []).length<x.t.n)):=by
   rintro ⟨z1,z2⟩
   first
    | (simp [z1] at g30;done)
    | (rw [hsomef] at z2;simp at g34 c3 z2;omega)
  refine x_drawL (NoB) (allS) (.take 0 (.take 1 (.take 2 (.take 3 (.take 4 (.take 5 (.take 6 (.take 7 (.take 8 (.take 9 (.eff 10 (.take 11 (.take 12 (.take 13 .done)))))))))))))) mixed (by kernel_rfl) (fun _ _ _ _ _ h=>h) (fun w51 l51=>?_)
  refine xt_Fb rfl ?_
  refine xt_Lc rfl ?_
  refine xt_v rfl v_eql ?_
  refine xt_v rfl v_move ?_
  refine xt_split 50 (fun g50=>?_) (fun g50=>?_)
  ·refine xt_gFb rfl rfl EvO.eq ?_
   refine xt_gLc rfl rfl EvO.eq ?_
   refine xt_gv rfl rfl EvO.eq v_len ?_
   refine xt_gFb rfl rfl EvO.eq ?_
   refine xt_gLc rfl rfl EvO.eq ?_
   refine xt_gv rfl rfl EvO.eq v_move ?_
   refine xt_gcall rfl rfl EvO.eq (refused_ok A6 c6 l6 F6 w51 (hr6.ext (kpc:Keep NoB _ w51)) (by omega) (by rw [hf6];omega)) ?_
   rintro _ w52 ⟨rfl,lk3⟩
   refine ⟨kpc,?_⟩
   refine xt_gv rfl rfl EvO.eq (v_sub (by omega)) ?_
   refine xt_gv rfl rfl EvO.eq v_gtr ?_
   refine xt_Pk rfl ?_
   refine xt_nil ?_
   first | refine x_condP (fun c4=>?_) (fun c4=>?_) | refine x_condN (fun c4=>?_) (fun c4=>?_) | refine x_condE (fun c4=>?_) (fun c4=>?_)
   ·refine x_seq ?_
    refine x_regionL ?_
    refine xl_Lb ?_
    refine xl_s (e_storeA fun w53 l53 k53=>?_)
    refine xl_v v_assign ?_
    refine xl_nil ?_
    refine x_ret ?_
    refine finR (rs:=[.cell 4 34,.tmp 5]) rfl ?_
    exact stay _ 131 lkc (doNo_131 hname ⟨by simpa using g50,by omega⟩) (by decide)
   refine x_skip ?_
   refine x_seq ?_
   have hno131:¬ (x.t.what=0/\M.room - usedB M.files<x.t.bytes.length):=by
    rintro ⟨z1,z2⟩
    first
     | (simp [z1] at g50;done)
     | omega
   have hno:=doNo_0 hname hthere hno4 hno131
   refine x_drawL (NewS w52) (allS) (.take 1 (.take 2 (.take 4 (.fork 0 (.fork 3 (.eff 5 (.eff 6 (.take 7 (.last 8)))) 5 (.eff 3 (.eff 6 (.take 7 (.last 8))))) 5 (.eff 0 (.eff 3 (.eff 6 (.take 7 (.last 8))))))))) mixed (by kernel_rfl) (fun _ _ _ _ _ h=>h) (fun w54 l54=>?_)
   refine xt_Fb rfl ?_
   refine xt_Lc rfl ?_
   refine xt_Lb rfl ?_
   refine xt_fork ?_ ?_
   ·refine xt_e rfl (e_buildSlice0 fun b55 w55 n55 l55 k55=>?_)
    refine xt_fork ?_ ?_
    ·refine xt_e rfl (e_appE (by simp) (by decide) (by omega) (by omega) fun Ae ce w56 oe le ae fe=>?_)
     refine xt_e rfl (e_buildSlice1 rfl fun b57 w57 n57 l57 k57=>?_)
     refine xt_e rfl (e_app (by simp) (by decide) (by omega) (by omega) Ge.le fun Ac cc w58 oc lc ac fc=>?_)
     refine xt_Fb rfl ?_
     refine xt_lastS rfl (e_store fun w59 l59 k59=>?_)
     refine x_seq ?_
     refine x_regionL ?_
     refine xl_Lb ?_
     refine xl_s (e_storeA fun w60 l60 k60=>?_)
     refine xl_v v_assign ?_
     refine xl_nil ?_
     refine x_ret ?_
     refine finR (rs:=[.cell 4 34,.tmp 5]) rfl ?_
     obtain ⟨q1,q2⟩:=RefAt.snoc (x:=x) h (kpc:Keep NoB w w60) hx hxc rfl (OwnI.own:World.ownsRow w60 _ _ _ (.slice Ac _ cc) _ _) Ge.le
     exact ⟨⟨_,_,by rw [hno];simp [outV],hs.snoc hw hno hfew hb Ac cc,q1,q2⟩,lkc⟩
    refine xt_e rfl (e_buildSlice1 rfl fun b61 w61 n61 l61 k61=>?_)
    refine xt_e rfl (e_appE (by simp) (by decide) (by omega) (by omega) fun Ae ce w62 oe le ae fe=>?_)
    refine xt_e rfl (e_app (by simp) (by decide) (by omega) (by omega) Ge.le fun Ac cc w63 oc lc ac fc=>?_)
    refine xt_Fb rfl ?_
    refine xt_lastS rfl (e_store fun w64 l64 k64=>?_)
    refine x_seq ?_
    refine x_regionL ?_
    refine xl_Lb ?_
    refine xl_s (e_storeA fun w65 l65 k65=>?_)
    refine xl_v v_assign ?_
    refine xl_nil ?_
    refine x_ret ?_
    refine finR (rs:=[.cell 4 34,.tmp 5]) rfl ?_
    obtain ⟨q1,q2⟩:=RefAt.snoc (x:=x) h (kpc:Keep NoB w w65) hx hxc rfl (OwnI.own:World.ownsRow w65 _ _ _ (.slice Ac _ cc) _ _) Ge.le
    exact ⟨⟨_,_,by rw [hno];simp [outV],hs.snoc hw hno hfew hb Ac cc,q1,q2⟩,lkc⟩
   refine xt_e rfl (e_buildSlice1 rfl fun b66 w66 n66 l66 k66=>?_)
   refine xt_e rfl (e_buildSlice0 fun b67 w67 n67 l67 k67=>?_)
   refine xt_e rfl (e_appE (by simp) (by decide) (by omega) (by omega) fun Ae ce w68 oe le ae fe=>?_)
   refine xt_e rfl (e_app (by simp) (by decide) (by omega) (by omega) Ge.le fun Ac cc w69 oc lc ac fc=>?_)
   refine xt_Fb rfl ?_
   refine xt_lastS rfl (e_store fun w70 l70 k70=>?_)
   refine x_seq ?_
   refine x_regionL ?_
   refine xl_Lb ?_
   refine xl_s (e_storeA fun w71 l71 k71=>?_)
   refine xl_v v_assign ?_
   refine xl_nil ?_
   refine x_ret ?_
   refine finR (rs:=[.cell 4 34,.tmp 5]) rfl ?_
   obtain ⟨q1,q2⟩:=RefAt.snoc (x:=x) h (kpc:Keep NoB w w71) hx hxc rfl (OwnI.own:World.ownsRow w71 _ _ _ (.slice Ac _ cc) _ _) Ge.le
   exact ⟨⟨_,_,by rw [hno];simp [outV],hs.snoc hw hno hfew hb Ac cc,q1,q2⟩,lkc⟩
  refine xt_gs rfl rfl EvO.eq ?_
  refine xt_gs rfl rfl EvO.eq ?_
  refine xt_gs rfl rfl EvO.eq ?_
  refine xt_gs rfl rfl EvO.eq ?_
  refine xt_gs rfl rfl EvO.eq ?_
  refine xt_gs rfl rfl EvO.eq ?_
  refine xt_gse rfl rfl EvO.eq ?_
  refine xt_gs rfl rfl EvO.eq ?_
  refine xt_gs rfl rfl EvO.eq ?_
  refine xt_Pk rfl ?_
  refine xt_nil ?_
  refine x_condF ?_
  refine x_skip ?_
  refine x_seq ?_
  have hno131:¬ (x.t.what=0/\M.room - usedB M.files<x.t.bytes.length):=by
   rintro ⟨z1,z2⟩
   first
    | (simp [z1] at g50;done)
    | omega
  have hno:=doNo_0 hname hthere hno4 hno131
  refine x_drawL (NewS w51) (allS) (.take 1 (.take 2 (.take 4 (.fork 0 (.fork 3 (.eff 5 (.eff 6 (.take 7 (.last 8)))) 5 (.eff 3 (.eff 6 (.take 7 (.last 8))))) 5 (.eff 0 (.eff 3 (.eff 6 (.take 7 (.last 8))))))))) mixed (by kernel_rfl) (fun _ _ _ _ _ h=>h) (fun w72 l72=>?_)
  refine xt_Fb rfl ?_
  refine xt_Lc rfl ?_
  refine xt_Lb rfl ?_
  refine xt_fork ?_ ?_
  ·refine xt_e rfl (e_buildSlice0 fun b73 w73 n73 l73 k73=>?_)
   refine xt_fork ?_ ?_
   ·refine xt_e rfl (e_appE (by simp) (by decide) (by omega) (by omega) fun Ae ce w74 oe le ae fe=>?_)
    refine xt_e rfl (e_buildSlice1 rfl fun b75 w75 n75 l75 k75=>?_)
    refine xt_e rfl (e_app (by simp) (by decide) (by omega) (by omega) Ge.le fun Ac cc w76 oc lc ac fc=>?_)
    refine xt_Fb rfl ?_
    refine xt_lastS rfl (e_store fun w77 l77 k77=>?_)
    refine x_seq ?_
    refine x_regionL ?_
    refine xl_Lb ?_
    refine xl_s (e_storeA fun w78 l78 k78=>?_)
    refine xl_v v_assign ?_
    refine xl_nil ?_
    refine x_ret ?_
    refine finR (rs:=[.cell 4 34,.tmp 5]) rfl ?_
    obtain ⟨q1,q2⟩:=RefAt.snoc (x:=x) h (kpc:Keep NoB w w78) hx hxc rfl (OwnI.own:World.ownsRow w78 _ _ _ (.slice Ac _ cc) _ _) Ge.le
    exact ⟨⟨_,_,by rw [hno];simp [outV],hs.snoc hw hno hfew hb Ac cc,q1,q2⟩,lkc⟩
   refine xt_e rfl (e_buildSlice1 rfl fun b79 w79 n79 l79 k79=>?_)
   refine xt_e rfl (e_appE (by simp) (by decide) (by omega) (by omega) fun Ae ce w80 oe le ae fe=>?_)
   refine xt_e rfl (e_app (by simp) (by decide) (by omega) (by omega) Ge.le fun Ac cc w81 oc lc ac fc=>?_)
   refine xt_Fb rfl ?_
   refine xt_lastS rfl (e_store fun w82 l82 k82=>?_)
   refine x_seq ?_
   refine x_regionL ?_
   refine xl_Lb ?_
   refine xl_s (e_storeA fun w83 l83 k83=>?_)
   refine xl_v v_assign ?_
   refine xl_nil ?_
   refine x_ret ?_
   refine finR (rs:=[.cell 4 34,.tmp 5]) rfl ?_
   obtain ⟨q1,q2⟩:=RefAt.snoc (x:=x) h (kpc:Keep NoB w w83) hx hxc rfl (OwnI.own:World.ownsRow w83 _ _ _ (.slice Ac _ cc) _ _) Ge.le
   exact ⟨⟨_,_,by rw [hno];simp [outV],hs.snoc hw hno hfew hb Ac cc,q1,q2⟩,lkc⟩
  refine xt_e rfl (e_buildSlice1 rfl fun b84 w84 n84 l84 k84=>?_)
  refine xt_e rfl (e_buildSlice0 fun b85 w85 n85 l85 k85=>?_)
  refine xt_e rfl (e_appE (by simp) (by decide) (by omega) (by omega) fun Ae ce w86 oe le ae fe=>?_)
  refine xt_e rfl (e_app (by simp) (by decide) (by omega) (by omega) Ge.le fun Ac cc w87 oc lc ac fc=>?_)
  refine xt_Fb rfl ?_
  refine xt_lastS rfl (e_store fun w88 l88 k88=>?_)
  refine x_seq ?_
  refine x_regionL ?_
  refine xl_Lb ?_
  refine xl_s (e_storeA fun w89 l89 k89=>?_)
  refine xl_v v_assign ?_
  refine xl_nil ?_
  refine x_ret ?_
  refine finR (rs:=[.cell 4 34,.tmp 5]) rfl ?_
  obtain ⟨q1,q2⟩:=RefAt.snoc (x:=x) h (kpc:Keep NoB w w89) hx hxc rfl (OwnI.own:World.ownsRow w89 _ _ _ (.slice Ac _ cc) _ _) Ge.le
  exact ⟨⟨_,_,by rw [hno];simp [outV],hs.snoc hw hno hfew hb Ac cc,q1,q2⟩,lkc⟩
 refine xl_gs rfl EvO.eq ?_
 refine xl_gs rfl EvO.eq ?_
 refine xl_Pk ?_
 refine xl_nil ?_
 refine x_condF ?_
 refine x_skip ?_
 refine x_seq ?_
 refine x_seq ?_
 have hthere:¬ (x.t.what≠0/\akey M.files x.t.name=none):=by
  rintro ⟨h1,h2⟩
  rcases hfi with ⟨e,_⟩ | ⟨k,hk,e,_,h3⟩
  ·first
    | omega
    | (simp at g22;omega)
    | (simp [h1] at g22;done)
    | (simp at c2;omega)
  ·rw [h3] at h2;cases h2
 haveI:RowB w7 A6 _ (l6.flatMap fileC):=rowB_of (hr6.ext (kpc:Keep NoB _ w7)).row.row
 refine x_drawL (NoB) (allS) (.take 0 (.take 1 (.take 2 (.take 3 (.take 4 (.take 5 (.take 6 (.take 7 (.take 8 (.take 9 (.take 10 (.take 11 (.take 12 (.take 13 (.take 14 (.take 15 (.take 16 (.take 17 (.take 18 .done))))))))))))))))))) mixed (by kernel_rfl) (fun _ _ _ _ _ h=>h) (fun w90 l90=>?_)
 refine xt_Fb rfl ?_
 refine xt_Lc rfl ?_
 refine xt_v rfl v_eql ?_
 refine xt_v rfl v_move ?_
 refine xt_split 30 (fun g30=>?_) (fun g30=>?_)
 ·obtain ⟨kf,hkf,hik,hnmf,hsomef⟩:∃ (k:Nat) (hk:k<l6.length),i=(k:Int)/\l6[k].1=x.t.name/\akey M.files x.t.name=some l6[k].2.bytes:=by
   rcases hfi with ⟨e,h2⟩ | hh
   ·exact absurd ⟨by first | (simp at g30;omega) | omega,h2⟩ hthere
   ·exact hh
  refine xt_gFb rfl rfl EvO.eq ?_
  refine xt_gLc rfl rfl EvO.eq ?_
  refine xt_gv rfl rfl EvO.eq v_lss ?_
  refine xt_gv rfl rfl EvO.eq v_move ?_
  refine xt_split 34 (fun g34=>?_) (fun g34=>?_)
  ·refine xt_gs rfl rfl EvO.eq ?_
   refine xt_gs rfl rfl EvO.eq ?_
   refine xt_gs rfl rfl EvO.eq ?_
   refine xt_gs rfl rfl EvO.eq ?_
   refine xt_gs rfl rfl EvO.eq ?_
   refine xt_gs rfl rfl EvO.eq ?_
   refine xt_gs rfl rfl EvO.eq ?_
   refine xt_gs rfl rfl EvO.eq ?_
   refine xt_gs rfl rfl EvO.eq ?_
   refine xt_gPk rfl rfl EvO.eq ?_
   refine xt_Pk rfl ?_
   refine xt_nil ?_
   refine x_condT ?_
   refine x_seq ?_
   refine x_regionL ?_
   refine xl_Lb ?_
   refine xl_s (e_storeA fun w91 l91 k91=>?_)
   refine xl_v v_assign ?_
   refine xl_nil ?_
   refine x_ret ?_
   refine finR (rs:=[.cell 4 34,.tmp 5]) rfl ?_
   exact stay _ 4 lkc (doNo_4 hname hthere ⟨by simpa using g30,by first | (left;simp at g34;exact g34) | (right;rw [hsomef];show (l6[kf].2.bytes.length:Int)<x.t.n;omega) | (right;rw [hsomef];simpa using c3)⟩) (by decide)
  refine xt_gFb rfl rfl EvO.eq ?_
  refine xt_gLc rfl rfl EvO.eq ?_
  refine xt_gv rfl rfl EvO.eq v_move ?_
  refine xt_gv rfl rfl EvO.eq v_move ?_
  refine xt_gv rfl rfl EvO.eq (v_indexF kf (by decide) hik (by omega) hkf) ?_
  refine xt_gFb rfl rfl EvO.eq ?_
  refine xt_gv rfl rfl EvO.eq (v_loadFf hkf) ?_
  refine xt_gv rfl rfl EvO.eq v_len ?_
  refine xt_gv rfl rfl EvO.eq v_gtr ?_
  refine xt_gPk rfl rfl EvO.eq ?_
  refine xt_Pk rfl ?_
  refine xt_nil ?_
  first | refine x_condP (fun c3=>?_) (fun c3=>?_) | refine x_condN (fun c3=>?_) (fun c3=>?_) | refine x_condE (fun c3=>?_) (fun c3=>?_)
  ·refine x_seq ?_
   refine x_regionL ?_
   refine xl_Lb ?_
   refine xl_s (e_storeA fun w92 l92 k92=>?_)
   refine xl_v v_assign ?_
   refine xl_nil ?_
   refine x_ret ?_
   refine finR (rs:=[.cell 4 34,.tmp 5]) rfl ?_
   exact stay _ 4 lkc (doNo_4 hname hthere ⟨by simpa using g30,by first | (left;simp at g34;exact g34) | (right;rw [hsomef];show (l6[kf].2.bytes.length:Int)<x.t.n;omega) | (right;rw [hsomef];simpa using c3)⟩) (by decide)
  refine x_skip ?_
  refine x_seq ?_
  refine x_seq ?_
  have hno4:¬ (x.t.what=1/\(x.t.n<0\/((akey M.files x.t.name).getD []).length<x.t.n)):=by
   rintro ⟨z1,z2⟩
   first
    | (simp [z1] at g30;done)
    | (rw [hsomef] at z2;simp at g34 c3 z2;omega)
  refine x_drawL (NoB) (allS) (.take 0 (.take 1 (.take 2 (.take 3 (.take 4 (.take 5 (.take 6 (.take 7 (.take 8 (.take 9 (.eff 10 (.take 11 (.take 12 (.take 13 .done)))))))))))))) mixed (by kernel_rfl) (fun _ _ _ _ _ h=>h) (fun w93 l93=>?_)
  refine xt_Fb rfl ?_
  refine xt_Lc rfl ?_
  refine xt_v rfl v_eql ?_
  refine xt_v rfl v_move ?_
  refine xt_split 50 (fun g50=>?_) (fun g50=>?_)
  ·refine xt_gFb rfl rfl EvO.eq ?_
   refine xt_gLc rfl rfl EvO.eq ?_
   refine xt_gv rfl rfl EvO.eq v_len ?_
   refine xt_gFb rfl rfl EvO.eq ?_
   refine xt_gLc rfl rfl EvO.eq ?_
   refine xt_gv rfl rfl EvO.eq v_move ?_
   refine xt_gcall rfl rfl EvO.eq (refused_ok A6 c6 l6 F6 w93 (hr6.ext (kpc:Keep NoB _ w93)) (by omega) (by rw [hf6];omega)) ?_
   rintro _ w94 ⟨rfl,lk3⟩
   refine ⟨kpc,?_⟩
   refine xt_gv rfl rfl EvO.eq (v_sub (by omega)) ?_
   refine xt_gv rfl rfl EvO.eq v_gtr ?_
   refine xt_Pk rfl ?_
   refine xt_nil ?_
   first | refine x_condP (fun c4=>?_) (fun c4=>?_) | refine x_condN (fun c4=>?_) (fun c4=>?_) | refine x_condE (fun c4=>?_) (fun c4=>?_)
   ·refine x_seq ?_
    refine x_regionL ?_
    refine xl_Lb ?_
    refine xl_s (e_storeA fun w95 l95 k95=>?_)
    refine xl_v v_assign ?_
    refine xl_nil ?_
    refine x_ret ?_
    refine finR (rs:=[.cell 4 34,.tmp 5]) rfl ?_
    exact stay _ 131 lkc (doNo_131 hname ⟨by simpa using g50,by omega⟩) (by decide)
   refine x_skip ?_
   refine x_seq ?_
   have hno131:¬ (x.t.what=0/\M.room - usedB M.files<x.t.bytes.length):=by
    rintro ⟨z1,z2⟩
    first
     | (simp [z1] at g50;done)
     | omega
   have hno:=doNo_0 hname hthere hno4 hno131
   refine x_drawL (NewS w94) (allS) (.take 1 (.take 2 (.take 4 (.fork 0 (.fork 3 (.eff 5 (.eff 6 (.take 7 (.last 8)))) 5 (.eff 3 (.eff 6 (.take 7 (.last 8))))) 5 (.eff 0 (.eff 3 (.eff 6 (.take 7 (.last 8))))))))) mixed (by kernel_rfl) (fun _ _ _ _ _ h=>h) (fun w96 l96=>?_)
   refine xt_Fb rfl ?_
   refine xt_Lc rfl ?_
   refine xt_Lb rfl ?_
   refine xt_fork ?_ ?_
   ·refine xt_e rfl (e_buildSlice0 fun b97 w97 n97 l97 k97=>?_)
    refine xt_fork ?_ ?_
    ·refine xt_e rfl (e_appE (by simp) (by decide) (by omega) (by omega) fun Ae ce w98 oe le ae fe=>?_)
     refine xt_e rfl (e_buildSlice1 rfl fun b99 w99 n99 l99 k99=>?_)
     refine xt_e rfl (e_app (by simp) (by decide) (by omega) (by omega) Ge.le fun Ac cc w100 oc lc ac fc=>?_)
     refine xt_Fb rfl ?_
     refine xt_lastS rfl (e_store fun w101 l101 k101=>?_)
     refine x_seq ?_
     refine x_regionL ?_
     refine xl_Lb ?_
     refine xl_s (e_storeA fun w102 l102 k102=>?_)
     refine xl_v v_assign ?_
     refine xl_nil ?_
     refine x_ret ?_
     refine finR (rs:=[.cell 4 34,.tmp 5]) rfl ?_
     obtain ⟨q1,q2⟩:=RefAt.snoc (x:=x) h (kpc:Keep NoB w w102) hx hxc rfl (OwnI.own:World.ownsRow w102 _ _ _ (.slice Ac _ cc) _ _) Ge.le
     exact ⟨⟨_,_,by rw [hno];simp [outV],hs.snoc hw hno hfew hb Ac cc,q1,q2⟩,lkc⟩
    refine xt_e rfl (e_buildSlice1 rfl fun b103 w103 n103 l103 k103=>?_)
    refine xt_e rfl (e_appE (by simp) (by decide) (by omega) (by omega) fun Ae ce w104 oe le ae fe=>?_)
    refine xt_e rfl (e_app (by simp) (by decide) (by omega) (by omega) Ge.le fun Ac cc w105 oc lc ac fc=>?_)
    refine xt_Fb rfl ?_
    refine xt_lastS rfl (e_store fun w106 l106 k106=>?_)
    refine x_seq ?_
    refine x_regionL ?_
    refine xl_Lb ?_
    refine xl_s (e_storeA fun w107 l107 k107=>?_)
    refine xl_v v_assign ?_
    refine xl_nil ?_
    refine x_ret ?_
    refine finR (rs:=[.cell 4 34,.tmp 5]) rfl ?_
    obtain ⟨q1,q2⟩:=RefAt.snoc (x:=x) h (kpc:Keep NoB w w107) hx hxc rfl (OwnI.own:World.ownsRow w107 _ _ _ (.slice Ac _ cc) _ _) Ge.le
    exact ⟨⟨_,_,by rw [hno];simp [outV],hs.snoc hw hno hfew hb Ac cc,q1,q2⟩,lkc⟩
   refine xt_e rfl (e_buildSlice1 rfl fun b108 w108 n108 l108 k108=>?_)
   refine xt_e rfl (e_buildSlice0 fun b109 w109 n109 l109 k109=>?_)
   refine xt_e rfl (e_appE (by simp) (by decide) (by omega) (by omega) fun Ae ce w110 oe le ae fe=>?_)
   refine xt_e rfl (e_app (by simp) (by decide) (by omega) (by omega) Ge.le fun Ac cc w111 oc lc ac fc=>?_)
   refine xt_Fb rfl ?_
   refine xt_lastS rfl (e_store fun w112 l112 k112=>?_)
   refine x_seq ?_
   refine x_regionL ?_
   refine xl_Lb ?_
   refine xl_s (e_storeA fun w113 l113 k113=>?_)
   refine xl_v v_assign ?_
   refine xl_nil ?_
   refine x_ret ?_
   refine finR (rs:=[.cell 4 34,.tmp 5]) rfl ?_
   obtain ⟨q1,q2⟩:=RefAt.snoc (x:=x) h (kpc:Keep NoB w w113) hx hxc rfl (OwnI.own:World.ownsRow w113 _ _ _ (.slice Ac _ cc) _ _) Ge.le
   exact ⟨⟨_,_,by rw [hno];simp [outV],hs.snoc hw hno hfew hb Ac cc,q1,q2⟩,lkc⟩
  refine xt_gs rfl rfl EvO.eq ?_
  refine xt_gs rfl rfl EvO.eq ?_
  refine xt_gs rfl rfl EvO.eq ?_
  refine xt_gs rfl rfl EvO.eq ?_
  refine xt_gs rfl rfl EvO.eq ?_
  refine xt_gs rfl rfl EvO.eq ?_
  refine xt_gse rfl rfl EvO.eq ?_
  refine xt_gs rfl rfl EvO.eq ?_
  refine xt_gs rfl rfl EvO.eq ?_
  refine xt_Pk rfl ?_
  refine xt_nil ?_
  refine x_condF ?_
  refine x_skip ?_
  refine x_seq ?_
  have hno131:¬ (x.t.what=0/\M.room - usedB M.files<x.t.bytes.length):=by
   rintro ⟨z1,z2⟩
   first
    | (simp [z1] at g50;done)
    | omega
  have hno:=doNo_0 hname hthere hno4 hno131
  refine x_drawL (NewS w93) (allS) (.take 1 (.take 2 (.take 4 (.fork 0 (.fork 3 (.eff 5 (.eff 6 (.take 7 (.last 8)))) 5 (.eff 3 (.eff 6 (.take 7 (.last 8))))) 5 (.eff 0 (.eff 3 (.eff 6 (.take 7 (.last 8))))))))) mixed (by kernel_rfl) (fun _ _ _ _ _ h=>h) (fun w114 l114=>?_)
  refine xt_Fb rfl ?_
  refine xt_Lc rfl ?_
  refine xt_Lb rfl ?_
  refine xt_fork ?_ ?_
  ·refine xt_e rfl (e_buildSlice0 fun b115 w115 n115 l115 k115=>?_)
   refine xt_fork ?_ ?_
   ·refine xt_e rfl (e_appE (by simp) (by decide) (by omega) (by omega) fun Ae ce w116 oe le ae fe=>?_)
    refine xt_e rfl (e_buildSlice1 rfl fun b117 w117 n117 l117 k117=>?_)
    refine xt_e rfl (e_app (by simp) (by decide) (by omega) (by omega) Ge.le fun Ac cc w118 oc lc ac fc=>?_)
    refine xt_Fb rfl ?_
    refine xt_lastS rfl (e_store fun w119 l119 k119=>?_)
    refine x_seq ?_
    refine x_regionL ?_
    refine xl_Lb ?_
    refine xl_s (e_storeA fun w120 l120 k120=>?_)
    refine xl_v v_assign ?_
    refine xl_nil ?_
    refine x_ret ?_
    refine finR (rs:=[.cell 4 34,.tmp 5]) rfl ?_
    obtain ⟨q1,q2⟩:=RefAt.snoc (x:=x) h (kpc:Keep NoB w w120) hx hxc rfl (OwnI.own:World.ownsRow w120 _ _ _ (.slice Ac _ cc) _ _) Ge.le
    exact ⟨⟨_,_,by rw [hno];simp [outV],hs.snoc hw hno hfew hb Ac cc,q1,q2⟩,lkc⟩
   refine xt_e rfl (e_buildSlice1 rfl fun b121 w121 n121 l121 k121=>?_)
   refine xt_e rfl (e_appE (by simp) (by decide) (by omega) (by omega) fun Ae ce w122 oe le ae fe=>?_)
   refine xt_e rfl (e_app (by simp) (by decide) (by omega) (by omega) Ge.le fun Ac cc w123 oc lc ac fc=>?_)
   refine xt_Fb rfl ?_
   refine xt_lastS rfl (e_store fun w124 l124 k124=>?_)
   refine x_seq ?_
   refine x_regionL ?_
   refine xl_Lb ?_
   refine xl_s (e_storeA fun w125 l125 k125=>?_)
   refine xl_v v_assign ?_
   refine xl_nil ?_
   refine x_ret ?_
   refine finR (rs:=[.cell 4 34,.tmp 5]) rfl ?_
   obtain ⟨q1,q2⟩:=RefAt.snoc (x:=x) h (kpc:Keep NoB w w125) hx hxc rfl (OwnI.own:World.ownsRow w125 _ _ _ (.slice Ac _ cc) _ _) Ge.le
   exact ⟨⟨_,_,by rw [hno];simp [outV],hs.snoc hw hno hfew hb Ac cc,q1,q2⟩,lkc⟩
  refine xt_e rfl (e_buildSlice1 rfl fun b126 w126 n126 l126 k126=>?_)
  refine xt_e rfl (e_buildSlice0 fun b127 w127 n127 l127 k127=>?_)
  refine xt_e rfl (e_appE (by simp) (by decide) (by omega) (by omega) fun Ae ce w128 oe le ae fe=>?_)
  refine xt_e rfl (e_app (by simp) (by decide) (by omega) (by omega) Ge.le fun Ac cc w129 oc lc ac fc=>?_)
  refine xt_Fb rfl ?_
  refine xt_lastS rfl (e_store fun w130 l130 k130=>?_)
  refine x_seq ?_
  refine x_regionL ?_
  refine xl_Lb ?_
  refine xl_s (e_storeA fun w131 l131 k131=>?_)
  refine xl_v v_assign ?_
  refine xl_nil ?_
  refine x_ret ?_
  refine finR (rs:=[.cell 4 34,.tmp 5]) rfl ?_
  obtain ⟨q1,q2⟩:=RefAt.snoc (x:=x) h (kpc:Keep NoB w w131) hx hxc rfl (OwnI.own:World.ownsRow w131 _ _ _ (.slice Ac _ cc) _ _) Ge.le
  exact ⟨⟨_,_,by rw [hno];simp [outV],hs.snoc hw hno hfew hb Ac cc,q1,q2⟩,lkc⟩
 refine xt_gs rfl rfl EvO.eq ?_
 refine xt_gs rfl rfl EvO.eq ?_
 refine xt_gs rfl rfl EvO.eq ?_
 refine xt_gs rfl rfl EvO.eq ?_
 refine xt_gu rfl rfl EvO.eq ?_
 refine xt_gu rfl rfl EvO.eq ?_
 refine xt_gu rfl rfl EvO.eq ?_
 refine xt_gu rfl rfl EvO.eq ?_
 refine xt_gu rfl rfl EvO.eq ?_
 refine xt_gu rfl rfl EvO.eq ?_
 refine xt_gu rfl rfl EvO.eq ?_
 refine xt_gu rfl rfl EvO.eq ?_
 refine xt_gu rfl rfl EvO.eq ?_
 refine xt_gs rfl rfl EvO.eq ?_
 refine xt_Pk rfl ?_
 refine xt_nil ?_
 refine x_condF ?_
 refine x_skip ?_
 refine x_seq ?_
 refine x_seq ?_
 have hno4:¬ (x.t.what=1/\(x.t.n<0\/((akey M.files x.t.name).getD []).length<x.t.n)):=by
  rintro ⟨z1,z2⟩
  first
   | (simp [z1] at g30;done)
   | (rw [hsomef] at z2;simp at g34 c3 z2;omega)
 refine x_drawL (NoB) (allS) (.take 0 (.take 1 (.take 2 (.take 3 (.take 4 (.take 5 (.take 6 (.take 7 (.take 8 (.take 9 (.eff 10 (.take 11 (.take 12 (.take 13 .done)))))))))))))) mixed (by kernel_rfl) (fun _ _ _ _ _ h=>h) (fun w132 l132=>?_)
 refine xt_Fb rfl ?_
 refine xt_Lc rfl ?_
 refine xt_v rfl v_eql ?_
 refine xt_v rfl v_move ?_
 refine xt_split 50 (fun g50=>?_) (fun g50=>?_)
 ·refine xt_gFb rfl rfl EvO.eq ?_
  refine xt_gLc rfl rfl EvO.eq ?_
  refine xt_gv rfl rfl EvO.eq v_len ?_
  refine xt_gFb rfl rfl EvO.eq ?_
  refine xt_gLc rfl rfl EvO.eq ?_
  refine xt_gv rfl rfl EvO.eq v_move ?_
  refine xt_gcall rfl rfl EvO.eq (refused_ok A6 c6 l6 F6 w132 (hr6.ext (kpc:Keep NoB _ w132)) (by omega) (by rw [hf6];omega)) ?_
  rintro _ w133 ⟨rfl,lk3⟩
  refine ⟨kpc,?_⟩
  refine xt_gv rfl rfl EvO.eq (v_sub (by omega)) ?_
  refine xt_gv rfl rfl EvO.eq v_gtr ?_
  refine xt_Pk rfl ?_
  refine xt_nil ?_
  first | refine x_condP (fun c4=>?_) (fun c4=>?_) | refine x_condN (fun c4=>?_) (fun c4=>?_) | refine x_condE (fun c4=>?_) (fun c4=>?_)
  ·refine x_seq ?_
   refine x_regionL ?_
   refine xl_Lb ?_
   refine xl_s (e_storeA fun w134 l134 k134=>?_)
   refine xl_v v_assign ?_
   refine xl_nil ?_
   refine x_ret ?_
   refine finR (rs:=[.cell 4 34,.tmp 5]) rfl ?_
   exact stay _ 131 lkc (doNo_131 hname ⟨by simpa using g50,by omega⟩) (by decide)
  refine x_skip ?_
  refine x_seq ?_
  have hno131:¬ (x.t.what=0/\M.room - usedB M.files<x.t.bytes.length):=by
   rintro ⟨z1,z2⟩
   first
    | (simp [z1] at g50;done)
    | omega
  have hno:=doNo_0 hname hthere hno4 hno131
  refine x_drawL (NewS w133) (allS) (.take 1 (.take 2 (.take 4 (.fork 0 (.fork 3 (.eff 5 (.eff 6 (.take 7 (.last 8)))) 5 (.eff 3 (.eff 6 (.take 7 (.last 8))))) 5 (.eff 0 (.eff 3 (.eff 6 (.take 7 (.last 8))))))))) mixed (by kernel_rfl) (fun _ _ _ _ _ h=>h) (fun w135 l135=>?_)
  refine xt_Fb rfl ?_
  refine xt_Lc rfl ?_
  refine xt_Lb rfl ?_
  refine xt_fork ?_ ?_
  ·refine xt_e rfl (e_buildSlice0 fun b136 w136 n136 l136 k136=>?_)
   refine xt_fork ?_ ?_
   ·refine xt_e rfl (e_appE (by simp) (by decide) (by omega) (by omega) fun Ae ce w137 oe le ae fe=>?_)
    refine xt_e rfl (e_buildSlice1 rfl fun b138 w138 n138 l138 k138=>?_)
    refine xt_e rfl (e_app (by simp) (by decide) (by omega) (by omega) Ge.le fun Ac cc w139 oc lc ac fc=>?_)
    refine xt_Fb rfl ?_
    refine xt_lastS rfl (e_store fun w140 l140 k140=>?_)
    refine x_seq ?_
    refine x_regionL ?_
    refine xl_Lb ?_
    refine xl_s (e_storeA fun w141 l141 k141=>?_)
    refine xl_v v_assign ?_
    refine xl_nil ?_
    refine x_ret ?_
    refine finR (rs:=[.cell 4 34,.tmp 5]) rfl ?_
    obtain ⟨q1,q2⟩:=RefAt.snoc (x:=x) h (kpc:Keep NoB w w141) hx hxc rfl (OwnI.own:World.ownsRow w141 _ _ _ (.slice Ac _ cc) _ _) Ge.le
    exact ⟨⟨_,_,by rw [hno];simp [outV],hs.snoc hw hno hfew hb Ac cc,q1,q2⟩,lkc⟩
   refine xt_e rfl (e_buildSlice1 rfl fun b142 w142 n142 l142 k142=>?_)
   refine xt_e rfl (e_appE (by simp) (by decide) (by omega) (by omega) fun Ae ce w143 oe le ae fe=>?_)
   refine xt_e rfl (e_app (by simp) (by decide) (by omega) (by omega) Ge.le fun Ac cc w144 oc lc ac fc=>?_)
   refine xt_Fb rfl ?_
   refine xt_lastS rfl (e_store fun w145 l145 k145=>?_)
   refine x_seq ?_
   refine x_regionL ?_
   refine xl_Lb ?_
   refine xl_s (e_storeA fun w146 l146 k146=>?_)
   refine xl_v v_assign ?_
   refine xl_nil ?_
   refine x_ret ?_
   refine finR (rs:=[.cell 4 34,.tmp 5]) rfl ?_
   obtain ⟨q1,q2⟩:=RefAt.snoc (x:=x) h (kpc:Keep NoB w w146) hx hxc rfl (OwnI.own:World.ownsRow w146 _ _ _ (.slice Ac _ cc) _ _) Ge.le
   exact ⟨⟨_,_,by rw [hno];simp [outV],hs.snoc hw hno hfew hb Ac cc,q1,q2⟩,lkc⟩
  refine xt_e rfl (e_buildSlice1 rfl fun b147 w147 n147 l147 k147=>?_)
  refine xt_e rfl (e_buildSlice0 fun b148 w148 n148 l148 k148=>?_)
  refine xt_e rfl (e_appE (by simp) (by decide) (by omega) (by omega) fun Ae ce w149 oe le ae fe=>?_)
  refine xt_e rfl (e_app (by simp) (by decide) (by omega) (by omega) Ge.le fun Ac cc w150 oc lc ac fc=>?_)
  refine xt_Fb rfl ?_
  refine xt_lastS rfl (e_store fun w151 l151 k151=>?_)
  refine x_seq ?_
  refine x_regionL ?_
  refine xl_Lb ?_
  refine xl_s (e_storeA fun w152 l152 k152=>?_)
  refine xl_v v_assign ?_
  refine xl_nil ?_
  refine x_ret ?_
  refine finR (rs:=[.cell 4 34,.tmp 5]) rfl ?_
  obtain ⟨q1,q2⟩:=RefAt.snoc (x:=x) h (kpc:Keep NoB w w152) hx hxc rfl (OwnI.own:World.ownsRow w152 _ _ _ (.slice Ac _ cc) _ _) Ge.le
  exact ⟨⟨_,_,by rw [hno];simp [outV],hs.snoc hw hno hfew hb Ac cc,q1,q2⟩,lkc⟩
 refine xt_gs rfl rfl EvO.eq ?_
 refine xt_gs rfl rfl EvO.eq ?_
 refine xt_gs rfl rfl EvO.eq ?_
 refine xt_gs rfl rfl EvO.eq ?_
 refine xt_gs rfl rfl EvO.eq ?_
 refine xt_gs rfl rfl EvO.eq ?_
 refine xt_gse rfl rfl EvO.eq ?_
 refine xt_gs rfl rfl EvO.eq ?_
 refine xt_gs rfl rfl EvO.eq ?_
 refine xt_Pk rfl ?_
 refine xt_nil ?_
 refine x_condF ?_
 refine x_skip ?_
 refine x_seq ?_
 have hno131:¬ (x.t.what=0/\M.room - usedB M.files<x.t.bytes.length):=by
  rintro ⟨z1,z2⟩
  first
   | (simp [z1] at g50;done)
   | omega
 have hno:=doNo_0 hname hthere hno4 hno131
 refine x_drawL (NewS w132) (allS) (.take 1 (.take 2 (.take 4 (.fork 0 (.fork 3 (.eff 5 (.eff 6 (.take 7 (.last 8)))) 5 (.eff 3 (.eff 6 (.take 7 (.last 8))))) 5 (.eff 0 (.eff 3 (.eff 6 (.take 7 (.last 8))))))))) mixed (by kernel_rfl) (fun _ _ _ _ _ h=>h) (fun w153 l153=>?_)
 refine xt_Fb rfl ?_
 refine xt_Lc rfl ?_
 refine xt_Lb rfl ?_
 refine xt_fork ?_ ?_
 ·refine xt_e rfl (e_buildSlice0 fun b154 w154 n154 l154 k154=>?_)
  refine xt_fork ?_ ?_
  ·refine xt_e rfl (e_appE (by simp) (by decide) (by omega) (by omega) fun Ae ce w155 oe le ae fe=>?_)
   refine xt_e rfl (e_buildSlice1 rfl fun b156 w156 n156 l156 k156=>?_)
   refine xt_e rfl (e_app (by simp) (by decide) (by omega) (by omega) Ge.le fun Ac cc w157 oc lc ac fc=>?_)
   refine xt_Fb rfl ?_
   refine xt_lastS rfl (e_store fun w158 l158 k158=>?_)
   refine x_seq ?_
   refine x_regionL ?_
   refine xl_Lb ?_
   refine xl_s (e_storeA fun w159 l159 k159=>?_)
   refine xl_v v_assign ?_
   refine xl_nil ?_
   refine x_ret ?_
   refine finR (rs:=[.cell 4 34,.tmp 5]) rfl ?_
   obtain ⟨q1,q2⟩:=RefAt.snoc (x:=x) h (kpc:Keep NoB w w159) hx hxc rfl (OwnI.own:World.ownsRow w159 _ _ _ (.slice Ac _ cc) _ _) Ge.le
   exact ⟨⟨_,_,by rw [hno];simp [outV],hs.snoc hw hno hfew hb Ac cc,q1,q2⟩,lkc⟩
  refine xt_e rfl (e_buildSlice1 rfl fun b160 w160 n160 l160 k160=>?_)
  refine xt_e rfl (e_appE (by simp) (by decide) (by omega) (by omega) fun Ae ce w161 oe le ae fe=>?_)
  refine xt_e rfl (e_app (by simp) (by decide) (by omega) (by omega) Ge.le fun Ac cc w162 oc lc ac fc=>?_)
  refine xt_Fb rfl ?_
  refine xt_lastS rfl (e_store fun w163 l163 k163=>?_)
  refine x_seq ?_
  refine x_regionL ?_
  refine xl_Lb ?_
  refine xl_s (e_storeA fun w164 l164 k164=>?_)
  refine xl_v v_assign ?_
  refine xl_nil ?_
  refine x_ret ?_
  refine finR (rs:=[.cell 4 34,.tmp 5]) rfl ?_
  obtain ⟨q1,q2⟩:=RefAt.snoc (x:=x) h (kpc:Keep NoB w w164) hx hxc rfl (OwnI.own:World.ownsRow w164 _ _ _ (.slice Ac _ cc) _ _) Ge.le
  exact ⟨⟨_,_,by rw [hno];simp [outV],hs.snoc hw hno hfew hb Ac cc,q1,q2⟩,lkc⟩
 refine xt_e rfl (e_buildSlice1 rfl fun b165 w165 n165 l165 k165=>?_)
 refine xt_e rfl (e_buildSlice0 fun b166 w166 n166 l166 k166=>?_)
 refine xt_e rfl (e_appE (by simp) (by decide) (by omega) (by omega) fun Ae ce w167 oe le ae fe=>?_)
 refine xt_e rfl (e_app (by simp) (by decide) (by omega) (by omega) Ge.le fun Ac cc w168 oc lc ac fc=>?_)
 refine xt_Fb rfl ?_
 refine xt_lastS rfl (e_store fun w169 l169 k169=>?_)
 refine x_seq ?_
 refine x_regionL ?_
 refine xl_Lb ?_
 refine xl_s (e_storeA fun w170 l170 k170=>?_)
 refine xl_v v_assign ?_
 refine xl_nil ?_
 refine x_ret ?_
 refine finR (rs:=[.cell 4 34,.tmp 5]) rfl ?_
 obtain ⟨q1,q2⟩:=RefAt.snoc (x:=x) h (kpc:Keep NoB w w170) hx hxc rfl (OwnI.own:World.ownsRow w170 _ _ _ (.slice Ac _ cc) _ _) Ge.le
 exact ⟨⟨_,_,by rw [hno];simp [outV],hs.snoc hw hno hfew hb Ac cc,q1,q2⟩,lkc⟩
end Go.Proofs.YtigmfcgeljjgnaaGreatDoor
