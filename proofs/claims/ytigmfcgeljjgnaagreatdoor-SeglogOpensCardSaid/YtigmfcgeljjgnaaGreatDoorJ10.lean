/- A part of the walks through the log and its document, and of the law in plain Lean: GE GF GL. -/
import Derived.Test.YtigmfcgeljjgnaaGreatDoorJ09
set_option linter.all false
set_option maxRecDepth 100000
set_option synthInstance.maxSize 100000
set_option synthInstance.maxHeartbeats 400000
namespace Go.Proofs.YtigmfcgeljjgnaaGreatDoor
open Go.Wst
open Go.Wst.Dm Go.Wst.Sg
theorem frames_snoc (l:List En) (e:En):frames (l++[e])=frames l++(le4 (sumW (body e))++[UInt8.ofNat (body e).length]++body e):=by simp [frames,frame,framed]
theorem frames_len {l:List En} (h:∀ e∈l,Right e):(frames l).length<=40*l.length:=by
 induction l with
 | nil=>simp [frames]
 | cons e l ih=>
   have h1:=(frame_len (h e List.mem_cons_self)).2
   have h2:=ih (fun x hx=>h x (List.mem_cons_of_mem _ hx))
   simp [frames] at h2 ⊢
   omega
theorem le4_0 (x:W32):IntKind.u8.wrap (x.toNat:Int)=((le4 x)[0]'(by show 0<4;omega):UInt8).toNat:=by
 have:=le4_get x 0 (by show 0<4;omega)
 simpa using this.symm
set_option maxHeartbeats 2000000 in
theorem frames_ok (A:Option Addr) (n c:Nat) (l:List En) (w:World) [hra:RowB w A w (l.flatMap enC)] (hl:l.length=n) (hn:n<=1000000) (hR:∀ e∈l,Right e):Ret Tryz.prog 92 #[.slice A n c] w (fun v w'=>(∃ A' c',v=.tuple #[.slice A' (frames l).length c',.int .i64 0]/\w'.ownsRow w.heap.size 5 1 (.slice A' (frames l).length c') (frames l).length (bytesC (frames l)))/\Lk w' w NoB):=by
 refine ret_of_x (N:=61) (l:=[.slice A n c]) Tryz.func92 rfl rfl (Nat.le_of_ble_eq_true rfl) ?_
 refine xq (xa (xz ?_))
 refine xq (xz ?_)
 refine x_seq (xq (xm (xl_v v_len (xm (xl_nil ?_)))))
 refine x_block ?_
 refine x_loop (fun t τ ds w'=>ds=[]/\∃ (k:Nat) (V:Value),t=n - k/\k<=n/\w'.ownsRow w.heap.size 5 1 V (frames (l.take k)).length (bytesC (frames (l.take k)))/\Ev τ 4 V/\Ev τ 12 (.slice A n c)/\Ev τ 13 (.int .i64 (n:Int))/\Ev τ 14 (.int .i64 (k:Int))/\Lk w' w NoB) (n) ?start ?round
 case start=>
  exact ⟨rfl,0,_,rfl,Nat.zero_le _,World.ownsRow_nil _ _ _ _,ii,ii,ii,evc,lkc⟩
 case round=>
  intro m τ1 ds1 w1 hI
  obtain ⟨rfl,k,V,rfl,hk,hown,e4,e12,e13,e14,lk⟩:=hI
  obtain ⟨AV,cV,rfl,_⟩:=ownsRow_form hown
  refine xq (xl_v v_lss (xl_nil ?_))
  refine x_seq ?_
  refine x_if (fun c1=>?_) (fun c1=>?_)
  ·have hk1:k<l.length:=by omega
   have hRk:=hR _ (List.getElem_mem hk1)
   have hbl:=body_len hRk
   have hfl:=frames_len (l:=l.take k) (fun e he=>hR e (List.mem_of_mem_take he))
   have hftk:(l.take k).length<=1000000:=by rw [List.length_take];omega
   refine x_skip (x_seq (x_block (xq ?_)))
   refine xl_v (v_indexF k (by decide) rfl (by omega) hk1) ?_
   refine xl_v (v_loadF (k:=k) (by decide) hk1) ?_
   refine xl_e (e_alloc fun b6 w2 n6 l6 k6=>?_)
   refine xl_s (e_storeA fun w3 l3 k3=>?_)
   refine xl_nil ?_
   refine x_seq (xq (xl_Lb ?_))
   refine xl_call (check_ok l[k] w3) ?_
   rintro _ w4 ⟨rfl,lk5⟩
   rw [if_pos hRk]
   refine xz ?_
   refine xq (xm ?_)
   refine xl_v (v_neqF rfl) ?_
   refine xl_nil ?_
   refine x_condF ?_
   refine x_skip (xq (xz ?_))
   refine x_seq (xq ?_)
   refine xl_call (parts_ok w4) ?_
   rintro _ w5 ⟨⟨b2,b3,rfl,hb2,hb3,hg2,hg3⟩,lk9⟩
   haveI kb2:Blk w5 b2 _:=⟨hb2⟩
   haveI kb3:Blk w5 b3 _:=⟨hb3⟩
   refine xm (xl_nil ?_)
   refine x_block ?_
   obtain ⟨wL,hwL⟩:∃ x,x=w5:=⟨_,rfl⟩
   have hgL:(w1).heap.size<=wL.heap.size:=by rw [hwL];exact Ge.le
   have lkLB:Lk wL w1 NoB:=⟨by rw [hwL];exact kpc⟩
   haveI kb6L:Blk wL b6 (.cells (enC l[k]).toArray 84 (0,0)):=⟨by rw [hwL];exact Blk.eq⟩
   haveI kb2L:Blk wL b2 (.cells #[fnV 128] 113 (0,0)):=⟨by rw [hwL];exact Blk.eq⟩
   haveI kb3L:Blk wL b3 (.cells #[fnV 129] 113 (0,0)):=⟨by rw [hwL];exact Blk.eq⟩
   have hownL:wL.ownsRow w.heap.size 5 1 (.slice AV (frames (l.take k)).length cV) (frames (l.take k)).length (bytesC (frames (l.take k))):=by rw [hwL];exact own_ext hown lkc
   refine x_loop (fun t τ ds w'=>ds=[]/\∃ (j:Nat) (V2:Value),t=6 - j/\j<=6/\w'.ownsRow wL.heap.size 5 1 V2 (bodyTo l[k] j).length (bytesC (bodyTo l[k] j))/\Ev τ 4 (.slice AV (frames (l.take k)).length cV)/\Ev τ 6 (.pointer (some ⟨b6,0,none⟩))/\Ev τ 8 V2/\Ev τ 12 (.slice A n c)/\Ev τ 13 (.int .i64 (n:Int))/\Ev τ 14 (.int .i64 (k:Int))/\Ev τ 23 (.agg (partsC b2 b3).toArray)/\Ev τ 24 (.int .i64 (j:Int))/\Lk w' wL NoB) (6) ?start ?round
   case start=>
    exact ⟨rfl,0,.slice none 0 0,rfl,Nat.zero_le _,World.ownsRow_nil _ _ _ _,ii,ii,ii,ii,ii,ii,ii,evc,by rw [hwL];exact lkc⟩
   case round=>
    intro m τ6 ds6 w6 hI
    clear hown e4 e12 e13 e14
    obtain ⟨rfl,j,V2,rfl,hj,hown2,e4,e6,e8,e12,e13,e14,e23,e24,lk2⟩:=hI
    obtain ⟨A2,c2,rfl,_⟩:=ownsRow_form hown2
    haveI:=lkLB
    refine xq (xl_v v_lss (xl_nil ?_))
    refine x_seq ?_
    refine x_if (fun c3=>?_) (fun c3=>?_)
    ·have hj1:j<6:=by omega
     have hbj:=bodyTo_len hRk (j:=j) (by omega)
     haveI:=ownN_of hown2 (Nat.le_refl _)
     refine x_skip (x_seq (x_block (xq ?_)))
     refine xl_v (v_indexGM (us:=partC b2 b3 j) j rfl hj1 (partsC_get b2 b3 j hj1)) ?_
     refine xl_e (e_alloc fun b10 w7 n10 l10 k10=>?_)
     refine xl_s (e_storeA fun w8 l8 k8=>?_)
     refine xl_nil ?_
     refine xq (xl_Fb ?_)
     refine xl_Lc ?_
     refine xl_Lb ?_
     refine xl_callv (has_ok l[k] b2 b3 j w8 Blk.eq Blk.eq hj1) ?_
     rintro _ w9 ⟨rfl,lk12⟩
     refine xl_nil ?_
     refine x_condE (fun c4=>?_) (fun c4=>?_)
     ·refine x_regionL (xl_Fb ?_)
      refine xl_Lc ?_
      refine xm (xl_Lb ?_)
      refine xl_callv (wr_ok _ _ _ l[k] wL.heap.size j w9 (own_ext hown2 lkc) (Nat.le_trans lk2.keep.size Ge.le) (by omega) hRk hj1 c4) ?_
      rintro _ w10 ⟨⟨A3,c3',rfl,ho3,hf3⟩,lk13⟩
      have hown3:World.ownsRow w10 wL.heap.size 5 1 (.slice A3 ((bodyTo l[k] j).length+(wrB l[k] j).length) c3') (bodyTo l[k] (j+1)).length (bytesC (bodyTo l[k] (j+1))):=by
       rw [bodyTo_succ,if_pos c4,List.length_append]
       exact ho3
      refine xz ?_
      refine x_regionL ?_
      refine xl_v (v_add (by omega)) ?_
      refine xm (xl_nil ?_)
      refine ⟨_,?_,rfl,j+1,_,rfl,by omega,hown3,ii,ii,ii,ii,ii,ii,ii,evc,lkc⟩
      omega
     have hown3:World.ownsRow w9 wL.heap.size 5 1 (.slice A2 (bodyTo l[k] j).length c2) (bodyTo l[k] (j+1)).length (bytesC (bodyTo l[k] (j+1))):=by
      rw [bodyTo_succ,if_neg (by rw [c4];decide),List.append_nil]
      exact own_ext hown2 lkc
     refine x_skip (x_regionL ?_)
     refine xl_v (v_add (by omega)) ?_
     refine xm (xl_nil ?_)
     refine ⟨_,?_,rfl,j+1,_,rfl,by omega,hown3,ii,ii,ii,ii,ii,ii,ii,evc,lkc⟩
     omega
    have hj6:j=6:=by omega
    subst hj6
    rw [bodyTo_all] at hown2 e8
    obtain ⟨s,hs⟩:∃ s,s=sumW (body l[k]):=⟨_,rfl⟩
    haveI oB:OwnI w6 A2 _ _ _ _ _ _ _:=⟨hown2⟩
    refine x_exit (xq (xm ?_))
    refine xl_call (sum_ok A2 (body l[k]).length c2 (body l[k]) w6 rfl (by omega)) ?_
    rintro _ w11 ⟨rfl,lk15⟩
    rw [<- hs]
    refine xz ?_
    refine xq (xm (xm ?_))
    refine xl_v (v_congr (u:=.int .u8 (((le4 s)[0]'(by show 0<4;omega)).toNat:Int)) v_convert (congrArg (Value.int .u8) (le4_0 s))) ?_
    refine xm ?_
    refine xl_v (v_congr (u:=.int .u32 ((s >>> (8*1)).toNat:Int)) (v_shr (by omega)) (congrArg (Value.int .u32) (shrW s 8 (by omega)))) ?_
    refine xl_v (v_congr (u:=.int .u8 (((le4 s)[1]'(by show 1<4;omega)).toNat:Int)) v_convert (congrArg (Value.int .u8) (le4_get s 1 (by show 1<4;omega)).symm)) ?_
    refine xm ?_
    refine xl_v (v_congr (u:=.int .u32 ((s >>> (8*2)).toNat:Int)) (v_shr (by omega)) (congrArg (Value.int .u32) (shrW s 16 (by omega)))) ?_
    refine xl_v (v_congr (u:=.int .u8 (((le4 s)[2]'(by show 2<4;omega)).toNat:Int)) v_convert (congrArg (Value.int .u8) (le4_get s 2 (by show 2<4;omega)).symm)) ?_
    refine xm ?_
    refine xl_v (v_congr (u:=.int .u32 ((s >>> (8*3)).toNat:Int)) (v_shr (by omega)) (congrArg (Value.int .u32) (shrW s 24 (by omega)))) ?_
    refine xl_v (v_congr (u:=.int .u8 (((le4 s)[3]'(by show 3<4;omega)).toNat:Int)) v_convert (congrArg (Value.int .u8) (le4_get s 3 (by show 3<4;omega)).symm)) ?_
    refine xm (xl_v v_len ?_)
    refine xl_v (v_congr (u:=.int .u8 ((UInt8.ofNat (body l[k]).length).toNat:Int)) v_convert (congrArg (Value.int .u8) (byte_of _ (by omega)))) ?_
    refine xl_e (e_buildSliceN rfl fun b15 w12 n15 l15 k15=>?_)
    haveI:=ownN_of hownL (Nat.le_refl _)
    have hge16:w.heap.size<=(w12).heap.size:=Nat.le_trans (Nat.le_trans lk.keep.size hgL) (Nat.le_trans lk2.keep.size Ge.le)
    refine xl_e (e_append' (own_ext (own_ext hownL lk2) lkc) hge16 rfl Cell1L.eq (by decide) (.inl rfl) (by omega) (by omega) fun A16 c16 w13 ho16 l16 hn16=>?_)
    refine xz ?_
    refine x_regionL (xm (xm ?_))
    haveI:RowOut (OwnB (.slice AV (frames (l.take k)).length cV)) A2:=⟨fun a ha e=>by
     have h1:=own_blk hown2 a ha
     have e':some a.block=(Value.slice AV (frames (l.take k)).length cV).ownBlock:=e
     cases AV with
     | none=>simp [Value.ownBlock] at e'
     | some x=>
       have h2:=own_blk hownL x rfl
       simp [Value.ownBlock] at e'
       omega⟩
    haveI:=ownN_of ho16 (Nat.le_refl _)
    haveI oO:OwnI w13 A16 _ _ _ _ _ _ _:=⟨ho16⟩
    refine xl_e (e_append' ho16 (Nat.le_trans hge16 Ge.le) (by simp [bytesC]) (bytesC_one _) (by decide) (.inl (row_some (w:=w13) (A:=A2) (cs:=bytesC (body l[k])) ii (by simp [bytesC];omega))) (by omega) (by omega) fun A17 c17 w14 ho17 l17 hn17=>?_)
    refine xa ?_
    have hlen:(frames (l.take (k+1))).length=(frames (l.take k)).length+5+(body l[k]).length:=by
     rw [take_snoc l k hk1,frames_snoc]
     simp [le4_len];omega
    have hown5:World.ownsRow w14 w.heap.size 5 1 (.slice A17 ((frames (l.take k)).length+5+(body l[k]).length) c17) (frames (l.take (k+1))).length (bytesC (frames (l.take (k+1)))):=by
     rw [hlen,take_snoc l k hk1,frames_snoc,<- bytesC_append,<- bytesC_append,<- hs,<- List.append_assoc]
     exact ho17
    refine xl_nil ?_
    refine x_regionL ?_
    refine xl_v (v_add (by omega)) ?_
    refine xm (xl_nil ?_)
    refine ⟨_,?_,rfl,k+1,_,rfl,by omega,hown5,ii,ii,ii,evc,lkc⟩
    omega
  have hkn:k=n:=by omega
  subst hkn
  rw [List.take_of_length_le (by omega)] at hown e4
  refine x_exit (xq (xm (xa (xz ?_))))
  refine x_ret ?_
  refine fin2 rfl ?_
  exact ⟨⟨AV,cV,rfl,hown⟩,lkc⟩
abbrev failC (e:Int):List PanicEntry:=[{ v:=.iface 227 (.agg #[.int .i64 e]),recovered:=false }]
abbrev ptrV (b:Nat):Value:=.pointer (some ⟨b,0,none⟩)
abbrev nextV (b2 b3:Nat):Value:=.func (.func 176) ([]:List Value).toArray [ptrV b2,ptrV b3].toArray
structure Left (w0:World) (cb:Nat) (xs:By) (w:World):Prop where
 ex:∃ A c,w.heap[cb]?=some (.cells #[.slice A xs.length c] 60 (0,0))/\xs.length<=c/\RowB w A w0 (bytesC xs)
structure Taker (cb b2 b3:Nat) (w:World):Prop where
 p:w.heap[b2]?=some (.cells #[ptrV cb] 204 (0,0))
 e:w.heap[b3]?=some (.cells #[.int .i64 121] 25 (0,0))
 n2:b2≠cb
 n3:b3≠cb
theorem Left.ext {w0 w w':World} {cb:Nat} {xs:By} {S:Nat->Prop} (h:Left w0 cb xs w) (k:Keep S w w') (hs:∀ k,S k->w0.heap.size<=k) (hn:¬ S cb):Left w0 cb xs w':=by
 obtain ⟨A,c,h1,h2,h3⟩:=h.ex
 exact ⟨A,c,(k.block cb (Array.getElem?_eq_some_iff.1 h1).1 hn).trans h1,h2,h3.keep k hs⟩
theorem Taker.ext {w w':World} {cb b2 b3:Nat} {S:Nat->Prop} (h:Taker cb b2 b3 w) (k:Keep S w w') (h2:¬ S b2) (h3:¬ S b3):Taker cb b2 b3 w':=
 ⟨(k.block b2 (Array.getElem?_eq_some_iff.1 h.p).1 h2).trans h.p,(k.block b3 (Array.getElem?_eq_some_iff.1 h.e).1 h3).trans h.e,h.n2,h.n3⟩
section
variable {P:Program} {r:Option Nat} {N:Nat} {S:Nat->Prop} {τ:Tau} {w:World} {ty:TypeId}
theorem v_makeInterfaceC {x:Operand} {t:TypeId} {v:Value} [hx:EvO N τ x v] (h:P.concrete t=true):Val P r N S (.makeInterface t x) ty τ w (.iface t v):=⟨fun _=>nofun,fun W _=>by
 simp [execOp,hx.eq,run_makeInterface,h]⟩
theorem v_eql_ifaceS {x:Operand} {t t' s:TypeId} {v:Value} {m:Array (String×TypeId)} [hx:EvO N τ x (.iface s v)] [hu:Und P t (.interface m)]:Val P r N S (.binOp .eql t x (.const .nilIface) t') ty τ w (.bool false):=⟨fun _=>nofun,fun W _=>by
 have hy:evO N τ (.const .nilIface)=.nilIface:=rfl
 have h0:∀ d,(Op.equalIn (d+1) t (.iface s v) .nilIface).run P W=.ok false W:=fun d=>by simp [Op.equalIn,run_underlying hu.eq]
 have:=h0 9999
 simp [execOp,hx.eq,hy,eqGuard,binOp,Op.equal,Op.maxDepth,this]⟩
theorem v_eql_ifaceN {x:Operand} {t t':TypeId} {m:Array (String×TypeId)} [hx:EvO N τ x .nilIface] [hu:Und P t (.interface m)]:Val P r N S (.binOp .eql t x (.const .nilIface) t') ty τ w (.bool true):=⟨fun _=>nofun,fun W _=>by
 have hy:evO N τ (.const .nilIface)=.nilIface:=rfl
 have h0:∀ d,(Op.equalIn (d+1) t .nilIface .nilIface).run P W=.ok true W:=fun d=>by simp [Op.equalIn,run_underlying hu.eq]
 have:=h0 9999
 simp [execOp,hx.eq,hy,eqGuard,binOp,Op.equal,Op.maxDepth,this]⟩
theorem v_typeAssertC {x:Operand} {t xT:TypeId} {v:Value} [hx:EvO N τ x (.iface t v)] (h:P.concrete t=true):Val P r N S (.typeAssert x xT t true) ty τ w (.tuple #[v,.bool true]):=⟨fun _=>nofun,fun W _=>by
 unfold Program.concrete at h
 cases hd:P.underlying t with
 | none=>simp [hd] at h
 | some d=>cases d<;>first | (simp [hd] at h;done) | simp [execOp,hx.eq,Instr.typeAssert,run_underlying hd]⟩
end
theorem must_ok (b:Bool) (e:Int) (w:World):RetP Tryz.prog 157 #[.bool b,.int .i64 e] w (fun v w'=>w=w'/\v=.tuple #[]/\b=true) (fun ch w'=>w=w'/\ch=failC e/\b=false):=by
 refine retP_of_x (N:=9) (l:=[.bool b,.int .i64 e]) Tryz.func157 rfl rfl (Nat.le_of_ble_eq_true rfl) ?_
 refine xq (xm (xl_v v_not (xl_nil ?_)))
 refine x_condE (fun c1=>?_) (fun c1=>?_)
 ·refine x_regionL (xm (xl_v v_build ?_))
  refine xl_v (v_makeInterfaceC (by kernel_rfl)) ?_
  refine xl_panic ?_
  refine And.intro rfl ?_
  exact ⟨rfl,rfl,by simpa using c1⟩
 refine x_skip ?_
 refine finP0 rfl ?_
 exact ⟨rfl,rfl,by simpa using c1⟩
theorem taker_ok (cb:Nat) (w:World):Ret Tryz.prog 159 #[ptrV cb,.int .i64 121] w (fun v w'=>(∃ b2 b3,v=nextV b2 b3/\w'.heap[b2]?=some (.cells #[ptrV cb] 204 (0,0))/\w'.heap[b3]?=some (.cells #[.int .i64 121] 25 (0,0))/\w.heap.size<=b2/\w.heap.size<=b3)/\Lk w' w NoB):=by
 refine ret_of_x (N:=6) (l:=[ptrV cb,.int .i64 121]) Tryz.func159 rfl rfl (Nat.le_of_ble_eq_true rfl) ?_
 refine xq ?_
 refine xl_e (e_box fun b2 w1 n2 l2 k2=>?_)
 refine xl_e (e_box fun b3 w2 n3 l3 k3=>?_)
 refine xz ?_
 refine xq (xl_v v_makeFunc (xz ?_))
 refine x_ret ?_
 refine fin1 rfl ?_
 exact ⟨⟨b2,b3,rfl,Blk.eq,Blk.eq,by rw [n2.eq];exact Nat.le_refl _,by rw [n3.eq];exact Ge.le⟩,lkc⟩
theorem next_ok (cb b2 b3:Nat) (w0:World) (xs:By) (w:World) (hL:Left w0 cb xs w) (hT:Taker cb b2 b3 w) (hc:w0.heap.size<=cb) (hn:xs.length<=100000000):RetP Tryz.prog 176 #[ptrV b2,ptrV b3] w (fun v w'=>(∃ c r,xs=c :: r/\v=.int .u8 (c.toNat:Int)/\Left w0 cb r w')/\Lk w' w (OneB cb)) (fun ch w'=>xs=[]/\ch=failC 121/\Lk w' w (OneB cb)):=by
 obtain ⟨A,c,hb,hlc,hr⟩:=hL.ex
 obtain ⟨n,hnn⟩:∃ n,n=xs.length:=⟨_,rfl⟩
 rw [<- hnn] at hb hlc hn
 haveI kcb:Blk w cb (.cells #[.slice A n c] 60 (0,0)):=⟨hb⟩
 haveI kb2:Blk w b2 (.cells #[ptrV cb] 204 (0,0)):=⟨hT.p⟩
 haveI kb3:Blk w b3 (.cells #[.int .i64 121] 25 (0,0)):=⟨hT.e⟩
 haveI:=hr
 haveI:Above (OneB cb) w0:=⟨fun k e=>by have e':k=cb:=e;omega⟩
 refine retP_of_x (N:=23) (l:=[ptrV b2,ptrV b3]) Tryz.func176 rfl rfl (Nat.le_of_ble_eq_true rfl) ?_
 refine xq (xz ?_)
 refine x_seq ?_
 refine x_drawL (NoB) (allS) (.take 0 (.take 1 (.take 2 (.take 3 (.take 4 (.take 5 (.eff 6 .done))))))) mixed (by kernel_rfl) (fun _ _ _ _ _ h=>h) (fun w1 l1=>?_)
 refine xt_Lc rfl ?_
 refine xt_Nc rfl ?_
 refine xt_Lc rfl ?_
 refine xt_v rfl v_len ?_
 refine xt_v rfl v_gtr ?_
 refine xt_Lc rfl ?_
 refine xt_callP rfl (must_ok (decide (0<(n:Int))) 121 w1) ?hp ?_
 case hp=>
  rintro ch w' ⟨rfl,rfl,hd⟩
  have h0:¬ 0<(n:Int):=by simpa using hd
  refine And.intro rfl ?_
  exact ⟨List.length_eq_zero_iff.1 (by omega),rfl,lkc⟩
 rintro _ _ ⟨rfl,rfl,hd⟩
 refine ⟨kpc,?_⟩
 refine xt_nil ?_
 have h0:0<(n:Int):=by simpa using hd
 obtain ⟨x,r,rfl⟩:∃ x r,xs=x :: r:=by cases xs with | nil=>(simp at hnn;omega) | cons x r=>exact ⟨x,r,rfl⟩
 have hn1:n=r.length+1:=by simpa using hnn
 have hA:A.isSome=true:=row_some (w:=w) (cs:=bytesC (x :: r)) ⟨hr.row⟩ (by simp [bytesC])
 refine xq (xl_Lc ?_)
 refine xl_Nc ?_
 refine xl_Lc ?_
 refine xl_v (v_indexO 0 rfl (by omega) (by simp)) ?_
 refine xl_v (v_loadO (k:=0) (by simp)) ?_
 refine xz ?_
 refine x_seq ?_
 refine x_drawL (NoB) (allS) (.take 0 (.take 1 (.take 2 (.take 3 (.take 4 (.take 5 (.last 6))))))) mixed (by kernel_rfl) (fun _ _ _ _ _ h=>h) (fun w3 l3=>?_)
 refine xt_Lc rfl ?_
 refine xt_Lc rfl ?_
 refine xt_Nc rfl ?_
 refine xt_Lc rfl ?_
 refine xt_v rfl (v_sliceL 1 rfl (by omega)) ?_
 refine xt_Nc rfl ?_
 refine xt_lastS rfl (e_store fun w4 l4 k4=>?_)
 refine xq (xm (xz ?_))
 refine x_ret ?_
 refine finP1 rfl ?_
 refine ⟨⟨x,r,rfl,rfl,⟨_,c - 1,(ii:Blk w4 cb _).eq.trans (by rw [hn1];rfl),by omega,?_⟩⟩,lkc⟩
 exact ⟨brow_drop (bs:=x :: r) (c:=c) (k:=1) (ii:RowB w4 A w0 (bytesC (x :: r))).row (by simp;omega),hr.far.elim (fun h=>by simp [bytesC] at h) (fun h=>.inr fun a ha=>by
     split at ha
     ·exact h a ha
     ·cases A with
      | none=>simp at ha
      | some a0=>simp at ha;subst ha;rw [block_add];exact h a0 rfl)⟩
theorem and127 (c:UInt8):IntKind.u8.wrap ((BitVec.ofInt IntKind.u8.bits (c.toNat:Int) &&& BitVec.ofInt IntKind.u8.bits 127).toNat:Int)=((c.toNat % 128:Nat):Int):=by
 have h:∀ b:BitVec 8,(b &&& 127#8).toNat=b.toNat % 128:=by decide
 have h1:=c.toNat_lt
 show IntKind.u8.wrap (((BitVec.ofInt 8 (c.toNat:Int) &&& 127#8).toNat:Nat):Int)=_
 rw [BitVec.ofInt_natCast,h,BitVec.toNat_ofNat,u8wrap]
 congr 1
 omega
theorem pow7 (i:Nat):(2:Int) ^ (7*i)=((128 ^ i:Nat):Int):=by
 rw [show (128:Nat)=2 ^ 7 from rfl,<- Nat.pow_mul];simp
theorem pow_le {i:Nat} (hi:i<=8):128 ^ i<=72057594037927936:=Nat.le_trans (Nat.pow_le_pow_right (by omega) hi) (by decide)
theorem shl7 {a i:Nat} (ha:a<128) (hi:i<=8):IntKind.i64.wrap ((a:Int)*2 ^ min ((7*(i:Int)).toNat) IntKind.i64.bits)=((a*128 ^ i:Nat):Int):=by
 have e:min ((7*(i:Int)).toNat) IntKind.i64.bits=7*i:=by show min _ 64=_;omega
 have h1:=Nat.mul_le_mul (show a<=127 by omega) (pow_le hi)
 rw [e,pow7,<- Int.natCast_mul]
 exact wrap_in (by omega) (by omega)
theorem or7 {acc x i:Nat} (h:acc<128 ^ i) (hi:i<=8) (hx:x<128):IntKind.i64.wrap ((BitVec.ofInt IntKind.i64.bits (acc:Int) ||| BitVec.ofInt IntKind.i64.bits ((x*128 ^ i:Nat):Int)).toNat:Int)=((acc+x*128 ^ i:Nat):Int):=by
 have h1:=Nat.mul_le_mul (show x<=127 by omega) (pow_le hi)
 have h2:=pow_le hi
 show IntKind.i64.wrap (((BitVec.ofInt 64 (acc:Int) ||| BitVec.ofInt 64 ((x*128 ^ i:Nat):Int)).toNat:Nat):Int)=_
 rw [BitVec.ofInt_natCast,BitVec.ofInt_natCast,BitVec.toNat_or,BitVec.toNat_ofNat,BitVec.toNat_ofNat,Nat.mod_eq_of_lt (by omega),Nat.mod_eq_of_lt (by omega)]
 have e:128 ^ i=2 ^ (7*i):=by rw [show (128:Nat)=2 ^ 7 from rfl,<- Nat.pow_mul]
 have h3:=Nat.two_pow_add_eq_or_of_lt (b:=acc) (i:=7*i) (by rw [<- e];exact h) x
 rw [<- e,Nat.mul_comm] at h3
 rw [Nat.or_comm,<- h3,Nat.add_comm]
 exact wrap_in (by omega) (by omega)
theorem acc_lt {acc x i:Nat} (h:acc<128 ^ i) (hx:x<128):acc+x*128 ^ i<128 ^ (i+1):=by
 have h1:=Nat.mul_le_mul (show x<=127 by omega) (Nat.le_refl (128 ^ i))
 rw [Nat.pow_succ]
 omega
theorem take_ok (cb b2 b3:Nat) (w0:World) (xs:By) (w:World) (hL:Left w0 cb xs w) (hT:Taker cb b2 b3 w) (hc:w0.heap.size<=cb) (hn:xs.length<=100000000):RetP Tryz.prog 135 #[nextV b2 b3] w (fun v w'=>(∃ n r,takeB 0 0 xs=some (n,r)/\v=.int .i64 (n:Int)/\Left w0 cb r w')/\Lk w' w (OneB cb)) (fun ch w'=>takeB 0 0 xs=none/\ch=failC 121/\Lk w' w (OneB cb)):=by
 refine retP_of_x (N:=35) (l:=[nextV b2 b3]) Tryz.func135 rfl rfl (Nat.le_of_ble_eq_true rfl) ?_
 refine xq (xz ?_)
 refine xq (xz ?_)
 refine xq (xz ?_)
 refine x_block ?_
 refine x_loop (fun t τ ds w'=>ds=[]/\∃ (i acc:Nat) (ys:By),t=9 - i/\i<=8/\acc<128 ^ i/\takeB i acc ys=takeB 0 0 xs/\ys.length<=xs.length/\Left w0 cb ys w'/\Ev τ 0 (nextV b2 b3)/\Ev τ 3 (.int .i64 (acc:Int))/\Ev τ 4 (.int .i64 (i:Int))/\Lk w' w (OneB cb)) (9) ?start ?round
 case start=>
  exact ⟨rfl,0,0,xs,rfl,Nat.zero_le _,by decide,rfl,Nat.le_refl _,hL,ii,evc,evc,lkc⟩
 case round=>
  intro m τ1 ds1 w1 hI
  obtain ⟨rfl,i,acc,ys,rfl,hi,hacc,htk,hys,hL1,e0,e3,e4,lk⟩:=hI
  have hT1:Taker cb b2 b3 w1:=hT.ext lk.keep hT.n2 hT.n3
  refine x_seq (x_block (xq (xm ?_)))
  refine xl_callvP ((CallVP.of_ret (a:=[]) (c:=[ptrV b2,ptrV b3]) (next_ok cb b2 b3 w0 ys w1 hL1 hT1 hc (by omega)))) ?hp ?_
  case hp=>
   rintro ch w' ⟨rfl,rfl,lkp⟩
   exact ⟨rfl,htk.symm,rfl,lkc⟩
  rintro _ w2 ⟨⟨c,l,rfl,rfl,hL2⟩,lk4⟩
  have hc256:=c.toNat_lt
  have hacc2:=acc_lt hacc (x:=c.toNat % 128) (by omega)
  refine xz ?_
  refine x_cut (fun τ ds w'=>ds=[]/\¬ (8<=i/\128<=c.toNat)/\w'=w2/\Ev τ 0 (nextV b2 b3)/\Ev τ 3 (.int .i64 (acc:Int))/\Ev τ 4 (.int .i64 (i:Int))/\Ev τ 5 (.int .u8 (c.toNat:Int))) ?_ ?_
  ·refine x_regionL (xm (xl_v v_lss (xm ?_)))
   refine xl_split 12 (fun g12=>?_) (fun g12=>?_)
   ·have h12:=of_decide_eq_true g12
    refine xl_gs rfl EvO.eq (xl_gs rfl EvO.eq (xl_Pk ?_))
    refine xl_callP (must_ok _ 121 w2) ?hp ?_
    case hp=>
     rintro ch w' ⟨rfl,rfl,hd5⟩
     exact absurd hd5 (by decide)
    rintro _ _ ⟨rfl,rfl,hd5⟩
    refine xl_nil ?_
    exact ⟨rfl,by first | omega | (have:=of_decide_eq_true hd5;omega),rfl,ii,ii,ii,ii⟩
   have h12:=of_decide_eq_false g12
   refine xl_gv rfl EvO.eq v_move (xl_gv rfl EvO.eq v_lss (xl_Pk ?_))
   refine xl_callP (must_ok _ 121 w2) ?hp ?_
   case hp=>
    rintro ch w' ⟨rfl,rfl,hd5⟩
    first
     | exact absurd hd5 (by decide)
     | exact ⟨rfl,by rw [<- htk];simp only [takeB];rw [if_pos (by have:=of_decide_eq_false hd5;omega)],rfl,lkc⟩
   rintro _ _ ⟨rfl,rfl,hd5⟩
   refine xl_nil ?_
   exact ⟨rfl,by first | omega | (have:=of_decide_eq_true hd5;omega),rfl,ii,ii,ii,ii⟩
  intro τ5 ds5 w5 hI
  obtain ⟨rfl,h8,hw',e0,e3,e4,e5⟩:=hI
  subst hw'
  refine xq (xm (xm ?_))
  refine xl_v (v_congr (u:=.int .u8 ((c.toNat % 128:Nat):Int)) v_and (congrArg (Value.int .u8) (and127 c))) ?_
  refine xl_v (v_congr (u:=.int .i64 ((c.toNat % 128:Nat):Int)) v_convert (congrArg (Value.int .i64) (wrap_in (by omega) (by omega)))) ?_
  refine xm ?_
  refine xl_v (v_mul (by omega)) ?_
  refine xl_v (v_congr (u:=.int .i64 ((c.toNat % 128*128 ^ i:Nat):Int)) (v_shl (by omega)) (congrArg (Value.int .i64) (shl7 (by omega) hi))) ?_
  refine xl_v (v_congr (u:=.int .i64 ((acc+c.toNat % 128*128 ^ i:Nat):Int)) v_or (congrArg (Value.int .i64) (or7 hacc hi (by omega)))) ?_
  refine xz ?_
  refine xq (xm (xl_v v_lss (xl_nil ?_)))
  refine x_if (fun c1=>?_) (fun c1=>?_)
  ·refine xq (xm (xl_v v_eql (xm ?_)))
   refine xl_split 29 (fun g29=>?_) (fun g29=>?_)
   ·have h29:=of_decide_eq_true g29
    refine xl_gs rfl EvO.eq (xl_gs rfl EvO.eq (xl_Pk ?_))
    refine xl_callP (must_ok _ 121 w5) ?hp ?_
    case hp=>
     rintro ch w' ⟨rfl,rfl,hd8⟩
     exact absurd hd8 (by decide)
    rintro _ _ ⟨rfl,rfl,hd8⟩
    refine xl_nil ?_
    refine xq (xm (xz ?_))
    refine x_ret ?_
    first | refine finP1 rfl ?_ | refine finP1 (RP:=fun _ _=>True) rfl ?_
    refine ⟨⟨_,l,?_,rfl,hL2⟩,lkc⟩
    have h0:¬ (0<i/\c.toNat=0):=by first | omega | (simp only [Bool.not_eq_true',decide_eq_false_iff_not] at hd8;omega)
    rw [<- htk];simp only [takeB]
    rw [if_neg (by omega),if_pos (by omega),if_neg h0,show c.toNat % 128=c.toNat by omega]
   have h29:=of_decide_eq_false g29
   refine xl_gv rfl EvO.eq v_move (xl_gv rfl EvO.eq v_neq (xl_Pk ?_))
   refine xl_callP (must_ok _ 121 w5) ?hp ?_
   case hp=>
    rintro ch w' ⟨rfl,rfl,hd8⟩
    first
     | exact absurd hd8 (by decide)
     | exact ⟨rfl,by rw [<- htk];simp only [takeB];rw [if_neg (by omega),if_pos (by omega),if_pos (by simp only [Bool.not_eq_false',decide_eq_true_eq] at hd8;omega)],rfl,lkc⟩
   rintro _ _ ⟨rfl,rfl,hd8⟩
   refine xl_nil ?_
   refine xq (xm (xz ?_))
   refine x_ret ?_
   first | refine finP1 rfl ?_ | refine finP1 (RP:=fun _ _=>True) rfl ?_
   refine ⟨⟨_,l,?_,rfl,hL2⟩,lkc⟩
   have h0:¬ (0<i/\c.toNat=0):=by first | omega | (simp only [Bool.not_eq_true',decide_eq_false_iff_not] at hd8;omega)
   rw [<- htk];simp only [takeB]
   rw [if_neg (by omega),if_pos (by omega),if_neg h0,show c.toNat % 128=c.toNat by omega]
  have htk2:takeB (i+1) (acc+c.toNat % 128*128 ^ i) l=takeB 0 0 xs:=by
   rw [<- htk];simp only [takeB];rw [if_neg (by omega),if_neg (by omega)]
  refine x_skip (x_regionL (xm ?_))
  refine xl_v (v_add (by omega)) ?_
  refine xz ?_
  refine ⟨_,?_,rfl,i+1,_,l,rfl,by omega,hacc2,htk2,by simp at hys;omega,hL2,ii,evc,evc,lkc⟩
  omega
def TakeR (u:Nat->Int) (bs:By) (n k no:Int):Prop:=(no=0/\∃ (m j:Nat),n=u m/\k=(j:Int)/\j<=bs.length/\0<j/\takeB 0 0 bs=some (m,bs.drop j))\/(no≠0/\takeB 0 0 bs=none)
set_option maxHeartbeats 1000000 in
theorem dtake_ok (A:Option Addr) (n c:Nat) (bs:By) (w:World) [hr0:Row w A (bytesC bs)] (hl:bs.length=n) (hn:n<=100000000):Ret Tryz.prog 190 #[.slice A n c] w (fun v w'=>(∃ m k no,v=.tuple #[.int .i64 m,.int .i64 k,.int .i64 no]/\TakeR (fun n=>(n:Int)) bs m k no)/\Lk w' w NoB):=by
 haveI hr:RowB w A w (bytesC bs):=rowB_of hr0.row
 refine ret_of_x (N:=52) (l:=[.slice A n c]) Tryz.func190 rfl rfl (Nat.le_of_ble_eq_true rfl) ?_
 refine xq (xa (xa (xz ?_)))
 refine xq (xa (xz ?_))
 refine x_seq (xq (xz ?_))
 refine x_block ?_
 refine x_loop (fun t τ ds w'=>ds=[]/\∃ (i acc:Nat),t=n - i/\i<=n/\i<=8/\acc<128 ^ i/\takeB i acc (bs.drop i)=takeB 0 0 bs/\Ev τ 0 (.slice A n c)/\Ev τ 5 (.int .i64 (acc:Int))/\Ev τ 6 (.int .i64 ((128 ^ i:Nat):Int))/\Ev τ 7 (.int .i64 (i:Int))/\Lk w' w NoB) (n) ?start ?round
 case start=>
  exact ⟨rfl,0,0,rfl,Nat.zero_le _,Nat.zero_le _,by decide,rfl,ii,ii,ii,evc,lkc⟩
 case round=>
  intro m τ1 ds1 w1 hI
  obtain ⟨rfl,i,acc,rfl,hi,hi8,hacc,htk,e0,e5,e6,e7,lk⟩:=hI
  have hp:=pow_le hi8
  refine x_seq (xq (xm (xm (xl_v v_len (xl_v v_lss (xl_nil ?_))))))
  refine x_if (fun c1=>?_) (fun c1=>?_)
  ·have hi1:i<bs.length:=by omega
   have hdi:bs.drop i=bs[i] :: bs.drop (i+1):=List.drop_eq_getElem_cons hi1
   have hc256:=bs[i].toNat_lt
   have hacc2:=acc_lt hacc (x:=bs[i].toNat % 128) (by omega)
   refine x_skip (x_seq (x_block ?_))
   refine x_cut (fun τ ds w'=>ds=[]/\¬ (8<=i/\128<=bs[i].toNat)/\w'=w1/\Ev τ 0 (.slice A n c)/\Ev τ 5 (.int .i64 (acc:Int))/\Ev τ 6 (.int .i64 ((128 ^ i:Nat):Int))/\Ev τ 7 (.int .i64 (i:Int))) ?_ ?_
   ·refine xq (xm (xl_v v_eql (xm ?_)))
    refine xl_split 16 (fun g16=>?_) (fun g16=>?_)
    ·have g5:=of_decide_eq_true g16
     refine xl_gv rfl EvO.eq v_move (xl_gv rfl EvO.eq v_move ?_)
     refine xl_gv rfl EvO.eq (v_indexO i rfl (by omega) hi1) ?_
     refine xl_gv rfl EvO.eq (v_loadO (k:=i) hi1) ?_
     refine xl_gv rfl EvO.eq v_geq (xl_Pk ?_)
     refine xl_nil ?_
     refine x_if (fun c2=>?_) (fun c2=>?_)
     ·have hbad:takeB 0 0 bs=none:=by
       rw [<- htk,hdi]
       simp only [takeB]
       rw [if_pos (by first | omega | (simp at c2;omega))]
      refine xq (xa (xa (xz ?_)))
      refine x_ret ?_
      refine fin3 rfl ?_
      exact ⟨⟨0,0,121,rfl,.inr ⟨by decide,hbad⟩⟩,lkc⟩
     refine x_skip ?_
     exact ⟨rfl,by omega,rfl,ii,ii,ii,ii⟩
    have g5:=of_decide_eq_false g16
    refine xl_gs rfl EvO.eq (xl_gs rfl EvO.eq (xl_gs rfl EvO.eq (xl_gs rfl EvO.eq (xl_gs rfl EvO.eq (xl_Pk ?_)))))
    refine xl_nil ?_
    refine x_condF ?_
    refine x_skip ?_
    exact ⟨rfl,by omega,rfl,ii,ii,ii,ii⟩
   intro τ2 ds2 w2 hI
   obtain ⟨rfl,h8,hw',e0,e5,e6,e7⟩:=hI
   subst hw'
   refine x_seq ?_
   have hp1:=Nat.mul_le_mul (show bs[i].toNat % 128<=127 by omega) hp
   have hmul:-9223372036854775808<=((bs[i].toNat % 128:Nat):Int)*((128 ^ i:Nat):Int)/\((bs[i].toNat % 128:Nat):Int)*((128 ^ i:Nat):Int)<=9223372036854775807:=by
    rw [<- Int.natCast_mul];omega
   refine x_regionL (xm (xm (xm ?_)))
   refine xl_v (v_indexO i rfl (by omega) hi1) ?_
   refine xl_v (v_loadO (k:=i) hi1) ?_
   refine xl_v (v_congr (u:=.int .u8 ((bs[i].toNat % 128:Nat):Int)) (v_rem (by decide)) (congrArg (Value.int .u8) (tmodN _ 128))) ?_
   refine xl_v (v_congr (u:=.int .i64 ((bs[i].toNat % 128:Nat):Int)) v_convert (congrArg (Value.int .i64) (wrap_in (by omega) (by omega)))) ?_
   refine xm ?_
   refine xl_v (v_congr (u:=.int .i64 ((bs[i].toNat % 128*128 ^ i:Nat):Int)) (v_mul hmul) (congrArg (Value.int .i64) (Int.natCast_mul _ _).symm)) ?_
   refine xl_v (v_congr (u:=.int .i64 ((acc+bs[i].toNat % 128*128 ^ i:Nat):Int)) (v_add (by omega)) (congrArg (Value.int .i64) (Int.natCast_add _ _).symm)) ?_
   refine xz ?_
   refine x_seq (xq (xm (xm ?_)))
   refine xl_v (v_indexO i rfl (by omega) hi1) ?_
   refine xl_v (v_loadO (k:=i) hi1) ?_
   refine xl_v v_lss (xl_nil ?_)
   refine x_if (fun c3=>?_) (fun c3=>?_)
   ·refine x_seq (xq (xm (xl_v v_gtr (xm ?_))))
    refine xl_split 40 (fun g40=>?_) (fun g40=>?_)
    ·have g9:=of_decide_eq_true g40
     refine xl_gv rfl EvO.eq v_move (xl_gv rfl EvO.eq v_move ?_)
     refine xl_gv rfl EvO.eq (v_indexO i rfl (by omega) hi1) ?_
     refine xl_gv rfl EvO.eq (v_loadO (k:=i) hi1) ?_
     refine xl_gv rfl EvO.eq v_eql (xl_Pk ?_)
     refine xl_nil ?_
     refine x_if (fun c4=>?_) (fun c4=>?_)
     ·have hbad:takeB 0 0 bs=none:=by
       rw [<- htk,hdi]
       simp only [takeB]
       rw [if_neg (by omega),if_pos (by omega),if_pos (by first | omega | (simp at c4;omega))]
      refine xq (xa (xa (xz ?_)))
      refine x_ret ?_
      refine fin3 rfl ?_
      exact ⟨⟨0,0,121,rfl,.inr ⟨by decide,hbad⟩⟩,lkc⟩
     refine x_skip (xq (xm (xm ?_)))
     refine xl_v (v_add (by omega)) ?_
     refine xa (xa (xz ?_))
     refine x_ret ?_
     refine fin3 rfl ?_
     have hgood:takeB 0 0 bs=some (acc+bs[i].toNat % 128*128 ^ i,bs.drop (i+1)):=by
      rw [<- htk,hdi]
      simp only [takeB]
      rw [if_neg (by omega),if_pos (by omega),if_neg (by first | omega | (simp at c4;omega) | simp_all),show bs[i].toNat % 128=bs[i].toNat by omega]
     exact ⟨⟨_,_,0,rfl,.inl ⟨rfl,_,i+1,rfl,by omega,by omega,by omega,hgood⟩⟩,lkc⟩
    have g9:=of_decide_eq_false g40
    refine xl_gs rfl EvO.eq (xl_gs rfl EvO.eq (xl_gs rfl EvO.eq (xl_gs rfl EvO.eq (xl_gs rfl EvO.eq (xl_Pk ?_)))))
    refine xl_nil ?_
    refine x_condF ?_
    refine x_skip (xq (xm (xm ?_)))
    refine xl_v (v_add (by omega)) ?_
    refine xa (xa (xz ?_))
    refine x_ret ?_
    refine fin3 rfl ?_
    have hgood:takeB 0 0 bs=some (acc+bs[i].toNat % 128*128 ^ i,bs.drop (i+1)):=by
     rw [<- htk,hdi]
     simp only [takeB]
     rw [if_neg (by omega),if_pos (by omega),if_neg (by first | omega | (simp at c4;omega) | simp_all),show bs[i].toNat % 128=bs[i].toNat by omega]
    exact ⟨⟨_,_,0,rfl,.inl ⟨rfl,_,i+1,rfl,by omega,by omega,by omega,hgood⟩⟩,lkc⟩
   refine x_skip ?_
   have hi7:i<=7:=by omega
   have hp2:128 ^ (i+1)<=72057594037927936:=pow_le (by omega)
   have hmul2:-9223372036854775808<=((128 ^ i:Nat):Int)*128/\((128 ^ i:Nat):Int)*128<=9223372036854775807:=by
    rw [Nat.pow_succ] at hp2;omega
   refine x_regionL (xm ?_)
   refine xl_v (v_congr (u:=.int .i64 ((128 ^ (i+1):Nat):Int)) (v_mul hmul2) (congrArg (Value.int .i64) (by rw [Nat.pow_succ,Int.natCast_mul];rfl))) ?_
   refine xz ?_
   refine x_regionL (xm ?_)
   refine xl_v (v_add (by omega)) ?_
   refine xz ?_
   refine ⟨_,?_,rfl,i+1,acc+bs[i].toNat % 128*128 ^ i,rfl,by omega,by omega,hacc2,?_,ii,ii,ii,evc,lkc⟩
   ·omega
   ·rw [<- htk,hdi]
    simp only [takeB]
    rw [if_neg (by omega),if_neg (by omega)]
  have hbad:takeB 0 0 bs=none:=by
   rw [<- htk,List.drop_of_length_le (by omega)]
   rfl
  refine x_exit (xq (xa (xa (xz ?_))))
  refine x_ret ?_
  refine fin3 rfl ?_
  exact ⟨⟨0,0,120,rfl,.inr ⟨by decide,hbad⟩⟩,lkc⟩
theorem dtakeS_ok (A:Option Addr) (n c:Nat) (bs:By) (w:World) [hr0:Row w A (bytesC bs)] (hl:bs.length=n) (hn:n<=100000000):Ret Tryz.prog 191 #[.slice A n c] w (fun v w'=>(∃ m k no,v=.tuple #[.int .i64 m,.int .i64 k,.int .i64 no]/\TakeR unz bs m k no)/\Lk w' w NoB):=by
 refine ret_of_x (N:=28) (l:=[.slice A n c]) Tryz.func191 rfl rfl (Nat.le_of_ble_eq_true rfl) ?_
 refine xq (xa (xa (xz ?_)))
 refine xq (xm ?_)
 refine xl_call (dtake_ok A n c bs w hl hn) ?_
 rintro _ w1 ⟨⟨m,k,no,rfl,hT⟩,lk1⟩
 refine xm (xl_v v_extract (xl_v v_extract (xl_v v_extract (xa (xa (xz ?_))))))
 refine x_seq (xq (xm (xl_v v_neq (xl_nil ?_))))
 refine x_if (fun c1=>?_) (fun c1=>?_)
 ·have hno:no≠0:=by simpa using c1
  refine xq (xm (xa (xa (xz ?_))))
  refine x_ret ?_
  refine fin3 rfl ?_
  exact ⟨⟨0,0,no,rfl,.inr ⟨hno,hT.elim (fun h=>absurd h.1 hno) (fun h=>h.2)⟩⟩,lkc⟩
 have hno:no=0:=by simpa using c1
 obtain ⟨_,mm,j,rfl,rfl,hj,hj0,htk⟩ | ⟨h,_⟩:=hT
 rotate_left
 ·exact absurd hno h
 have hm63:=(num_take0 htk).2
 refine x_skip (x_seq (xq (xm ?_)))
 refine xl_v (v_congr (u:=.int .i64 ((mm % 2:Nat):Int)) (v_rem (by decide)) (congrArg (Value.int .i64) (tmodN mm 2))) ?_
 refine xl_v v_eql (xl_nil ?_)
 refine x_if (fun c2=>?_) (fun c2=>?_)
 ·refine xq (xm ?_)
  refine xl_v (v_congr (u:=.int .i64 ((mm / 2:Nat):Int)) (v_quo (by decide)) (congrArg (Value.int .i64) (by rw [show (2:Int)=((2:Nat):Int) from rfl,tdivN];exact wrap_in (by omega) (by omega)))) ?_
  refine xl_v (v_neg (by omega)) ?_
  refine xl_v (v_sub (by omega)) ?_
  refine xm (xa (xa (xz ?_)))
  refine x_ret ?_
  refine fin3 rfl ?_
  exact ⟨⟨_,_,0,rfl,.inl ⟨rfl,mm,j,by unfold unz;rw [if_pos (by omega)],rfl,hj,hj0,htk⟩⟩,lkc⟩
 refine x_skip (xq (xm ?_))
 refine xl_v (v_congr (u:=.int .i64 ((mm / 2:Nat):Int)) (v_quo (by decide)) (congrArg (Value.int .i64) (by rw [show (2:Int)=((2:Nat):Int) from rfl,tdivN];exact wrap_in (by omega) (by omega)))) ?_
 refine xm (xa (xa (xz ?_)))
 refine x_ret ?_
 refine fin3 rfl ?_
 exact ⟨⟨_,_,0,rfl,.inl ⟨rfl,mm,j,by unfold unz;rw [if_neg (by omega)],rfl,hj,hj0,htk⟩⟩,lkc⟩
theorem within_ok (a b c:Int) (w:World):Ret Tryz.prog 99 #[.int .i64 a,.int .i64 b,.int .i64 c] w (fun v w'=>v=.bool (decide (b<=a/\a<=c))/\w=w'):=by
 refine ret_of_x (N:=15) (l:=[.int .i64 a,.int .i64 b,.int .i64 c]) Tryz.func99 rfl rfl (Nat.le_of_ble_eq_true rfl) ?_
 refine xq (xz ?_)
 refine xq (xm (xm (xl_v v_geq (xm ?_))))
 refine xl_split 10 (fun g10=>?_) (fun g10=>?_)
 ·refine xl_gv rfl EvO.eq v_move (xl_gv rfl EvO.eq v_move (xl_gv rfl EvO.eq v_leq (xl_Pk ?_)))
  refine xz ?_
  refine x_ret ?_
  refine fin1 rfl ?_
  refine ⟨congrArg Value.bool ?_,rfl⟩
  simp_all<;>omega
 refine xl_gs rfl EvO.eq (xl_gs rfl EvO.eq (xl_gs rfl EvO.eq (xl_Pk ?_)))
 refine xz ?_
 refine x_ret ?_
 refine fin1 rfl ?_
 refine ⟨congrArg Value.bool ?_,rfl⟩
 simp_all<;>omega
def fineA (e:En):Prop:=in31 e.epoch 1/\1<=e.kind/\e.kind<=3/\-1<=e.id/\e.id<=3/\¬ (1<e.kind/\e.id<0)
def fineB (e:En):Prop:=fineA e/\¬ (e.id<0/\(e.num≠0\/e.seq≠0))/\¬ (0<=e.id/\¬ in31 e.num 1)
def fineC (e:En):Prop:=fineB e/\¬ (1<e.kind/\(e.seq≠0\/e.val≠0))
theorem right_C (e:En):Right e↔fineC e/\in31 e.seq 0/\in31 e.val (-2147483648):=by
 unfold fineC fineB fineA Right in31
 omega
set_option maxHeartbeats 2000000 in
theorem dright_ok (e:En) (w:World):Ret Tryz.prog 56 #[.agg (enC e).toArray] w (fun v w'=>v=.bool (decide (Right e))/\Lk w' w NoB):=by
 refine ret_of_x (N:=77) (l:=[.agg (enC e).toArray]) Tryz.func56 rfl rfl (Nat.le_of_ble_eq_true rfl) ?_
 refine xq ?_
 refine xl_e (e_box fun b1 w1 n1 l1 k1=>?_)
 refine xz ?_
 refine xq (xl_Fb ?_)
 refine xl_Lc ?_
 refine xz ?_
 refine x_cut (fun τ ds w'=>ds=[]/\fineA e/\Ev τ 1 (ptrV b1)/\Ev τ 3 (.int .i64 e.kind)/\Blk w' b1 (.cells (enC e).toArray 84 (0,0))/\Lk w' w NoB) ?_ ?_
 ·refine xq (xl_Fb ?_)
  refine xl_Lc ?_
  refine xl_call (within_ok e.epoch 1 2147483647 w1) ?_
  rintro _ _ ⟨rfl,rfl⟩
  refine xl_v v_not (xm ?_)
  refine xl_split 10 (fun g10=>?_) (fun g10=>?_)
  ·refine xl_gs rfl EvO.eq (xl_gs rfl EvO.eq (xl_Pk ?_))
   refine xm (xl_gs rfl EvO.eq (xl_gs rfl EvO.eq (xl_Pk ?_)))
   refine xm (xl_gs rfl EvO.eq (xl_gs rfl EvO.eq (xl_gs rfl EvO.eq (xl_gs rfl EvO.eq (xl_Pk ?_)))))
   refine xm (xl_gs rfl EvO.eq (xl_gs rfl EvO.eq (xl_gs rfl EvO.eq ?_)))
   refine xl_gu rfl EvO.eq ?_
   refine xl_gu rfl EvO.eq ?_
   refine xl_gu rfl EvO.eq ?_
   refine xl_gs rfl EvO.eq (xl_Pk ?_)
   refine xl_nil ?_
   refine x_condT ?_
   refine xq (xz ?_)
   refine x_ret ?_
   refine fin1 rfl ?_
   refine ⟨congrArg Value.bool (Eq.symm (decide_eq_false fun h=>?_)),lkc⟩
   simp only [Bool.not_eq_true',Bool.not_eq_false',decide_eq_true_eq,decide_eq_false_iff_not,Bool.not_true,Bool.not_false] at *
   simp only [right_C,fineC,fineB,fineA,in31] at h
   omega
  refine xl_gv rfl EvO.eq v_move (xl_gv rfl EvO.eq v_lss (xl_Pk ?_))
  refine xm ?_
  refine xl_split 14 (fun g14=>?_) (fun g14=>?_)
  ·refine xl_gs rfl EvO.eq (xl_gs rfl EvO.eq (xl_Pk ?_))
   refine xm (xl_gs rfl EvO.eq (xl_gs rfl EvO.eq (xl_gs rfl EvO.eq (xl_gs rfl EvO.eq (xl_Pk ?_)))))
   refine xm (xl_gs rfl EvO.eq (xl_gs rfl EvO.eq (xl_gs rfl EvO.eq ?_)))
   refine xl_gu rfl EvO.eq ?_
   refine xl_gu rfl EvO.eq ?_
   refine xl_gu rfl EvO.eq ?_
   refine xl_gs rfl EvO.eq (xl_Pk ?_)
   refine xl_nil ?_
   refine x_condT ?_
   refine xq (xz ?_)
   refine x_ret ?_
   refine fin1 rfl ?_
   refine ⟨congrArg Value.bool (Eq.symm (decide_eq_false fun h=>?_)),lkc⟩
   simp only [Bool.not_eq_true',Bool.not_eq_false',decide_eq_true_eq,decide_eq_false_iff_not,Bool.not_true,Bool.not_false] at *
   simp only [right_C,fineC,fineB,fineA,in31] at h
   omega
  refine xl_gv rfl EvO.eq v_move (xl_gv rfl EvO.eq v_gtr (xl_Pk ?_))
  refine xm ?_
  refine xl_split 18 (fun g18=>?_) (fun g18=>?_)
  ·refine xl_gs rfl EvO.eq (xl_gs rfl EvO.eq (xl_gs rfl EvO.eq (xl_gs rfl EvO.eq (xl_Pk ?_))))
   refine xm (xl_gs rfl EvO.eq (xl_gs rfl EvO.eq (xl_gs rfl EvO.eq ?_)))
   refine xl_gu rfl EvO.eq ?_
   refine xl_gu rfl EvO.eq ?_
   refine xl_gu rfl EvO.eq ?_
   refine xl_gs rfl EvO.eq (xl_Pk ?_)
   refine xl_nil ?_
   refine x_condT ?_
   refine xq (xz ?_)
   refine x_ret ?_
   refine fin1 rfl ?_
   refine ⟨congrArg Value.bool (Eq.symm (decide_eq_false fun h=>?_)),lkc⟩
   simp only [Bool.not_eq_true',Bool.not_eq_false',decide_eq_true_eq,decide_eq_false_iff_not,Bool.not_true,Bool.not_false] at *
   simp only [right_C,fineC,fineB,fineA,in31] at h
   omega
  refine xl_gFb rfl EvO.eq ?_
  refine xl_gLc rfl EvO.eq ?_
  refine xl_gcall rfl EvO.eq (within_ok e.id (-1) 3 w1) ?_
  rintro _ _ ⟨rfl,rfl⟩
  refine xl_gv rfl EvO.eq v_not (xl_Pk ?_)
  refine xm ?_
  refine xl_split 24 (fun g24=>?_) (fun g24=>?_)
  ·refine xl_gs rfl EvO.eq (xl_gs rfl EvO.eq (xl_gs rfl EvO.eq ?_))
   refine xl_gu rfl EvO.eq ?_
   refine xl_gu rfl EvO.eq ?_
   refine xl_gu rfl EvO.eq ?_
   refine xl_gs rfl EvO.eq (xl_Pk ?_)
   refine xl_nil ?_
   refine x_condT ?_
   refine xq (xz ?_)
   refine x_ret ?_
   refine fin1 rfl ?_
   refine ⟨congrArg Value.bool (Eq.symm (decide_eq_false fun h=>?_)),lkc⟩
   simp only [Bool.not_eq_true',Bool.not_eq_false',decide_eq_true_eq,decide_eq_false_iff_not,Bool.not_true,Bool.not_false] at *
   simp only [right_C,fineC,fineB,fineA,in31] at h
   omega
  refine xl_gv rfl EvO.eq v_move (xl_gv rfl EvO.eq v_gtr (xl_gv rfl EvO.eq v_move ?_))
  refine xl_split 27 (fun g27=>?_) (fun g27=>?_)
  ·refine xl_gFb rfl EvO.eq ?_
   refine xl_gLc rfl EvO.eq ?_
   refine xl_gv rfl EvO.eq v_lss ?_
   refine xl_gPk rfl EvO.eq ?_
   refine xl_Pk ?_
   refine xl_nil ?_
   refine x_if (fun c1=>?_) (fun c1=>?_)
   ·refine xq (xz ?_)
    refine x_ret ?_
    refine fin1 rfl ?_
    refine ⟨congrArg Value.bool (Eq.symm (decide_eq_false fun h=>?_)),lkc⟩
    simp only [Bool.not_eq_true',Bool.not_eq_false',decide_eq_true_eq,decide_eq_false_iff_not,Bool.not_true,Bool.not_false] at *
    simp only [right_C,fineC,fineB,fineA,in31] at h
    omega
   refine x_skip ?_
   refine ⟨rfl,?_,ii,ii,ii,lkc⟩
   simp only [Bool.not_eq_true',Bool.not_eq_false',decide_eq_true_eq,decide_eq_false_iff_not,Bool.not_true,Bool.not_false] at *
   simp only [fineA,in31]
   omega
  refine xl_gs rfl EvO.eq (xl_gs rfl EvO.eq (xl_gs rfl EvO.eq ?_))
  refine xl_gPk rfl EvO.eq ?_
  refine xl_Pk ?_
  refine xl_nil ?_
  refine x_condF ?_
  refine x_skip ?_
  refine ⟨rfl,?_,ii,ii,ii,lkc⟩
  simp only [Bool.not_eq_true',Bool.not_eq_false',decide_eq_true_eq,decide_eq_false_iff_not,Bool.not_true,Bool.not_false] at *
  simp only [fineA,in31]
  omega
 intro τ4 ds4 w4 hI
 obtain ⟨rfl,hA,e1,e3,kb1,lk⟩:=hI
 refine x_cut (fun τ ds w'=>ds=[]/\fineB e/\Ev τ 1 (ptrV b1)/\Ev τ 3 (.int .i64 e.kind)/\Blk w' b1 (.cells (enC e).toArray 84 (0,0))/\Lk w' w NoB) ?_ ?_
 ·refine xq (xl_Fb ?_)
  refine xl_Lc ?_
  refine xl_v v_lss (xm ?_)
  refine xl_split 36 (fun g36=>?_) (fun g36=>?_)
  ·refine xl_gFb rfl EvO.eq ?_
   refine xl_gLc rfl EvO.eq ?_
   refine xl_gv rfl EvO.eq v_neq (xl_gv rfl EvO.eq v_move ?_)
   refine xl_split 40 (fun g40=>?_) (fun g40=>?_)
   ·refine xl_gs rfl EvO.eq (xl_gs rfl EvO.eq (xl_gs rfl EvO.eq ?_))
    refine xl_gPk rfl EvO.eq ?_
    refine xl_Pk ?_
    refine xm (xl_gs rfl EvO.eq (xl_gs rfl EvO.eq (xl_gs rfl EvO.eq (xl_gs rfl EvO.eq ?_))))
    refine xl_gu rfl EvO.eq ?_
    refine xl_gu rfl EvO.eq ?_
    refine xl_gu rfl EvO.eq ?_
    refine xl_gu rfl EvO.eq ?_
    refine xl_gs rfl EvO.eq (xl_Pk ?_)
    refine xl_nil ?_
    refine x_condT ?_
    refine xq (xz ?_)
    refine x_ret ?_
    refine fin1 rfl ?_
    refine ⟨congrArg Value.bool (Eq.symm (decide_eq_false fun h=>?_)),lkc⟩
    simp only [Bool.not_eq_true',Bool.not_eq_false',decide_eq_true_eq,decide_eq_false_iff_not,Bool.not_true,Bool.not_false] at *
    simp only [right_C,fineC,fineB,fineA,in31] at h
    omega
   refine xl_gFb rfl EvO.eq ?_
   refine xl_gLc rfl EvO.eq ?_
   refine xl_gv rfl EvO.eq v_neq ?_
   refine xl_gPk rfl EvO.eq ?_
   refine xl_Pk ?_
   refine xm ?_
   refine xl_split 46 (fun g46=>?_) (fun g46=>?_)
   ·refine xl_gs rfl EvO.eq (xl_gs rfl EvO.eq (xl_gs rfl EvO.eq (xl_gs rfl EvO.eq ?_)))
    refine xl_gu rfl EvO.eq ?_
    refine xl_gu rfl EvO.eq ?_
    refine xl_gu rfl EvO.eq ?_
    refine xl_gu rfl EvO.eq ?_
    refine xl_gs rfl EvO.eq (xl_Pk ?_)
    refine xl_nil ?_
    refine x_condT ?_
    refine xq (xz ?_)
    refine x_ret ?_
    refine fin1 rfl ?_
    refine ⟨congrArg Value.bool (Eq.symm (decide_eq_false fun h=>?_)),lkc⟩
    simp only [Bool.not_eq_true',Bool.not_eq_false',decide_eq_true_eq,decide_eq_false_iff_not,Bool.not_true,Bool.not_false] at *
    simp only [right_C,fineC,fineB,fineA,in31] at h
    omega
   refine xl_gFb rfl EvO.eq ?_
   refine xl_gLc rfl EvO.eq ?_
   refine xl_gv rfl EvO.eq v_geq (xl_gv rfl EvO.eq v_move ?_)
   refine xl_split 50 (fun g50=>?_) (fun g50=>?_)
   ·refine xl_gFb rfl EvO.eq ?_
    refine xl_gLc rfl EvO.eq ?_
    refine xl_gcall rfl EvO.eq (within_ok e.num 1 2147483647 w4) ?_
    rintro _ _ ⟨rfl,rfl⟩
    refine xl_gv rfl EvO.eq v_not ?_
    refine xl_gPk rfl EvO.eq ?_
    refine xl_Pk ?_
    refine xl_nil ?_
    refine x_if (fun c2=>?_) (fun c2=>?_)
    ·refine xq (xz ?_)
     refine x_ret ?_
     refine fin1 rfl ?_
     refine ⟨congrArg Value.bool (Eq.symm (decide_eq_false fun h=>?_)),lkc⟩
     simp only [Bool.not_eq_true',Bool.not_eq_false',decide_eq_true_eq,decide_eq_false_iff_not,Bool.not_true,Bool.not_false] at *
     simp only [right_C,fineC,fineB,fineA,in31] at h
     omega
    refine x_skip ?_
    refine ⟨rfl,?_,ii,ii,ii,lkc⟩
    simp only [Bool.not_eq_true',Bool.not_eq_false',decide_eq_true_eq,decide_eq_false_iff_not,Bool.not_true,Bool.not_false] at *
    refine ⟨hA,?_⟩
    simp only [in31]
    omega
   refine xl_gs rfl EvO.eq (xl_gs rfl EvO.eq (xl_gs rfl EvO.eq (xl_gs rfl EvO.eq ?_)))
   refine xl_gPk rfl EvO.eq ?_
   refine xl_Pk ?_
   refine xl_nil ?_
   refine x_condF ?_
   refine x_skip ?_
   refine ⟨rfl,?_,ii,ii,ii,lkc⟩
   simp only [Bool.not_eq_true',Bool.not_eq_false',decide_eq_true_eq,decide_eq_false_iff_not,Bool.not_true,Bool.not_false] at *
   refine ⟨hA,?_⟩
   simp only [in31]
   omega
  refine xl_gs rfl EvO.eq (xl_gs rfl EvO.eq (xl_gs rfl EvO.eq (xl_gs rfl EvO.eq ?_)))
  refine xl_gu rfl EvO.eq ?_
  refine xl_gu rfl EvO.eq ?_
  refine xl_gu rfl EvO.eq ?_
  refine xl_gs rfl EvO.eq (xl_Pk ?_)
  refine xm ?_
  refine xl_gFb rfl EvO.eq ?_
  refine xl_gLc rfl EvO.eq ?_
  refine xl_gv rfl EvO.eq v_geq (xl_gv rfl EvO.eq v_move ?_)
  refine xl_split 50 (fun g50=>?_) (fun g50=>?_)
  ·refine xl_gFb rfl EvO.eq ?_
   refine xl_gLc rfl EvO.eq ?_
   refine xl_gcall rfl EvO.eq (within_ok e.num 1 2147483647 w4) ?_
   rintro _ _ ⟨rfl,rfl⟩
   refine xl_gv rfl EvO.eq v_not ?_
   refine xl_gPk rfl EvO.eq ?_
   refine xl_Pk ?_
   refine xl_nil ?_
   refine x_if (fun c2=>?_) (fun c2=>?_)
   ·refine xq (xz ?_)
    refine x_ret ?_
    refine fin1 rfl ?_
    refine ⟨congrArg Value.bool (Eq.symm (decide_eq_false fun h=>?_)),lkc⟩
    simp only [Bool.not_eq_true',Bool.not_eq_false',decide_eq_true_eq,decide_eq_false_iff_not,Bool.not_true,Bool.not_false] at *
    simp only [right_C,fineC,fineB,fineA,in31] at h
    omega
   refine x_skip ?_
   refine ⟨rfl,?_,ii,ii,ii,lkc⟩
   simp only [Bool.not_eq_true',Bool.not_eq_false',decide_eq_true_eq,decide_eq_false_iff_not,Bool.not_true,Bool.not_false] at *
   refine ⟨hA,?_⟩
   simp only [in31]
   omega
  refine xl_gs rfl EvO.eq (xl_gs rfl EvO.eq (xl_gs rfl EvO.eq (xl_gs rfl EvO.eq ?_)))
  refine xl_gPk rfl EvO.eq ?_
  refine xl_Pk ?_
  refine xl_nil ?_
  refine x_condF ?_
  refine x_skip ?_
  refine ⟨rfl,?_,ii,ii,ii,lkc⟩
  simp only [Bool.not_eq_true',Bool.not_eq_false',decide_eq_true_eq,decide_eq_false_iff_not,Bool.not_true,Bool.not_false] at *
  refine ⟨hA,?_⟩
  simp only [in31]
  omega
 intro τ7 ds7 w7 hI
 obtain ⟨rfl,hB,e1,e3,kb1,lk⟩:=hI
 refine x_cut (fun τ ds w'=>ds=[]/\fineC e/\Ev τ 1 (ptrV b1)/\Ev τ 3 (.int .i64 e.kind)/\Blk w' b1 (.cells (enC e).toArray 84 (0,0))/\Lk w' w NoB) ?_ ?_
 ·refine xq (xm (xl_v v_gtr (xm ?_)))
  refine xl_split 59 (fun g59=>?_) (fun g59=>?_)
  ·refine xl_gFb rfl EvO.eq ?_
   refine xl_gLc rfl EvO.eq ?_
   refine xl_gv rfl EvO.eq v_neq (xl_gv rfl EvO.eq v_move ?_)
   refine xl_split 63 (fun g63=>?_) (fun g63=>?_)
   ·refine xl_gs rfl EvO.eq (xl_gs rfl EvO.eq (xl_gs rfl EvO.eq ?_))
    refine xl_gPk rfl EvO.eq ?_
    refine xl_Pk ?_
    refine xl_nil ?_
    refine x_condT ?_
    refine xq (xz ?_)
    refine x_ret ?_
    refine fin1 rfl ?_
    refine ⟨congrArg Value.bool (Eq.symm (decide_eq_false fun h=>?_)),lkc⟩
    simp only [Bool.not_eq_true',Bool.not_eq_false',decide_eq_true_eq,decide_eq_false_iff_not,Bool.not_true,Bool.not_false] at *
    simp only [right_C,fineC,fineB,fineA,in31] at h
    omega
   refine xl_gFb rfl EvO.eq ?_
   refine xl_gLc rfl EvO.eq ?_
   refine xl_gv rfl EvO.eq v_neq ?_
   refine xl_gPk rfl EvO.eq ?_
   refine xl_Pk ?_
   refine xl_nil ?_
   refine x_if (fun c3=>?_) (fun c3=>?_)
   ·refine xq (xz ?_)
    refine x_ret ?_
    refine fin1 rfl ?_
    refine ⟨congrArg Value.bool (Eq.symm (decide_eq_false fun h=>?_)),lkc⟩
    simp only [Bool.not_eq_true',Bool.not_eq_false',decide_eq_true_eq,decide_eq_false_iff_not,Bool.not_true,Bool.not_false] at *
    simp only [right_C,fineC,fineB,fineA,in31] at h
    omega
   refine x_skip ?_
   refine ⟨rfl,?_,ii,ii,ii,lkc⟩
   simp only [Bool.not_eq_true',Bool.not_eq_false',decide_eq_true_eq,decide_eq_false_iff_not,Bool.not_true,Bool.not_false] at *
   exact ⟨hB,by omega⟩
  refine xl_gs rfl EvO.eq (xl_gs rfl EvO.eq (xl_gs rfl EvO.eq (xl_gs rfl EvO.eq ?_)))
  refine xl_gu rfl EvO.eq ?_
  refine xl_gu rfl EvO.eq ?_
  refine xl_gu rfl EvO.eq ?_
  refine xl_gs rfl EvO.eq (xl_Pk ?_)
  refine xl_nil ?_
  refine x_condF ?_
  refine x_skip ?_
  refine ⟨rfl,?_,ii,ii,ii,lkc⟩
  simp only [Bool.not_eq_true',Bool.not_eq_false',decide_eq_true_eq,decide_eq_false_iff_not,Bool.not_true,Bool.not_false] at *
  exact ⟨hB,by omega⟩
 intro τ8 ds8 w8 hI
 obtain ⟨rfl,hC,e1,e3,kb1,lk⟩:=hI
 refine xq (xl_Fb ?_)
 refine xl_Lc ?_
 refine xl_call (within_ok e.seq 0 2147483647 w8) ?_
 rintro _ _ ⟨rfl,rfl⟩
 refine xm ?_
 refine xl_split 72 (fun g72=>?_) (fun g72=>?_)
 ·refine xl_gFb rfl EvO.eq ?_
  refine xl_gLc rfl EvO.eq ?_
  refine xl_gcall rfl EvO.eq (within_ok e.val (-2147483648) 2147483647 w8) ?_
  rintro _ _ ⟨rfl,rfl⟩
  refine xl_Pk ?_
  refine xz ?_
  refine x_ret ?_
  refine fin1 rfl ?_
  refine ⟨congrArg Value.bool ?_,lkc⟩
  rw [Bool.eq_iff_iff]
  simp only [Bool.not_eq_true',Bool.not_eq_false',decide_eq_true_eq,decide_eq_false_iff_not,Bool.not_true,Bool.not_false,Bool.false_eq_true] at *
  simp only [right_C,in31]
  (refine ⟨fun h=>⟨hC,?_⟩,fun h=>?_⟩<;>first | exact h.elim | omega)
 refine xl_gs rfl EvO.eq (xl_gs rfl EvO.eq (xl_gs rfl EvO.eq (xl_Pk ?_)))
 refine xz ?_
 refine x_ret ?_
 refine fin1 rfl ?_
 refine ⟨congrArg Value.bool ?_,lkc⟩
 rw [Bool.eq_iff_iff]
 simp only [Bool.not_eq_true',Bool.not_eq_false',decide_eq_true_eq,decide_eq_false_iff_not,Bool.not_true,Bool.not_false,Bool.false_eq_true] at *
 simp only [right_C,in31]
 (refine ⟨fun h=>⟨hC,?_⟩,fun h=>?_⟩<;>first | exact h.elim | omega)
end Go.Proofs.YtigmfcgeljjgnaaGreatDoor
