/- A part of the walks through the log and its document, and of the law in plain Lean: GN Xq D. -/
import Derived.Test.YtigmfcgeljjgnaaGreatDoorJ11
import Derived.Laws.BytesArg
set_option linter.all false
set_option maxRecDepth 100000
set_option synthInstance.maxSize 100000
set_option synthInstance.maxHeartbeats 400000
namespace Go.Proofs.YtigmfcgeljjgnaaGreatDoor
open Go.Wst
open Go.Wst.Dm Go.Wst.Sg
section
variable {P:Program} {r:Option Nat} {N:Nat} {S:Nat->Prop} {τ:Tau} {w:World} {ty:TypeId}
theorem run_strRow {src dst e:TypeId} (hs:P.underlying src=some (.slice e)) (he:P.underlying e=some (.int .u8)) (hd:P.underlying dst=some .string) {A:Option Addr} {n c:Nat} {xs:List UInt8} (hr:RowP w A (bytesC xs)) (hl:xs.length=n) :
    (convert src dst (.slice A n c)).run P w=.ok (.string ⟨xs.toArray⟩) w:=by
 cases A with
 | none=>
   have:xs=[]:=by
    cases xs with
    | nil=>rfl
    | cons a xs=>obtain ⟨a',h,_⟩:=hr 0 _ rfl;cases h
   subst this
   exact run_convert_bytes_nil w src e hs he n c dst hd
 | some a=>
   have hl2:(loadCells a n).run P w=.ok ((xs.map fun b=>((b.toNat:Nat):Int)).map (Value.int .u8)).toArray w:=by
    have:=run_loadCells_list (P:=P) w a (bytesC xs) (fun j v hj=>by
     obtain ⟨a',h1,h2⟩:=hr j v hj
     cases h1
     exact h2)
    simpa [hl,bytesC,Function.comp_def] using this
   rw [run_convert_bytes_string w src dst e _ n c hs he hd,run_bytesToString w _ n c _ hl2,foldl_push_bytes]
   have h3:(xs.map fun b=>((b.toNat:Nat):Int)).map (fun n=>UInt8.ofNat n.toNat)=xs:=by
    rw [List.map_map]
    conv=>rhs;rw [<- List.map_id xs]
    apply List.map_congr_left
    intro b _
    simp
   rw [h3]
   simp [ByteArray.empty,ByteArray.emptyWithCapacity]
   rfl
theorem v_bytesStr {x:Operand} {s t e:TypeId} {A:Option Addr} {n c:Nat} {xs:List UInt8} [hx:EvO N τ x (.slice A n c)] [hs:Und P s (.slice e)] [he:Und P e (.int .u8)] [hd:Und P t .string] [hr:Row w A (bytesC xs)] [ho:RowOut S A] (hl:xs.length=n):Val P r N S (.convert s t x) ty τ w (.string ⟨xs.toArray⟩):=⟨fun _=>nofun,fun W hW=>by
 have:=run_strRow (P:=P) (w:=W) hs.eq he.eq hd.eq (c:=c) (hr.row.keep hW ho.out) hl
 simp [execOp,hx.eq,this]⟩
end
theorem str_eq {a b:By}:((⟨a.toArray⟩:ByteArray)=⟨b.toArray⟩)↔a=b:=by
 constructor
 ·intro h
  injection h with h
  simpa using congrArg Array.toList h
 ·intro h;rw [h]
theorem parse_none {xs:By} {j:Nat} (h:stepsTo xs j=none) (hj:j<=6):parse xs=none:=by
 have h2:=stepsTo_none h (6 - j)
 rw [show j+(6 - j)=6 by omega] at h2
 rw [parse_steps,h2]
theorem st_none {xs:By} {k:Nat} {s:St} (h:stepsTo xs k=some s) (h2:rdP k s=none) (hk:k<6):parse xs=none:=parse_none (j:=k+1) (by rw [stepsTo_succ,h];exact h2) hk
theorem st_some {xs:By} {k:Nat} {s s2:St} (h:stepsTo xs k=some s) (h2:rdP k s=some s2):stepsTo xs (k+1)=some s2:=by rw [stepsTo_succ,h];exact h2
set_option maxHeartbeats 2000000 in
theorem dentry_ok (A:Option Addr) (n c:Nat) (xs:By) (w:World) [hr0:Row w A (bytesC xs)] (hl:xs.length=n) (h1n:1<=n) (hn:n<=1000) (hc:n<=c):Ret Tryz.prog 168 #[.slice A n c] w (fun v w'=>(∃ (e:En) (ok:Bool),v=.tuple #[.agg (enC e).toArray,.bool ok]/\((ok=true/\parse xs=some e)\/(ok=false/\parse xs=none)))/\Lk w' w NoB):=by
 haveI hr:RowB w A w (bytesC xs):=rowB_of hr0.row
 have h0:0<xs.length:=by omega
 have hx0:xs=xs[0] :: xs.drop 1:=by have:=List.drop_eq_getElem_cons h0;simpa using this
 have hst1:stepsTo xs 1=some ((⟨0,0,0,0,(xs[0].toNat:Int),0⟩:En),xs.drop 1):=by
  have h2:stepsTo xs 0=some (En.zero,xs):=rfl
  refine st_some h2 ?_
  show rd0 (En.zero,xs)=_
  conv=>lhs;rw [hx0]
  rfl
 have hc256:=xs[0].toNat_lt
 have hrow:∀ at',RowP w (if c=at' then A else A.map (·.add (at'*1))) (bytesC (xs.drop at')):=fun at'=>brow_drop hr.row (by omega)
 refine ret_of_x (N:=123) (l:=[.slice A n c]) Tryz.func168 rfl rfl (Nat.le_of_ble_eq_true rfl) ?_
 refine xq ?_
 refine xl_e (e_alloc fun b2 w1 nb2 lb2 kb2=>?_)
 refine xz ?_
 refine xq (xm ?_)
 refine xl_v (v_indexO 0 rfl (by omega) h0) ?_
 refine xl_v (v_loadO (k:=0) h0) ?_
 refine xl_v (v_congr (u:=.int .i64 (xs[0].toNat:Int)) v_convert (congrArg (Value.int .i64) (wrap_in (by omega) (by omega)))) ?_
 refine xl_v v_build ?_
 refine xl_e (e_alloc fun b4 w2 nb4 lb4 kb4=>?_)
 refine xl_s (e_storeA fun w3 l3 k3=>?_)
 refine xl_nil ?_
 refine xq (xm ?_)
 refine xl_v (v_sliceL 1 rfl (by omega)) ?_
 haveI hrA:Row w3 (if c=1 then A else A.map (·.add (1*1))) (bytesC (xs.drop 1)):=⟨(rowB_of (hrow 1)).keep (kpc:Keep NoB w w3) (fun _ h=>h.elim) |>.row⟩
 refine xl_call (dtake_ok _ (n - 1) (c - 1) (xs.drop 1) w3 (by simp;omega) (by omega)) ?_
 rintro _ w4 ⟨⟨m,k,no,rfl,hT⟩,lk2⟩
 refine xm (xl_v v_extract (xl_v v_extract (xl_v v_extract (xa (xa (xz ?_))))))
 refine x_seq (xq (xm (xl_v v_neq (xm ?_))))
 refine xl_split 31 (fun g31=>?_) (fun g31=>?_)
 ·have g3:no≠0:=by simpa using g31
  refine xl_gs rfl EvO.eq (xl_gs rfl EvO.eq (xl_gs rfl EvO.eq (xl_gs rfl EvO.eq (xl_gs rfl EvO.eq (xl_Pk ?_)))))
  refine xl_nil ?_
  refine x_condT ?_
  refine xq (xl_Lb ?_)
  refine xl_s (e_storeA fun w5 l5 k5=>?_)
  refine xz ?_
  refine x_ret ?_
  refine finR (rs:=[.cell 2 84,.tmp 3]) rfl ?_
  have hpn:parse xs=none:=by
   rcases hT with ⟨hno,mm,j,hm,hk,hj,hj0,htk⟩ | ⟨hno,htk⟩
   ·exact absurd hno g3
   ·refine st_none hst1 ?_ (by decide)
    show rd1 _=_
    unfold rd1
    simp only [htk,Option.map_none,Option.map_some]
  exact ⟨⟨(⟨0,0,0,0,(xs[0].toNat:Int),0⟩:En),false,rfl,.inr ⟨rfl,hpn⟩⟩,lkc⟩
 have g3:no=0:=by simpa using g31
 have hkb:0<=k/\k<=1000:=by
  rcases hT with ⟨_,mm,j,_,hk,hj,_⟩ | ⟨h,_⟩
  ·rw [List.length_drop,hl] at hj;omega
  ·exact absurd g3 h
 refine xl_gv rfl EvO.eq v_move ?_
 refine xl_gv rfl EvO.eq (v_add (by omega)) ?_
 refine xl_gv rfl EvO.eq v_move (xl_gv rfl EvO.eq v_len (xl_gv rfl EvO.eq v_geq (xl_Pk ?_)))
 refine xl_nil ?_
 refine x_if (fun c1=>?_) (fun c1=>?_)
 ·refine xq (xl_Lb ?_)
  refine xl_s (e_storeA fun w6 l6 k6=>?_)
  refine xz ?_
  refine x_ret ?_
  refine finR (rs:=[.cell 2 84,.tmp 3]) rfl ?_
  have hpn:parse xs=none:=by
   rcases hT with ⟨hno,mm,j,hm,hk,hj,hj0,htk⟩ | ⟨hno,htk⟩
   ·first
     | exact absurd hno g3
     | (have hlen:(xs.drop 1).length<=j:=by rw [List.length_drop,hl];omega
        refine st_none (st_some hst1 (s2:=((⟨(mm:Int),0,0,0,(xs[0].toNat:Int),0⟩:En),[])) ?_) rfl (by decide)
        show rd1 _=_
        unfold rd1
        rw [List.drop_of_length_le hlen] at htk
        simp only [htk,Option.map_none,Option.map_some])
   ·refine st_none hst1 ?_ (by decide)
    show rd1 _=_
    unfold rd1
    simp only [htk,Option.map_none,Option.map_some]
  exact ⟨⟨(⟨0,0,0,0,(xs[0].toNat:Int),0⟩:En),false,rfl,.inr ⟨rfl,hpn⟩⟩,lkc⟩
 obtain ⟨_,mm,j,hm,hk,hj,hj0,htk⟩ | ⟨h,_⟩:=hT
 rotate_left
 ·exact absurd g3 h
 have hm':m=(mm:Int):=hm
 subst hm'
 subst hk
 have hj1:1+j<xs.length:=by omega
 have hcj:=xs[1+j].toNat_lt
 have hst2:=st_some hst1 (s2:=((⟨(mm:Int),0,0,0,(xs[0].toNat:Int),0⟩:En),xs.drop (1+j))) (by
  show rd1 _=_
  unfold rd1
  simp only [htk,Option.map_some,List.drop_drop])
 rw [List.drop_eq_getElem_cons hj1] at hst2
 have hst3:=st_some hst2 (s2:=((⟨(mm:Int),(xs[1+j].toNat:Int) - 1,0,0,(xs[0].toNat:Int),0⟩:En),xs.drop (1+j+1))) rfl
 refine x_skip (xq (xm (xl_Fb ?_)))
 refine xl_s (e_store fun w7 l7 k7=>?_)
 refine xl_nil ?_
 refine xq (xm ?_)
 refine xl_v (v_add (by omega)) ?_
 refine xz ?_
 refine xq (xm (xm ?_))
 refine xl_v (v_indexO (1+j) (by omega) (by omega) hj1) ?_
 refine xl_v (v_loadO (k:=1+j) hj1) ?_
 refine xl_v (v_congr (u:=.int .i64 (xs[1+j].toNat:Int)) v_convert (congrArg (Value.int .i64) (wrap_in (by omega) (by omega)))) ?_
 refine xl_v (v_sub (by omega)) ?_
 refine xl_Fb ?_
 refine xl_s (e_store fun w8 l8 k8=>?_)
 refine xl_nil ?_
 refine x_cut (fun τ ds w'=>ds=[]/\(∃ (e:En) (at':Nat),stepsTo xs 3=some (e,xs.drop at')/\at'<=n/\Ev τ 6 (.int .i64 (at':Int))/\Blk w' b4 (.cells (enC e).toArray 84 (0,0)))/\Ev τ 0 (.slice A n c)/\Ev τ 2 (ptrV b2)/\Ev τ 4 (ptrV b4)/\Blk w' b2 (.cells (enC En.zero).toArray 84 (0,0))/\Lk w' w NoB) ?_ ?_
 ·refine x_regionL (xm ?_)
  refine xl_v (v_add (by omega)) ?_
  refine xz ?_
  exact ⟨rfl,⟨_,_,hst3,by omega,evc (congrArg (Value.int .i64) (by omega)),ii⟩,ii,ii,ii,ii,lkc⟩
 intro τ9 ds9 w9 hI
 obtain ⟨rfl,⟨e,at',hst,hat,e6,kb4⟩,e0,e2,e4,kb2,lk⟩:=hI
 haveI hrA:Row w9 (if c=at' then A else A.map (·.add (at'*1))) (bytesC (xs.drop at')):=⟨(rowB_of (hrow at')).keep (kpc:Keep NoB w w9) (fun _ h=>h.elim) |>.row⟩
 refine x_cut (fun τ ds w'=>ds=[]/\(∃ (e:En) (at':Nat),stepsTo xs 4=some (e,xs.drop at')/\at'<=n/\Ev τ 6 (.int .i64 (at':Int))/\Blk w' b4 (.cells (enC e).toArray 84 (0,0)))/\Ev τ 0 (.slice A n c)/\Ev τ 2 (ptrV b2)/\Ev τ 4 (ptrV b4)/\Blk w' b2 (.cells (enC En.zero).toArray 84 (0,0))/\Lk w' w NoB) ?_ ?_
 ·refine xq (xl_Fb ?_)
  refine xl_Lc ?_
  refine xl_v v_geq (xl_nil ?_)
  refine x_if (fun c2=>?_) (fun c2=>?_)
  ·refine xq (xm (xm ?_))
   refine xl_v (v_sliceL at' rfl (by omega)) ?_
   refine xl_call (dtake_ok _ (n - at') (c - at') (xs.drop at') w9 (by rw [List.length_drop,hl]) (by omega)) ?_
   rintro _ w10 ⟨⟨m,k,no,rfl,hT⟩,lk2⟩
   refine xm (xl_v v_extract (xl_v v_extract (xl_v v_extract (xa (xa (xz ?_))))))
   refine x_seq (xq (xm (xl_v v_neq (xl_nil ?_))))
   refine x_if (fun c3=>?_) (fun c3=>?_)
   ·refine xq (xl_Lb ?_)
    refine xl_s (e_storeA fun w11 l11 k11=>?_)
    refine xz ?_
    refine x_ret ?_
    refine finR (rs:=[.cell 2 84,.tmp 3]) rfl ?_
    have hpn:parse xs=none:=st_none hst (by
     rcases hT with ⟨hno,_⟩ | ⟨_,htk⟩
     ·exact absurd hno (by simpa using c3)
     ·show rd3 _=_
      unfold rd3
      rw [if_pos (by omega)]
      simp only [htk,Option.map_none,Option.map_some]) (by decide)
    exact ⟨⟨e,false,rfl,.inr ⟨rfl,hpn⟩⟩,lkc⟩
   have hno:no=0:=by simpa using c3
   obtain ⟨_,mm,j,hm,hk,hj,hj0,htk⟩ | ⟨h,_⟩:=hT
   rotate_left
   ·exact absurd hno h
   have hm':m=(mm:Int):=hm
   subst hm'
   subst hk
   have hst2:stepsTo xs 4=some ({ e with num:=(mm:Int) },xs.drop (at'+j)):=st_some hst (by
    show rd3 _=_
    unfold rd3
    rw [if_pos (by omega)]
    simp only [htk,Option.map_some,List.drop_drop])
   have hj':j<=n - at':=by rw [List.length_drop,hl] at hj;exact hj
   have hat2:at'+j<=n:=by omega
   refine x_skip (xq (xm (xl_Fb ?_)))
   refine xl_s (e_store fun w12 l12 k12=>?_)
   refine xl_nil ?_
   refine x_regionL (xm (xm ?_))
   refine xl_v (v_add (by omega)) ?_
   refine xz ?_
   first
   | exact ⟨rfl,⟨_,_,hst2,hat2,evc (congrArg (Value.int .i64) (by omega)),ii⟩,ii,ii,ii,ii,lkc⟩
   | exact ⟨rfl,⟨e,at',st_some hst (rd3_no (by omega) _),hat,ii,ii⟩,ii,ii,ii,ii,lkc⟩
  refine x_skip ?_
  first
  | exact ⟨rfl,⟨_,_,hst2,hat2,evc (congrArg (Value.int .i64) (by omega)),ii⟩,ii,ii,ii,ii,lkc⟩
  | exact ⟨rfl,⟨e,at',st_some hst (rd3_no (by omega) _),hat,ii,ii⟩,ii,ii,ii,ii,lkc⟩
 intro τ13 ds13 w13 hI
 obtain ⟨rfl,⟨e,at',hst,hat,e6,kb4⟩,e0,e2,e4,kb2,lk⟩:=hI
 haveI hrA:Row w13 (if c=at' then A else A.map (·.add (at'*1))) (bytesC (xs.drop at')):=⟨(rowB_of (hrow at')).keep (kpc:Keep NoB w w13) (fun _ h=>h.elim) |>.row⟩
 refine x_cut (fun τ ds w'=>ds=[]/\(∃ (e:En) (at':Nat),stepsTo xs 5=some (e,xs.drop at')/\at'<=n/\Ev τ 6 (.int .i64 (at':Int))/\Blk w' b4 (.cells (enC e).toArray 84 (0,0)))/\Ev τ 0 (.slice A n c)/\Ev τ 2 (ptrV b2)/\Ev τ 4 (ptrV b4)/\Blk w' b2 (.cells (enC En.zero).toArray 84 (0,0))/\Lk w' w NoB) ?_ ?_
 ·refine xq (xl_Fb ?_)
  refine xl_Lc ?_
  refine xl_v v_eql (xm ?_)
  refine xl_split 74 (fun g74=>?_) (fun g74=>?_)
  ·have g15:=of_decide_eq_true g74
   refine xl_gFb rfl EvO.eq ?_
   refine xl_gLc rfl EvO.eq ?_
   refine xl_gv rfl EvO.eq v_geq (xl_Pk ?_)
   refine xl_nil ?_
   refine x_if (fun c4=>?_) (fun c4=>?_)
   ·refine xq (xm (xm ?_))
    refine xl_v (v_sliceL at' rfl (by omega)) ?_
    refine xl_call (dtake_ok _ (n - at') (c - at') (xs.drop at') w13 (by rw [List.length_drop,hl]) (by omega)) ?_
    rintro _ w14 ⟨⟨m,k,no,rfl,hT⟩,lk2⟩
    refine xm (xl_v v_extract (xl_v v_extract (xl_v v_extract (xa (xa (xz ?_))))))
    refine x_seq (xq (xm (xl_v v_neq (xl_nil ?_))))
    refine x_if (fun c5=>?_) (fun c5=>?_)
    ·refine xq (xl_Lb ?_)
     refine xl_s (e_storeA fun w15 l15 k15=>?_)
     refine xz ?_
     refine x_ret ?_
     refine finR (rs:=[.cell 2 84,.tmp 3]) rfl ?_
     have hpn:parse xs=none:=st_none hst (by
      rcases hT with ⟨hno,_⟩ | ⟨_,htk⟩
      ·exact absurd hno (by simpa using c5)
      ·show rd4 _=_
       unfold rd4
       rw [if_pos ⟨by omega,by omega⟩]
       simp only [htk,Option.map_none,Option.map_some]) (by decide)
     exact ⟨⟨e,false,rfl,.inr ⟨rfl,hpn⟩⟩,lkc⟩
    have hno:no=0:=by simpa using c5
    obtain ⟨_,mm,j,hm,hk,hj,hj0,htk⟩ | ⟨h,_⟩:=hT
    rotate_left
    ·exact absurd hno h
    have hm':m=(mm:Int):=hm
    subst hm'
    subst hk
    have hst2:stepsTo xs 5=some ({ e with seq:=(mm:Int) },xs.drop (at'+j)):=st_some hst (by
     show rd4 _=_
     unfold rd4
     rw [if_pos ⟨by omega,by omega⟩]
     simp only [htk,Option.map_some,List.drop_drop])
    have hj':j<=n - at':=by rw [List.length_drop,hl] at hj;exact hj
    have hat2:at'+j<=n:=by omega
    refine x_skip (xq (xm (xl_Fb ?_)))
    refine xl_s (e_store fun w16 l16 k16=>?_)
    refine xl_nil ?_
    refine x_regionL (xm (xm ?_))
    refine xl_v (v_add (by omega)) ?_
    refine xz ?_
    first
    | exact ⟨rfl,⟨_,_,hst2,hat2,evc (congrArg (Value.int .i64) (by omega)),ii⟩,ii,ii,ii,ii,lkc⟩
    | exact ⟨rfl,⟨e,at',st_some hst (rd4_no (by first | omega | (simp at c4;omega)) _),hat,ii,ii⟩,ii,ii,ii,ii,lkc⟩
   refine x_skip ?_
   first
   | exact ⟨rfl,⟨_,_,hst2,hat2,evc (congrArg (Value.int .i64) (by omega)),ii⟩,ii,ii,ii,ii,lkc⟩
   | exact ⟨rfl,⟨e,at',st_some hst (rd4_no (by first | omega | (simp at c4;omega)) _),hat,ii,ii⟩,ii,ii,ii,ii,lkc⟩
  have g15:=of_decide_eq_false g74
  refine xl_gs rfl EvO.eq (xl_gs rfl EvO.eq (xl_gs rfl EvO.eq (xl_Pk ?_)))
  refine xl_nil ?_
  refine x_condF ?_
  refine x_skip ?_
  first
  | exact ⟨rfl,⟨_,_,hst2,hat2,evc (congrArg (Value.int .i64) (by omega)),ii⟩,ii,ii,ii,ii,lkc⟩
  | exact ⟨rfl,⟨e,at',st_some hst (rd4_no (by first | omega | (simp at c4;omega)) _),hat,ii,ii⟩,ii,ii,ii,ii,lkc⟩
 intro τ17 ds17 w17 hI
 obtain ⟨rfl,⟨e,at',hst,hat,e6,kb4⟩,e0,e2,e4,kb2,lk⟩:=hI
 haveI hrA:Row w17 (if c=at' then A else A.map (·.add (at'*1))) (bytesC (xs.drop at')):=⟨(rowB_of (hrow at')).keep (kpc:Keep NoB w w17) (fun _ h=>h.elim) |>.row⟩
 refine x_cut (fun τ ds w'=>ds=[]/\(∃ (e:En) (at':Nat),stepsTo xs 6=some (e,xs.drop at')/\at'<=n/\Ev τ 6 (.int .i64 (at':Int))/\Blk w' b4 (.cells (enC e).toArray 84 (0,0)))/\Ev τ 0 (.slice A n c)/\Ev τ 2 (ptrV b2)/\Ev τ 4 (ptrV b4)/\Blk w' b2 (.cells (enC En.zero).toArray 84 (0,0))/\Lk w' w NoB) ?_ ?_
 ·refine xq (xl_Fb ?_)
  refine xl_Lc ?_
  refine xl_v v_eql (xl_nil ?_)
  refine x_if (fun c6=>?_) (fun c6=>?_)
  ·refine xq (xm (xm ?_))
   refine xl_v (v_sliceL at' rfl (by omega)) ?_
   refine xl_call (dtakeS_ok _ (n - at') (c - at') (xs.drop at') w17 (by rw [List.length_drop,hl]) (by omega)) ?_
   rintro _ w18 ⟨⟨m,k,no,rfl,hT⟩,lk2⟩
   refine xm (xl_v v_extract (xl_v v_extract (xl_v v_extract (xa (xa (xz ?_))))))
   refine x_seq (xq (xm (xl_v v_neq (xl_nil ?_))))
   refine x_if (fun c7=>?_) (fun c7=>?_)
   ·refine xq (xl_Lb ?_)
    refine xl_s (e_storeA fun w19 l19 k19=>?_)
    refine xz ?_
    refine x_ret ?_
    refine finR (rs:=[.cell 2 84,.tmp 3]) rfl ?_
    have hpn:parse xs=none:=st_none hst (by
     rcases hT with ⟨hno,_⟩ | ⟨_,htk⟩
     ·exact absurd hno (by simpa using c7)
     ·show rd5 _=_
      unfold rd5
      rw [if_pos (by omega)]
      simp only [htk,Option.map_none,Option.map_some]) (by decide)
    exact ⟨⟨e,false,rfl,.inr ⟨rfl,hpn⟩⟩,lkc⟩
   have hno:no=0:=by simpa using c7
   obtain ⟨_,mm,j,hm,hk,hj,hj0,htk⟩ | ⟨h,_⟩:=hT
   rotate_left
   ·exact absurd hno h
   have hm':m=unz mm:=hm
   subst hm'
   subst hk
   have hst2:stepsTo xs 6=some ({ e with val:=unz mm },xs.drop (at'+j)):=st_some hst (by
    show rd5 _=_
    unfold rd5
    rw [if_pos (by omega)]
    simp only [htk,Option.map_some,List.drop_drop])
   have hj':j<=n - at':=by rw [List.length_drop,hl] at hj;exact hj
   have hat2:at'+j<=n:=by omega
   refine x_skip (xq (xm (xl_Fb ?_)))
   refine xl_s (e_store fun w20 l20 k20=>?_)
   refine xl_nil ?_
   refine x_regionL (xm (xm ?_))
   refine xl_v (v_add (by omega)) ?_
   refine xz ?_
   first
   | exact ⟨rfl,⟨_,_,hst2,hat2,evc (congrArg (Value.int .i64) (by omega)),ii⟩,ii,ii,ii,ii,lkc⟩
   | exact ⟨rfl,⟨e,at',st_some hst (rd5_no (by omega) _),hat,ii,ii⟩,ii,ii,ii,ii,lkc⟩
  refine x_skip ?_
  first
  | exact ⟨rfl,⟨_,_,hst2,hat2,evc (congrArg (Value.int .i64) (by omega)),ii⟩,ii,ii,ii,ii,lkc⟩
  | exact ⟨rfl,⟨e,at',st_some hst (rd5_no (by omega) _),hat,ii,ii⟩,ii,ii,ii,ii,lkc⟩
 intro τ21 ds21 w21 hI
 obtain ⟨rfl,⟨e,at',hst,hat,e6,kb4⟩,e0,e2,e4,kb2,lk⟩:=hI
 haveI hrA:Row w21 (if c=at' then A else A.map (·.add (at'*1))) (bytesC (xs.drop at')):=⟨(rowB_of (hrow at')).keep (kpc:Keep NoB w w21) (fun _ h=>h.elim) |>.row⟩
 refine x_seq ?_
 refine x_drawL (OneB b2) (allS) (.take 0 (.take 1 (.take 2 (.take 3 (.take 4 (.take 5 (.take 6 (.eff 7 (.take 8 (.eff 9 (.take 10 .done))))))))))) mixed (by kernel_rfl) (fun _ _ _ _ _ h=>h) (fun w22 l22=>?_)
 refine xt_Lb rfl ?_
 refine xt_v rfl v_move (xt_v rfl v_move (xt_v rfl v_len ?_))
 refine xt_v rfl v_eql ?_
 refine xt_v rfl v_move ?_
 refine xt_split 119 (fun g119=>?_) (fun g119=>?_)
 ·have g27:=of_decide_eq_true g119
  refine xt_gLb rfl rfl EvO.eq ?_
  refine xt_gcall rfl rfl EvO.eq (dright_ok e w22) ?_
  rintro _ w23 ⟨rfl,lk7⟩
  refine ⟨kpc,?_⟩
  refine xt_Pk rfl ?_
  refine xt_s rfl (e_storeA fun w24 l24 k24=>?_)
  refine xt_v rfl v_assign (xt_nil ?_)
  refine x_ret ?_
  refine finR (rs:=[.cell 2 84,.tmp 3]) rfl ?_
  have hps:parse xs=if at'=n/\Right e then some e else none:=by
   rw [parse_steps,hst]
   by_cases hh:at'=n
   ·rw [List.drop_of_length_le (by omega)]
    simp [hh]
   ·have h1:at'<xs.length:=by omega
    rw [List.drop_eq_getElem_cons h1]
    simp [hh]
  refine ⟨⟨e,decide (at'=n/\Right e),?_,?_⟩,lkc⟩
  ·first
    | (rw [decide_eq_false (by omega)];rfl)
    | (have h1:at'=n:=by omega
       simp [h1,outV])
  ·rw [hps]
   by_cases hh:at'=n/\Right e
   ·exact .inl ⟨decide_eq_true hh,if_pos hh⟩
   ·exact .inr ⟨decide_eq_false hh,if_neg hh⟩
 have g27:=of_decide_eq_false g119
 refine xt_gs rfl rfl EvO.eq ?_
 refine xt_gse rfl rfl EvO.eq ?_
 refine xt_Pk rfl ?_
 refine xt_s rfl (e_storeA fun w25 l25 k25=>?_)
 refine xt_v rfl v_assign (xt_nil ?_)
 refine x_ret ?_
 refine finR (rs:=[.cell 2 84,.tmp 3]) rfl ?_
 have hps:parse xs=if at'=n/\Right e then some e else none:=by
  rw [parse_steps,hst]
  by_cases hh:at'=n
  ·rw [List.drop_of_length_le (by omega)]
   simp [hh]
  ·have h1:at'<xs.length:=by omega
   rw [List.drop_eq_getElem_cons h1]
   simp [hh]
 refine ⟨⟨e,decide (at'=n/\Right e),?_,?_⟩,lkc⟩
 ·(rw [decide_eq_false (by omega)];rfl)
 ·rw [hps]
  by_cases hh:at'=n/\Right e
  ·exact .inl ⟨decide_eq_true hh,if_pos hh⟩
  ·exact .inr ⟨decide_eq_false hh,if_neg hh⟩
end Go.Proofs.YtigmfcgeljjgnaaGreatDoor
namespace Go.Wst
def IterX (P:Program) (g:Value) (Own:Nat->Prop) (Al Fin:Seen->Prop) (E:List Value->(Nat->Prop)->World->Prop) (c:Nat) (Rd:World->Prop) (Wr:World->World->Prop) (w:World):Prop:=
  ∀ y I J F w0,Cell1 y->YieldsE P y Al E I J w0 w.heap.size->(∀ pre F W,I pre F W->Rd W)->(∀ pre F W W',I pre F W->Wr W W'->I pre F W')->F c->w0.heap.size<=w.heap.size->I [] F w->(∀ k,F k->¬ Own k)->CallV P g [y] w (fun _ w'=>∃ pre F',((Fin pre/\I pre F' w')\/J pre F' w')/\Keep F w w'/\Sub F' F w)
theorem x_rangeX {P:Program} {N:Nat} {Q:Post} {τ:Tau} {ds:List Deferred} {w:World} {g:Operand} {gf:FuncId} {ga gc:Array Value} {ps:List Nat} {assign body:Code} [hg:EvO N τ g (.func (.func gf) ga gc)]
    (Own:Nat->Prop) (Al Fin:Seen->Prop) (E:List Value->(Nat->Prop)->World->Prop) (hE:Elem E) (c:Nat) (Rd:World->Prop) (Wr:World->World->Prop) (hcw:c<w.heap.size) (hWk:∀ W W',Wr W W'->Keep (OneB c) W W') (hit:∀ W,Lk W w NoB->IterX P (.func (.func gf) ga gc) Own Al Fin E c Rd Wr W) (hOwn:∀ k,Own k->k<w.heap.size) (hAl:∀ pre v,Al (pre++[v])->v.length=ps.length)
    (I:Seen->(Nat->Prop)->World->Prop) (J:Exit->Seen->(Nat->Prop)->World->Prop) (F0:Nat->Prop) (hI:Stable I w) (hJ:∀ e,Stable (J e) w) (hIR:∀ pre F W,I pre F W->Rd W) (hIW:∀ pre F W W',I pre F W->Wr W W'->I pre F W') (hFc:F0 c) (h0:I [] F0 w) (hF:∀ k,F0 k->¬ Own k)
    (B:List Value->Tau->Nat->World->Prop) (hBk:∀ v τ n W1 W2 S,B v τ n W1->Keep S W1 W2->(∀ k,S k->k<n)->B v τ n W2)
    (ha:∀ l pre v W,Al (pre++[v])->v.length=ps.length->X P (some l) N assign (thn (fun τ1 _ W1=>Lk W1 W NoB/\B v τ1 W.heap.size W1) (fun _ _ _ _=>False)) (updL τ ps v) [] W)
    (hb:∀ l pre v F Fv n W τ1 ds1,Al (pre++[v])->I pre F W->E v Fv W->(∀ k,Fv k->¬ F k)->(∀ k,Fv k->w.heap.size<=k)->(∀ k,F k\/Fv k->k<n)->w.heap.size<=n->n<=W.heap.size->B v τ1 n W->X P (some l) N body (roundQ I J (pre++[v]) (fun k=>F k\/Fv k\/n<=k) W) τ1 ds1 W)
    (hn:∀ D pre F W,Fin pre->I pre F W->Keep F0 w W->Sub F F0 w->Blk W D (.deferred (some []))->w.heap.size<=D->¬ F D->Q .normal τ (markOf D :: ds) W)
    (hj:∀ D e pre F W,J e pre F W->(codeOf e).isSome=true->Keep F0 w W->Sub F F0 w->Blk W D (.deferred (some []))->w.heap.size<=D->¬ F D->Q e τ (markOf D :: ds) W) :
    X P none N (.rangeFunc g ps.toArray assign body) Q τ ds w:=by
  intro a hrel
  refine wpIn_rangeFunc ?_
  intro fn hfn
  obtain ⟨rec,hrec⟩:∃ rec:LoopState->Option Code->Loop,rec=fun st pe=>{ state:=st,pending:=pe,fn,tmps:=a.tmps,params:=ps.toArray,assign,body,defers:=w.heap.size }:=⟨_,rfl⟩
  obtain ⟨W1,hW1⟩:∃ W1,(w.alloc (.deferred (some []))).alloc (.loop (rec .ready none))=W1:=⟨_,rfl⟩
  obtain ⟨l,hl⟩:∃ l,l=w.heap.size+1:=⟨_,rfl⟩
  have hk1:Keep NoB w W1:=by rw [<- hW1];exact (Keep.alloc w _).trans (Keep.alloc _ _)
  have hL1:W1.heap[l]?=some (.loop (rec .ready none)):=by
    rw [<- hW1,hl];have:=heap_alloc_new (w.alloc (.deferred (some []))) (.loop (rec .ready none));rwa [World.size_alloc] at this
  have hD1:W1.heap[w.heap.size]?=some (.deferred (some [])):=by
    rw [<- hW1];exact ((Keep.alloc (w.alloc (.deferred (some []))) (.loop (rec .ready none))).block _ (by simp) (fun h=>h)).trans (heap_alloc_new w _)
  have hF0:=hI.lt _ _ _ h0
  obtain ⟨I',hI'⟩:∃ I':Seen->(Nat->Prop)->World->Prop,I'=fun pre F' W=>∃ F,(∀ k,F' k↔(F k\/k=l))/\¬ F l/\I pre F W/\W.heap[l]?=some (.loop (rec .ready none))/\Sub F F0 w/\¬ F w.heap.size:=⟨_,rfl⟩
  obtain ⟨J',hJ'⟩:∃ J':Seen->(Nat->Prop)->World->Prop,J'=fun pre F' W=>∃ F e,(codeOf e).isSome=true/\(∀ k,F' k↔(F k\/k=l))/\¬ F l/\J e pre F W/\W.heap[l]?=some (.loop (rec .done (codeOf e)))/\Sub F F0 w/\¬ F w.heap.size:=⟨_,rfl⟩
  have hlw:∀ k,OneB l k->w.heap.size<=k:=fun k e=>by have e':k=l:=e;omega
  have hyields:YieldsE P (.func (.yield l) #[] #[]) Al E I' J' w W1.heap.size:=by
    rw [hI',hJ']
    refine ⟨⟨?_,?_⟩,⟨?_,?_⟩,?_⟩
    · rintro pre F' W ⟨F,h1,h2,h3,h4,_⟩ k hk
      rcases (h1 k).1 hk with h | h
      · exact hI.lt _ _ _ h3 k h
      rw [h];exact (Array.getElem?_eq_some_iff.1 h4).1
    · rintro pre F' W W' S ⟨F,h1,h2,h3,h4,h5⟩ hk hs hnew
      exact ⟨F,h1,h2,hI.keep _ _ _ _ _ h3 hk (fun k h=>hs k ((h1 k).2 (.inl h))) hnew,(hk.block l (Array.getElem?_eq_some_iff.1 h4).1 (hs l ((h1 l).2 (.inr rfl)))).trans h4,h5⟩
    · rintro pre F' W ⟨F,e,_,h1,h2,h3,h4,_⟩ k hk
      rcases (h1 k).1 hk with h | h
      · exact (hJ e).lt _ _ _ h3 k h
      rw [h];exact (Array.getElem?_eq_some_iff.1 h4).1
    · rintro pre F' W W' S ⟨F,e,h0,h1,h2,h3,h4,h5⟩ hk hs hnew
      exact ⟨F,e,h0,h1,h2,(hJ e).keep _ _ _ _ _ h3 hk (fun k h=>hs k ((h1 k).2 (.inl h))) hnew,(hk.block l (Array.getElem?_eq_some_iff.1 h4).1 (hs l ((h1 l).2 (.inr rfl)))).trans h4,h5⟩
    rintro pre v F' Fv W hal ⟨F,h1,h2,h3,h4,h5,h6⟩ hEv hdis hnw
    have hW1s:W1.heap.size=w.heap.size+2:=by rw [<- hW1];simp
    have hFvl:¬ Fv l:=fun e=>hdis l e ((h1 l).2 (.inr rfl))
    have hlt:l<W.heap.size:=(Array.getElem?_eq_some_iff.1 h4).1
    have hvl:=hAl pre v hal
    have hy:=run_yield (P:=P) (args:=v.toArray) h4 (by rw [hrec];simp [hvl])
    refine .inr ⟨l,fn,_,assign,body,rfl,by rw [hrec] at hy;exact hy,roundIn_of_wpIn (F:=FX none) hfn ?_⟩
    have hz:Rel N (updL τ ps v) [] ⟨(ps.zip v).foldl (fun t (p:Nat×Value)=>t.setIfInBounds p.1 p.2) a.tmps,[]⟩:=rel_zip ps v τ a.tmps ⟨hrel.size,hrel.get,rfl⟩
    have hzz:(Array.foldl (fun (tmps:Array Value) (x:Nat×Value)=>tmps.setIfInBounds x.1 x.2) a.tmps (ps.toArray.zip v.toArray))=(ps.zip v).foldl (fun t (p:Nat×Value)=>t.setIfInBounds p.1 p.2) a.tmps:=by
      rw [List.zip_toArray,List.foldl_toArray]
    have h7:=ha l pre v W hal hvl _ hz
    have h8:Code.wpIn (FX (some l)) 0 P assign (Exit.then (fun a₁ w₁=>∃ w₂,(Instr.beginRound l).run P w₁=.ok () w₂/\body.wpIn (FX (some l)) 0 P (roundPost P l (fun e w'=>∃ v_1,e=.returned v_1/\∃ b F'_1,v_1=.bool b/\(if b=true then (fun pre F' W=>∃ F,(∀ k,F' k↔(F k\/k=l))/\¬ F l/\I pre F W/\W.heap[l]?=some (.loop (rec .ready none))/\Sub F F0 w/\¬ F w.heap.size) (pre++[v]) F'_1 w' else (fun pre F' W=>∃ F e,(codeOf e).isSome=true/\(∀ k,F' k↔(F k\/k=l))/\¬ F l/\J e pre F W/\W.heap[l]?=some (.loop (rec .done (codeOf e)))/\Sub F F0 w/\¬ F w.heap.size) (pre++[v]) F'_1 w')/\Keep (fun k=>F' k\/Fv k) W w'/\Sub F'_1 (fun k=>F' k\/Fv k) W)) a₁ w₂) (fun _ _ _=>False))
        ⟨(ps.zip v).foldl (fun t (p:Nat×Value)=>t.setIfInBounds p.1 p.2) a.tmps,[]⟩ W:=by
      refine wpIn_mono h7 ?_
      rintro e a1 W2 ⟨τ1,d1,hr1,hq⟩
      cases e with
      | normal=>
        obtain ⟨⟨hkW⟩,hB⟩:=hq
        have hlt2:l<W2.heap.size:=Nat.lt_of_lt_of_le hlt hkW.size
        have h4':W2.heap[l]?=some (.loop (rec .ready none)):=(hkW.block l hlt (fun h=>h)).trans h4
        have hFlt:=hI.lt _ _ _ h3
        refine ⟨_,run_beginRound h4' (by rw [hrec]),?_⟩
        have hk2:=keep_putObj W2 l (.loop { rec .ready none with state:=.busy })
        have hl2:(W2.putObj l (.loop { rec .ready none with state:=.busy })).heap[l]?=some (.loop { rec .ready none with state:=.busy }):=World.putObj_heap_same hlt2
        have hi2:=hI.keep _ _ _ _ _ (hI.keep _ _ _ _ _ h3 hkW (fun _ _ h=>h) (fun _ h=>h.elim)) hk2 (fun k hk e=>h2 (by have e':k=l:=e;rw [<- e'];exact hk)) hlw
        have hE2:=hE.keep _ _ _ _ _ (hE.keep _ _ _ _ _ hEv hkW (fun _ _ h=>h)) hk2 (fun k hk e=>hFvl (by have e':k=l:=e;rw [<- e'];exact hk))
        have hsz:(W2.putObj l (.loop { rec .ready none with state:=.busy })).heap.size=W2.heap.size:=by simp [World.putObj]
        have hsW:=hkW.size
        have hwW:w.heap.size<=W.heap.size:=by omega
        have hB2:=hBk _ _ _ _ _ _ hB hk2 (fun k e=>by have e':k=l:=e;omega)
        refine wpIn_mono (hb l pre v F Fv W.heap.size _ τ1 d1 hal hi2 hE2 (fun k hk e=>hdis k hk ((h1 k).2 (.inl e))) (fun k hk=>by have:=hnw k hk;omega) (fun k hk=>hk.elim (hFlt k) (fun hk=>hE.lt _ _ _ hEv k hk)) hwW (by rw [hsz];exact hsW) hB2 a1 hr1) ?_
        have fin:∀ (jump:Option Code) (W3:World) (F3:Nat->Prop),Keep (fun k=>F k\/Fv k\/W.heap.size<=k) (W2.putObj l (.loop { rec .ready none with state:=.busy })) W3->Sub F3 (fun k=>F k\/Fv k\/W.heap.size<=k) (W2.putObj l (.loop { rec .ready none with state:=.busy })) ->
            (Instr.endRound l jump).run P W3=.ok (.bool jump.isNone) (W3.putObj l (.loop (rec (if jump.isNone then .ready else .done) jump))) /\
            (W3.putObj l (.loop (rec (if jump.isNone then .ready else .done) jump))).heap[l]?=some (.loop (rec (if jump.isNone then .ready else .done) jump)) /\
            ¬ F3 l/\Keep (fun k=>F' k\/Fv k) W (W3.putObj l (.loop (rec (if jump.isNone then .ready else .done) jump)))/\Sub (fun k=>F3 k\/k=l) (fun k=>F' k\/Fv k) W/\Sub F3 F0 w/\¬ F3 w.heap.size:=by
          intro jump W3 F3 hk3 hs3
          have hnl:¬ (F l\/Fv l\/W.heap.size<=l):=fun e=>e.elim h2 (fun e=>e.elim hFvl (fun e=>by omega))
          have hl3:=(hk3.block l (by rw [hsz];exact hlt2) hnl).trans hl2
          have hr:=run_endRound (P:=P) jump hl3
          have hw2:w.heap.size<=W2.heap.size:=by omega
          refine ⟨by rw [hrec] at hr ⊢;exact hr,World.putObj_heap_same (Array.getElem?_eq_some_iff.1 hl3).1,fun h=>(hs3 l h).elim hnl (fun e=>by rw [hsz] at e;omega),?_,?_,?_,?_⟩
          · have k0:Keep (fun k=>F' k\/Fv k) W W2:=hkW.mono (fun _ _ h=>h.elim)
            have k1:Keep (fun k=>F' k\/Fv k) W (W2.putObj l (.loop { rec .ready none with state:=.busy })):=k0.then hk2 (fun k _ e=>.inl ((h1 k).2 (.inr e)))
            have k2:Keep (fun k=>F' k\/Fv k) W W3:=k1.then hk3 (fun k hk e=>e.elim (fun e=>.inl ((h1 k).2 (.inl e))) (fun e=>e.elim .inr (fun e=>by omega)))
            exact k2.then (keep_putObj W3 l _) (fun k _ e=>.inl ((h1 k).2 (.inr e)))
          · rintro k (hk | hk)
            · rcases hs3 k hk with (e | e | e) | e
              · exact .inl (.inl ((h1 k).2 (.inl e)))
              · exact .inl (.inr e)
              · exact .inr e
              rw [hsz] at e;exact .inr (Nat.le_trans hsW e)
            exact .inl (.inl ((h1 k).2 (.inr hk)))
          · intro k hk
            rcases hs3 k hk with (e | e | e) | e
            · exact h5 k e
            · have:=hnw k e;exact .inr (by omega)
            · exact .inr (by omega)
            rw [hsz] at e;exact .inr (by omega)
          intro hk
          rcases hs3 _ hk with (e | e | e) | e
          · exact h6 e
          · have:=hnw _ e;omega
          · omega
          rw [hsz] at e;omega
        rintro e3 a3 W3 ⟨τ3,d3,hr3,hp⟩
        cases e3 with
        | normal=>
          obtain ⟨F3,hi3,hk3,hs3⟩:=hp
          obtain ⟨e1,e2,e3,e4,e5,e6,e7⟩:=fin none W3 F3 hk3 hs3
          have hi4:=hI.keep _ _ _ _ _ hi3 (keep_putObj W3 l (.loop (rec .ready none))) (fun k hk e=>e3 (by have e':k=l:=e;rw [<- e'];exact hk)) hlw
          exact ⟨_,_,e1,_,rfl,true,_,rfl,by rw [if_pos rfl];exact ⟨F3,fun k=>Iff.rfl,e3,hi4,e2,e6,e7⟩,e4,e5⟩
        | ret=>
          obtain ⟨F3,hi3,hk3,hs3⟩:=hp
          obtain ⟨e1,e2,e3,e4,e5,e6,e7⟩:=fin (some .ret) W3 F3 hk3 hs3
          have hi4:=(hJ .ret).keep _ _ _ _ _ hi3 (keep_putObj W3 l (.loop (rec .done (some .ret)))) (fun k hk e=>e3 (by have e':k=l:=e;rw [<- e'];exact hk)) hlw
          exact ⟨_,_,e1,_,rfl,false,_,rfl,by rw [if_neg (by simp)];exact ⟨F3,.ret,rfl,fun k=>Iff.rfl,e3,hi4,e2,e6,e7⟩,e4,e5⟩
        | exit id=>
          obtain ⟨F3,hi3,hk3,hs3⟩:=hp
          obtain ⟨e1,e2,e3,e4,e5,e6,e7⟩:=fin (some (.exit id)) W3 F3 hk3 hs3
          have hi4:=(hJ (.exit id)).keep _ _ _ _ _ hi3 (keep_putObj W3 l (.loop (rec .done (some (.exit id))))) (fun k hk e=>e3 (by have e':k=l:=e;rw [<- e'];exact hk)) hlw
          exact ⟨_,_,e1,_,rfl,false,_,rfl,by rw [if_neg (by simp)];exact ⟨F3,.exit id,rfl,fun k=>Iff.rfl,e3,hi4,e2,e6,e7⟩,e4,e5⟩
        | goto t=>exact hp.elim
        | panic ch=>exact hp.elim
        | outgrown=>exact hp.elim
      | exit id=>exact hq.elim
      | goto t=>exact hq.elim
      | ret=>exact hq.elim
      | panic ch=>exact hq.elim
      | outgrown=>exact hq.elim
    rw [hrec]
    simp only []
    rw [hzz]
    rw [hrec] at h8
    exact h8
  have hstart:I' [] (fun k=>F0 k\/k=l) W1:=by
    rw [hI']
    exact ⟨F0,fun k=>Iff.rfl,fun e=>by have:=hF0 l e;omega,hI.keep _ _ _ _ _ h0 hk1 (fun _ _ h=>h) (fun _ h=>h.elim),hL1,Sub.refl _ _,fun e=>by have:=hF0 _ e;omega⟩
  have hiter:=hit W1 ⟨hk1⟩ (.func (.yield l) #[] #[]) I' J' (fun k=>F0 k\/k=l) w ⟨rfl⟩ hyields (by rw [hI'];rintro pre F' W ⟨F,_,_,h3,_⟩;exact hIR _ _ _ h3) (by
    rw [hI']
    rintro pre F' W W' ⟨F,h1,h2,h3,h4,h5⟩ hw
    exact ⟨F,h1,h2,hIW _ _ _ _ h3 hw,((hWk _ _ hw).block l (Array.getElem?_eq_some_iff.1 h4).1 (fun e=>by have e':l=c:=e;omega)).trans h4,h5⟩) (.inl hFc) hk1.size hstart (fun k hk=>by
    rcases hk with hk | hk
    · exact hF k hk
    intro e;have:=hOwn k e;omega)
  have hgv:=hg.eq
  have post:∀ (v:Value) (w3:World),(∃ pre F',((Fin pre/\I' pre F' w3)\/J' pre F' w3)/\Keep (fun k=>F0 k\/k=l) W1 w3/\Sub F' (fun k=>F0 k\/k=l) W1) ->
      rangePost (FX none) 0 P l (lift N Q) { a with defers:=markOf w.heap.size :: a.defers } (.returned v) w3:=by
    rintro v w3 ⟨pre,F',hor,hk3,hs3⟩
    have hD3:w3.heap[w.heap.size]?=some (.deferred (some [])):=(hk3.block _ (Array.getElem?_eq_some_iff.1 hD1).1 (fun e=>e.elim (fun e=>by have:=hF0 _ e;omega) (fun e=>by omega))).trans hD1
    have hrel2:Rel N τ (markOf w.heap.size :: ds) { a with defers:=markOf w.heap.size :: a.defers }:=⟨hrel.size,hrel.get,by simp [hrel.dfs]⟩
    have hkw:∀ o,Keep F0 w (w3.putObj l o):=fun o=>by
      have k1:Keep F0 w W1:=hk1.mono (fun _ _ h=>h.elim)
      have k2:Keep F0 w w3:=k1.then hk3 (fun k hk e=>e.elim (fun e=>e) (fun e=>by omega))
      exact k2.then (keep_putObj w3 l o) (fun k hk e=>by have e':k=l:=e;omega)
    rcases hor with ⟨hfin,hi⟩ | hjj
    · rw [hI'] at hi
      obtain ⟨F,h1,h2,h3,h4,h5,h6⟩:=hi
      refine ⟨none,_,by have:=run_endLoop (P:=P) h4 (by rw [hrec];simp);rw [hrec] at this;exact this,τ,_,hrel2,?_⟩
      refine hn w.heap.size pre F _ hfin (hI.keep _ _ _ _ _ h3 (keep_putObj w3 l _) (fun k hk e=>h2 (by have e':k=l:=e;rw [<- e'];exact hk)) hlw) (hkw _) h5 ⟨(World.putObj_heap_other (by omega)).trans hD3⟩ (Nat.le_refl _) h6
    rw [hJ'] at hjj
    obtain ⟨F,e,hc,h1,h2,h3,h4,h5,h6⟩:=hjj
    have hq:=hj w.heap.size e pre F _ ((hJ e).keep _ _ _ _ _ h3 (keep_putObj w3 l (.loop { rec .done (codeOf e) with state:=.exhausted })) (fun k hk e=>h2 (by have e':k=l:=e;rw [<- e'];exact hk)) hlw) hc (hkw _) h5 ⟨(World.putObj_heap_other (by omega)).trans hD3⟩ (Nat.le_refl _) h6
    have hrun:(Instr.endLoop l).run P w3=.ok (codeOf e) (w3.putObj l (.loop { rec .done (codeOf e) with state:=.exhausted })):=by
      subst hrec
      exact run_endLoop (P:=P) h4 (by simp)
    refine ⟨codeOf e,_,hrun,?_⟩
    cases e with
    | ret=>exact wpIn_ret ⟨τ,_,hrel2,hq⟩
    | exit id=>exact wpIn_exit ⟨τ,_,hrel2,hq⟩
    | normal=>simp [codeOf] at hc
    | goto t=>simp [codeOf] at hc
    | panic ch=>simp [codeOf] at hc
    | outgrown=>simp [codeOf] at hc
  have henter:=run_enterLoop_outer (P:=P) (w:=w) fn a.tmps ps.toArray assign body
  rcases hiter with ⟨f,aa,cc,hgf,hf,h3⟩ | ⟨l2,f,t,asx,bd,hgf,h2,h3⟩
  · cases hgf
    obtain ⟨fn2,cb,hfn2,hnm,hbd⟩:=hf.ex
    refine ⟨l,[markOf w.heap.size],W1,{ target:=.fn (.func gf) gc,args:=ga++#[.func (.yield l) #[] #[]] },W1,gf,ga++#[.func (.yield l) #[] #[]]++gc,W1,?_,?_,fun _ _=>trivial,?_,(fun h=>by simp [FX] at h),?_⟩
    · rw [hl,<- hW1,hrec];exact henter
    · have e1:a.eval g=.func (.func gf) ga gc:=by rw [hrel.eval];exact hgv
      have e0:resolve a.eval (rangeCall g l) 0=Deferred.ofValue (a.eval g) #[.func (.yield l) #[] #[]]:=by
        simp [resolve,rangeCall]
        rfl
      rw [e0,e1]
      simp [Deferred.ofValue]
    · simp [invoke,callFunc,program,Sem.run,hfn2,hnm,hbd]
    refine (callsIn_FX (r:=none) (n:=0 - 1)).2 (Calls.mono h3 ?_)
    rintro e w'' ⟨v,rfl,hR⟩
    exact post v w'' hR
  cases hgf
end Go.Wst
namespace Go.Proofs.YtigmfcgeljjgnaaGreatDoor
open Go.Wst
open Go.Wst.Dm
theorem row_mapcell {W:World} {m k:Nat} {enc:ByteArray->Value} {kvs:List (ByteArray×Value)} {cs:Array Value} {e:TypeId} {fr:Nat×Nat} (h:MapB W m enc kvs) (hk:W.heap[k]?=some (.cells cs e fr)):k≠m:=by
 rintro rfl
 obtain ⟨es,clock,h1,_⟩:=h
 rw [h1] at hk
 cases hk
theorem rowP_take {W:World} {A:Option Addr} {cs ds:List Value} (h:RowP W A (cs++ds)):RowP W A cs:=fun j v hv=>h j v (by rw [List.getElem?_append_left (List.getElem?_eq_some_iff.1 hv).1];exact hv)
theorem rowP_bytes {W:World} {A:Option Addr} {xs:List UInt8} (n:Nat) (h:RowP W A (bytesC xs)):RowP W A (bytesC (xs.take n)):=by
 have:bytesC xs=bytesC (xs.take n)++bytesC (xs.drop n):=by rw [bytesC_append,List.take_append_drop]
 rw [this] at h
 exact rowP_take h
theorem own_cap {w:World} {base n c sz:Nat} {e:TypeId} {A:Option Addr} {xs:List Value} (h:w.ownsRow base e sz (.slice A n c) n xs):n<=c:=by
 rcases h.2 with ⟨h1,h2⟩ | ⟨g,cap,cur,h1,_,_,h4,_⟩
 ·omega
 ·cases h1;exact h4
theorem put1_ok (m:Nat) (G:Nat->Prop) (l:List (ByteArray×LB)) (n cn cb:Nat) (name:ByteArray) (x:LB) (w:World) (hF:FilesAt w m G l) [kn:Blk w cn (.cells #[.string name] 9 (0,0))] [kb:Blk w cb (.cells #[.slice x.A x.bytes.length x.c] 60 (0,0))] (hx:RowP w x.A (bytesC x.bytes)) (hxc:x.bytes.length<=x.c) (hn:n<=x.bytes.length) (hxl:x.bytes.length<=16777216) (hu:usedB (fsP l)<=16777216):Ret Tryz.prog 71 #[.agg #[.map (some m)],.int .i64 n,.pointer (some ⟨cn,0,none⟩),.pointer (some ⟨cb,0,none⟩)] w (fun v w'=>v=.tuple #[]/\(∃ (G':Nat->Prop) (l':List (ByteArray×LB)),FilesAt w' m G' l'/\fsP l'=aput (fsP l) name (((akey (fsP l) name).getD [])++x.bytes.take n)/\(∀ k,G' k->G k\/w.heap.size<=k))/\Lk w' w (OneB m)):=by
 haveI hmi:MapI w m _ _ _:=⟨hF.map⟩
 have hmlt:=hF.map.lt
 haveI:NeB cn m:=⟨row_mapcell hF.map kn.eq⟩
 haveI:NeB cb m:=⟨row_mapcell hF.map kb.eq⟩
 have hat:=atB_row hF name
 have hus:=used_at hF.nodup name
 refine ret_of_x (N:=18) (l:=[.agg #[.map (some m)],.int .i64 n,.pointer (some ⟨cn,0,none⟩),.pointer (some ⟨cb,0,none⟩)]) Tryz.func71 rfl rfl (Nat.le_of_ble_eq_true rfl) ?_
 refine xq ?_
 refine xl_e (e_box fun b1 w1 n1 l1 k1=>?_)
 refine xl_nil ?_
 refine x_drawL (OneB m) (allS) (.take 0 (.take 1 (.take 2 (.take 3 (.take 4 (.take 5 (.take 7 (.take 8 (.take 9 (.eff 6 (.eff 10 (.eff 11 (.last 12))))))))))))) mixed (by kernel_rfl) (fun _ _ _ _ _ h=>h) (fun w2 l2=>?_)
 refine xt_Fb rfl ?_
 refine xt_Lc rfl ?_
 refine xt_Lc rfl ?_
 refine xt_Fb rfl ?_
 refine xt_Lc rfl ?_
 refine xt_Lc rfl ?_
 refine xt_Lc rfl ?_
 refine xt_v rfl v_move ?_
 refine xt_v rfl (v_sliceH n rfl (by omega)) ?_
 refine xt_e rfl (e_v (v_lookup1v (r:=none) name (lbV (atB l name)) rfl (fsV_at l name)) ?_)
 refine xt_e rfl (e_buildSliceN rfl fun bs w3 ns ls ks=>?_)
 haveI:Row w3 (some ⟨bs,0,none⟩) ([atB l name,⟨x.bytes.take n,x.A,x.c⟩].flatMap lbC):=⟨by
  have h1:=row_blk ks.eq
  have h2:(x.bytes.take n).length=n:=by simp;omega
  have h3:lbV ⟨x.bytes.take n,x.A,x.c⟩=.slice x.A n x.c:=by
   show Value.slice x.A (x.bytes.take n).length x.c=_
   rw [h2]
  have e:[atB l name,⟨x.bytes.take n,x.A,x.c⟩].flatMap lbC=[lbV (atB l name),.slice x.A n x.c]:=by rw [<- h3];rfl
  rw [e]
  exact h1⟩
 have hrow1:RowP w3 (atB l name).A (bytesC (atB l name).bytes):=(hat.1.keep (kpc:Keep NoB w w3) (fun _ _ h=>h)).row
 have hrow2:RowP w3 x.A (bytesC (x.bytes.take n)):=rowP_bytes n (hx.keep (kpc:Keep NoB w w3) (fun _ _ h=>h))
 have hgw:=(Ge.le:w.heap.size<=(w3).heap.size)
 refine xt_call rfl (concat_ok (some ⟨bs,0,none⟩) 2 2 [atB l name,⟨x.bytes.take n,x.A,x.c⟩] w3 (hra:=rowB_of Row.row) (fun j h=>by
     match j,h with
     | 0,_=>exact rowB_of hrow1
     | 1,_=>exact rowB_of hrow2) rfl (by omega) (by simp [lensB];omega)) ?_
 rintro _ w4 ⟨⟨A2,c2,rfl,ho2⟩,lk2⟩
 refine ⟨kpc,?_⟩
 have hFm:=hF.ext (kpc:Keep NoB w w4)
 have hfl:([atB l name,⟨x.bytes.take n,x.A,x.c⟩]:List LB).flatMap (·.bytes)=(atB l name).bytes++x.bytes.take n:=by simp
 have hl2:lensB [atB l name,⟨x.bytes.take n,x.A,x.c⟩]=((atB l name).bytes++x.bytes.take n).length:=by simp [lensB]
 refine xt_lastS rfl (e_mapUpdate name rfl fun w5 l12 m12=>?_)
 refine fin0 rfl ?_
 have hcap:=own_cap ho2
 rw [hl2] at ho2 hcap m12
 rw [hfl] at ho2
 refine ⟨rfl,⟨fun k=>G k\/(∃ a,A2=some a/\a.block=k),aput l name ⟨(atB l name).bytes++x.bytes.take n,A2,c2⟩,⟨?_,?_,?_,?_,?_⟩,?_,?_⟩,lkc⟩
 ·have e:fsV (aput l name ⟨(atB l name).bytes++x.bytes.take n,A2,c2⟩)=aput (fsV l) name (.slice A2 ((atB l name).bytes++x.bytes.take n).length c2):=map_aput lbV l name _
  rw [e]
  exact m12.m
 ·intro p hp
  rcases mem_aput hp with rfl | hp
  ·refine ⟨(FRow.of_own ho2).row.keep (kpc:Keep (OneB m) _ w5) ?_,fun a ha=>.inr ⟨a,ha,rfl⟩⟩
   intro a ha e
   have h1:=(own_blk ho2 a ha).1
   have e':a.block=m:=e
   omega
  ·exact ((hF.rows p hp).keep (kpc:Keep (OneB m) w w5) (fun k e e2=>hF.out (by have e':k=m:=e2;exact e' ▸ e))).mono (fun k e=>.inl e)
 ·intro p hp
  rcases mem_aput hp with rfl | hp
  ·exact hcap
  ·exact hF.caps p hp
 ·rintro k (e | ⟨a,ha,rfl⟩)
  ·exact Nat.lt_of_lt_of_le (hF.lt k e) Ge.le
  ·exact Nat.lt_of_lt_of_le (own_blk ho2 a ha).2 Ge.le
 ·rintro (e | ⟨a,ha,e⟩)
  ·exact hF.out e
  ·have h1:=(own_blk ho2 a ha).1
   omega
 ·have e:fsP (aput l name ⟨(atB l name).bytes++x.bytes.take n,A2,c2⟩)=aput (fsP l) name ((atB l name).bytes++x.bytes.take n):=map_aput (fun y:LB=>y.bytes) l name _
  rw [e,fsP_at]
 ·rintro k (e | ⟨a,ha,rfl⟩)
  ·exact .inl e
  ·exact .inr (Nat.le_trans hgw (own_blk ho2 a ha).1)
theorem cut1_ok (m:Nat) (G:Nat->Prop) (l:List (ByteArray×LB)) (n k cn cb:Nat) (name:ByteArray) (w:World) (hF:FilesAt w m G l) [kn:Blk w cn (.cells #[.string name] 9 (0,0))] [kb:Blk w cb (.cells #[.int .i64 (k:Int)] 3 (0,0))] (hk:∃ b,akey (fsP l) name=some b/\k<=b.length):Ret Tryz.prog 75 #[.agg #[.map (some m)],.int .i64 n,.pointer (some ⟨cn,0,none⟩),.pointer (some ⟨cb,0,none⟩)] w (fun v w'=>v=.tuple #[]/\(∃ (l':List (ByteArray×LB)),FilesAt w' m G l'/\fsP l'=aput (fsP l) name (((akey (fsP l) name).getD []).take k))/\Lk w' w (OneB m)):=by
 haveI hmi:MapI w m _ _ _:=⟨hF.map⟩
 have hmlt:=hF.map.lt
 haveI:NeB cn m:=⟨row_mapcell hF.map kn.eq⟩
 haveI:NeB cb m:=⟨row_mapcell hF.map kb.eq⟩
 have hat:=atB_row hF name
 have hkl:k<=(atB l name).bytes.length:=by
  obtain ⟨b,h1,h2⟩:=hk
  have:=fsP_at l name
  rw [h1] at this
  rw [<- this]
  exact h2
 refine ret_of_x (N:=16) (l:=[.agg #[.map (some m)],.int .i64 n,.pointer (some ⟨cn,0,none⟩),.pointer (some ⟨cb,0,none⟩)]) Tryz.func75 rfl rfl (Nat.le_of_ble_eq_true rfl) ?_
 refine xq ?_
 refine xl_e (e_box fun b1 w1 n1 l1 k1=>?_)
 refine xl_nil ?_
 refine x_drawL (OneB m) (allS) (.take 0 (.take 1 (.take 2 (.take 3 (.take 4 (.take 5 (.take 7 (.take 8 (.eff 6 (.take 9 (.last 10))))))))))) mixed (by kernel_rfl) (fun _ _ _ _ _ h=>h) (fun w2 l2=>?_)
 refine xt_Fb rfl ?_
 refine xt_Lc rfl ?_
 refine xt_Lc rfl ?_
 refine xt_Fb rfl ?_
 refine xt_Lc rfl ?_
 refine xt_Lc rfl ?_
 refine xt_Lc rfl ?_
 refine xt_Lc rfl ?_
 refine xt_e rfl (e_v (v_lookup1v (r:=none) name (lbV (atB l name)) rfl (fsV_at l name)) ?_)
 refine xt_v rfl (v_slice3 k k rfl rfl (Nat.le_refl _) (by omega)) ?_
 refine xt_lastS rfl (e_mapUpdate name rfl fun w3 l12 m12=>?_)
 refine fin0 rfl ?_
 have htl:((atB l name).bytes.take k).length=k:=by simp;omega
 have hFm:=hF.ext (kpc:Keep NoB w w)
 refine ⟨rfl,⟨aput l name ⟨(atB l name).bytes.take k,(atB l name).A,k⟩,⟨?_,?_,?_,?_,hF.out⟩,?_⟩,lkc⟩
 ·have e:fsV (aput l name ⟨(atB l name).bytes.take k,(atB l name).A,k⟩)=aput (fsV l) name (.slice (atB l name).A k k):=by
   have:=map_aput lbV l name ⟨(atB l name).bytes.take k,(atB l name).A,k⟩
   rw [show lbV ⟨(atB l name).bytes.take k,(atB l name).A,k⟩=.slice (atB l name).A k k by show Value.slice _ ((atB l name).bytes.take k).length _=_;rw [htl]] at this
   exact this
  rw [e]
  exact m12.m
 ·intro p hp
  have hkeep:∀ (A:Option Addr) (cs:List Value),FRow w G A cs->FRow w3 G A cs:=fun A cs h=>h.keep (kpc:Keep (OneB m) w w3) (fun j e e2=>hF.out (by have e':j=m:=e2;exact e' ▸ e))
  rcases mem_aput hp with rfl | hp
  ·exact hkeep _ _ ⟨rowP_bytes k hat.1.row,hat.1.blk⟩
  ·exact hkeep _ _ (hF.rows p hp)
 ·intro p hp
  rcases mem_aput hp with rfl | hp
  ·show ((atB l name).bytes.take k).length<=k
   omega
  ·exact hF.caps p hp
 ·exact fun j e=>Nat.lt_of_lt_of_le (hF.lt j e) Ge.le
 ·have e:fsP (aput l name ⟨(atB l name).bytes.take k,(atB l name).A,k⟩)=aput (fsP l) name ((atB l name).bytes.take k):=map_aput (fun y:LB=>y.bytes) l name _
  rw [e,fsP_at]
theorem remove1_ok (m:Nat) (G:Nat->Prop) (l:List (ByteArray×LB)) (n cn:Nat) (name:ByteArray) (w:World) (hF:FilesAt w m G l) [kn:Blk w cn (.cells #[.string name] 9 (0,0))]:Ret Tryz.prog 76 #[.agg #[.map (some m)],.int .i64 n,.pointer (some ⟨cn,0,none⟩)] w (fun v w'=>v=.tuple #[]/\(∃ (l':List (ByteArray×LB)),FilesAt w' m G l'/\fsP l'=adel (fsP l) name)/\Lk w' w (OneB m)):=by
 haveI hmi:MapI w m _ _ _:=⟨hF.map⟩
 have hmlt:=hF.map.lt
 refine ret_of_x (N:=8) (l:=[.agg #[.map (some m)],.int .i64 n,.pointer (some ⟨cn,0,none⟩)]) Tryz.func76 rfl rfl (Nat.le_of_ble_eq_true rfl) ?_
 refine xq ?_
 refine xl_e (e_box fun b1 w1 n1 l1 k1=>?_)
 refine xl_nil ?_
 refine x_regionL (xl_Fb ?_)
 refine xl_Lc ?_
 refine xl_Lc ?_
 refine xl_e0 (e_delete name rfl fun w2 l12 m12=>?_)
 refine xl_nil ?_
 refine fin0 rfl ?_
 refine ⟨rfl,⟨adel l name,⟨?_,?_,?_,?_,hF.out⟩,?_⟩,lkc⟩
 ·have e:fsV (adel l name)=adel (fsV l) name:=map_adel lbV l name
  rw [e]
  exact m12.m
 ·exact fun p hp=>(hF.rows p (mem_adel hp)).keep (kpc:Keep (OneB m) w w2) (fun j e e2=>hF.out (by have e':j=m:=e2;exact e' ▸ e))
 ·exact fun p hp=>hF.caps p (mem_adel hp)
 ·exact fun j e=>Nat.lt_of_lt_of_le (hF.lt j e) Ge.le
 ·exact map_adel (fun y:LB=>y.bytes) l name
theorem acts_put (cn cb:Nat) (name:ByteArray) (x:LB) (k:Int) (W:World) (kn:W.heap[cn]?=some (.cells #[.string name] 9 (0,0))) (kb:W.heap[cb]?=some (.cells #[.slice x.A x.bytes.length x.c] 60 (0,0))) (hx:RowP W x.A (bytesC x.bytes)) (hxc:x.bytes.length<=x.c) (hA:∀ a,x.A=some a->a.block<W.heap.size) :
    Acts (.func (.func 71) ([]:List Value).toArray [Value.pointer (some ⟨cn,0,none⟩),Value.pointer (some ⟨cb,0,none⟩)].toArray) (fun j=>j=cn\/j=cb\/∃ a,x.A=some a/\a.block=j) ⟨0,name,x.bytes,k⟩ W:=by
 have hcn:=(Array.getElem?_eq_some_iff.1 kn).1
 have hcb:=(Array.getElem?_eq_some_iff.1 kb).1
 refine ⟨?_,?_⟩
 ·rintro j (rfl | rfl | ⟨a,ha,rfl⟩)
  ·exact hcn
  ·exact hcb
  ·exact hA a ha
 ·intro W' S hk hs m G l n hF hm _ hn hl hu
  haveI:Blk W' cn (.cells #[.string name] 9 (0,0)):=⟨(hk.block cn hcn (hs cn (.inl rfl))).trans kn⟩
  haveI:Blk W' cb (.cells #[.slice x.A x.bytes.length x.c] 60 (0,0)):=⟨(hk.block cb hcb (hs cb (.inr (.inl rfl)))).trans kb⟩
  refine CallV.of_ret ((put1_ok m G l n cn cb name x W' hF (hx.keep hk (fun a ha=>hs _ (.inr (.inr ⟨a,ha,rfl⟩)))) hxc hn hl hu).mono ?_)
  rintro v w' ⟨rfl,⟨G',l',h1,h2,h3⟩,lk⟩
  exact ⟨rfl,G',l',h1,h2,h3,lk⟩
theorem acts_cut (cn cb:Nat) (name:ByteArray) (bytes:List UInt8) (z:Int) (hz:0<=z) (W:World) (kn:W.heap[cn]?=some (.cells #[.string name] 9 (0,0))) (kb:W.heap[cb]?=some (.cells #[.int .i64 z] 3 (0,0))) :
    Acts (.func (.func 75) ([]:List Value).toArray [Value.pointer (some ⟨cn,0,none⟩),Value.pointer (some ⟨cb,0,none⟩)].toArray) (fun j=>j=cn\/j=cb) ⟨1,name,bytes,z⟩ W:=by
 obtain ⟨k,rfl⟩:=Int.eq_ofNat_of_zero_le hz
 have hcn:=(Array.getElem?_eq_some_iff.1 kn).1
 have hcb:=(Array.getElem?_eq_some_iff.1 kb).1
 refine ⟨?_,?_⟩
 ·rintro j (rfl | rfl)
  ·exact hcn
  ·exact hcb
 ·intro W' S hk hs m G l n hF hm h1 hn hl hu
  haveI:Blk W' cn (.cells #[.string name] 9 (0,0)):=⟨(hk.block cn hcn (hs cn (.inl rfl))).trans kn⟩
  haveI:Blk W' cb (.cells #[.int .i64 (k:Int)] 3 (0,0)):=⟨(hk.block cb hcb (hs cb (.inr rfl))).trans kb⟩
  refine CallV.of_ret ((cut1_ok m G l n k cn cb name W' hF (by simpa using h1 rfl)).mono ?_)
  rintro v w' ⟨rfl,⟨l',h1,h2⟩,lk⟩
  exact ⟨rfl,G,l',h1,h2,fun _ e=>.inl e,lk⟩
theorem acts_remove (cn:Nat) (name:ByteArray) (bytes:List UInt8) (k:Int) (W:World) (kn:W.heap[cn]?=some (.cells #[.string name] 9 (0,0))) :
    Acts (.func (.func 76) ([]:List Value).toArray [Value.pointer (some ⟨cn,0,none⟩)].toArray) (fun j=>j=cn) ⟨2,name,bytes,k⟩ W:=by
 have hcn:=(Array.getElem?_eq_some_iff.1 kn).1
 refine ⟨?_,?_⟩
 ·rintro j rfl
  exact hcn
 ·intro W' S hk hs m G l n hF hm _ hn hl hu
  haveI:Blk W' cn (.cells #[.string name] 9 (0,0)):=⟨(hk.block cn hcn (hs cn rfl)).trans kn⟩
  refine CallV.of_ret ((remove1_ok m G l n cn name W' hF).mono ?_)
  rintro v w' ⟨rfl,⟨l',h1,h2⟩,lk⟩
  exact ⟨rfl,G,l',h1,h2,fun _ e=>.inl e,lk⟩
end Go.Proofs.YtigmfcgeljjgnaaGreatDoor
