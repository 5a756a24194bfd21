/- A part of the walks through the log and its document, and of the law in plain Lean: B C Xo Sb. -/
import Derived.Test.YtigmfcgeljjgnaaGreatJ06
import Derived.Laws.Externs
import Derived.RecoverIn
import Derived.WalkSmall
set_option linter.all false
set_option maxRecDepth 100000
set_option synthInstance.maxSize 100000
set_option synthInstance.maxHeartbeats 400000
namespace Go.Proofs.YtigmfcgeljjgnaaGreat
open Go.Wst
open Go.Wst.Dm
section
variable {P:Program} {r:Option Nat} {N:Nat} {S:Nat->Prop} {τ:Tau} {w:World} {ty:TypeId}
theorem v_makeInterfaceM {x:Operand} {t k e:TypeId} {v:Value} [hx:EvO N τ x v] [hu:Und P t (.map k e)]:Val P r N S (.makeInterface t x) ty τ w (.iface t v):=⟨fun _=>nofun,fun W _=>by
 simp [execOp,hx.eq,Instr.makeInterface,run_underlying hu.eq,Sem.run,Result.andThen]⟩
theorem v_typeAssertM {x:Operand} {t xT k e:TypeId} {v:Value} [hx:EvO N τ x (.iface t v)] [hu:Und P t (.map k e)]:Val P r N S (.typeAssert x xT t false) ty τ w v:=⟨fun _=>nofun,fun W _=>by
 simp [execOp,hx.eq,Instr.typeAssert,run_underlying hu.eq,Sem.run,Result.andThen]⟩
end
section
variable {N:Nat} {τ:Tau} {w:World} {ty:TypeId}
theorem run_mapsClone {m:Nat} {es:Array MapEntry} {clock:Nat} (t:TypeId) (hb:w.heap[m]?=some (.map es clock)) :
    (Extern.MapsClone.clone #[.iface t (.map (some m))]).run Tryz.prog w=.ok (.iface t (.map (some w.heap.size))) (w.alloc (.map es clock)):=by
 have e:Extern.MapsClone.clone #[.iface t (.map (some m))]=(getObj m >>= fun o=>match o with
     | .map entries clock=>(newObj (.map entries clock) >>= fun n=>pure (.iface t (.map (some n))))
     | _=>stuck "maps.clone: a map expected"):=rfl
 rw [e]
 simp [MapKept.run_getObj_map hb,Result.andThen,go_sem]
theorem e_mapsClone {g x:Operand} {at_:Array TypeId} {t:TypeId} {m:Nat} {κ:Type} [DecidableEq κ] {enc:κ->Value} {kvs:List (κ×Value)} {G:Value->World->Prop} [hx:EvO N τ x (.iface t (.map (some m)))] [hg:EvO N τ g (.func (.func 79) ([]:List Value).toArray ([]:List Value).toArray)] [hm:MapI w m κ enc kvs]
    (h:∀ b w',New b w->Lk w' w NoB->MapI w' b κ enc kvs->G (.iface t (.map (some b))) w'):EffV Tryz.prog N NoB (.call { callee:=.value g,args:=#[x],argTypes:=at_ }) ty τ w G:=by
 obtain ⟨es,clock,h1,h2⟩:=hm.m
 refine ⟨fun _=>nofun,_,w.alloc (.map es clock),?_,Keep.alloc _ _,h w.heap.size _ ⟨rfl⟩ ⟨Keep.alloc _ _⟩ ⟨⟨es,clock,heap_alloc_new w _,h2⟩⟩⟩
 have e0:(callFunc 79 #[.iface t (.map (some m))]).run Tryz.prog w=.ok (.value (.iface t (.map (some w.heap.size)))) (w.alloc (.map es clock)):=by
  rw [run_callFunc_extern Tryz.func79 (by kernel_rfl) (by kernel_rfl) (by kernel_rfl) (e:=Extern.MapsClone.clone) (by kernel_rfl),run_mapsClone t h1]
  rfl
 simp [execOp,resolve,invoke,hg.eq,hx.eq,Deferred.ofValue,e0]
end
def Acts (g:Value) (E:Nat->Prop) (t:Thing) (W:World):Prop:=
 (∀ k,E k->k<W.heap.size)/\∀ (W':World) (S:Nat->Prop),Keep S W W'->(∀ k,E k->¬ S k)->∀ (m:Nat) (G:Nat->Prop) (l:List (ByteArray×LB)) (n:Nat),FilesAt W' m G l->¬ E m->(t.what=1->∃ b,akey (fsP l) t.name=some b/\t.n.toNat<=b.length)->n<=t.bytes.length->t.bytes.length<=16777216->usedB (fsP l)<=16777216 ->
   CallV Tryz.prog g [.agg #[.map (some m)],.int .i64 (n:Int)] W' (fun v W''=>v=.tuple #[]/\∃ (G':Nat->Prop) (l':List (ByteArray×LB)),FilesAt W'' m G' l'/\fsP l'=doneM (fsP l) (tornT t n)/\(∀ k,G' k->G k\/W'.heap.size<=k)/\Lk W'' W' (OneB m))
theorem Acts.keep {g:Value} {E S:Nat->Prop} {t:Thing} {W W':World} (h:Acts g E t W) (hk:Keep S W W') (hs:∀ k,E k->¬ S k):Acts g E t W':=
 ⟨fun k e=>Nat.lt_of_lt_of_le (h.1 k e) hk.size,fun W'' T hT hE=>h.2 W'' (fun k=>S k\/T k) ((hk.mono (fun _ _ e=>.inl e)).then hT (fun _ _ e=>.inr e)) (fun k e e'=>e'.elim (hs k e) (hE k e))⟩
theorem Acts.mono {g:Value} {E E':Nat->Prop} {t:Thing} {W:World} (h:Acts g E t W) (hE:∀ k,E k->E' k) (hlt:∀ k,E' k->k<W.heap.size):Acts g E' t W:=
 ⟨hlt,fun W' S hk hs m G l n hF hm=>h.2 W' S hk (fun k e=>hs k (hE k e)) m G l n hF (fun e=>hm (hE m e))⟩
structure LThing where
 t:Thing
 g:Value
 one:g.oneCell'=true
def putsI (t:Thing):Int:=if t.what=0 then (t.bytes.length:Int) else 0
def numI (t:Thing):Int:=if t.what=1 then t.n else 0
def strB (t:Thing):ByteArray:=if t.what=0 then ⟨t.bytes.toArray⟩ else ⟨#[]⟩
abbrev thingC (x:LThing):List Value:=[x.g,.int .i64 (putsI x.t),.string x.t.name,.int .i64 x.t.what,.int .i64 (numI x.t),.int .i64 0,.string (strB x.t)]
instance encN_thing:EncN thingC 7:=⟨fun _=>rfl⟩
structure LDisk where
 room:Int
 cur:List (ByteArray×LB)
 lasts:List (ByteArray×LB)
 waits:List LThing
 A:Option Addr
 c:Nat
structure DiskAt (W:World) (d mb ml:Nat) (G:Nat->Prop) (D:LDisk):Prop where
 hb:W.heap[d]?=some (.cells [.map (some mb),.map (some ml),.slice D.A D.waits.length D.c,.int .i64 D.room].toArray 62 (0,0))
 cur:FilesAt W mb G D.cur
 las:FilesAt W ml G D.lasts
 row:W.ownsRow 0 93 7 (.slice D.A D.waits.length D.c) D.waits.length (D.waits.flatMap thingC)
 acts:∀ x∈D.waits,Acts x.g G x.t W
 d1:d≠mb
 d2:d≠ml
 d3:mb≠ml
 gd:¬ G d
 own:∀ a,D.A=some a->a.block≠d/\a.block≠mb/\a.block≠ml/\¬ G a.block
def DiskB (d mb ml:Nat) (A:Option Addr):Nat->Prop:=fun k=>k=d\/k=mb\/k=ml\/∃ a,A=some a/\a.block=k
def DiskF (d mb ml:Nat) (A:Option Addr) (G:Nat->Prop):Nat->Prop:=fun k=>DiskB d mb ml A k\/G k
theorem own_blk {w:World} {base:Nat} {e:TypeId} {sz n m c:Nat} {A:Option Addr} {xs:List Value} (h:w.ownsRow base e sz (.slice A m c) n xs):∀ a,A=some a->base<=a.block/\a.block<w.heap.size:=fun a ha=>by subst ha;exact h.lt _ rfl
theorem DiskAt.lt {W:World} {d mb ml:Nat} {G:Nat->Prop} {D:LDisk} (h:DiskAt W d mb ml G D):∀ k,DiskF d mb ml D.A G k->k<W.heap.size:=by
 rintro k ((rfl | rfl | rfl | ⟨a,ha,rfl⟩) | e)
 ·exact (Array.getElem?_eq_some_iff.1 h.hb).1
 ·exact h.cur.map.lt
 ·exact h.las.map.lt
 ·exact (own_blk h.row a ha).2
 ·exact h.cur.lt k e
theorem DiskAt.keep {W W':World} {d mb ml:Nat} {G S:Nat->Prop} {D:LDisk} (h:DiskAt W d mb ml G D) (hk:Keep S W W') (hs:∀ k,DiskF d mb ml D.A G k->¬ S k):DiskAt W' d mb ml G D:=by
 have hG:∀ k,G k->¬ S k:=fun k e=>hs k (.inr e)
 refine ⟨(hk.block d (h.lt d (.inl (.inl rfl))) (hs d (.inl (.inl rfl)))).trans h.hb,h.cur.keep hk (hs mb (.inl (.inr (.inl rfl)))) hG,h.las.keep hk (hs ml (.inl (.inr (.inr (.inl rfl))))) hG,own_keep h.row hk (fun k e=>?_),fun x hx=>(h.acts x hx).keep hk hG,h.d1,h.d2,h.d3,h.gd,h.own⟩
 have e':∃ a,D.A=some a/\a.block=k:=by
  revert e
  cases D.A with
  | none=>intro e;cases e
  | some a=>intro e;exact ⟨a,rfl,by injection e⟩
 exact hs k (.inl (.inr (.inr (.inr e'))))
theorem DiskAt.ext {W W':World} {d mb ml:Nat} {G:Nat->Prop} {D:LDisk} (h:DiskAt W d mb ml G D) (hk:Keep NoB W W'):DiskAt W' d mb ml G D:=h.keep hk (fun _ _ h=>h)
structure Stands (D:LDisk) (M:Disk):Prop where
 room:D.room=M.room
 waits:D.waits.map (·.t)=M.waits
 cur:Dm.Alike (fsP D.cur) M.files
 las:Dm.Alike (fsP D.lasts) M.lasts
 ok:M.ok
 few:M.lasts.length+M.waits.length<=1000000
 lens:∀ t∈M.waits,t.bytes.length<=16777216
theorem none_ok (d mb ml:Nat) (G:Nat->Prop) (D:LDisk) (M:Disk) (w:World) (h:DiskAt w d mb ml G D) (hs:Stands D M):Ret Tryz.prog 41 #[.pointer (some ⟨d,0,none⟩)] w (fun v w'=>v=.bool false/\w=w'):=by
 haveI hb:Blk w d _:=⟨h.hb⟩
 have h1:=hs.ok.one
 have h2:=hs.room
 refine ret_of_x (N:=12) (l:=[.pointer (some ⟨d,0,none⟩)]) Tryz.func41 rfl rfl (Nat.le_of_ble_eq_true rfl) ?_
 refine xq (xz ?_)
 refine xq (xm ?_)
 refine xl_v (by first | exact v_eql_pointerS | exact v_eql_pointerN) ?_
 refine xm (xl_gv rfl EvO.eq v_move ?_)
 refine xl_gNc rfl EvO.eq ?_
 refine xl_gFb rfl EvO.eq ?_
 refine xl_gLc rfl EvO.eq ?_
 refine xl_gv rfl EvO.eq (v_congr (u:=.bool false) v_eql (by simp;omega)) ?_
 refine xl_Pk ?_
 refine xz ?_
 refine x_ret ?_
 refine fin1 rfl ?_
 exact ⟨rfl,rfl⟩
def lenV:Value->Nat
 | .slice _ n _=>n
 | _=>0
theorem sum_lens (l:List (ByteArray×LB)):((fsV l).map (fun p=>lenV p.2)).sum=usedB (fsP l):=by
 rw [usedB]
 congr 1
 simp [fsV,fsP,lenV]
theorem used_ok (m:Nat) (G:Nat->Prop) (l:List (ByteArray×LB)) (w:World) (h:FilesAt w m G l) (hu:usedB (fsP l)<=1000000000):Ret Tryz.prog 61 #[.agg #[.map (some m)]] w (fun v w'=>v=.int .i64 (usedB (fsP l):Int)/\Lk w' w NoB):=by
 haveI hmi:MapI w m _ _ _:=⟨h.map⟩
 have hmlt:=h.map.lt
 refine ret_of_x (N:=18) (l:=[.agg #[.map (some m)]]) Tryz.func61 rfl rfl (Nat.le_of_ble_eq_true rfl) ?_
 refine xq ?_
 refine xl_e (e_box fun b1 w1 n1 l1 k1=>?_)
 refine xz ?_
 refine xq (xz ?_)
 refine x_seq (xq (xl_Fb ?_))
 refine xl_Lc ?_
 refine xl_e (e_range fun it w2 ni li hit hhas=>?_)
 refine xl_nil ?_
 refine x_block ?_
 refine x_loop (fun m' τ ds w'=>ds=[]/\∃ (ks rest:List (ByteArray×Value)) (s:Nat),m'=rest.length/\MapIt w' it m Value.string (fsV l) ks rest/\s=(ks.map (fun p=>lenV p.2)).sum/\Ev τ 3 (.int .i64 (s:Int))/\Ev τ 8 (.pointer (some ⟨it,0,none⟩))/\Lk w' w NoB) ((fsV l).length) ?start ?round
 case start=>
  exact ⟨rfl,[],fsV l,0,rfl,hit,rfl,evc,ii,lkc⟩
 case round=>
  intro m τ3 ds3 w3 hI
  obtain ⟨rfl,ks,rest,s,rfl,hmit,hsum,e3,e8,lk⟩:=hI
  have hitw:w.heap.size<=it:=by rw [ni.eq];exact Ge.le
  have hne:it≠m:=fun e=>by omega
  haveI sI:SubF (OneB it) NoB w:=⟨fun k hk e=>by have e':k=it:=e;omega⟩
  refine xq ?_
  refine xl_e (e_next hmit hne fun bb qs w4 l1 hb0 hb1=>?_)
  refine xl_v v_extract (xl_nil ?_)
  refine x_seq ?_
  refine x_condE (fun c1=>?_) (fun c1=>?_)
  ·obtain ⟨⟨k,u'⟩,rest',hperm,hmi2⟩:=hb1 c1
   obtain ⟨u,rfl⟩:∃ u:LB,u'=lbV u:=by
    have h1:(k,u')∈fsV l:=hmi2.perm.mem_iff.1 (by simp)
    obtain ⟨p,_,hp⟩:=List.mem_map.1 h1
    exact ⟨p.2,(congrArg Prod.snd hp).symm⟩
   have hle:s+u.bytes.length<=usedB (fsP l):=by
    have h1:((ks++[(k,lbV u)]++rest').map (fun p:ByteArray×Value=>lenV p.2)).sum=usedB (fsP l):=(hmi2.perm.map (fun p:ByteArray×Value=>lenV p.2)).sum_nat.trans (sum_lens l)
    simp only [List.map_append,List.sum_append,List.map_cons,List.map_nil,List.sum_cons,List.sum_nil,show lenV (lbV u)=u.bytes.length from rfl] at h1
    omega
   refine x_skip (x_block (xq ?_))
   refine xl_v (v_entry hmi2 (fun h=>h) (fun h=>h)) ?_
   refine xl_v v_extract (xz ?_)
   refine x_regionL (xm (xm (xl_v v_len ?_)))
   refine xl_v (v_add (by omega)) ?_
   refine xz ?_
   refine ⟨_,?_,rfl,ks++[(k,lbV u)],rest',s+u.bytes.length,rfl,hmi2,?_,evc,ii,lkc⟩
   ·rw [hperm.length_eq];simp
   ·simp [hsum,show lenV (lbV u)=u.bytes.length from rfl]
  refine x_exit (xq (xm (xz ?_)))
  refine x_ret ?_
  refine fin1 rfl ?_
  obtain ⟨hr,hmi3⟩:=hb0 (by simpa using c1)
  subst hr
  refine ⟨?_,lkc⟩
  have h1:((ks++[]).map (fun p:ByteArray×Value=>lenV p.2)).sum=usedB (fsP l):=(hmi3.perm.map (fun p:ByteArray×Value=>lenV p.2)).sum_nat.trans (sum_lens l)
  rw [hsum,<- h1,List.append_nil]
theorem cloneb_ok (A:Option Addr) (n c:Nat) (cs:List Value) (w:World) [Row w A cs] (hl:cs.length=n*1) (hn:n<=100000000) (h1:∀ u∈cs,u.oneCell'=true) (hA:A.isSome=true\/n=0):Ret Tryz.prog 62 #[.slice A n c] w (fun v w'=>(∃ A' c',v=.slice A' n c'/\w'.ownsRow w.heap.size 5 1 v n cs)/\Lk w' w NoB):=by
 refine ret_of_x (N:=8) (l:=[.slice A n c]) Tryz.func62 rfl rfl (Nat.le_of_ble_eq_true rfl) ?_
 refine xq (xz ?_)
 refine x_seq (xq (xm ?_))
 refine xl_v v_eql_slice ?_
 refine xl_nil ?_
 refine x_condE (fun c1=>?_) (fun c1=>?_)
 ·have hn0:n=0:=hA.resolve_left (by cases A<;>simp_all)
  refine xq (xz ?_)
  refine x_ret ?_
  refine fin1 rfl ?_
  subst hn0
  obtain rfl:cs=[]:=List.eq_nil_of_length_eq_zero (by simpa using hl)
  exact ⟨⟨none,0,rfl,World.ownsRow_nil _ _ _ _⟩,lkc⟩
 refine x_skip (xq ?_)
 refine xl_e (e_buildSlice0 fun b0 w1 n0 l0 k0=>?_)
 refine xm ?_
 have ho0:World.ownsRow w1 w.heap.size 5 1 (.slice (some ⟨b0,0,none⟩) 0 0) 0 []:=ownsRow_blk (by rw [n0.eq];exact Nat.le_refl _) k0.eq (by simp) (by omega)
 haveI:=ownN_of ho0 (Nat.le_refl _)
 refine xl_e (e_append' ho0 Ge.le hl h1 (by decide) hA (by omega) (by omega) fun A2 c2 w2 ho2 l2 _=>?_)
 refine xz ?_
 refine x_ret ?_
 refine fin1 rfl ?_
 exact ⟨⟨A2,c2,by rw [Nat.zero_add],by simpa using ho2⟩,lkc⟩
set_option maxHeartbeats 2000000 in
theorem mclone_ok (m:Nat) (kvs:List (ByteArray×Value)) (w:World) [hm:MapI w m ByteArray Value.string kvs]:Ret Tryz.prog 65 #[.map (some m)] w (fun v w'=>∃ b,v=.map (some b)/\MapB w' b Value.string kvs/\w.heap.size<=b/\Lk w' w NoB):=by
 refine ret_of_x (N:=9) (l:=[.map (some m)]) Tryz.func65 rfl rfl (Nat.le_of_ble_eq_true rfl) ?_
 refine xq (xz ?_)
 refine x_seq (xq (xm ?_))
 refine xl_v (v_eql_mapS) ?_
 refine xl_nil ?_
 refine x_condF ?_
 refine x_skip (xq (xm ?_))
 refine xl_v (v_makeInterfaceM) ?_
 refine xl_e (e_mapsClone fun b w1 n1 l1 m1=>?_)
 refine xl_v (v_typeAssertM) ?_
 refine xz ?_
 refine x_ret ?_
 refine fin1 rfl ?_
 exact ⟨b,rfl,m1.m,Nat.le_of_eq n1.eq.symm,lkc⟩
theorem copied_ok (m:Nat) (G:Nat->Prop) (l:List (ByteArray×LB)) (w:World) (h:FilesAt w m G l):Ret Tryz.prog 42 #[.agg #[.map (some m)]] w (fun v w'=>(∃ b,v=.agg #[.map (some b)]/\FilesAt w' b G l/\w.heap.size<=b)/\Lk w' w NoB):=by
 haveI hmi:MapI w m _ _ _:=⟨h.map⟩
 refine ret_of_x (N:=7) (l:=[.agg #[.map (some m)]]) Tryz.func42 rfl rfl (Nat.le_of_ble_eq_true rfl) ?_
 refine xq ?_
 refine xl_e (e_box fun b1 w1 n1 l1 k1=>?_)
 refine xl_e (e_alloc fun b2 w2 n2 l2 k2=>?_)
 refine xl_nil ?_
 refine xq (xl_Fb ?_)
 refine xl_Lc ?_
 refine xl_call (mclone_ok m (fsV l) w2) ?_
 rintro _ w3 ⟨b,rfl,hb,hgb,lk1⟩
 have hF:=h.ext (kpc:Keep NoB w w3)
 have hgw:=(Ge.le:w.heap.size<=(w2).heap.size)
 have hblt:=hb.lt
 have hb2l:b2<(w2).heap.size:=Has.lt
 have hb2g:w.heap.size<=b2:=by rw [n2.eq];exact Ge.le
 refine xl_v v_build ?_
 refine xl_s (e_storeA fun w4 l4 k4=>?_)
 refine xl_nil ?_
 refine x_ret ?_
 refine finR (rs:=[.cell 2 59]) rfl ?_
 exact ⟨⟨b,by simp [outV],⟨hb.keep (kpc:Keep (OneB b2) _ w4) (fun e=>by have e':b=b2:=e;omega),fun p hp=>(hF.rows p hp).keep (kpc:Keep (OneB b2) _ w4) (fun k e e2=>by have:=h.lt k e;have e':k=b2:=e2;omega),h.caps,fun k e=>Nat.lt_of_lt_of_le (h.lt k e) Ge.le,fun e=>by have:=h.lt b e;omega⟩,by omega⟩,lkc⟩
theorem pick_ok (k:Int) (n:Nat) (w:World) (hk:In64 k) (hn:n<=100000000):Ret Tryz.prog 67 #[.int .i64 k,.int .i64 n] w (fun v w'=>v=.int .i64 (pickN k n:Int)/\w=w'):=by
 have h1:-((n:Int)+1)<k.tmod (n+1):=Int.lt_tmod_of_pos k (by omega)
 have h2:k.tmod (n+1)<(n:Int)+1:=Int.tmod_lt_of_pos k (by omega)
 refine ret_of_x (N:=16) (l:=[.int .i64 k,.int .i64 n]) Tryz.func67 rfl rfl (Nat.le_of_ble_eq_true rfl) ?_
 refine xq (xz ?_)
 refine xq (xm (xm ?_))
 refine xl_v (v_add (by omega)) ?_
 refine xl_v (v_rem (by omega)) ?_
 refine xz ?_
 refine x_seq (xq (xm (xl_v v_lss (xl_nil ?_))))
 refine x_if (fun c1=>?_) (fun c1=>?_)
 ·refine x_regionL (xm (xm ?_))
  refine xl_v (v_add (by omega)) ?_
  refine xl_v (v_add (by omega)) ?_
  refine xz ?_
  refine xq (xm (xz ?_))
  refine x_ret ?_
  refine fin1 rfl ?_
  refine ⟨congrArg (Value.int .i64) ?_,rfl⟩
  unfold pickN
  first
   | (rw [if_pos c1];omega)
   | (rw [if_neg c1];omega)
 refine x_skip (xq (xm (xz ?_)))
 refine x_ret ?_
 refine fin1 rfl ?_
 refine ⟨congrArg (Value.int .i64) ?_,rfl⟩
 unfold pickN
 first
  | (rw [if_pos c1];omega)
  | (rw [if_neg c1];omega)
theorem stands_ok (d mb ml:Nat) (G:Nat->Prop) (D:LDisk) (w:World) (h:DiskAt w d mb ml G D):Ret Tryz.prog 51 #[.pointer (some ⟨d,0,none⟩)] w (fun v w'=>v=.agg #[.map (some mb)]/\Lk w' w NoB):=by
 haveI hb:Blk w d _:=⟨h.hb⟩
 refine ret_of_x (N:=7) (l:=[.pointer (some ⟨d,0,none⟩)]) Tryz.func51 rfl rfl (Nat.le_of_ble_eq_true rfl) ?_
 refine xq ?_
 refine xl_e (e_alloc fun b1 w1 n1 l1 k1=>?_)
 refine xl_nil ?_
 refine xq (xm (xl_Nc ?_))
 refine xl_Fb ?_
 refine xl_Lb ?_
 refine xl_s (e_storeA fun w2 l2 k2=>?_)
 refine xl_nil ?_
 refine x_ret ?_
 refine finR (rs:=[.cell 2 59]) rfl ?_
 exact ⟨by simp [outV],lkc⟩
theorem new_ok (room:Int) (w:World):Ret Tryz.prog 8 #[.int .i64 room] w (fun v w'=>(if 1<=room/\room<=16777216 then ∃ d mb ml,v=.tuple #[.pointer (some ⟨d,0,none⟩),.int .i64 0]/\DiskAt w' d mb ml NoB ⟨room,[],[],[],none,0⟩/\w.heap.size<=d/\w.heap.size<=mb/\w.heap.size<=ml else v=.tuple #[.pointer none,.int .i64 2])/\Lk w' w NoB):=by
 refine ret_of_x (N:=17) (l:=[.int .i64 room]) Tryz.func8 rfl rfl (Nat.le_of_ble_eq_true rfl) ?_
 refine xq (xa (xz ?_))
 refine x_seq (xq (xm (xl_v v_lss (xm ?_))))
 refine xl_split 6 (fun g6=>?_) (fun g6=>?_)
 ·refine xl_gs rfl EvO.eq (xl_gs rfl EvO.eq (xl_Pk ?_))
  refine xl_nil ?_
  refine x_condT ?_
  refine xq (xa (xz ?_))
  refine x_ret ?_
  refine fin2 rfl ?_
  rw [if_neg (by first | (simp at c1 g6;omega) | (simp at g6;omega))]
  exact ⟨rfl,lkc⟩
 refine xl_gv rfl EvO.eq v_move (xl_gv rfl EvO.eq v_gtr (xl_Pk ?_))
 refine xl_nil ?_
 refine x_if (fun c1=>?_) (fun c1=>?_)
 ·refine xq (xa (xz ?_))
  refine x_ret ?_
  refine fin2 rfl ?_
  rw [if_neg (by first | (simp at c1 g6;omega) | (simp at g6;omega))]
  exact ⟨rfl,lkc⟩
 refine x_skip (xq ?_)
 refine xl_e (e_makeMap fun mb w1 n1 l1 k1=>?_)
 refine xl_v v_build ?_
 refine xl_e (e_makeMap fun ml w2 n2 l2 k2=>?_)
 refine xl_v v_build (xm (xl_v v_build ?_))
 refine xl_e (e_box fun d w3 n3 l3 k3=>?_)
 refine xa (xz ?_)
 refine x_ret ?_
 refine fin2 rfl ?_
 rw [if_pos (by first | (simp at c1 g6;omega) | (simp at g6;omega))]
 have h1:=n1.eq
 have h2:=n2.eq
 have h3:=n3.eq
 have h4:mb<ml:=by rw [h2];exact Has.lt
 have h5:ml<d:=by rw [h3];exact Has.lt
 refine ⟨⟨d,mb,ml,rfl,⟨Blk.eq,⟨mapB_made Value.string ii,nofun,nofun,fun _ h=>h.elim,fun h=>h⟩,⟨mapB_made Value.string ii,nofun,nofun,fun _ h=>h.elim,fun h=>h⟩,World.ownsRow_nil _ _ _ _,nofun,by omega,by omega,by omega,fun h=>h,nofun⟩,?_,?_,?_⟩,lkc⟩
 ·rw [h3];exact Ge.le
 ·rw [h1];exact Nat.le_refl _
 ·rw [h2];exact Ge.le
theorem toList_len (s:ByteArray):s.toList.length=s.size:=by rw [ByteArray.toList_eq];rfl
theorem nameOk_iff (s:ByteArray):nameOk s=true↔1<=s.size/\s.size<=24/\s.toList.all byteOk=true:=by
 simp [nameOk,toList_len,and_assoc]
theorem nameOk_f (s:ByteArray):nameOk s=false↔(1<=s.size/\s.size<=24->s.toList.all byteOk=false):=by
 rw [<- Bool.not_eq_true,nameOk_iff]
 cases h:s.toList.all byteOk<;>simp
theorem empty_size {s:ByteArray}:s=⟨#[]⟩↔s.size=0:=by
 constructor
 ·rintro rfl;rfl
 ·intro h
  apply ByteArray.ext
  exact Array.eq_empty_of_size_eq_zero h
theorem named_ok (d mb ml:Nat) (G:Nat->Prop) (D:LDisk) (M:Disk) (name:ByteArray) (w:World) (h:DiskAt w d mb ml G D) (hs:Stands D M):Ret Tryz.prog 60 #[.pointer (some ⟨d,0,none⟩),.string name] w (fun v w'=>v=.int .i64 (if nameOk name then 0 else 130)/\Lk w' w NoB):=by
 refine ret_of_x (N:=23) (l:=[.pointer (some ⟨d,0,none⟩),.string name]) Tryz.func60 rfl rfl (Nat.le_of_ble_eq_true rfl) ?_
 refine xq (xz ?_)
 refine xq (xz ?_)
 refine x_seq (x_block (xq (xm ?_)))
 refine xl_call (none_ok d mb ml G D M w (h.ext (kpc:Keep NoB w w)) hs) ?_
 rintro _ _ ⟨rfl,rfl⟩
 refine xz ?_
 refine x_condF ?_
 refine xq (xm (xl_v v_seql (xm ?_)))
 refine xl_split 12 (fun g12=>?_) (fun g12=>?_)
 ·refine xl_gs rfl EvO.eq (xl_gs rfl EvO.eq (xl_gs rfl EvO.eq (xl_Pk ?_)))
  refine xm (xl_gs rfl EvO.eq (xl_gs rfl EvO.eq (xl_gs rfl EvO.eq (xl_gs rfl EvO.eq (xl_Pk ?_)))))
  refine xz ?_
  refine x_condT ?_
  refine xq (xz ?_)
  refine x_ret ?_
  refine fin1 rfl ?_
  refine ⟨?_,lkc⟩
  rw [if_neg]
  rw [Bool.not_eq_true,nameOk_f]
  rintro ⟨h1,h2⟩
  first
   | exact hi.1 (by simpa using c2)
   | (have g0:=empty_size.1 (of_decide_eq_true g12);omega)
   | (have g0:=of_decide_eq_true g17;omega)
 refine xl_gv rfl EvO.eq v_move (xl_gv rfl EvO.eq v_lens (xl_gv rfl EvO.eq v_gtr (xl_Pk ?_)))
 refine xm ?_
 refine xl_split 17 (fun g17=>?_) (fun g17=>?_)
 ·refine xl_gs rfl EvO.eq (xl_gs rfl EvO.eq (xl_gs rfl EvO.eq (xl_gs rfl EvO.eq (xl_Pk ?_))))
  refine xz ?_
  refine x_condT ?_
  refine xq (xz ?_)
  refine x_ret ?_
  refine fin1 rfl ?_
  refine ⟨?_,lkc⟩
  rw [if_neg]
  rw [Bool.not_eq_true,nameOk_f]
  rintro ⟨h1,h2⟩
  first
   | exact hi.1 (by simpa using c2)
   | (have g0:=empty_size.1 (of_decide_eq_true g12);omega)
   | (have g0:=of_decide_eq_true g17;omega)
 refine xl_gv rfl EvO.eq v_move (xl_gv rfl EvO.eq v_move ?_)
 refine xl_gcall rfl EvO.eq (IdxF_ok name w (by simp at g17;omega)) ?_
 rintro _ w2 ⟨⟨i,rfl,hi⟩,lk1⟩
 refine xl_gv rfl EvO.eq v_geq (xl_Pk ?_)
 refine xz ?_
 refine x_if (fun c2=>?_) (fun c2=>?_)
 ·refine xq (xz ?_)
  refine x_ret ?_
  refine fin1 rfl ?_
  refine ⟨?_,lkc⟩
  rw [if_neg]
  rw [Bool.not_eq_true,nameOk_f]
  rintro ⟨h1,h2⟩
  first
   | exact hi.1 (by simpa using c2)
   | (have g0:=empty_size.1 (of_decide_eq_true g12);omega)
   | (have g0:=of_decide_eq_true g17;omega)
 refine x_skip (xq (xz ?_))
 refine x_ret ?_
 refine fin1 rfl ?_
 refine ⟨?_,lkc⟩
 rw [if_pos]
 rw [nameOk_iff]
 refine ⟨?_,?_,?_⟩
 ·have:¬ name.size=0:=fun e=>absurd (empty_size.2 e) (of_decide_eq_false g12)
  omega
 ·simp at g17;omega
 ·cases hb:name.toList.all byteOk with
  | true=>rfl
  | false=>exact absurd (hi.2 hb) (by simpa using c2)
def thereB (l:List (ByteArray×LB)) (name:ByteArray):LB:=if nameOk name then (akey l name).getD ⟨[],none,0⟩ else ⟨[],none,0⟩
def thereNo (l:List (ByteArray×LB)) (name:ByteArray):Int:=if nameOk name=false then 130 else if akey l name=none then 5 else 0
theorem getD_map (o:Option LB):(o.map lbV).getD (.slice none 0 0)=lbV (o.getD ⟨[],none,0⟩):=by cases o<;>rfl
theorem there_ok (d mb ml:Nat) (G:Nat->Prop) (D:LDisk) (M:Disk) (name:ByteArray) (fid:FuncId) (m:Nat) (l:List (ByteArray×LB)) (w:World) (h:DiskAt w d mb ml G D) (hs:Stands D M) [Fun Tryz.prog fid] (hF:FilesAt w m G l) (hf:∀ W,Lk W w NoB->Ret Tryz.prog fid #[.pointer (some ⟨d,0,none⟩)] W (fun v w'=>v=.agg #[.map (some m)]/\Lk w' W NoB)):Ret Tryz.prog 50 #[.pointer (some ⟨d,0,none⟩),.func (.func fid) [Value.pointer (some ⟨d,0,none⟩)].toArray ([]:List Value).toArray,.string name] w (fun v w'=>v=.tuple #[lbV (thereB l name),.int .i64 (thereNo l name)]/\Lk w' w NoB):=by
 haveI hmi:MapI w m _ _ _:=⟨hF.map⟩
 refine ret_of_x (N:=28) (l:=[.pointer (some ⟨d,0,none⟩),.func (.func fid) [Value.pointer (some ⟨d,0,none⟩)].toArray ([]:List Value).toArray,.string name]) Tryz.func50 rfl rfl (Nat.le_of_ble_eq_true rfl) ?_
 refine xq (xa (xz ?_))
 refine x_seq (xq (xm (xm ?_)))
 refine xl_call (named_ok d mb ml G D M name w (h.ext (kpc:Keep NoB w w)) hs) ?_
 rintro _ w1 ⟨rfl,lk1⟩
 refine xz ?_
 refine xq (xm (xl_v v_neq (xl_nil ?_)))
 refine x_condE (fun c1=>?_) (fun c1=>?_)
 ·have hno:nameOk name=false:=by
   cases hn:nameOk name with
   | false=>rfl
   | true=>rw [if_pos hn] at c1;simp at c1
  refine xq (xm (xa (xz ?_)))
  refine x_ret ?_
  refine fin2 rfl ?_
  exact ⟨by simp [outV,thereB,thereNo,hno],lkc⟩
 have hno:nameOk name=true:=by
  cases hn:nameOk name with
  | true=>rfl
  | false=>rw [hn] at c1;simp at c1
 refine x_skip (xq (xm ?_))
 refine xl_call (hf w1 lkc) ?_
 rintro _ w2 ⟨rfl,lk2⟩
 refine xl_v v_field (xm ?_)
 refine xl_v (v_lookup2v name (lbV ((akey l name).getD ⟨[],none,0⟩)) (akey l name).isSome rfl (by rw [fsV_akey,getD_map]) (by rw [fsV_akey];cases akey l name<;>rfl)) ?_
 refine xm (xl_v v_extract (xl_v v_extract (xa (xz ?_))))
 refine x_seq (xq (xm (xl_v v_not (xl_nil ?_))))
 refine x_condE (fun c2=>?_) (fun c2=>?_)
 ·refine xq (xa (xz ?_))
  refine x_ret ?_
  refine fin2 rfl ?_
  refine ⟨?_,lkc⟩
  cases hk:akey l name with
  | none=>simp [outV,thereB,thereNo,hno,hk]
  | some x=>rw [hk] at c2;simp at c2
 refine x_skip (xq (xm (xa (xz ?_))))
 refine x_ret ?_
 refine fin2 rfl ?_
 refine ⟨?_,lkc⟩
 cases hk:akey l name with
 | none=>rw [hk] at c2;simp at c2
 | some x=>simp [outV,thereB,thereNo,hno,hk]
theorem own_zero {base n c:Nat} {e:TypeId} {A:Option Addr} {xs:List Value} {W:World} (h:W.ownsRow base e 1 (.slice A n c) n xs):W.ownsRow base e 1 (.slice A 0 c) 0 []:=by
 refine ⟨by simp,?_⟩
 rcases h.2 with ⟨h1,h2⟩ | ⟨g,cap,cur,h1,h2,h3,h4,h5,h6,h7⟩
 ·cases h1;exact .inl ⟨rfl,rfl⟩
 ·cases h1;exact .inr ⟨g,_,cur,rfl,h2,h3,by omega,h5,h6,by simp⟩
theorem grow_ok (n:Nat) (w:World) (hn:n<=100000000):Ret Tryz.prog 78 #[.slice none 0 0,.int .i64 n] w (fun v w'=>(∃ A c,v=.slice A 0 c/\w'.ownsRow w.heap.size 5 1 (.slice A 0 c) 0 [])/\Lk w' w NoB):=by
 refine ret_of_x (N:=27) (l:=[.slice none 0 0,.int .i64 n]) Tryz.func78 rfl rfl (Nat.le_of_ble_eq_true rfl) ?_
 refine xq (xz ?_)
 refine x_seq (xq (xm (xl_v v_lss (xl_nil ?_))))
 refine x_if (fun c1=>?_) (fun c1=>?_)
 ·omega
 refine x_skip (x_seq (xq (xm (xm (xl_v v_cap (xm (xl_v v_len ?_)))))))
 refine xl_v (v_sub (by omega)) ?_
 refine xl_v (v_sub (by omega)) ?_
 refine xz ?_
 refine xq (xm (xl_v v_gtr (xl_nil ?_)))
 refine x_if (fun c2=>?_) (fun c2=>?_)
 ·refine x_regionL (xm (xm (xl_v v_cap ?_)))
  refine xl_v (v_sliceH 0 rfl (by omega)) ?_
  refine xm ?_
  refine xl_e (e_appendZ (n:=n) (by omega) (by omega) rfl (by omega) (by omega) fun Az cz w1 oz lz hcz=>?_)
  refine xm (xl_v v_len ?_)
  refine xl_v (v_sliceH 0 rfl (by omega)) ?_
  refine xz ?_
  refine xq (xm (xz ?_))
  refine x_ret ?_
  refine fin1 rfl ?_
  first
  | exact ⟨⟨_,_,rfl,own_ext (own_zero oz) lkc⟩,lkc⟩
  | exact ⟨⟨none,0,rfl,World.ownsRow_nil _ _ _ _⟩,lkc⟩
 refine x_skip (xq (xm (xz ?_)))
 refine x_ret ?_
 refine fin1 rfl ?_
 first
 | exact ⟨⟨_,_,rfl,own_ext (own_zero oz) lkc⟩,lkc⟩
 | exact ⟨⟨none,0,rfl,World.ownsRow_nil _ _ _ _⟩,lkc⟩
abbrev lbC (x:LB):List Value:=[lbV x]
instance encN_lb:EncN lbC 1:=⟨fun _=>rfl⟩
theorem bytesC_append (a b:List UInt8):bytesC a++bytesC b=bytesC (a++b):=by simp [bytesC]
def lensB (l:List LB):Nat:=(l.map (fun x=>x.bytes.length)).sum
theorem lens_take (l:List LB) (k:Nat) (h:k<l.length):lensB (l.take (k+1))=lensB (l.take k)+l[k].bytes.length:=by
 unfold lensB
 rw [take_snoc _ k h,List.map_append,List.sum_append]
 simp only [List.map_cons,List.map_nil,List.sum_cons,List.sum_nil,Nat.add_zero]
theorem lens_take_le (l:List LB) (k:Nat):lensB (l.take k)<=lensB l:=by
 have:lensB l=lensB (l.take k)+lensB (l.drop k):=by
  simp only [lensB]
  rw [<- List.sum_append,<- List.map_append,List.take_append_drop]
 omega
theorem concat_ok (A:Option Addr) (n c:Nat) (xs:List LB) (w:World) [hra:RowB w A w (xs.flatMap lbC)] (hrs:∀ j (h:j<xs.length),RowB w xs[j].A w (bytesC xs[j].bytes)) (hl:xs.length=n) (hn:n<=1000) (hb:lensB xs<=100000000):Ret Tryz.prog 64 #[.slice A n c] w (fun v w'=>(∃ A' c',v=.slice A' (lensB xs) c'/\w'.ownsRow w.heap.size 5 1 v (lensB xs) (bytesC (xs.flatMap (·.bytes))))/\Lk w' w NoB):=by
 refine ret_of_x (N:=36) (l:=[.slice A n c]) Tryz.func64 rfl rfl (Nat.le_of_ble_eq_true rfl) ?_
 refine xq (xz ?_)
 refine xq (xz ?_)
 refine x_seq (xq (xm (xl_v v_len (xm (xl_nil ?_)))))
 refine x_block ?_
 refine x_loop (fun m τ ds w'=>ds=[]/\∃ k:Nat,m=n - k/\k<=n/\Ev τ 0 (.slice A n c)/\Ev τ 3 (.int .i64 (lensB (xs.take k):Int))/\Ev τ 9 (.slice A n c)/\Ev τ 10 (.int .i64 (n:Int))/\Ev τ 11 (.int .i64 (k:Int))/\Lk w' w NoB) (n) ?start ?round
 case start=>
  exact ⟨rfl,0,rfl,by omega,ii,ii,ii,ii,evc,lkc⟩
 case round=>
  intro m τ1 ds1 w1 hI
  obtain ⟨rfl,k,rfl,hk,e0,e3,e9,e10,e11,lk⟩:=hI
  refine xq (xl_v v_lss (xl_nil ?_))
  refine x_seq ?_
  refine x_if (fun c1=>?_) (fun c1=>?_)
  ·have hk1:k<xs.length:=by omega
   have hlt:=lens_take_le xs (k+1)
   rw [lens_take xs k hk1] at hlt
   have hA:=row_some (w:=w1) (A:=A) (cs:=xs.flatMap lbC) ii (by rw [flat_len (sz:=1) (fun _=>rfl)];omega)
   refine x_skip (x_seq (x_block (xq ?_)))
   refine xl_v (v_indexF k (by decide) rfl (by omega) hk1) ?_
   refine xl_v (v_loadF0 hk1) ?_
   refine xz ?_
   refine xq (xm (xm (xl_v v_len ?_)))
   refine xl_v (v_add (by omega)) ?_
   refine xz ?_
   refine xq (xm (xl_v v_lss (xl_nil ?_)))
   refine x_if (fun c2=>?_) (fun c2=>?_)
   ·omega
   refine x_skip (x_regionL ?_)
   refine xl_v (v_add (by omega)) ?_
   refine xm (xl_nil ?_)
   refine ⟨_,?_,rfl,k+1,rfl,by omega,ii,evc (congrArg (Value.int .i64) (by rw [lens_take xs k hk1];omega)),ii,ii,evc,lkc⟩
   omega
  refine x_exit (x_seq ?_)
  have hkn:k=n:=by omega
  have htk:lensB (xs.take k)=lensB xs:=by rw [List.take_of_length_le (by omega)]
  rw [htk] at e3
  refine x_regionL (xm ?_)
  refine xl_call (grow_ok (lensB xs) w1 (by omega)) ?_
  rintro _ w2 ⟨⟨A6,c6,rfl,ho6⟩,lk6⟩
  have hge:=(Ge.le:w.heap.size<=(w1).heap.size)
  refine xz ?_
  refine x_seq (xq (xm (xl_v v_len (xm (xl_nil ?_)))))
  refine x_block ?_
  have ho6':World.ownsRow w2 w.heap.size 5 1 (.slice A6 0 c6) 0 []:=own_mono (own_ext ho6 lkc) hge
  refine x_loop (fun m τ ds w'=>ds=[]/\∃ (k:Nat) (A7:Option Addr) (c7:Nat),m=n - k/\k<=n/\w'.ownsRow w.heap.size 5 1 (.slice A7 (lensB (xs.take k)) c7) (lensB (xs.take k)) (bytesC ((xs.take k).flatMap (·.bytes)))/\Ev τ 6 (.slice A7 (lensB (xs.take k)) c7)/\Ev τ 25 (.slice A n c)/\Ev τ 26 (.int .i64 (n:Int))/\Ev τ 27 (.int .i64 (k:Int))/\Lk w' w NoB) (n) ?start ?round
  case start=>
   exact ⟨rfl,0,A6,c6,rfl,by omega,by simpa [lensB] using ho6',evc,ii,ii,evc,lkc⟩
  case round=>
   intro m τ3 ds3 w3 hI
   obtain ⟨rfl,k2,A7,c7,rfl,hk2,ho7,e6,e25,e26,e27,lk2⟩:=hI
   haveI:OwnI w3 A7 _ _ _ _ _ _ _:=⟨ho7⟩
   haveI:NewA A7 w:=newA_of ho7 (Nat.le_refl _)
   refine xq (xl_v v_lss (xl_nil ?_))
   refine x_seq ?_
   refine x_if (fun c3=>?_) (fun c3=>?_)
   ·have hk1:k2<xs.length:=by omega
    have hlt:=lens_take_le xs (k2+1)
    rw [lens_take xs k2 hk1] at hlt
    haveI hrk:RowB w xs[k2].A w (bytesC xs[k2].bytes):=hrs k2 hk1
    refine x_skip (x_seq (x_block (xq ?_)))
    refine xl_v (v_indexF k2 (by decide) rfl (by omega) hk1) ?_
    refine xl_v (v_loadF0 hk1) ?_
    refine xz ?_
    refine x_regionL (xm (xm ?_))
    refine xl_e (e_app (by simp) (by decide) (by omega) (by omega) Ge.le fun A8 c8 w4 ox lx ax fx=>?_)
    have ho8:World.ownsRow w4 w.heap.size 5 1 (.slice A8 (lensB (xs.take (k2+1))) c8) (lensB (xs.take (k2+1))) (bytesC ((xs.take (k2+1)).flatMap (·.bytes))):=by
     have:=ox.own
     rw [bytesC_append] at this
     rw [lens_take xs k2 hk1,take_snoc _ k2 hk1,List.flatMap_append]
     simpa using this
    refine xz ?_
    refine x_regionL ?_
    refine xl_v (v_add (by omega)) ?_
    refine xm (xl_nil ?_)
    refine ⟨_,?_,rfl,k2+1,A8,c8,rfl,by omega,ho8,evc (by rw [lens_take xs k2 hk1]),ii,ii,evc,lkc⟩
    omega
   refine x_exit (xq (xm (xz ?_)))
   refine x_ret ?_
   refine fin1 rfl ?_
   have hkn2:k2=n:=by omega
   have htk2:lensB (xs.take k2)=lensB xs:=by rw [List.take_of_length_le (by omega)]
   rw [List.take_of_length_le (by omega)] at ho7
   refine ⟨⟨A7,c7,by rw [htk2],?_⟩,lkc⟩
   rw [htk2]
   exact ho7
def atB (l:List (ByteArray×LB)) (name:ByteArray):LB:=(akey l name).getD ⟨[],none,0⟩
theorem atB_mem {l:List (ByteArray×LB)} {name:ByteArray} (h:(akey l name).isSome=true):(name,atB l name)∈l:=by
 obtain ⟨x,hx⟩:=Option.isSome_iff_exists.1 h
 have:∀ l:List (ByteArray×LB),akey l name=some x->(name,x)∈l:=by
  intro l
  induction l with
  | nil=>intro h;cases h
  | cons p l ih=>
    rw [akey_cons]
    split
    ·next h=>intro e;injection e with e;subst e;subst h;exact List.mem_cons_self ..
    ·intro e;exact List.mem_cons_of_mem _ (ih e)
 rw [atB,hx]
 exact this l hx
theorem atB_row {W:World} {m:Nat} {G:Nat->Prop} {l:List (ByteArray×LB)} (h:FilesAt W m G l) (name:ByteArray):FRow W G (atB l name).A (bytesC (atB l name).bytes)/\(atB l name).bytes.length<=(atB l name).c:=by
 cases hk:akey l name with
 | none=>rw [atB,hk];exact ⟨FRow.nil _ _,Nat.le_refl _⟩
 | some x=>
   have:=atB_mem (l:=l) (name:=name) (by simp [hk])
   exact ⟨h.rows _ this,h.caps _ this⟩
theorem fsP_at (l:List (ByteArray×LB)) (name:ByteArray):(akey (fsP l) name).getD []=(atB l name).bytes:=by
 rw [fsP_akey,atB]
 cases akey l name<;>rfl
theorem fsV_at (l:List (ByteArray×LB)) (name:ByteArray):(akey (fsV l) name).getD (.slice none 0 0)=lbV (atB l name):=by
 rw [fsV_akey,getD_map,atB]
theorem map_aput {α β:Type} (f:α->β) (l:List (ByteArray×α)) (k:ByteArray) (v:α):(aput l k v).map (fun p=>(p.1,f p.2))=aput (l.map (fun p=>(p.1,f p.2))) k (f v):=by
 unfold aput
 have e:(l.map (fun p=>(p.1,f p.2))).any (fun p=>decide (p.1=k))=l.any (fun p=>decide (p.1=k)):=by simp [List.any_map,Function.comp_def]
 rw [e]
 split
 ·simp only [List.map_map]
  apply List.map_congr_left
  intro p _
  simp only [Function.comp]
  split<;>rfl
 ·simp
theorem map_adel {α β:Type} (f:α->β) (l:List (ByteArray×α)) (k:ByteArray):(adel l k).map (fun p=>(p.1,f p.2))=adel (l.map (fun p=>(p.1,f p.2))) k:=by
 unfold adel
 rw [List.filter_map]
 rfl
theorem mem_aput {α:Type} {l:List (ByteArray×α)} {k:ByteArray} {v:α} {p:ByteArray×α} (h:p∈aput l k v):p=(k,v)\/p∈l:=by
 unfold aput at h
 split at h
 ·obtain ⟨q,hq,e⟩:=List.mem_map.1 h
  split at e
  ·exact .inl e.symm
  ·exact .inr (e ▸ hq)
 ·rcases List.mem_append.1 h with h | h
  ·exact .inr h
  ·exact .inl (by simpa using h)
theorem mem_adel {α:Type} {l:List (ByteArray×α)} {k:ByteArray} {p:ByteArray×α} (h:p∈adel l k):p∈l:=(List.mem_filter.1 h).1
theorem le_sum:∀ (l:List Nat) (a:Nat),a∈l->a<=l.sum
 | [],_,h=>by cases h
 | b :: l,a,h=>by
   rw [List.sum_cons]
   rcases List.mem_cons.1 h with rfl | h
   ·omega
   ·have:=le_sum l a h;omega
theorem used_at {l:List (ByteArray×LB)} (hn:(l.map (·.1)).Nodup) (name:ByteArray):(atB l name).bytes.length<=usedB (fsP l):=by
 cases hk:akey l name with
 | none=>rw [atB,hk];exact Nat.zero_le _
 | some x=>
   have hm:=atB_mem (l:=l) (name:=name) (by simp [hk])
   rw [usedB]
   refine le_sum _ _ ?_
   exact List.mem_map.2 ⟨(name,(atB l name).bytes),List.mem_map.2 ⟨_,hm,rfl⟩,rfl⟩
end Go.Proofs.YtigmfcgeljjgnaaGreat
namespace Go.Wst
def RetP (P:Program) (f:FuncId) (args:Array Value) (w:World) (R:Value->World->Prop) (RP:List PanicEntry->World->Prop):Prop:=
  Calls P f args w fun e w'=>(∃ v,e=.returned v/\R v w')\/(∃ ch,e=.panicked ch/\RP ch w')
def bodyQP (P:Program) (fn:Func) (N:Nat) (R:Value->World->Prop) (RP:List PanicEntry->World->Prop):Post
  | .normal,τ,ds,w=>∀ a,Rel N τ ds a->LeavesInM (FX none) 0 P fn a.tmps (fun e w'=>∃ v,e=.returned v/\R v w') ds .returning w
  | .ret,τ,ds,w=>∀ a,Rel N τ ds a->LeavesInM (FX none) 0 P fn a.tmps (fun e w'=>∃ v,e=.returned v/\R v w') ds .returning w
  | .panic ch,_,ds,w=>ds=[]/\RP ch w
  | _,_,_,_=>False
def bodyQD (P:Program) (fn:Func) (N:Nat) (R:Value->World->Prop):Post
  | .normal,τ,ds,w=>∀ a,Rel N τ ds a->LeavesInM (FX none) 0 P fn a.tmps (fun e w'=>∃ v,e=.returned v/\R v w') ds .returning w
  | .ret,τ,ds,w=>∀ a,Rel N τ ds a->LeavesInM (FX none) 0 P fn a.tmps (fun e w'=>∃ v,e=.returned v/\R v w') ds .returning w
  | .panic ch,τ,ds,w=>∀ a,Rel N τ ds a->LeavesInM (FX none) 0 P fn a.tmps (fun e w'=>∃ v,e=.returned v/\R v w') ds (.panicking ch) w
  | _,_,_,_=>False
def noP (Q:Post):Post
  | .panic _,_,_,_=>False
  | e,τ,ds,w=>Q e τ ds w
theorem leavesM_mono {P:Program} {fn:Func} {tmps:Array Value} {R R':Ending->World->Prop} (h:∀ e w,R e w->R' e w):∀ {ds:List Deferred} {u:FrameMode} {w:World},LeavesInM (FX none) 0 P fn tmps R ds u w->LeavesInM (FX none) 0 P fn tmps R' ds u w
  | [],u,w,hh=>by
    cases u with
    | run=>exact hh
    | returning=>obtain ⟨v,h1,h2⟩:=hh;exact ⟨v,h1,h _ _ h2⟩
    | panicking c=>exact h _ _ hh
  | d :: ds,u,w,hh=>by
    refine ⟨hh.1,?_⟩
    rcases hh.2 with ⟨r,w',h1,h2,h3⟩ | ⟨h0,fv,cap,f,args,h1,h2,h3,h4⟩
    · exact .inl ⟨r,w',h1,h2,leavesM_mono h h3⟩
    refine .inr ⟨h0,fv,cap,f,args,h1,h2,h3,h4.1,fun c cs hu hr=>?_⟩
    obtain ⟨e,u',w',fr,k1,k2,k3,k4,k5⟩:=h4.2 c cs hu hr
    refine ⟨e,u',w',fr,?_,k2,k3,k4,k5⟩
    cases e with
    | returned v=>exact leavesM_mono h k1
    | panicked ch=>exact leavesM_mono h k1
    | outgrown=>exact h _ _ k1
section laws
variable {P:Program} {r:Option Nat} {N:Nat} {S T U:Nat->Prop} {Q:Post} {τ:Tau} {ds:List Deferred} {w:World} {ty:TypeId} {ops:Array Oper} {rest:List Oper} {pos:String} {aft:Array Edge} {d:Nat} {v:Value} {op:Op}
theorem retP_of_x {f:FuncId} {fn:Func} {c:Code} {l:List Value} {R:Value->World->Prop} {RP:List PanicEntry->World->Prop} (hf:P.funcs[f]?=some fn) (hb:fn.body=some c) (hN:fn.ntmps=N) (hl:l.length<=N)
    (h:X P none N c (bodyQP P fn N R RP) (frame0 l) [] w):RetP P f l.toArray w R RP:=by
  refine (callsIn_FX (r:=none) (n:=0)).1 (callsIn_of_wp_marks hf hb trivial (wpIn_mono (h _ (by rw [hN];exact rel_frame0 l hl)) ?_))
  intro e a w' hq
  obtain ⟨t,d,hr,hq⟩:=hq
  have hd:=hr.dfs
  cases e with
  | normal=>have:=hq a hr;simp only [bodyPostM,hd];exact leavesM_mono (fun _ _ h=>.inl h) this
  | ret=>have:=hq a hr;simp only [bodyPostM,hd];exact leavesM_mono (fun _ _ h=>.inl h) this
  | panic ch=>simp only [bodyPostM,hd];obtain ⟨h1,h2⟩:=hq;subst h1;exact .inr ⟨ch,rfl,h2⟩
  | _=>exact hq.elim
theorem retD_of_x {f:FuncId} {fn:Func} {c:Code} {l:List Value} {R:Value->World->Prop} (hf:P.funcs[f]?=some fn) (hb:fn.body=some c) (hN:fn.ntmps=N) (hl:l.length<=N)
    (h:X P none N c (bodyQD P fn N R) (frame0 l) [] w):Ret P f l.toArray w R:=by
  refine (callsIn_FX (r:=none) (n:=0)).1 (callsIn_of_wp_marks hf hb trivial (wpIn_mono (h _ (by rw [hN];exact rel_frame0 l hl)) ?_))
  intro e a w' hq
  obtain ⟨t,d,hr,hq⟩:=hq
  have hd:=hr.dfs
  cases e with
  | normal=>have:=hq a hr;simp only [bodyPostM,hd];exact this
  | ret=>have:=hq a hr;simp only [bodyPostM,hd];exact this
  | panic ch=>have:=hq a hr;simp only [bodyPostM,hd];exact this
  | _=>exact hq.elim
theorem x_drawN {id:Nat} (S U:Nat->Prop) (p:Plan) (hm:P.follows .mixedOrders=true) (hok:(Region.noSelect ops && p.ok ops p.lastI (Array.replicate ops.size false) && decide (p.size<=ops.size))=true)
    (h:∀ w1,Lk w1 w NoB->XT P r N ops (noP Q) S U p τ ds w1):X P r N (.region id ops true) Q τ ds w:=
  x_mono (x_drawL S U p hm hok (fun _ _ _ _ _ h=>h) h) (fun e t d w' hq=>by
    cases e with
    | panic ch=>exact hq.elim
    | _=>exact hq)
theorem OpE_callP {g:Operand} {args:List Operand} {at_:Array TypeId} {f:FuncId} {a c vs asx as2:List Value} {R:Value->World->Prop} {RP:List PanicEntry->World->Prop} {K:Tau->List Deferred->World->Prop} {dst:Option Nat}
    [hg:EvO N τ g (.func (.func f) a.toArray c.toArray)] [hv:EvL N τ args vs] [hf:Fun P f] [h1:App a vs asx] [h2:App asx c as2]
    (hc:RetP P f as2.toArray w R RP) (hp:∀ ch w',RP ch w'->Q (.panic ch) τ ds w') (h:∀ v w',R v w'->K (updO τ dst v) ds w'):OpE P r N ops ⟨dst,.call { callee:=.value g,args:=args.toArray,argTypes:=at_ },ty,pos,aft,none⟩ Q τ ds w K:=by
  unfold OpE
  rw [if_pos (by rfl),semAt_op _ (fun c h=>by cases h)]
  have hr:=run_call (P:=P) (N:=N) (τ:=τ) (w:=w) (ty:=ty) (at_:=at_) (g:=g) (args:=args) (f:=f) (hg:=hg) (hv:=hv) (h1:=h1) (h2:=h2)
  rw [hr]
  exact Calls.mono hc fun e w'' he=>he.imp (fun ⟨v,he,hR⟩=>⟨v,he,h v w'' hR⟩) (fun ⟨ch,he,hR⟩=>⟨ch,he,hp ch w'' hR⟩)
theorem xl_callP {g:Operand} {args:List Operand} {at_:Array TypeId} {f:FuncId} {a c vs asx as2:List Value} {R:Value->World->Prop} {RP:List PanicEntry->World->Prop}
    [hg:EvO N τ g (.func (.func f) a.toArray c.toArray)] [hv:EvL N τ args vs] [hf:Fun P f] [h1:App a vs asx] [h2:App asx c as2]
    (hc:RetP P f as2.toArray w R RP) (hp:∀ ch w',RP ch w'->Q (.panic ch) τ ds w') (h:∀ v w',R v w'->XL P r N ops Q rest (upd τ d v) ds w'):XL P r N ops Q (⟨some d,.call { callee:=.value g,args:=args.toArray,argTypes:=at_ },ty,pos,aft,none⟩ :: rest) τ ds w:=
  OpE_callP (as2:=as2) hc hp h
theorem xt_callP {p:Plan} {i:Nat} {pos':String} {aft':Array Edge} {g:Operand} {args:List Operand} {at_:Array TypeId} {f:FuncId} {a c vs asx as2:List Value} {R:Value->World->Prop} {RP:List PanicEntry->World->Prop}
    (hi:ops[i]?=some ⟨some d,.call { callee:=.value g,args:=args.toArray,argTypes:=at_ },ty,pos',aft',none⟩)
    [hg:EvO N τ g (.func (.func f) a.toArray c.toArray)] [hv:EvL N τ args vs] [hf:Fun P f] [h1:App a vs asx] [h2:App asx c as2]
    (hc:RetP P f as2.toArray w R RP) (hp:∀ ch w',RP ch w'->Q (.panic ch) τ ds w') (h:∀ v w',R v w'->Keep S w w'/\XT P r N ops Q S U p (upd τ d v) ds w'):XT P r N ops Q S U (.eff i p) τ ds w:=by
  show match ops[i]? with | some o=>OpE P r N ops o Q τ ds w (fun τ' ds' w'=>Keep S w w'/\XT P r N ops Q S U p τ' ds' w') | none=>False
  rw [hi]
  exact OpE_callP (as2:=as2) hc hp h
theorem xl_panic {x:Operand} {t:TypeId} {u:Value} [hx:EvO N τ x (.iface t u)] (h:Q (.panic [{ v:=.iface t u,recovered:=false }]) τ ds w):XL P r N ops Q (⟨none,.panic x,ty,pos,aft,none⟩ :: rest) τ ds w:=by
  show OpE P r N ops _ Q τ ds w _
  unfold OpE
  rw [if_pos (by rfl),semAt_op _ (fun c h=>by cases h)]
  have e:(execOp (evO N τ) ⟨none,.panic x,ty,"",#[],none⟩).run P w=.halt (.panic (.iface t u)) w:=by
    simp [execOp,hx.eq,run_panic_iface]
  simp only [e]
  exact h
theorem xl_defer {g:Operand} {args:List Operand} {at_:Array TypeId} {f:Fn} {c:Array Value} {vs:List Value} [hg:EvO N τ g (.func f #[] c)] [hv:EvL N τ args vs]
    (h:XL P none N ops Q rest τ ({ target:=.fn f c,args:=vs.toArray } :: ds) w):XL P none N ops Q (⟨none,.defer { callee:=.value g,args:=args.toArray,argTypes:=at_ },ty,pos,aft,none⟩ :: rest) τ ds w:=by
  show OpE P none N ops _ Q τ ds w _
  unfold OpE
  rw [if_pos (by rfl)]
  have e1:(args.toArray.map (evO N τ))=vs.toArray:=by simp [hv.eq]
  have e:(Oper.semAt none (evO N τ) ⟨none,.defer { callee:=.value g,args:=args.toArray,argTypes:=at_ },ty,pos,aft,none⟩).run P w=.ok (.defer { target:=.fn f c,args:=vs.toArray }) w:=by
    rw [Oper.semAt_none]
    simp only [execOp,resolve,hg.eq,Deferred.ofValue,e1]
    simp
  rw [e]
  exact h
section fin
variable {fn:Func} {R:Value->World->Prop} {RP:List PanicEntry->World->Prop} {t1 t2 t3:Nat} {v1 v2 v3:Value}
theorem finP0 (hr:fn.results=#[]) (hR:R (.tuple #[]) w):bodyQP P fn N R RP .normal τ [] w:=fun a ha=>⟨_,results_none hr _ _ _,_,rfl,hR⟩
theorem finP1 (hr:fn.results=#[.tmp t1]) [LtN t1 N] [Ev τ t1 v1] (hR:R v1 w):bodyQP P fn N R RP .ret τ [] w:=fun a ha=>⟨_,results_tmp hr _ _ _,_,rfl,by rw [ha.getE (t:=t1) (v:=v1)];exact hR⟩
end fin
def afterQ (R:World->Prop):Post
  | .normal,_,ds,w=>ds=[]/\R w
  | .ret,_,ds,w=>ds=[]/\R w
  | _,_,_,_=>False
inductive Recovers:FrameMode->Value->FrameMode->Prop
  | panics (v:Value) (older:List PanicEntry):Recovers (.panicking ({ v:=v,recovered:=false } :: older)) v (.panicking ({ v:=v,recovered:=true } :: older))
  | returns:Recovers .returning .nilIface .returning
theorem deferred_of_x {f:FuncId} {fn:Func} {c:Code} {l:List Value} {id t:Nat} {ty:TypeId} {pos:String} {aft:Array Edge} {u u':FrameMode} {v:Value} {R:World->Prop} (hf:P.funcs[f]?=some fn) (hb:fn.body=some (.seq (.region id #[⟨some t,.call { callee:=.builtin .recover,args:=#[],argTypes:=#[] },ty,pos,aft,none⟩] false) c)) (hres:fn.results=#[]) (hN:fn.ntmps=N) (hl:l.length<=N) (hu:Recovers u v u')
    (h:X P none N c (afterQ R) (upd (frame0 l) t v) [] w):CallsDIn (FX none) 0 P f l.toArray u w (fun e u'' w'=>e=.returned (.tuple #[])/\u''=u'/\R w'):=by
  refine callsDIn_of_wpSIn hf hb trivial fun c₀ cs hm=>?_
  apply wpSIn_seq
  apply wpSIn_region
  have hrel:=(rel_frame0 (N:=N) l hl).put (some t) v
  rw [hN]
  obtain ⟨a0,ha0⟩:∃ a0:Act,a0={ tmps:=l.toArray++Array.replicate (N - l.toArray.size) undef,defers:=[] }:=⟨_,rfl⟩
  rw [<- ha0] at hrel ⊢
  have hcont:∀ cs',cs'=({ c₀ with mode:=u' } :: cs)->Code.wpSIn (FX none) 0 P c (bodyPostS P fn c₀ cs (fun e u'' w'=>e=.returned (.tuple #[])/\u''=u'/\R w')) (a0.put (some t) v) cs' w:=by
    rintro cs' rfl
    refine wpSIn_of_wpIn rfl (wpIn_mono (h _ hrel) ?_)
    intro e a w' hq
    obtain ⟨τ',d',hr,hq⟩:=hq
    cases e with
    | normal=>obtain ⟨h1,h2⟩:=hq;exact ⟨hr.dfs.trans h1,u',rfl,.tuple #[],results_none hres _ _ _,rfl,rfl,h2⟩
    | ret=>obtain ⟨h1,h2⟩:=hq;exact ⟨hr.dfs.trans h1,u',rfl,.tuple #[],results_none hres _ _ _,rfl,rfl,h2⟩
    | _=>exact hq.elim
  cases hu with
  | panics _ older=>
    have e1:recoverD (c₀ :: cs)=some (v,{ c₀ with mode:=.panicking ({ v:=v,recovered:=true } :: older) } :: cs):=by simp [recoverD,hm]
    simp [wpOpsSIn,go_sem,e1,Exit.thenS,FX,List.range_succ]
    exact hcont _ rfl
  | returns=>
    have e1:recoverD (c₀ :: cs)=none:=by simp [recoverD,hm]
    simp [wpOpsSIn,go_sem,e1,Exit.thenS,FX,List.range_succ]
    exact hcont _ (by cases c₀;simp_all)
end laws
end Go.Wst
namespace Go.Wst.Sg
abbrev W32:=BitVec 32
def poly:W32:=0x82f63b78#32
def bit1 (x:W32):W32:=if x.getLsbD 0 then (x >>> 1) ^^^ poly else x >>> 1
def bitsN (x:W32):Nat->W32
  | 0=>x
  | n+1=>bitsN (bit1 x) n
theorem bits_succ (x:W32) (n:Nat):bitsN x (n+1)=bit1 (bitsN x n):=by
  induction n generalizing x with
  | zero=>rfl
  | succ n ih=>exact ih (bit1 x)
def bit8 (x:W32):W32:=bitsN x 8
def byteW (b:UInt8):W32:=b.toBitVec.setWidth 32
def runW (w:W32) (l:List UInt8):W32:=l.foldl (fun w b=>bit8 (w ^^^ byteW b)) w
def sumW (l:List UInt8):W32 := ~~~ runW (~~~ 0#32) l
theorem runW_snoc (w:W32) (l:List UInt8) (b:UInt8):runW w (l++[b])=bit8 (runW w l ^^^ byteW b):=by simp [runW]
theorem bit1_xor (a b:W32):bit1 (a ^^^ b)=bit1 a ^^^ bit1 b:=by
  unfold bit1
  rw [BitVec.getLsbD_xor,BitVec.ushiftRight_xor_distrib]
  apply BitVec.eq_of_getLsbD_eq
  intro i hi
  cases a.getLsbD 0<;>cases b.getLsbD 0<;>simp only [Bool.xor_false,Bool.false_xor,Bool.xor_true,Bool.not_true,Bool.not_false,if_true,if_false,Bool.false_eq_true,BitVec.getLsbD_xor]<;>cases (a >>> 1).getLsbD i<;>cases (b >>> 1).getLsbD i<;>cases poly.getLsbD i<;>rfl
theorem bits_xor (a b:W32) (n:Nat):bitsN (a ^^^ b) n=bitsN a n ^^^ bitsN b n:=by
  induction n generalizing a b with
  | zero=>rfl
  | succ n ih=>simp only [bitsN,bit1_xor,ih]
theorem bits_high (x:W32):∀ n,(∀ i,i<n->x.getLsbD i=false)->bitsN x n=x >>> n
  | 0,_=>by simp [bitsN]
  | n+1,h=>by
    rw [bits_succ,bits_high x n (fun i hi=>h i (by omega))]
    unfold bit1
    have h1:(x >>> n).getLsbD 0=false:=by
      rw [BitVec.getLsbD_ushiftRight];simpa using h n (by omega)
    rw [h1]
    simp [BitVec.shiftRight_add]
theorem low_get (i:Nat) (hi:i<32):(255#32).getLsbD i=decide (i<8):=by
  have:∀ j:Fin 32,(255#32).getLsbD j.1=decide (j.1<8):=by decide
  exact this ⟨i,hi⟩
theorem high_get (i:Nat) (hi:i<32):(0xffffff00#32).getLsbD i=decide (8<=i):=by
  have:∀ j:Fin 32,(0xffffff00#32).getLsbD j.1=decide (8<=j.1):=by decide
  exact this ⟨i,hi⟩
theorem byteW_get (b:UInt8) (i:Nat) (hi:8<=i):(byteW b).getLsbD i=false:=by
  unfold byteW
  rw [BitVec.getLsbD_setWidth,BitVec.getLsbD_of_ge b.toBitVec i hi,Bool.and_false]
theorem bit8_table (w:W32) (b:UInt8):bit8 (w ^^^ byteW b)=(w >>> 8) ^^^ bit8 ((w ^^^ byteW b) &&& 255#32):=by
  have e:w ^^^ byteW b=(w &&& 0xffffff00#32) ^^^ ((w ^^^ byteW b) &&& 255#32):=by
    apply BitVec.eq_of_getLsbD_eq
    intro i hi
    rw [BitVec.getLsbD_xor,BitVec.getLsbD_xor,BitVec.getLsbD_and,BitVec.getLsbD_and,BitVec.getLsbD_xor,low_get i hi,high_get i hi]
    rcases Nat.lt_or_ge i 8 with h | h
    · rw [decide_eq_true h,decide_eq_false (by omega:¬ 8<=i)];simp
    rw [byteW_get b i h,decide_eq_false (by omega:¬ i<8),decide_eq_true h];simp
  have hh:bitsN (w &&& 0xffffff00#32) 8=w >>> 8:=by
    rw [bits_high _ 8 (fun i hi=>by rw [BitVec.getLsbD_and,high_get i (by omega),decide_eq_false (by omega:¬ 8<=i),Bool.and_false])]
    apply BitVec.eq_of_getLsbD_eq
    intro i hi
    rw [BitVec.getLsbD_ushiftRight,BitVec.getLsbD_ushiftRight,BitVec.getLsbD_and]
    rcases Nat.lt_or_ge (8+i) 32 with h | h
    · rw [high_get _ h,decide_eq_true (by omega:8<=8+i),Bool.and_true]
    rw [BitVec.getLsbD_of_ge w _ h,Bool.false_and]
  conv=>lhs;rw [e]
  unfold bit8
  rw [bits_xor,hh]
end Go.Wst.Sg
