/- A part of the walks through the log and its document, and of the law in plain Lean: Xe Xf. -/
import Derived.Test.YtigmfcgeljjgnaaGreatJ02
import Derived.Laws.StructEq
import Derived.Laws.OwnMore
import Derived.Maps.AppendAt
import Derived.MapKept
import Derived.Laws.Cover3
import Derived.Laws.Pointers
set_option linter.all false
namespace Go.Wst
section laws
variable {P:Program} {r:Option Nat} {N:Nat} {S T:Nat->Prop} {Q:Post} {τ:Tau} {ds:List Deferred} {w:World} {ty:TypeId} {ops:Array Oper} {rest:List Oper} {pos:String} {aft:Array Edge} {d:Nat} {v:Value} {op:Op}
def rvRun (tmps:Array Value):ResultVar->Sem Value
  | .tmp t=>pure (tmps.getD t undef)
  | .cell a t=>do loadVar t (<- asAddr (tmps.getD a undef))
class RsV (P:Program) (N:Nat) (τ:Tau) (w:World) (rs:List ResultVar) (vs:outParam (List Value)):Prop where
  eq:∀ tmps:Array Value,(∀ t,t<N->tmps.getD t undef=τ t)->(rs.mapM (rvRun tmps)).run P w=.ok vs w
instance rsv_nil:RsV P N τ w [] []:=⟨fun _ _=>by simp⟩
instance rsv_tmp (t:Nat) (rs:List ResultVar) (v:Value) (vs:List Value) [h:LtN t N] [e:Ev τ t v] [k:RsV P N τ w rs vs]:RsV P N τ w (.tmp t :: rs) (v :: vs):=⟨fun tmps ht=>by
  rw [List.mapM_cons]
  simp only [rvRun,pure_bind,Sem.run_bind,k.eq tmps ht,Result.andThen_ok,Sem.run_pure,ht t h.lt,e.eq]⟩
theorem rsv_cellv {t:Nat} {ty:TypeId} {rs:List ResultVar} {v:Value} {vs:List Value} {a:Addr} (h:LtN t N) (e:Ev τ t (.pointer (some a))) (hl:(loadVar ty a).run P w=.ok v w) (k:RsV P N τ w rs vs):RsV P N τ w (.cell t ty :: rs) (v :: vs):=⟨fun tmps ht=>by
  have h1:(rvRun tmps (.cell t ty)).run P w=.ok v w:=by simp [rvRun,ht t h.lt,e.eq,asAddr,hl]
  rw [List.mapM_cons]
  simp only [Sem.run_bind,h1,k.eq tmps ht,Result.andThen_ok,Sem.run_pure]⟩
theorem run_loadA {t e:TypeId} {b off n:Nat} {cs vs:List Value} {fr:Nat×Nat} (ho:Many P t n) (hb:w.heap[b]?=some (.cells cs.toArray e fr)) (hc:CsSub cs off n vs):(loadVar t ⟨b,off,none⟩).run P w=.ok (.agg vs.toArray) w:=by
  obtain ⟨e1,e2⟩:=hc.eq
  have hl:vs.length=n:=by rw [<- e1];simp;omega
  exact run_loadVar_many ho w ⟨b,off,none⟩ vs hl (fun j v hj=>by
    rw [add_none,cell_of_blk hb]
    rw [<- e1,List.getElem?_take] at hj
    split at hj
    · rw [List.getElem?_drop] at hj;simpa using hj
    cases hj)
instance rsv_cellA (t:Nat) (ty:TypeId) (rs:List ResultVar) (vs us:List Value) (b off n:Nat) (cs:List Value) (el:TypeId) (fr:Nat×Nat) [h:LtN t N] [e:Ev τ t (.pointer (some ⟨b,off,none⟩))] [ho:Many P ty n] [hb:Blk w b (.cells cs.toArray el fr)] [hc:CsSub cs off n us] [k:RsV P N τ w rs vs] :
    RsV P N τ w (.cell t ty :: rs) (.agg us.toArray :: vs):=rsv_cellv h e (run_loadA ho hb.eq hc) k
theorem run_load1 {t e:TypeId} {b off:Nat} {cs:Array Value} {fr:Nat×Nat} (ho:One P t) (hb:w.heap[b]?=some (.cells cs e fr)) (hc:CsGet cs off v):(loadVar t ⟨b,off,none⟩).run P w=.ok v w:=by
  have h2:=(cell_of_blk (off:=off) hb).trans hc.eq
  simp [loadVar,run_isAgg_one ho,h2]
instance rsv_cell1 (t:Nat) (ty:TypeId) (rs:List ResultVar) (v:Value) (vs:List Value) (b off:Nat) (cs:Array Value) (el:TypeId) (fr:Nat×Nat) [h:LtN t N] [e:Ev τ t (.pointer (some ⟨b,off,none⟩))] [ho:One P ty] [hb:Blk w b (.cells cs el fr)] [hc:CsGet cs off v] [k:RsV P N τ w rs vs] :
    RsV P N τ w (.cell t ty :: rs) (v :: vs):=rsv_cellv h e (run_load1 ho hb.eq hc) k
def outV:List Value->Value
  | [v]=>v
  | vs=>.tuple vs.toArray
theorem run_results {fn:Func} {rs:List ResultVar} {vs:List Value} (hr:fn.results=rs.toArray) (h:RsV P N τ w rs vs) (tmps:Array Value) (ht:∀ t,t<N->tmps.getD t undef=τ t):(results fn tmps).run P w=.ok (outV vs) w:=by
  have e1:results fn tmps=(do let vs <- fn.results.mapM (rvRun tmps);pure (if h:vs.size=1 then vs[0] else .tuple vs)):=by
    unfold results
    congr 1
  rw [e1,hr,Array.mapM_eq_mapM_toList]
  simp only [Sem.run_bind,Sem.run_map,h.eq tmps ht,Result.andThen_ok,Sem.run_pure]
  rcases vs with _ | ⟨a,_ | ⟨b,l⟩⟩<;>simp [outV]
theorem finR {fn:Func} {R:Value->World->Prop} {rs:List ResultVar} {vs:List Value} (hr:fn.results=rs.toArray) [h:RsV P N τ w rs vs] (hR:R (outV vs) w):bodyQ P fn N R .ret τ [] w:=fun a ha=>
  ⟨_,run_results hr h a.tmps (fun t ht=>ha.get t ht),_,rfl,hR⟩
theorem v_eql_pointer {x:Operand} {t e t':TypeId} {p:Option Addr} [hx:EvO N τ x (.pointer p)] [hu:Und P t (.pointer e)]:Val P r N S (.binOp .eql t x (.const (.pointer none)) t') ty τ w (.bool p.isNone):=⟨fun _=>nofun,fun W _=>by
  have hy:evO N τ (.const (.pointer none))=.pointer none:=rfl
  have h0:∀ d,(Op.equalIn (d+1) t (.pointer p) (.pointer none)).run P W=.ok p.isNone W:=fun d=>by cases p<;>simp [Op.equalIn,run_underlying hu.eq]
  have:=h0 9999
  simp [execOp,hx.eq,hy,eqGuard,binOp,Op.equal,Op.maxDepth,this]⟩
theorem v_eql_slice {x:Operand} {t e t':TypeId} {A:Option Addr} {n c:Nat} [hx:EvO N τ x (.slice A n c)] [hu:Und P t (.slice e)]:Val P r N S (.binOp .eql t x (.const (.slice none 0 0)) t') ty τ w (.bool A.isNone):=⟨fun _=>nofun,fun W _=>by
  have hy:evO N τ (.const (.slice none 0 0))=.slice none 0 0:=rfl
  have h0:∀ d,(Op.equalIn (d+1) t (.slice A n c) (.slice none 0 0)).run P W=.ok A.isNone W:=fun d=>by cases A<;>simp [Op.equalIn,run_underlying hu.eq]
  have:=h0 9999
  simp [execOp,hx.eq,hy,eqGuard,binOp,Op.equal,Op.maxDepth,this]⟩
theorem v_eql_map {x:Operand} {t k e t':TypeId} {m:Option Nat} [hx:EvO N τ x (.map m)] [hu:Und P t (.map k e)]:Val P r N S (.binOp .eql t x (.const (.map none)) t') ty τ w (.bool m.isNone):=⟨fun _=>nofun,fun W _=>by
  have hy:evO N τ (.const (.map none))=.map none:=rfl
  have h0:∀ d,(Op.equalIn (d+1) t (.map m) (.map none)).run P W=.ok m.isNone W:=fun d=>by cases m<;>simp [Op.equalIn,run_underlying hu.eq]
  have:=h0 9999
  simp [execOp,hx.eq,hy,eqGuard,binOp,Op.equal,Op.maxDepth,this]⟩
class EqV (P:Program) (t:TypeId) (x y:Value) (n:outParam Nat) (b:outParam Bool):Prop where eq:∀ d W,n<=d->(Op.equalIn d t x y).run P W=.ok b W
instance eqv_int (t:TypeId) (k:IntKind) (a b:Int) [h:Und P t (.int k)]:EqV P t (.int k a) (.int k b) 1 (decide (a=b)):=⟨fun d W hd=>by
  obtain ⟨d,rfl⟩:∃ m,d=m+1:=⟨d - 1,by omega⟩
  rw [run_equalIn_int W d t k k a b h.eq,beq_dec]⟩
class PartV (P:Program) (t:TypeId) (cs:List Value) (off:Nat) (v:outParam Value):Prop where eq:∀ W,(part t cs.toArray off).run P W=.ok v W
instance partv_one (t:TypeId) (cs:List Value) (off:Nat) (v:Value) [ho:One P t] [hc:CsGet cs.toArray off v]:PartV P t cs off v:=⟨fun W=>by
  have:=hc.eq
  simp only [part,Sem.run_bind,run_isAgg_one ho,Result.andThen_ok,Bool.false_eq_true,if_false,this]
  rfl⟩
theorem run_sizeOf_many {t:TypeId} {n:Nat} (h:Many P t n) (W:World):(sizeOf t).run P W=.ok n W:=by
  obtain ⟨dd,i,h7,h8,h9,h10⟩:=h.ex
  simp [sizeOf,typeInfo,program,Sem.run,h9,h10]
instance partv_many (t:TypeId) (cs vs:List Value) (off n:Nat) [ho:Many P t n] [hc:CsSub cs off n vs]:PartV P t cs off (.agg vs.toArray):=⟨fun W=>by
  obtain ⟨e1,e2⟩:=hc.eq
  have hx:cs.toArray.extract off (off+n)=vs.toArray:=by
    apply Array.ext'
    simp only [Array.toList_extract,List.extract_eq_take_drop]
    rw [<- e1]
    simp
  simp only [part,Sem.run_bind,run_isAgg_many ho,run_sizeOf_many ho,Result.andThen_ok,if_true,hx,Sem.run_pure]⟩
class EqF (P:Program) (fl:List (Nat×TypeId)) (xs ys:List Value) (n:outParam Nat) (b:outParam Bool):Prop where eq:∀ fs:List Field,fs.map (fun f=>(f.offset,f.type))=fl->(∀ f∈fs,f.name ≠ "_")->∀ d W,n<=d->(Op.eqFields d xs.toArray ys.toArray fs).run P W=.ok b W
instance eqf_nil (xs ys:List Value):EqF P [] xs ys 0 true:=⟨fun fs hf _ d W _=>by
  obtain rfl:fs=[]:=by simpa using hf
  simp [Op.eqFields]⟩
instance eqf_cons (off:Nat) (t:TypeId) (fl:List (Nat×TypeId)) (xs ys:List Value) (x y:Value) (n m:Nat) (b c:Bool) [hx:PartV P t xs off x] [hy:PartV P t ys off y] [he:EqV P t x y n b] [hr:EqF P fl xs ys m c]:EqF P ((off,t) :: fl) xs ys (n+m) (b && c):=⟨fun fs hf hn d W hd=>by
  cases fs with
  | nil=>simp at hf
  | cons f fs=>
    simp only [List.map_cons,List.cons.injEq,Prod.mk.injEq] at hf
    obtain ⟨⟨rfl,rfl⟩,hf⟩:=hf
    rw [Op.eqFields]
    have h0:=hn f (List.mem_cons_self ..)
    have h1:=hr.eq fs hf (fun g hg=>hn g (List.mem_cons_of_mem _ hg))
    simp only [Sem.run_bind,h0,ne_eq,not_false_eq_true,if_true,hx.eq,hy.eq,he.eq d W (by omega),Result.andThen_ok,Sem.run_ite]
    cases b
    · simp
    simp [h1 d W (by omega)]⟩
class StE (P:Program) (t:TypeId) (fl:outParam (List (Nat×TypeId))):Prop where ex:∃ fs,P.underlying t=some (.struct fs)/\fs.toList.map (fun f=>(f.offset,f.type))=fl/\fs.toList.all (fun f=>f.name != "_")=true/\P.stoodInHeld t=false/\P.eqGuardType P.depth t=false
instance eqv_struct (t:TypeId) (fl:List (Nat×TypeId)) (xs ys:List Value) (n:Nat) (b:Bool) [h:StE P t fl] [k:EqF P fl xs ys n b]:EqV P t (.agg xs.toArray) (.agg ys.toArray) (n+1) b:=⟨fun d W hd=>by
  obtain ⟨fs,h1,h0,h2,h3,h4⟩:=h.ex
  obtain ⟨d,rfl⟩:∃ m,d=m+1:=⟨d - 1,by omega⟩
  have e:P.fieldsOf t=fs:=by simp [Program.fieldsOf,h1]
  rw [run_equalIn_struct W d t _ _ (by rw [e];exact h1) h3,e]
  exact k.eq fs.toList h0 (fun f hf=>by simpa using List.all_eq_true.1 h2 f hf) d W (by omega)⟩
theorem v_neq_struct {x y:Operand} {t t':TypeId} {fl:List (Nat×TypeId)} {xs ys:List Value} {n:Nat} {b:Bool} [hx:EvO N τ x (.agg xs.toArray)] [hy:EvO N τ y (.agg ys.toArray)] [h:StE P t fl] [k:EqV P t (.agg xs.toArray) (.agg ys.toArray) n b] (hn:Nat.ble n 10000=true:=by rfl) :
    Val P r N S (.binOp .neq t x y t') ty τ w (.bool (!b)):=⟨fun _=>nofun,fun W _=>by
  obtain ⟨fs,h1,h0,h2,h3,h4⟩:=h.ex
  have he:=k.eq 10000 W (Nat.le_of_ble_eq_true hn)
  simp only [execOp,Sem.run_bind,hx.eq,hy.eq,run_eqGuard_agg W .neq t x y _ _ h4,run_neq_struct,he,Result.andThen_ok,Sem.run_pure]⟩
class OwnN (v:Value) (w0:World):Prop where le:∀ k,v.ownBlock=some k->w0.heap.size<=k
instance subF_own (v:Value) (S:Nat->Prop) (w0:World) [h:OwnN v w0]:SubF (OwnB v) S w0:=⟨fun k hk e=>by
  have:=h.le k (Eq.symm e)
  omega⟩
class OwnA (v:Value) (w0:outParam World):Prop where le:∀ k,v.ownBlock=some k->w0.heap.size<=k
instance ownN_A (v:Value) (w0 w:World) [h:OwnA v w0] [g:Ge w0 w]:OwnN v w:=⟨fun k hk=>Nat.le_trans g.le (h.le k hk)⟩
theorem ownA_of {w0:World} {base:Nat} {e:TypeId} {sz n:Nat} {v:Value} {xs:List Value} (h:w.ownsRow base e sz v n xs) (hb:w0.heap.size<=base):OwnA v w0:=⟨fun k hk=>Nat.le_trans hb (h.lt k hk).1⟩
theorem ownN_of {w0:World} {base:Nat} {e:TypeId} {sz n:Nat} {v:Value} {xs:List Value} (h:w.ownsRow base e sz v n xs) (hb:w0.heap.size<=base):OwnN v w0:=⟨fun k hk=>Nat.le_trans hb (h.lt k hk).1⟩
theorem run_append_any {base:Nat} {t e ty:TypeId} {i:TypeInfo} {z:Value} {sz n m c:Nat} {v:Value} {xs news:List Value} {A:Option Addr} (hu:P.underlying t=some (.slice e)) (h5:P.info? e=some i) (h8:i.zero=some z) (h6:i.size=sz) (hzs:z.cells.size=sz) (hpos:0<sz)
    (hown:w.ownsRow base e sz v n xs) (hrow:RowP w A news) (hl:news.length=m*sz) (h1:∀ u∈news,u.oneCell'=true) (hA:A.isSome=true\/m=0) (h63:n+m<=4294967296) (hbytes:(n+m)*i.bytes<=140737488355328) (hbase:base<=w.heap.size) :
    ∃ v' w',(Builtin.append_ #[t,t] ty #[v,.slice A m c]).run P w=.ok v' w'/\w'.ownsRow base e sz v' (n+m) (xs++news)/\w.grownBy w' v.ownBlock/\(v'.ownBlock=v.ownBlock\/v'.ownBlock=some w.heap.size):=by
  cases A with
  | some a=>
    have hnews:∀ j u,news[j]?=some u->w.cell? (a.add j)=some u:=fun j u hj=>by
      obtain ⟨a',ha',hc⟩:=hrow j u hj
      cases ha';exact hc
    obtain ⟨v',w',h1,h2,h3,_,h4⟩:=run_append_own_at (P:=P) w base t ty e i z sz i.bytes hu h5 h8 h6 rfl hzs hpos v n xs hown a m c news hl hnews h1 (by unfold maxLen;omega) hbytes hbase
    exact ⟨v',w',h1,h2,h3,h4⟩
  | none=>
    have hm:m=0:=hA.resolve_left (by simp)
    subst hm
    obtain rfl:news=[]:=List.eq_nil_of_length_eq_zero (by simpa using hl)
    refine ⟨v,w,?_,by simpa using hown,⟨rfl,rfl,rfl,Nat.le_refl _,fun _ _ _=>rfl⟩,.inl rfl⟩
    rcases hown.2 with ⟨rfl,rfl⟩ | ⟨g,cap,cur,rfl,_,_,hnc,_⟩
    · simp [Builtin.append_,run_underlying hu,sizeOf,typeInfo,h5,Builtin.lenOf,Builtin.firstCells]
    simp [Builtin.append_,run_underlying hu,sizeOf,typeInfo,h5,Builtin.lenOf,Builtin.firstCells,hnc,storeCells]
theorem e_append' {x y:Operand} {t e:TypeId} {base sz bytes n m c:Nat} {z:Value} {zc:Array Value} {v:Value} {xs news:List Value} {A:Option Addr} {G:Value->World->Prop} [hx:EvO N τ x v] [hy:EvO N τ y (.slice A m c)] [hu:Und P t (.slice e)] [hi:Inf P e sz bytes z] [hz:Cells z zc] [hzs:Siz zc sz]
    [hrow:Row w A news] (hown:w.ownsRow base e sz v n xs) (hbase:base<=w.heap.size) (hl:news.length=m*sz) (h1:∀ u∈news,u.oneCell'=true) (hpos:0<sz) (hA:A.isSome=true\/m=0) (h63:n+m<=4294967296) (hbytes:(n+m)*bytes<=140737488355328)
    (h:∀ (A':Option Addr) (cap':Nat) (w':World),w'.ownsRow base e sz (.slice A' (n+m) cap') (n+m) (xs++news)->Lk w' w (OwnB v)->((Value.slice A' (n+m) cap').ownBlock=v.ownBlock\/(Value.slice A' (n+m) cap').ownBlock=some w.heap.size)->G (.slice A' (n+m) cap') w') :
    EffV P N (OwnB v) (.call { callee:=.builtin .append,args:=#[x,y],argTypes:=#[t,t] }) ty τ w G:=by
  obtain ⟨i,h5,h6,h7,h8⟩:=hi.ex
  subst h7
  obtain ⟨v',w',hr,ho,hg,hw⟩:=run_append_any (P:=P) (c:=c) (ty:=ty) hu.eq h5 h8 h6 (by rw [hz.eq];exact hzs.eq) hpos hown hrow.row hl h1 hA h63 hbytes hbase
  have hk:Keep (OwnB v) w w':=Keep.of_grown hg
  obtain ⟨A',cap',rfl,_⟩:=ownsRow_form ho
  exact ⟨fun _=>nofun,_,w',by simp [execOp,resolve,invoke,builtin,hx.eq,hy.eq,hr,Result.andThen],hk,h A' cap' w' ho ⟨hk⟩ hw⟩
theorem own_mono {base base':Nat} {e:TypeId} {sz n:Nat} {v:Value} {xs:List Value} (h:w.ownsRow base e sz v n xs) (hb:base'<=base):w.ownsRow base' e sz v n xs:=
  ⟨h.1,h.2.imp id (fun ⟨g,cap,cur,h1,h2,h3⟩=>⟨g,cap,cur,h1,Nat.le_trans hb h2,h3⟩)⟩
theorem ownsRow_blk {base b:Nat} {e:TypeId} {sz n:Nat} {cs:List Value} (hb:base<=b) (h:w.heap[b]?=some (.cells cs.toArray e (0,0))) (hl:cs.length=n*sz) (hm:n<=4294967296):w.ownsRow base e sz (.slice (some ⟨b,0,none⟩) n n) n cs:=
  ⟨hl,.inr ⟨b,n,cs.toArray,rfl,hb,h,Nat.le_refl _,by unfold maxLen;omega,by simpa using hl,by simp [<- hl]⟩⟩
theorem e_buildSlice0 {t e:TypeId} {sz bytes:Nat} {z:Value} {G:Value->World->Prop} [hu:Und P t (.slice e)] [hi:Inf P e sz bytes z]
    (h:∀ (b:Nat) (w':World),New b w->Lk w' w NoB->Blk w' b (.cells #[] e (0,0))->G (.slice (some ⟨b,0,none⟩) 0 0) w'):EffV P N NoB (.buildSlice t 0 #[]) ty τ w G:=by
  obtain ⟨i,h5,h6,h7,h8⟩:=hi.ex
  obtain ⟨h1,h2,h3⟩:=new_blk (w:=w) (.cells #[] e)
  have hb:(Instr.buildSlice t 0 #[]).run P w=.ok (.slice (some ⟨w.heap.size,0,none⟩) 0 0) (w.alloc (.cells #[] e)):=by
    simp [Instr.buildSlice,run_underlying hu.eq,sizeOf,typeInfo,h5,newRow,Instr.fill,Array.range_zero']
  exact ⟨fun _=>nofun,_,_,by simp only [execOp,Sem.run_bind,List.map_toArray,List.map_nil,hb,Result.andThen_ok,Sem.run_pure],h2.keep,h _ _ h1 h2 h3⟩
class Zip (s:Nat) (l:List (Nat×Value)) (vs:outParam (List Value)):Prop where eq:l=(vs.zipIdx s).map (fun p=>(p.2,p.1))/\∀ u∈vs,u.oneCell'=true
instance zip_nil (s:Nat):Zip s [] []:=⟨rfl,by simp⟩
instance zip_cons (s i:Nat) (v:Value) (l:List (Nat×Value)) (vs:List Value) [h:EqN i s] [h1:Cell1 v] [k:Zip (s+1) l vs]:Zip s ((i,v) :: l) (v :: vs):=⟨by rw [h.eq,k.eq.1];rfl,by
  intro u hu
  rcases List.mem_cons.1 hu with rfl | hu
  · exact h1.eq
  exact k.eq.2 u hu⟩
theorem setMany_all:∀ (l:List Value) (pre:List Value) (cs:Array Value),cs.size=pre.length+l.length->(∀ k,k<pre.length->cs[k]?=pre[k]?)->setMany cs pre.length l=(pre++l).toArray
  | [],pre,cs,h1,h2=>by
    apply Array.ext_getElem?
    intro k
    by_cases hk:k<pre.length
    · simpa [setMany] using h2 k hk
    have:cs.size<=k:=by rw [h1];simp;omega
    simp only [setMany]
    rw [Array.getElem?_eq_none this,Array.getElem?_eq_none (by simp;omega)]
  | a :: l,pre,cs,h1,h2=>by
    rw [setMany]
    have:=setMany_all l (pre++[a]) (cs.setIfInBounds pre.length a) (by simp [h1];omega) (fun k hk=>by
      by_cases hkp:k=pre.length
      · subst hkp
        have hlt:pre.length<cs.size:=by rw [h1];simp
        simp [hlt]
      have hk':k<pre.length:=by simp at hk;omega
      rw [Array.getElem?_setIfInBounds_ne (Ne.symm hkp),h2 k hk',List.getElem?_append_left hk'])
    simpa using this
theorem cells_one {v:Value} (h:v.oneCell'=true):v.cells=#[v]:=by cases v<;>simp_all [Value.oneCell',Value.cells]
theorem fill_zip:∀ (vs:List Value) (s:Nat) (cs:Array Value),s+vs.length<=cs.size->(∀ u∈vs,u.oneCell'=true)->Instr.fill (fun j=>some (j*1,1)) cs ((vs.zipIdx s).map (fun p=>(p.2,p.1)))=some (setMany cs s vs)
  | [],_,cs,_,_=>rfl
  | v :: vs,s,cs,h,h1=>by
    have h2:s+(vs.length+1)<=cs.size:=by simpa using h
    rw [List.zipIdx_cons,List.map_cons,fill_cons (cs:=cs) (vs:=[v]) (off:=s*1) (sz:=1) rfl (cells_one (h1 v (List.mem_cons_self ..))) rfl (by simp;omega)]
    rw [Nat.mul_one]
    exact fill_zip vs (s+1) _ (by simp [setMany];omega) (fun u hu=>h1 u (List.mem_cons_of_mem _ hu))
theorem e_buildSliceN {t e:TypeId} {parts:List (Nat×Operand)} {vsI:List (Nat×Value)} {vs:List Value} {bytes:Nat} {z:Value} {m n:Nat} {G:Value->World->Prop} [hv:EvP N τ parts vsI] [hzp:Zip 0 vsI vs] [hu:Und P t (.slice e)] [hi:Inf P e 1 bytes z] [hn:LenL vs n] [he:EqN n m] (hpos:(Nat.ble 1 m && Nat.ble m 1000)=true)
    (h:∀ (b:Nat) (w':World),New b w->Lk w' w NoB->Blk w' b (.cells vs.toArray e (0,0))->G (.slice (some ⟨b,0,none⟩) m m) w'):EffV P N NoB (.buildSlice t m parts.toArray) ty τ w G:=by
  obtain ⟨i,h5,h6,h7,h8⟩:=hi.ex
  have hm:=he.eq;subst hm
  simp only [Bool.and_eq_true,Nat.ble_eq] at hpos
  obtain ⟨h1,h2,h3⟩:=new_blk (w:=w) (.cells vs.toArray e)
  refine ⟨fun _=>nofun,_,_,?_,h2.keep,h _ _ h1 h2 h3⟩
  have hfill:Instr.fill (fun j=>some (j*i.size,i.size)) ((Array.range (n*i.size)).map (z.cells[· % z.cells.size]!)) vsI=some vs.toArray:=by
    rw [h6,hzp.eq.1,fill_zip vs 0 _ (by simp [hn.eq]) hzp.eq.2]
    congr 1
    have:=setMany_all vs [] ((Array.range (n*1)).map (z.cells[· % z.cells.size]!)) (by simp [hn.eq]) (by simp)
    simpa using this
  have hb:=Go.run_buildSlice (P:=P) w t e n vsI.toArray vs.toArray i z hu.eq h5 h8 (by rw [h6];omega) (by rw [h6];omega) (by simpa using hfill)
  have e1:(parts.toArray.map fun (x:Nat×Operand)=>(x.1,evO N τ x.2))=vsI.toArray:=by simp [hv.eq]
  simp only [execOp,Sem.run_bind,e1,hb,Result.andThen_ok,Sem.run_pure]
theorem run_makeSlice0 {t e:TypeId} {i:TypeInfo} {z:Value} (hu:P.underlying t=some (.slice e)) (h5:P.info? e=some i) (h8:i.zero=some z) {n c:Nat} (hnc:n<=c) (hc:c<=4294967296) (hb:c*i.bytes<=140737488355328) :
    (Instr.makeSlice t (.int .i64 (n:Int)) (.int .i64 (c:Int))).run P w=.ok (.slice (some ⟨w.heap.size,0,none⟩) n c) (w.alloc (.cells (madeCells z.cells (c*i.size)) e)):=by
  have h1:((c*i.bytes:Nat):Int)<=140737488355328:=by omega
  rw [Int.natCast_mul,Int.mul_comm] at h1
  have:=run_make (P:=P) w t e i z hu h5 h8 .i64 .i64 (n:Int) (c:Int) (by omega) (by omega) (by omega) (by omega)
  simpa using this
theorem e_makeMap {t:TypeId} {G:Value->World->Prop} (h:∀ (b:Nat) (w':World),New b w->Lk w' w NoB->Blk w' b (.map #[] 0)->G (.map (some b)) w'):EffV P N NoB (.makeMap t none) ty τ w G:=by
  obtain ⟨k1,k2,k3⟩:=new_blk (w:=w) (.map #[] 0)
  have hr:(Instr.makeMap t none).run P w=.ok (.map (some w.heap.size)) (w.alloc (.map #[] 0)):=rfl
  exact ⟨fun _=>nofun,_,_,by simp only [execOp,Sem.run_bind,Option.map_none,hr,Result.andThen_ok,Sem.run_pure],k2.keep,h _ _ k1 k2 k3⟩
theorem e_storeB {t e:TypeId} {x y:Operand} {b j bytes:Nat} {z:Value} {cs:Array Value} {G:World->Prop} [hx:EvO N τ x (padd (some ⟨b,0,none⟩) j)] [hy:EvO N τ y v] [h1:Cell1 v] [hi:Inf P t 1 bytes z]
    [hb:Blk w b (.cells cs e (0,0))] (hlt:j<cs.size) (h:∀ w',Lk w' w (OneB b)->Blk w' b (.cells (cs.setIfInBounds j v) e (0,0))->G w'):EffS P N (OneB b) (.store t x y) ty τ w G:=by
  obtain ⟨i,h5,h6,h7,h8⟩:=hi.ex
  have ha:(⟨b,0,none⟩:Addr).add j=⟨b,j,none⟩:=by rw [add_none];simp
  have hcell:w.cell? ⟨b,j,none⟩=some cs[j]:=by rw [cell_of_blk hb.eq];exact Array.getElem?_eq_getElem hlt
  have hfr:w.frozen? ⟨b,j,none⟩=false:=by have:=hb.eq;simp [World.frozen?,this]
  have hcells:=cells_one h1.eq
  have hst:=run_store P w ⟨b,j,none⟩ v .plain h1.eq
  refine ⟨fun _=>nofun,w.setCell ⟨b,j,none⟩ v,?_,keep_setCell b j v,h _ ⟨keep_setCell b j v⟩ ⟨blk_setCell hb.eq rfl⟩⟩
  have ha0:(⟨b,j,none⟩:Addr).add 0=⟨b,j,none⟩:=rfl
  simp [execOp,hx.eq,hy.eq,padd,ha,Instr.storeAt,Instr.sureAddr,storeVar,hcells,sizeOf,typeInfo,program,Sem.run,h5,h6,storeCells,ha0,hst,hcell,hfr]
theorem run_storeMany {b:Nat} {e:TypeId}:∀ (vs:List Value) (o i:Nat) (cs:Array Value) (W:World),W.heap[b]?=some (.cells cs e (0,0))->(∀ u∈vs,u.oneCell'=true)->o+i+vs.length<=cs.size ->
    ∃ W',(storeCells ⟨b,o,none⟩ vs i).run P W=.ok () W'/\Keep (OneB b) W W'/\W'.heap[b]?=some (.cells (setMany cs (o+i) vs) e (0,0))
  | [],o,i,cs,W,hb,_,_=>⟨W,by simp [storeCells],Keep.refl _ _,by simpa [setMany] using hb⟩
  | v :: vs,o,i,cs,W,hb,h1,hl=>by
    have hlt:o+i<cs.size:=by simp at hl;omega
    have hcell:W.cell? ⟨b,o+i,none⟩=some cs[o+i]:=by rw [cell_of_blk hb];exact Array.getElem?_eq_getElem hlt
    have hfr:W.frozen? ⟨b,o+i,none⟩=false:=by simp [World.frozen?,hb]
    have hst:=run_store P W ⟨b,o+i,none⟩ v .plain (h1 v (List.mem_cons_self ..))
    have hb':(W.setCell ⟨b,o+i,none⟩ v).heap[b]?=some (.cells (cs.setIfInBounds (o+i) v) e (0,0)):=blk_setCell hb rfl
    obtain ⟨W',h2,h3,h4⟩:=run_storeMany vs o (i+1) _ _ hb' (fun u hu=>h1 u (List.mem_cons_of_mem _ hu)) (by simp at hl ⊢;omega)
    refine ⟨W',?_,(keep_setCell b (o+i) v).trans h3,by rw [setMany];simpa [Nat.add_assoc] using h4⟩
    simp [storeCells,add_none,hst,hcell,hfr,h2]
theorem e_storeA {t e:TypeId} {x y:Operand} {b off sz bytes n:Nat} {z:Value} {vs:List Value} {cs cs':Array Value} {G:World->Prop} [hx:EvO N τ x (.pointer (some ⟨b,off,none⟩))] [hy:EvO N τ y (.agg vs.toArray)] [h1:Cell1L vs] [hi:Inf P t sz bytes z] [hn:LenL vs n] [he:EqN n sz]
    [hb:Blk w b (.cells cs e (0,0))] [hc:CsPut cs off vs cs'] (h:∀ w',Lk w' w (OneB b)->Blk w' b (.cells cs' e (0,0))->G w'):EffS P N (OneB b) (.store t x y) ty τ w G:=by
  obtain ⟨i,h5,h6,h7,h8⟩:=hi.ex
  obtain ⟨e1,e2⟩:=hc.eq
  obtain ⟨W',h2,h3,h4⟩:=run_storeMany (P:=P) vs off 0 cs w hb.eq h1.eq (by simpa using e2)
  have hsz:vs.toArray.size=i.size:=by rw [h6,<- he.eq,<- hn.eq];simp
  refine ⟨fun _=>nofun,W',?_,h3,h W' ⟨h3⟩ ⟨by rw [h4,<- e1];rfl⟩⟩
  simp [execOp,hx.eq,hy.eq,Instr.storeAt,Instr.sureAddr,storeVar,Value.cells,sizeOf,typeInfo,program,Sem.run,h5,hsz,h2]
end laws
section maps
variable {κ:Type} [DecidableEq κ]
def akey {α:Type} (l:List (κ×α)) (k:κ):Option α:=(l.find? (fun p=>decide (p.1=k))).map (·.2)
def aput {α:Type} (l:List (κ×α)) (k:κ) (v:α):List (κ×α):=if l.any (fun p=>decide (p.1=k)) then l.map (fun p=>if p.1=k then (k,v) else p) else l++[(k,v)]
def adel {α:Type} (l:List (κ×α)) (k:κ):List (κ×α):=l.filter (fun p=>!decide (p.1=k))
def keyKind:TypeDesc->Bool | .int _=>true | .string=>true | _=>false
class KeyE (P:Program) (kt:TypeId) (enc:κ->Value):Prop where ex:∃ d,P.underlying kt=some d/\(∀ a b,Instr.sameNow d (enc a) (enc b)=some (decide (a=b)))/\(∀ a n,Instr.sameBits n (enc a) (enc a)=true)/\keyKind d=true
instance keyE_string (P:Program) (kt:TypeId) [h:Und P kt .string]:KeyE P kt Value.string:=⟨_,h.eq,fun a b=>by
  have e:(a == b)=decide (a=b):=by
    rw [beq_toListBytes,beq_dec];congr 1;rw [eq_iff_iff]
    exact ⟨fun h=>ByteArray.ext (by have:=congrArg List.toArray h;simpa [ByteArray.toList_eq] using this),fun h=>by rw [h]⟩
  simp [Instr.sameNow,e],fun a n=>by
  have e:(a == a)=true:=by rw [beq_toListBytes];exact beq_self_eq_true _
  simp [Instr.sameBits,e],rfl⟩
def MapB (w:World) (b:Nat) (enc:κ->Value) (kvs:List (κ×Value)):Prop:=
  ∃ es clock,w.heap[b]?=some (.map es clock)/\es.toList.map (fun e=>(e.key,e.val))=kvs.map (fun p=>(enc p.1,p.2))/\(∀ e∈es.toList,e.born<clock)/\(es.toList.map (·.born)).Nodup/\(kvs.map (·.1)).Nodup
class MapI (w:World) (b:Nat) (κ:outParam Type) (enc:outParam (κ->Value)) (kvs:outParam (List (κ×Value))):Prop where m:MapB w b enc kvs
theorem MapB.keep {w w':World} {b:Nat} {enc:κ->Value} {kvs:List (κ×Value)} {S:Nat->Prop} (h:MapB w b enc kvs) (hk:Keep S w w') (hs:¬ S b):MapB w' b enc kvs:=by
  obtain ⟨es,clock,h1,h2⟩:=h
  exact ⟨es,clock,(hk.block b (Array.getElem?_eq_some_iff.1 h1).1 hs).trans h1,h2⟩
instance mapI_lk (w' w:World) (S:Nat->Prop) (b:Nat) (κ:Type) [DecidableEq κ] (enc:κ->Value) (kvs:List (κ×Value)) [l:Lk w' w S] [n:NotS S b] [h:MapI w b κ enc kvs]:MapI w' b κ enc kvs:=⟨h.m.keep l.keep n.not⟩
theorem MapB.lt {w:World} {b:Nat} {enc:κ->Value} {kvs:List (κ×Value)} (h:MapB w b enc kvs):b<w.heap.size:=by
  obtain ⟨es,clock,h1,_⟩:=h
  exact (Array.getElem?_eq_some_iff.1 h1).1
instance has_map (w:World) (b:Nat) (κ:Type) [DecidableEq κ] (enc:κ->Value) (kvs:List (κ×Value)) [h:MapI w b κ enc kvs]:Has w b:=⟨h.m.lt⟩
theorem mapB_made {w:World} {b:Nat} (enc:κ->Value) (h:Blk w b (.map #[] 0)):MapB w b enc []:=⟨_,_,h.eq,rfl,by simp,by simp,by simp⟩
theorem find_now {d:TypeDesc} {enc:κ->Value} (hs:∀ a b,Instr.sameNow d (enc a) (enc b)=some (decide (a=b))) (k:κ):∀ (es:List MapEntry) (kvs:List (κ×Value)) (i:Nat),es.map (fun e=>(e.key,e.val))=kvs.map (fun p=>(enc p.1,p.2)) ->
    (akey kvs k=none/\Instr.findNow d (enc k) es i=some none/\kvs.any (fun p=>decide (p.1=k))=false) \/
    (∃ j v,akey kvs k=some v/\Instr.findNow d (enc k) es i=some (some (i+j,v))/\kvs[j]?=some (k,v)/\(∀ m p,m<j->kvs[m]?=some p->p.1≠k))
  | [],[],i,_=>.inl ⟨rfl,rfl,rfl⟩
  | [],_ :: _,_,h=>by simp at h
  | _ :: _,[],_,h=>by simp at h
  | e :: es,(k',v) :: kvs,i,h=>by
    simp only [List.map_cons,List.cons.injEq,Prod.mk.injEq] at h
    obtain ⟨⟨h1,h2⟩,h3⟩:=h
    by_cases hk:k=k'
    · subst hk
      refine .inr ⟨0,v,by simp [akey],?_,rfl,fun m p hm=>by omega⟩
      simp [Instr.findNow,h1,hs,h2]
    have hk':¬ k'=k:=fun e=>hk e.symm
    have hn:Instr.findNow d (enc k) (e :: es) i=Instr.findNow d (enc k) es (i+1):=by simp [Instr.findNow,h1,hs,hk]
    rw [hn]
    rcases find_now hs k es kvs (i+1) h3 with ⟨h4,h5,h6⟩ | ⟨j,u,h4,h5,h6,h7⟩
    · exact .inl ⟨by simpa [akey,hk'] using h4,h5,by simp [hk',h6]⟩
    refine .inr ⟨j+1,u,by simpa [akey,hk'] using h4,by rw [h5];congr 3;omega,by simpa using h6,fun m p hm hp=>?_⟩
    cases m with
    | zero=>simp at hp;subst hp;exact hk'
    | succ m=>exact h7 m p (by omega) (by simpa using hp)
section mlaws
variable {P:Program} {r:Option Nat} {N:Nat} {S T:Nat->Prop} {τ:Tau} {w:World} {ty:TypeId} {enc:κ->Value} {kvs:List (κ×Value)} {b:Nat} {kt et t:TypeId}
theorem run_chk {kt:TypeId} {d:TypeDesc} (hu:P.underlying kt=some d) (hd:keyKind d=true) (e:Bool) (v:Value) (W:World):(Instr.checkKey e 10000 kt v).run P W=.ok () W:=by
  have h0:∀ n,(Instr.checkKey e (n+1) kt v).run P W=.ok () W:=fun n=>by
    cases d<;>simp [keyKind] at hd<;>simp [Instr.checkKey,run_underlying hu]
  exact h0 9999
theorem run_findKey {kt:TypeId} [hk:KeyE P kt enc] {es:List MapEntry} (hm:es.map (fun e=>(e.key,e.val))=kvs.map (fun p=>(enc p.1,p.2))) (k:κ) (W:World) :
    (akey kvs k=none/\(Instr.findKey kt (enc k) es).run P W=.ok none W/\kvs.any (fun p=>decide (p.1=k))=false) \/
    (∃ j v,akey kvs k=some v/\(Instr.findKey kt (enc k) es).run P W=.ok (some (j,v)) W/\kvs[j]?=some (k,v)/\(∀ m p,m<j->kvs[m]?=some p->p.1≠k)):=by
  obtain ⟨d,hu,hs,hb,hd⟩:=hk.ex
  rcases find_now hs k es kvs 0 hm with ⟨h4,h5,h6⟩ | ⟨j,u,h4,h5,h6⟩
  · exact .inl ⟨h4,by simp [Instr.findKey,run_underlying hu,h5],h6⟩
  exact .inr ⟨j,u,h4,by simp [Instr.findKey,run_underlying hu,h5],h6⟩
theorem run_lookup [hk:KeyE P kt enc] {sz bytes:Nat} {z:Value} (hu:P.underlying t=some (.map kt et)) (hi:Inf P et sz bytes z) (hb:MapB w b enc kvs) (k:κ) (c:Bool) :
    (Instr.lookup t (.map (some b)) (enc k) c).run P w=.ok (if c then .tuple #[(akey kvs k).getD z,.bool (akey kvs k).isSome] else (akey kvs k).getD z) w:=by
  obtain ⟨es,clock,h1,h2,_⟩:=hb
  obtain ⟨d,hd,_,_,hd2⟩:=hk.ex
  obtain ⟨i,h5,h6,h7,h8⟩:=hi.ex
  have hg:(getObj b).run P w=.ok (.map es clock) w:=by simp [getObj,Sem.run,h1]
  rcases run_findKey (P:=P) (kt:=kt) h2 k w with ⟨h4,h5',_⟩ | ⟨j,u,h4,h5',_⟩
  · simp [Instr.lookup,run_underlying hu,hg,run_chk hd hd2,h5',h4,zeroValue,typeInfo,program,Sem.run,h5,h8,Result.andThen]
  simp [Instr.lookup,run_underlying hu,hg,run_chk hd hd2,h5',h4,Result.andThen]
theorem v_lookup2 {x y:Operand} {sz bytes:Nat} {z u:Value} (k:κ) [hx:EvO N τ x (.map (some b))] [hy:EvO N τ y u] [hu:Und P t (.map kt et)] [hm:MapI w b κ enc kvs] [hk:KeyE P kt enc] [hi:Inf P et sz bytes z] [hs:NotS S b] (he:u=enc k:=by rfl) :
    Val P r N S (.lookup t x y true) ty τ w (.tuple #[(akey kvs k).getD z,.bool (akey kvs k).isSome]):=⟨fun _=>nofun,fun W hW=>by
  have:=run_lookup (P:=P) (kt:=kt) hu.eq hi (MapB.keep hm.m hW hs.not) k true
  simp [execOp,hx.eq,hy.eq,he,this]⟩
theorem v_lookup1 {x y:Operand} {sz bytes:Nat} {z u:Value} (k:κ) [hx:EvO N τ x (.map (some b))] [hy:EvO N τ y u] [hu:Und P t (.map kt et)] [hm:MapI w b κ enc kvs] [hk:KeyE P kt enc] [hi:Inf P et sz bytes z] [hs:NotS S b] (he:u=enc k:=by rfl) :
    Val P r N S (.lookup t x y false) ty τ w ((akey kvs k).getD z):=⟨fun _=>nofun,fun W hW=>by
  have:=run_lookup (P:=P) (kt:=kt) hu.eq hi (MapB.keep hm.m hW hs.not) k false
  simp [execOp,hx.eq,hy.eq,he,this]⟩
theorem keep_setObj (b:Nat) (o:Obj):Keep (OneB b) w { w with heap:=w.heap.setIfInBounds b o }:=⟨rfl,rfl,rfl,by simp,fun k _ hk=>by
  have:¬ b=k:=fun e=>hk e.symm
  simp [Array.getElem?_setIfInBounds,this]⟩
theorem map_modify {enc:κ->Value} {v:Value}:∀ (es:List MapEntry) (kvs:List (κ×Value)) (j:Nat) (k:κ) (u:Value),es.map (fun e=>(e.key,e.val))=kvs.map (fun p=>(enc p.1,p.2))->kvs[j]?=some (k,u) ->
    (es.modify j (fun e=>{ e with key:=enc k,val:=v })).map (fun e=>(e.key,e.val))=(kvs.set j (k,v)).map (fun p=>(enc p.1,p.2))
  | [],[],_,_,_,_,h=>by simp at h
  | [],_ :: _,_,_,_,h,_=>by simp at h
  | _ :: _,[],_,_,_,h,_=>by simp at h
  | e :: es,p :: kvs,0,k,u,h,hj=>by
    simp only [List.map_cons,List.cons.injEq] at h
    simp [h.2]
  | e :: es,p :: kvs,j+1,k,u,h,hj=>by
    simp only [List.map_cons,List.cons.injEq] at h
    simp only [List.modify_succ_cons,List.map_cons,List.set_cons_succ,List.cons.injEq]
    exact ⟨h.1,map_modify es kvs j k u h.2 (by simpa using hj)⟩
theorem nodup_at {β:Type} {l:List β} (h:l.Nodup) {i j:Nat} (hi:i<l.length) (hj:j<l.length) (e:l[i]=l[j]):i=j:=by
  have h1:=List.pairwise_iff_getElem.1 h
  rcases Nat.lt_trichotomy i j with h2 | h2 | h2
  · exact absurd e (h1 i j hi hj h2)
  · exact h2
  exact absurd e.symm (h1 j i hj hi h2)
theorem aput_at {α:Type}:∀ (kvs:List (κ×α)) (j:Nat) (k:κ) (u v:α),kvs[j]?=some (k,u)->(∀ m p,m<j->kvs[m]?=some p->p.1≠k)->(kvs.map (·.1)).Nodup->aput kvs k v=kvs.set j (k,v):=by
  intro kvs j k u v hj hlt hnd
  have hany:kvs.any (fun p=>decide (p.1=k))=true:=List.any_eq_true.2 ⟨_,List.mem_of_getElem? hj,by simp⟩
  rw [aput,if_pos hany]
  apply List.ext_getElem?
  intro m
  simp only [List.getElem?_map,List.getElem?_set]
  by_cases hm:j=m
  · subst hm
    obtain ⟨hjl,he⟩:=List.getElem?_eq_some_iff.1 hj
    simp [hjl,he]
  rw [if_neg hm]
  cases hp:kvs[m]? with
  | none=>rfl
  | some p=>
    have hne:p.1≠k:=fun e=>by
      have h1:(kvs.map (·.1))[j]?=some k:=by simp [hj]
      have h2:(kvs.map (·.1))[m]?=some k:=by simp [hp,e]
      obtain ⟨l1,e1⟩:=List.getElem?_eq_some_iff.1 h1
      obtain ⟨l2,e2⟩:=List.getElem?_eq_some_iff.1 h2
      exact hm (nodup_at hnd l1 l2 (e1.trans e2.symm))
    simp [hne]
theorem aput_none {α:Type} {kvs:List (κ×α)} {k:κ} (v:α) (h:kvs.any (fun p=>decide (p.1=k))=false):aput kvs k v=kvs++[(k,v)]:=by rw [aput,if_neg (by simp [h])]
theorem keys_aput {α:Type} {kvs:List (κ×α)} {k:κ} {v:α}:(aput kvs k v).map (·.1)=if kvs.any (fun p=>decide (p.1=k)) then kvs.map (·.1) else kvs.map (·.1)++[k]:=by
  unfold aput
  split
  · rw [List.map_map]
    apply List.map_congr_left
    intro p _
    simp only [Function.comp]
    split<;>simp_all
  simp
theorem nodup_aput {α:Type} {kvs:List (κ×α)} {k:κ} {v:α} (h:(kvs.map (·.1)).Nodup):((aput kvs k v).map (·.1)).Nodup:=by
  rw [keys_aput]
  split
  · exact h
  rename_i hn
  simp only [Bool.not_eq_true,List.any_eq_false,decide_eq_true_eq] at hn
  rw [List.nodup_append]
  refine ⟨h,by simp,?_⟩
  intro a ha b hb
  simp only [List.mem_singleton] at hb
  subst hb
  obtain ⟨p,hp,rfl⟩:=List.mem_map.1 ha
  exact hn p hp
theorem born_modify (f:MapEntry->MapEntry) (hf:∀ e,(f e).born=e.born):∀ (es:List MapEntry) (j:Nat),(es.modify j f).map (·.born)=es.map (·.born)
  | [],_=>by simp
  | e :: es,0=>by simp [hf]
  | e :: es,j+1=>by simp [born_modify f hf es j]
theorem run_mapUpdate [hk:KeyE P kt enc] (hu:P.underlying t=some (.map kt et)) (hb:MapB w b enc kvs) (k:κ) (v:Value) :
    ∃ w',(Instr.mapUpdate t (.map (some b)) (enc k) v).run P w=.ok () w'/\Keep (OneB b) w w'/\MapB w' b enc (aput kvs k v):=by
  obtain ⟨es,clock,h1,h2,h3,h4,h5⟩:=hb
  obtain ⟨d,hd,_,hbits,hd2⟩:=hk.ex
  have hg:(getObj b).run P w=.ok (.map es clock) w:=by simp [getObj,Sem.run,h1]
  have hset:∀ o,(setObj b o).run P w=.ok () { w with heap:=w.heap.setIfInBounds b o }:=fun o=>by simp [setObj,Sem.run,h1]
  have hblt:=(Array.getElem?_eq_some_iff.1 h1).1
  rcases run_findKey (P:=P) (kt:=kt) h2 k w with ⟨h6,h7,h8⟩ | ⟨j,u,h6,h7,h8,h9⟩
  · refine ⟨_,?_,keep_setObj b (.map (es.push { key:=enc k,val:=v,born:=clock }) (clock+1)),es.push { key:=enc k,val:=v,born:=clock },clock+1,by simp [hblt],?_,?_,?_,nodup_aput h5⟩
    · simp [Instr.mapUpdate,run_underlying hu,hg,run_chk hd hd2,h7,hset,Result.andThen]
    · rw [aput_none v h8];simp [h2]
    · intro e he
      simp only [Array.toList_push,List.mem_append,List.mem_singleton] at he
      rcases he with he | rfl
      · exact Nat.lt_succ_of_lt (h3 e he)
      exact Nat.lt_succ_self _
    simp only [Array.toList_push,List.map_append,List.map_cons,List.map_nil]
    rw [List.nodup_append]
    refine ⟨h4,by simp,?_⟩
    intro a ha b' hb'
    simp only [List.mem_singleton] at hb'
    obtain ⟨e,he,rfl⟩:=List.mem_map.1 ha
    have:=h3 e he
    omega
  have hkey:((es[j]?).map (·.key)).getD (enc k)=enc k:=by
    have:=congrArg (fun l=>l[j]?) h2
    simp only [List.getElem?_map,h8,Option.map_some,Array.getElem?_toList] at this
    cases he:es[j]? with
    | none=>rfl
    | some e=>simp [he] at this;simp [this.1]
  have hstay:(Instr.keyThatStays (enc k) (enc k)).run P w=.ok (enc k) w:=by simp [Instr.keyThatStays,hbits]
  refine ⟨_,?_,keep_setObj b (.map (es.modify j fun e=>{ e with key:=enc k,val:=v }) clock),es.modify j fun e=>{ e with key:=enc k,val:=v },clock,by simp [hblt],?_,?_,?_,nodup_aput h5⟩
  · simp [Instr.mapUpdate,run_underlying hu,hg,run_chk hd hd2,h7,hset,hkey,hstay,Result.andThen]
  · rw [aput_at kvs j k u v h8 h9 h5]
    have:=map_modify (v:=v) es.toList kvs j k u h2 h8
    simpa using this
  · intro e he
    have hbn:=born_modify (fun e=>{ e with key:=enc k,val:=v }) (fun _=>rfl) es.toList j
    have:e.born∈es.toList.map (·.born):=by
      rw [<- hbn]
      exact List.mem_map.2 ⟨e,by simpa using he,rfl⟩
    obtain ⟨e',he',hbe⟩:=List.mem_map.1 this
    have:=h3 e' he'
    omega
  have hbn:=born_modify (fun e=>{ e with key:=enc k,val:=v }) (fun _=>rfl) es.toList j
  have e1:(es.modify j fun e=>{ e with key:=enc k,val:=v }).toList=es.toList.modify j fun e=>{ e with key:=enc k,val:=v }:=by simp
  rw [e1,hbn];exact h4
theorem e_mapUpdate {x y q:Operand} {u:Value} {v:Value} (k:κ) {G:World->Prop} [hx:EvO N τ x (.map (some b))] [hy:EvO N τ y u] [hq:EvO N τ q v] [hu:Und P t (.map kt et)] [hm:MapI w b κ enc kvs] [hk:KeyE P kt enc] (he:u=enc k)
    (h:∀ w',Lk w' w (OneB b)->MapI w' b κ enc (aput kvs k v)->G w'):EffS P N (OneB b) (.mapUpdate t x y q) ty τ w G:=by
  obtain ⟨w',h1,h2,h3⟩:=run_mapUpdate (P:=P) (kt:=kt) hu.eq hm.m k v
  exact ⟨fun _=>nofun,w',by simp [execOp,hx.eq,hy.eq,hq.eq,he,h1,Result.andThen],h2,h w' ⟨h2⟩ ⟨h3⟩⟩
theorem adel_at {α:Type}:∀ (kvs:List (κ×α)) (j:Nat) (k:κ) (u:α),kvs[j]?=some (k,u)->(kvs.map (·.1)).Nodup->adel kvs k=kvs.eraseIdx j
  | [],_,_,_,h,_=>by simp at h
  | p :: kvs,0,k,u,h,hnd=>by
    simp only [List.getElem?_cons_zero,Option.some.injEq] at h
    subst h
    simp only [List.map_cons,List.nodup_cons] at hnd
    simp only [adel,List.filter_cons,decide_true,Bool.not_true,Bool.false_eq_true,if_false,List.eraseIdx_cons_zero]
    rw [List.filter_eq_self]
    intro q hq
    have:q.1≠k:=fun e=>hnd.1 (e ▸ List.mem_map.2 ⟨q,hq,rfl⟩)
    simp [this]
  | p :: kvs,j+1,k,u,h,hnd=>by
    simp only [List.map_cons,List.nodup_cons] at hnd
    have hj:kvs[j]?=some (k,u):=by simpa using h
    have hp:p.1≠k:=fun e=>hnd.1 (e ▸ List.mem_map.2 ⟨_,List.mem_of_getElem? hj,rfl⟩)
    have ih:=adel_at kvs j k u hj hnd.2
    rw [List.eraseIdx_cons_succ,<- ih]
    simp [adel,hp]
theorem adel_none {α:Type} {kvs:List (κ×α)} {k:κ} (h:kvs.any (fun p=>decide (p.1=k))=false):adel kvs k=kvs:=by
  rw [adel,List.filter_eq_self]
  intro p hp
  have:=List.any_eq_false.1 h p hp
  simpa using this
theorem toList_erase {α:Type} (es:Array α) (j:Nat):(es.eraseIdxIfInBounds j).toList=es.toList.eraseIdx j:=by
  unfold Array.eraseIdxIfInBounds
  split
  · exact Array.toList_eraseIdx ..
  rw [List.eraseIdx_of_length_le (by simp;omega)]
theorem map_erase {α β:Type} (f:α->β):∀ (l:List α) (j:Nat),(l.eraseIdx j).map f=(l.map f).eraseIdx j
  | [],_=>by simp
  | _ :: _,0=>by simp
  | x :: l,j+1=>by simp [map_erase f l j]
theorem run_delete [hk:KeyE P kt enc] (hu:P.underlying t=some (.map kt et)) (hb:MapB w b enc kvs) (k:κ) (at2:TypeId) :
    ∃ w',(Builtin.delete_ #[t,at2] ty #[.map (some b),enc k]).run P w=.ok (.tuple #[]) w'/\Keep (OneB b) w w'/\MapB w' b enc (adel kvs k):=by
  obtain ⟨es,clock,h1,h2,h3,h4,h5⟩:=hb
  obtain ⟨d,hd,_,hbits,hd2⟩:=hk.ex
  have hg:(getObj b).run P w=.ok (.map es clock) w:=by simp [getObj,Sem.run,h1]
  have hset:∀ o,(setObj b o).run P w=.ok () { w with heap:=w.heap.setIfInBounds b o }:=fun o=>by simp [setObj,Sem.run,h1]
  have hblt:=(Array.getElem?_eq_some_iff.1 h1).1
  rcases run_findKey (P:=P) (kt:=kt) h2 k w with ⟨h6,h7,h8⟩ | ⟨j,u,h6,h7,h8,h9⟩
  · refine ⟨_,?_,keep_setObj b (.map es clock),es,clock,by simp [hblt],by rw [adel_none h8];exact h2,h3,h4,by rw [adel_none h8];exact h5⟩
    simp [Builtin.delete_,run_underlying hu,hg,run_chk hd hd2,h7,hset,Result.andThen]
  refine ⟨_,?_,keep_setObj b (.map (es.eraseIdxIfInBounds j) clock),es.eraseIdxIfInBounds j,clock,by simp [hblt],?_,?_,?_,?_⟩
  · simp [Builtin.delete_,run_underlying hu,hg,run_chk hd hd2,h7,hset,Result.andThen]
  · rw [adel_at kvs j k u h8 h5,toList_erase,map_erase,map_erase,h2]
  · intro e he
    rw [toList_erase] at he
    exact h3 e (List.mem_of_mem_eraseIdx he)
  · rw [toList_erase,map_erase]
    exact h4.sublist (List.eraseIdx_sublist _ _)
  rw [adel_at kvs j k u h8 h5,map_erase]
  exact h5.sublist (List.eraseIdx_sublist _ _)
theorem e_delete {x y:Operand} {at2:TypeId} {u:Value} (k:κ) {G:Value->World->Prop} [hx:EvO N τ x (.map (some b))] [hy:EvO N τ y u] [hu:Und P t (.map kt et)] [hm:MapI w b κ enc kvs] [hk:KeyE P kt enc] (he:u=enc k)
    (h:∀ w',Lk w' w (OneB b)->MapI w' b κ enc (adel kvs k)->G (.tuple #[]) w'):EffV P N (OneB b) (.call { callee:=.builtin .delete,args:=#[x,y],argTypes:=#[t,at2] }) ty τ w G:=by
  obtain ⟨w',h1,h2,h3⟩:=run_delete (P:=P) (kt:=kt) (ty:=ty) hu.eq hm.m k at2
  exact ⟨fun _=>nofun,_,w',by simp [execOp,resolve,invoke,builtin,hx.eq,hy.eq,he,h1,Result.andThen],h2,h w' ⟨h2⟩ ⟨h3⟩⟩
end mlaws
end maps
section laws
variable {P:Program} {r:Option Nat} {N:Nat} {S T:Nat->Prop} {Q:Post} {τ:Tau} {ds:List Deferred} {w:World} {ty:TypeId} {ops:Array Oper} {rest:List Oper} {pos:String} {aft:Array Edge} {d:Nat} {v:Value} {op:Op}
theorem v_eql_pointerS {x:Operand} {t e t':TypeId} {a:Addr} [hx:EvO N τ x (.pointer (some a))] [hu:Und P t (.pointer e)]:Val P r N S (.binOp .eql t x (.const (.pointer none)) t') ty τ w (.bool false):=v_eql_pointer (p:=some a)
theorem v_eql_pointerN {x:Operand} {t e t':TypeId} [hx:EvO N τ x (.pointer none)] [hu:Und P t (.pointer e)]:Val P r N S (.binOp .eql t x (.const (.pointer none)) t') ty τ w (.bool true):=v_eql_pointer (p:=none)
theorem v_eql_mapS {x:Operand} {t k e t':TypeId} {m:Nat} [hx:EvO N τ x (.map (some m))] [hu:Und P t (.map k e)]:Val P r N S (.binOp .eql t x (.const (.map none)) t') ty τ w (.bool false):=v_eql_map (m:=some m)
section
variable {k:IntKind} {a b:Int} {x y:Operand} {t t':TypeId} [hx:EvO N τ x (.int k a)] [hy:EvO N τ y (.int k b)]
include hx hy
theorem v_neqF (h:a=b):Val P r N S (.binOp .neq t x y t') ty τ w (.bool false):=by
  have:=v_neq (P:=P) (r:=r) (N:=N) (S:=S) (τ:=τ) (w:=w) (ty:=ty) (t:=t) (t':=t') (hx:=hx) (hy:=hy)
  rwa [decide_eq_true h] at this
end
section
variable {κ:Type} [DecidableEq κ] {enc:κ->Value} {kvs:List (κ×Value)} {b:Nat} {kt et t:TypeId}
theorem v_lookup2v {x y:Operand} {sz bytes:Nat} {z u:Value} (k:κ) (q:Value) (c:Bool) [hx:EvO N τ x (.map (some b))] [hy:EvO N τ y u] [hu:Und P t (.map kt et)] [hm:MapI w b κ enc kvs] [hk:KeyE P kt enc] [hi:Inf P et sz bytes z] [hs:NotS S b] (he:u=enc k) (h1:(akey kvs k).getD z=q) (h2:(akey kvs k).isSome=c) :
    Val P r N S (.lookup t x y true) ty τ w (.tuple #[q,.bool c]):=by
  subst h1;subst h2
  exact v_lookup2 k he
theorem v_lookup1v {x y:Operand} {sz bytes:Nat} {z u:Value} (k:κ) (q:Value) [hx:EvO N τ x (.map (some b))] [hy:EvO N τ y u] [hu:Und P t (.map kt et)] [hm:MapI w b κ enc kvs] [hk:KeyE P kt enc] [hi:Inf P et sz bytes z] [hs:NotS S b] (he:u=enc k) (h1:(akey kvs k).getD z=q) :
    Val P r N S (.lookup t x y false) ty τ w q:=by
  subst h1
  exact v_lookup1 k he
end
end laws
theorem take_snoc {α:Type} (xs:List α) (k:Nat) (h:k<xs.length):xs.take (k+1)=xs.take k++[xs[k]]:=by
  rw [List.take_succ_eq_append_getElem h]
instance notS_or (S T:Nat->Prop) (b:Nat) [h:NotS S b] [k:NotS T b]:NotS (fun i=>S i\/T i) b:=⟨fun e=>e.elim h.not k.not⟩
theorem flat_len {α:Type} {enc:α->List Value} {sz:Nat} (hsz:∀ x,(enc x).length=sz) (xs:List α):(xs.flatMap enc).length=xs.length*sz:=by
  induction xs with
  | nil=>simp
  | cons x xs ih=>rw [List.flatMap_cons,List.length_append,ih,hsz,List.length_cons,Nat.add_mul];omega
theorem flat_get {α:Type} {enc:α->List Value} {sz:Nat} (hsz:∀ x,(enc x).length=sz):∀ (xs:List α) (k:Nat) (h:k<xs.length) (i:Nat) (u:Value),(enc xs[k])[i]?=some u->(xs.flatMap enc)[k*sz+i]?=some u
  | [],_,h,_,_,_=>by simp at h
  | x :: xs,0,_,i,u,hu=>by
    have hu':(enc x)[i]?=some u:=hu
    have hi:=(List.getElem?_eq_some_iff.1 hu').1
    rw [List.flatMap_cons,Nat.zero_mul,Nat.zero_add,List.getElem?_append_left hi]
    exact hu'
  | x :: xs,k+1,h,i,u,hu=>by
    have ih:=flat_get hsz xs k (by simpa using h) i u (by simpa using hu)
    rw [List.flatMap_cons,List.getElem?_append_right (by rw [hsz,Nat.add_mul];omega),hsz]
    rw [<- ih]
    congr 1
    rw [Nat.add_mul];omega
theorem flat_take {α:Type} {enc:α->List Value} {sz:Nat} (hsz:∀ x,(enc x).length=sz):∀ (xs:List α) (k:Nat),(xs.take k).flatMap enc=(xs.flatMap enc).take (k*sz)
  | [],k=>by simp
  | x :: xs,0=>by simp
  | x :: xs,k+1=>by
    rw [List.take_succ_cons,List.flatMap_cons,List.flatMap_cons,flat_take hsz xs k,List.take_append,hsz]
    rw [List.take_of_length_le (l:=enc x) (by rw [hsz,Nat.add_mul];omega)]
    have:(k+1)*sz - sz=k*sz:=by rw [Nat.add_mul];omega
    rw [this]
theorem flat_drop {α:Type} {enc:α->List Value} {sz:Nat} (hsz:∀ x,(enc x).length=sz):∀ (xs:List α) (k:Nat),(xs.drop k).flatMap enc=(xs.flatMap enc).drop (k*sz)
  | [],k=>by simp
  | x :: xs,0=>by simp
  | x :: xs,k+1=>by
    rw [List.drop_succ_cons,List.flatMap_cons,flat_drop hsz xs k,List.drop_append,hsz]
    rw [List.drop_of_length_le (l:=enc x) (by rw [hsz,Nat.add_mul];omega),List.nil_append]
    have:(k+1)*sz - sz=k*sz:=by rw [Nat.add_mul];omega
    rw [this]
def setL (l:List Value) (off:Nat) (vs:List Value):List Value:=l.take off++vs++l.drop (off+vs.length)
theorem flat_set {α:Type} {enc:α->List Value} {sz:Nat} (hsz:∀ x,(enc x).length=sz):∀ (xs:List α) (k:Nat) (x:α),k<xs.length->setL (xs.flatMap enc) (k*sz) (enc x)=(xs.set k x).flatMap enc
  | [],_,_,h=>by simp at h
  | y :: xs,0,x,_=>by
    have:(enc x).length=(enc y).length:=by rw [hsz,hsz]
    simp [setL,this]
  | y :: xs,k+1,x,h=>by
    have ih:=flat_set hsz xs k x (by simpa using h)
    rw [List.set_cons_succ,List.flatMap_cons,List.flatMap_cons,<- ih]
    have e1:(k+1)*sz=(enc y).length+k*sz:=by rw [hsz,Nat.add_mul];omega
    unfold setL
    rw [e1]
    have e2:(enc y).take ((enc y).length+k*sz)=enc y:=List.take_of_length_le (by omega)
    have e3:(enc y).drop ((enc y).length+(k*sz+(enc x).length))=[]:=List.drop_of_length_le (by omega)
    simp [List.take_append,List.drop_append,Nat.add_assoc,e2,e3]
theorem row_drop {w:World} {A:Option Addr} {cs:List Value} {n c k sz:Nat} (h:RowP w A cs) (hl:cs.length=n*sz) (hn:n<=c):RowP w (if c=k then A else A.map (·.add (k*sz))) (cs.drop (k*sz)):=by
  intro j v hv
  rw [List.getElem?_drop] at hv
  have hlt:=(List.getElem?_eq_some_iff.1 hv).1
  have hne:¬ c=k:=fun e=>by
    subst e
    have:=Nat.mul_le_mul_right sz hn
    omega
  obtain ⟨a,rfl,ha⟩:=h _ v hv
  rw [if_neg hne]
  exact ⟨a.add (k*sz),rfl,by rw [add_add];exact ha⟩
theorem row_take {w:World} {A:Option Addr} {cs:List Value} (h:RowP w A cs) (m:Nat):RowP w A (cs.take m):=by
  intro j v hv
  rw [List.getElem?_take] at hv
  split at hv
  · exact h j v hv
  cases hv
section
variable {P:Program} {N:Nat} {τ:Tau} {w:World} {ty:TypeId} {v:Value}
theorem setMany_toList:∀ (vs:List Value) (cs:Array Value) (off:Nat),off+vs.length<=cs.size->(setMany cs off vs).toList=setL cs.toList off vs
  | [],cs,off,_=>by simp [setMany,setL]
  | v :: vs,cs,off,h=>by
    simp only [List.length_cons] at h
    rw [setMany,setMany_toList vs _ (off+1) (by simp;omega)]
    unfold setL
    rw [Array.toList_setIfInBounds]
    have hlt:off<cs.toList.length:=by simp;omega
    have e1:(cs.toList.set off v).take (off+1)=cs.toList.take off++[v]:=by
      rw [List.take_set,List.take_succ_eq_append_getElem hlt,List.set_append_right _ _ (by simp;omega)]
      have:off - (cs.toList.take off).length=0:=by simp;omega
      rw [this];rfl
    have e2:(cs.toList.set off v).drop (off+1+vs.length)=cs.toList.drop (off+(v :: vs).length):=by
      rw [List.drop_set_of_lt (by omega)]
      congr 1
      simp;omega
    rw [e1,e2]
    simp
theorem setL_len {l vs:List Value} {off:Nat} (h:off+vs.length<=l.length):(setL l off vs).length=l.length:=by simp [setL];omega
theorem setL_take {l vs:List Value} {off m:Nat} (h:off+vs.length<=m) (hm:m<=l.length):(setL l off vs).take m=setL (l.take m) off vs:=by
  unfold setL
  have hl:(l.take off++vs).length=off+vs.length:=by simp;omega
  rw [List.take_append,hl,List.take_of_length_le (by rw [hl];exact h),List.take_take,List.drop_take,Nat.min_eq_left (by omega)]
theorem e_storeOwn {t e:TypeId} {x y:Operand} {base sz n cap j m bytes:Nat} {z:Value} {A:Option Addr} {xs vs:List Value} {G:World->Prop} [hx:EvO N τ x (padd A j)] [hy:EvO N τ y v] [hc:Cells v vs.toArray] [h1:Cell1L vs] [hi:Inf P t m bytes z] [hn:LenL vs m]
    (hown:w.ownsRow base e sz (.slice A n cap) n xs) (hj:j+m<=n*sz) (hm:0<m) (h:∀ w',Lk w' w (OwnB (.slice A n cap))->w'.ownsRow base e sz (.slice A n cap) n (setL xs j vs)->G w'):EffS P N (OwnB (.slice A n cap)) (.store t x y) ty τ w G:=by
  obtain ⟨i,h5,h6,h7,h8⟩:=hi.ex
  rcases hown.2 with ⟨he,hn0⟩ | ⟨g,cap',cur,he,hb,hg,hnc,hcm,hcs,htk⟩
  · rw [hn0] at hj;omega
  cases he
  have hle:n*sz<=cap*sz:=Nat.mul_le_mul_right _ hnc
  have hsz:vs.toArray.size=i.size:=by rw [h6,<- hn.eq];simp
  obtain ⟨W',r1,r2,r3⟩:=run_storeMany (P:=P) vs j 0 cur w hg h1.eq (by rw [hn.eq];omega)
  have hk:Keep (OwnB (.slice (some ⟨g,0,none⟩) n cap)) w W':=r2.mono (fun k _ e=>by have:k=g:=e;subst this;rfl)
  refine ⟨fun _=>nofun,W',?_,hk,h W' ⟨hk⟩ ⟨?_,.inr ⟨g,cap,_,rfl,hb,r3,hnc,hcm,?_,?_⟩⟩⟩
  · have ha:(⟨g,0,none⟩:Addr).add j=⟨g,j,none⟩:=by rw [add_none];simp
    have e9:v.cells.size=i.size:=by rw [hc.eq,hsz]
    have e10:v.cells.toList=vs:=by rw [hc.eq]
    simp [execOp,hx.eq,hy.eq,padd,ha,Instr.storeAt,Instr.sureAddr,storeVar,sizeOf,typeInfo,program,Sem.run,h5,e9,e10,r1]
  · rw [setL_len (by rw [hown.1,hn.eq];exact hj)];exact hown.1
  · rw [size_setMany];exact hcs
  rw [setMany_toList vs cur (j+0) (by rw [hn.eq];omega),Nat.add_zero,setL_take (by rw [hn.eq];exact hj) (by simp [hcs];exact hle),htk]
end
def Sub (F E:Nat->Prop) (w:World):Prop:=∀ k,F k->E k\/w.heap.size<=k
theorem Sub.refl (F:Nat->Prop) (w:World):Sub F F w:=fun _ h=>.inl h
theorem Sub.trans {F E D:Nat->Prop} {w w':World} (h:Sub F E w') (k:Sub E D w) (hs:w.heap.size<=w'.heap.size):Sub F D w:=fun i hi=>(h i hi).elim (fun h=>k i h) (fun h=>.inr (Nat.le_trans hs h))
end Go.Wst
