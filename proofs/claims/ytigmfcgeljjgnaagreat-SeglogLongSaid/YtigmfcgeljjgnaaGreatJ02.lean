/- A part of the walks through the log and its document, and of the law in plain Lean: Xc Xd. -/
import Derived.Test.YtigmfcgeljjgnaaGreatJ01
import Derived.Great.BuildSlice
set_option linter.all false
namespace Go.Wst
def Ret (P:Program) (f:FuncId) (args:Array Value) (w:World) (R:Value->World->Prop):Prop:=Calls P f args w fun e w'=>∃ v,e=.returned v/\R v w'
theorem Ret.mono {P:Program} {f:FuncId} {args:Array Value} {w:World} {R R':Value->World->Prop} (h:Ret P f args w R) (hr:∀ v w',R v w'->R' v w'):Ret P f args w R':=
  Calls.mono h fun _ _ ⟨v,he,hv⟩=>⟨v,he,hr _ _ hv⟩
class Fun (P:Program) (f:FuncId):Prop where ex:∃ fn c,P.funcs[f]?=some fn/\fn.name ≠ "runtime.NumGoroutine"/\fn.body=some c
class App (a b:List Value) (c:outParam (List Value)):Prop where eq:a++b=c
instance app_nil (b:List Value):App [] b b:=⟨rfl⟩
instance app_cons (x:Value) (a b c:List Value) [h:App a b c]:App (x :: a) b (x :: c):=⟨by rw [List.cons_append,h.eq]⟩
class SubS (T S:Nat->Prop):Prop where sub:∀ k,T k->S k
instance subS_no (S:Nat->Prop):SubS NoB S:=⟨fun _ h=>h.elim⟩
instance subS_all (S:Nat->Prop):SubS S allS:=⟨fun _ _=>trivial⟩
instance subS_refl (S:Nat->Prop):SubS S S:=⟨fun _ h=>h⟩
section laws
variable {P:Program} {r:Option Nat} {N:Nat} {S T U:Nat->Prop} {Q:Post} {τ:Tau} {ds:List Deferred} {w:World} {ty:TypeId} {ops:Array Oper} {rest:List Oper} {pos:String} {aft:Array Edge} {d:Nat} {v:Value} {op:Op}
def EffV (P:Program) (N:Nat) (T:Nat->Prop) (op:Op) (ty:TypeId) (τ:Tau) (w:World) (G:Value->World->Prop):Prop:=
  (∀ c,op≠.defer c)/\∃ v w',(execOp (evO N τ) ⟨none,op,ty,"",#[],none⟩).run P w=.ok (.value v) w'/\Keep T w w'/\G v w'
def EffS (P:Program) (N:Nat) (T:Nat->Prop) (op:Op) (ty:TypeId) (τ:Tau) (w:World) (G:World->Prop):Prop:=
  (∀ c,op≠.defer c)/\∃ w',(execOp (evO N τ) ⟨none,op,ty,"",#[],none⟩).run P w=.ok .skip w'/\Keep T w w'/\G w'
theorem semAt_op (o:Oper) (ho:∀ c,o.op≠.defer c):(o.semAt r (evO N τ)).run P w=(execOp (evO N τ) ⟨none,o.op,o.type,"",#[],none⟩).run P w:=by
  rw [Oper.semAt_eq r _ o ho]
  rfl
theorem xl_e (he:EffV P N T op ty τ w (fun v w'=>XL P r N ops Q rest (upd τ d v) ds w')):XL P r N ops Q (⟨some d,op,ty,pos,aft,none⟩ :: rest) τ ds w:=by
  obtain ⟨hn,v,w',hr,hk,hG⟩:=he
  show OpE P r N ops _ Q τ ds w _
  unfold OpE
  rw [if_pos (by rfl),semAt_op _ hn,hr]
  exact hG
theorem xl_e0 (he:EffV P N T op ty τ w (fun v w'=>XL P r N ops Q rest τ ds w')):XL P r N ops Q (⟨none,op,ty,pos,aft,none⟩ :: rest) τ ds w:=by
  obtain ⟨hn,v,w',hr,hk,hG⟩:=he
  show OpE P r N ops _ Q τ ds w _
  unfold OpE
  rw [if_pos (by rfl),semAt_op _ hn,hr]
  exact hG
theorem xl_s (he:EffS P N T op ty τ w (fun w'=>XL P r N ops Q rest τ ds w')):XL P r N ops Q (⟨none,op,ty,pos,aft,none⟩ :: rest) τ ds w:=by
  obtain ⟨hn,w',hr,hk,hG⟩:=he
  show OpE P r N ops _ Q τ ds w _
  unfold OpE
  rw [if_pos (by rfl),semAt_op _ hn,hr]
  exact hG
theorem xt_e {p:Plan} {i:Nat} {pos':String} {aft':Array Edge} [hS:SubS T S] (hi:ops[i]?=some ⟨some d,op,ty,pos',aft',none⟩) (he:EffV P N T op ty τ w (fun v w'=>XT P r N ops Q S U p (upd τ d v) ds w')):XT P r N ops Q S U (.eff i p) τ ds w:=by
  obtain ⟨hn,v,w',hr,hk,hG⟩:=he
  show match ops[i]? with | some o=>OpE P r N ops o Q τ ds w (fun τ' ds' w'=>Keep S w w'/\XT P r N ops Q S U p τ' ds' w') | none=>False
  rw [hi]
  show OpE P r N ops _ Q τ ds w _
  unfold OpE
  rw [if_pos (by rfl),semAt_op _ hn,hr]
  exact ⟨hk.mono (fun k _ h=>hS.sub k h),hG⟩
theorem xt_s {p:Plan} {i:Nat} {pos':String} {aft':Array Edge} [hS:SubS T S] (hi:ops[i]?=some ⟨none,op,ty,pos',aft',none⟩) (he:EffS P N T op ty τ w (fun w'=>XT P r N ops Q S U p τ ds w')):XT P r N ops Q S U (.eff i p) τ ds w:=by
  obtain ⟨hn,w',hr,hk,hG⟩:=he
  show match ops[i]? with | some o=>OpE P r N ops o Q τ ds w (fun τ' ds' w'=>Keep S w w'/\XT P r N ops Q S U p τ' ds' w') | none=>False
  rw [hi]
  show OpE P r N ops _ Q τ ds w _
  unfold OpE
  rw [if_pos (by rfl),semAt_op _ hn,hr]
  exact ⟨hk.mono (fun k _ h=>hS.sub k h),hG⟩
theorem xt_lastS {i:Nat} {pos':String} {aft':Array Edge} [hU:SubS T U] (hi:ops[i]?=some ⟨none,op,ty,pos',aft',none⟩) (he:EffS P N T op ty τ w (fun w'=>Q .normal τ ds w')):XT P r N ops Q S U (.last i) τ ds w:=by
  obtain ⟨hn,w',hr,hk,hG⟩:=he
  show match ops[i]? with | some o=>OpE P r N ops o Q τ ds w (fun τ' ds' w'=>Keep U w w'/\Q .normal τ' ds' w') | none=>False
  rw [hi]
  show OpE P r N ops _ Q τ ds w _
  unfold OpE
  rw [if_pos (by rfl),semAt_op _ hn,hr]
  exact ⟨hk.mono (fun k _ h=>hU.sub k h),hG⟩
theorem xt_fs {p:Plan} {i:Nat} {pos':String} {aft':Array Edge} [hU:SubS T U] (hi:ops[i]?=some ⟨none,op,ty,pos',aft',none⟩) (he:EffS P N T op ty τ w (fun w'=>XT P r N ops Q S U p τ ds w')):XT P r N ops Q S U (.free i p) τ ds w:=by
  obtain ⟨hn,w',hr,hk,hG⟩:=he
  show match ops[i]? with | some o=>OpE P r N ops o Q τ ds w (fun τ' ds' w'=>Keep U w w'/\XT P r N ops Q S U p τ' ds' w') | none=>False
  rw [hi]
  show OpE P r N ops _ Q τ ds w _
  unfold OpE
  rw [if_pos (by rfl),semAt_op _ hn,hr]
  exact ⟨hk.mono (fun k _ h=>hU.sub k h),hG⟩
theorem xt_fork {p q:Plan} {i j:Nat} (h1:XT P r N ops Q S U (.eff i p) τ ds w) (h2:XT P r N ops Q S U (.eff j q) τ ds w):XT P r N ops Q S U (.fork i p j q) τ ds w:=⟨h1,h2⟩
theorem e_v (h:Val P r N NoB op ty τ w v) {G:Value->World->Prop} (hG:G v w):EffV P N NoB op ty τ w G:=⟨h.1,v,w,h.2 w (Keep.refl _ _),Keep.refl _ _,hG⟩
theorem run_call {g:Operand} {args:List Operand} {at_:Array TypeId} {f:FuncId} {a c vs asx as2:List Value} [hg:EvO N τ g (.func (.func f) a.toArray c.toArray)] [hv:EvL N τ args vs] [hf:Fun P f] [h1:App a vs asx] [h2:App asx c as2] :
    (execOp (evO N τ) ⟨none,.call { callee:=.value g,args:=args.toArray,argTypes:=at_ },ty,"",#[],none⟩).run P w=.ok (.enter f as2.toArray) w:=by
  obtain ⟨fn,cc,hfn,hnm,hb⟩:=hf.ex
  have e1:(args.toArray.map (evO N τ))=vs.toArray:=by simp [hv.eq]
  have e2:a.toArray++vs.toArray++c.toArray=as2.toArray:=by rw [<- h2.eq,<- h1.eq];simp
  have e3:(a++(vs++c)).toArray=as2.toArray:=by simpa using e2
  simp only [execOp,resolve,Sem.run_bind,hg.eq,Deferred.ofValue,e1,invoke,callFunc,program,Sem.run,hfn,hnm,hb,Sem.run_pure,Result.andThen_ok,beq_iff_eq,if_false,Option.isNone_some,Bool.false_eq_true,List.append_toArray,List.append_assoc,e3]
theorem OpE_call {g:Operand} {args:List Operand} {at_:Array TypeId} {f:FuncId} {a c vs asx as2:List Value} {R:Value->World->Prop} {K:Tau->List Deferred->World->Prop} {dst:Option Nat}
    [hg:EvO N τ g (.func (.func f) a.toArray c.toArray)] [hv:EvL N τ args vs] [hf:Fun P f] [h1:App a vs asx] [h2:App asx c as2]
    (hc:Ret P f as2.toArray w R) (h:∀ v w',R v w'->K (updO τ dst v) ds w'):OpE P r N ops ⟨dst,.call { callee:=.value g,args:=args.toArray,argTypes:=at_ },ty,pos,aft,none⟩ Q τ ds w K:=by
  unfold OpE
  rw [if_pos (by rfl),semAt_op _ (fun c h=>by cases h)]
  have hr:=run_call (P:=P) (N:=N) (τ:=τ) (w:=w) (ty:=ty) (at_:=at_) (g:=g) (args:=args) (f:=f) (hg:=hg) (hv:=hv) (h1:=h1) (h2:=h2)
  rw [hr]
  exact Calls.mono hc fun e w'' ⟨v,he,hR⟩=>.inl ⟨v,he,h v w'' hR⟩
theorem xl_call {g:Operand} {args:List Operand} {at_:Array TypeId} {f:FuncId} {a c vs asx as2:List Value} {R:Value->World->Prop}
    [hg:EvO N τ g (.func (.func f) a.toArray c.toArray)] [hv:EvL N τ args vs] [hf:Fun P f] [h1:App a vs asx] [h2:App asx c as2]
    (hc:Ret P f as2.toArray w R) (h:∀ v w',R v w'->XL P r N ops Q rest (upd τ d v) ds w'):XL P r N ops Q (⟨some d,.call { callee:=.value g,args:=args.toArray,argTypes:=at_ },ty,pos,aft,none⟩ :: rest) τ ds w:=
  OpE_call (as2:=as2) hc h
theorem xl_gcall {j e':Nat} {b:Bool} {g:Operand} {args:List Operand} {at_:Array TypeId} {f:FuncId} {a c vs asx as2:List Value} {R:Value->World->Prop}
    (hj:(ops[j]?).bind (·.dst)=some e') (hb:evO N τ (.tmp e')=.bool b)
    [hg:EvO N τ g (.func (.func f) a.toArray c.toArray)] [hv:EvL N τ args vs] [hf:Fun P f] [h1:App a vs asx] [h2:App asx c as2]
    (hc:Ret P f as2.toArray w R) (h:∀ v w',R v w'->XL P r N ops Q rest (upd τ d v) ds w'):XL P r N ops Q (⟨some d,.call { callee:=.value g,args:=args.toArray,argTypes:=at_ },ty,pos,aft,some (j,b)⟩ :: rest) τ ds w:=by
  have:=OpE_call (P:=P) (r:=r) (N:=N) (Q:=Q) (τ:=τ) (ds:=ds) (w:=w) (ty:=ty) (ops:=ops) (pos:=pos) (aft:=aft) (at_:=at_) (g:=g) (args:=args) (as2:=as2) (dst:=some d) (hg:=hg) (hv:=hv) (hf:=hf) (h1:=h1) (h2:=h2) hc h
  show OpE P r N ops _ Q τ ds w _
  unfold OpE at *
  rw [if_pos (by simp [wantedT,Region.wanted,yieldedT,hj,hb])]
  rw [if_pos (by rfl)] at this
  exact this
theorem xt_call {p:Plan} {i:Nat} {pos':String} {aft':Array Edge} {g:Operand} {args:List Operand} {at_:Array TypeId} {f:FuncId} {a c vs asx as2:List Value} {R:Value->World->Prop}
    (hi:ops[i]?=some ⟨some d,.call { callee:=.value g,args:=args.toArray,argTypes:=at_ },ty,pos',aft',none⟩)
    [hg:EvO N τ g (.func (.func f) a.toArray c.toArray)] [hv:EvL N τ args vs] [hf:Fun P f] [h1:App a vs asx] [h2:App asx c as2]
    (hc:Ret P f as2.toArray w R) (h:∀ v w',R v w'->Keep S w w'/\XT P r N ops Q S U p (upd τ d v) ds w'):XT P r N ops Q S U (.eff i p) τ ds w:=by
  show match ops[i]? with | some o=>OpE P r N ops o Q τ ds w (fun τ' ds' w'=>Keep S w w'/\XT P r N ops Q S U p τ' ds' w') | none=>False
  rw [hi]
  exact OpE_call (as2:=as2) hc h
theorem xt_gcall {p:Plan} {i j e':Nat} {b:Bool} {pos':String} {aft':Array Edge} {g:Operand} {args:List Operand} {at_:Array TypeId} {f:FuncId} {a c vs asx as2:List Value} {R:Value->World->Prop}
    (hi:ops[i]?=some ⟨some d,.call { callee:=.value g,args:=args.toArray,argTypes:=at_ },ty,pos',aft',some (j,b)⟩)
    (hj:(ops[j]?).bind (·.dst)=some e') (hb:evO N τ (.tmp e')=.bool b)
    [hg:EvO N τ g (.func (.func f) a.toArray c.toArray)] [hv:EvL N τ args vs] [hf:Fun P f] [h1:App a vs asx] [h2:App asx c as2]
    (hc:Ret P f as2.toArray w R) (h:∀ v w',R v w'->Keep S w w'/\XT P r N ops Q S U p (upd τ d v) ds w'):XT P r N ops Q S U (.eff i p) τ ds w:=by
  have:=OpE_call (P:=P) (r:=r) (N:=N) (Q:=Q) (τ:=τ) (ds:=ds) (w:=w) (ty:=ty) (ops:=ops) (pos:=pos') (aft:=aft') (at_:=at_) (g:=g) (args:=args) (as2:=as2) (dst:=some d) (K:=fun τ' ds' w'=>Keep S w w'/\XT P r N ops Q S U p τ' ds' w') (hg:=hg) (hv:=hv) (hf:=hf) (h1:=h1) (h2:=h2) hc h
  show match ops[i]? with | some o=>OpE P r N ops o Q τ ds w (fun τ' ds' w'=>Keep S w w'/\XT P r N ops Q S U p τ' ds' w') | none=>False
  rw [hi]
  show OpE P r N ops _ Q τ ds w _
  unfold OpE at *
  rw [if_pos (by simp [wantedT,Region.wanted,yieldedT,hj,hb])]
  rw [if_pos (by rfl)] at this
  exact this
theorem run_newVar (t:TypeId) (v:Value):(newVar t v).run P w=.ok ⟨w.heap.size,0,none⟩ (w.alloc (.cells v.cells t)):=by
  rfl
theorem new_blk (o:Obj):New w.heap.size w/\Lk (w.alloc o) w NoB/\Blk (w.alloc o) w.heap.size o:=⟨⟨rfl⟩,⟨Keep.alloc w o⟩,⟨heap_alloc_new w o⟩⟩
theorem e_box {t:TypeId} {x:Operand} {cs:Array Value} {G:Value->World->Prop} [hx:EvO N τ x v] [hc:Cells v cs]
    (h:∀ (b:Nat) (w':World),New b w->Lk w' w NoB->Blk w' b (.cells cs t (0,0))->G (.pointer (some ⟨b,0,none⟩)) w'):EffV P N NoB (.box t x) ty τ w G:=by
  have hcs:=hc.eq
  subst hcs
  obtain ⟨h1,h2,h3⟩:=new_blk (w:=w) (.cells v.cells t)
  exact ⟨fun _=>nofun,_,_,by simp only [execOp,Instr.box,Sem.run_bind,run_newVar,hx.eq,Result.andThen_ok,Sem.run_pure],h2.keep,h _ _ h1 h2 h3⟩
theorem e_alloc {t:TypeId} {sz bytes:Nat} {z:Value} {cs:Array Value} {G:Value->World->Prop} [hi:Inf P t sz bytes z] [hc:Cells z cs]
    (h:∀ (b:Nat) (w':World),New b w->Lk w' w NoB->Blk w' b (.cells cs t (0,0))->G (.pointer (some ⟨b,0,none⟩)) w'):EffV P N NoB (.alloc t) ty τ w G:=by
  have hcs:=hc.eq
  subst hcs
  obtain ⟨i,h5,h6,h7,h8⟩:=hi.ex
  obtain ⟨h1,h2,h3⟩:=new_blk (w:=w) (.cells z.cells t)
  exact ⟨fun _=>nofun,_,_,by simp only [execOp,Instr.alloc,zeroValue,typeInfo,program,Sem.run,Sem.run_bind,run_newVar,h5,h8,Result.andThen_ok,Sem.run_pure],h2.keep,h _ _ h1 h2 h3⟩
theorem keep_setCell (b off:Nat) (v:Value):Keep (OneB b) w (w.setCell ⟨b,off,none⟩ v):=
  ⟨rfl,rfl,rfl,by simp [World.setCell],fun k _ hk=>Go.RowKit.Below.heap_setCell _ _ _ _ (fun e=>hk e)⟩
theorem blk_setCell {b off:Nat} {cs cs':Array Value} {e:TypeId} {fr:Nat×Nat} (h:w.heap[b]?=some (.cells cs e fr)) (hs:cs.setIfInBounds off v=cs'):(w.setCell ⟨b,off,none⟩ v).heap[b]?=some (.cells cs' e fr):=by
  subst hs
  simp [World.setCell,Array.getElem?_modify,h]
theorem e_store {t e:TypeId} {x y:Operand} {b off bytes:Nat} {z:Value} {cs cs':Array Value} {G:World->Prop} [hx:EvO N τ x (.pointer (some ⟨b,off,none⟩))] [hy:EvO N τ y v] [h1:Cell1 v] [hi:Inf P t 1 bytes z]
    [hb:Blk w b (.cells cs e (0,0))] [hc:CsSet cs off v cs'] (h:∀ w',Lk w' w (OneB b)->Blk w' b (.cells cs' e (0,0))->G w'):EffS P N (OneB b) (.store t x y) ty τ w G:=by
  obtain ⟨i,h5,h6,h7,h8⟩:=hi.ex
  obtain ⟨hlt,hset⟩:=hc.eq
  have hcell:w.cell? ⟨b,off,none⟩=some cs[off]:=by rw [cell_of_blk hb.eq];exact Array.getElem?_eq_getElem hlt
  have hfr:w.frozen? ⟨b,off,none⟩=false:=by have:=hb.eq;simp [World.frozen?,this]
  have hcells:v.cells=#[v]:=by have:=h1.eq;cases v<;>simp_all [Value.oneCell',Value.cells]
  have hst:=run_store P w ⟨b,off,none⟩ v .plain h1.eq
  refine ⟨fun _=>nofun,w.setCell ⟨b,off,none⟩ v,?_,keep_setCell b off v,h _ ⟨keep_setCell b off v⟩ ⟨blk_setCell hb.eq hset⟩⟩
  have ha:(⟨b,off,none⟩:Addr).add 0=⟨b,off,none⟩:=rfl
  simp [execOp,hx.eq,hy.eq,Instr.storeAt,Instr.sureAddr,storeVar,hcells,sizeOf,typeInfo,program,Sem.run,h5,h6,storeCells,ha,hst,hcell,hfr]
def bodyQ (P:Program) (fn:Func) (N:Nat) (R:Value->World->Prop):Post
  | .normal,τ,ds,w=>∀ a,Rel N τ ds a->LeavesInM (FX none) 0 P fn a.tmps (fun e w'=>∃ v,e=.returned v/\R v w') ds .returning w
  | .ret,τ,ds,w=>∀ a,Rel N τ ds a->LeavesInM (FX none) 0 P fn a.tmps (fun e w'=>∃ v,e=.returned v/\R v w') ds .returning w
  | _,_,_,_=>False
def frame0 (l:List Value):Tau:=fun t=>l.getD t undef
instance ev_f0_zero (v:Value) (l:List Value):Ev (frame0 (v :: l)) 0 v:=⟨rfl⟩
instance ev_f0_succ (u v:Value) (l:List Value) (t:Nat) [h:Ev (frame0 l) t v]:Ev (frame0 (u :: l)) (t+1) v:=⟨h.eq⟩
theorem rel_frame0 (l:List Value) (hl:l.length<=N):Rel N (frame0 l) [] { tmps:=l.toArray++Array.replicate (N - l.toArray.size) undef,defers:=[] }:=by
  refine ⟨by simp;omega,fun t ht=>?_,rfl⟩
  by_cases h:t<l.length
  · simp [frame0,Array.getElem?_append,h]
  have h2:t - l.length<N - l.length:=by omega
  simp [frame0,Array.getElem?_append,h,h2]
theorem ret_of_x {f:FuncId} {fn:Func} {c:Code} {l:List Value} {R:Value->World->Prop} (hf:P.funcs[f]?=some fn) (hb:fn.body=some c) (hN:fn.ntmps=N) (hl:l.length<=N)
    (h:X P none N c (bodyQ P fn N R) (frame0 l) [] w):Ret P f l.toArray w R:=by
  refine (callsIn_FX (r:=none) (n:=0)).1 (callsIn_of_wp_marks hf hb trivial (wpIn_mono (h _ (by rw [hN];exact rel_frame0 l hl)) ?_))
  intro e a w' hq
  obtain ⟨t,d,hr,hq⟩:=hq
  have hd:=hr.dfs
  cases e with
  | normal=>have:=hq a hr;simp only [bodyPostM,hd];exact this
  | ret=>have:=hq a hr;simp only [bodyPostM,hd];exact this
  | _=>exact hq.elim
theorem Rel.getE {a:Act} {t:Nat} (h:Rel N τ ds a) [hl:LtN t N] [he:Ev τ t v]:a.tmps.getD t undef=v:=(h.get t hl.lt).trans he.eq
section fin
variable {fn:Func} {R:Value->World->Prop} {t1 t2 t3 t4:Nat} {v1 v2 v3 v4:Value}
theorem fin0 (hr:fn.results=#[]) (hR:R (.tuple #[]) w):bodyQ P fn N R .normal τ [] w:=fun a ha=>⟨_,results_none hr _ _ _,_,rfl,hR⟩
theorem fin0r (hr:fn.results=#[]) (hR:R (.tuple #[]) w):bodyQ P fn N R .ret τ [] w:=fun a ha=>⟨_,results_none hr _ _ _,_,rfl,hR⟩
theorem fin1 (hr:fn.results=#[.tmp t1]) [LtN t1 N] [Ev τ t1 v1] (hR:R v1 w):bodyQ P fn N R .ret τ [] w:=fun a ha=>⟨_,results_tmp hr _ _ _,_,rfl,by rw [ha.getE (t:=t1) (v:=v1)];exact hR⟩
theorem fin2 (hr:fn.results=#[.tmp t1,.tmp t2]) [LtN t1 N] [Ev τ t1 v1] [LtN t2 N] [Ev τ t2 v2] (hR:R (.tuple #[v1,v2]) w):bodyQ P fn N R .ret τ [] w:=fun a ha=>⟨_,results_tmp2 hr _ _ _,_,rfl,by rw [ha.getE (t:=t1) (v:=v1),ha.getE (t:=t2) (v:=v2)];exact hR⟩
theorem results_tmp3_ {t u s:Tmp} (h:fn.results=#[.tmp t,.tmp u,.tmp s]) (tmps:Array Value) (P:Program) (w:World) :
    (results fn tmps).run P w=.ok (.tuple #[tmps.getD t undef,tmps.getD u undef,tmps.getD s undef]) w:=by simp [results,h]
theorem fin3 (hr:fn.results=#[.tmp t1,.tmp t2,.tmp t3]) [LtN t1 N] [Ev τ t1 v1] [LtN t2 N] [Ev τ t2 v2] [LtN t3 N] [Ev τ t3 v3] (hR:R (.tuple #[v1,v2,v3]) w):bodyQ P fn N R .ret τ [] w:=fun a ha=>
  ⟨_,results_tmp3_ hr _ _ _,_,rfl,by rw [ha.getE (t:=t1) (v:=v1),ha.getE (t:=t2) (v:=v2),ha.getE (t:=t3) (v:=v3)];exact hR⟩
end fin
class Ge (w' w:World):Prop where le:w.heap.size<=w'.heap.size
instance (priority:=low) ge_step (w' w1 w:World) (T:Nat->Prop) [l:Lk w' w1 T] [g:Ge w1 w]:Ge w' w:=⟨Nat.le_trans g.le l.keep.size⟩
instance ge_refl (w:World):Ge w w:=⟨Nat.le_refl _⟩
class SubF (T S:Nat->Prop) (w:World):Prop where sub:∀ k,k<w.heap.size->T k->S k
instance subF_no (S:Nat->Prop) (w:World):SubF NoB S w:=⟨fun _ _ h=>h.elim⟩
instance subF_refl (S:Nat->Prop) (w:World):SubF S S w:=⟨fun _ _ h=>h⟩
instance subF_new (b:Nat) (S:Nat->Prop) (w w1:World) [h:New b w1] [g:Ge w1 w]:SubF (OneB b) S w:=⟨fun k hk e=>by
  have h1:=h.eq
  have h2:=g.le
  have h3:k=b:=e
  omega⟩
class Chain (w' w:World) (S:Nat->Prop):Prop where keep:Keep S w w'
instance (priority:=low) chain_step (w' w1 w:World) (T S:Nat->Prop) [l:Lk w' w1 T] [c:Chain w1 w S] [s:SubF T S w]:Chain w' w S:=⟨c.keep.then l.keep (fun k hk ht=>s.sub k hk ht)⟩
instance chain_refl (w:World) (S:Nat->Prop):Chain w w S:=⟨Keep.refl _ _⟩
theorem lkc {w' w:World} [h:Chain w' w S]:Lk w' w S:=⟨h.keep⟩
theorem kpc {w' w:World} [h:Chain w' w S]:Keep S w w':=h.keep
theorem x_drawL {id:Nat} (S U:Nat->Prop) (p:Plan) (hm:P.follows .mixedOrders=true) (hok:(Region.noSelect ops && p.ok ops p.lastI (Array.replicate ops.size false) && decide (p.size<=ops.size))=true)
    (hQ:∀ ch τ τ' ds w,Q (.panic ch) τ ds w->Q (.panic ch) τ' ds w) (h:∀ w1,Lk w1 w NoB->XT P r N ops Q S U p τ ds w1):X P r N (.region id ops true) Q τ ds w:=
  x_draw S U p hm hok hQ (h _ ⟨Keep.drawn w _⟩)
theorem x_condE {c:Operand} {x y:Code} {b:Bool} [hc:EvO N τ c (.bool b)] (ht:b=true->X P r N x Q τ ds w) (hf:b=false->X P r N y Q τ ds w):X P r N (.cond c x y) Q τ ds w:=x_cond hc.eq ht hf
theorem x_condP {c:Operand} {x y:Code} {p:Prop} [Decidable p] [hc:EvO N τ c (.bool (decide p))] (ht:p->X P r N x Q τ ds w) (hf:¬ p->X P r N y Q τ ds w):X P r N (.cond c x y) Q τ ds w:=
  x_cond hc.eq (fun h=>ht (of_decide_eq_true h)) (fun h=>hf (of_decide_eq_false h))
theorem x_condN {c:Operand} {x y:Code} {p:Prop} [Decidable p] [hc:EvO N τ c (.bool (!decide p))] (ht:¬ p->X P r N x Q τ ds w) (hf:p->X P r N y Q τ ds w):X P r N (.cond c x y) Q τ ds w:=
  x_cond hc.eq (fun h=>ht (of_decide_eq_false (by simpa using h))) (fun h=>hf (of_decide_eq_true (by simpa using h)))
theorem x_condT {c:Operand} {x y:Code} [hc:EvO N τ c (.bool true)] (ht:X P r N x Q τ ds w):X P r N (.cond c x y) Q τ ds w:=x_cond hc.eq (fun _=>ht) (fun h=>by cases h)
theorem x_condF {c:Operand} {x y:Code} [hc:EvO N τ c (.bool false)] (hf:X P r N y Q τ ds w):X P r N (.cond c x y) Q τ ds w:=x_cond hc.eq (fun h=>by cases h) (fun _=>hf)
end laws
class CsSub (cs:List Value) (off n:Nat) (ds:outParam (List Value)):Prop where eq:(cs.drop off).take n=ds/\off+n<=cs.length
instance cssub_nil (cs:List Value):CsSub cs 0 0 []:=⟨by simp⟩
instance cssub_cons (v:Value) (l ds:List Value) (n:Nat) [h:CsSub l 0 n ds]:CsSub (v :: l) 0 (n+1) (v :: ds):=⟨by have:=h.eq;simp at this ⊢;exact ⟨this.1,by omega⟩⟩
instance cssub_succ (v:Value) (l ds:List Value) (i n:Nat) [h:CsSub l i n ds]:CsSub (v :: l) (i+1) n ds:=⟨by have:=h.eq;simp at this ⊢;exact ⟨this.1,by omega⟩⟩
def setMany (cs:Array Value) (off:Nat):List Value->Array Value | []=>cs | v :: r=>setMany (cs.setIfInBounds off v) (off+1) r
theorem size_setMany:∀ (vs:List Value) (cs:Array Value) (off:Nat),(setMany cs off vs).size=cs.size
  | [],_,_=>rfl
  | v :: r,cs,off=>by rw [setMany,size_setMany r];simp
class CsPut (cs:Array Value) (off:Nat) (vs:List Value) (ds:outParam (Array Value)):Prop where eq:setMany cs off vs=ds/\off+vs.length<=cs.size
class LeN (a b:Nat):Prop where le:a<=b
instance len (k t:Nat):LeN t (k+t):=⟨by omega⟩
class Siz (cs:Array Value) (n:outParam Nat):Prop where eq:cs.size=n
instance siz_nil:Siz #[] 0:=⟨rfl⟩
instance siz_cons (v:Value) (l:List Value) (n:Nat) [h:Siz l.toArray n]:Siz (v :: l).toArray (n+1):=⟨by have:=h.eq;simpa using this⟩
instance csput_nil (cs:Array Value) (off n:Nat) [h:Siz cs n] [k:LeN off n]:CsPut cs off [] cs:=⟨rfl,by rw [h.eq];exact k.le⟩
instance csput_cons (cs cs1 ds:Array Value) (off:Nat) (v:Value) (vs:List Value) [h:CsSet cs off v cs1] [k:CsPut cs1 (off+1) vs ds]:CsPut cs off (v :: vs) ds:=⟨by
  obtain ⟨h1,h2⟩:=h.eq
  obtain ⟨k1,k2⟩:=k.eq
  subst h2
  refine ⟨k1,?_⟩
  simp only [Array.size_setIfInBounds] at k2
  simp only [List.length_cons];omega⟩
class Places (P:Program) (t:TypeId) (pl:outParam (List (Nat×Nat))):Prop where ex:∃ fs,P.underlying t=some (.struct fs)/\fs.toList.mapM (fun f=>(P.info? f.type).map fun i=>(f.offset,i.size))=some pl
class PlGet (pl:List (Nat×Nat)) (i:Nat) (off sz:outParam Nat):Prop where eq:pl[i]?=some (off,sz)
instance plget_zero (o s:Nat) (l:List (Nat×Nat)):PlGet ((o,s) :: l) 0 o s:=⟨rfl⟩
instance plget_succ (p:Nat×Nat) (l:List (Nat×Nat)) (i o s:Nat) [h:PlGet l i o s]:PlGet (p :: l) (i+1) o s:=⟨by simpa using h.eq⟩
class FillC (pl:List (Nat×Nat)) (cs:Array Value) (parts:List (Nat×Value)) (ds:outParam (Array Value)):Prop where eq:Instr.fill (pl[·]?) cs parts=some ds
instance fillc_nil (pl:List (Nat×Nat)) (cs:Array Value):FillC pl cs [] cs:=⟨rfl⟩
theorem foldl_setMany (off:Nat):∀ (l:List Value) (s:Nat) (cs:Array Value),(l.zipIdx s).foldl (fun cs (x:Value×Nat)=>cs.setIfInBounds (off+x.2) x.1) cs=setMany cs (off+s) l
  | [],_,_=>rfl
  | v :: l,s,cs=>by rw [List.zipIdx_cons,List.foldl_cons,foldl_setMany off l (s+1)];rfl
theorem fill_cons {place:Nat->Option (Nat×Nat)} {cs:Array Value} {i off sz:Nat} {v:Value} {vs:List Value} {rest:List (Nat×Value)} (hp:place i=some (off,sz)) (hv:v.cells=vs.toArray) (hs:vs.length=sz) (hl:off+vs.length<=cs.size) :
    Instr.fill place cs ((i,v) :: rest)=Instr.fill place (setMany cs off vs) rest:=by
  rw [Instr.fill]
  simp only [hp,hv]
  have h1:¬ (vs.toArray.size≠sz || decide (off+vs.toArray.size > cs.size))=true:=by simp [hs];omega
  rw [if_neg h1]
  congr 1
  have:=foldl_setMany off vs 0 cs
  simpa [Array.zipIdx_toArray] using this
class LenL (vs:List Value) (n:outParam Nat):Prop where eq:vs.length=n
instance lenl_nil:LenL [] 0:=⟨rfl⟩
instance lenl_cons (v:Value) (l:List Value) (n:Nat) [h:LenL l n]:LenL (v :: l) (n+1):=⟨by rw [List.length_cons,h.eq]⟩
class EqN (a b:Nat):Prop where eq:a=b
instance eqn (a:Nat):EqN a a:=⟨rfl⟩
instance fillc_cons (pl:List (Nat×Nat)) (cs cs1 ds:Array Value) (i off sz n:Nat) (v:Value) (vs:List Value) (rest:List (Nat×Value)) [hp:PlGet pl i off sz] [hv:Cells v vs.toArray] [hn:LenL vs n] [he:EqN n sz] [h1:CsPut cs off vs cs1] [k:FillC pl cs1 rest ds] :
    FillC pl cs ((i,v) :: rest) ds:=⟨by
  obtain ⟨e1,e2⟩:=h1.eq
  rw [fill_cons hp.eq hv.eq (hn.eq.trans he.eq) e2,e1]
  exact k.eq⟩
section laws
variable {P:Program} {r:Option Nat} {N:Nat} {S T:Nat->Prop} {Q:Post} {τ:Tau} {ds:List Deferred} {w:World} {ty:TypeId} {ops:Array Oper} {rest:List Oper} {pos:String} {aft:Array Edge} {d:Nat} {v:Value} {op:Op}
theorem v_build {t:TypeId} {parts:List (Nat×Operand)} {vs:List (Nat×Value)} {pl:List (Nat×Nat)} {sz bytes:Nat} {z:Value} {zc cs:Array Value} [hv:EvP N τ parts vs] [hp:Places P t pl] [hi:Inf P t sz bytes z] [hz:Cells z zc] [hf:FillC pl zc vs cs] :
    Val P r N S (.build t parts.toArray) ty τ w (.agg cs):=⟨fun _=>nofun,fun W _=>by
  obtain ⟨fs,h1,h2⟩:=hp.ex
  obtain ⟨i,h3,h4,h5,h6⟩:=hi.ex
  have hpl:=run_places (P:=P) W fs.toList pl h2
  have hm:(fs.mapM fun f=>do pure (f.offset,<- sizeOf f.type):Sem (Array (Nat×Nat))).run P W=.ok pl.toArray W:=by
    have e:(fun (f:Field)=>(do pure (f.offset,<- sizeOf f.type):Sem (Nat×Nat)))=(fun f=>Prod.mk f.offset <$> sizeOf f.type):=by funext f;rw [map_eq_pure_bind]
    rw [Array.mapM_eq_mapM_toList,Sem.run_map,e,hpl]
    rfl
  have hfill:=hf.eq
  have hpf:(fun (i:Nat)=>pl.toArray[i]?)=(fun (i:Nat)=>pl[i]?):=by funext i;simp
  simp only [execOp,Instr.build,Sem.run_bind,zeroValue,typeInfo,program,Sem.run,h3,h6,Sem.run_pure,Result.andThen_ok,run_underlying h1,hm,hz.eq]
  have e1:(parts.toArray.map fun (x:Nat×Operand)=>(x.1,evO N τ x.2)).toList=vs:=by simp [hv.eq]
  simp only [e1,hpf,hfill,Sem.run_pure,Result.andThen_ok]⟩
theorem e_buildSlice1 {t e:TypeId} {x:Operand} {sz bytes:Nat} {z:Value} {vs:List Value} {G:Value->World->Prop} [hx:EvO N τ x v] [hu:Und P t (.slice e)] [hi:Inf P e sz bytes z] [hc:Cells v vs.toArray] [hn:LenL vs sz] (hpos:(Nat.ble 1 sz && Nat.ble sz 1000)=true)
    (h:∀ (b:Nat) (w':World),New b w->Lk w' w NoB->Blk w' b (.cells vs.toArray e (0,0))->G (.slice (some ⟨b,0,none⟩) 1 1) w'):EffV P N NoB (.buildSlice t 1 #[(0,x)]) ty τ w G:=by
  obtain ⟨i,h5,h6,h7,h8⟩:=hi.ex
  subst h6
  simp only [Bool.and_eq_true,Nat.ble_eq] at hpos
  obtain ⟨h1,h2,h3⟩:=new_blk (w:=w) (.cells vs.toArray e)
  refine ⟨fun _=>nofun,_,_,?_,h2.keep,h _ _ h1 h2 h3⟩
  have hfill:Instr.fill (fun j=>some (j*i.size,i.size)) ((Array.range (1*i.size)).map (z.cells[· % z.cells.size]!)) [(0,v)]=some vs.toArray:=by
    rw [fill_cons (off:=0) (sz:=i.size) (by simp) hc.eq hn.eq (by simp [hn.eq]),Instr.fill]
    congr 1
    have hsz:((Array.range (1*i.size)).map (z.cells[· % z.cells.size]!)).size=vs.length:=by simp [hn.eq]
    generalize ((Array.range (1*i.size)).map (z.cells[· % z.cells.size]!))=zs at hsz
    have key:∀ (l:List Value) (pre:List Value) (cs:Array Value),cs.size=pre.length+l.length->(∀ k,k<pre.length->cs[k]?=pre[k]?)->setMany cs pre.length l=(pre++l).toArray:=by
      intro l
      induction l with
      | nil=>
        intro pre cs h1 h2
        apply Array.ext_getElem?
        intro k
        by_cases hk:k<pre.length
        · simpa [setMany] using h2 k hk
        have:cs.size<=k:=by rw [h1];simp;omega
        simp only [setMany]
        rw [Array.getElem?_eq_none this,Array.getElem?_eq_none (by simp;omega)]
      | cons a l ih=>
        intro pre cs h1 h2
        rw [setMany]
        have:=ih (pre++[a]) (cs.setIfInBounds pre.length a) (by simp [h1];omega) (fun k hk=>by
          by_cases hkp:k=pre.length
          · subst hkp
            have hlt:pre.length<cs.size:=by rw [h1];simp
            simp [hlt]
          have hk':k<pre.length:=by simp at hk;omega
          rw [Array.getElem?_setIfInBounds_ne (Ne.symm hkp),h2 k hk',List.getElem?_append_left hk'])
        simpa using this
    simpa using key vs [] zs (by simpa using hsz) (by simp)
  have hb:=Go.run_buildSlice (P:=P) w t e 1 #[(0,v)] vs.toArray i z hu.eq h5 h8 (by omega) (by omega) hfill
  simp only [execOp,Sem.run_bind,List.map_toArray,List.map_cons,List.map_nil,hx.eq,hb,Result.andThen_ok,Sem.run_pure]
theorem row_blk {b:Nat} {cs:List Value} {e:TypeId} {fr:Nat×Nat} (h:w.heap[b]?=some (.cells cs.toArray e fr)):RowP w (some ⟨b,0,none⟩) cs:=fun j v hv=>by
  refine ⟨_,rfl,?_⟩
  rw [add_none,cell_of_blk h]
  simpa using hv
instance rowI_blk (b:Nat) (cs:List Value) (e:TypeId) (fr:Nat×Nat) [h:Blk w b (.cells cs.toArray e fr)]:Row w (some ⟨b,0,none⟩) cs:=⟨row_blk h.eq⟩
def OwnB (v:Value):Nat->Prop:=fun k=>some k=v.ownBlock
theorem ownsRow_form {base:Nat} {e:TypeId} {sz n:Nat} {v:Value} {xs:List Value} (h:w.ownsRow base e sz v n xs):∃ A cap,v=.slice A n cap/\(∀ a,A=some a->base<=a.block/\a.off=0/\a.spot=none)/\n<=cap/\RowP w A xs:=by
  rcases h.2 with ⟨rfl,rfl⟩ | ⟨g,cap,cur,rfl,hb,hg,hn,hm,hs,ht⟩
  · have:xs=[]:=List.eq_nil_of_length_eq_zero (by simpa using h.1)
    subst this
    exact ⟨none,0,rfl,fun _ h=>(by cases h),Nat.le_refl _,fun j v hv=>by simp at hv⟩
  refine ⟨_,cap,rfl,fun a ha=>by cases ha;exact ⟨hb,rfl,rfl⟩,hn,fun j v hv=>⟨_,rfl,?_⟩⟩
  exact h.cells rfl j v hv
class Cell1L (vs:List Value):Prop where eq:∀ u∈vs,u.oneCell'=true
instance cell1l_nil:Cell1L []:=⟨by simp⟩
instance cell1l_cons (v:Value) (l:List Value) [h:Cell1 v] [k:Cell1L l]:Cell1L (v :: l):=⟨by
  intro u hu
  rcases List.mem_cons.1 hu with rfl | hu
  · exact h.eq
  exact k.eq u hu⟩
theorem own_keep {base:Nat} {e:TypeId} {sz n:Nat} {v:Value} {xs:List Value} {w':World} (h:w.ownsRow base e sz v n xs) (hk:Keep S w w') (hs:∀ k,v.ownBlock=some k->¬ S k):w'.ownsRow base e sz v n xs:=by
  refine ⟨h.1,?_⟩
  rcases h.2 with hn | ⟨g,cap,cur,rfl,hb,hg,rest⟩
  · exact .inl hn
  refine .inr ⟨g,cap,cur,rfl,hb,?_,rest⟩
  rw [hk.block g (Array.getElem?_eq_some_iff.1 hg).1 (hs g rfl)]
  exact hg
theorem own_ext {base:Nat} {e:TypeId} {sz n:Nat} {v:Value} {xs:List Value} {w':World} (h:w.ownsRow base e sz v n xs) (hk:Lk w' w NoB):w'.ownsRow base e sz v n xs:=own_keep h hk.keep (fun _ _ h=>h)
theorem v_sliceL {x y:Operand} {t e:TypeId} {A:Option Addr} {n c sz bytes:Nat} {z:Value} {i:Int} (k:Nat) [hx:EvO N τ x (.slice A n c)] [hy:EvO N τ y (.int .i64 i)] [hu:Und P t (.slice e)] [hi:Inf P e sz bytes z] (hk:i=(k:Int)) (hn:k<=n) :
    Val P r N S (.slice t x (some y) none none) ty τ w (.slice (if c=k then A else A.map (·.add (k*sz))) (n - k) (c - k)):=⟨fun _=>nofun,fun W _=>by
  obtain ⟨ii,h1,h2,h3,h4⟩:=hi.ex
  subst hk;subst h2
  simp [execOp,hx.eq,hy.eq,Instr.sliceAt,run_underlying hu.eq,Instr.slice,Instr.sliceBounds,Instr.sliceBound,asIntOf,hn,sizeOf,typeInfo,program,Sem.run,h1]⟩
theorem v_sliceH {x y:Operand} {t e:TypeId} {A:Option Addr} {n c sz bytes:Nat} {z:Value} {i:Int} (k:Nat) [hx:EvO N τ x (.slice A n c)] [hy:EvO N τ y (.int .i64 i)] [hu:Und P t (.slice e)] [hi:Inf P e sz bytes z] (hk:i=(k:Int)) (hn:k<=c) :
    Val P r N S (.slice t x none (some y) none) ty τ w (.slice A k c):=⟨fun _=>nofun,fun W _=>by
  obtain ⟨ii,h1,h2,h3,h4⟩:=hi.ex
  subst hk;subst h2
  have:A.map (·.add 0)=A:=by cases A<;>simp [Addr.add]
  simp [execOp,hx.eq,hy.eq,Instr.sliceAt,run_underlying hu.eq,Instr.slice,Instr.sliceBounds,Instr.sliceBound,asIntOf,hn,sizeOf,typeInfo,program,Sem.run,h1,this]⟩
theorem run_isAgg_many {t:TypeId} {n:Nat} (h:Many P t n) (W:World):(isAgg t).run P W=.ok true W:=by
  obtain ⟨dd,i,h7,h8,_⟩:=h.ex
  unfold isAgg
  cases dd<;>simp_all [run_underlying h7]
theorem run_loadCellsFrom (W:World) (a:Addr):∀ (vs:List Value) (k:Nat) (acc:Array Value),(∀ j v,vs[j]?=some v->W.cell? (a.add (k+j))=some v)->(loadCellsFrom a k vs.length acc).run P W=.ok (acc++vs.toArray) W
  | [],_,acc,_=>by simp [loadCellsFrom]
  | v :: vs,k,acc,h=>by
    have h0:W.cell? (a.add k)=some v:=by simpa using h 0 v rfl
    have ih:=run_loadCellsFrom W a vs (k+1) (acc.push v) (fun j u hj=>by have:=h (j+1) u (by simpa using hj);rwa [show k+(j+1)=k+1+j by omega] at this)
    simp only [List.length_cons,loadCellsFrom,Sem.run_bind,run_load,h0,Result.andThen_ok,ih]
    simp
theorem run_loadVar_many {t:TypeId} {n:Nat} (ht:Many P t n) (W:World) (a:Addr) (vs:List Value) (hl:vs.length=n) (h:∀ j v,vs[j]?=some v->W.cell? (a.add j)=some v):(loadVar t a).run P W=.ok (.agg vs.toArray) W:=by
  have hag:=run_isAgg_many ht W
  obtain ⟨dd,i,h7,h8,h9,h10⟩:=ht.ex
  have hsz:(sizeOf t).run P W=.ok n W:=by simp [sizeOf,typeInfo,program,Sem.run,h9,h10]
  have hlc:=run_loadCellsFrom (P:=P) W a vs 0 #[] (by simpa using h)
  rw [hl] at hlc
  simp [loadVar,hag,hsz,loadCells,hlc]
theorem v_loadA {x:Operand} {t e:TypeId} {b off n:Nat} {cs vs:List Value} {fr:Nat×Nat} [hx:EvO N τ x (.pointer (some ⟨b,off,none⟩))] [ho:Many P t n] [hb:Blk w b (.cells cs.toArray e fr)] [hs:NotS S b] [hc:CsSub cs off n vs]:Val P r N S (.load t x) ty τ w (.agg vs.toArray):=⟨fun _=>nofun,fun W hW=>by
  have h1:=(hW.block b (Array.getElem?_eq_some_iff.1 hb.eq).1 hs.not).trans hb.eq
  obtain ⟨e1,e2⟩:=hc.eq
  have hl:vs.length=n:=by rw [<- e1];simp;omega
  have h2:∀ j v,vs[j]?=some v->W.cell? ((⟨b,off,none⟩:Addr).add j)=some v:=fun j v hj=>by
    rw [add_none,cell_of_blk h1]
    rw [<- e1,List.getElem?_take] at hj
    split at hj
    · rw [List.getElem?_drop] at hj;simpa using hj
    cases hj
  have:=run_loadVar_many ho W ⟨b,off,none⟩ vs hl h2
  simp [execOp,hx.eq,Instr.loadAt,Instr.sureAddr,this]⟩
theorem v_loadRA {x:Operand} {t:TypeId} {A:Option Addr} {j n:Nat} {cs vs:List Value} [hx:EvO N τ x (padd A j)] [ho:Many P t n] [hr:Row w A cs] [hs:RowOut S A] (hl:vs.length=n) (hA:A.isSome=true) (hv:∀ i u,vs[i]?=some u->cs[j+i]?=some u):Val P r N S (.load t x) ty τ w (.agg vs.toArray):=⟨fun _=>nofun,fun W hW=>by
  obtain ⟨a,rfl⟩:=Option.isSome_iff_exists.1 hA
  have h2:∀ i v,vs[i]?=some v->W.cell? ((a.add j).add i)=some v:=fun i v hi=>by
    obtain ⟨a',ha',hc⟩:=(hr.row.keep hW hs.out) (j+i) v (hv i v hi)
    cases ha'
    rw [add_add];exact hc
  have:=run_loadVar_many ho W (a.add j) vs hl h2
  simp [execOp,hx.eq,padd,Instr.loadAt,Instr.sureAddr,this]⟩
theorem evc {t:Nat} {u v:Value} [h:Ev τ t v] (e:v=u:=by rfl):Ev τ t u:=⟨h.eq.trans e⟩
theorem v_convert {x:Operand} {s t:TypeId} {k k':IntKind} {a:Int} {ds:TypeDesc} [hx:EvO N τ x (.int k' a)] [hs:Und P s ds] [hd:Und P t (.int k)]:Val P r N S (.convert s t x) ty τ w (.int k (k.wrap a)):=⟨fun _=>nofun,fun W _=>by
  simp [execOp,hx.eq,convert,run_underlying hs.eq,run_underlying hd.eq,Conv.intToInt]⟩
end laws
theorem row_some {w:World} {A:Option Addr} {cs:List Value} (h:Row w A cs) (hl:0<cs.length):A.isSome=true:=by
  obtain ⟨a,rfl,_⟩:=h.row 0 cs[0] (List.getElem?_eq_getElem hl)
  rfl
end Go.Wst
