/- A part of the walks through the log and its document, and of the law in plain Lean: Xg Xh. -/
import Derived.Test.YtigmfcgeljjgnaaGreatJ03
import Derived.RangeFuncRecord
set_option linter.all false
namespace Go.Wst
def CallV (P:Program) (g:Value) (vs:List Value) (w:World) (R:Value->World->Prop):Prop:=
  (∃ f a c,g=.func (.func f) a c/\Fun P f/\Ret P f (a++vs.toArray++c) w R) \/
  (∃ l f tmps assign body,g=.func (.yield l) #[] #[]/\(Instr.yield l vs.toArray).run P w=.ok (.round l f tmps assign body) w/\RoundIn (FX none) 0 P l f tmps assign body w (fun e w'=>∃ v,e=.returned v/\R v w'))
theorem CallV.mono {P:Program} {g:Value} {vs:List Value} {w:World} {R R':Value->World->Prop} (h:CallV P g vs w R) (hr:∀ v w',R v w'->R' v w'):CallV P g vs w R':=by
  rcases h with ⟨f,a,c,h1,h2,h3⟩ | ⟨l,f,t,asx,bd,h1,h2,h3⟩
  · exact .inl ⟨f,a,c,h1,h2,h3.mono hr⟩
  exact .inr ⟨l,f,t,asx,bd,h1,h2,h3.mono fun _ _ ⟨v,he,hv⟩=>⟨v,he,hr _ _ hv⟩⟩
theorem CallV.of_ret {P:Program} {f:FuncId} {a c vs asx as2:List Value} {w:World} {R:Value->World->Prop} [hf:Fun P f] [h1:App a vs asx] [h2:App asx c as2] (h:Ret P f as2.toArray w R):CallV P (.func (.func f) a.toArray c.toArray) vs w R:=
  .inl ⟨f,_,_,rfl,hf,by
    have e:a.toArray++vs.toArray++c.toArray=as2.toArray:=by rw [<- h2.eq,<- h1.eq];simp
    rw [e];exact h⟩
section laws
variable {P:Program} {r:Option Nat} {N:Nat} {S T U:Nat->Prop} {Q:Post} {τ:Tau} {ds:List Deferred} {w:World} {ty:TypeId} {ops:Array Oper} {rest:List Oper} {pos:String} {aft:Array Edge} {d:Nat} {v:Value} {op:Op}
theorem OpE_callv {g:Operand} {args:List Operand} {at_:Array TypeId} {gv:Value} {vs:List Value} {R:Value->World->Prop} {K:Tau->List Deferred->World->Prop} {dst:Option Nat}
    [hg:EvO N τ g gv] [hv:EvL N τ args vs] (hc:CallV P gv vs w R) (h:∀ v w',R v w'->K (updO τ dst v) ds w'):OpE P r N ops ⟨dst,.call { callee:=.value g,args:=args.toArray,argTypes:=at_ },ty,pos,aft,none⟩ Q τ ds w K:=by
  have e1:(args.toArray.map (evO N τ))=vs.toArray:=by simp [hv.eq]
  unfold OpE
  rw [if_pos (by rfl),semAt_op _ (fun c h=>by cases h)]
  rcases hc with ⟨f,a,c,rfl,hf,h3⟩ | ⟨l,f,t,asx,bd,rfl,h2,h3⟩
  · obtain ⟨fn,cc,hfn,hnm,hb⟩:=hf.ex
    have hr:(execOp (evO N τ) ⟨none,.call { callee:=.value g,args:=args.toArray,argTypes:=at_ },ty,"",#[],none⟩).run P w=.ok (.enter f (a++vs.toArray++c)) w:=by
      simp only [execOp,resolve,Sem.run_bind,hg.eq,Deferred.ofValue,e1,invoke,callFunc,program,Sem.run,hfn,hnm,hb,Sem.run_pure,Result.andThen_ok,beq_iff_eq,if_false,Option.isNone_some,Bool.false_eq_true]
    rw [hr]
    exact Calls.mono h3 fun e w'' ⟨v,he,hR⟩=>.inl ⟨v,he,h v w'' hR⟩
  have hr:(execOp (evO N τ) ⟨none,.call { callee:=.value g,args:=args.toArray,argTypes:=at_ },ty,"",#[],none⟩).run P w=.ok (.round l f t asx bd) w:=by
    simp only [execOp,resolve,Sem.run_bind,hg.eq,Deferred.ofValue,e1,invoke,Sem.run_pure,Result.andThen_ok,Array.empty_append,h2]
  rw [hr]
  exact RoundIn.mono (F:=FX r) h3 fun e w'' ⟨v,he,hR⟩=>.inl ⟨v,he,h v w'' hR⟩
theorem xl_callv {g:Operand} {args:List Operand} {at_:Array TypeId} {gv:Value} {vs:List Value} {R:Value->World->Prop} [hg:EvO N τ g gv] [hv:EvL N τ args vs]
    (hc:CallV P gv vs w R) (h:∀ v w',R v w'->XL P r N ops Q rest (upd τ d v) ds w'):XL P r N ops Q (⟨some d,.call { callee:=.value g,args:=args.toArray,argTypes:=at_ },ty,pos,aft,none⟩ :: rest) τ ds w:=OpE_callv hc h
theorem xt_callv {p:Plan} {i:Nat} {pos':String} {aft':Array Edge} {g:Operand} {args:List Operand} {at_:Array TypeId} {gv:Value} {vs:List Value} {R:Value->World->Prop} (hi:ops[i]?=some ⟨some d,.call { callee:=.value g,args:=args.toArray,argTypes:=at_ },ty,pos',aft',none⟩) [hg:EvO N τ g gv] [hv:EvL N τ args vs]
    (hc:CallV P gv vs w R) (h:∀ v w',R v w'->Keep S w w'/\XT P r N ops Q S U p (upd τ d v) ds w'):XT P r N ops Q S U (.eff i p) τ ds w:=by
  show match ops[i]? with | some o=>OpE P r N ops o Q τ ds w (fun τ' ds' w'=>Keep S w w'/\XT P r N ops Q S U p τ' ds' w') | none=>False
  rw [hi]
  exact OpE_callv hc h
end laws
abbrev Seen:=List (List Value)
structure Stable (I:Seen->(Nat->Prop)->World->Prop) (w0:World):Prop where
  lt:∀ pre F W,I pre F W->∀ k,F k->k<W.heap.size
  keep:∀ pre F W W' S,I pre F W->Keep S W W'->(∀ k,F k->¬ S k)->(∀ k,S k->w0.heap.size<=k)->I pre F W'
structure YieldsI (P:Program) (y:Value) (Al:Seen->Prop) (I J:Seen->(Nat->Prop)->World->Prop) (w0:World):Prop where
  i:Stable I w0
  j:Stable J w0
  step:∀ pre v F W,Al (pre++[v])->I pre F W->CallV P y v W (fun r W'=>∃ b F',r=.bool b/\(if b=true then I (pre++[v]) F' W' else J (pre++[v]) F' W')/\Keep F W W'/\Sub F' F W)
def IterI (P:Program) (g:Value) (Own:Nat->Prop) (Al Fin:Seen->Prop) (w:World):Prop:=
  ∀ y I J F w0,YieldsI P y Al I J w0->w0.heap.size<=w.heap.size->I [] F w->(∀ k,F k->¬ Own k)->CallV P g [y] w (fun _ w'=>∃ pre F',((Fin pre/\I pre F' w')\/J pre F' w')/\Keep F w w'/\Sub F' F w)
def updL (τ:Tau):List Nat->List Value->Tau
  | p :: ps,v :: vs=>updL (upd τ p v) ps vs
  | _,_=>τ
theorem rel_zip {N:Nat}:∀ (ps:List Nat) (vs:List Value) (τ:Tau) (tmps:Array Value),Rel N τ [] ⟨tmps,[]⟩->Rel N (updL τ ps vs) [] ⟨(ps.zip vs).foldl (fun t (p:Nat×Value)=>t.setIfInBounds p.1 p.2) tmps,[]⟩
  | [],vs,τ,tmps,h=>by cases vs<;>exact h
  | _ :: _,[],τ,tmps,h=>h
  | p :: ps,v :: vs,τ,tmps,h=>rel_zip ps vs (upd τ p v) (tmps.setIfInBounds p v) (h.put (some p) v)
def roundQ (I:Seen->(Nat->Prop)->World->Prop) (J:Exit->Seen->(Nat->Prop)->World->Prop) (pre:Seen) (F:Nat->Prop) (W:World):Post
  | .normal,_,_,W'=>∃ F',I pre F' W'/\Keep F W W'/\Sub F' F W
  | .ret,_,_,W'=>∃ F',J .ret pre F' W'/\Keep F W W'/\Sub F' F W
  | .exit id,_,_,W'=>∃ F',J (.exit id) pre F' W'/\Keep F W W'/\Sub F' F W
  | _,_,_,_=>False
def codeOf:Exit->Option Code
  | .ret=>some .ret
  | .exit id=>some (.exit id)
  | _=>none
def markOf (D:Nat):Deferred:={ target:=.collected D,args:=#[] }
theorem keep_putObj (w:World) (b:Nat) (o:Obj):Keep (OneB b) w (w.putObj b o):=⟨rfl,rfl,rfl,by simp [World.putObj],fun k _ hk=>World.putObj_heap_other (fun e=>hk e)⟩
theorem x_range {P:Program} {N:Nat} {Q:Post} {τ:Tau} {ds:List Deferred} {w:World} {g:Operand} {gf:FuncId} {ga gc:Array Value} {ps:List Nat} {assign body:Code} [hg:EvO N τ g (.func (.func gf) ga gc)]
    (Own:Nat->Prop) (Al Fin:Seen->Prop) (hit:∀ W,Lk W w NoB->IterI P (.func (.func gf) ga gc) Own Al Fin W) (hOwn:∀ k,Own k->k<w.heap.size) (hAl:∀ pre v,Al (pre++[v])->v.length=ps.length)
    (I:Seen->(Nat->Prop)->World->Prop) (J:Exit->Seen->(Nat->Prop)->World->Prop) (F0:Nat->Prop) (hI:Stable I w) (hJ:∀ e,Stable (J e) w) (h0:I [] F0 w) (hF:∀ k,F0 k->¬ Own k)
    (B:List Value->Tau->Prop)
    (ha:∀ l v W,v.length=ps.length->X P (some l) N assign (thn (fun τ1 _ W1=>W1=W/\B v τ1) (fun _ _ _ _=>False)) (updL τ ps v) [] W)
    (hb:∀ l pre v F W τ1 ds1,Al (pre++[v])->I pre F W->B v τ1->X P (some l) N body (roundQ I J (pre++[v]) F W) τ1 ds1 W)
    (hn:∀ D pre F W,Fin pre->I pre F W->Keep F0 w W->Sub F F0 w->Blk W D (.deferred (some []))->w.heap.size<=D->¬ F D->Q .normal τ (markOf D :: ds) W)
    (hj:∀ D e pre F W,J e pre F W->(codeOf e).isSome=true->Keep F0 w W->Sub F F0 w->Blk W D (.deferred (some []))->w.heap.size<=D->¬ F D->Q e τ (markOf D :: ds) W) :
    X P none N (.rangeFunc g ps.toArray assign body) Q τ ds w:=by
  intro a hrel
  refine wpIn_rangeFunc ?_
  intro fn hfn
  obtain ⟨rec,hrec⟩:∃ rec:LoopState->Option Code->Loop,rec=fun st pe=>{ state:=st,pending:=pe,fn,tmps:=a.tmps,params:=ps.toArray,assign,body,defers:=w.heap.size }:=⟨_,rfl⟩
  obtain ⟨W1,hW1⟩:∃ W1,(w.alloc (.deferred (some []))).alloc (.loop (rec .ready none))=W1:=⟨_,rfl⟩
  obtain ⟨l,hl⟩:∃ l,l=w.heap.size+1:=⟨_,rfl⟩
  have hk1:Keep NoB w W1:=by rw [<- hW1];exact (Keep.alloc w _).trans (Keep.alloc _ _)
  have hL1:W1.heap[l]?=some (.loop (rec .ready none)):=by
    rw [<- hW1,hl];have:=heap_alloc_new (w.alloc (.deferred (some []))) (.loop (rec .ready none));rwa [World.size_alloc] at this
  have hD1:W1.heap[w.heap.size]?=some (.deferred (some [])):=by
    rw [<- hW1];exact ((Keep.alloc (w.alloc (.deferred (some []))) (.loop (rec .ready none))).block _ (by simp) (fun h=>h)).trans (heap_alloc_new w _)
  have hF0:=hI.lt _ _ _ h0
  obtain ⟨I',hI'⟩:∃ I':Seen->(Nat->Prop)->World->Prop,I'=fun pre F' W=>∃ F,(∀ k,F' k↔(F k\/k=l))/\¬ F l/\I pre F W/\W.heap[l]?=some (.loop (rec .ready none))/\Sub F F0 w/\¬ F w.heap.size:=⟨_,rfl⟩
  obtain ⟨J',hJ'⟩:∃ J':Seen->(Nat->Prop)->World->Prop,J'=fun pre F' W=>∃ F e,(codeOf e).isSome=true/\(∀ k,F' k↔(F k\/k=l))/\¬ F l/\J e pre F W/\W.heap[l]?=some (.loop (rec .done (codeOf e)))/\Sub F F0 w/\¬ F w.heap.size:=⟨_,rfl⟩
  have hlw:∀ k,OneB l k->w.heap.size<=k:=fun k e=>by have e':k=l:=e;omega
  have hyields:YieldsI P (.func (.yield l) #[] #[]) Al I' J' w:=by
    rw [hI',hJ']
    refine ⟨⟨?_,?_⟩,⟨?_,?_⟩,?_⟩
    · rintro pre F' W ⟨F,h1,h2,h3,h4,_⟩ k hk
      rcases (h1 k).1 hk with h | h
      · exact hI.lt _ _ _ h3 k h
      rw [h];exact (Array.getElem?_eq_some_iff.1 h4).1
    · rintro pre F' W W' S ⟨F,h1,h2,h3,h4,h5⟩ hk hs hnew
      exact ⟨F,h1,h2,hI.keep _ _ _ _ _ h3 hk (fun k h=>hs k ((h1 k).2 (.inl h))) hnew,(hk.block l (Array.getElem?_eq_some_iff.1 h4).1 (hs l ((h1 l).2 (.inr rfl)))).trans h4,h5⟩
    · rintro pre F' W ⟨F,e,_,h1,h2,h3,h4,_⟩ k hk
      rcases (h1 k).1 hk with h | h
      · exact (hJ e).lt _ _ _ h3 k h
      rw [h];exact (Array.getElem?_eq_some_iff.1 h4).1
    · rintro pre F' W W' S ⟨F,e,h0,h1,h2,h3,h4,h5⟩ hk hs hnew
      exact ⟨F,e,h0,h1,h2,(hJ e).keep _ _ _ _ _ h3 hk (fun k h=>hs k ((h1 k).2 (.inl h))) hnew,(hk.block l (Array.getElem?_eq_some_iff.1 h4).1 (hs l ((h1 l).2 (.inr rfl)))).trans h4,h5⟩
    rintro pre v F' W hal ⟨F,h1,h2,h3,h4,h5,h6⟩
    have hlt:l<W.heap.size:=(Array.getElem?_eq_some_iff.1 h4).1
    have hvl:=hAl pre v hal
    have hy:=run_yield (P:=P) (args:=v.toArray) h4 (by rw [hrec];simp [hvl])
    refine .inr ⟨l,fn,_,assign,body,rfl,by rw [hrec] at hy;exact hy,roundIn_of_wpIn (F:=FX none) hfn ?_⟩
    have hz:Rel N (updL τ ps v) [] ⟨(ps.zip v).foldl (fun t (p:Nat×Value)=>t.setIfInBounds p.1 p.2) a.tmps,[]⟩:=rel_zip ps v τ a.tmps ⟨hrel.size,hrel.get,rfl⟩
    have hzz:(Array.foldl (fun (tmps:Array Value) (x:Nat×Value)=>tmps.setIfInBounds x.1 x.2) a.tmps (ps.toArray.zip v.toArray))=(ps.zip v).foldl (fun t (p:Nat×Value)=>t.setIfInBounds p.1 p.2) a.tmps:=by
      rw [List.zip_toArray,List.foldl_toArray]
    have h7:=ha l v W hvl _ hz
    have h8:Code.wpIn (FX (some l)) 0 P assign (Exit.then (fun a₁ w₁=>∃ w₂,(Instr.beginRound l).run P w₁=.ok () w₂/\body.wpIn (FX (some l)) 0 P (roundPost P l (fun e w'=>∃ v_1,e=.returned v_1/\∃ b F'_1,v_1=.bool b/\(if b=true then (fun pre F' W=>∃ F,(∀ k,F' k↔(F k\/k=l))/\¬ F l/\I pre F W/\W.heap[l]?=some (.loop (rec .ready none))/\Sub F F0 w/\¬ F w.heap.size) (pre++[v]) F'_1 w' else (fun pre F' W=>∃ F e,(codeOf e).isSome=true/\(∀ k,F' k↔(F k\/k=l))/\¬ F l/\J e pre F W/\W.heap[l]?=some (.loop (rec .done (codeOf e)))/\Sub F F0 w/\¬ F w.heap.size) (pre++[v]) F'_1 w')/\Keep F' W w'/\Sub F'_1 F' W)) a₁ w₂) (fun _ _ _=>False))
        ⟨(ps.zip v).foldl (fun t (p:Nat×Value)=>t.setIfInBounds p.1 p.2) a.tmps,[]⟩ W:=by
      refine wpIn_mono h7 ?_
      rintro e a1 W2 ⟨τ1,d1,hr1,hq⟩
      cases e with
      | normal=>
        obtain ⟨rfl,hB⟩:=hq
        refine ⟨_,run_beginRound h4 (by rw [hrec]),?_⟩
        have hk2:=keep_putObj W2 l (.loop { rec .ready none with state:=.busy })
        have hl2:(W2.putObj l (.loop { rec .ready none with state:=.busy })).heap[l]?=some (.loop { rec .ready none with state:=.busy }):=World.putObj_heap_same hlt
        have hi2:=hI.keep _ _ _ _ _ h3 hk2 (fun k hk e=>h2 (by have e':k=l:=e;rw [<- e'];exact hk)) hlw
        refine wpIn_mono (hb l pre v F _ τ1 d1 hal hi2 hB a1 hr1) ?_
        have fin:∀ (jump:Option Code) (W3:World) (F3:Nat->Prop),Keep F (W2.putObj l (.loop { rec .ready none with state:=.busy })) W3->Sub F3 F (W2.putObj l (.loop { rec .ready none with state:=.busy })) ->
            (Instr.endRound l jump).run P W3=.ok (.bool jump.isNone) (W3.putObj l (.loop (rec (if jump.isNone then .ready else .done) jump))) /\
            (W3.putObj l (.loop (rec (if jump.isNone then .ready else .done) jump))).heap[l]?=some (.loop (rec (if jump.isNone then .ready else .done) jump)) /\
            ¬ F3 l/\Keep F' W2 (W3.putObj l (.loop (rec (if jump.isNone then .ready else .done) jump)))/\Sub (fun k=>F3 k\/k=l) F' W2/\Sub F3 F0 w/\¬ F3 w.heap.size:=by
          intro jump W3 F3 hk3 hs3
          have hsz:(W2.putObj l (.loop { rec .ready none with state:=.busy })).heap.size=W2.heap.size:=by simp [World.putObj]
          have hl3:=(hk3.block l (by rw [hsz];exact hlt) h2).trans hl2
          have hr:=run_endRound (P:=P) jump hl3
          have hw2:w.heap.size<=W2.heap.size:=by omega
          refine ⟨by rw [hrec] at hr ⊢;exact hr,World.putObj_heap_same (Array.getElem?_eq_some_iff.1 hl3).1,fun h=>(hs3 l h).elim h2 (fun e=>by rw [hsz] at e;omega),?_,?_,?_,?_⟩
          · have k1:Keep F' W2 (W2.putObj l (.loop { rec .ready none with state:=.busy })):=hk2.mono (fun k _ e=>(h1 k).2 (.inr e))
            have k2:Keep F' W2 W3:=k1.then hk3 (fun k _ e=>(h1 k).2 (.inl e))
            exact k2.then (keep_putObj W3 l _) (fun k _ e=>(h1 k).2 (.inr e))
          · rintro k (hk | hk)
            · exact (hs3 k hk).imp (fun e=>(h1 k).2 (.inl e)) (fun e=>by rw [hsz] at e;exact e)
            exact .inl ((h1 k).2 (.inr hk))
          · intro k hk
            rcases hs3 k hk with e | e
            · exact h5 k e
            rw [hsz] at e;exact .inr (Nat.le_trans hw2 e)
          intro hk
          rcases hs3 _ hk with e | e
          · exact h6 e
          rw [hsz] at e;omega
        rintro e3 a3 W3 ⟨τ3,d3,hr3,hp⟩
        cases e3 with
        | normal=>
          obtain ⟨F3,hi3,hk3,hs3⟩:=hp
          obtain ⟨e1,e2,e3,e4,e5,e6,e7⟩:=fin none W3 F3 hk3 hs3
          have hi4:=hI.keep _ _ _ _ _ hi3 (keep_putObj W3 l (.loop (rec .ready none))) (fun k hk e=>e3 (by have e':k=l:=e;rw [<- e'];exact hk)) hlw
          exact ⟨_,_,e1,_,rfl,true,_,rfl,by rw [if_pos rfl];exact ⟨F3,fun k=>Iff.rfl,e3,hi4,e2,e6,e7⟩,e4,e5⟩
        | ret=>
          obtain ⟨F3,hi3,hk3,hs3⟩:=hp
          obtain ⟨e1,e2,e3,e4,e5,e6,e7⟩:=fin (some .ret) W3 F3 hk3 hs3
          have hi4:=(hJ .ret).keep _ _ _ _ _ hi3 (keep_putObj W3 l (.loop (rec .done (some .ret)))) (fun k hk e=>e3 (by have e':k=l:=e;rw [<- e'];exact hk)) hlw
          exact ⟨_,_,e1,_,rfl,false,_,rfl,by rw [if_neg (by simp)];exact ⟨F3,.ret,rfl,fun k=>Iff.rfl,e3,hi4,e2,e6,e7⟩,e4,e5⟩
        | exit id=>
          obtain ⟨F3,hi3,hk3,hs3⟩:=hp
          obtain ⟨e1,e2,e3,e4,e5,e6,e7⟩:=fin (some (.exit id)) W3 F3 hk3 hs3
          have hi4:=(hJ (.exit id)).keep _ _ _ _ _ hi3 (keep_putObj W3 l (.loop (rec .done (some (.exit id))))) (fun k hk e=>e3 (by have e':k=l:=e;rw [<- e'];exact hk)) hlw
          exact ⟨_,_,e1,_,rfl,false,_,rfl,by rw [if_neg (by simp)];exact ⟨F3,.exit id,rfl,fun k=>Iff.rfl,e3,hi4,e2,e6,e7⟩,e4,e5⟩
        | goto t=>exact hp.elim
        | panic ch=>exact hp.elim
        | outgrown=>exact hp.elim
      | exit id=>exact hq.elim
      | goto t=>exact hq.elim
      | ret=>exact hq.elim
      | panic ch=>exact hq.elim
      | outgrown=>exact hq.elim
    rw [hrec]
    simp only []
    rw [hzz]
    rw [hrec] at h8
    exact h8
  have hstart:I' [] (fun k=>F0 k\/k=l) W1:=by
    rw [hI']
    exact ⟨F0,fun k=>Iff.rfl,fun e=>by have:=hF0 l e;omega,hI.keep _ _ _ _ _ h0 hk1 (fun _ _ h=>h) (fun _ h=>h.elim),hL1,Sub.refl _ _,fun e=>by have:=hF0 _ e;omega⟩
  have hiter:=hit W1 ⟨hk1⟩ (.func (.yield l) #[] #[]) I' J' (fun k=>F0 k\/k=l) w hyields hk1.size hstart (fun k hk=>by
    rcases hk with hk | hk
    · exact hF k hk
    intro e;have:=hOwn k e;omega)
  have hgv:=hg.eq
  have post:∀ (v:Value) (w3:World),(∃ pre F',((Fin pre/\I' pre F' w3)\/J' pre F' w3)/\Keep (fun k=>F0 k\/k=l) W1 w3/\Sub F' (fun k=>F0 k\/k=l) W1) ->
      rangePost (FX none) 0 P l (lift N Q) { a with defers:=markOf w.heap.size :: a.defers } (.returned v) w3:=by
    rintro v w3 ⟨pre,F',hor,hk3,hs3⟩
    have hD3:w3.heap[w.heap.size]?=some (.deferred (some [])):=(hk3.block _ (Array.getElem?_eq_some_iff.1 hD1).1 (fun e=>e.elim (fun e=>by have:=hF0 _ e;omega) (fun e=>by omega))).trans hD1
    have hrel2:Rel N τ (markOf w.heap.size :: ds) { a with defers:=markOf w.heap.size :: a.defers }:=⟨hrel.size,hrel.get,by simp [hrel.dfs]⟩
    have hkw:∀ o,Keep F0 w (w3.putObj l o):=fun o=>by
      have k1:Keep F0 w W1:=hk1.mono (fun _ _ h=>h.elim)
      have k2:Keep F0 w w3:=k1.then hk3 (fun k hk e=>e.elim (fun e=>e) (fun e=>by omega))
      exact k2.then (keep_putObj w3 l o) (fun k hk e=>by have e':k=l:=e;omega)
    rcases hor with ⟨hfin,hi⟩ | hjj
    · rw [hI'] at hi
      obtain ⟨F,h1,h2,h3,h4,h5,h6⟩:=hi
      refine ⟨none,_,by have:=run_endLoop (P:=P) h4 (by rw [hrec];simp);rw [hrec] at this;exact this,τ,_,hrel2,?_⟩
      refine hn w.heap.size pre F _ hfin (hI.keep _ _ _ _ _ h3 (keep_putObj w3 l _) (fun k hk e=>h2 (by have e':k=l:=e;rw [<- e'];exact hk)) hlw) (hkw _) h5 ⟨(World.putObj_heap_other (by omega)).trans hD3⟩ (Nat.le_refl _) h6
    rw [hJ'] at hjj
    obtain ⟨F,e,hc,h1,h2,h3,h4,h5,h6⟩:=hjj
    have hq:=hj w.heap.size e pre F _ ((hJ e).keep _ _ _ _ _ h3 (keep_putObj w3 l (.loop { rec .done (codeOf e) with state:=.exhausted })) (fun k hk e=>h2 (by have e':k=l:=e;rw [<- e'];exact hk)) hlw) hc (hkw _) h5 ⟨(World.putObj_heap_other (by omega)).trans hD3⟩ (Nat.le_refl _) h6
    have hrun:(Instr.endLoop l).run P w3=.ok (codeOf e) (w3.putObj l (.loop { rec .done (codeOf e) with state:=.exhausted })):=by
      subst hrec
      exact run_endLoop (P:=P) h4 (by simp)
    refine ⟨codeOf e,_,hrun,?_⟩
    cases e with
    | ret=>exact wpIn_ret ⟨τ,_,hrel2,hq⟩
    | exit id=>exact wpIn_exit ⟨τ,_,hrel2,hq⟩
    | normal=>simp [codeOf] at hc
    | goto t=>simp [codeOf] at hc
    | panic ch=>simp [codeOf] at hc
    | outgrown=>simp [codeOf] at hc
  have henter:=run_enterLoop_outer (P:=P) (w:=w) fn a.tmps ps.toArray assign body
  rcases hiter with ⟨f,aa,cc,hgf,hf,h3⟩ | ⟨l2,f,t,asx,bd,hgf,h2,h3⟩
  · cases hgf
    obtain ⟨fn2,cb,hfn2,hnm,hbd⟩:=hf.ex
    refine ⟨l,[markOf w.heap.size],W1,{ target:=.fn (.func gf) gc,args:=ga++#[.func (.yield l) #[] #[]] },W1,gf,ga++#[.func (.yield l) #[] #[]]++gc,W1,?_,?_,fun _ _=>trivial,?_,(fun h=>by simp [FX] at h),?_⟩
    · rw [hl,<- hW1,hrec];exact henter
    · have e1:a.eval g=.func (.func gf) ga gc:=by rw [hrel.eval];exact hgv
      have e0:resolve a.eval (rangeCall g l) 0=Deferred.ofValue (a.eval g) #[.func (.yield l) #[] #[]]:=by
        simp [resolve,rangeCall]
        rfl
      rw [e0,e1]
      simp [Deferred.ofValue]
    · simp [invoke,callFunc,program,Sem.run,hfn2,hnm,hbd]
    refine (callsIn_FX (r:=none) (n:=0 - 1)).2 (Calls.mono h3 ?_)
    rintro e w'' ⟨v,rfl,hR⟩
    exact post v w'' hR
  cases hgf
def AppE {α:Type} (told enc:α->List Value) (sz b2:Nat) (tc te:TypeId) (wb:World):Seen->(Nat->Prop)->World->Prop:=fun pre F W=>
  ∃ (l:List α) (V:Value),pre=l.map told/\W.heap[b2]?=some (.cells [V].toArray tc (0,0))/\W.ownsRow wb.heap.size te sz V l.length (l.flatMap enc)/\(∀ k,F k↔(k=b2\/V.ownBlock=some k))/\Keep (OneB b2) wb W
theorem appE_stable {α:Type} {told enc:α->List Value} {sz b2:Nat} {tc te:TypeId} {wb:World}:Stable (AppE told enc sz b2 tc te wb) wb:=by
  refine ⟨?_,?_⟩
  · rintro pre F W ⟨l,V,_,h1,h2,h3,_⟩ k hk
    rcases (h3 k).1 hk with e | e
    · subst e;exact (Array.getElem?_eq_some_iff.1 h1).1
    exact (h2.lt k e).2
  rintro pre F W W' S ⟨l,V,h0,h1,h2,h3,h4⟩ hk hs hn
  exact ⟨l,V,h0,(hk.block b2 (Array.getElem?_eq_some_iff.1 h1).1 (hs b2 ((h3 b2).2 (.inl rfl)))).trans h1,own_keep h2 hk (fun k hk=>hs k ((h3 k).2 (.inr hk))),h3,h4.then hk (fun k hlt hS=>by have:=hn k hS;omega)⟩
theorem appE_start {α:Type} {told enc:α->List Value} {sz b2:Nat} {tc te:TypeId} {wb:World} (h:wb.heap[b2]?=some (.cells #[.slice none 0 0] tc (0,0))):AppE told enc sz b2 tc te wb [] (OneB b2) wb:=
  ⟨[],.slice none 0 0,rfl,h,World.ownsRow_nil _ _ _ _,fun k=>⟨fun e=>.inl e,fun e=>e.elim id (fun e=>by cases e)⟩,Keep.refl _ _⟩
theorem appE_step {α:Type} {told enc:α->List Value} {sz b2:Nat} {tc te:TypeId} {wb W W':World} {l:List α} {x:α} {V V':Value} {F:Nat->Prop} (hb:b2<wb.heap.size) (ho:W.ownsRow wb.heap.size te sz V l.length (l.flatMap enc)) (hF:∀ k,F k↔(k=b2\/V.ownBlock=some k)) (hk0:Keep (OneB b2) wb W)
    (hk:Keep F W W') (hc:W'.heap[b2]?=some (.cells [V'].toArray tc (0,0))) (ho':W'.ownsRow wb.heap.size te sz V' (l.length+1) (l.flatMap enc++enc x)) (hn:V'.ownBlock=V.ownBlock\/∃ k,V'.ownBlock=some k/\W.heap.size<=k) :
    ∃ F',AppE told enc sz b2 tc te wb (l.map told++[told x]) F' W'/\Keep F W W'/\Sub F' F W:=by
  refine ⟨fun k=>k=b2\/V'.ownBlock=some k,⟨l++[x],V',by simp,hc,by simpa using ho',fun k=>Iff.rfl,?_⟩,hk,?_⟩
  · exact hk0.then hk (fun k hlt hk=>((hF k).1 hk).elim id (fun e=>by have:=(ho.lt k e).1;omega))
  rintro k (e | e)
  · exact .inl ((hF k).2 (.inl e))
  rcases hn with h | ⟨j,h,hj⟩
  · exact .inl ((hF k).2 (.inr (h ▸ e)))
  rw [h] at e;cases e;exact .inr hj
section
variable {P:Program} {b:Frame} {a:Act} {k:List Item} {cs:List Frame} {w:World}
theorem stepR_scope {c:Code}:step P (lone (b.atR a (.code (.scope c) :: k)) cs w)=.next (lone (b.atR a (.code c :: .inScope c :: k)) cs w):=
  step_lone_go (by simp [stepG,stepG.exec,Frame.atR])
theorem stepR_inScope {c:Code}:step P (lone (b.atR a (.inScope c :: k)) cs w)=.next (lone (b.atR a k) cs w):=
  step_lone_go (by simp [stepG,stepG.exec,Frame.atR])
end
def ng (Q:Post):Post
  | .goto _,_,_,_=>False
  | e,τ,ds,w=>Q e τ ds w
theorem x_scope {P:Program} {r:Option Nat} {N:Nat} {Q:Post} {τ:Tau} {ds:List Deferred} {w:World} {c:Code} (h:X P r N c (ng Q) τ ds w):X P r N (.scope c) Q τ ds w:=by
  intro a ha b k cs hro hb hr
  obtain ⟨e,a1,w1,⟨t,d,hr1,hq⟩,harr⟩:=h a ha b (.inScope c :: k) cs hro hb hr
  have hs:StepsIn (Machine.fenced P (FX r)) P (lone (b.atR a (.code (.scope c) :: k)) cs w) (lone (b.atR a (.code c :: .inScope c :: k)) cs w):=.one (fenced_calm hb hr rfl) stepR_scope
  cases e with
  | normal=>exact ⟨.normal,a1,w1,⟨t,d,hr1,hq⟩,.of_steps hs (StepsIn.trans harr (.one (fenced_calm hb hr rfl) stepR_inScope))⟩
  | goto l=>exact hq.elim
  | exit id=>
    have h2:ArrivesIn (Machine.fenced P (FX r)) P (lone (b.atR a (.code c :: .inScope c :: k)) cs w) b k cs (.exit id) a1 w1:=⟨fun k' hk=>harr.1 k' (by simp [exitTo,hk]),fun hr hk=>harr.2 hr (by simp [exitTo,hk])⟩
    exact ⟨_,a1,w1,⟨t,d,hr1,hq⟩,.of_steps hs h2⟩
  | ret=>exact ⟨_,a1,w1,⟨t,d,hr1,hq⟩,.of_steps hs harr⟩
  | panic ch=>exact ⟨_,a1,w1,⟨t,d,hr1,hq⟩,.of_steps hs harr⟩
  | outgrown=>exact ⟨_,a1,w1,⟨t,d,hr1,hq⟩,.of_steps hs harr⟩
theorem leaves_marks {P:Program} {fn:Func} {tmps:Array Value} {R:Value->World->Prop}:∀ (Ds:List Nat) (w:World),(∀ D∈Ds,w.heap[D]?=some (.deferred (some [])))->Ds.Nodup ->
    (∀ w',Keep (fun k=>k∈Ds) w w'->∃ v,(results fn tmps).run P w'=.ok v w'/\R v w')->LeavesInM (FX none) 0 P fn tmps (fun e w'=>∃ v,e=.returned v/\R v w') (Ds.map markOf) .returning w
  | [],w,_,_,h=>by
    obtain ⟨v,h1,h2⟩:=h w (Keep.refl _ _)
    exact ⟨v,h1,v,rfl,h2⟩
  | D :: Ds,w,hD,hnd,h=>by
    refine ⟨by simp,.inl ⟨D,_,rfl,run_takeDeferred (hD D (List.mem_cons_self ..)),?_⟩⟩
    obtain ⟨h1,h2⟩:=List.nodup_cons.1 hnd
    refine leaves_marks Ds _ (fun E hE=>(World.putObj_heap_other (fun e=>h1 (by rw [<- e];exact hE))).trans (hD E (List.mem_cons_of_mem _ hE))) h2 (fun w' hk=>?_)
    exact h w' (((keep_putObj w D _).mono (fun k _ e=>by have e':k=D:=e;rw [e'];exact List.mem_cons_self ..)).then hk (fun k _ e=>List.mem_cons_of_mem _ e))
section
variable {P:Program} {N:Nat} {τ:Tau} {w:World}
theorem finM {fn:Func} {R:Value->World->Prop} {rs:List ResultVar} {ds:List Deferred} (hr:fn.results=rs.toArray) (Ds:List Nat) (hds:ds=Ds.map markOf) (hD:∀ D∈Ds,w.heap[D]?=some (.deferred (some []))) (hnd:Ds.Nodup)
    (h:∀ w',Lk w' w (fun k=>k∈Ds)->∃ vs,RsV P N τ w' rs vs/\R (outV vs) w'):bodyQ P fn N R .ret τ ds w:=fun a ha=>by
  subst hds
  exact leaves_marks Ds w hD hnd (fun w' hk=>by
    obtain ⟨vs,h1,h2⟩:=h w' ⟨hk⟩
    exact ⟨_,run_results hr h1 a.tmps (fun t ht=>ha.get t ht),h2⟩)
theorem finMn {fn:Func} {R:Value->World->Prop} {rs:List ResultVar} {ds:List Deferred} (hr:fn.results=rs.toArray) (Ds:List Nat) (hds:ds=Ds.map markOf) (hD:∀ D∈Ds,w.heap[D]?=some (.deferred (some []))) (hnd:Ds.Nodup)
    (h:∀ w',Lk w' w (fun k=>k∈Ds)->∃ vs,RsV P N τ w' rs vs/\R (outV vs) w'):bodyQ P fn N R .normal τ ds w:=fun a ha=>by
  subst hds
  exact leaves_marks Ds w hD hnd (fun w' hk=>by
    obtain ⟨vs,h1,h2⟩:=h w' ⟨hk⟩
    exact ⟨_,run_results hr h1 a.tmps (fun t ht=>ha.get t ht),h2⟩)
end
section maps
variable {κ:Type} [DecidableEq κ] {enc:κ->Value} {kvs:List (κ×Value)} {m it:Nat}
def MapIt (w:World) (it m:Nat) (enc:κ->Value) (kvs pre rest:List (κ×Value)):Prop:=
  ∃ (es:Array MapEntry) (clock:Nat) (ps rs:List MapEntry),w.heap[m]?=some (.map es clock)/\es.toList.map (fun e=>(e.key,e.val))=kvs.map (fun p=>(enc p.1,p.2))/\(∀ e∈es.toList,e.born<clock)/\(es.toList.map (·.born)).Nodup /\
    w.heap[it]?=some (.mapIter (some m) clock (ps.map (·.born)).toArray clock)/\(ps++rs).Perm es.toList/\(pre++rest).Perm kvs/\ps.map (fun e=>(e.key,e.val))=pre.map (fun p=>(enc p.1,p.2))/\rs.map (fun e=>(e.key,e.val))=rest.map (fun p=>(enc p.1,p.2))
theorem MapIt.keep {w w':World} {S:Nat->Prop} {pre rest:List (κ×Value)} (h:MapIt w it m enc kvs pre rest) (hk:Keep S w w') (h1:¬ S it) (h2:¬ S m):MapIt w' it m enc kvs pre rest:=by
  obtain ⟨es,clock,ps,rs,a1,a2,a3,a4,a5,a6⟩:=h
  exact ⟨es,clock,ps,rs,(hk.block m (Array.getElem?_eq_some_iff.1 a1).1 h2).trans a1,a2,a3,a4,(hk.block it (Array.getElem?_eq_some_iff.1 a5).1 h1).trans a5,a6⟩
theorem MapIt.lt {w:World} {pre rest:List (κ×Value)} (h:MapIt w it m enc kvs pre rest):it<w.heap.size/\m<w.heap.size:=by
  obtain ⟨es,clock,ps,rs,a1,a2,a3,a4,a5,a6⟩:=h
  exact ⟨(Array.getElem?_eq_some_iff.1 a5).1,(Array.getElem?_eq_some_iff.1 a1).1⟩
theorem MapIt.perm {w:World} {pre rest:List (κ×Value)} (h:MapIt w it m enc kvs pre rest):(pre++rest).Perm kvs:=by
  obtain ⟨es,clock,ps,rs,a1,a2,a3,a4,a5,a6,a7,_⟩:=h
  exact a7
section
variable {P:Program} {r:Option Nat} {N:Nat} {S T:Nat->Prop} {τ:Tau} {w:World} {ty kt et t:TypeId}
theorem e_range {x:Operand} {G:Value->World->Prop} [hx:EvO N τ x (.map (some m))] [hu:Und P t (.map kt et)] [hm:MapI w m κ enc kvs]
    (h:∀ (b:Nat) (w':World),New b w->Lk w' w NoB->MapIt w' b m enc kvs [] kvs->Has w' b->G (.pointer (some ⟨b,0,none⟩)) w'):EffV P N NoB (.range t x) ty τ w G:=by
  obtain ⟨es,clock,h1,h2,h3,h4,h5⟩:=hm.m
  have hg:(getObj m).run P w=.ok (.map es clock) w:=by simp [getObj,Sem.run,h1]
  obtain ⟨k1,k2,k3⟩:=new_blk (w:=w) (.mapIter (some m) clock #[] clock)
  refine ⟨fun _=>nofun,.pointer (some ⟨w.heap.size,0,none⟩),w.alloc (.mapIter (some m) clock #[] clock),?_,k2.keep,h _ _ k1 k2 ⟨es,clock,[],es.toList,?_,h2,h3,h4,k3.eq,by simp,by simp,rfl,h2⟩ ⟨(Array.getElem?_eq_some_iff.1 k3.eq).1⟩⟩
  · have hnew:(newObj (.mapIter (some m) clock #[] clock)).run P w=.ok w.heap.size (w.alloc (.mapIter (some m) clock #[] clock)):=rfl
    simp only [execOp,hx.eq,Instr.range,Sem.run_bind,run_underlying hu.eq,hg,Result.andThen_ok,Sem.run_pure,hnew]
  exact (k2.keep.block m (Array.getElem?_eq_some_iff.1 h1).1 (fun h=>h)).trans h1
theorem map_perm_pick {kvs:List (κ×Value)} {es rs:List MapEntry} {rest:List (κ×Value)} {e:MapEntry} (h:rs.map (fun e=>(e.key,e.val))=rest.map (fun p=>(enc p.1,p.2))) (he:e∈rs) :
    ∃ p,p∈rest/\e.key=enc p.1/\e.val=p.2/\∃ a b c d,rs=a++e :: b/\rest=c++p :: d/\(a++b).map (fun e=>(e.key,e.val))=(c++d).map (fun p=>(enc p.1,p.2)):=by
  obtain ⟨a,b,rfl⟩:=List.append_of_mem he
  simp only [List.map_append,List.map_cons] at h
  obtain ⟨c,d',rfl,h1,h2⟩:=List.map_eq_append_iff.1 h.symm
  obtain ⟨p,d,rfl,h3,h4⟩:=List.map_eq_cons_iff.1 h2
  simp only [Prod.mk.injEq] at h3
  exact ⟨p,by simp,h3.1.symm,h3.2.symm,a,b,c,d,rfl,rfl,by simp [h1,h4]⟩
theorem e_next {x:Operand} {pre rest:List (κ×Value)} {G:Value->World->Prop} [hx:EvO N τ x (.pointer (some ⟨it,0,none⟩))] (hm:MapIt w it m enc kvs pre rest) (hne:it≠m)
    (h:∀ (b:Bool) (qs:List Value) (w':World),Lk w' w (OneB it)->(b=false->rest=[]/\MapIt w' it m enc kvs pre [])->(b=true->∃ p rest',rest.Perm (p :: rest')/\MapIt w' it m enc kvs (pre++[p]) rest')->G (.tuple (.bool b :: qs).toArray) w') :
    EffV P N (OneB it) (.next x false) ty τ w G:=by
  obtain ⟨es,clock,ps,rs,a1,a2,a3,a4,a5,a6,a7,a8,a9⟩:=hm
  have hgi:(getObj it).run P w=.ok (.mapIter (some m) clock (ps.map (·.born)).toArray clock) w:=by simp [getObj,Sem.run,a5]
  have hgm:(getObj m).run P w=.ok (.map es clock) w:=by simp [getObj,Sem.run,a1]
  have hlt:=(Array.getElem?_eq_some_iff.1 a5).1
  have hborn:(ps.map (·.born)++rs.map (·.born)).Nodup:=by
    rw [<- List.map_append];exact (a6.map _).nodup_iff.2 a4
  have hleft:∀ e,e∈es.toList->((ps.map (·.born)).toArray.contains e.born=false↔e∈rs):=by
    intro e he
    have he2:e∈ps++rs:=a6.mem_iff.2 he
    rw [List.contains_toArray,<- Bool.not_eq_true,List.contains_iff_mem]
    constructor
    · intro hn
      rcases List.mem_append.1 he2 with h1 | h1
      · exact absurd (List.mem_map.2 ⟨e,h1,rfl⟩) hn
      exact h1
    intro hr hp
    exact (List.nodup_append.1 hborn).2.2 _ hp _ (List.mem_map.2 ⟨e,hr,rfl⟩) rfl
  have hguard:(!(ps.map (·.born)).toArray.isEmpty && !es.isEmpty && es.all (fun e=>decide (e.born ≥ clock)))=false:=by
    by_cases hes:es.isEmpty=true
    · simp [hes]
    have:es.all (fun e=>decide (e.born ≥ clock))=false:=by
      rw [<- Bool.not_eq_true]
      intro hall
      rw [<- Array.all_toList,List.all_eq_true] at hall
      have hl:es.toList≠[]:=by simpa using hes
      obtain ⟨e,l,hel⟩:=List.exists_cons_of_ne_nil hl
      have h1:=hall e (by rw [hel];simp)
      have h2:=a3 e (by rw [hel];simp)
      simp at h1;omega
    simp [this]
  obtain ⟨L,hL⟩:∃ L,L=es.filter (fun e=>!(ps.map (·.born)).toArray.contains e.born):=⟨_,rfl⟩
  have hLm:∀ e,e∈L.toList↔e∈rs:=by
    intro e
    rw [hL,Array.toList_filter,List.mem_filter]
    constructor
    · rintro ⟨h1,h2⟩;exact (hleft e h1).1 (by simpa using h2)
    intro hr
    have h1:e∈es.toList:=a6.mem_iff.1 (List.mem_append_right _ hr)
    exact ⟨h1,by simpa using (hleft e h1).2 hr⟩
  have hold:L.filter (fun e=>decide (e.born<clock))=L:=by
    apply Array.ext'
    rw [Array.toList_filter,List.filter_eq_self]
    intro e he
    have h1:e∈es.toList:=a6.mem_iff.1 (List.mem_append_right _ ((hLm e).1 he))
    simpa using a3 e h1
  have hnew:L.filter (fun e=>decide (e.born ≥ clock))=#[]:=by
    apply Array.ext'
    rw [Array.toList_filter,List.filter_eq_nil_iff.2]
    intro e he
    have h1:e∈es.toList:=a6.mem_iff.1 (List.mem_append_right _ ((hLm e).1 he))
    have:=a3 e h1
    simp;omega
  have hchoose:∀ n,0<n->∃ k w1,k<n/\(choose (.mapNext n)).run P w=.ok k w1/\Keep NoB w w1:=by
    intro n hn
    by_cases hf:(Question.mapNext n).forced=true
    · exact ⟨0,w,hn,by simp [choose,Sem.run,hf],Keep.refl _ _⟩
    exact ⟨w.tape w.drawn (.mapNext n) % n,{ w with drawn:=w.drawn+1 },Nat.mod_lt _ hn,by simp [choose,Sem.run,hf,Question.cut],Keep.drawn w _⟩
  by_cases hemp:rs=[]
  · have hLe:L=#[]:=by
      apply Array.ext'
      exact List.eq_nil_iff_forall_not_mem.2 (fun e he=>by have:=(hLm e).1 he;rw [hemp] at this;cases this)
    obtain ⟨k,w1,hk,hc,hkw⟩:=hchoose 1 (by omega)
    have hk0:k=0:=by omega
    subst hk0
    have hrest:rest=[]:=by rw [hemp] at a9;simpa using a9.symm
    refine ⟨fun _=>nofun,.tuple #[.bool false],w1,?_,hkw.mono (fun _ _ h=>h.elim),h false [] w1 ⟨hkw.mono (fun _ _ h=>h.elim)⟩ (fun _=>⟨hrest,?_⟩) (fun e=>by cases e)⟩
    · have hcs:((if L.isEmpty then #[none] else #[])++(L++#[]).map some:Array (Option MapEntry))=#[none]:=by rw [hLe];simp
      have hsz:(#[none]:Array (Option MapEntry)).size=1:=rfl
      simp only [execOp,hx.eq,Instr.next,Sem.run_bind,hgi,hgm,Result.andThen_ok,hguard,Bool.false_eq_true,if_false,<- hL,hold,hnew,hcs,hsz,hc,Sem.run_pure]
      rfl
    rw [<- hrest]
    exact MapIt.keep ⟨es,clock,ps,rs,a1,a2,a3,a4,a5,a6,a7,a8,a9⟩ hkw (fun h=>h) (fun h=>h)
  have hLne:L≠#[]:=by
    intro e
    obtain ⟨x,l,hxl⟩:=List.exists_cons_of_ne_nil hemp
    have:=(hLm x).2 (by rw [hxl];simp)
    rw [e] at this;simp at this
  have hLs:0<L.size:=Nat.pos_of_ne_zero (fun e=>hLne (by simpa using e))
  obtain ⟨k,w1,hk,hc,hkw⟩:=hchoose L.size hLs
  have hmem:L[k]∈rs:=(hLm _).1 (by rw [Array.mem_toList_iff];exact Array.getElem_mem hk)
  obtain ⟨p,hp,hkey,hval,a,b,c,d,hrs,hrest,hab⟩:=map_perm_pick (kvs:=kvs) (es:=rs) a9 hmem
  have hlt1:it<w1.heap.size:=Nat.lt_of_lt_of_le hlt hkw.size
  have hset:∀ o,(setObj it o).run P w1=.ok () { w1 with heap:=w1.heap.setIfInBounds it o }:=fun o=>by
    have e:=(hkw.block it hlt (fun h=>h)).trans a5
    simp [setObj,Sem.run,e]
  have hk2:Keep (OneB it) w { w1 with heap:=w1.heap.setIfInBounds it (.mapIter (some m) clock ((ps.map (·.born)).toArray.push L[k].born) clock) }:=(hkw.mono (fun _ _ h=>h.elim)).trans (keep_setObj it _)
  refine ⟨fun _=>nofun,.tuple #[.bool true,L[k].key,L[k].val],_,?_,hk2,h true [L[k].key,L[k].val] _ ⟨hk2⟩ (fun e=>by cases e) (fun _=>⟨p,c++d,?_,es,clock,ps++[L[k]],a++b,?_,a2,a3,a4,?_,?_,?_,?_,?_⟩)⟩
  · have hcs:((if L.isEmpty then #[none] else #[])++(L++#[]).map some:Array (Option MapEntry))=L.map some:=by
      have:L.isEmpty=false:=by simpa using hLne
      simp [this]
    simp only [execOp,hx.eq,Instr.next,Sem.run_bind,hgi,hgm,Result.andThen_ok,hguard,Bool.false_eq_true,if_false,<- hL,hold,hnew,hcs,Array.size_map,hc,Sem.run_pure]
    simp [hk,hset,Result.andThen]
  · rw [hrest];exact List.perm_middle
  · have e1:¬ it=m:=hne
    show (w1.heap.setIfInBounds it _)[m]?=_
    rw [Array.getElem?_setIfInBounds_ne e1]
    exact (hkw.block m (Array.getElem?_eq_some_iff.1 a1).1 (fun h=>h)).trans a1
  · show (w1.heap.setIfInBounds it _)[it]?=_
    rw [Array.getElem?_setIfInBounds_self_of_lt hlt1]
    simp
  · rw [hrs] at a6
    refine List.Perm.trans ?_ a6
    simp only [List.append_assoc,List.singleton_append]
    exact List.Perm.append_left ps List.perm_middle.symm
  · rw [hrest] at a7
    refine List.Perm.trans ?_ a7
    simp only [List.append_assoc,List.singleton_append]
    exact List.Perm.append_left pre List.perm_middle.symm
  · simp [a8,hkey,hval]
  exact hab
theorem v_entry {x:Operand} {pre rest:List (κ×Value)} {k:κ} {u:Value} [hx:EvO N τ x (.pointer (some ⟨it,0,none⟩))] (hm:MapIt w it m enc kvs (pre++[(k,u)]) rest) (h1:¬ S it) (h2:¬ S m) :
    Val P r N S (.entry x) ty τ w (.tuple #[enc k,u]):=⟨fun _=>nofun,fun W hW=>by
  obtain ⟨es,clock,ps,rs,a1,a2,a3,a4,a5,a6,a7,a8,a9⟩:=hm.keep hW h1 h2
  have hgi:(getObj it).run P W=.ok (.mapIter (some m) clock (ps.map (·.born)).toArray clock) W:=by simp [getObj,Sem.run,a5]
  have hgm:(getObj m).run P W=.ok (.map es clock) W:=by simp [getObj,Sem.run,a1]
  rw [List.map_append] at a8
  obtain ⟨ps',e',rfl,b1,b2⟩:=List.map_eq_append_iff.1 a8
  obtain ⟨e,l,rfl,b3,b4⟩:=List.map_eq_cons_iff.1 b2
  obtain rfl:l=[]:=by simpa using b4
  simp only [Prod.mk.injEq] at b3
  have he:e∈es.toList:=a6.mem_iff.1 (by simp)
  have hfind:es.find? (fun x=>x.born == e.born)=some e:=by
    rw [<- Array.find?_toList]
    obtain ⟨i,hi,hie⟩:=List.mem_iff_getElem.1 he
    rw [List.find?_eq_some_iff_getElem]
    refine ⟨by simp,i,hi,hie,fun j hj=>?_⟩
    simp only [Bool.not_eq_true',beq_eq_false_iff_ne]
    intro hb
    have h3:(es.toList.map (·.born))[j]'(by simp;simp at hi;omega)=(es.toList.map (·.born))[i]'(by simpa using hi):=by simp only [List.getElem_map];rw [hb,hie]
    have:=nodup_at a4 _ _ h3
    omega
  have hback:((ps'++[e]).map (·.born)).toArray.back?=some e.born:=by simp
  simp only [execOp,hx.eq,Instr.entry,Sem.run_bind,hgi,hgm,hback,Result.andThen_ok,Sem.run_pure]
  simp [hfind,b3.1,b3.2]⟩
end
end maps
class OneC (cs:List Value) (α:outParam Type) (xs:outParam (List α)) (enc:outParam (α->Value)):Prop where eq:cs=xs.map enc
instance onec_map {α:Type} (xs:List α) (enc:α->Value):OneC (xs.map enc) α xs enc:=⟨rfl⟩
class FlatC (cs:List Value) (sz:Nat) (α:outParam Type) (xs:outParam (List α)) (enc:outParam (α->List Value)):Prop where eq:cs=xs.flatMap enc/\∀ x,(enc x).length=sz
section
variable {P:Program} {r:Option Nat} {N:Nat} {S T:Nat->Prop} {τ:Tau} {w:World} {ty:TypeId} {v:Value} {α:Type} {A:Option Addr} {cs:List Value} {sz:Nat} {xs:List α}
theorem onec_get {enc:α->Value} [h:OneC cs α xs enc] {k:Nat} (hk:k<xs.length):cs[k]?=some (enc xs[k]):=by rw [h.eq];simp [hk]
theorem v_indexO {enc:α->Value} {x y:Operand} {t e:TypeId} {bytes:Nat} {z:Value} {n c:Nat} {i:Int} (k:Nat) [hx:EvO N τ x (.slice A n c)] [hy:EvO N τ y (.int .i64 i)] [hu:Und P t (.slice e)] [hi:Inf P e 1 bytes z]
    [hr:Row w A cs] [ho:OneC cs α xs enc] (hk:i=(k:Int)) (hn:k<n) (hx2:k<xs.length):Val P r N S (.indexAddr t x y) ty τ w (padd A (k*1)):=
  v_indexAddr k hk hn (row_some hr (by rw [ho.eq];simp;omega))
theorem v_indexF {enc:α->List Value} {x y:Operand} {t e:TypeId} {bytes:Nat} {z:Value} {n c:Nat} {i:Int} (k:Nat) [hx:EvO N τ x (.slice A n c)] [hy:EvO N τ y (.int .i64 i)] [hu:Und P t (.slice e)] [hi:Inf P e sz bytes z]
    [hr:Row w A cs] [ho:FlatC cs sz α xs enc] (hpos:0<sz) (hk:i=(k:Int)) (hn:k<n) (hx2:k<xs.length):Val P r N S (.indexAddr t x y) ty τ w (padd A (k*sz)):=
  v_indexAddr k hk hn (row_some hr (by rw [ho.eq.1,flat_len ho.eq.2];exact Nat.mul_pos (by omega) hpos))
theorem v_fieldAddrF {enc:α->List Value} {x:Operand} {s:TypeId} {f off:Nat} {t:TypeId} {k j':Nat} [hx:EvO N τ x (padd A (k*sz))] [hf:Fld P s f off t] [ha:AddN (k*sz) off j'] [hr:Row w A cs] [ho:FlatC cs sz α xs enc] (hpos:0<sz) (hk:k<xs.length):Val P r N S (.fieldAddr s x f) ty τ w (padd A j'):=
  v_fieldAddrR (row_some hr (by rw [ho.eq.1,flat_len ho.eq.2];exact Nat.mul_pos (by omega) hpos))
theorem v_loadO {enc:α->Value} {x:Operand} {t:TypeId} {k:Nat} [hx:EvO N τ x (padd A (k*1))] [ht:One P t] [hr:Row w A cs] [ho:OneC cs α xs enc] [hs:RowOut S A] (hk:k<xs.length):Val P r N S (.load t x) ty τ w (enc xs[k]):=
  v_loadR (by rw [Nat.mul_one];exact onec_get hk)
theorem v_loadF {enc:α->List Value} {x:Operand} {t:TypeId} {k:Nat} [hx:EvO N τ x (padd A (k*sz))] [ht:Many P t sz] [hr:Row w A cs] [ho:FlatC cs sz α xs enc] [hs:RowOut S A] (hpos:0<sz) (hk:k<xs.length):Val P r N S (.load t x) ty τ w (.agg (enc xs[k]).toArray):=
  v_loadRA (vs:=enc xs[k]) (ho.eq.2 _) (row_some hr (by rw [ho.eq.1,flat_len ho.eq.2];exact Nat.mul_pos (by omega) hpos)) (by rw [ho.eq.1];exact flat_get ho.eq.2 xs k hk)
theorem v_loadFf {enc:α->List Value} {x:Operand} {t:TypeId} {k off:Nat} [hx:EvO N τ x (padd A (k*sz+off))] [ht:One P t] [hr:Row w A cs] [ho:FlatC cs sz α xs enc] [hs:RowOut S A] (hk:k<xs.length) [hg:CsGet (enc xs[k]).toArray off v]:Val P r N S (.load t x) ty τ w v:=
  v_loadR (by rw [ho.eq.1];exact flat_get ho.eq.2 xs k hk off v (by have:=hg.eq;simpa using this))
theorem v_loadF0 {enc:α->List Value} {x:Operand} {t:TypeId} {k:Nat} [hx:EvO N τ x (padd A (k*sz))] [ht:One P t] [hr:Row w A cs] [ho:FlatC cs sz α xs enc] [hs:RowOut S A] (hk:k<xs.length) [hg:CsGet (enc xs[k]).toArray 0 v]:Val P r N S (.load t x) ty τ w v:=
  v_loadR (by rw [ho.eq.1];have:=flat_get ho.eq.2 xs k hk 0 v (by have:=hg.eq;simpa using this);simpa using this)
end
structure FRow (w:World) (F:Nat->Prop) (A:Option Addr) (cs:List Value):Prop where
  row:RowP w A cs
  blk:∀ a,A=some a->F a.block
theorem FRow.keep {w w':World} {F S:Nat->Prop} {A:Option Addr} {cs:List Value} (h:FRow w F A cs) (hk:Keep S w w') (hs:∀ k,F k->¬ S k):FRow w' F A cs:=
  ⟨h.row.keep hk (fun a ha=>hs _ (h.blk a ha)),h.blk⟩
theorem FRow.mono {w:World} {F G:Nat->Prop} {A:Option Addr} {cs:List Value} (h:FRow w F A cs) (hs:∀ k,F k->G k):FRow w G A cs:=⟨h.row,fun a ha=>hs _ (h.blk a ha)⟩
theorem FRow.nil (w:World) (F:Nat->Prop):FRow w F none []:=⟨fun j v h=>by simp at h,fun a h=>by cases h⟩
theorem FRow.of_own {w:World} {base:Nat} {e:TypeId} {sz n m c:Nat} {A:Option Addr} {xs:List Value} (h:w.ownsRow base e sz (.slice A n c) m xs):FRow w (OwnB (.slice A n c)) A xs:=by
  obtain ⟨A',cap,he,hb,_,hr⟩:=ownsRow_form h
  cases he
  exact ⟨hr,fun a ha=>by subst ha;rfl⟩
class OldA (w0:World) (A:Option Addr):Prop where lt:∀ a,A=some a->a.block<w0.heap.size
instance rowOut_oldOne (w:World) (b:Nat) (A:Option Addr) [h:New b w] [k:OldA w A]:RowOut (OneB b) A:=⟨fun a ha e=>by
  have h2:=k.lt a ha
  have h1:a.block=b:=e
  have h3:=h.eq
  omega⟩
theorem ownB_lt {w:World} {base:Nat} {e:TypeId} {sz n:Nat} {v:Value} {xs:List Value} (h:w.ownsRow base e sz v n xs):∀ k,OwnB v k->base<=k/\k<w.heap.size:=fun k hk=>h.lt k hk.symm
class NewA (A:Option Addr) (w0:outParam World):Prop where le:∀ a,A=some a->w0.heap.size<=a.block
instance ownA_newA (A:Option Addr) (n c:Nat) (w0:World) [h:NewA A w0]:OwnA (.slice A n c) w0:=⟨fun k hk=>by
  cases A with
  | none=>cases hk
  | some a=>cases hk;exact h.le a rfl⟩
theorem newA_of {w w0:World} {base:Nat} {e:TypeId} {sz m n c:Nat} {A:Option Addr} {xs:List Value} (h:w.ownsRow base e sz (.slice A m c) n xs) (hb:w0.heap.size<=base):NewA A w0:=⟨fun a ha=>by subst ha;exact Nat.le_trans hb (h.lt _ rfl).1⟩
instance rowOut_newOne (A:Option Addr) (w0:World) (b:Nat) [h:NewA A w0] [k:Has w0 b]:RowOut (OneB b) A:=⟨fun a ha e=>by
  have h1:=h.le a ha
  have h2:=k.lt
  have h3:a.block=b:=e
  omega⟩
class OwnI (w:World) (A:Option Addr) (m c base:outParam Nat) (e:outParam TypeId) (sz n:outParam Nat) (xs:outParam (List Value)):Prop where own:w.ownsRow base e sz (.slice A m c) n xs
instance ownI_lk (w' w:World) (S:Nat->Prop) (A:Option Addr) (m c base:Nat) (e:TypeId) (sz n:Nat) (xs:List Value) [l:Lk w' w S] [h:OwnI w A m c base e sz n xs] [d:RowOut S A]:OwnI w' A m c base e sz n xs:=⟨own_keep h.own l.keep (fun k hk=>by
  cases A with
  | none=>cases hk
  | some a=>cases hk;exact d.out a rfl)⟩
instance (priority:=low) row_ownI (w:World) (A:Option Addr) (m c base:Nat) (e:TypeId) (sz n:Nat) (xs:List Value) [h:OwnI w A m c base e sz n xs]:Row w A xs:=⟨by
  obtain ⟨A',cap,he,_,_,hr⟩:=ownsRow_form h.own
  cases he
  exact hr⟩
instance (priority:=low) oldA_ownI (w:World) (A:Option Addr) (m c base:Nat) (e:TypeId) (sz n:Nat) (xs:List Value) [h:OwnI w A m c base e sz n xs]:OldA w A:=⟨fun a ha=>by subst ha;exact (h.own.lt _ rfl).2⟩
class LenC (vs:List Value) (n:outParam Nat):Prop where eq:vs.length=n
instance lenC_lit (vs:List Value) (n:Nat) [h:LenL vs n]:LenC vs n:=⟨h.eq⟩
instance lenC_map {α:Type} (xs:List α) (enc:α->Value):LenC (xs.map enc) xs.length:=⟨by simp⟩
class EncN {α:Type} (enc:α->List Value) (sz:outParam Nat):Prop where eq:∀ x,(enc x).length=sz
instance flatC_enc {α:Type} (xs:List α) (enc:α->List Value) (sz:Nat) [h:EncN enc sz]:FlatC (xs.flatMap enc) sz α xs enc:=⟨rfl,h.eq⟩
instance cell1l_map {α:Type} (xs:List α) (enc:α->Value) [h:∀ x,Cell1 (enc x)]:Cell1L (xs.map enc):=⟨fun u hu=>by
  obtain ⟨x,_,rfl⟩:=List.mem_map.1 hu
  exact (h x).eq⟩
class FromA (A':Option Addr) (A:outParam (Option Addr)) (w:outParam World):Prop where or:∀ a',A'=some a'->(∃ a,A=some a/\a'.block=a.block)\/a'.block=w.heap.size
class ApA (A B:Option Addr):Prop where ne:∀ a b,A=some a->B=some b->a.block≠b.block
instance (priority:=low) apA_oldnew (A B:Option Addr) (w0:World) [h:NewA B w0] [o:OldA w0 A]:ApA A B:=⟨fun a b ha hb e=>by
  have h1:=h.le b hb;have h2:=o.lt a ha;omega⟩
instance rowOut_ap (A B:Option Addr) (n c:Nat) [h:ApA A B]:RowOut (OwnB (.slice A n c)) B:=⟨fun b hb e=>by
  cases A with
  | none=>cases e
  | some a=>
    have h3:some b.block=some a.block:=e
    injection h3 with h3
    exact h.ne a b rfl hb h3.symm⟩
section
variable {P:Program} {N:Nat} {τ:Tau} {w:World} {ty t e:TypeId} {x y:Operand} {sz bytes n m c c0 k L base:Nat} {z:Value} {zc:Array Value} {A A0:Option Addr} {xs news ys:List Value} {G:Value->World->Prop}
theorem isSome_of_len (hr:RowP w A news) (hl:news.length=m*sz) (hpos:0<sz):A.isSome=true\/m=0:=by
  rcases Nat.eq_zero_or_pos m with h | h
  · exact .inr h
  exact .inl (row_some ⟨hr⟩ (by rw [hl];exact Nat.mul_pos h hpos))
theorem from_own {A':Option Addr} {n' c':Nat} (h:(Value.slice A' n' c').ownBlock=(Value.slice A0 n c0).ownBlock\/(Value.slice A' n' c').ownBlock=some w.heap.size):FromA A' A0 w:=⟨fun a' ha=>by
  subst ha
  rcases h with h | h
  · cases A0 with
    | none=>cases h
    | some a=>exact .inl ⟨a,rfl,by have h':some a'.block=some a.block:=h;injection h'⟩
  exact .inr (by have h':some a'.block=some w.heap.size:=h;injection h')⟩
theorem e_app [hx:EvO N τ x (.slice A0 n c0)] [hy:EvO N τ y (.slice A m c)] [hu:Und P t (.slice e)] [hi:Inf P e sz bytes z] [hz:Cells z zc] [hzs:Siz zc sz] [hrow:Row w A news] [hown:OwnI w A0 n c0 base e sz n xs] {w0:World} [hnew:NewA A0 w0] [hge:Ge w w0] [hk:AddN n m k] [ha:App xs news ys] [hc1:Cell1L news] [hL:LenC news L]
    (hl:L=m*sz) (hpos:0<sz) (h63:n+m<=4294967296) (hbytes:(n+m)*bytes<=140737488355328) (hbase:base<=w.heap.size)
    (h:∀ (A':Option Addr) (c':Nat) (w':World),OwnI w' A' k c' base e sz k ys->Lk w' w (OwnB (.slice A0 n c0))->NewA A' w0->FromA A' A0 w->G (.slice A' k c') w') :
    EffV P N (OwnB (.slice A0 n c0)) (.call { callee:=.builtin .append,args:=#[x,y],argTypes:=#[t,t] }) ty τ w G:=by
  have hl2:news.length=m*sz:=hL.eq.trans hl
  refine e_append' hown.own hbase hl2 hc1.eq hpos (isSome_of_len hrow.row hl2 hpos) h63 hbytes ?_
  intro A' cap' w' ho lk hf
  have hfr:=from_own (w:=w) hf
  rw [hk.eq,ha.eq] at ho
  rw [hk.eq]
  refine h A' cap' w' ⟨ho⟩ lk ⟨fun a' ha'=>?_⟩ hfr
  rcases hfr.or a' ha' with ⟨b,hb,e2⟩ | e2
  · rw [e2];exact hnew.le b hb
  rw [e2];exact hge.le
end
instance (priority:=low) app_any (a b:List Value):App a b (a++b):=⟨rfl⟩
instance (priority:=low) subS_orl (T S U:Nat->Prop) [h:SubS T S]:SubS T (fun k=>S k\/U k):=⟨fun k e=>.inl (h.sub k e)⟩
instance (priority:=low) subS_orr (T S U:Nat->Prop) [h:SubS T U]:SubS T (fun k=>S k\/U k):=⟨fun k e=>.inr (h.sub k e)⟩
instance (priority:=low) subF_orl (T S U:Nat->Prop) (w:World) [h:SubF T S w]:SubF T (fun k=>S k\/U k) w:=⟨fun k hk e=>.inl (h.sub k hk e)⟩
instance (priority:=low) subF_orr (T S U:Nat->Prop) (w:World) [h:SubF T U w]:SubF T (fun k=>S k\/U k) w:=⟨fun k hk e=>.inr (h.sub k hk e)⟩
end Go.Wst
