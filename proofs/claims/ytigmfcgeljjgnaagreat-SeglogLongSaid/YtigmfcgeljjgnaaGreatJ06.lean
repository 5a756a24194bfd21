/- A part of the walks through the log and its document, and of the law in plain Lean: Xi Xj Xk Xl Xm Xn A. -/
import Derived.Laws.RangeString
import Derived.Lib.AppendZeros
import Derived.Laws.CopyRow
import Derived.Test.YtigmfcgeljjgnaaGreatJ05
set_option linter.all false
namespace Go.Wst
structure Elem (E:List Value->(Nat->Prop)->World->Prop):Prop where
  lt:∀ v Fv W,E v Fv W->∀ k,Fv k->k<W.heap.size
  keep:∀ v Fv W W' S,E v Fv W->Keep S W W'->(∀ k,Fv k->¬ S k)->E v Fv W'
structure YieldsE (P:Program) (y:Value) (Al:Seen->Prop) (E:List Value->(Nat->Prop)->World->Prop) (I J:Seen->(Nat->Prop)->World->Prop) (w0:World) (n:Nat):Prop where
  i:Stable I w0
  j:Stable J w0
  step:∀ pre v F Fv W,Al (pre++[v])->I pre F W->E v Fv W->(∀ k,Fv k->¬ F k)->(∀ k,Fv k->n<=k)->CallV P y v W (fun r W'=>∃ b F',r=.bool b/\(if b=true then I (pre++[v]) F' W' else J (pre++[v]) F' W')/\Keep (fun k=>F k\/Fv k) W W'/\Sub F' (fun k=>F k\/Fv k) W)
def IterE (P:Program) (g:Value) (Own:Nat->Prop) (Al Fin:Seen->Prop) (E:List Value->(Nat->Prop)->World->Prop) (w:World):Prop:=
  ∀ y I J F w0,YieldsE P y Al E I J w0 w.heap.size->w0.heap.size<=w.heap.size->I [] F w->(∀ k,F k->¬ Own k)->CallV P g [y] w (fun _ w'=>∃ pre F',((Fin pre/\I pre F' w')\/J pre F' w')/\Keep F w w'/\Sub F' F w)
theorem x_rangeE {P:Program} {N:Nat} {Q:Post} {τ:Tau} {ds:List Deferred} {w:World} {g:Operand} {gf:FuncId} {ga gc:Array Value} {ps:List Nat} {assign body:Code} [hg:EvO N τ g (.func (.func gf) ga gc)]
    (Own:Nat->Prop) (Al Fin:Seen->Prop) (E:List Value->(Nat->Prop)->World->Prop) (hE:Elem E) (hit:∀ W,Lk W w NoB->IterE P (.func (.func gf) ga gc) Own Al Fin E W) (hOwn:∀ k,Own k->k<w.heap.size) (hAl:∀ pre v,Al (pre++[v])->v.length=ps.length)
    (I:Seen->(Nat->Prop)->World->Prop) (J:Exit->Seen->(Nat->Prop)->World->Prop) (F0:Nat->Prop) (hI:Stable I w) (hJ:∀ e,Stable (J e) w) (h0:I [] F0 w) (hF:∀ k,F0 k->¬ Own k)
    (B:List Value->Tau->Nat->World->Prop) (hBk:∀ v τ n W1 W2 S,B v τ n W1->Keep S W1 W2->(∀ k,S k->k<n)->B v τ n W2)
    (ha:∀ l pre v W,Al (pre++[v])->v.length=ps.length->X P (some l) N assign (thn (fun τ1 _ W1=>Lk W1 W NoB/\B v τ1 W.heap.size W1) (fun _ _ _ _=>False)) (updL τ ps v) [] W)
    (hb:∀ l pre v F Fv n W τ1 ds1,Al (pre++[v])->I pre F W->E v Fv W->(∀ k,Fv k->¬ F k)->(∀ k,Fv k->w.heap.size<=k)->(∀ k,F k\/Fv k->k<n)->w.heap.size<=n->n<=W.heap.size->B v τ1 n W->X P (some l) N body (roundQ I J (pre++[v]) (fun k=>F k\/Fv k\/n<=k) W) τ1 ds1 W)
    (hn:∀ D pre F W,Fin pre->I pre F W->Keep F0 w W->Sub F F0 w->Blk W D (.deferred (some []))->w.heap.size<=D->¬ F D->Q .normal τ (markOf D :: ds) W)
    (hj:∀ D e pre F W,J e pre F W->(codeOf e).isSome=true->Keep F0 w W->Sub F F0 w->Blk W D (.deferred (some []))->w.heap.size<=D->¬ F D->Q e τ (markOf D :: ds) W) :
    X P none N (.rangeFunc g ps.toArray assign body) Q τ ds w:=by
  intro a hrel
  refine wpIn_rangeFunc ?_
  intro fn hfn
  obtain ⟨rec,hrec⟩:∃ rec:LoopState->Option Code->Loop,rec=fun st pe=>{ state:=st,pending:=pe,fn,tmps:=a.tmps,params:=ps.toArray,assign,body,defers:=w.heap.size }:=⟨_,rfl⟩
  obtain ⟨W1,hW1⟩:∃ W1,(w.alloc (.deferred (some []))).alloc (.loop (rec .ready none))=W1:=⟨_,rfl⟩
  obtain ⟨l,hl⟩:∃ l,l=w.heap.size+1:=⟨_,rfl⟩
  have hk1:Keep NoB w W1:=by rw [<- hW1];exact (Keep.alloc w _).trans (Keep.alloc _ _)
  have hL1:W1.heap[l]?=some (.loop (rec .ready none)):=by
    rw [<- hW1,hl];have:=heap_alloc_new (w.alloc (.deferred (some []))) (.loop (rec .ready none));rwa [World.size_alloc] at this
  have hD1:W1.heap[w.heap.size]?=some (.deferred (some [])):=by
    rw [<- hW1];exact ((Keep.alloc (w.alloc (.deferred (some []))) (.loop (rec .ready none))).block _ (by simp) (fun h=>h)).trans (heap_alloc_new w _)
  have hF0:=hI.lt _ _ _ h0
  obtain ⟨I',hI'⟩:∃ I':Seen->(Nat->Prop)->World->Prop,I'=fun pre F' W=>∃ F,(∀ k,F' k↔(F k\/k=l))/\¬ F l/\I pre F W/\W.heap[l]?=some (.loop (rec .ready none))/\Sub F F0 w/\¬ F w.heap.size:=⟨_,rfl⟩
  obtain ⟨J',hJ'⟩:∃ J':Seen->(Nat->Prop)->World->Prop,J'=fun pre F' W=>∃ F e,(codeOf e).isSome=true/\(∀ k,F' k↔(F k\/k=l))/\¬ F l/\J e pre F W/\W.heap[l]?=some (.loop (rec .done (codeOf e)))/\Sub F F0 w/\¬ F w.heap.size:=⟨_,rfl⟩
  have hlw:∀ k,OneB l k->w.heap.size<=k:=fun k e=>by have e':k=l:=e;omega
  have hyields:YieldsE P (.func (.yield l) #[] #[]) Al E I' J' w W1.heap.size:=by
    rw [hI',hJ']
    refine ⟨⟨?_,?_⟩,⟨?_,?_⟩,?_⟩
    · rintro pre F' W ⟨F,h1,h2,h3,h4,_⟩ k hk
      rcases (h1 k).1 hk with h | h
      · exact hI.lt _ _ _ h3 k h
      rw [h];exact (Array.getElem?_eq_some_iff.1 h4).1
    · rintro pre F' W W' S ⟨F,h1,h2,h3,h4,h5⟩ hk hs hnew
      exact ⟨F,h1,h2,hI.keep _ _ _ _ _ h3 hk (fun k h=>hs k ((h1 k).2 (.inl h))) hnew,(hk.block l (Array.getElem?_eq_some_iff.1 h4).1 (hs l ((h1 l).2 (.inr rfl)))).trans h4,h5⟩
    · rintro pre F' W ⟨F,e,_,h1,h2,h3,h4,_⟩ k hk
      rcases (h1 k).1 hk with h | h
      · exact (hJ e).lt _ _ _ h3 k h
      rw [h];exact (Array.getElem?_eq_some_iff.1 h4).1
    · rintro pre F' W W' S ⟨F,e,h0,h1,h2,h3,h4,h5⟩ hk hs hnew
      exact ⟨F,e,h0,h1,h2,(hJ e).keep _ _ _ _ _ h3 hk (fun k h=>hs k ((h1 k).2 (.inl h))) hnew,(hk.block l (Array.getElem?_eq_some_iff.1 h4).1 (hs l ((h1 l).2 (.inr rfl)))).trans h4,h5⟩
    rintro pre v F' Fv W hal ⟨F,h1,h2,h3,h4,h5,h6⟩ hEv hdis hnw
    have hW1s:W1.heap.size=w.heap.size+2:=by rw [<- hW1];simp
    have hFvl:¬ Fv l:=fun e=>hdis l e ((h1 l).2 (.inr rfl))
    have hlt:l<W.heap.size:=(Array.getElem?_eq_some_iff.1 h4).1
    have hvl:=hAl pre v hal
    have hy:=run_yield (P:=P) (args:=v.toArray) h4 (by rw [hrec];simp [hvl])
    refine .inr ⟨l,fn,_,assign,body,rfl,by rw [hrec] at hy;exact hy,roundIn_of_wpIn (F:=FX none) hfn ?_⟩
    have hz:Rel N (updL τ ps v) [] ⟨(ps.zip v).foldl (fun t (p:Nat×Value)=>t.setIfInBounds p.1 p.2) a.tmps,[]⟩:=rel_zip ps v τ a.tmps ⟨hrel.size,hrel.get,rfl⟩
    have hzz:(Array.foldl (fun (tmps:Array Value) (x:Nat×Value)=>tmps.setIfInBounds x.1 x.2) a.tmps (ps.toArray.zip v.toArray))=(ps.zip v).foldl (fun t (p:Nat×Value)=>t.setIfInBounds p.1 p.2) a.tmps:=by
      rw [List.zip_toArray,List.foldl_toArray]
    have h7:=ha l pre v W hal hvl _ hz
    have h8:Code.wpIn (FX (some l)) 0 P assign (Exit.then (fun a₁ w₁=>∃ w₂,(Instr.beginRound l).run P w₁=.ok () w₂/\body.wpIn (FX (some l)) 0 P (roundPost P l (fun e w'=>∃ v_1,e=.returned v_1/\∃ b F'_1,v_1=.bool b/\(if b=true then (fun pre F' W=>∃ F,(∀ k,F' k↔(F k\/k=l))/\¬ F l/\I pre F W/\W.heap[l]?=some (.loop (rec .ready none))/\Sub F F0 w/\¬ F w.heap.size) (pre++[v]) F'_1 w' else (fun pre F' W=>∃ F e,(codeOf e).isSome=true/\(∀ k,F' k↔(F k\/k=l))/\¬ F l/\J e pre F W/\W.heap[l]?=some (.loop (rec .done (codeOf e)))/\Sub F F0 w/\¬ F w.heap.size) (pre++[v]) F'_1 w')/\Keep (fun k=>F' k\/Fv k) W w'/\Sub F'_1 (fun k=>F' k\/Fv k) W)) a₁ w₂) (fun _ _ _=>False))
        ⟨(ps.zip v).foldl (fun t (p:Nat×Value)=>t.setIfInBounds p.1 p.2) a.tmps,[]⟩ W:=by
      refine wpIn_mono h7 ?_
      rintro e a1 W2 ⟨τ1,d1,hr1,hq⟩
      cases e with
      | normal=>
        obtain ⟨⟨hkW⟩,hB⟩:=hq
        have hlt2:l<W2.heap.size:=Nat.lt_of_lt_of_le hlt hkW.size
        have h4':W2.heap[l]?=some (.loop (rec .ready none)):=(hkW.block l hlt (fun h=>h)).trans h4
        have hFlt:=hI.lt _ _ _ h3
        refine ⟨_,run_beginRound h4' (by rw [hrec]),?_⟩
        have hk2:=keep_putObj W2 l (.loop { rec .ready none with state:=.busy })
        have hl2:(W2.putObj l (.loop { rec .ready none with state:=.busy })).heap[l]?=some (.loop { rec .ready none with state:=.busy }):=World.putObj_heap_same hlt2
        have hi2:=hI.keep _ _ _ _ _ (hI.keep _ _ _ _ _ h3 hkW (fun _ _ h=>h) (fun _ h=>h.elim)) hk2 (fun k hk e=>h2 (by have e':k=l:=e;rw [<- e'];exact hk)) hlw
        have hE2:=hE.keep _ _ _ _ _ (hE.keep _ _ _ _ _ hEv hkW (fun _ _ h=>h)) hk2 (fun k hk e=>hFvl (by have e':k=l:=e;rw [<- e'];exact hk))
        have hsz:(W2.putObj l (.loop { rec .ready none with state:=.busy })).heap.size=W2.heap.size:=by simp [World.putObj]
        have hsW:=hkW.size
        have hwW:w.heap.size<=W.heap.size:=by omega
        have hB2:=hBk _ _ _ _ _ _ hB hk2 (fun k e=>by have e':k=l:=e;omega)
        refine wpIn_mono (hb l pre v F Fv W.heap.size _ τ1 d1 hal hi2 hE2 (fun k hk e=>hdis k hk ((h1 k).2 (.inl e))) (fun k hk=>by have:=hnw k hk;omega) (fun k hk=>hk.elim (hFlt k) (fun hk=>hE.lt _ _ _ hEv k hk)) hwW (by rw [hsz];exact hsW) hB2 a1 hr1) ?_
        have fin:∀ (jump:Option Code) (W3:World) (F3:Nat->Prop),Keep (fun k=>F k\/Fv k\/W.heap.size<=k) (W2.putObj l (.loop { rec .ready none with state:=.busy })) W3->Sub F3 (fun k=>F k\/Fv k\/W.heap.size<=k) (W2.putObj l (.loop { rec .ready none with state:=.busy })) ->
            (Instr.endRound l jump).run P W3=.ok (.bool jump.isNone) (W3.putObj l (.loop (rec (if jump.isNone then .ready else .done) jump))) /\
            (W3.putObj l (.loop (rec (if jump.isNone then .ready else .done) jump))).heap[l]?=some (.loop (rec (if jump.isNone then .ready else .done) jump)) /\
            ¬ F3 l/\Keep (fun k=>F' k\/Fv k) W (W3.putObj l (.loop (rec (if jump.isNone then .ready else .done) jump)))/\Sub (fun k=>F3 k\/k=l) (fun k=>F' k\/Fv k) W/\Sub F3 F0 w/\¬ F3 w.heap.size:=by
          intro jump W3 F3 hk3 hs3
          have hnl:¬ (F l\/Fv l\/W.heap.size<=l):=fun e=>e.elim h2 (fun e=>e.elim hFvl (fun e=>by omega))
          have hl3:=(hk3.block l (by rw [hsz];exact hlt2) hnl).trans hl2
          have hr:=run_endRound (P:=P) jump hl3
          have hw2:w.heap.size<=W2.heap.size:=by omega
          refine ⟨by rw [hrec] at hr ⊢;exact hr,World.putObj_heap_same (Array.getElem?_eq_some_iff.1 hl3).1,fun h=>(hs3 l h).elim hnl (fun e=>by rw [hsz] at e;omega),?_,?_,?_,?_⟩
          · have k0:Keep (fun k=>F' k\/Fv k) W W2:=hkW.mono (fun _ _ h=>h.elim)
            have k1:Keep (fun k=>F' k\/Fv k) W (W2.putObj l (.loop { rec .ready none with state:=.busy })):=k0.then hk2 (fun k _ e=>.inl ((h1 k).2 (.inr e)))
            have k2:Keep (fun k=>F' k\/Fv k) W W3:=k1.then hk3 (fun k hk e=>e.elim (fun e=>.inl ((h1 k).2 (.inl e))) (fun e=>e.elim .inr (fun e=>by omega)))
            exact k2.then (keep_putObj W3 l _) (fun k _ e=>.inl ((h1 k).2 (.inr e)))
          · rintro k (hk | hk)
            · rcases hs3 k hk with (e | e | e) | e
              · exact .inl (.inl ((h1 k).2 (.inl e)))
              · exact .inl (.inr e)
              · exact .inr e
              rw [hsz] at e;exact .inr (Nat.le_trans hsW e)
            exact .inl (.inl ((h1 k).2 (.inr hk)))
          · intro k hk
            rcases hs3 k hk with (e | e | e) | e
            · exact h5 k e
            · have:=hnw k e;exact .inr (by omega)
            · exact .inr (by omega)
            rw [hsz] at e;exact .inr (by omega)
          intro hk
          rcases hs3 _ hk with (e | e | e) | e
          · exact h6 e
          · have:=hnw _ e;omega
          · omega
          rw [hsz] at e;omega
        rintro e3 a3 W3 ⟨τ3,d3,hr3,hp⟩
        cases e3 with
        | normal=>
          obtain ⟨F3,hi3,hk3,hs3⟩:=hp
          obtain ⟨e1,e2,e3,e4,e5,e6,e7⟩:=fin none W3 F3 hk3 hs3
          have hi4:=hI.keep _ _ _ _ _ hi3 (keep_putObj W3 l (.loop (rec .ready none))) (fun k hk e=>e3 (by have e':k=l:=e;rw [<- e'];exact hk)) hlw
          exact ⟨_,_,e1,_,rfl,true,_,rfl,by rw [if_pos rfl];exact ⟨F3,fun k=>Iff.rfl,e3,hi4,e2,e6,e7⟩,e4,e5⟩
        | ret=>
          obtain ⟨F3,hi3,hk3,hs3⟩:=hp
          obtain ⟨e1,e2,e3,e4,e5,e6,e7⟩:=fin (some .ret) W3 F3 hk3 hs3
          have hi4:=(hJ .ret).keep _ _ _ _ _ hi3 (keep_putObj W3 l (.loop (rec .done (some .ret)))) (fun k hk e=>e3 (by have e':k=l:=e;rw [<- e'];exact hk)) hlw
          exact ⟨_,_,e1,_,rfl,false,_,rfl,by rw [if_neg (by simp)];exact ⟨F3,.ret,rfl,fun k=>Iff.rfl,e3,hi4,e2,e6,e7⟩,e4,e5⟩
        | exit id=>
          obtain ⟨F3,hi3,hk3,hs3⟩:=hp
          obtain ⟨e1,e2,e3,e4,e5,e6,e7⟩:=fin (some (.exit id)) W3 F3 hk3 hs3
          have hi4:=(hJ (.exit id)).keep _ _ _ _ _ hi3 (keep_putObj W3 l (.loop (rec .done (some (.exit id))))) (fun k hk e=>e3 (by have e':k=l:=e;rw [<- e'];exact hk)) hlw
          exact ⟨_,_,e1,_,rfl,false,_,rfl,by rw [if_neg (by simp)];exact ⟨F3,.exit id,rfl,fun k=>Iff.rfl,e3,hi4,e2,e6,e7⟩,e4,e5⟩
        | goto t=>exact hp.elim
        | panic ch=>exact hp.elim
        | outgrown=>exact hp.elim
      | exit id=>exact hq.elim
      | goto t=>exact hq.elim
      | ret=>exact hq.elim
      | panic ch=>exact hq.elim
      | outgrown=>exact hq.elim
    rw [hrec]
    simp only []
    rw [hzz]
    rw [hrec] at h8
    exact h8
  have hstart:I' [] (fun k=>F0 k\/k=l) W1:=by
    rw [hI']
    exact ⟨F0,fun k=>Iff.rfl,fun e=>by have:=hF0 l e;omega,hI.keep _ _ _ _ _ h0 hk1 (fun _ _ h=>h) (fun _ h=>h.elim),hL1,Sub.refl _ _,fun e=>by have:=hF0 _ e;omega⟩
  have hiter:=hit W1 ⟨hk1⟩ (.func (.yield l) #[] #[]) I' J' (fun k=>F0 k\/k=l) w hyields hk1.size hstart (fun k hk=>by
    rcases hk with hk | hk
    · exact hF k hk
    intro e;have:=hOwn k e;omega)
  have hgv:=hg.eq
  have post:∀ (v:Value) (w3:World),(∃ pre F',((Fin pre/\I' pre F' w3)\/J' pre F' w3)/\Keep (fun k=>F0 k\/k=l) W1 w3/\Sub F' (fun k=>F0 k\/k=l) W1) ->
      rangePost (FX none) 0 P l (lift N Q) { a with defers:=markOf w.heap.size :: a.defers } (.returned v) w3:=by
    rintro v w3 ⟨pre,F',hor,hk3,hs3⟩
    have hD3:w3.heap[w.heap.size]?=some (.deferred (some [])):=(hk3.block _ (Array.getElem?_eq_some_iff.1 hD1).1 (fun e=>e.elim (fun e=>by have:=hF0 _ e;omega) (fun e=>by omega))).trans hD1
    have hrel2:Rel N τ (markOf w.heap.size :: ds) { a with defers:=markOf w.heap.size :: a.defers }:=⟨hrel.size,hrel.get,by simp [hrel.dfs]⟩
    have hkw:∀ o,Keep F0 w (w3.putObj l o):=fun o=>by
      have k1:Keep F0 w W1:=hk1.mono (fun _ _ h=>h.elim)
      have k2:Keep F0 w w3:=k1.then hk3 (fun k hk e=>e.elim (fun e=>e) (fun e=>by omega))
      exact k2.then (keep_putObj w3 l o) (fun k hk e=>by have e':k=l:=e;omega)
    rcases hor with ⟨hfin,hi⟩ | hjj
    · rw [hI'] at hi
      obtain ⟨F,h1,h2,h3,h4,h5,h6⟩:=hi
      refine ⟨none,_,by have:=run_endLoop (P:=P) h4 (by rw [hrec];simp);rw [hrec] at this;exact this,τ,_,hrel2,?_⟩
      refine hn w.heap.size pre F _ hfin (hI.keep _ _ _ _ _ h3 (keep_putObj w3 l _) (fun k hk e=>h2 (by have e':k=l:=e;rw [<- e'];exact hk)) hlw) (hkw _) h5 ⟨(World.putObj_heap_other (by omega)).trans hD3⟩ (Nat.le_refl _) h6
    rw [hJ'] at hjj
    obtain ⟨F,e,hc,h1,h2,h3,h4,h5,h6⟩:=hjj
    have hq:=hj w.heap.size e pre F _ ((hJ e).keep _ _ _ _ _ h3 (keep_putObj w3 l (.loop { rec .done (codeOf e) with state:=.exhausted })) (fun k hk e=>h2 (by have e':k=l:=e;rw [<- e'];exact hk)) hlw) hc (hkw _) h5 ⟨(World.putObj_heap_other (by omega)).trans hD3⟩ (Nat.le_refl _) h6
    have hrun:(Instr.endLoop l).run P w3=.ok (codeOf e) (w3.putObj l (.loop { rec .done (codeOf e) with state:=.exhausted })):=by
      subst hrec
      exact run_endLoop (P:=P) h4 (by simp)
    refine ⟨codeOf e,_,hrun,?_⟩
    cases e with
    | ret=>exact wpIn_ret ⟨τ,_,hrel2,hq⟩
    | exit id=>exact wpIn_exit ⟨τ,_,hrel2,hq⟩
    | normal=>simp [codeOf] at hc
    | goto t=>simp [codeOf] at hc
    | panic ch=>simp [codeOf] at hc
    | outgrown=>simp [codeOf] at hc
  have henter:=run_enterLoop_outer (P:=P) (w:=w) fn a.tmps ps.toArray assign body
  rcases hiter with ⟨f,aa,cc,hgf,hf,h3⟩ | ⟨l2,f,t,asx,bd,hgf,h2,h3⟩
  · cases hgf
    obtain ⟨fn2,cb,hfn2,hnm,hbd⟩:=hf.ex
    refine ⟨l,[markOf w.heap.size],W1,{ target:=.fn (.func gf) gc,args:=ga++#[.func (.yield l) #[] #[]] },W1,gf,ga++#[.func (.yield l) #[] #[]]++gc,W1,?_,?_,fun _ _=>trivial,?_,(fun h=>by simp [FX] at h),?_⟩
    · rw [hl,<- hW1,hrec];exact henter
    · have e1:a.eval g=.func (.func gf) ga gc:=by rw [hrel.eval];exact hgv
      have e0:resolve a.eval (rangeCall g l) 0=Deferred.ofValue (a.eval g) #[.func (.yield l) #[] #[]]:=by
        simp [resolve,rangeCall]
        rfl
      rw [e0,e1]
      simp [Deferred.ofValue]
    · simp [invoke,callFunc,program,Sem.run,hfn2,hnm,hbd]
    refine (callsIn_FX (r:=none) (n:=0 - 1)).2 (Calls.mono h3 ?_)
    rintro e w'' ⟨v,rfl,hR⟩
    exact post v w'' hR
  cases hgf
section
variable {P:Program} {r:Option Nat} {N:Nat} {S T:Nat->Prop} {τ:Tau} {w:World} {ty kt et t:TypeId}
def StrIt (w:World) (it:Nat) (s:ByteArray) (pos:Nat):Prop:=w.heap[it]?=some (.stringIter s pos)
theorem StrIt.lt {w:World} {it pos:Nat} {s:ByteArray} (h:StrIt w it s pos):it<w.heap.size:=(Array.getElem?_eq_some_iff.1 h).1
theorem e_rangeS {x:Operand} {s:ByteArray} {G:Value->World->Prop} [hx:EvO N τ x (.string s)] [hu:Und P t .string]
    (h:∀ (b:Nat) (w':World),New b w->Lk w' w NoB->StrIt w' b s 0->Has w' b->G (.pointer (some ⟨b,0,none⟩)) w'):EffV P N NoB (.range t x) ty τ w G:=by
  obtain ⟨k1,k2,k3⟩:=new_blk (w:=w) (.stringIter s 0)
  refine ⟨fun _=>nofun,.pointer (some ⟨w.heap.size,0,none⟩),w.alloc (.stringIter s 0),?_,k2.keep,h _ _ k1 k2 k3.eq ⟨(Array.getElem?_eq_some_iff.1 k3.eq).1⟩⟩
  have:=run_range_string (P:=P) w t s hu.eq
  simp only [execOp,hx.eq,Sem.run_bind,this,Result.andThen_ok,Sem.run_pure]
  rfl
theorem e_nextS {it pos:Nat} {s:ByteArray} {x:Operand} {G:Value->World->Prop} [hx:EvO N τ x (.pointer (some ⟨it,0,none⟩))] (hm:StrIt w it s pos)
    (h:∀ (b:Bool) (qs:List Value) (w':World),Lk w' w (OneB it)->(b=false->¬ pos<s.size)->(b=true->pos<s.size/\qs=[.int .i64 pos,.int .i32 (Utf8.decode s pos).1]/\StrIt w' it s (pos+(Utf8.decode s pos).2))->G (.tuple (.bool b :: qs).toArray) w') :
    EffV P N (OneB it) (.next x true) ty τ w G:=by
  have hgi:(getObj it).run P w=.ok (.stringIter s pos) w:=by simp [getObj,Sem.run,show w.heap[it]?=_ from hm]
  by_cases hp:pos<s.size
  · have hset:(setObj it (.stringIter s (pos+(Utf8.decode s pos).2))).run P w=.ok () { w with heap:=w.heap.setIfInBounds it (.stringIter s (pos+(Utf8.decode s pos).2)) }:=by
      simp [setObj,Sem.run,show w.heap[it]?=_ from hm]
    have hk:Keep (OneB it) w { w with heap:=w.heap.setIfInBounds it (.stringIter s (pos+(Utf8.decode s pos).2)) }:=⟨rfl,rfl,rfl,by simp,fun k _ hk=>by
      show (w.heap.setIfInBounds it _)[k]?=_
      rw [Array.getElem?_setIfInBounds_ne (fun e=>hk e.symm)]⟩
    refine ⟨fun _=>nofun,.tuple (.bool true :: [.int .i64 pos,.int .i32 (Utf8.decode s pos).1]).toArray,_,?_,hk,h true _ _ ⟨hk⟩ (fun e=>by cases e) (fun _=>⟨hp,rfl,?_⟩)⟩
    · simp only [execOp,hx.eq,Instr.next,Sem.run_bind,hgi,Result.andThen_ok,hp,if_true,hset,Sem.run_pure,goInt]
    show (w.heap.setIfInBounds it _)[it]?=_
    rw [Array.getElem?_setIfInBounds_self_of_lt hm.lt]
  refine ⟨fun _=>nofun,.tuple (.bool false :: []).toArray,w,?_,Keep.refl _ _,h false [] w ⟨Keep.refl _ _⟩ (fun _=>hp) (fun e=>by cases e)⟩
  simp only [execOp,hx.eq,Instr.next,Sem.run_bind,hgi,Result.andThen_ok,hp,if_false,Sem.run_pure]
theorem v_slice3 {x y z:Operand} {t e:TypeId} {A:Option Addr} {n c sz bytes:Nat} {zv:Value} {i j:Int} (k m:Nat) [hx:EvO N τ x (.slice A n c)] [hy:EvO N τ y (.int .i64 i)] [hz:EvO N τ z (.int .i64 j)] [hu:Und P t (.slice e)] [hi:Inf P e sz bytes zv] (hk:i=(k:Int)) (hj:j=(m:Int)) (hkm:k<=m) (hn:m<=c) :
    Val P r N S (.slice t x none (some y) (some z)) ty τ w (.slice A k m):=⟨fun _=>nofun,fun W _=>by
  obtain ⟨ii,h1,h2,h3,h4⟩:=hi.ex
  subst hk;subst h2;subst hj
  have h5:(0:Int)<=(k:Int)/\(k:Int)<=(m:Int):=by omega
  have h6:(0:Int)<=(m:Int)/\(m:Int)<=(c:Int):=by omega
  cases A with
  | none=>simp [execOp,hx.eq,hy.eq,hz.eq,Instr.sliceAt,Instr.slice,run_underlying hu.eq,Instr.sliceBounds,Instr.sliceBound,asIntOf,hkm,hn,sizeOf,typeInfo,h1]
  | some a=>simp [execOp,hx.eq,hy.eq,hz.eq,Instr.sliceAt,Instr.slice,run_underlying hu.eq,Instr.sliceBounds,Instr.sliceBound,asIntOf,hkm,hn,sizeOf,typeInfo,h1,Addr.add]⟩
theorem zeroCells_list (z:Value) (n:Nat) (h:z.cells=#[z]):(Builtin.zeroCells z.cells n).toList=List.replicate n z:=by
  rw [h]
  apply List.ext_getElem
  · simp [Builtin.zeroCells]
  intro j h1 h2
  simp [Builtin.zeroCells,Nat.mod_one]
theorem e_appendZ {x y:Operand} {tn e:TypeId} {bytes n:Nat} {z:Value} {i:Int} {kn:IntKind} {G:Value->World->Prop} [hx:EvO N τ x (.slice none 0 0)] [hy:EvO N τ y (.int .i64 i)] [hu:Und P t (.slice e)] [htn:Und P tn (.int kn)] [hi:Inf P e 1 bytes z] (hn:i=(n:Int)) (h0:0<n) (h1:z.cells=#[z]) (h63:n<=4294967296) (hb:n*bytes<=140737488355328)
    (h:∀ (A':Option Addr) (c':Nat) (w':World),w'.ownsRow w.heap.size e 1 (.slice A' n c') n (List.replicate n z)->Lk w' w NoB->n<=c'->G (.slice A' n c') w') :
    EffV P N NoB (.call { callee:=.builtin .append,args:=#[x,y],argTypes:=#[t,tn] }) ty τ w G:=by
  obtain ⟨ii,h5,h6,h7,h8⟩:=hi.ex
  subst hn;subst h7
  have hr:=Lib.run_append_nil_zeros (P:=P) w t tn ty e ii z .i64 kn hu.eq htn.eq h5 h8 n h0 (by omega) (by omega) (by omega)
  have hk:Keep NoB w (w.drew.alloc (.cells (Builtin.zeroCells z.cells n++Builtin.zeroCells z.cells (grownCap w n 0 e - n)) e)):=(Keep.drew w).then (Keep.alloc _ _) (fun _ _ h=>h)
  have hcap:n<=grownCap w n 0 e:=grownCap_ge w n 0 e
  have hmx:grownCap w n 0 e<=maxLen:=grownCap_le_maxLen w n 0 e (by unfold maxLen;omega)
  refine ⟨fun _=>nofun,_,_,by simp only [execOp,resolve,invoke,builtin,hx.eq,hy.eq,hr,Sem.run_bind,Sem.run_pure,Result.andThen_ok,List.map_toArray,List.map_cons,List.map_nil],hk,h _ _ _ ⟨by simp,.inr ⟨w.heap.size,_,_,rfl,Nat.le_refl _,heap_alloc_new _ _,hcap,hmx,?_,?_⟩⟩ ⟨hk⟩ hcap⟩
  · simp [Builtin.zeroCells,h1];omega
  have e1:=zeroCells_list z n h1
  have e2:(Builtin.zeroCells z.cells n).toList.length=n:=by rw [e1];simp
  simp only [Array.toList_append]
  rw [List.take_append_of_le_length (by simp [e2]),List.take_of_length_le (by simp [e2]),e1]
theorem v_cap {x:Operand} {t e:TypeId} {A:Option Addr} {n c:Nat} [hx:EvO N τ x (.slice A n c)] [hu:Und P t (.slice e)]:Val P r N S (.call { callee:=.builtin .cap,args:=#[x],argTypes:=#[t] }) ty τ w (.int .i64 (c:Int)):=⟨fun _=>nofun,fun W _=>by
  simp [execOp,resolve,invoke,builtin,hx.eq,Builtin.cap_,run_underlying hu.eq,goInt]⟩
theorem v_beql {x y:Operand} {t t':TypeId} {a b:Bool} [hx:EvO N τ x (.bool a)] [hy:EvO N τ y (.bool b)] [h:Und P t .bool]:Val P r N S (.binOp .eql t x y t') ty τ w (.bool (a == b)):=⟨fun _=>nofun,fun W _=>by
  have e:=run_equalIn_bool W 9999 t a b h.eq
  simp [execOp,hx.eq,hy.eq,eqGuard,binOp,Op.equal,show Op.maxDepth=9999+1 from rfl,e]⟩
end
section
variable {P:Program} {r:Option Nat} {N:Nat} {S U:Nat->Prop} {Q:Post} {τ:Tau} {ds:List Deferred} {w:World} {ty:TypeId} {ops:Array Oper} {rest:List Oper} {pos:String} {aft:Array Edge} {d:Nat} {op:Op}
theorem xl_gu {j e:Nat} {b:Bool} (hj:(ops[j]?).bind (·.dst)=some e) (hb:evO N τ (.tmp e)=undef) (h:XL P r N ops Q rest (upd τ d undef) ds w) :
    XL P r N ops Q (⟨some d,op,ty,pos,aft,some (j,b)⟩ :: rest) τ ds w:=by
  show OpE P r N ops _ Q τ ds w _
  unfold OpE
  rw [if_neg (by simp [wantedT,Region.wanted,yieldedT,hj,hb,undef])]
  exact h
end
class RowB (w:World) (A:Option Addr) (w00:outParam World) (cs:outParam (List Value)):Prop where
  row:RowP w A cs
  far:cs=[]\/∀ a,A=some a->a.block<w00.heap.size
class Above (S:Nat->Prop) (w00:World):Prop where ge:∀ k,S k->w00.heap.size<=k
instance above_no (w00:World):Above NoB w00:=⟨fun _ h=>h.elim⟩
instance above_one (b:Nat) (w1 w00:World) [n:New b w1] [g:Ge w1 w00]:Above (OneB b) w00:=⟨fun k e=>by have e':k=b:=e;have:=n.eq;have:=g.le;omega⟩
theorem rowB_of {w:World} {A:Option Addr} {cs:List Value} (h:RowP w A cs):RowB w A w cs:=⟨h,by
  cases cs with
  | nil=>exact .inl rfl
  | cons v cs=>
    refine .inr ?_
    obtain ⟨a,h1,h2⟩:=h 0 v rfl
    intro a' ha'
    rw [h1] at ha'
    cases ha'
    rcases Nat.lt_or_ge a.block w.heap.size with h3 | h3
    · exact h3
    have hb:(a.add 0).block=a.block:=block_add a 0
    simp [World.cell?,hb,Array.getElem?_eq_none h3] at h2⟩
theorem RowB.keep {w w' w00:World} {A:Option Addr} {cs:List Value} {S:Nat->Prop} (h:RowB w A w00 cs) (hk:Keep S w w') (hs:∀ k,S k->w00.heap.size<=k):RowB w' A w00 cs:=by
  rcases h.far with e | e
  · subst e;exact ⟨fun j v h=>by simp at h,.inl rfl⟩
  exact ⟨h.row.keep hk (fun a ha hS=>by have h1:=e a ha;have h2:=hs _ hS;omega),.inr e⟩
instance (priority:=low) row_of_B (w:World) (A:Option Addr) (w00:World) (cs:List Value) [h:RowB w A w00 cs]:Row w A cs:=⟨h.row⟩
instance rowB_lk (w' w:World) (S:Nat->Prop) (A:Option Addr) (w00:World) (cs:List Value) [l:Lk w' w S] [h:RowB w A w00 cs] [u:Above S w00]:RowB w' A w00 cs:=h.keep l.keep u.ge
section
variable {P:Program} {r:Option Nat} {N:Nat} {Q:Post} {τ:Tau} {ds:List Deferred} {w:World} {ty:TypeId} {ops:Array Oper} {rest:List Oper} {pos:String} {aft:Array Edge} {d:Nat}
theorem xl_gcallv {j e':Nat} {b:Bool} {g:Operand} {args:List Operand} {at_:Array TypeId} {gv:Value} {vs:List Value} {R:Value->World->Prop} (hj:(ops[j]?).bind (·.dst)=some e') (hb:evO N τ (.tmp e')=.bool b) [hg:EvO N τ g gv] [hv:EvL N τ args vs]
    (hc:CallV P gv vs w R) (h:∀ v w',R v w'->XL P r N ops Q rest (upd τ d v) ds w'):XL P r N ops Q (⟨some d,.call { callee:=.value g,args:=args.toArray,argTypes:=at_ },ty,pos,aft,some (j,b)⟩ :: rest) τ ds w:=by
  have:=OpE_callv (P:=P) (r:=r) (N:=N) (Q:=Q) (τ:=τ) (ds:=ds) (w:=w) (ty:=ty) (ops:=ops) (pos:=pos) (aft:=aft) (at_:=at_) (g:=g) (args:=args) (dst:=some d) (hg:=hg) (hv:=hv) hc h
  show OpE P r N ops _ Q τ ds w _
  unfold OpE at *
  rw [if_pos (by simp [wantedT,Region.wanted,yieldedT,hj,hb])]
  rw [if_pos (by rfl)] at this
  exact this
end
class FillA (cs:Array Value) (parts:List (Nat×Value)) (ds:outParam (Array Value)):Prop where eq:Instr.fill (fun i=>some (i*1,1)) cs parts=some ds
instance fillA_nil (cs:Array Value):FillA cs [] cs:=⟨rfl⟩
instance fillA_cons (cs cs1 ds:Array Value) (i:Nat) (v:Value) (rest:List (Nat×Value)) [hv:Cells v [v].toArray] [h1:CsPut cs i [v] cs1] [k:FillA cs1 rest ds]:FillA cs ((i,v) :: rest) ds:=⟨by
  obtain ⟨e1,e2⟩:=h1.eq
  rw [fill_cons (off:=i) (sz:=1) (vs:=[v]) (by rw [Nat.mul_one]) hv.eq rfl e2,e1]
  exact k.eq⟩
section
variable {P:Program} {r:Option Nat} {N:Nat} {S:Nat->Prop} {τ:Tau} {w:World} {ty:TypeId}
theorem v_buildA {t e:TypeId} {n:Nat} {parts:List (Nat×Operand)} {vs:List (Nat×Value)} {sz bytes eb:Nat} {z ze:Value} {zc cs:Array Value} [hv:EvP N τ parts vs] [hu:Und P t (.array n e)] [hi:Inf P t sz bytes z] [he:Inf P e 1 eb ze] [hz:Cells z zc] [hf:FillA zc vs cs] :
    Val P r N S (.build t parts.toArray) ty τ w (.agg cs):=⟨fun _=>nofun,fun W _=>by
  obtain ⟨i,h3,h4,h5,h6⟩:=hi.ex
  obtain ⟨j,g3,g4,g5,g6⟩:=he.ex
  have hfill:=hf.eq
  have hs:(sizeOf e:Sem Nat).run P W=.ok 1 W:=by simp [sizeOf,typeInfo,program,Sem.run,g3,g4]
  simp only [execOp,Instr.build,Sem.run_bind,zeroValue,typeInfo,program,Sem.run,h3,h6,Sem.run_pure,Result.andThen_ok,run_underlying hu.eq,hz.eq]
  have e1:(parts.toArray.map fun (x:Nat×Operand)=>(x.1,evO N τ x.2)).toList=vs:=by simp [hv.eq]
  simp only [hs,e1,hfill,Sem.run_pure,Result.andThen_ok]⟩
end
theorem v_congr {P:Program} {r:Option Nat} {N:Nat} {S:Nat->Prop} {op:Op} {ty:TypeId} {τ:Tau} {w:World} {v u:Value} (h:Val P r N S op ty τ w v) (e:v=u):Val P r N S op ty τ w u:=e ▸ h
theorem decode_odd (s:ByteArray) (pos:Nat) (h:pos<s.size) (ha:128<=(s[pos]'h).toNat):128<=(Utf8.decode s pos).1:=by
  have e:s.get! (pos+0)=s[pos]'h:=by
    show s.get! pos=_
    simp [ByteArray.get!,getElem!_pos,h]
    rfl
  have h1:¬ (s[pos]'h).toNat<128:=by omega
  simp only [Utf8.decode,e,h1,if_false]
  split
  · split
    · next h2=>exact h2
    decide
  split
  · split
    · next h2=>
      simp only [Bool.and_eq_true,decide_eq_true_eq] at h2
      have:=h2.1
      show 128<=_
      omega
    decide
  split
  · split
    · next h2=>
      simp only [Bool.and_eq_true,decide_eq_true_eq] at h2
      have:=h2.1
      show 128<=_
      omega
    decide
  decide
abbrev In64 (a:Int):Prop:=-9223372036854775808<=a/\a<=9223372036854775807
abbrev byteC (b:UInt8):Value:=.int .u8 (b.toNat:Int)
abbrev bytesC (xs:List UInt8):List Value:=xs.map byteC
theorem bytesC_one (xs:List UInt8):∀ u∈bytesC xs,u.oneCell'=true:=by
  intro u hu
  obtain ⟨a,_,rfl⟩:=List.mem_map.1 hu
  rfl
section
variable {P:Program} {r:Option Nat} {N:Nat} {S:Nat->Prop} {τ:Tau} {w:World} {ty:TypeId}
theorem run_strRow {src dst e:TypeId} (hs:P.underlying src=some (.slice e)) (he:P.underlying e=some (.int .u8)) (hd:P.underlying dst=some .string) {A:Option Addr} {n c:Nat} {xs:List UInt8} (hr:RowP w A (bytesC xs)) (hl:xs.length=n) :
    (convert src dst (.slice A n c)).run P w=.ok (.string ⟨xs.toArray⟩) w:=by
  cases A with
  | none=>
    have:xs=[]:=by
      cases xs with
      | nil=>rfl
      | cons a xs=>obtain ⟨a',h,_⟩:=hr 0 _ rfl;cases h
    subst this
    exact run_convert_bytes_nil w src e hs he n c dst hd
  | some a=>
    have hl2:(loadCells a n).run P w=.ok ((xs.map fun b=>((b.toNat:Nat):Int)).map (Value.int .u8)).toArray w:=by
      have:=run_loadCells_list (P:=P) w a (bytesC xs) (fun j v hj=>by
        obtain ⟨a',h1,h2⟩:=hr j v hj
        cases h1
        exact h2)
      simpa [hl,bytesC,Function.comp_def] using this
    rw [run_convert_bytes_string w src dst e _ n c hs he hd,run_bytesToString w _ n c _ hl2,foldl_push_bytes]
    have h3:(xs.map fun b=>((b.toNat:Nat):Int)).map (fun n=>UInt8.ofNat n.toNat)=xs:=by
      rw [List.map_map]
      conv=>rhs;rw [<- List.map_id xs]
      apply List.map_congr_left
      intro b _
      simp
    rw [h3]
    simp [ByteArray.empty,ByteArray.emptyWithCapacity]
    rfl
theorem v_bytesStr {x:Operand} {s t e:TypeId} {A:Option Addr} {n c:Nat} {xs:List UInt8} [hx:EvO N τ x (.slice A n c)] [hs:Und P s (.slice e)] [he:Und P e (.int .u8)] [hd:Und P t .string] [hr:Row w A (bytesC xs)] [ho:RowOut S A] (hl:xs.length=n):Val P r N S (.convert s t x) ty τ w (.string ⟨xs.toArray⟩):=⟨fun _=>nofun,fun W hW=>by
  have:=run_strRow (P:=P) (w:=W) hs.eq he.eq hd.eq (c:=c) (hr.row.keep hW ho.out) hl
  simp [execOp,hx.eq,this]⟩
end
theorem setL_map {α:Type} (enc:α->Value) (xs:List α) (k:Nat) (x:α) (h:k<xs.length):setL (xs.map enc) (k*1) [enc x]=(xs.set k x).map enc:=by
  have:=flat_set (enc:=fun a=>[enc a]) (fun _=>rfl) xs k x h
  have e:∀ l:List α,l.flatMap (fun a=>[enc a])=l.map enc:=fun l=>by induction l with
    | nil=>rfl
    | cons a l ih=>rw [List.flatMap_cons,ih];rfl
  rw [e,e] at this
  exact this
class ZipM (sz s:Nat) (l:List (Nat×Value)) (vss:outParam (List (Value×List Value))):Prop where eq:l=(vss.zipIdx s).map (fun p=>(p.2,p.1.1))/\∀ p∈vss,p.1.cells=p.2.toArray/\p.2.length=sz
instance zipM_nil (sz s:Nat):ZipM sz s [] []:=⟨rfl,by simp⟩
instance zipM_cons (sz s i:Nat) (v:Value) (vs:List Value) (l:List (Nat×Value)) (vss:List (Value×List Value)) [h:EqN i s] [h1:Cells v vs.toArray] [h2:LenL vs sz] [k:ZipM sz (s+1) l vss]:ZipM sz s ((i,v) :: l) ((v,vs) :: vss):=⟨by rw [h.eq,k.eq.1];rfl,by
  intro u hu
  rcases List.mem_cons.1 hu with rfl | hu
  · exact ⟨h1.eq,h2.eq⟩
  exact k.eq.2 u hu⟩
theorem setMany_len:∀ (l:List Value) (cs:Array Value) (o:Nat),(setMany cs o l).size=cs.size
  | [],_,_=>rfl
  | a :: l,cs,o=>by rw [setMany,setMany_len l];simp
theorem setMany_app:∀ (a b:List Value) (cs:Array Value) (o:Nat),setMany cs o (a++b)=setMany (setMany cs o a) (o+a.length) b
  | [],b,cs,o=>by simp [setMany]
  | x :: a,b,cs,o=>by
    rw [List.cons_append,setMany,setMany,setMany_app a b,List.length_cons,Nat.add_assoc,Nat.add_comm 1]
theorem fill_flat (sz:Nat):∀ (vss:List (Value×List Value)) (s:Nat) (cs:Array Value),s*sz+vss.length*sz<=cs.size->(∀ p∈vss,p.1.cells=p.2.toArray/\p.2.length=sz)->Instr.fill (fun j=>some (j*sz,sz)) cs ((vss.zipIdx s).map (fun p=>(p.2,p.1.1)))=some (setMany cs (s*sz) (vss.flatMap (·.2)))
  | [],_,cs,_,_=>rfl
  | p :: vss,s,cs,h,h1=>by
    obtain ⟨e1,e2⟩:=h1 p (List.mem_cons_self ..)
    have h2:s*sz+(vss.length+1)*sz<=cs.size:=by simpa using h
    rw [Nat.add_mul,Nat.one_mul] at h2
    rw [List.zipIdx_cons,List.map_cons,fill_cons (cs:=cs) (vs:=p.2) (off:=s*sz) (sz:=sz) rfl e1 e2 (by omega)]
    rw [fill_flat sz vss (s+1) _ (by rw [setMany_len,Nat.add_mul,Nat.one_mul];omega) (fun u hu=>h1 u (List.mem_cons_of_mem _ hu)),List.flatMap_cons,setMany_app,e2,Nat.add_mul,Nat.one_mul]
theorem flatM_len {sz:Nat}:∀ {vss:List (Value×List Value)},(∀ p∈vss,p.1.cells=p.2.toArray/\p.2.length=sz)->(vss.flatMap (·.2)).length=vss.length*sz
  | [],_=>by simp
  | p :: l,h=>by rw [List.flatMap_cons,List.length_append,(h p (List.mem_cons_self ..)).2,flatM_len (fun q hq=>h q (List.mem_cons_of_mem _ hq)),List.length_cons,Nat.add_mul,Nat.one_mul,Nat.add_comm]
theorem e_buildSliceM {N:Nat} {τ:Tau} {w:World} {P:Program} {ty t e:TypeId} {parts:List (Nat×Operand)} {vsI:List (Nat×Value)} {vss:List (Value×List Value)} {vs:List Value} {sz bytes m:Nat} {z:Value} {G:Value->World->Prop} [hv:EvP N τ parts vsI] [hu:Und P t (.slice e)] [hi:Inf P e sz bytes z] [hzp:ZipM sz 0 vsI vss] (hpos:(Nat.ble 1 (m*sz) && Nat.ble (m*sz) 1000)=true) (hm:vss.length=m) (hvs:vs=vss.flatMap (·.2))
    (h:∀ (b:Nat) (w':World),New b w->Lk w' w NoB->Blk w' b (.cells vs.toArray e (0,0))->G (.slice (some ⟨b,0,none⟩) m m) w'):EffV P N NoB (.buildSlice t m parts.toArray) ty τ w G:=by
  obtain ⟨i,h5,h6,h7,h8⟩:=hi.ex
  subst h6;subst hm;subst hvs
  simp only [Bool.and_eq_true,Nat.ble_eq] at hpos
  obtain ⟨h1,h2,h3⟩:=new_blk (w:=w) (.cells (vss.flatMap (·.2)).toArray e)
  have hfl:=flatM_len hzp.eq.2
  refine ⟨fun _=>nofun,_,_,?_,h2.keep,h _ _ h1 h2 h3⟩
  have hfill:Instr.fill (fun j=>some (j*i.size,i.size)) ((Array.range (vss.length*i.size)).map (z.cells[· % z.cells.size]!)) vsI=some (vss.flatMap (·.2)).toArray:=by
    rw [hzp.eq.1,fill_flat i.size vss 0 _ (by simp) hzp.eq.2]
    congr 1
    have:=setMany_all (vss.flatMap (·.2)) [] ((Array.range (vss.length*i.size)).map (z.cells[· % z.cells.size]!)) (by simp [hfl]) (by simp)
    simpa using this
  have hb:=Go.run_buildSlice (P:=P) w t e vss.length vsI.toArray (vss.flatMap (·.2)).toArray i z hu.eq h5 h8 (by omega) (by omega) (by simpa using hfill)
  have e1:(parts.toArray.map fun (x:Nat×Operand)=>(x.1,evO N τ x.2))=vsI.toArray:=by simp [hv.eq]
  simp only [execOp,Sem.run_bind,e1,hb,Result.andThen_ok,Sem.run_pure]
theorem cells_cell1 {v:Value} (h:v.oneCell'=true):v.cells=[v].toArray:=by
  cases v<;>first | rfl | (simp [Value.oneCell'] at h)
theorem v_nilCheckR {P:Program} {r:Option Nat} {N:Nat} {S:Nat->Prop} {τ:Tau} {w:World} {ty:TypeId} {x:Operand} {A:Option Addr} {j:Nat} [hx:EvO N τ x (padd A j)] (hA:A.isSome=true):Val P r N S (.nilCheck x) ty τ w (padd A j):=⟨fun _=>nofun,fun W _=>by
  obtain ⟨a,rfl⟩:=Option.isSome_iff_exists.1 hA
  simp [execOp,hx.eq,padd]⟩
def NotP (P:Nat->Prop):Nat->Prop:=fun k=>¬ P k
section
variable {P:Program} {r:Option Nat} {N:Nat} {S U:Nat->Prop} {Q:Post} {τ:Tau} {ds:List Deferred} {w:World} {ty:TypeId} {ops:Array Oper} {rest:List Oper} {pos:String} {aft:Array Edge} {d:Nat} {v:Value} {op:Op}
theorem xl_Nc (h:XL P r N ops Q rest (upd τ d v) ds w) (hv:Val P r N NoB op ty τ w v:=by first | exact v_nilCheckP | exact v_nilCheckF | exact v_nilCheckR (by first | assumption | rfl)):XL P r N ops Q (⟨some d,op,ty,pos,aft,none⟩ :: rest) τ ds w:=xl_v hv h
theorem xl_gNc {j e:Nat} {b:Bool} (hj:(ops[j]?).bind (·.dst)=some e) (hb:evO N τ (.tmp e)=.bool b) (h:XL P r N ops Q rest (upd τ d v) ds w) (hv:Val P r N NoB op ty τ w v:=by first | exact v_nilCheckP | exact v_nilCheckF | exact v_nilCheckR (by first | assumption | rfl)):XL P r N ops Q (⟨some d,op,ty,pos,aft,some (j,b)⟩ :: rest) τ ds w:=xl_gv hj hb hv h
theorem xt_Nc {p:Plan} {i:Nat} {pos':String} {aft':Array Edge} (hi:ops[i]?=some ⟨some d,op,ty,pos',aft',none⟩) (h:XT P r N ops Q S U p (upd τ d v) ds w) (hv:Val P r N S op ty τ w v:=by first | exact v_nilCheckP | exact v_nilCheckF | exact v_nilCheckR (by first | assumption | rfl)):XT P r N ops Q S U (.take i p) τ ds w:=xt_v hi hv h
theorem xt_gNc {p:Plan} {i j e:Nat} {b:Bool} {pos':String} {aft':Array Edge} (hi:ops[i]?=some ⟨some d,op,ty,pos',aft',some (j,b)⟩) (hj:(ops[j]?).bind (·.dst)=some e) (hb:evO N τ (.tmp e)=.bool b) (h:XT P r N ops Q S U p (upd τ d v) ds w) (hv:Val P r N S op ty τ w v:=by first | exact v_nilCheckP | exact v_nilCheckF | exact v_nilCheckR (by first | assumption | rfl)):XT P r N ops Q S U (.take i p) τ ds w:=xt_gv hi hj hb hv h
theorem xl_Pk (h:XL P r N ops Q rest (upd τ d v) ds w) (hv:Val P r N NoB op ty τ w v:=by first | exact v_pickT | exact v_pickF | exact v_pick):XL P r N ops Q (⟨some d,op,ty,pos,aft,none⟩ :: rest) τ ds w:=xl_v hv h
theorem xl_gPk {j e:Nat} {b:Bool} (hj:(ops[j]?).bind (·.dst)=some e) (hb:evO N τ (.tmp e)=.bool b) (h:XL P r N ops Q rest (upd τ d v) ds w) (hv:Val P r N NoB op ty τ w v:=by first | exact v_pickT | exact v_pickF | exact v_pick):XL P r N ops Q (⟨some d,op,ty,pos,aft,some (j,b)⟩ :: rest) τ ds w:=xl_gv hj hb hv h
theorem xt_Pk {p:Plan} {i:Nat} {pos':String} {aft':Array Edge} (hi:ops[i]?=some ⟨some d,op,ty,pos',aft',none⟩) (h:XT P r N ops Q S U p (upd τ d v) ds w) (hv:Val P r N S op ty τ w v:=by first | exact v_pickT | exact v_pickF | exact v_pick):XT P r N ops Q S U (.take i p) τ ds w:=xt_v hi hv h
theorem xq {id:Nat} {l:List Oper} {y:Code} (h:XL P r N l.toArray (thn (fun τ ds w=>X P r N y Q τ ds w) Q) l τ ds w):X P r N (.seq (.region id l.toArray false) y) Q τ ds w:=x_seq (x_regionL h)
theorem xm {x:Operand} [hx:EvO N τ x v] (h:XL P r N ops Q rest (upd τ d v) ds w):XL P r N ops Q (⟨some d,.move x,ty,pos,aft,none⟩ :: rest) τ ds w:=xl_v v_move h
theorem xa {x:Operand} [hx:EvO N τ x v] (h:XL P r N ops Q rest (upd τ d v) ds w):XL P r N ops Q (⟨some d,.assign x,ty,pos,aft,none⟩ :: rest) τ ds w:=xl_v v_assign h
theorem xz {x:Operand} [hx:EvO N τ x v] (h:Q .normal (upd τ d v) ds w):XL P r N ops Q [⟨some d,.assign x,ty,pos,aft,none⟩] τ ds w:=xl_v v_assign (xl_nil h)
class CondV (v:Value) (T F:outParam Prop):Prop where ok:∃ b,v=.bool b/\(b=true->T)/\(b=false->F)
instance condV_P (p:Prop) [Decidable p]:CondV (.bool (decide p)) p (¬ p):=⟨decide p,rfl,of_decide_eq_true,of_decide_eq_false⟩
instance condV_N (p:Prop) [Decidable p]:CondV (.bool (!decide p)) (¬ p) p:=⟨!decide p,rfl,fun h=>of_decide_eq_false (by simpa using h),fun h=>of_decide_eq_true (by simpa using h)⟩
instance (priority:=10) condV_E (b:Bool):CondV (.bool b) (b=true) (b=false):=⟨b,rfl,id,id⟩
theorem x_if {c:Operand} {x y:Code} {T F:Prop} [hc:EvO N τ c v] [hv:CondV v T F] (ht:T->X P r N x Q τ ds w) (hf:F->X P r N y Q τ ds w):X P r N (.cond c x y) Q τ ds w:=by
  obtain ⟨b,rfl,h1,h2⟩:=hv.ok
  exact x_cond hc.eq (fun h=>ht (h1 h)) (fun h=>hf (h2 h))
end
section
variable {P:Program} {r:Option Nat} {N:Nat} {S:Nat->Prop} {τ:Tau} {w:World} {ty:TypeId} {α:Type} {A:Option Addr} {cs:List Value} {sz:Nat} {xs:List α}
theorem v_negw {k:IntKind} {a:Int} {t:TypeId} {x:Operand} [hx:EvO N τ x (.int k a)]:Val P r N S (.unOp .neg t x) ty τ w (.int k (k.wrap (-a))):=⟨fun _=>nofun,fun W _=>by
  simp [execOp,hx.eq,Op.unary,Op.intArith]⟩
theorem v_shr {k k':IntKind} {a b:Int} {t t':TypeId} {x y:Operand} [hx:EvO N τ x (.int k a)] [hy:EvO N τ y (.int k' b)] (h:0<=b):Val P r N S (.binOp .shr t x y t') ty τ w (.int k (a.fdiv (2 ^ min b.toNat k.bits))):=⟨fun _=>nofun,fun W _=>by
  have hb:¬ b<0:=by omega
  simp [execOp,hx.eq,hy.eq,eqGuard,binOp,Op.shift,hb]⟩
theorem v_and {k:IntKind} {a b:Int} {t t':TypeId} {x y:Operand} [hx:EvO N τ x (.int k a)] [hy:EvO N τ y (.int k b)]:Val P r N S (.binOp .and t x y t') ty τ w (.int k (k.wrap (BitVec.ofInt k.bits a &&& BitVec.ofInt k.bits b).toNat)):=⟨fun _=>nofun,fun W _=>by
  simp [execOp,hx.eq,hy.eq,eqGuard,binOp,Op.intBits]⟩
end
theorem padd_add (A:Option Addr) (j o:Nat):padd (A.map (·.add j)) o=padd A (j+o):=by
  cases A with
  | none=>rfl
  | some a=>simp [padd,add_add]
class AtC (w:World) (A:Option Addr) (j:Nat) (vs:outParam (List Value)):Prop where row:RowP w (A.map (·.add j)) vs
theorem rowOut_add {S:Nat->Prop} {A:Option Addr} {j:Nat} (h:RowOut S A):RowOut S (A.map (·.add j)):=⟨fun a ha=>by
  obtain ⟨b,hb,rfl⟩:=Option.map_eq_some_iff.1 ha
  have:=h.out b hb
  simpa [block_add] using this⟩
section
variable {P:Program} {r:Option Nat} {N:Nat} {S:Nat->Prop} {τ:Tau} {w:World} {ty:TypeId} {v:Value} {A:Option Addr} {vs us:List Value}
theorem v_loadCD {x:Operand} {t:TypeId} {j':Nat} (j o:Nat) [hx:EvO N τ x (padd A j')] [ht:One P t] [hr:AtC w A j vs] [hs:RowOut S A] (hj:j'=j+o) (hv:vs[o]?=some v):Val P r N S (.load t x) ty τ w v:=by
  subst hj
  haveI:EvO N τ x (padd (A.map (·.add j)) o):=⟨hx.eq.trans (padd_add A j o).symm⟩
  haveI:Row w (A.map (·.add j)) vs:=⟨hr.row⟩
  haveI:=rowOut_add (j:=j) hs
  exact v_loadR hv
theorem v_loadC {x:Operand} {t:TypeId} {j o:Nat} [hx:EvO N τ x (padd A (j+o))] [ht:One P t] [hr:AtC w A j vs] [hs:RowOut S A] [hg:CsGet vs.toArray o v]:Val P r N S (.load t x) ty τ w v:=v_loadCD j o rfl (by simpa using hg.eq)
theorem v_loadC0 {x:Operand} {t:TypeId} {j:Nat} [hx:EvO N τ x (padd A j)] [ht:One P t] [hr:AtC w A j vs] [hs:RowOut S A] [hg:CsGet vs.toArray 0 v]:Val P r N S (.load t x) ty τ w v:=v_loadCD j 0 rfl (by simpa using hg.eq)
theorem v_loadCA {x:Operand} {t:TypeId} {j o n:Nat} [hx:EvO N τ x (padd A (j+o))] [ht:Many P t n] [hr:AtC w A j vs] [hs:RowOut S A] [hc:CsSub vs o n us] (hn:0<n):Val P r N S (.load t x) ty τ w (.agg us.toArray):=by
  haveI:EvO N τ x (padd (A.map (·.add j)) o):=⟨hx.eq.trans (padd_add A j o).symm⟩
  haveI:Row w (A.map (·.add j)) vs:=⟨hr.row⟩
  haveI:=rowOut_add (j:=j) hs
  obtain ⟨h1,h2⟩:=hc.eq
  have hA:(A.map (·.add j)).isSome=true:=by
    obtain ⟨a,ha,_⟩:=hr.row o vs[o] (List.getElem?_eq_getElem (by omega))
    rw [ha];rfl
  refine v_loadRA (by rw [<- h1,List.length_take,List.length_drop];omega) hA fun i u e=>?_
  rw [<- h1,List.getElem?_take] at e
  split at e
  · rw [List.getElem?_drop] at e;exact e
  cases e
theorem v_sliceLH {x y u:Operand} {t e:TypeId} {n c sz bytes:Nat} {z:Value} {i j:Int} (k m:Nat) [hx:EvO N τ x (.slice A n c)] [hy:EvO N τ y (.int .i64 i)] [hq:EvO N τ u (.int .i64 j)] [hu:Und P t (.slice e)] [hi:Inf P e sz bytes z] (hk:i=(k:Int)) (hj:j=(m:Int)) (hkm:k<=m) (hn:m<=c) :
    Val P r N S (.slice t x (some y) (some u) none) ty τ w (.slice (if c=k then A else A.map (·.add (k*sz))) (m - k) (c - k)):=⟨fun _=>nofun,fun W _=>by
  obtain ⟨ii,h1,h2,h3,h4⟩:=hi.ex
  subst hk;subst h2;subst hj
  have h5:(0:Int)<=(k:Int)/\(k:Int)<=(m:Int):=by omega
  have h6:(0:Int)<=(m:Int)/\(m:Int)<=(c:Int):=by omega
  simp [execOp,hx.eq,hy.eq,hq.eq,Instr.sliceAt,run_underlying hu.eq,Instr.slice,Instr.sliceBounds,Instr.sliceBound,asIntOf,hkm,hn,sizeOf,typeInfo,program,Sem.run,h1]⟩
end
section
variable {κ:Type} [DecidableEq κ] {P:Program} {N:Nat} {τ:Tau} {w:World} {ty t kt et:TypeId} {b:Nat} {enc:κ->Value} {kvs:List (κ×Value)}
end
section
variable {P:Program} {N:Nat} {τ:Tau} {w:World} {ty:TypeId}
theorem made_flat {α:Type} {enc:α->List Value} {sz:Nat} (hsz:∀ x,(enc x).length=sz) (hpos:0<sz) {z:Array Value} (y:α) (hz:z.toList=enc y) (c:Nat):madeCells z (c*sz)=((List.replicate c y).flatMap enc).toArray:=by
  have hzs:z.size=sz:=by rw [<- Array.length_toList,hz];exact hsz y
  have hl:((List.replicate c y).flatMap enc).length=c*sz:=by rw [flat_len hsz];simp
  apply Array.ext
  · simp [madeCells,hl]
  intro j h1 h2
  have hj:j<c*sz:=by simpa [madeCells] using h1
  have hm:j % sz<sz:=Nat.mod_lt _ hpos
  have hk:j / sz<c:=(Nat.div_lt_iff_lt_mul hpos).2 hj
  have h3:=flat_get hsz (List.replicate c y) (j / sz) (by simpa using hk) (j % sz) (z[j % sz]'(by rw [hzs];exact hm)) (by rw [List.getElem_replicate,<- hz];simp [hzs,hm])
  rw [Nat.div_add_mod'] at h3
  have h4:((List.replicate c y).flatMap enc)[j]'(by rw [hl];exact hj)=z[j % sz]'(by rw [hzs];exact hm):=by
    rw [List.getElem?_eq_getElem (by rw [hl];exact hj)] at h3
    exact Option.some.inj h3
  simp only [List.getElem_toArray,h4,madeCells,Array.getElem_map,Array.getElem_range,hzs]
  rw [getElem!_pos z (j % sz) (by rw [hzs];exact hm)]
theorem e_makeSliceM {α:Type} {enc:α->List Value} {t e:TypeId} {x y:Operand} {sz bytes:Nat} {z:Value} {zc:Array Value} {a b:Int} (n c:Nat) (y0:α) {G:Value->World->Prop} [hx:EvO N τ x (.int .i64 a)] [hy:EvO N τ y (.int .i64 b)] [hu:Und P t (.slice e)] [hi:Inf P e sz bytes z] [hz:Cells z zc] [he:EncN enc sz] (hpos:0<sz) (hz0:zc.toList=enc y0) (ha:a=(n:Int)) (hb:b=(c:Int)) (hnc:n<=c) (hc:c<=4294967296) (hbytes:c*bytes<=140737488355328)
    (h:∀ (g:Nat) (w':World),New g w->Lk w' w NoB->Blk w' g (.cells ((List.replicate c y0).flatMap enc).toArray e (0,0))->G (.slice (some ⟨g,0,none⟩) n c) w'):EffV P N NoB (.makeSlice t x y) ty τ w G:=by
  obtain ⟨i,h5,h6,h7,h8⟩:=hi.ex
  subst ha;subst hb;subst h7
  have hr:=run_makeSlice0 (w:=w) hu.eq h5 h8 hnc hc hbytes
  rw [h6,hz.eq,made_flat he.eq hpos y0 hz0] at hr
  obtain ⟨k1,k2,k3⟩:=new_blk (w:=w) (.cells ((List.replicate c y0).flatMap enc).toArray e)
  exact ⟨fun _=>nofun,_,_,by simp only [execOp,Sem.run_bind,hx.eq,hy.eq,hr,Result.andThen_ok,Sem.run_pure],k2.keep,h _ _ k1 k2 k3⟩
end
section
variable {P:Program} {r:Option Nat} {N:Nat} {ops:Array Oper} {Q:Post} {S U:Nat->Prop} {τ:Tau} {ds:List Deferred} {w:World} {d:Nat} {ty:TypeId}
end
section
variable {P:Program} {r:Option Nat} {N:Nat} {S U:Nat->Prop} {Q:Post} {τ:Tau} {ds:List Deferred} {w:World} {ty:TypeId} {ops:Array Oper} {rest:List Oper} {pos:String} {aft:Array Edge} {d:Nat} {v:Value} {op:Op}
theorem xl_Lc (h:XL P r N ops Q rest (upd τ d v) ds w) (hv:Val P r N NoB op ty τ w v:=by first | exact v_load | exact v_loadC | exact v_loadC0 | exact v_loadO (by omega) | exact v_loadFf (by omega) | exact v_loadF0 (by omega)):XL P r N ops Q (⟨some d,op,ty,pos,aft,none⟩ :: rest) τ ds w:=xl_v hv h
theorem xl_gLc {j e:Nat} {b:Bool} (hj:(ops[j]?).bind (·.dst)=some e) (hb:evO N τ (.tmp e)=.bool b) (h:XL P r N ops Q rest (upd τ d v) ds w) (hv:Val P r N NoB op ty τ w v:=by first | exact v_load | exact v_loadC | exact v_loadC0 | exact v_loadO (by omega) | exact v_loadFf (by omega) | exact v_loadF0 (by omega)):XL P r N ops Q (⟨some d,op,ty,pos,aft,some (j,b)⟩ :: rest) τ ds w:=xl_gv hj hb hv h
theorem xt_Lc {p:Plan} {i:Nat} {pos':String} {aft':Array Edge} (hi:ops[i]?=some ⟨some d,op,ty,pos',aft',none⟩) (h:XT P r N ops Q S U p (upd τ d v) ds w) (hv:Val P r N S op ty τ w v:=by first | exact v_load | exact v_loadC | exact v_loadC0 | exact v_loadO (by omega) | exact v_loadFf (by omega) | exact v_loadF0 (by omega)):XT P r N ops Q S U (.take i p) τ ds w:=xt_v hi hv h
theorem xt_gLc {p:Plan} {i j e:Nat} {b:Bool} {pos':String} {aft':Array Edge} (hi:ops[i]?=some ⟨some d,op,ty,pos',aft',some (j,b)⟩) (hj:(ops[j]?).bind (·.dst)=some e) (hb:evO N τ (.tmp e)=.bool b) (h:XT P r N ops Q S U p (upd τ d v) ds w) (hv:Val P r N S op ty τ w v:=by first | exact v_load | exact v_loadC | exact v_loadC0 | exact v_loadO (by omega) | exact v_loadFf (by omega) | exact v_loadF0 (by omega)):XT P r N ops Q S U (.take i p) τ ds w:=xt_gv hi hj hb hv h
theorem xl_Lb (h:XL P r N ops Q rest (upd τ d v) ds w) (hv:Val P r N NoB op ty τ w v:=by first | exact v_loadA | exact v_loadCA (by decide) | exact v_loadF (by decide) (by omega)):XL P r N ops Q (⟨some d,op,ty,pos,aft,none⟩ :: rest) τ ds w:=xl_v hv h
theorem xl_gLb {j e:Nat} {b:Bool} (hj:(ops[j]?).bind (·.dst)=some e) (hb:evO N τ (.tmp e)=.bool b) (h:XL P r N ops Q rest (upd τ d v) ds w) (hv:Val P r N NoB op ty τ w v:=by first | exact v_loadA | exact v_loadCA (by decide) | exact v_loadF (by decide) (by omega)):XL P r N ops Q (⟨some d,op,ty,pos,aft,some (j,b)⟩ :: rest) τ ds w:=xl_gv hj hb hv h
theorem xt_Lb {p:Plan} {i:Nat} {pos':String} {aft':Array Edge} (hi:ops[i]?=some ⟨some d,op,ty,pos',aft',none⟩) (h:XT P r N ops Q S U p (upd τ d v) ds w) (hv:Val P r N S op ty τ w v:=by first | exact v_loadA | exact v_loadCA (by decide) | exact v_loadF (by decide) (by omega)):XT P r N ops Q S U (.take i p) τ ds w:=xt_v hi hv h
theorem xl_Fb (h:XL P r N ops Q rest (upd τ d v) ds w) (hv:Val P r N NoB op ty τ w v:=by first | exact v_fieldAddr | exact v_fieldAddrR (by first | assumption | rfl) | exact v_fieldAddrF (by decide) (by omega)):XL P r N ops Q (⟨some d,op,ty,pos,aft,none⟩ :: rest) τ ds w:=xl_v hv h
theorem xl_gFb {j e:Nat} {b:Bool} (hj:(ops[j]?).bind (·.dst)=some e) (hb:evO N τ (.tmp e)=.bool b) (h:XL P r N ops Q rest (upd τ d v) ds w) (hv:Val P r N NoB op ty τ w v:=by first | exact v_fieldAddr | exact v_fieldAddrR (by first | assumption | rfl) | exact v_fieldAddrF (by decide) (by omega)):XL P r N ops Q (⟨some d,op,ty,pos,aft,some (j,b)⟩ :: rest) τ ds w:=xl_gv hj hb hv h
theorem xt_Fb {p:Plan} {i:Nat} {pos':String} {aft':Array Edge} (hi:ops[i]?=some ⟨some d,op,ty,pos',aft',none⟩) (h:XT P r N ops Q S U p (upd τ d v) ds w) (hv:Val P r N S op ty τ w v:=by first | exact v_fieldAddr | exact v_fieldAddrR (by first | assumption | rfl) | exact v_fieldAddrF (by decide) (by omega)):XT P r N ops Q S U (.take i p) τ ds w:=xt_v hi hv h
theorem xt_gFb {p:Plan} {i j e:Nat} {b:Bool} {pos':String} {aft':Array Edge} (hi:ops[i]?=some ⟨some d,op,ty,pos',aft',some (j,b)⟩) (hj:(ops[j]?).bind (·.dst)=some e) (hb:evO N τ (.tmp e)=.bool b) (h:XT P r N ops Q S U p (upd τ d v) ds w) (hv:Val P r N S op ty τ w v:=by first | exact v_fieldAddr | exact v_fieldAddrR (by first | assumption | rfl) | exact v_fieldAddrF (by decide) (by omega)):XT P r N ops Q S U (.take i p) τ ds w:=xt_gv hi hj hb hv h
end
end Go.Wst
set_option maxRecDepth 100000
set_option synthInstance.maxSize 100000
set_option synthInstance.maxHeartbeats 400000
namespace Go.Proofs.YtigmfcgeljjgnaaGreat
open Go.Wst
open Go.Wst.Dm
theorem mixed:Tryz.prog.follows .mixedOrders=true:=by kernel_rfl
structure LB where
 bytes:List UInt8
 A:Option Addr
 c:Nat
abbrev lbV (x:LB):Value:=.slice x.A x.bytes.length x.c
def fsV (l:List (ByteArray×LB)):List (ByteArray×Value):=l.map (fun p=>(p.1,lbV p.2))
def fsP (l:List (ByteArray×LB)):Fs:=l.map (fun p=>(p.1,p.2.bytes))
structure FilesAt (W:World) (m:Nat) (G:Nat->Prop) (l:List (ByteArray×LB)):Prop where
 map:MapB W m Value.string (fsV l)
 rows:∀ p∈l,FRow W G p.2.A (bytesC p.2.bytes)
 caps:∀ p∈l,p.2.bytes.length<=p.2.c
 lt:∀ k,G k->k<W.heap.size
 out:¬ G m
theorem FilesAt.keep {W W':World} {m:Nat} {G S:Nat->Prop} {l:List (ByteArray×LB)} (h:FilesAt W m G l) (hk:Keep S W W') (hm:¬ S m) (hG:∀ k,G k->¬ S k):FilesAt W' m G l:=
 ⟨h.map.keep hk hm,fun p hp=>(h.rows p hp).keep hk hG,h.caps,fun k e=>Nat.lt_of_lt_of_le (h.lt k e) hk.size,h.out⟩
theorem FilesAt.ext {W W':World} {m:Nat} {G:Nat->Prop} {l:List (ByteArray×LB)} (h:FilesAt W m G l) (hk:Keep NoB W W'):FilesAt W' m G l:=h.keep hk (fun h=>h) (fun _ _ h=>h)
theorem fsV_keys (l:List (ByteArray×LB)):(fsV l).map (·.1)=l.map (·.1):=by simp [fsV]
theorem fsP_keys (l:List (ByteArray×LB)):(fsP l).map (·.1)=l.map (·.1):=by simp [fsP]
theorem akey_mapV {α β:Type} (f:α->β) (l:List (ByteArray×α)) (k:ByteArray):akey (l.map (fun p=>(p.1,f p.2))) k=(akey l k).map f:=by
 induction l with
 | nil=>rfl
 | cons p l ih=>rw [List.map_cons,akey_cons,akey_cons,ih];split<;>rfl
theorem fsV_akey (l:List (ByteArray×LB)) (k:ByteArray):akey (fsV l) k=(akey l k).map lbV:=akey_mapV lbV l k
theorem fsP_akey (l:List (ByteArray×LB)) (k:ByteArray):akey (fsP l) k=(akey l k).map (·.bytes):=akey_mapV (fun x:LB=>x.bytes) l k
theorem FilesAt.nodup {W:World} {m:Nat} {G:Nat->Prop} {l:List (ByteArray×LB)} (h:FilesAt W m G l):(l.map (·.1)).Nodup:=by
 obtain ⟨_,_,_,_,_,_,h1⟩:=h.map
 rwa [fsV_keys] at h1
def oddR (r:Int):Bool:=(decide (r<97) || decide (122<r)) && (decide (r<48) || decide (57<r)) && !decide (r=46)
theorem odd_ok (r:Int) (w:World):Ret Tryz.prog 77 #[.int .i32 r] w (fun v w'=>v=.bool (oddR r)/\w=w'):=by
 refine ret_of_x (N:=21) (l:=[.int .i32 r]) Tryz.func77 rfl rfl (Nat.le_of_ble_eq_true rfl) ?_
 refine xq (xz ?_)
 refine xq (xm (xl_v v_lss (xm ?_)))
 refine xl_split 5 (fun g5=>?_) (fun g5=>?_)
 ·refine xl_gs rfl EvO.eq (xl_gs rfl EvO.eq (xl_Pk ?_))
  refine xm (xl_gv rfl EvO.eq v_move (xl_gv rfl EvO.eq v_lss (xl_gv rfl EvO.eq v_move ?_)))
  refine xl_split 12 (fun g12=>?_) (fun g12=>?_)
  ·refine xl_gs rfl EvO.eq (xl_gs rfl EvO.eq ?_)
   refine xl_gPk rfl EvO.eq ?_
   refine xl_Pk ?_
   refine xm (xl_gv rfl EvO.eq v_move (xl_gv rfl EvO.eq v_neq (xl_Pk ?_)))
   refine xz ?_
   refine x_ret ?_
   refine fin1 rfl ?_
   refine ⟨congrArg Value.bool ?_,rfl⟩
   simp only [oddR]
   simp_all<;>omega
  refine xl_gv rfl EvO.eq v_move (xl_gv rfl EvO.eq v_gtr ?_)
  refine xl_gPk rfl EvO.eq ?_
  refine xl_Pk ?_
  refine xm ?_
  refine xl_split 17 (fun g17=>?_) (fun g17=>?_)
  ·refine xl_gv rfl EvO.eq v_move (xl_gv rfl EvO.eq v_neq (xl_Pk ?_))
   refine xz ?_
   refine x_ret ?_
   refine fin1 rfl ?_
   refine ⟨congrArg Value.bool ?_,rfl⟩
   simp only [oddR]
   simp_all<;>omega
  refine xl_gs rfl EvO.eq (xl_gs rfl EvO.eq (xl_Pk ?_))
  refine xz ?_
  refine x_ret ?_
  refine fin1 rfl ?_
  refine ⟨congrArg Value.bool ?_,rfl⟩
  simp only [oddR]
  simp_all<;>omega
 refine xl_gv rfl EvO.eq v_move (xl_gv rfl EvO.eq v_gtr (xl_Pk ?_))
 refine xm ?_
 refine xl_split 9 (fun g9=>?_) (fun g9=>?_)
 ·refine xl_gv rfl EvO.eq v_move (xl_gv rfl EvO.eq v_lss (xl_gv rfl EvO.eq v_move ?_))
  refine xl_split 12 (fun g12=>?_) (fun g12=>?_)
  ·refine xl_gs rfl EvO.eq (xl_gs rfl EvO.eq ?_)
   refine xl_gPk rfl EvO.eq ?_
   refine xl_Pk ?_
   refine xm (xl_gv rfl EvO.eq v_move (xl_gv rfl EvO.eq v_neq (xl_Pk ?_)))
   refine xz ?_
   refine x_ret ?_
   refine fin1 rfl ?_
   refine ⟨congrArg Value.bool ?_,rfl⟩
   simp only [oddR]
   simp_all<;>omega
  refine xl_gv rfl EvO.eq v_move (xl_gv rfl EvO.eq v_gtr ?_)
  refine xl_gPk rfl EvO.eq ?_
  refine xl_Pk ?_
  refine xm ?_
  refine xl_split 17 (fun g17=>?_) (fun g17=>?_)
  ·refine xl_gv rfl EvO.eq v_move (xl_gv rfl EvO.eq v_neq (xl_Pk ?_))
   refine xz ?_
   refine x_ret ?_
   refine fin1 rfl ?_
   refine ⟨congrArg Value.bool ?_,rfl⟩
   simp only [oddR]
   simp_all<;>omega
  refine xl_gs rfl EvO.eq (xl_gs rfl EvO.eq (xl_Pk ?_))
  refine xz ?_
  refine x_ret ?_
  refine fin1 rfl ?_
  refine ⟨congrArg Value.bool ?_,rfl⟩
  simp only [oddR]
  simp_all<;>omega
 refine xl_gs rfl EvO.eq (xl_gs rfl EvO.eq (xl_gs rfl EvO.eq ?_))
 refine xl_gu rfl EvO.eq ?_
 refine xl_gu rfl EvO.eq ?_
 refine xl_gs rfl EvO.eq (xl_Pk ?_)
 refine xm (xl_gs rfl EvO.eq (xl_gs rfl EvO.eq (xl_Pk ?_)))
 refine xz ?_
 refine x_ret ?_
 refine fin1 rfl ?_
 refine ⟨congrArg Value.bool ?_,rfl⟩
 simp only [oddR]
 simp_all<;>omega
theorem toList_get (s:ByteArray) (j:Nat) (h:j<s.size):s.toList[j]?=some (s[j]'h):=by
 rw [ByteArray.toList_eq,Array.getElem?_toList]
 exact Array.getElem?_eq_getElem h
theorem odd_decode (s:ByteArray) (pos:Nat) (h:pos<s.size):oddR ((Utf8.decode s pos).1:Nat)=!byteOk (s[pos]'h)/\(byteOk (s[pos]'h)=true->(Utf8.decode s pos).2=1):=by
 by_cases ha:(s[pos]'h).toNat<128
 ·rw [decode_ascii s pos h ha]
  refine ⟨?_,fun _=>rfl⟩
  simp only [oddR,byteOk]
  rw [Bool.eq_iff_iff]
  simp
  omega
 ·have h1:=decode_odd s pos h (by omega)
  have h2:byteOk (s[pos]'h)=false:=by
   simp only [byteOk]
   rw [Bool.eq_false_iff]
   simp
   omega
  refine ⟨?_,fun e=>by rw [h2] at e;cases e⟩
  rw [h2]
  simp only [oddR]
  simp
  omega
theorem idxf_ok (s:ByteArray) (w:World) (hs:s.size<=1000000000):Ret Tryz.prog 46 #[.string s,.func (.func 77) ([]:List Value).toArray ([]:List Value).toArray,.bool true] w (fun v w'=>(∃ i:Int,v=.int .i64 i/\(0<=i↔s.toList.all byteOk=false))/\Lk w' w NoB):=by
 refine ret_of_x (N:=21) (l:=[.string s,.func (.func 77) ([]:List Value).toArray ([]:List Value).toArray,.bool true]) Tryz.func46 rfl rfl (Nat.le_of_ble_eq_true rfl) ?_
 refine xq (xz ?_)
 refine x_seq (xq (xm ?_))
 refine xl_e (e_rangeS fun it w1 ni li hit hhas=>?_)
 refine xl_nil ?_
 refine x_block ?_
 refine x_loop (fun m τ ds w'=>ds=[]/\∃ (pos:Nat),m=s.size - pos/\pos<=s.size/\StrIt w' it s pos/\(∀ j (h:j<s.size),j<pos->byteOk (s[j]'h)=true)/\Ev τ 1 (.func (.func 77) ([]:List Value).toArray ([]:List Value).toArray)/\Ev τ 2 (.bool true)/\Ev τ 10 (.pointer (some ⟨it,0,none⟩))/\Lk w' w NoB) (s.size) ?start ?round
 case start=>
  exact ⟨rfl,0,rfl,by omega,hit,fun j _ h=>by omega,ii,ii,ii,lkc⟩
 case round=>
  intro m τ2 ds2 w2 hI
  obtain ⟨rfl,pos,rfl,hpos,hst,hall,e1,e2,e10,lk⟩:=hI
  haveI:NotS NoB it:=⟨fun h=>h⟩
  haveI sI:SubF (OneB it) NoB w:=⟨fun k hk e=>by have e':k=it:=e;have:=ni.eq;omega⟩
  refine xq ?_
  refine xl_e (e_nextS hst fun bb qs w3 l2 hb0 hb1=>?_)
  refine xl_v v_extract (xl_nil ?_)
  refine x_seq ?_
  refine x_condE (fun c1=>?_) (fun c1=>?_)
  ·obtain ⟨hps,rfl,hst2⟩:=hb1 c1
   obtain ⟨hod,hwd⟩:=odd_decode s pos hps
   refine x_skip (x_block (xq (xl_v v_extract (xl_v v_extract (xa (xz ?_))))))
   refine xq (xm (xm ?_))
   refine xl_call (odd_ok _ w3) ?_
   rintro _ _ ⟨rfl,rfl⟩
   refine xm ?_
   refine xl_v (v_beql) ?_
   refine xl_nil ?_
   refine x_condE (fun c2=>?_) (fun c2=>?_)
   ·have hbo:byteOk (s[pos]'hps)=false:=by
     rw [hod] at c2
     simpa using c2
    refine xq (xm (xz ?_))
    refine x_ret ?_
    refine fin1 rfl ?_
    refine ⟨⟨pos,rfl,⟨fun _=>?_,fun _=>by omega⟩⟩,lkc⟩
    rw [List.all_eq_false]
    exact ⟨s[pos]'hps,List.mem_of_getElem? (toList_get s pos hps),by simp [hbo]⟩
   have hbo:byteOk (s[pos]'hps)=true:=by
    rw [hod] at c2
    simpa using c2
   have hst3:StrIt w3 it s (pos+1):=by rw [<- hwd hbo];exact hst2
   refine x_skip ?_
   refine ⟨_,?_,rfl,pos+1,rfl,by omega,hst3,?_,ii,ii,ii,lkc⟩
   ·omega
   ·intro j hj hj2
    by_cases e:j=pos
    ·subst e;exact hbo
    ·exact hall j hj (by omega)
  refine x_exit (xq (xz ?_))
  refine x_ret ?_
  refine fin1 rfl ?_
  have hps:=hb0 (by simpa using c1)
  refine ⟨⟨-1,rfl,⟨fun h=>by omega,fun h=>?_⟩⟩,lkc⟩
  rw [List.all_eq_false] at h
  obtain ⟨x,hx,h1⟩:=h
  obtain ⟨j,hj,hxj⟩:=List.getElem_of_mem hx
  have hj2:j<s.size:=by
   have:s.toList.length=s.size:=by rw [ByteArray.toList_eq];rfl
   omega
  have h2:=toList_get s j hj2
  rw [List.getElem?_eq_getElem hj] at h2
  have h3:=hall j hj2 (by omega)
  rw [<- Option.some.inj h2,hxj] at h3
  exact absurd h3 h1
theorem IdxF_ok (s:ByteArray) (w:World) (hs:s.size<=1000000000):Ret Tryz.prog 26 #[.string s,.func (.func 77) ([]:List Value).toArray ([]:List Value).toArray] w (fun v w'=>(∃ i:Int,v=.int .i64 i/\(0<=i↔s.toList.all byteOk=false))/\Lk w' w NoB):=by
 refine ret_of_x (N:=8) (l:=[.string s,.func (.func 77) ([]:List Value).toArray ([]:List Value).toArray]) Tryz.func26 rfl rfl (Nat.le_of_ble_eq_true rfl) ?_
 refine xq (xz ?_)
 refine xq (xm (xm ?_))
 refine xl_call (idxf_ok s w hs) ?_
 rintro _ w1 ⟨⟨i,rfl,hi⟩,lk1⟩
 refine xz ?_
 refine x_ret ?_
 refine fin1 rfl ?_
 exact ⟨⟨i,rfl,hi⟩,lkc⟩
end Go.Proofs.YtigmfcgeljjgnaaGreat
