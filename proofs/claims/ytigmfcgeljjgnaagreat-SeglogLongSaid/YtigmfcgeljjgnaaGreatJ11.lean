/- A part of the walks through the log and its document, and of the law in plain Lean: Xq D E F. -/
import Derived.Test.YtigmfcgeljjgnaaGreatJ07
set_option linter.all false
namespace Go.Wst
def IterX (P:Program) (g:Value) (Own:Nat->Prop) (Al Fin:Seen->Prop) (E:List Value->(Nat->Prop)->World->Prop) (c:Nat) (Rd:World->Prop) (Wr:World->World->Prop) (w:World):Prop:=
  ∀ y I J F w0,Cell1 y->YieldsE P y Al E I J w0 w.heap.size->(∀ pre F W,I pre F W->Rd W)->(∀ pre F W W',I pre F W->Wr W W'->I pre F W')->F c->w0.heap.size<=w.heap.size->I [] F w->(∀ k,F k->¬ Own k)->CallV P g [y] w (fun _ w'=>∃ pre F',((Fin pre/\I pre F' w')\/J pre F' w')/\Keep F w w'/\Sub F' F w)
theorem x_rangeX {P:Program} {N:Nat} {Q:Post} {τ:Tau} {ds:List Deferred} {w:World} {g:Operand} {gf:FuncId} {ga gc:Array Value} {ps:List Nat} {assign body:Code} [hg:EvO N τ g (.func (.func gf) ga gc)]
    (Own:Nat->Prop) (Al Fin:Seen->Prop) (E:List Value->(Nat->Prop)->World->Prop) (hE:Elem E) (c:Nat) (Rd:World->Prop) (Wr:World->World->Prop) (hcw:c<w.heap.size) (hWk:∀ W W',Wr W W'->Keep (OneB c) W W') (hit:∀ W,Lk W w NoB->IterX P (.func (.func gf) ga gc) Own Al Fin E c Rd Wr W) (hOwn:∀ k,Own k->k<w.heap.size) (hAl:∀ pre v,Al (pre++[v])->v.length=ps.length)
    (I:Seen->(Nat->Prop)->World->Prop) (J:Exit->Seen->(Nat->Prop)->World->Prop) (F0:Nat->Prop) (hI:Stable I w) (hJ:∀ e,Stable (J e) w) (hIR:∀ pre F W,I pre F W->Rd W) (hIW:∀ pre F W W',I pre F W->Wr W W'->I pre F W') (hFc:F0 c) (h0:I [] F0 w) (hF:∀ k,F0 k->¬ Own k)
    (B:List Value->Tau->Nat->World->Prop) (hBk:∀ v τ n W1 W2 S,B v τ n W1->Keep S W1 W2->(∀ k,S k->k<n)->B v τ n W2)
    (ha:∀ l pre v W,Al (pre++[v])->v.length=ps.length->X P (some l) N assign (thn (fun τ1 _ W1=>Lk W1 W NoB/\B v τ1 W.heap.size W1) (fun _ _ _ _=>False)) (updL τ ps v) [] W)
    (hb:∀ l pre v F Fv n W τ1 ds1,Al (pre++[v])->I pre F W->E v Fv W->(∀ k,Fv k->¬ F k)->(∀ k,Fv k->w.heap.size<=k)->(∀ k,F k\/Fv k->k<n)->w.heap.size<=n->n<=W.heap.size->B v τ1 n W->X P (some l) N body (roundQ I J (pre++[v]) (fun k=>F k\/Fv k\/n<=k) W) τ1 ds1 W)
    (hn:∀ D pre F W,Fin pre->I pre F W->Keep F0 w W->Sub F F0 w->Blk W D (.deferred (some []))->w.heap.size<=D->¬ F D->Q .normal τ (markOf D :: ds) W)
    (hj:∀ D e pre F W,J e pre F W->(codeOf e).isSome=true->Keep F0 w W->Sub F F0 w->Blk W D (.deferred (some []))->w.heap.size<=D->¬ F D->Q e τ (markOf D :: ds) W) :
    X P none N (.rangeFunc g ps.toArray assign body) Q τ ds w:=by
  intro a hrel
  refine wpIn_rangeFunc ?_
  intro fn hfn
  obtain ⟨rec,hrec⟩:∃ rec:LoopState->Option Code->Loop,rec=fun st pe=>{ state:=st,pending:=pe,fn,tmps:=a.tmps,params:=ps.toArray,assign,body,defers:=w.heap.size }:=⟨_,rfl⟩
  obtain ⟨W1,hW1⟩:∃ W1,(w.alloc (.deferred (some []))).alloc (.loop (rec .ready none))=W1:=⟨_,rfl⟩
  obtain ⟨l,hl⟩:∃ l,l=w.heap.size+1:=⟨_,rfl⟩
  have hk1:Keep NoB w W1:=by rw [<- hW1];exact (Keep.alloc w _).trans (Keep.alloc _ _)
  have hL1:W1.heap[l]?=some (.loop (rec .ready none)):=by
    rw [<- hW1,hl];have:=heap_alloc_new (w.alloc (.deferred (some []))) (.loop (rec .ready none));rwa [World.size_alloc] at this
  have hD1:W1.heap[w.heap.size]?=some (.deferred (some [])):=by
    rw [<- hW1];exact ((Keep.alloc (w.alloc (.deferred (some []))) (.loop (rec .ready none))).block _ (by simp) (fun h=>h)).trans (heap_alloc_new w _)
  have hF0:=hI.lt _ _ _ h0
  obtain ⟨I',hI'⟩:∃ I':Seen->(Nat->Prop)->World->Prop,I'=fun pre F' W=>∃ F,(∀ k,F' k↔(F k\/k=l))/\¬ F l/\I pre F W/\W.heap[l]?=some (.loop (rec .ready none))/\Sub F F0 w/\¬ F w.heap.size:=⟨_,rfl⟩
  obtain ⟨J',hJ'⟩:∃ J':Seen->(Nat->Prop)->World->Prop,J'=fun pre F' W=>∃ F e,(codeOf e).isSome=true/\(∀ k,F' k↔(F k\/k=l))/\¬ F l/\J e pre F W/\W.heap[l]?=some (.loop (rec .done (codeOf e)))/\Sub F F0 w/\¬ F w.heap.size:=⟨_,rfl⟩
  have hlw:∀ k,OneB l k->w.heap.size<=k:=fun k e=>by have e':k=l:=e;omega
  have hyields:YieldsE P (.func (.yield l) #[] #[]) Al E I' J' w W1.heap.size:=by
    rw [hI',hJ']
    refine ⟨⟨?_,?_⟩,⟨?_,?_⟩,?_⟩
    · rintro pre F' W ⟨F,h1,h2,h3,h4,_⟩ k hk
      rcases (h1 k).1 hk with h | h
      · exact hI.lt _ _ _ h3 k h
      rw [h];exact (Array.getElem?_eq_some_iff.1 h4).1
    · rintro pre F' W W' S ⟨F,h1,h2,h3,h4,h5⟩ hk hs hnew
      exact ⟨F,h1,h2,hI.keep _ _ _ _ _ h3 hk (fun k h=>hs k ((h1 k).2 (.inl h))) hnew,(hk.block l (Array.getElem?_eq_some_iff.1 h4).1 (hs l ((h1 l).2 (.inr rfl)))).trans h4,h5⟩
    · rintro pre F' W ⟨F,e,_,h1,h2,h3,h4,_⟩ k hk
      rcases (h1 k).1 hk with h | h
      · exact (hJ e).lt _ _ _ h3 k h
      rw [h];exact (Array.getElem?_eq_some_iff.1 h4).1
    · rintro pre F' W W' S ⟨F,e,h0,h1,h2,h3,h4,h5⟩ hk hs hnew
      exact ⟨F,e,h0,h1,h2,(hJ e).keep _ _ _ _ _ h3 hk (fun k h=>hs k ((h1 k).2 (.inl h))) hnew,(hk.block l (Array.getElem?_eq_some_iff.1 h4).1 (hs l ((h1 l).2 (.inr rfl)))).trans h4,h5⟩
    rintro pre v F' Fv W hal ⟨F,h1,h2,h3,h4,h5,h6⟩ hEv hdis hnw
    have hW1s:W1.heap.size=w.heap.size+2:=by rw [<- hW1];simp
    have hFvl:¬ Fv l:=fun e=>hdis l e ((h1 l).2 (.inr rfl))
    have hlt:l<W.heap.size:=(Array.getElem?_eq_some_iff.1 h4).1
    have hvl:=hAl pre v hal
    have hy:=run_yield (P:=P) (args:=v.toArray) h4 (by rw [hrec];simp [hvl])
    refine .inr ⟨l,fn,_,assign,body,rfl,by rw [hrec] at hy;exact hy,roundIn_of_wpIn (F:=FX none) hfn ?_⟩
    have hz:Rel N (updL τ ps v) [] ⟨(ps.zip v).foldl (fun t (p:Nat×Value)=>t.setIfInBounds p.1 p.2) a.tmps,[]⟩:=rel_zip ps v τ a.tmps ⟨hrel.size,hrel.get,rfl⟩
    have hzz:(Array.foldl (fun (tmps:Array Value) (x:Nat×Value)=>tmps.setIfInBounds x.1 x.2) a.tmps (ps.toArray.zip v.toArray))=(ps.zip v).foldl (fun t (p:Nat×Value)=>t.setIfInBounds p.1 p.2) a.tmps:=by
      rw [List.zip_toArray,List.foldl_toArray]
    have h7:=ha l pre v W hal hvl _ hz
    have h8:Code.wpIn (FX (some l)) 0 P assign (Exit.then (fun a₁ w₁=>∃ w₂,(Instr.beginRound l).run P w₁=.ok () w₂/\body.wpIn (FX (some l)) 0 P (roundPost P l (fun e w'=>∃ v_1,e=.returned v_1/\∃ b F'_1,v_1=.bool b/\(if b=true then (fun pre F' W=>∃ F,(∀ k,F' k↔(F k\/k=l))/\¬ F l/\I pre F W/\W.heap[l]?=some (.loop (rec .ready none))/\Sub F F0 w/\¬ F w.heap.size) (pre++[v]) F'_1 w' else (fun pre F' W=>∃ F e,(codeOf e).isSome=true/\(∀ k,F' k↔(F k\/k=l))/\¬ F l/\J e pre F W/\W.heap[l]?=some (.loop (rec .done (codeOf e)))/\Sub F F0 w/\¬ F w.heap.size) (pre++[v]) F'_1 w')/\Keep (fun k=>F' k\/Fv k) W w'/\Sub F'_1 (fun k=>F' k\/Fv k) W)) a₁ w₂) (fun _ _ _=>False))
        ⟨(ps.zip v).foldl (fun t (p:Nat×Value)=>t.setIfInBounds p.1 p.2) a.tmps,[]⟩ W:=by
      refine wpIn_mono h7 ?_
      rintro e a1 W2 ⟨τ1,d1,hr1,hq⟩
      cases e with
      | normal=>
        obtain ⟨⟨hkW⟩,hB⟩:=hq
        have hlt2:l<W2.heap.size:=Nat.lt_of_lt_of_le hlt hkW.size
        have h4':W2.heap[l]?=some (.loop (rec .ready none)):=(hkW.block l hlt (fun h=>h)).trans h4
        have hFlt:=hI.lt _ _ _ h3
        refine ⟨_,run_beginRound h4' (by rw [hrec]),?_⟩
        have hk2:=keep_putObj W2 l (.loop { rec .ready none with state:=.busy })
        have hl2:(W2.putObj l (.loop { rec .ready none with state:=.busy })).heap[l]?=some (.loop { rec .ready none with state:=.busy }):=World.putObj_heap_same hlt2
        have hi2:=hI.keep _ _ _ _ _ (hI.keep _ _ _ _ _ h3 hkW (fun _ _ h=>h) (fun _ h=>h.elim)) hk2 (fun k hk e=>h2 (by have e':k=l:=e;rw [<- e'];exact hk)) hlw
        have hE2:=hE.keep _ _ _ _ _ (hE.keep _ _ _ _ _ hEv hkW (fun _ _ h=>h)) hk2 (fun k hk e=>hFvl (by have e':k=l:=e;rw [<- e'];exact hk))
        have hsz:(W2.putObj l (.loop { rec .ready none with state:=.busy })).heap.size=W2.heap.size:=by simp [World.putObj]
        have hsW:=hkW.size
        have hwW:w.heap.size<=W.heap.size:=by omega
        have hB2:=hBk _ _ _ _ _ _ hB hk2 (fun k e=>by have e':k=l:=e;omega)
        refine wpIn_mono (hb l pre v F Fv W.heap.size _ τ1 d1 hal hi2 hE2 (fun k hk e=>hdis k hk ((h1 k).2 (.inl e))) (fun k hk=>by have:=hnw k hk;omega) (fun k hk=>hk.elim (hFlt k) (fun hk=>hE.lt _ _ _ hEv k hk)) hwW (by rw [hsz];exact hsW) hB2 a1 hr1) ?_
        have fin:∀ (jump:Option Code) (W3:World) (F3:Nat->Prop),Keep (fun k=>F k\/Fv k\/W.heap.size<=k) (W2.putObj l (.loop { rec .ready none with state:=.busy })) W3->Sub F3 (fun k=>F k\/Fv k\/W.heap.size<=k) (W2.putObj l (.loop { rec .ready none with state:=.busy })) ->
            (Instr.endRound l jump).run P W3=.ok (.bool jump.isNone) (W3.putObj l (.loop (rec (if jump.isNone then .ready else .done) jump))) /\
            (W3.putObj l (.loop (rec (if jump.isNone then .ready else .done) jump))).heap[l]?=some (.loop (rec (if jump.isNone then .ready else .done) jump)) /\
            ¬ F3 l/\Keep (fun k=>F' k\/Fv k) W (W3.putObj l (.loop (rec (if jump.isNone then .ready else .done) jump)))/\Sub (fun k=>F3 k\/k=l) (fun k=>F' k\/Fv k) W/\Sub F3 F0 w/\¬ F3 w.heap.size:=by
          intro jump W3 F3 hk3 hs3
          have hnl:¬ (F l\/Fv l\/W.heap.size<=l):=fun e=>e.elim h2 (fun e=>e.elim hFvl (fun e=>by omega))
          have hl3:=(hk3.block l (by rw [hsz];exact hlt2) hnl).trans hl2
          have hr:=run_endRound (P:=P) jump hl3
          have hw2:w.heap.size<=W2.heap.size:=by omega
          refine ⟨by rw [hrec] at hr ⊢;exact hr,World.putObj_heap_same (Array.getElem?_eq_some_iff.1 hl3).1,fun h=>(hs3 l h).elim hnl (fun e=>by rw [hsz] at e;omega),?_,?_,?_,?_⟩
          · have k0:Keep (fun k=>F' k\/Fv k) W W2:=hkW.mono (fun _ _ h=>h.elim)
            have k1:Keep (fun k=>F' k\/Fv k) W (W2.putObj l (.loop { rec .ready none with state:=.busy })):=k0.then hk2 (fun k _ e=>.inl ((h1 k).2 (.inr e)))
            have k2:Keep (fun k=>F' k\/Fv k) W W3:=k1.then hk3 (fun k hk e=>e.elim (fun e=>.inl ((h1 k).2 (.inl e))) (fun e=>e.elim .inr (fun e=>by omega)))
            exact k2.then (keep_putObj W3 l _) (fun k _ e=>.inl ((h1 k).2 (.inr e)))
          · rintro k (hk | hk)
            · rcases hs3 k hk with (e | e | e) | e
              · exact .inl (.inl ((h1 k).2 (.inl e)))
              · exact .inl (.inr e)
              · exact .inr e
              rw [hsz] at e;exact .inr (Nat.le_trans hsW e)
            exact .inl (.inl ((h1 k).2 (.inr hk)))
          · intro k hk
            rcases hs3 k hk with (e | e | e) | e
            · exact h5 k e
            · have:=hnw k e;exact .inr (by omega)
            · exact .inr (by omega)
            rw [hsz] at e;exact .inr (by omega)
          intro hk
          rcases hs3 _ hk with (e | e | e) | e
          · exact h6 e
          · have:=hnw _ e;omega
          · omega
          rw [hsz] at e;omega
        rintro e3 a3 W3 ⟨τ3,d3,hr3,hp⟩
        cases e3 with
        | normal=>
          obtain ⟨F3,hi3,hk3,hs3⟩:=hp
          obtain ⟨e1,e2,e3,e4,e5,e6,e7⟩:=fin none W3 F3 hk3 hs3
          have hi4:=hI.keep _ _ _ _ _ hi3 (keep_putObj W3 l (.loop (rec .ready none))) (fun k hk e=>e3 (by have e':k=l:=e;rw [<- e'];exact hk)) hlw
          exact ⟨_,_,e1,_,rfl,true,_,rfl,by rw [if_pos rfl];exact ⟨F3,fun k=>Iff.rfl,e3,hi4,e2,e6,e7⟩,e4,e5⟩
        | ret=>
          obtain ⟨F3,hi3,hk3,hs3⟩:=hp
          obtain ⟨e1,e2,e3,e4,e5,e6,e7⟩:=fin (some .ret) W3 F3 hk3 hs3
          have hi4:=(hJ .ret).keep _ _ _ _ _ hi3 (keep_putObj W3 l (.loop (rec .done (some .ret)))) (fun k hk e=>e3 (by have e':k=l:=e;rw [<- e'];exact hk)) hlw
          exact ⟨_,_,e1,_,rfl,false,_,rfl,by rw [if_neg (by simp)];exact ⟨F3,.ret,rfl,fun k=>Iff.rfl,e3,hi4,e2,e6,e7⟩,e4,e5⟩
        | exit id=>
          obtain ⟨F3,hi3,hk3,hs3⟩:=hp
          obtain ⟨e1,e2,e3,e4,e5,e6,e7⟩:=fin (some (.exit id)) W3 F3 hk3 hs3
          have hi4:=(hJ (.exit id)).keep _ _ _ _ _ hi3 (keep_putObj W3 l (.loop (rec .done (some (.exit id))))) (fun k hk e=>e3 (by have e':k=l:=e;rw [<- e'];exact hk)) hlw
          exact ⟨_,_,e1,_,rfl,false,_,rfl,by rw [if_neg (by simp)];exact ⟨F3,.exit id,rfl,fun k=>Iff.rfl,e3,hi4,e2,e6,e7⟩,e4,e5⟩
        | goto t=>exact hp.elim
        | panic ch=>exact hp.elim
        | outgrown=>exact hp.elim
      | exit id=>exact hq.elim
      | goto t=>exact hq.elim
      | ret=>exact hq.elim
      | panic ch=>exact hq.elim
      | outgrown=>exact hq.elim
    rw [hrec]
    simp only []
    rw [hzz]
    rw [hrec] at h8
    exact h8
  have hstart:I' [] (fun k=>F0 k\/k=l) W1:=by
    rw [hI']
    exact ⟨F0,fun k=>Iff.rfl,fun e=>by have:=hF0 l e;omega,hI.keep _ _ _ _ _ h0 hk1 (fun _ _ h=>h) (fun _ h=>h.elim),hL1,Sub.refl _ _,fun e=>by have:=hF0 _ e;omega⟩
  have hiter:=hit W1 ⟨hk1⟩ (.func (.yield l) #[] #[]) I' J' (fun k=>F0 k\/k=l) w ⟨rfl⟩ hyields (by rw [hI'];rintro pre F' W ⟨F,_,_,h3,_⟩;exact hIR _ _ _ h3) (by
    rw [hI']
    rintro pre F' W W' ⟨F,h1,h2,h3,h4,h5⟩ hw
    exact ⟨F,h1,h2,hIW _ _ _ _ h3 hw,((hWk _ _ hw).block l (Array.getElem?_eq_some_iff.1 h4).1 (fun e=>by have e':l=c:=e;omega)).trans h4,h5⟩) (.inl hFc) hk1.size hstart (fun k hk=>by
    rcases hk with hk | hk
    · exact hF k hk
    intro e;have:=hOwn k e;omega)
  have hgv:=hg.eq
  have post:∀ (v:Value) (w3:World),(∃ pre F',((Fin pre/\I' pre F' w3)\/J' pre F' w3)/\Keep (fun k=>F0 k\/k=l) W1 w3/\Sub F' (fun k=>F0 k\/k=l) W1) ->
      rangePost (FX none) 0 P l (lift N Q) { a with defers:=markOf w.heap.size :: a.defers } (.returned v) w3:=by
    rintro v w3 ⟨pre,F',hor,hk3,hs3⟩
    have hD3:w3.heap[w.heap.size]?=some (.deferred (some [])):=(hk3.block _ (Array.getElem?_eq_some_iff.1 hD1).1 (fun e=>e.elim (fun e=>by have:=hF0 _ e;omega) (fun e=>by omega))).trans hD1
    have hrel2:Rel N τ (markOf w.heap.size :: ds) { a with defers:=markOf w.heap.size :: a.defers }:=⟨hrel.size,hrel.get,by simp [hrel.dfs]⟩
    have hkw:∀ o,Keep F0 w (w3.putObj l o):=fun o=>by
      have k1:Keep F0 w W1:=hk1.mono (fun _ _ h=>h.elim)
      have k2:Keep F0 w w3:=k1.then hk3 (fun k hk e=>e.elim (fun e=>e) (fun e=>by omega))
      exact k2.then (keep_putObj w3 l o) (fun k hk e=>by have e':k=l:=e;omega)
    rcases hor with ⟨hfin,hi⟩ | hjj
    · rw [hI'] at hi
      obtain ⟨F,h1,h2,h3,h4,h5,h6⟩:=hi
      refine ⟨none,_,by have:=run_endLoop (P:=P) h4 (by rw [hrec];simp);rw [hrec] at this;exact this,τ,_,hrel2,?_⟩
      refine hn w.heap.size pre F _ hfin (hI.keep _ _ _ _ _ h3 (keep_putObj w3 l _) (fun k hk e=>h2 (by have e':k=l:=e;rw [<- e'];exact hk)) hlw) (hkw _) h5 ⟨(World.putObj_heap_other (by omega)).trans hD3⟩ (Nat.le_refl _) h6
    rw [hJ'] at hjj
    obtain ⟨F,e,hc,h1,h2,h3,h4,h5,h6⟩:=hjj
    have hq:=hj w.heap.size e pre F _ ((hJ e).keep _ _ _ _ _ h3 (keep_putObj w3 l (.loop { rec .done (codeOf e) with state:=.exhausted })) (fun k hk e=>h2 (by have e':k=l:=e;rw [<- e'];exact hk)) hlw) hc (hkw _) h5 ⟨(World.putObj_heap_other (by omega)).trans hD3⟩ (Nat.le_refl _) h6
    have hrun:(Instr.endLoop l).run P w3=.ok (codeOf e) (w3.putObj l (.loop { rec .done (codeOf e) with state:=.exhausted })):=by
      subst hrec
      exact run_endLoop (P:=P) h4 (by simp)
    refine ⟨codeOf e,_,hrun,?_⟩
    cases e with
    | ret=>exact wpIn_ret ⟨τ,_,hrel2,hq⟩
    | exit id=>exact wpIn_exit ⟨τ,_,hrel2,hq⟩
    | normal=>simp [codeOf] at hc
    | goto t=>simp [codeOf] at hc
    | panic ch=>simp [codeOf] at hc
    | outgrown=>simp [codeOf] at hc
  have henter:=run_enterLoop_outer (P:=P) (w:=w) fn a.tmps ps.toArray assign body
  rcases hiter with ⟨f,aa,cc,hgf,hf,h3⟩ | ⟨l2,f,t,asx,bd,hgf,h2,h3⟩
  · cases hgf
    obtain ⟨fn2,cb,hfn2,hnm,hbd⟩:=hf.ex
    refine ⟨l,[markOf w.heap.size],W1,{ target:=.fn (.func gf) gc,args:=ga++#[.func (.yield l) #[] #[]] },W1,gf,ga++#[.func (.yield l) #[] #[]]++gc,W1,?_,?_,fun _ _=>trivial,?_,(fun h=>by simp [FX] at h),?_⟩
    · rw [hl,<- hW1,hrec];exact henter
    · have e1:a.eval g=.func (.func gf) ga gc:=by rw [hrel.eval];exact hgv
      have e0:resolve a.eval (rangeCall g l) 0=Deferred.ofValue (a.eval g) #[.func (.yield l) #[] #[]]:=by
        simp [resolve,rangeCall]
        rfl
      rw [e0,e1]
      simp [Deferred.ofValue]
    · simp [invoke,callFunc,program,Sem.run,hfn2,hnm,hbd]
    refine (callsIn_FX (r:=none) (n:=0 - 1)).2 (Calls.mono h3 ?_)
    rintro e w'' ⟨v,rfl,hR⟩
    exact post v w'' hR
  cases hgf
end Go.Wst
set_option maxRecDepth 100000
set_option synthInstance.maxSize 100000
set_option synthInstance.maxHeartbeats 400000
namespace Go.Proofs.YtigmfcgeljjgnaaGreat
open Go.Wst
open Go.Wst.Dm
theorem row_mapcell {W:World} {m k:Nat} {enc:ByteArray->Value} {kvs:List (ByteArray×Value)} {cs:Array Value} {e:TypeId} {fr:Nat×Nat} (h:MapB W m enc kvs) (hk:W.heap[k]?=some (.cells cs e fr)):k≠m:=by
 rintro rfl
 obtain ⟨es,clock,h1,_⟩:=h
 rw [h1] at hk
 cases hk
theorem rowP_take {W:World} {A:Option Addr} {cs ds:List Value} (h:RowP W A (cs++ds)):RowP W A cs:=fun j v hv=>h j v (by rw [List.getElem?_append_left (List.getElem?_eq_some_iff.1 hv).1];exact hv)
theorem rowP_bytes {W:World} {A:Option Addr} {xs:List UInt8} (n:Nat) (h:RowP W A (bytesC xs)):RowP W A (bytesC (xs.take n)):=by
 have:bytesC xs=bytesC (xs.take n)++bytesC (xs.drop n):=by rw [bytesC_append,List.take_append_drop]
 rw [this] at h
 exact rowP_take h
theorem own_cap {w:World} {base n c sz:Nat} {e:TypeId} {A:Option Addr} {xs:List Value} (h:w.ownsRow base e sz (.slice A n c) n xs):n<=c:=by
 rcases h.2 with ⟨h1,h2⟩ | ⟨g,cap,cur,h1,_,_,h4,_⟩
 ·omega
 ·cases h1;exact h4
theorem put1_ok (m:Nat) (G:Nat->Prop) (l:List (ByteArray×LB)) (n cn cb:Nat) (name:ByteArray) (x:LB) (w:World) (hF:FilesAt w m G l) [kn:Blk w cn (.cells #[.string name] 9 (0,0))] [kb:Blk w cb (.cells #[.slice x.A x.bytes.length x.c] 80 (0,0))] (hx:RowP w x.A (bytesC x.bytes)) (hxc:x.bytes.length<=x.c) (hn:n<=x.bytes.length) (hxl:x.bytes.length<=16777216) (hu:usedB (fsP l)<=16777216):Ret Tryz.prog 63 #[.agg #[.map (some m)],.int .i64 n,.pointer (some ⟨cn,0,none⟩),.pointer (some ⟨cb,0,none⟩)] w (fun v w'=>v=.tuple #[]/\(∃ (G':Nat->Prop) (l':List (ByteArray×LB)),FilesAt w' m G' l'/\fsP l'=aput (fsP l) name (((akey (fsP l) name).getD [])++x.bytes.take n)/\(∀ k,G' k->G k\/w.heap.size<=k))/\Lk w' w (OneB m)):=by
 haveI hmi:MapI w m _ _ _:=⟨hF.map⟩
 have hmlt:=hF.map.lt
 haveI:NeB cn m:=⟨row_mapcell hF.map kn.eq⟩
 haveI:NeB cb m:=⟨row_mapcell hF.map kb.eq⟩
 have hat:=atB_row hF name
 have hus:=used_at hF.nodup name
 refine ret_of_x (N:=18) (l:=[.agg #[.map (some m)],.int .i64 n,.pointer (some ⟨cn,0,none⟩),.pointer (some ⟨cb,0,none⟩)]) Tryz.func63 rfl rfl (Nat.le_of_ble_eq_true rfl) ?_
 refine xq ?_
 refine xl_e (e_box fun b1 w1 n1 l1 k1=>?_)
 refine xl_nil ?_
 refine x_drawL (OneB m) (allS) (.take 0 (.take 1 (.take 2 (.take 3 (.take 4 (.take 5 (.take 7 (.take 8 (.take 9 (.eff 6 (.eff 10 (.eff 11 (.last 12))))))))))))) mixed (by kernel_rfl) (fun _ _ _ _ _ h=>h) (fun w2 l2=>?_)
 refine xt_Fb rfl ?_
 refine xt_Lc rfl ?_
 refine xt_Lc rfl ?_
 refine xt_Fb rfl ?_
 refine xt_Lc rfl ?_
 refine xt_Lc rfl ?_
 refine xt_Lc rfl ?_
 refine xt_v rfl v_move ?_
 refine xt_v rfl (v_sliceH n rfl (by omega)) ?_
 refine xt_e rfl (e_v (v_lookup1v (r:=none) name (lbV (atB l name)) rfl (fsV_at l name)) ?_)
 refine xt_e rfl (e_buildSliceN rfl fun bs w3 ns ls ks=>?_)
 haveI:Row w3 (some ⟨bs,0,none⟩) ([atB l name,⟨x.bytes.take n,x.A,x.c⟩].flatMap lbC):=⟨by
  have h1:=row_blk ks.eq
  have h2:(x.bytes.take n).length=n:=by simp;omega
  have h3:lbV ⟨x.bytes.take n,x.A,x.c⟩=.slice x.A n x.c:=by
   show Value.slice x.A (x.bytes.take n).length x.c=_
   rw [h2]
  have e:[atB l name,⟨x.bytes.take n,x.A,x.c⟩].flatMap lbC=[lbV (atB l name),.slice x.A n x.c]:=by rw [<- h3];rfl
  rw [e]
  exact h1⟩
 have hrow1:RowP w3 (atB l name).A (bytesC (atB l name).bytes):=(hat.1.keep (kpc:Keep NoB w w3) (fun _ _ h=>h)).row
 have hrow2:RowP w3 x.A (bytesC (x.bytes.take n)):=rowP_bytes n (hx.keep (kpc:Keep NoB w w3) (fun _ _ h=>h))
 have hgw:=(Ge.le:w.heap.size<=(w3).heap.size)
 refine xt_call rfl (concat_ok (some ⟨bs,0,none⟩) 2 2 [atB l name,⟨x.bytes.take n,x.A,x.c⟩] w3 (hra:=rowB_of Row.row) (fun j h=>by
     match j,h with
     | 0,_=>exact rowB_of hrow1
     | 1,_=>exact rowB_of hrow2) rfl (by omega) (by simp [lensB];omega)) ?_
 rintro _ w4 ⟨⟨A2,c2,rfl,ho2⟩,lk2⟩
 refine ⟨kpc,?_⟩
 have hFm:=hF.ext (kpc:Keep NoB w w4)
 have hfl:([atB l name,⟨x.bytes.take n,x.A,x.c⟩]:List LB).flatMap (·.bytes)=(atB l name).bytes++x.bytes.take n:=by simp
 have hl2:lensB [atB l name,⟨x.bytes.take n,x.A,x.c⟩]=((atB l name).bytes++x.bytes.take n).length:=by simp [lensB]
 refine xt_lastS rfl (e_mapUpdate name rfl fun w5 l12 m12=>?_)
 refine fin0 rfl ?_
 have hcap:=own_cap ho2
 rw [hl2] at ho2 hcap m12
 rw [hfl] at ho2
 refine ⟨rfl,⟨fun k=>G k\/(∃ a,A2=some a/\a.block=k),aput l name ⟨(atB l name).bytes++x.bytes.take n,A2,c2⟩,⟨?_,?_,?_,?_,?_⟩,?_,?_⟩,lkc⟩
 ·have e:fsV (aput l name ⟨(atB l name).bytes++x.bytes.take n,A2,c2⟩)=aput (fsV l) name (.slice A2 ((atB l name).bytes++x.bytes.take n).length c2):=map_aput lbV l name _
  rw [e]
  exact m12.m
 ·intro p hp
  rcases mem_aput hp with rfl | hp
  ·refine ⟨(FRow.of_own ho2).row.keep (kpc:Keep (OneB m) _ w5) ?_,fun a ha=>.inr ⟨a,ha,rfl⟩⟩
   intro a ha e
   have h1:=(own_blk ho2 a ha).1
   have e':a.block=m:=e
   omega
  ·exact ((hF.rows p hp).keep (kpc:Keep (OneB m) w w5) (fun k e e2=>hF.out (by have e':k=m:=e2;exact e' ▸ e))).mono (fun k e=>.inl e)
 ·intro p hp
  rcases mem_aput hp with rfl | hp
  ·exact hcap
  ·exact hF.caps p hp
 ·rintro k (e | ⟨a,ha,rfl⟩)
  ·exact Nat.lt_of_lt_of_le (hF.lt k e) Ge.le
  ·exact Nat.lt_of_lt_of_le (own_blk ho2 a ha).2 Ge.le
 ·rintro (e | ⟨a,ha,e⟩)
  ·exact hF.out e
  ·have h1:=(own_blk ho2 a ha).1
   omega
 ·have e:fsP (aput l name ⟨(atB l name).bytes++x.bytes.take n,A2,c2⟩)=aput (fsP l) name ((atB l name).bytes++x.bytes.take n):=map_aput (fun y:LB=>y.bytes) l name _
  rw [e,fsP_at]
 ·rintro k (e | ⟨a,ha,rfl⟩)
  ·exact .inl e
  ·exact .inr (Nat.le_trans hgw (own_blk ho2 a ha).1)
theorem cut1_ok (m:Nat) (G:Nat->Prop) (l:List (ByteArray×LB)) (n k cn cb:Nat) (name:ByteArray) (w:World) (hF:FilesAt w m G l) [kn:Blk w cn (.cells #[.string name] 9 (0,0))] [kb:Blk w cb (.cells #[.int .i64 (k:Int)] 3 (0,0))] (hk:∃ b,akey (fsP l) name=some b/\k<=b.length):Ret Tryz.prog 54 #[.agg #[.map (some m)],.int .i64 n,.pointer (some ⟨cn,0,none⟩),.pointer (some ⟨cb,0,none⟩)] w (fun v w'=>v=.tuple #[]/\(∃ (l':List (ByteArray×LB)),FilesAt w' m G l'/\fsP l'=aput (fsP l) name (((akey (fsP l) name).getD []).take k))/\Lk w' w (OneB m)):=by
 haveI hmi:MapI w m _ _ _:=⟨hF.map⟩
 have hmlt:=hF.map.lt
 haveI:NeB cn m:=⟨row_mapcell hF.map kn.eq⟩
 haveI:NeB cb m:=⟨row_mapcell hF.map kb.eq⟩
 have hat:=atB_row hF name
 have hkl:k<=(atB l name).bytes.length:=by
  obtain ⟨b,h1,h2⟩:=hk
  have:=fsP_at l name
  rw [h1] at this
  rw [<- this]
  exact h2
 refine ret_of_x (N:=16) (l:=[.agg #[.map (some m)],.int .i64 n,.pointer (some ⟨cn,0,none⟩),.pointer (some ⟨cb,0,none⟩)]) Tryz.func54 rfl rfl (Nat.le_of_ble_eq_true rfl) ?_
 refine xq ?_
 refine xl_e (e_box fun b1 w1 n1 l1 k1=>?_)
 refine xl_nil ?_
 refine x_drawL (OneB m) (allS) (.take 0 (.take 1 (.take 2 (.take 3 (.take 4 (.take 5 (.take 7 (.take 8 (.eff 6 (.take 9 (.last 10))))))))))) mixed (by kernel_rfl) (fun _ _ _ _ _ h=>h) (fun w2 l2=>?_)
 refine xt_Fb rfl ?_
 refine xt_Lc rfl ?_
 refine xt_Lc rfl ?_
 refine xt_Fb rfl ?_
 refine xt_Lc rfl ?_
 refine xt_Lc rfl ?_
 refine xt_Lc rfl ?_
 refine xt_Lc rfl ?_
 refine xt_e rfl (e_v (v_lookup1v (r:=none) name (lbV (atB l name)) rfl (fsV_at l name)) ?_)
 refine xt_v rfl (v_slice3 k k rfl rfl (Nat.le_refl _) (by omega)) ?_
 refine xt_lastS rfl (e_mapUpdate name rfl fun w3 l12 m12=>?_)
 refine fin0 rfl ?_
 have htl:((atB l name).bytes.take k).length=k:=by simp;omega
 have hFm:=hF.ext (kpc:Keep NoB w w)
 refine ⟨rfl,⟨aput l name ⟨(atB l name).bytes.take k,(atB l name).A,k⟩,⟨?_,?_,?_,?_,hF.out⟩,?_⟩,lkc⟩
 ·have e:fsV (aput l name ⟨(atB l name).bytes.take k,(atB l name).A,k⟩)=aput (fsV l) name (.slice (atB l name).A k k):=by
   have:=map_aput lbV l name ⟨(atB l name).bytes.take k,(atB l name).A,k⟩
   rw [show lbV ⟨(atB l name).bytes.take k,(atB l name).A,k⟩=.slice (atB l name).A k k by show Value.slice _ ((atB l name).bytes.take k).length _=_;rw [htl]] at this
   exact this
  rw [e]
  exact m12.m
 ·intro p hp
  have hkeep:∀ (A:Option Addr) (cs:List Value),FRow w G A cs->FRow w3 G A cs:=fun A cs h=>h.keep (kpc:Keep (OneB m) w w3) (fun j e e2=>hF.out (by have e':j=m:=e2;exact e' ▸ e))
  rcases mem_aput hp with rfl | hp
  ·exact hkeep _ _ ⟨rowP_bytes k hat.1.row,hat.1.blk⟩
  ·exact hkeep _ _ (hF.rows p hp)
 ·intro p hp
  rcases mem_aput hp with rfl | hp
  ·show ((atB l name).bytes.take k).length<=k
   omega
  ·exact hF.caps p hp
 ·exact fun j e=>Nat.lt_of_lt_of_le (hF.lt j e) Ge.le
 ·have e:fsP (aput l name ⟨(atB l name).bytes.take k,(atB l name).A,k⟩)=aput (fsP l) name ((atB l name).bytes.take k):=map_aput (fun y:LB=>y.bytes) l name _
  rw [e,fsP_at]
theorem remove1_ok (m:Nat) (G:Nat->Prop) (l:List (ByteArray×LB)) (n cn:Nat) (name:ByteArray) (w:World) (hF:FilesAt w m G l) [kn:Blk w cn (.cells #[.string name] 9 (0,0))]:Ret Tryz.prog 53 #[.agg #[.map (some m)],.int .i64 n,.pointer (some ⟨cn,0,none⟩)] w (fun v w'=>v=.tuple #[]/\(∃ (l':List (ByteArray×LB)),FilesAt w' m G l'/\fsP l'=adel (fsP l) name)/\Lk w' w (OneB m)):=by
 haveI hmi:MapI w m _ _ _:=⟨hF.map⟩
 have hmlt:=hF.map.lt
 refine ret_of_x (N:=8) (l:=[.agg #[.map (some m)],.int .i64 n,.pointer (some ⟨cn,0,none⟩)]) Tryz.func53 rfl rfl (Nat.le_of_ble_eq_true rfl) ?_
 refine xq ?_
 refine xl_e (e_box fun b1 w1 n1 l1 k1=>?_)
 refine xl_nil ?_
 refine x_regionL (xl_Fb ?_)
 refine xl_Lc ?_
 refine xl_Lc ?_
 refine xl_e0 (e_delete name rfl fun w2 l12 m12=>?_)
 refine xl_nil ?_
 refine fin0 rfl ?_
 refine ⟨rfl,⟨adel l name,⟨?_,?_,?_,?_,hF.out⟩,?_⟩,lkc⟩
 ·have e:fsV (adel l name)=adel (fsV l) name:=map_adel lbV l name
  rw [e]
  exact m12.m
 ·exact fun p hp=>(hF.rows p (mem_adel hp)).keep (kpc:Keep (OneB m) w w2) (fun j e e2=>hF.out (by have e':j=m:=e2;exact e' ▸ e))
 ·exact fun p hp=>hF.caps p (mem_adel hp)
 ·exact fun j e=>Nat.lt_of_lt_of_le (hF.lt j e) Ge.le
 ·exact map_adel (fun y:LB=>y.bytes) l name
theorem acts_put (cn cb:Nat) (name:ByteArray) (x:LB) (k:Int) (W:World) (kn:W.heap[cn]?=some (.cells #[.string name] 9 (0,0))) (kb:W.heap[cb]?=some (.cells #[.slice x.A x.bytes.length x.c] 80 (0,0))) (hx:RowP W x.A (bytesC x.bytes)) (hxc:x.bytes.length<=x.c) (hA:∀ a,x.A=some a->a.block<W.heap.size) :
    Acts (.func (.func 63) ([]:List Value).toArray [Value.pointer (some ⟨cn,0,none⟩),Value.pointer (some ⟨cb,0,none⟩)].toArray) (fun j=>j=cn\/j=cb\/∃ a,x.A=some a/\a.block=j) ⟨0,name,x.bytes,k⟩ W:=by
 have hcn:=(Array.getElem?_eq_some_iff.1 kn).1
 have hcb:=(Array.getElem?_eq_some_iff.1 kb).1
 refine ⟨?_,?_⟩
 ·rintro j (rfl | rfl | ⟨a,ha,rfl⟩)
  ·exact hcn
  ·exact hcb
  ·exact hA a ha
 ·intro W' S hk hs m G l n hF hm _ hn hl hu
  haveI:Blk W' cn (.cells #[.string name] 9 (0,0)):=⟨(hk.block cn hcn (hs cn (.inl rfl))).trans kn⟩
  haveI:Blk W' cb (.cells #[.slice x.A x.bytes.length x.c] 80 (0,0)):=⟨(hk.block cb hcb (hs cb (.inr (.inl rfl)))).trans kb⟩
  refine CallV.of_ret ((put1_ok m G l n cn cb name x W' hF (hx.keep hk (fun a ha=>hs _ (.inr (.inr ⟨a,ha,rfl⟩)))) hxc hn hl hu).mono ?_)
  rintro v w' ⟨rfl,⟨G',l',h1,h2,h3⟩,lk⟩
  exact ⟨rfl,G',l',h1,h2,h3,lk⟩
theorem acts_cut (cn cb:Nat) (name:ByteArray) (bytes:List UInt8) (z:Int) (hz:0<=z) (W:World) (kn:W.heap[cn]?=some (.cells #[.string name] 9 (0,0))) (kb:W.heap[cb]?=some (.cells #[.int .i64 z] 3 (0,0))) :
    Acts (.func (.func 54) ([]:List Value).toArray [Value.pointer (some ⟨cn,0,none⟩),Value.pointer (some ⟨cb,0,none⟩)].toArray) (fun j=>j=cn\/j=cb) ⟨1,name,bytes,z⟩ W:=by
 obtain ⟨k,rfl⟩:=Int.eq_ofNat_of_zero_le hz
 have hcn:=(Array.getElem?_eq_some_iff.1 kn).1
 have hcb:=(Array.getElem?_eq_some_iff.1 kb).1
 refine ⟨?_,?_⟩
 ·rintro j (rfl | rfl)
  ·exact hcn
  ·exact hcb
 ·intro W' S hk hs m G l n hF hm h1 hn hl hu
  haveI:Blk W' cn (.cells #[.string name] 9 (0,0)):=⟨(hk.block cn hcn (hs cn (.inl rfl))).trans kn⟩
  haveI:Blk W' cb (.cells #[.int .i64 (k:Int)] 3 (0,0)):=⟨(hk.block cb hcb (hs cb (.inr rfl))).trans kb⟩
  refine CallV.of_ret ((cut1_ok m G l n k cn cb name W' hF (by simpa using h1 rfl)).mono ?_)
  rintro v w' ⟨rfl,⟨l',h1,h2⟩,lk⟩
  exact ⟨rfl,G,l',h1,h2,fun _ e=>.inl e,lk⟩
theorem acts_remove (cn:Nat) (name:ByteArray) (bytes:List UInt8) (k:Int) (W:World) (kn:W.heap[cn]?=some (.cells #[.string name] 9 (0,0))) :
    Acts (.func (.func 53) ([]:List Value).toArray [Value.pointer (some ⟨cn,0,none⟩)].toArray) (fun j=>j=cn) ⟨2,name,bytes,k⟩ W:=by
 have hcn:=(Array.getElem?_eq_some_iff.1 kn).1
 refine ⟨?_,?_⟩
 ·rintro j rfl
  exact hcn
 ·intro W' S hk hs m G l n hF hm _ hn hl hu
  haveI:Blk W' cn (.cells #[.string name] 9 (0,0)):=⟨(hk.block cn hcn (hs cn rfl)).trans kn⟩
  refine CallV.of_ret ((remove1_ok m G l n cn name W' hF).mono ?_)
  rintro v w' ⟨rfl,⟨l',h1,h2⟩,lk⟩
  exact ⟨rfl,G,l',h1,h2,fun _ e=>.inl e,lk⟩
theorem FilesAt.mono {W:World} {m:Nat} {G G':Nat->Prop} {l:List (ByteArray×LB)} (h:FilesAt W m G l) (hG:∀ k,G k->G' k) (hlt:∀ k,G' k->k<W.heap.size) (hm:¬ G' m):FilesAt W m G' l:=
 ⟨h.map,fun p hp=>(h.rows p hp).mono hG,h.caps,hlt,hm⟩
theorem ownB_ex {A:Option Addr} {n c k:Nat} (e:OwnB (.slice A n c) k):∃ a,A=some a/\a.block=k:=by
 cases A with
 | none=>cases e
 | some a=>exact ⟨a,rfl,by injection e with e;exact e.symm⟩
theorem thing_one (x:LThing):∀ u∈thingC x,u.oneCell'=true:=by
 intro u hu
 simp only [thingC,List.mem_cons,List.not_mem_nil,or_false] at hu
 rcases hu with rfl | rfl | rfl | rfl | rfl | rfl | rfl
 ·exact x.one
 all_goals rfl
def putsN (t:Thing):Nat:=if t.what=0 then t.bytes.length else 0
theorem putsI_N (t:Thing):putsI t=(putsN t:Int):=by unfold putsI putsN;split<;>rfl
theorem putsN_le (t:Thing):putsN t<=t.bytes.length:=by unfold putsN;split<;>omega
theorem Stands.used {D:LDisk} {M:Disk} (hs:Stands D M):usedB (fsP D.cur)<=16777216/\usedB (fsP D.lasts)<=16777216:=by
 have h1:=hs.cur.used
 have h2:=hs.ok.files.2.1
 have h3:=hs.las.used
 have h4:=hs.ok.good.used
 have h5:=hs.ok.most
 omega
theorem Stands.pre {D:LDisk} {M:Disk} (hs:Stands D M) {t:Thing} (hok:okT M.room M.files t):t.what=1->∃ b,akey (fsP D.cur) t.name=some b/\t.n.toNat<=b.length:=by
 intro h1
 rw [hs.cur.eq]
 rcases hok.2 with ⟨e,_⟩ | ⟨_,b,hb,h2,h3⟩ | ⟨e,_⟩
 ·omega
 ·exact ⟨b,hb,by omega⟩
 ·omega
theorem begin_ok (d mb ml:Nat) (G E:Nat->Prop) (D:LDisk) (M:Disk) (x:LThing) (w:World) (h:DiskAt w d mb ml G D) (hs:Stands D M) (hx:Acts x.g E x.t w) (hE:∀ k,E k->¬ DiskB d mb ml D.A k) (hok:okT M.room M.files x.t) (hxl:x.t.bytes.length<=16777216) (hfew:M.lasts.length+M.waits.length+1<=1000000):Ret Tryz.prog 52 #[.pointer (some ⟨d,0,none⟩),.agg (thingC x).toArray] w (fun v w'=>v=.int .i64 0/\(∃ (G':Nat->Prop) (D':LDisk),DiskAt w' d mb ml G' D'/\Stands D' ⟨M.room,M.lasts,M.waits++[x.t]⟩/\(∀ k,DiskB d mb ml D'.A k->DiskB d mb ml D.A k\/w.heap.size<=k)/\(∀ k,G' k->G k\/E k\/w.heap.size<=k))/\Lk w' w (DiskB d mb ml D.A)):=by
 haveI hb:Blk w d _:=⟨h.hb⟩
 haveI s1:SubF (OneB mb) (DiskB d mb ml D.A) w:=⟨fun k _ e=>.inr (.inl e)⟩
 haveI s2:SubF (OneB d) (DiskB d mb ml D.A) w:=⟨fun k _ e=>.inl e⟩
 haveI s3:SubF (OwnB (.slice D.A D.waits.length D.c)) (DiskB d mb ml D.A) w:=⟨fun k _ e=>.inr (.inr (.inr (ownB_ex e)))⟩
 haveI:NeB d mb:=⟨h.d1⟩
 have hdl:=h.lt d (.inl (.inl rfl))
 have hmbl:=h.lt mb (.inl (.inr (.inl rfl)))
 have hmll:=h.lt ml (.inl (.inr (.inr (.inl rfl))))
 haveI hno:NotS (OwnB (.slice D.A D.waits.length D.c)) d:=⟨fun e=>by obtain ⟨a,h1,h2⟩:=ownB_ex e;exact (h.own a h1).1 h2⟩
 have hwl:D.waits.length=M.waits.length:=by rw [<- hs.waits];simp
 refine ret_of_x (N:=24) (l:=[.pointer (some ⟨d,0,none⟩),.agg (thingC x).toArray]) Tryz.func52 rfl rfl (Nat.le_of_ble_eq_true rfl) ?_
 refine xq ?_
 refine xl_e (e_box fun b1 w1 n1 l1 k1=>?_)
 refine xz ?_
 haveI:NeB b1 mb:=⟨by have:=n1.eq;omega⟩
 haveI:NeB b1 d:=⟨by have:=n1.eq;omega⟩
 haveI:NotS (OwnB (.slice D.A D.waits.length D.c)) b1:=⟨fun e=>by obtain ⟨a,h1,h2⟩:=ownB_ex e;have:=(own_blk h.row a h1).2;have:=n1.eq;omega⟩
 refine x_seq ?_
 refine x_drawL (OneB mb) (allS) (.take 0 (.take 1 (.take 2 (.take 3 (.take 4 (.take 5 (.take 6 (.take 7 (.eff 8 .done))))))))) mixed (by kernel_rfl) (fun _ _ _ _ _ h=>h) (fun w2 l2=>?_)
 refine xt_Fb rfl ?_
 refine xt_Lc rfl ?_
 refine xt_v rfl v_move (xt_Nc rfl ?_)
 refine xt_Fb rfl ?_
 refine xt_Lb rfl ?_
 refine xt_Fb rfl ?_
 refine xt_v rfl (v_congr (u:=.int .i64 ((putsN x.t:Nat):Int)) v_load (congrArg _ (putsI_N x.t))) ?_
 refine xt_callv rfl (hx.2 w2 NoB (kpc:Keep NoB w w2) (fun _ _ h=>h) mb G D.cur (putsN x.t) (h.cur.ext (kpc:Keep NoB w w2)) (fun e=>hE mb e (.inr (.inl rfl))) (hs.pre hok) (putsN_le x.t) hxl hs.used.1) ?_
 rintro _ w3 ⟨rfl,G1,l1,hF1,hl1,hG1,lk1⟩
 refine ⟨kpc,?_⟩
 have hgp:=(Ge.le:w.heap.size<=(w2).heap.size)
 obtain ⟨wD,hwD⟩:∃ wD,wD=w3:=⟨_,rfl⟩
 have ho1:=own_keep h.row (kpc:Keep (OneB mb) w w3) (fun k e e2=>by obtain ⟨a,h1,h2⟩:=ownB_ex e.symm;exact (h.own a h1).2.1 (by have e2':k=mb:=e2;rw [h2];exact e2'))
 refine xt_nil ?_
 refine x_seq ?_
 refine x_drawL (fun k=>OneB d k\/OwnB (.slice D.A D.waits.length D.c) k) (allS) (.take 0 (.take 1 (.take 2 (.take 3 (.take 5 (.fork 4 (.eff 6 (.eff 7 (.take 8 (.take 9 (.eff 10 .done))))) 6 (.eff 4 (.eff 7 (.take 8 (.take 9 (.eff 10 .done))))))))))) mixed (by kernel_rfl) (fun _ _ _ _ _ h=>h) (fun w4 l4=>?_)
 refine xt_v rfl v_move (xt_v rfl v_move (xt_Nc rfl ?_))
 refine xt_Fb rfl ?_
 refine xt_Lb rfl ?_
 refine xt_fork ?_ ?_
 ·refine xt_e rfl (e_v (v_load (r:=none)) ?_)
  refine xt_e rfl (e_buildSlice1 (vs:=thingC x) rfl fun bs w5 ns ls ks=>?_)
  refine xt_e rfl (e_append' (own_ext ho1 lkc) (Nat.zero_le _) (by rfl) (thing_one x) (by decide) (.inl rfl) (by omega) (by omega) fun A2 c2 w6 ho2 l2 hf2=>?_)
  refine xt_Nc rfl ?_
  refine xt_Fb rfl ?_
  refine xt_s rfl (e_store fun w7 l7 k7=>?_)
  refine xt_nil ?_
  refine xq (xz ?_)
  refine x_ret ?_
  refine fin1 rfl ?_
  subst hwD
  have hE2:∀ k,E k->k<w.heap.size:=hx.1
  have hA2n:∀ a,A2=some a->(∀ b,D.A=some b->b.block≠a.block)->wD.heap.size<=a.block:=by
   rintro a rfl hn
   rcases hf2 with e | e
   ·obtain ⟨b,hb2,e⟩:=ownB_ex (k:=a.block) e
    exact absurd e (hn b hb2)
   ·have e':some a.block=some _:=e
    injection e' with e'
    rw [e']
    exact Ge.le
  have hG1w:∀ k,G1 k->G k\/w.heap.size<=k:=fun k e=>(hG1 k e).imp id (fun e=>Nat.le_trans hgp e)
  have hoA:∀ a,D.A=some a->a.block<w.heap.size:=fun a ha=>(own_blk h.row a ha).2
  have hA2:∀ a,A2=some a->(∃ b,D.A=some b/\b.block=a.block)\/w.heap.size<=a.block:=by
   rintro a rfl
   rcases hf2 with e | e
   ·exact .inl (ownB_ex (k:=a.block) e)
   ·refine .inr ?_
    have e':some a.block=some _:=e
    injection e' with e'
    rw [e']
    exact Ge.le
  have hlt:∀ k,k<w.heap.size->k<(w7).heap.size:=fun k e=>Nat.lt_of_lt_of_le e Ge.le
  have K:Keep (fun k=>OneB mb k\/OneB d k\/OwnB (.slice D.A D.waits.length D.c) k) w w7:=kpc
  have hS:∀ k,(k≠mb/\k≠d/\∀ a,D.A=some a->a.block≠k)->¬ (OneB mb k\/OneB d k\/OwnB (.slice D.A D.waits.length D.c) k):=by
   rintro k ⟨h1,h2,h3⟩ (e | e | e)
   ·exact h1 e
   ·exact h2 e
   ·obtain ⟨a,ha,e⟩:=ownB_ex e
    exact h3 a ha e
  have hGS:∀ k,G k->(k≠mb/\k≠d/\∀ a,D.A=some a->a.block≠k):=fun k e=>⟨fun e2=>h.cur.out (e2 ▸ e),fun e2=>h.gd (e2 ▸ e),fun a ha e2=>(h.own a ha).2.2.2 (e2 ▸ e)⟩
  have hES:∀ k,E k->(k≠mb/\k≠d/\∀ a,D.A=some a->a.block≠k):=fun k e=>⟨fun e2=>hE k e (.inr (.inl e2)),fun e2=>hE k e (.inl e2),fun a ha e2=>hE k e (.inr (.inr (.inr ⟨a,ha,e2⟩)))⟩
  have hG1S:∀ k,G1 k->(k≠d/\∀ a,D.A=some a->a.block≠k):=fun k e=>by
   rcases hG1w k e with e2 | e2
   ·exact (hGS k e2).2
   ·exact ⟨by omega,fun a ha=>by have:=hoA a ha;omega⟩
  have K3:Keep (fun k=>OneB d k\/OwnB (.slice D.A D.waits.length D.c) k) _ w7:=(kpc:Keep (fun k=>OneB d k\/OwnB (.slice D.A D.waits.length D.c) k) wD w7)
  have hltG:∀ k,(G1 k\/G k\/E k)->k<(w7).heap.size:=by
   rintro k (e | e | e)
   ·exact Nat.lt_of_lt_of_le (hF1.lt k e) K3.size
   ·exact hlt k (h.cur.lt k e)
   ·exact hlt k (hE2 k e)
  refine ⟨rfl,⟨fun k=>G1 k\/G k\/E k,⟨D.room,l1,D.lasts,D.waits++[x],A2,c2⟩,⟨by simpa using (Blk.eq:(w7).heap[d]?=_),?_,?_,?_,?_,h.d1,h.d2,h.d3,?_,?_⟩,?_,?_,?_⟩,lkc⟩
  ·refine (hF1.keep K3 (fun e=>?_) (fun k e e2=>?_)).mono (fun k e=>.inl e) hltG ?_
   ·rcases e with e | e
    ·exact h.d1 e.symm
    ·obtain ⟨a,ha,e⟩:=ownB_ex e
     exact (h.own a ha).2.1 e
   ·rcases e2 with e2 | e2
    ·exact (hG1S k e).1 e2
    ·obtain ⟨a,ha,e2⟩:=ownB_ex e2
     exact (hG1S k e).2 a ha e2
   ·rintro (e | e | e)
    ·exact hF1.out e
    ·exact h.cur.out e
    ·exact hE mb e (.inr (.inl rfl))
  ·refine (h.las.keep K (hS ml ⟨fun e=>h.d3 e.symm,fun e=>h.d2 e.symm,fun a ha e=>(h.own a ha).2.2.1 e⟩) (fun k e=>hS k (hGS k e))).mono (fun k e=>.inr (.inl e)) hltG ?_
   rintro (e | e | e)
   ·rcases hG1w ml e with e | e
    ·exact h.las.out e
    ·omega
   ·exact h.las.out e
   ·exact hE ml e (.inr (.inr (.inl rfl)))
  ·have:=own_keep ho2 (kpc:Keep (OneB d) _ w7) (fun k e e2=>by
    obtain ⟨a,ha,e3⟩:=ownB_ex e.symm
    have e2':k=d:=e2
    rcases hA2 a ha with ⟨b,hb2,e4⟩ | e4
    ·exact (h.own b hb2).1 (by omega)
    ·omega)
   simpa using this
  ·intro y hy
   rcases List.mem_append.1 hy with hy | hy
   ·exact ((h.acts y hy).keep K (fun k e=>hS k (hGS k e))).mono (fun k e=>.inr (.inl e)) hltG
   ·have e:y=x:=by simpa using hy
    subst e
    exact (hx.keep K (fun k e=>hS k (hES k e))).mono (fun k e=>.inr (.inr e)) hltG
  ·rintro (e | e | e)
   ·exact (hG1S d e).1 rfl
   ·exact h.gd e
   ·exact hE d e (.inl rfl)
  ·intro a ha
   rcases hA2 a ha with ⟨b,hb2,e4⟩ | e4
   ·obtain ⟨q1,q2,q3,q4⟩:=h.own b hb2
    refine ⟨by omega,by omega,by omega,?_⟩
    rintro (e | e | e)
    ·exact (hG1S _ e).2 b hb2 e4
    ·exact q4 (e4 ▸ e)
    ·exact (hES _ e).2.2 b hb2 e4
   ·have h9:(wD).heap.size<=a.block:=hA2n a ha (fun b hb2=>by have:=hoA b hb2;omega)
    refine ⟨by omega,by omega,by omega,?_⟩
    rintro (e | e | e)
    ·have:=hF1.lt _ e;omega
    ·have:=h.cur.lt _ e;omega
    ·have:=hE2 _ e;omega
  ·refine ⟨hs.room,by simp [hs.waits],?_,hs.las,hs.ok.snoc hok,by simp;omega,fun t ht=>by
    rcases List.mem_append.1 ht with h1 | h1
    ·exact hs.lens t h1
    ·have e:t=x.t:=by simpa using h1
     rw [e];exact hxl⟩
   rw [files_snoc,hl1,doneM_torn _ _ _ (fun h0=>by unfold putsN;rw [if_pos h0];exact Nat.le_refl _)]
   exact hs.cur.done hok.what hok.there
  ·rintro k (e | e | e | ⟨a,ha,e⟩)
   ·exact .inl (.inl e)
   ·exact .inl (.inr (.inl e))
   ·exact .inl (.inr (.inr (.inl e)))
   ·rcases hA2 a ha with ⟨b,hb2,e4⟩ | e4
    ·exact .inl (.inr (.inr (.inr ⟨b,hb2,e4.trans e⟩)))
    ·exact .inr (by omega)
  ·rintro k (e | e | e)
   ·exact (hG1w k e).imp id .inr
   ·exact .inl e
   ·exact .inr (.inl e)
 refine xt_e rfl (e_buildSlice1 (vs:=thingC x) rfl fun bs w8 ns ls ks=>?_)
 refine xt_e rfl (e_v (v_load (r:=none)) ?_)
 refine xt_e rfl (e_append' (own_ext ho1 lkc) (Nat.zero_le _) (by rfl) (thing_one x) (by decide) (.inl rfl) (by omega) (by omega) fun A2 c2 w9 ho2 l2 hf2=>?_)
 refine xt_Nc rfl ?_
 refine xt_Fb rfl ?_
 refine xt_s rfl (e_store fun w10 l10 k10=>?_)
 refine xt_nil ?_
 refine xq (xz ?_)
 refine x_ret ?_
 refine fin1 rfl ?_
 subst hwD
 have hE2:∀ k,E k->k<w.heap.size:=hx.1
 have hA2n:∀ a,A2=some a->(∀ b,D.A=some b->b.block≠a.block)->wD.heap.size<=a.block:=by
  rintro a rfl hn
  rcases hf2 with e | e
  ·obtain ⟨b,hb2,e⟩:=ownB_ex (k:=a.block) e
   exact absurd e (hn b hb2)
  ·have e':some a.block=some _:=e
   injection e' with e'
   rw [e']
   exact Ge.le
 have hG1w:∀ k,G1 k->G k\/w.heap.size<=k:=fun k e=>(hG1 k e).imp id (fun e=>Nat.le_trans hgp e)
 have hoA:∀ a,D.A=some a->a.block<w.heap.size:=fun a ha=>(own_blk h.row a ha).2
 have hA2:∀ a,A2=some a->(∃ b,D.A=some b/\b.block=a.block)\/w.heap.size<=a.block:=by
  rintro a rfl
  rcases hf2 with e | e
  ·exact .inl (ownB_ex (k:=a.block) e)
  ·refine .inr ?_
   have e':some a.block=some _:=e
   injection e' with e'
   rw [e']
   exact Ge.le
 have hlt:∀ k,k<w.heap.size->k<(w10).heap.size:=fun k e=>Nat.lt_of_lt_of_le e Ge.le
 have K:Keep (fun k=>OneB mb k\/OneB d k\/OwnB (.slice D.A D.waits.length D.c) k) w w10:=kpc
 have hS:∀ k,(k≠mb/\k≠d/\∀ a,D.A=some a->a.block≠k)->¬ (OneB mb k\/OneB d k\/OwnB (.slice D.A D.waits.length D.c) k):=by
  rintro k ⟨h1,h2,h3⟩ (e | e | e)
  ·exact h1 e
  ·exact h2 e
  ·obtain ⟨a,ha,e⟩:=ownB_ex e
   exact h3 a ha e
 have hGS:∀ k,G k->(k≠mb/\k≠d/\∀ a,D.A=some a->a.block≠k):=fun k e=>⟨fun e2=>h.cur.out (e2 ▸ e),fun e2=>h.gd (e2 ▸ e),fun a ha e2=>(h.own a ha).2.2.2 (e2 ▸ e)⟩
 have hES:∀ k,E k->(k≠mb/\k≠d/\∀ a,D.A=some a->a.block≠k):=fun k e=>⟨fun e2=>hE k e (.inr (.inl e2)),fun e2=>hE k e (.inl e2),fun a ha e2=>hE k e (.inr (.inr (.inr ⟨a,ha,e2⟩)))⟩
 have hG1S:∀ k,G1 k->(k≠d/\∀ a,D.A=some a->a.block≠k):=fun k e=>by
  rcases hG1w k e with e2 | e2
  ·exact (hGS k e2).2
  ·exact ⟨by omega,fun a ha=>by have:=hoA a ha;omega⟩
 have K3:Keep (fun k=>OneB d k\/OwnB (.slice D.A D.waits.length D.c) k) _ w10:=(kpc:Keep (fun k=>OneB d k\/OwnB (.slice D.A D.waits.length D.c) k) wD w10)
 have hltG:∀ k,(G1 k\/G k\/E k)->k<(w10).heap.size:=by
  rintro k (e | e | e)
  ·exact Nat.lt_of_lt_of_le (hF1.lt k e) K3.size
  ·exact hlt k (h.cur.lt k e)
  ·exact hlt k (hE2 k e)
 refine ⟨rfl,⟨fun k=>G1 k\/G k\/E k,⟨D.room,l1,D.lasts,D.waits++[x],A2,c2⟩,⟨by simpa using (Blk.eq:(w10).heap[d]?=_),?_,?_,?_,?_,h.d1,h.d2,h.d3,?_,?_⟩,?_,?_,?_⟩,lkc⟩
 ·refine (hF1.keep K3 (fun e=>?_) (fun k e e2=>?_)).mono (fun k e=>.inl e) hltG ?_
  ·rcases e with e | e
   ·exact h.d1 e.symm
   ·obtain ⟨a,ha,e⟩:=ownB_ex e
    exact (h.own a ha).2.1 e
  ·rcases e2 with e2 | e2
   ·exact (hG1S k e).1 e2
   ·obtain ⟨a,ha,e2⟩:=ownB_ex e2
    exact (hG1S k e).2 a ha e2
  ·rintro (e | e | e)
   ·exact hF1.out e
   ·exact h.cur.out e
   ·exact hE mb e (.inr (.inl rfl))
 ·refine (h.las.keep K (hS ml ⟨fun e=>h.d3 e.symm,fun e=>h.d2 e.symm,fun a ha e=>(h.own a ha).2.2.1 e⟩) (fun k e=>hS k (hGS k e))).mono (fun k e=>.inr (.inl e)) hltG ?_
  rintro (e | e | e)
  ·rcases hG1w ml e with e | e
   ·exact h.las.out e
   ·omega
  ·exact h.las.out e
  ·exact hE ml e (.inr (.inr (.inl rfl)))
 ·have:=own_keep ho2 (kpc:Keep (OneB d) _ w10) (fun k e e2=>by
   obtain ⟨a,ha,e3⟩:=ownB_ex e.symm
   have e2':k=d:=e2
   rcases hA2 a ha with ⟨b,hb2,e4⟩ | e4
   ·exact (h.own b hb2).1 (by omega)
   ·omega)
  simpa using this
 ·intro y hy
  rcases List.mem_append.1 hy with hy | hy
  ·exact ((h.acts y hy).keep K (fun k e=>hS k (hGS k e))).mono (fun k e=>.inr (.inl e)) hltG
  ·have e:y=x:=by simpa using hy
   subst e
   exact (hx.keep K (fun k e=>hS k (hES k e))).mono (fun k e=>.inr (.inr e)) hltG
 ·rintro (e | e | e)
  ·exact (hG1S d e).1 rfl
  ·exact h.gd e
  ·exact hE d e (.inl rfl)
 ·intro a ha
  rcases hA2 a ha with ⟨b,hb2,e4⟩ | e4
  ·obtain ⟨q1,q2,q3,q4⟩:=h.own b hb2
   refine ⟨by omega,by omega,by omega,?_⟩
   rintro (e | e | e)
   ·exact (hG1S _ e).2 b hb2 e4
   ·exact q4 (e4 ▸ e)
   ·exact (hES _ e).2.2 b hb2 e4
  ·have h9:(wD).heap.size<=a.block:=hA2n a ha (fun b hb2=>by have:=hoA b hb2;omega)
   refine ⟨by omega,by omega,by omega,?_⟩
   rintro (e | e | e)
   ·have:=hF1.lt _ e;omega
   ·have:=h.cur.lt _ e;omega
   ·have:=hE2 _ e;omega
 ·refine ⟨hs.room,by simp [hs.waits],?_,hs.las,hs.ok.snoc hok,by simp;omega,fun t ht=>by
   rcases List.mem_append.1 ht with h1 | h1
   ·exact hs.lens t h1
   ·have e:t=x.t:=by simpa using h1
    rw [e];exact hxl⟩
  rw [files_snoc,hl1,doneM_torn _ _ _ (fun h0=>by unfold putsN;rw [if_pos h0];exact Nat.le_refl _)]
  exact hs.cur.done hok.what hok.there
 ·rintro k (e | e | e | ⟨a,ha,e⟩)
  ·exact .inl (.inl e)
  ·exact .inl (.inr (.inl e))
  ·exact .inl (.inr (.inr (.inl e)))
  ·rcases hA2 a ha with ⟨b,hb2,e4⟩ | e4
   ·exact .inl (.inr (.inr (.inr ⟨b,hb2,e4.trans e⟩)))
   ·exact .inr (by omega)
 ·rintro k (e | e | e)
  ·exact (hG1w k e).imp id .inr
  ·exact .inl e
  ·exact .inr (.inl e)
def DiskW (P R:Nat->Prop) (d:Nat) (M:Disk) (W:World):Prop:=
 ∃ (mb ml:Nat) (G:Nat->Prop) (D:LDisk),DiskAt W d mb ml G D/\Stands D M/\(∀ k,P k->k<W.heap.size/\¬ DiskF d mb ml D.A G k)/\(∀ k,R k->k<W.heap.size/\¬ DiskB d mb ml D.A k)
def NotP (P:Nat->Prop):Nat->Prop:=fun k=>¬ P k
theorem DiskW.keep {P R:Nat->Prop} {d:Nat} {M:Disk} {W W':World} {S:Nat->Prop} (h:DiskW P R d M W) (hk:Keep S W W') (hs:∀ k,k<W.heap.size->S k->P k) {P' R':Nat->Prop} (hP:∀ k,P' k->k<W'.heap.size/\(P k\/W.heap.size<=k)) (hR:∀ k,R' k->k<W'.heap.size/\(R k\/W.heap.size<=k)):DiskW P' R' d M W':=by
 obtain ⟨mb,ml,G,D,h1,h2,h3,h4⟩:=h
 refine ⟨mb,ml,G,D,h1.keep hk (fun k e e2=>(h3 k (hs k (h1.lt k e) e2)).2 e),h2,fun k e=>?_,fun k e=>?_⟩
 ·obtain ⟨e1,e2⟩:=hP k e
  refine ⟨e1,fun e3=>?_⟩
  rcases e2 with e2 | e2
  ·exact (h3 k e2).2 e3
  ·have:=h1.lt k e3;omega
 ·obtain ⟨e1,e2⟩:=hR k e
  refine ⟨e1,fun e3=>?_⟩
  rcases e2 with e2 | e2
  ·exact (h4 k e2).2 e3
  ·have:=h1.lt k (.inl e3);omega
theorem DiskW.lt {P R:Nat->Prop} {d:Nat} {M:Disk} {W:World} (h:DiskW P R d M W):(∀ k,P k->k<W.heap.size)/\∀ k,R k->k<W.heap.size:=by
 obtain ⟨mb,ml,G,D,h1,h2,h3,h4⟩:=h
 exact ⟨fun k e=>(h3 k e).1,fun k e=>(h4 k e).1⟩
theorem DiskW.cell {P R:Nat->Prop} {d:Nat} {M:Disk} {W W':World} {S:Nat->Prop} (h:DiskW P R d M W) (hk:Keep S W W') (hs:∀ k,k<W.heap.size->S k->P k):DiskW P R d M W':=
 h.keep hk hs (fun k e=>⟨Nat.lt_of_lt_of_le (h.lt.1 k e) hk.size,.inl e⟩) (fun k e=>⟨Nat.lt_of_lt_of_le (h.lt.2 k e) hk.size,.inl e⟩)
theorem DiskW.ext {P R:Nat->Prop} {d:Nat} {M:Disk} {W W':World} (h:DiskW P R d M W) (hk:Keep NoB W W'):DiskW P R d M W':=h.cell hk (fun _ _ h=>h.elim)
theorem DiskW.ok {P R:Nat->Prop} {d:Nat} {M:Disk} {W:World} (h:DiskW P R d M W):M.ok/\M.lasts.length+M.waits.length<=1000000:=by
 obtain ⟨mb,ml,G,D,h1,h2,h3,h4⟩:=h
 exact ⟨h2.ok,h2.few⟩
theorem nil_some {W:World} {A:Option Addr} {xs:List UInt8} {n:Nat} (h:RowP W A (bytesC xs)) (hl:xs.length=n):A.isSome=true\/n=0:=by
 rcases Nat.eq_zero_or_pos n with h0 | h0
 ·exact .inr h0
 ·exact .inl (row_some (w:=W) ⟨h⟩ (by simp;omega))
theorem okT_put {M:Disk} {name:ByteArray} {xs:List UInt8} {k:Int} (h1:nameOk name=true) (h2:¬ M.room - (usedB M.files:Int)<(xs.length:Int)):okT M.room M.files ⟨0,name,xs,k⟩:=⟨h1,.inl ⟨rfl,by show (xs.length:Int)+usedB M.files<=M.room;omega⟩⟩
theorem doNo_put (M:Disk) (name:ByteArray) (xs:List UInt8) (k:Int):M.doNo ⟨0,name,xs,k⟩=if nameOk name=false then 130 else if M.room - (usedB M.files:Int)<(xs.length:Int) then 131 else 0:=by
 unfold Disk.doNo
 by_cases h1:nameOk name=false
 ·rw [if_pos h1,if_pos h1]
 ·rw [if_neg h1,if_neg h1,if_neg (fun h=>h.1 rfl),if_neg (fun h=>by have:=h.1;simp at this)]
  simp
theorem DiskW.begun {P R E:Nat->Prop} {d mb ml:Nat} {G G':Nat->Prop} {D D':LDisk} {M':Disk} {w W W':World} (hl:∀ k,DiskF d mb ml D.A G k->k<w.heap.size) (hP:∀ k,P k->k<w.heap.size/\¬ DiskF d mb ml D.A G k) (hR:∀ k,R k->k<w.heap.size/\¬ DiskB d mb ml D.A k) (hE:∀ k,E k->w.heap.size<=k) (hW:w.heap.size<=W.heap.size) (hW':W.heap.size<=W'.heap.size) (h1:DiskAt W' d mb ml G' D') (h2:Stands D' M') (h3:∀ k,DiskB d mb ml D'.A k->DiskB d mb ml D.A k\/W.heap.size<=k) (h4:∀ k,G' k->G k\/E k\/W.heap.size<=k):DiskW P R d M' W':=
 ⟨mb,ml,G',D',h1,h2,fun k e=>⟨by have:=(hP k e).1;omega,fun e2=>by
  obtain ⟨q1,q2⟩:=hP k e
  rcases e2 with e2 | e2
  ·rcases h3 k e2 with e3 | e3
   ·exact q2 (.inl e3)
   ·omega
  ·rcases h4 k e2 with e3 | e3 | e3
   ·exact q2 (.inr e3)
   ·have:=hE k e3;omega
   ·omega⟩,fun k e=>⟨by have:=(hR k e).1;omega,fun e2=>by
  obtain ⟨q1,q2⟩:=hR k e
  rcases h3 k e2 with e3 | e3
  ·exact q2 e3
  ·omega⟩⟩
theorem put_ok (P R:Nat->Prop) (d:Nat) (M:Disk) (name:ByteArray) (A:Option Addr) (c:Nat) (xs:List UInt8) (k:Int) (w:World) (h:DiskW P R d M w) [Row w A (bytesC xs)] (hn:xs.length<=100000000) (hfew:M.lasts.length+M.waits.length+1<=1000000):Ret Tryz.prog 37 #[.pointer (some ⟨d,0,none⟩),.string name,.slice A xs.length c] w (fun v w'=>v=.int .i64 (M.doNo ⟨0,name,xs,k⟩)/\DiskW P R d (M.does ⟨0,name,xs,k⟩) w'/\Lk w' w (NotP R)):=by
 have hr0:RowP w A (bytesC xs):=(ii:Row w A (bytesC xs)).row
 obtain ⟨mb,ml,G,D,hD,hS,hP,hR⟩:=h
 haveI sP:SubF (DiskB d mb ml D.A) (NotP R) w:=⟨fun k _ e e2=>(hR k e2).2 e⟩
 haveI hb:Blk w d _:=⟨hD.hb⟩
 have hu:=hS.used
 have hcu:=hS.cur.used
 have hm:=hS.ok.most
 have h1m:=hS.ok.one
 have hrm:=hS.room
 have hno:=doNo_put M name xs k
 have hdl:=hD.lt d (.inl (.inl rfl))
 refine ret_of_x (N:=39) (l:=[.pointer (some ⟨d,0,none⟩),.string name,.slice A xs.length c]) Tryz.func37 rfl rfl (Nat.le_of_ble_eq_true rfl) ?_
 refine xq ?_
 refine xl_e (e_box fun b1 w1 n1 l1 k1=>?_)
 refine xl_e (e_box fun b2 w2 n2 l2 k2=>?_)
 refine xz ?_
 refine x_seq (xq (xm (xl_Lc ?_)))
 refine xl_call (named_ok d mb ml G D M name w2 (hD.ext (kpc:Keep NoB w w2)) hS) ?_
 rintro _ w3 ⟨rfl,lk1⟩
 refine xz ?_
 refine xq (xm (xl_v v_neq (xl_nil ?_)))
 refine x_condE (fun c1=>?_) (fun c1=>?_)
 ·have hnn:nameOk name=false:=by
   cases hn2:nameOk name with
   | false=>rfl
   | true=>rw [if_pos hn2] at c1;simp at c1
  refine xq (xm (xz ?_))
  refine x_ret ?_
  refine fin1 rfl ?_
  rw [if_pos hnn] at hno
  refine ⟨by rw [hno,if_neg (by simp [hnn])],?_,lkc⟩
  rw [Disk.does,if_neg (by rw [hno];decide)]
  exact DiskW.ext ⟨mb,ml,G,D,hD,hS,hP,hR⟩ (kpc:Keep NoB w w3)
 have hnn:nameOk name=true:=by
  cases hn2:nameOk name with
  | true=>rfl
  | false=>rw [hn2] at c1;simp at c1
 refine x_skip (x_seq (x_seq ?_))
 refine x_drawL (NoB) (allS) (.take 0 (.take 1 (.take 2 (.take 3 (.take 4 (.take 5 (.take 6 (.take 7 (.take 8 (.take 9 (.eff 10 (.take 11 (.take 12 .done))))))))))))) mixed (by kernel_rfl) (fun _ _ _ _ _ h=>h) (fun w4 l4=>?_)
 refine xt_Lc rfl ?_
 refine xt_v rfl v_len (xt_v rfl v_move (xt_Nc rfl ?_))
 refine xt_Fb rfl ?_
 refine xt_Lc rfl ?_
 refine xt_v rfl v_move (xt_Nc rfl ?_)
 refine xt_Fb rfl ?_
 refine xt_Lb rfl ?_
 refine xt_call rfl (used_ok mb G D.cur w4 (hD.cur.ext (kpc:Keep NoB w w4)) (by omega)) ?_
 rintro _ w5 ⟨rfl,lk2⟩
 refine ⟨kpc,?_⟩
 refine xt_v rfl (v_sub (by omega)) ?_
 refine xt_v rfl v_gtr ?_
 refine xt_nil ?_
 refine x_if (fun c2=>?_) (fun c2=>?_)
 ·refine xq (xz ?_)
  refine x_ret ?_
  refine fin1 rfl ?_
  rw [if_neg (by simp [hnn]),if_pos (by omega)] at hno
  refine ⟨by rw [hno],?_,lkc⟩
  rw [Disk.does,if_neg (by rw [hno];decide)]
  exact DiskW.ext ⟨mb,ml,G,D,hD,hS,hP,hR⟩ (kpc:Keep NoB w w5)
 have hlt2:¬ M.room - (usedB M.files:Int)<(xs.length:Int):=by omega
 rw [if_neg (by simp [hnn]),if_neg hlt2] at hno
 have hok:okT M.room M.files ⟨0,name,xs,k⟩:=okT_put hnn hlt2
 refine x_skip (xq (xl_Lc ?_))
 refine xl_call (cloneb_ok A xs.length c (bytesC xs) w5 (by simp) hn (bytesC_one xs) (nil_some hr0 rfl)) ?_
 rintro _ w6 ⟨⟨A2,c2,rfl,ho2⟩,lk3⟩
 haveI:OwnI w6 A2 _ _ _ _ _ _ _:=⟨ho2⟩
 haveI:NewA A2 w5:=newA_of ho2 (Nat.le_refl _)
 have hcap:=own_cap ho2
 have hgp:=(Ge.le:w.heap.size<=(w5).heap.size)
 have hb1w:w.heap.size<=b1:=by rw [n1.eq];exact Ge.le
 have hb2w:w.heap.size<=b2:=by rw [n2.eq];exact Ge.le
 refine xl_s (e_store fun w7 l7 k7=>?_)
 refine xl_nil ?_
 refine xq (xm (xl_v v_makeFunc (xl_Lc ?_)))
 refine xl_v v_len (xl_Lc ?_)
 refine xl_v (v_buildA) ?_
 refine xl_Lc ?_
 refine xl_v (v_bytesStr (xs:=xs) rfl) ?_
 refine xl_v v_build ?_
 refine xl_call (begin_ok d mb ml G (fun j=>j=b1\/j=b2\/∃ a,A2=some a/\a.block=j) D M ⟨⟨0,name,xs,k⟩,.func (.func 63) ([]:List Value).toArray [Value.pointer (some ⟨b1,0,none⟩),Value.pointer (some ⟨b2,0,none⟩)].toArray,rfl⟩ w7 (hD.ext (kpc:Keep NoB w w7)) hS (acts_put b1 b2 name ⟨xs,A2,c2⟩ k w7 Blk.eq Blk.eq Row.row hcap (fun a ha=>by have:=own_blk (OwnI.own:World.ownsRow w7 _ _ _ (.slice A2 _ c2) _ _) a ha;omega)) (fun j e e2=>by
       have h1:=hD.lt j (.inl e2)
       rcases e with e | e | ⟨a,ha,e⟩
       ·omega
       ·omega
       ·have:=(own_blk ho2 a ha).1;omega) hok (hok.len (by omega) rfl) hfew) ?_
 rintro _ w8 ⟨rfl,⟨G',D',hD',hS',hB',hG'⟩,lk4⟩
 have hgp9:=(Ge.le:w.heap.size<=(w7).heap.size)
 refine xz ?_
 refine x_ret ?_
 refine fin1 rfl ?_
 refine ⟨by rw [hno],?_,lkc⟩
 rw [Disk.does,if_pos hno]
 refine DiskW.begun hD.lt hP hR (fun j e=>?_) hgp9 lk4.keep.size hD' hS' hB' hG'
 rcases e with e | e | ⟨a,ha,e⟩
 ·omega
 ·omega
 ·have:=(own_blk ho2 a ha).1;omega
end Go.Proofs.YtigmfcgeljjgnaaGreat
