/- A part of the walks through the log and its document, and of the law in plain Lean: Xa Xb. -/
import Derived.RangeFuncLeaves
import Derived.OrdersIn
import Derived.Below
import Derived.WalkKit
set_option linter.all false
namespace Go.Wst
abbrev Tau:=Nat->Value
def upd (τ:Tau) (t:Nat) (v:Value):Tau:=fun s=>bif Nat.beq s t then v else τ s
theorem upd_same (τ:Tau) (t:Nat) (v:Value):upd τ t v t=v:=by simp [upd]
theorem upd_ne (τ:Tau) {t s:Nat} (v:Value) (h:s≠t):upd τ t v s=τ s:=by
  have:Nat.beq s t=false:=by rw [<- Bool.not_eq_true,Nat.beq_eq];exact h
  simp [upd,this]
def updO (τ:Tau) (d:Option Nat) (v:Value):Tau:=match d with | some t=>upd τ t v | none=>τ
theorem upd_comm (τ:Tau) {t s:Nat} (v u:Value) (h:s≠t):upd (upd τ t v) s u=upd (upd τ s u) t v:=by
  funext x
  by_cases h1:x=s
  · subst h1;rw [upd_same,upd_ne _ _ h,upd_same]
  rw [upd_ne _ _ h1]
  by_cases h2:x=t
  · subst h2;rw [upd_same,upd_same]
  rw [upd_ne _ _ h2,upd_ne _ _ h2,upd_ne _ _ h1]
theorem updO_comm (τ:Tau) (x y:Option Nat) (v u:Value) (h:∀ d,x=some d->y≠some d):updO (updO τ x v) y u=updO (updO τ y u) x v:=by
  cases x with
  | none=>rfl
  | some d=>
    cases y with
    | none=>rfl
    | some e=>exact upd_comm τ v u (fun he=>h d rfl (he ▸ rfl))
structure Rel (N:Nat) (τ:Tau) (ds:List Deferred) (a:Act):Prop where
  size:a.tmps.size=N
  get:∀ t,t<N->a.tmps.getD t undef=τ t
  dfs:a.defers=ds
theorem Rel.put {N:Nat} {τ:Tau} {ds:List Deferred} {a:Act} (h:Rel N τ ds a) (d:Option Nat) (v:Value):Rel N (updO τ d v) ds (a.put d v):=by
  cases d with
  | none=>exact h
  | some t=>
    refine ⟨by simp [Act.put,h.size],fun s hs=>?_,by simp [Act.put,h.dfs]⟩
    simp only [Act.put,updO]
    have hs':s<a.tmps.size:=by rw [h.size];exact hs
    by_cases hst:s=t
    · subst hst
      rw [upd_same]
      simp [hs']
    rw [upd_ne _ _ hst,<- h.get s hs]
    simp [Array.getElem?_setIfInBounds_ne (Ne.symm hst)]
def evO (N:Nat) (τ:Tau):Operand->Value
  | .tmp t=>if t<N then τ t else undef
  | .const v=>v
  | .global g=>.pointer (some ⟨g,0,none⟩)
  | .func f=>.func (.func f) #[] #[]
theorem Rel.eval {N:Nat} {τ:Tau} {ds:List Deferred} {a:Act} (h:Rel N τ ds a):a.eval=evO N τ:=by
  funext x
  cases x with
  | tmp t=>
    simp only [Act.eval,evO]
    by_cases ht:t<N
    · rw [if_pos ht];exact h.get t ht
    rw [if_neg ht]
    have:a.tmps.size<=t:=by rw [h.size];exact Nat.le_of_not_lt ht
    simp [Array.getD_eq_getD_getElem?,Array.getElem?_eq_none this]
  | _=>rfl
def yieldedT (N:Nat) (ops:Array Oper) (τ:Tau) (j:Nat):Option Bool:=
  match (ops[j]?).bind (·.dst) with
  | some d=>match evO N τ (.tmp d) with | .bool b=>some b | _=>none
  | none=>none
theorem Rel.yielded {N:Nat} {τ:Tau} {ds:List Deferred} {a:Act} (h:Rel N τ ds a) (ops:Array Oper):yielded ops a.tmps=yieldedT N ops τ:=by
  funext j
  unfold Go.yielded yieldedT
  cases hd:(ops[j]?).bind (·.dst) with
  | none=>simp
  | some d=>
    simp only [Option.bind_some]
    rw [<- h.eval]
    simp only [Act.eval]
    by_cases hlt:d<a.tmps.size
    · have e1:a.tmps[d]?=some a.tmps[d]:=Array.getElem?_eq_getElem hlt
      simp only [e1,Array.getD_eq_getD_getElem?,Option.getD_some]
      cases a.tmps[d]<;>rfl
    simp [Array.getElem?_eq_none (Nat.le_of_not_lt hlt),undef]
structure Keep (S:Nat->Prop) (w w':World):Prop where
  os:w'.os=w.os
  tape:w'.tape=w.tape
  output:w'.output=w.output
  size:w.heap.size<=w'.heap.size
  block:∀ k,k<w.heap.size->¬ S k->w'.heap[k]?=w.heap[k]?
theorem Keep.refl (S:Nat->Prop) (w:World):Keep S w w:=⟨rfl,rfl,rfl,Nat.le_refl _,fun _ _ _=>rfl⟩
theorem Keep.trans {S:Nat->Prop} {a b c:World} (h:Keep S a b) (k:Keep S b c):Keep S a c:=
  ⟨k.os.trans h.os,k.tape.trans h.tape,k.output.trans h.output,Nat.le_trans h.size k.size,fun i hi hs=>(k.block i (Nat.lt_of_lt_of_le hi h.size) hs).trans (h.block i hi hs)⟩
theorem Keep.mono {S S':Nat->Prop} {a b:World} (h:Keep S a b) (hs:∀ k,k<a.heap.size->S k->S' k):Keep S' a b:=
  ⟨h.os,h.tape,h.output,h.size,fun i hi hn=>h.block i hi (fun hk=>hn (hs i hi hk))⟩
def NoB:Nat->Prop:=fun _=>False
abbrev Ext (w w':World):Prop:=Keep NoB w w'
theorem Ext.below {a b:World} (h:Ext a b):Go.RowKit.Below a.heap.size a b:=⟨h.os,h.tape,h.output,h.size,fun k hk=>h.block k hk (fun h=>h)⟩
theorem Keep.of_grown {a b:World} {row:Option Nat} (h:a.grownBy b row):Keep (fun k=>some k=row) a b:=⟨h.os,h.tape,h.output,h.size,fun k hk hn=>h.block k hk hn⟩
theorem Keep.drawn (w:World) (n:Nat):Ext w { w with drawn:=n }:=⟨rfl,rfl,rfl,Nat.le_refl _,fun _ _ _=>rfl⟩
theorem Keep.drew (w:World):Ext w w.drew:=⟨rfl,rfl,rfl,Nat.le_refl _,fun _ _ _=>rfl⟩
theorem Keep.alloc (w:World) (o:Obj):Ext w (w.alloc o):=⟨rfl,rfl,rfl,by simp,fun k hk _=>Go.RowKit.Below.heap_alloc _ _ _ hk⟩
theorem Keep.then {S T:Nat->Prop} {a b c:World} (h:Keep S a b) (k:Keep T b c) (hT:∀ i,i<a.heap.size->T i->S i):Keep S a c:=
  ⟨k.os.trans h.os,k.tape.trans h.tape,k.output.trans h.output,Nat.le_trans h.size k.size,fun i hi hs=>(k.block i (Nat.lt_of_lt_of_le hi h.size) (fun ht=>hs (hT i hi ht))).trans (h.block i hi hs)⟩
def FX (r:Option Nat):Fence:={ fn:=fun _=>True,depth:=none,alive:=false,round:=r }
theorem callsIn_FX {r:Option Nat} {n:Nat} {P:Program} {f:FuncId} {args:Array Value} {w:World} {R:Ending->World->Prop}:CallsIn (FX r) n P f args w R↔Calls P f args w R:=by
  have h:CallsIn (FX r) n P f args w R↔CallsIn Fence.wide n P f args w R:=Iff.rfl
  rw [h];exact callsIn_wide
abbrev Post:=Exit->Tau->List Deferred->World->Prop
def lift (N:Nat) (Q:Post):Exit->Act->World->Prop:=fun e a w=>∃ τ ds,Rel N τ ds a/\Q e τ ds w
def X (P:Program) (r:Option Nat) (N:Nat) (c:Code) (Q:Post) (τ:Tau) (ds:List Deferred) (w:World):Prop:=
  ∀ a,Rel N τ ds a->c.wpIn (FX r) 0 P (lift N Q) a w
def thn (K:Tau->List Deferred->World->Prop) (Q:Post):Post
  | .normal,τ,ds,w=>K τ ds w
  | e,τ,ds,w=>Q e τ ds w
def inb (id:Nat) (Q:Post):Post
  | .exit i,τ,ds,w=>bif Nat.beq i id then Q .normal τ ds w else Q (.exit i) τ ds w
  | e,τ,ds,w=>Q e τ ds w
section rules
variable {P:Program} {r:Option Nat} {N:Nat} {Q:Post} {τ:Tau} {ds:List Deferred} {w:World}
theorem x_mono {c:Code} {Q':Post} (h:X P r N c Q τ ds w) (hq:∀ e τ ds w,Q e τ ds w->Q' e τ ds w):X P r N c Q' τ ds w:=
  fun a ha=>wpIn_mono (h a ha) fun _ _ _ ⟨t,d,hr,hQ⟩=>⟨t,d,hr,hq _ _ _ _ hQ⟩
theorem x_skip (h:Q .normal τ ds w):X P r N .skip Q τ ds w:=fun _ ha=>wpIn_skip ⟨τ,ds,ha,h⟩
theorem x_label {l:Nat} (h:Q .normal τ ds w):X P r N (.label l) Q τ ds w:=fun _ ha=>wpIn_label ⟨τ,ds,ha,h⟩
theorem x_exit {id:Nat} (h:Q (.exit id) τ ds w):X P r N (.exit id) Q τ ds w:=fun _ ha=>wpIn_exit ⟨τ,ds,ha,h⟩
theorem x_ret (h:Q .ret τ ds w):X P r N .ret Q τ ds w:=fun _ ha=>wpIn_ret ⟨τ,ds,ha,h⟩
theorem x_seq {x y:Code} (h:X P r N x (thn (fun τ ds w=>X P r N y Q τ ds w) Q) τ ds w):X P r N (.seq x y) Q τ ds w:=fun a ha=>
  wpIn_seq (wpIn_mono (h a ha) fun e _ _ ⟨t,d,hr,hQ⟩=>by
    cases e with
    | normal=>exact hQ _ hr
    | _=>exact ⟨t,d,hr,hQ⟩)
theorem x_cut {x y:Code} (I:Tau->List Deferred->World->Prop) (h:X P r N x (thn I Q) τ ds w) (hk:∀ τ ds w,I τ ds w->X P r N y Q τ ds w):X P r N (.seq x y) Q τ ds w:=
  x_seq (x_mono h fun e t d w' hq=>by
    cases e with
    | normal=>exact hk _ _ _ hq
    | _=>exact hq)
theorem x_block {id:Nat} {c:Code} (h:X P r N c (inb id Q) τ ds w):X P r N (.block id c) Q τ ds w:=fun a ha=>
  wpIn_block (wpIn_mono (h a ha) fun e _ _ ⟨t,d,hr,hQ⟩=>by
    cases e with
    | exit i=>
      simp only [Exit.inBlock,inb] at hQ ⊢
      by_cases hi:i=id
      · subst hi
        have hb:Nat.beq i i=true:=Nat.beq_refl i
        simp only [hb,cond_true] at hQ
        rw [if_pos rfl];exact ⟨t,d,hr,hQ⟩
      have hb:Nat.beq i id=false:=by rw [<- Bool.not_eq_true,Nat.beq_eq];exact hi
      simp only [hb,cond_false] at hQ
      rw [if_neg hi];exact ⟨t,d,hr,hQ⟩
    | _=>exact ⟨t,d,hr,hQ⟩)
theorem x_cond {c:Operand} {x y:Code} {b:Bool} (hc:evO N τ c=.bool b) (ht:b=true->X P r N x Q τ ds w) (hf:b=false->X P r N y Q τ ds w):X P r N (.cond c x y) Q τ ds w:=fun a ha=>
  wpIn_cond_split (t:=b) (by rw [ha.eval];exact hc) (fun h=>ht h a ha) (fun h=>hf h a ha)
theorem x_loop {c:Code} (I:Nat->Tau->List Deferred->World->Prop) (m:Nat) (h0:I m τ ds w)
    (round:∀ m τ ds w,I m τ ds w->X P r N c (thn (fun τ' ds' w'=>∃ m',m'<m/\I m' τ' ds' w') Q) τ ds w):X P r N (.loop c) Q τ ds w:=by
  intro a ha b k cs hro hb hr
  have key:∀ j a τ ds w,Rel N τ ds a->I j τ ds w ->
      ∃ e a' w',lift N Q e a' w'/\ArrivesIn (Machine.fenced P (FX r)) P (lone (b.atR a (.code c :: .inLoop c :: k)) cs w) b k cs e a' w':=by
    intro j
    induction j using Nat.strongRecOn with
    | _ j ih=>
      intro a τ ds w hrel hI
      obtain ⟨e,a₁,w₁,hq,harr⟩:=round j τ ds w hI a hrel b (.inLoop c :: k) cs hro hb hr
      obtain ⟨t1,d1,hr1,hq⟩:=hq
      cases e with
      | normal=>
        obtain ⟨m',hlt,hI₁⟩:=hq
        obtain ⟨e₂,a₂,w₂,hq₂,harr₂⟩:=ih m' hlt a₁ t1 d1 w₁ hr1 hI₁
        exact ⟨e₂,a₂,w₂,hq₂,.of_steps (StepsIn.trans harr (.one (fenced_calm hb hr rfl) stepR_inLoop)) harr₂⟩
      | exit id=>exact ⟨_,a₁,w₁,⟨t1,d1,hr1,hq⟩,.pass (x:=.inLoop c) rfl (fun _ _=>.inl (by simp)) harr⟩
      | goto l=>exact ⟨_,a₁,w₁,⟨t1,d1,hr1,hq⟩,.pass (x:=.inLoop c) rfl (fun _ _=>.inl (by simp)) harr⟩
      | ret=>exact ⟨_,a₁,w₁,⟨t1,d1,hr1,hq⟩,.pass (x:=.inLoop c) rfl (fun _ _=>.inl (by simp)) harr⟩
      | panic ch=>exact ⟨_,a₁,w₁,⟨t1,d1,hr1,hq⟩,.pass (x:=.inLoop c) rfl (fun _ _=>.inl (by simp)) harr⟩
      | outgrown=>exact ⟨_,a₁,w₁,⟨t1,d1,hr1,hq⟩,.pass (x:=.inLoop c) rfl (fun _ _=>.inl (by simp)) harr⟩
  obtain ⟨e,a',w',hq,harr⟩:=key m a τ ds w ha h0
  exact ⟨e,a',w',hq,.of_steps (.one (fenced_calm hb hr rfl) stepR_loop) harr⟩
def Upon (P:Program) (r:Option Nat) (o:Oper) (τ:Tau) (ds:List Deferred) (next:Tau->List Deferred->World->Prop) (Q:Post):Result Next->Prop
  | .ok (.value v) w'=>next (updO τ o.dst v) ds w'
  | .ok .skip w'=>next (updO τ o.dst undef) ds w'
  | .ok (.defer d) w'=>next (updO τ o.dst undef) (d :: ds) w'
  | .ok (.enter f args) w'=>Calls P f args w' fun e w''=>(∃ v,e=.returned v/\next (updO τ o.dst v) ds w'')\/(∃ ch,e=.panicked ch/\Q (.panic ch) τ ds w'')
  | .ok (.round l f tmps assign body) w'=>RoundIn (FX r) 0 P l f tmps assign body w' fun e w''=>(∃ v,e=.returned v/\next (updO τ o.dst v) ds w'')\/(∃ ch,e=.panicked ch/\Q (.panic ch) τ ds w'')
  | .halt (.panic v) w'=>Q (.panic [{ v,recovered:=false }]) τ ds w'
  | _=>False
theorem Upon.mono {o:Oper} {next next':Tau->List Deferred->World->Prop} {R:Result Next} (h:∀ τ ds w,next τ ds w->next' τ ds w) (hu:Upon P r o τ ds next Q R):Upon P r o τ ds next' Q R:=by
  cases R with
  | ok n w'=>
    cases n<;>simp only [Upon] at hu ⊢ <;>
      first
        | exact h _ _ _ hu
        | exact hu.mono (fun e w'' he=>he.imp (fun ⟨v,hv,hn⟩=>⟨v,hv,h _ _ _ hn⟩) id)
  | halt x w'=>cases x<;>simp only [Upon] at hu ⊢<;>exact hu
def wantedT (N:Nat) (ops:Array Oper) (o:Oper) (τ:Tau):Bool:=Region.wanted o (yieldedT N ops τ)
def OpE (P:Program) (r:Option Nat) (N:Nat) (ops:Array Oper) (o:Oper) (Q:Post) (τ:Tau) (ds:List Deferred) (w:World) (K:Tau->List Deferred->World->Prop):Prop:=
  if wantedT N ops o τ=true then Upon P r o τ ds K Q ((o.semAt r (evO N τ)).run P w) else K (updO τ o.dst undef) ds w
theorem OpE.mono {ops:Array Oper} {o:Oper} {K K':Tau->List Deferred->World->Prop} (h:∀ τ ds w,K τ ds w->K' τ ds w) (hh:OpE P r N ops o Q τ ds w K):OpE P r N ops o Q τ ds w K':=by
  unfold OpE at *
  split
  · rename_i hw;rw [if_pos hw] at hh;exact Upon.mono h hh
  rename_i hw;rw [if_neg hw] at hh;exact h _ _ _ hh
theorem wpIn_of_upon {o:Oper} {a:Act} {K:Tau->List Deferred->World->Prop} (ha:Rel N τ ds a) (h:Upon P r o τ ds K Q ((o.semAt r (evO N τ)).run P w)) :
    o.wpIn (FX r) 0 P a w (fun a w=>∃ τ ds,Rel N τ ds a/\K τ ds w) (lift N Q):=by
  refine ⟨fun _ _=>trivial,?_⟩
  show Oper.uponIn (FX r) 0 P o a _ (lift N Q) ((o.semAt r a.eval).run P w)
  rw [ha.eval]
  generalize (o.semAt r (evO N τ)).run P w=R at h
  cases R with
  | ok n w'=>
    cases n<;>simp only [Upon] at h<;>simp only [Oper.uponIn]
    case value v=>exact ⟨_,_,ha.put _ _,h⟩
    case skip=>exact ⟨_,_,ha.put _ _,h⟩
    case defer d=>
      have h2:Rel N τ (d :: ds) { a with defers:=d :: a.defers }:=⟨ha.size,ha.get,by rw [ha.dfs]⟩
      exact ⟨_,_,h2.put _ _,h⟩
    case enter f args=>
      refine ⟨fun h=>by simp [FX] at h,callsIn_FX.2 (h.mono fun e w'' he=>?_)⟩
      rcases he with ⟨v,rfl,hn⟩ | ⟨ch,rfl,hn⟩
      · exact ⟨_,_,ha.put _ _,hn⟩
      exact ⟨_,_,ha,hn⟩
    case round l f tmps assign body=>
      refine ⟨fun h=>by simp [FX] at h,h.mono fun e w'' he=>?_⟩
      rcases he with ⟨v,rfl,hn⟩ | ⟨ch,rfl,hn⟩
      · exact ⟨_,_,ha.put _ _,hn⟩
      exact ⟨_,_,ha,hn⟩
  | halt x w'=>
    cases x<;>simp only [Upon] at h<;>simp only [Oper.uponIn]
    case panic v=>exact ⟨_,_,ha,h⟩
theorem wpOpIn_of_opE {ops:Array Oper} {i:Nat} {o:Oper} {a:Act} {K:Tau->List Deferred->World->Prop} (hi:ops[i]?=some o) (ha:Rel N τ ds a) (h:OpE P r N ops o Q τ ds w K) :
    wpOpIn (FX r) 0 P ops (lift N Q) i (fun a w=>∃ τ ds,Rel N τ ds a/\K τ ds w) a w:=by
  unfold wpOpIn
  simp only [hi]
  unfold OpE wantedT at h
  rw [ha.yielded]
  split
  · rename_i hw;rw [if_pos hw] at h;exact wpIn_of_upon ha h
  rename_i hw;rw [if_neg hw] at h;exact ⟨fun _ _=>trivial,_,_,ha.put _ _,h⟩
def XL (P:Program) (r:Option Nat) (N:Nat) (ops:Array Oper) (Q:Post):List Oper->Tau->List Deferred->World->Prop
  | [],τ,ds,w=>Q .normal τ ds w
  | o :: rest,τ,ds,w=>OpE P r N ops o Q τ ds w (XL P r N ops Q rest)
theorem x_region_aux {ops:Array Oper} (l:List Oper):∀ (k:Nat),(∀ j,l[j]?=ops[k+j]?)->∀ (τ:Tau) (ds:List Deferred) (w:World),XL P r N ops Q l τ ds w ->
    ∀ a,Rel N τ ds a->wpOpsIn (FX r) 0 P ops (lift N Q) (List.range' k l.length) a w:=by
  induction l with
  | nil=>intro k _ τ ds w h a ha;exact ⟨τ,ds,ha,h⟩
  | cons o l ih=>
    intro k hk τ ds w h a ha
    have h0:ops[k]?=some o:=by simpa using (hk 0).symm
    have ih':=ih (k+1) (fun j=>by have:=hk (j+1);simpa [Nat.add_assoc,Nat.add_comm 1 j] using this)
    rw [List.length_cons,List.range'_succ,wpOpsIn_cons]
    exact wpOpIn_mono (fun a w ⟨t,d,hr,hX⟩=>ih' t d w hX a hr) (wpOpIn_of_opE h0 ha h)
theorem x_region {id:Nat} {ops:Array Oper} (h:XL P r N ops Q ops.toList τ ds w):X P r N (.region id ops false) Q τ ds w:=fun a ha=>
  wpIn_region (by rw [List.range_eq_range',<- Array.length_toList];exact x_region_aux ops.toList 0 (by simp) τ ds w h a ha)
theorem x_regionL {id:Nat} {l:List Oper} (h:XL P r N l.toArray Q l τ ds w):X P r N (.region id l.toArray false) Q τ ds w:=x_region (by simpa using h)
theorem semAt_congr {ρ ρ':Operand->Value} (r:Option Nat) (o:Oper) (hs:∀ cs b,o.op≠.select cs b) (h:∀ x∈o.op.operands,ρ x=ρ' x):o.semAt r ρ=o.semAt r ρ':=by
  by_cases hd:∃ c,o.op=.defer c
  · obtain ⟨c,hc⟩:=hd
    cases r with
    | none=>exact execOp_congr o hs h
    | some l=>
      unfold Oper.semAt
      rw [hc]
      simp only []
      rw [resolve_congr (ρ:=ρ) (ρ':=ρ') c o.type (fun x hx=>h x (by rw [hc];exact hx))]
  have hn:∀ c,o.op≠.defer c:=fun c hc=>hd ⟨c,hc⟩
  rw [Oper.semAt_eq r ρ o hn,Oper.semAt_eq r ρ' o hn]
  exact execOp_congr o hs h
theorem evO_updO {x:Operand} {d:Option Nat} {v:Value} (h:∀ t,d=some t->x≠.tmp t):evO N (updO τ d v) x=evO N τ x:=by
  cases d with
  | none=>rfl
  | some t=>
    cases x with
    | tmp s=>
      have hne:s≠t:=fun e=>h t rfl (e ▸ rfl)
      simp only [evO,updO,upd_ne _ _ hne]
    | _=>rfl
theorem operands_looks {ops:Array Oper} {o:Oper} {d:Option Nat} (h:∀ t,d=some t->t ∉ o.looksAt ops):∀ x∈o.op.operands,∀ t,d=some t->x≠.tmp t:=fun x hx t hd hxt=>h t hd (by
  subst hxt
  exact List.mem_append_left _ (List.mem_filterMap.2 ⟨.tmp t,by simpa using hx,rfl⟩))
theorem semAt_updO {ops:Array Oper} (o:Oper) (hs:∀ cs b,o.op≠.select cs b) (d:Option Nat) (v:Value) (h:∀ t,d=some t->t ∉ o.looksAt ops):o.semAt r (evO N (updO τ d v))=o.semAt r (evO N τ):=
  semAt_congr r o hs fun x hx=>evO_updO (operands_looks h x hx)
theorem wantedT_updO {ops:Array Oper} (o:Oper) (d:Option Nat) (v:Value) (h:∀ t,d=some t->t ∉ o.looksAt ops):wantedT N ops o (updO τ d v)=wantedT N ops o τ:=by
  unfold wantedT Region.wanted
  cases hg:o.guard with
  | none=>rfl
  | some p=>
    obtain ⟨g,want⟩:=p
    simp only []
    have:yieldedT N ops (updO τ d v) g=yieldedT N ops τ g:=by
      unfold yieldedT
      cases hd:(ops[g]?).bind (·.dst) with
      | none=>rfl
      | some e=>
        simp only []
        rw [evO_updO (x:=.tmp e) fun t ht hx=>h t ht (by
          have he:e=t:=by injection hx
          subst he
          exact List.mem_append_right _ (by rw [hg];simp [hd]))]
    rw [this]
def Yld (P:Program) (r:Option Nat) (N:Nat) (ops:Array Oper) (S:Nat->Prop) (o:Oper) (v:Value) (τ:Tau) (w:World):Prop:=
  (wantedT N ops o τ=true/\∀ W,Keep S w W->(o.semAt r (evO N τ)).run P W=.ok (.value v) W)\/(wantedT N ops o τ=false/\v=undef)
theorem Yld.later {ops:Array Oper} {S:Nat->Prop} {o:Oper} {v:Value} {w':World} (h:Yld P r N ops S o v τ w) (hk:Keep S w w'):Yld P r N ops S o v τ w':=
  h.imp (fun ⟨a,b⟩=>⟨a,fun W hW=>b W (hk.trans hW)⟩) id
theorem Yld.opE {ops:Array Oper} {S:Nat->Prop} {o:Oper} {v:Value} (h:Yld P r N ops S o v τ w) {K:Tau->List Deferred->World->Prop} (hK:K (updO τ o.dst v) ds w):OpE P r N ops o Q τ ds w K:=by
  unfold OpE
  rcases h with ⟨hw,hv⟩ | ⟨hw,rfl⟩
  · rw [if_pos hw,hv w (Keep.refl _ _)];exact hK
  rw [if_neg (by simp [hw])];exact hK
theorem Yld.updO_ {ops:Array Oper} {S:Nat->Prop} {o:Oper} {v:Value} (hs:∀ cs b,o.op≠.select cs b) (h:Yld P r N ops S o v τ w) (d:Option Nat) (u:Value) (hd:∀ t,d=some t->t ∉ o.looksAt ops):Yld P r N ops S o v (updO τ d u) w:=by
  unfold Yld at *
  rw [wantedT_updO o d u hd,semAt_updO o hs d u hd]
  exact h
theorem OpE_put {ops:Array Oper} {S:Nat->Prop} {oi oj:Oper} {v:Value} (hap:oi.apart ops oj=true) (hsi:∀ cs b,oi.op≠.select cs b) (hsj:∀ cs b,oj.op≠.select cs b)
    (hQ:∀ ch τ τ' ds w,Q (.panic ch) τ ds w->Q (.panic ch) τ' ds w) {K:Tau->List Deferred->World->Prop}
    (hy:Yld P r N ops S oi v τ w) (h:OpE P r N ops oj Q (updO τ oi.dst v) ds w (fun τ' ds' w'=>Keep S w w'/\K τ' ds' w')) :
    OpE P r N ops oj Q τ ds w (fun τ' ds' w'=>Keep S w w'/\Yld P r N ops S oi v τ' w'/\K (updO τ' oi.dst v) ds' w'):=by
  obtain ⟨h1,h2,h3⟩:=Oper.apart_spec hap
  have keep:∀ u w',Keep S w w'->Yld P r N ops S oi v (updO τ oj.dst u) w':=fun u w' hk=>(hy.updO_ hsi oj.dst u h3).later hk
  unfold OpE at *
  rw [wantedT_updO oj oi.dst v h1] at h
  split
  · rename_i hw
    rw [if_pos hw,semAt_updO oj hsj oi.dst v h1] at h
    generalize (oj.semAt r (evO N τ)).run P w=R at *
    cases R with
    | ok n w'=>
      cases n<;>simp only [Upon] at h ⊢
      case value u=>rw [<- updO_comm τ oi.dst oj.dst v u h2];exact ⟨h.1,keep u w' h.1,h.2⟩
      case skip=>rw [<- updO_comm τ oi.dst oj.dst v undef h2];exact ⟨h.1,keep _ w' h.1,h.2⟩
      case defer d=>rw [<- updO_comm τ oi.dst oj.dst v undef h2];exact ⟨h.1,keep _ w' h.1,h.2⟩
      case enter f args=>
        refine h.mono fun e w'' he=>?_
        rcases he with ⟨u,rfl,hk,hn⟩ | ⟨ch,rfl,hn⟩
        · exact .inl ⟨u,rfl,by rw [<- updO_comm τ oi.dst oj.dst v u h2];exact ⟨hk,keep u w'' hk,hn⟩⟩
        exact .inr ⟨ch,rfl,hQ _ _ _ _ _ hn⟩
      case round l f tmps assign body=>
        refine h.mono fun e w'' he=>?_
        rcases he with ⟨u,rfl,hk,hn⟩ | ⟨ch,rfl,hn⟩
        · exact .inl ⟨u,rfl,by rw [<- updO_comm τ oi.dst oj.dst v u h2];exact ⟨hk,keep u w'' hk,hn⟩⟩
        exact .inr ⟨ch,rfl,hQ _ _ _ _ _ hn⟩
    | halt x w'=>
      cases x<;>simp only [Upon] at h ⊢
      case panic u=>exact hQ _ _ _ _ _ h
  rename_i hw
  rw [if_neg hw] at h
  refine ⟨h.1,keep _ w h.1,?_⟩
  rw [<- updO_comm τ oi.dst oj.dst v undef h2]
  exact h.2
def allS:Nat->Prop:=fun _=>True
def XA (P:Program) (r:Option Nat) (N:Nat) (ops:Array Oper) (Q:Post) (S T:Nat->Prop) (h:List Nat):Nat->Array Bool->Tau->List Deferred->World->Prop
  | 0,listed,τ,ds,w=>Region.ready .any ops listed=[]/\Q .normal τ ds w
  | fuel+1,listed,τ,ds,w=>
    (Region.ready .any ops listed=[]->Q .normal τ ds w) /\
    ∀ i∈Region.ready .any ops listed,∀ o,ops[i]?=some o->OpE P r N ops o Q τ ds w (fun τ' ds' w'=>Keep (if i∈h then (fun k=>S k\/T k) else S) w w'/\XA P r N ops Q S T h fuel (listed.setIfInBounds i true) τ' ds' w')
theorem XA_sound {ops:Array Oper} {S T:Nat->Prop} {h:List Nat}:∀ (fuel:Nat) (listed:Array Bool) (τ:Tau) (ds:List Deferred) (w:World),XA P r N ops Q S T h fuel listed τ ds w ->
    ∀ a,Rel N τ ds a->wpAnyIn (FX r) 0 P .any ops (lift N Q) fuel listed a w
  | 0,_,τ,ds,_,h,a,ha=>⟨h.1,τ,ds,ha,h.2⟩
  | fuel+1,listed,τ,ds,w,h,a,ha=>by
    refine ⟨fun he=>⟨τ,ds,ha,h.1 he⟩,fun i hi=>?_⟩
    obtain ⟨_,o,ho,_⟩:=mem_ready.1 hi
    exact wpOpIn_mono (fun a w ⟨t,d,hr,hX⟩=>XA_sound fuel _ t d w hX.2 a hr) (wpOpIn_of_opE ho ha (h.2 i hi o ho))
def waitsN (ops:Array Oper) (listed:Array Bool) (i:Nat):Nat->Nat->Bool
  | 0,_=>false
  | n+1,e=>match ops[e]? with
    | some o=>o.after.any (fun x=>Region.binds .any x && x.on == i) || o.after.any (fun x=>Region.binds .any x && !listed.getD x.on false && waitsN ops listed i n x.on)
    | none=>false
theorem waitsN_ready {ops:Array Oper} {listed:Array Bool} {i j n:Nat} (h:waitsN ops listed i n j=true) (hj:j∈Region.ready .any ops listed) (hi:listed.getD i false=false):False:=by
  cases n with
  | zero=>cases h
  | succ n=>
    obtain ⟨_,o,ho,hall⟩:=mem_ready.1 hj
    simp only [waitsN,ho,Bool.or_eq_true] at h
    rcases h with h | h
    · obtain ⟨x,hx,hb⟩:=Array.any_eq_true'.1 h
      simp only [Bool.and_eq_true,beq_iff_eq] at hb
      have:=hall x hx hb.1
      rw [hb.2,hi] at this
      cases this
    obtain ⟨x,hx,hb⟩:=Array.any_eq_true'.1 h
    simp only [Bool.and_eq_true,Bool.not_eq_true'] at hb
    have:=hall x hx hb.1.1
    rw [hb.1.2] at this
    cases this
theorem waitsN_later {ops:Array Oper} {listed:Array Bool} {i j:Nat} (hj:j∈Region.ready .any ops listed) (hi:listed.getD i false=false):∀ (n e:Nat),waitsN ops listed i n e=true->waitsN ops (listed.setIfInBounds j true) i n e=true:=by
  intro n
  induction n with
  | zero=>intro e h;cases h
  | succ n ih=>
    intro e h
    unfold waitsN at h ⊢
    cases ho:ops[e]? with
    | none=>simp [ho] at h
    | some o=>
      simp only [ho,Bool.or_eq_true] at h ⊢
      rcases h with h | h
      · exact .inl h
      refine .inr ?_
      obtain ⟨x,hx,hb⟩:=Array.any_eq_true'.1 h
      simp only [Bool.and_eq_true,Bool.not_eq_true'] at hb
      refine Array.any_eq_true'.2 ⟨x,hx,?_⟩
      simp only [Bool.and_eq_true,Bool.not_eq_true']
      have hne:j≠x.on:=fun e=>waitsN_ready (e ▸ hb.2) hj hi
      exact ⟨⟨hb.1.1,by rw [getD_set_ne false hne];exact hb.1.2⟩,ih _ hb.2⟩
theorem ready_un {ops:Array Oper} {listed:Array Bool} {i:Nat} (h:i∈Region.ready .any ops listed):listed.getD i false=false:=by
  have h0:=(mem_ready.1 h).1
  rcases Nat.lt_or_ge i listed.size with h' | h'
  · simp [h'] at h0 ⊢;exact h0
  simp [Array.getElem?_eq_none h']
theorem XA_first {ops:Array Oper} {S S' T:Nat->Prop} {h:List Nat} {i:Nat} {oi:Oper} {v:Value} (hi:ops[i]?=some oi) (hsel:∀ (j:Nat) (o:Oper) cs b,ops[j]?=some o->o.op≠.select cs b)
    (hQ:∀ ch τ τ' ds w,Q (.panic ch) τ ds w->Q (.panic ch) τ' ds w) :
    ∀ (fuel:Nat) (listed:Array Bool) (τ:Tau) (ds:List Deferred) (w:World),
      (∀ j oj,ops[j]?=some oj->j≠i->listed.getD j true=false->(∀ e∈oj.after,Region.binds .any e=true->e.on≠i)->oi.apart ops oj=true) ->
      (S'=(fun k=>S k\/T k)\/(S'=S/\∀ e,e∈h->listed.getD e true=false->e≠i->∃ n,waitsN ops listed i n e=true)) ->
      i∈Region.ready .any ops listed->Yld P r N ops S' oi v τ w ->
      XA P r N ops Q S T h fuel (listed.setIfInBounds i true) (updO τ oi.dst v) ds w->XA P r N ops Q S T h (fuel+1) listed τ ds w:=by
  intro fuel
  induction fuel with
  | zero=>
    intro listed τ ds w _ _ hr hy H
    refine ⟨fun h=>(by rw [h] at hr;cases hr),fun j hj o ho=>?_⟩
    by_cases hji:j=i
    · subst hji
      rw [hi] at ho;injection ho with ho;subst ho
      exact hy.opE ⟨Keep.refl _ _,H⟩
    have:=ready_mono hj hji
    rw [H.1] at this
    cases this
  | succ fuel ih=>
    intro listed τ ds w hfree hlast hr hy H
    refine ⟨fun h=>(by rw [h] at hr;cases hr),fun j hj oj hoj=>?_⟩
    by_cases hji:j=i
    · subst hji
      rw [hi] at hoj;injection hoj with hoj;subst hoj
      exact hy.opE ⟨Keep.refl _ _,H⟩
    have h1:=H.2 j (ready_mono hj hji) oj hoj
    obtain ⟨hjun,oj',hoj',hall⟩:=mem_ready.1 hj
    rw [hoj] at hoj';injection hoj' with hoj';subst hoj'
    have hnot:∀ e∈oj.after,Region.binds .any e=true->e.on≠i:=fun e he hb heq=>by
      have h1:=hall e he hb
      have h0:=(mem_ready.1 hr).1
      rw [heq] at h1
      rcases Nat.lt_or_ge i listed.size with h' | h'
      · simp [h'] at h0 h1;rw [h0] at h1;cases h1
      simp [Array.getElem?_eq_none h'] at h1
    have hS:∀ a b:World,Keep (if j∈h then (fun k=>S k\/T k) else S) a b->Keep S' a b:=fun a b hk=>by
      rcases hlast with hS' | ⟨hS',hlast⟩
      · rw [hS'];exact hk.mono (fun k _ e=>by split at e;exact e;exact .inl e)
      have hne:j ∉ h:=fun he=>by
        obtain ⟨n,hn⟩:=hlast j he hjun hji
        exact waitsN_ready hn hj (ready_un hr)
      rw [if_neg hne] at hk
      rw [hS'];exact hk
    have h1':=OpE.mono (K':=fun τ' ds' w'=>Keep S' w w'/\(Keep (if j∈h then (fun k=>S k\/T k) else S) w w'/\XA P r N ops Q S T h fuel ((listed.setIfInBounds i true).setIfInBounds j true) τ' ds' w')) (fun τ' ds' w' hh=>⟨hS _ _ hh.1,hh⟩) h1
    have h2:=OpE_put (hfree j oj hoj hji hjun hnot) (fun cs b=>hsel i oi cs b hi) (fun cs b=>hsel j oj cs b hoj) hQ hy h1'
    have hfree':∀ k ok,ops[k]?=some ok->k≠i->(listed.setIfInBounds j true).getD k true=false ->
        (∀ e∈ok.after,Region.binds .any e=true->e.on≠i)->oi.apart ops ok=true:=fun k ok hk hki hun hno=>by
      refine hfree k ok hk hki ?_ hno
      by_cases hjk:j=k
      · subst hjk;exact hjun
      rw [getD_set_ne true hjk] at hun;exact hun
    have hlast':S'=(fun k=>S k\/T k)\/(S'=S/\∀ e,e∈h->(listed.setIfInBounds j true).getD e true=false->e≠i->∃ n,waitsN ops (listed.setIfInBounds j true) i n e=true):=hlast.imp id (fun ⟨hS',hlast⟩=>⟨hS',fun e he hun hei=>by
      obtain ⟨n,hn⟩:=hlast e he (by
        by_cases hjk:j=e
        · subst hjk;exact hjun
        rw [getD_set_ne true hjk] at hun;exact hun) hei
      exact ⟨n,waitsN_later hj (ready_un hr) n e hn⟩⟩)
    refine h2.mono fun t d w' h3=>⟨h3.2.2.1,ih (listed.setIfInBounds j true) t d w' hfree' hlast' (ready_mono hr (Ne.symm hji)) h3.2.1 ?_⟩
    rw [Array.setIfInBounds_comm _ _ hji]
    exact h3.2.2.2
inductive Plan where
  | done
  | take (i:Nat) (p:Plan)
  | takeA (i:Nat) (p:Plan)
  | eff (i:Nat) (p:Plan)
  | fork (i:Nat) (p:Plan) (j:Nat) (q:Plan)
  | free (i:Nat) (p:Plan)
  | last (i:Nat)
def waitsFor (ops:Array Oper) (h:List Nat) (listed:Array Bool) (i:Nat):Bool:=h.all fun e=>listed.getD e true || e == i || waitsN ops listed i 8 e
theorem waitsFor_spec {ops:Array Oper} {h:List Nat} {listed:Array Bool} {i:Nat} (hw:waitsFor ops h listed i=true):∀ e,e∈h->listed.getD e true=false->e≠i->∃ n,waitsN ops listed i n e=true:=by
  intro e he hun hne
  have hw1:=List.all_eq_true.1 hw e he
  simp only [hun,Bool.or_eq_true,beq_iff_eq,hne,Bool.false_eq_true,false_or] at hw1
  exact ⟨8,hw1⟩
def Plan.ok (ops:Array Oper) (h:List Nat):Plan->Array Bool->Bool
  | .done,listed=>(Region.ready .any ops listed).isEmpty
  | .take i p,listed=>Region.free .any ops listed i && (Region.ready .any ops listed).contains i && waitsFor ops h listed i && p.ok ops h (listed.setIfInBounds i true)
  | .takeA i p,listed=>Region.free .any ops listed i && (Region.ready .any ops listed).contains i && p.ok ops h (listed.setIfInBounds i true)
  | .eff i p,listed=>(Region.ready .any ops listed == [i]) && p.ok ops h (listed.setIfInBounds i true)
  | .fork i p j q,listed=>(Region.ready .any ops listed == [i,j] || Region.ready .any ops listed == [j,i]) && p.ok ops h (listed.setIfInBounds i true) && q.ok ops h (listed.setIfInBounds j true)
  | .last i,listed=>(Region.ready .any ops listed == [i]) && (h.contains i) && (Region.ready .any ops (listed.setIfInBounds i true)).isEmpty
  | .free i p,listed=>(Region.ready .any ops listed == [i]) && (h.contains i) && p.ok ops h (listed.setIfInBounds i true)
def Plan.lastI:Plan->List Nat
  | .done=>[]
  | .take _ p=>p.lastI
  | .takeA _ p=>p.lastI
  | .eff _ p=>p.lastI
  | .fork _ p _ q=>p.lastI++q.lastI
  | .free i p=>i :: p.lastI
  | .last i=>[i]
def Plan.size:Plan->Nat
  | .done=>0
  | .last _=>1
  | .free _ p=>p.size+1
  | .take _ p=>p.size+1
  | .takeA _ p=>p.size+1
  | .eff _ p=>p.size+1
  | .fork _ p _ q=>max p.size q.size+1
def OpP (P:Program) (r:Option Nat) (N:Nat) (ops:Array Oper) (S:Nat->Prop) (o:Oper) (τ:Tau) (w:World) (K:Tau->Prop):Prop:=∃ v,Yld P r N ops S o v τ w/\K (updO τ o.dst v)
def XT (P:Program) (r:Option Nat) (N:Nat) (ops:Array Oper) (Q:Post) (S T:Nat->Prop):Plan->Tau->List Deferred->World->Prop
  | .done,τ,ds,w=>Q .normal τ ds w
  | .take i p,τ,ds,w=>match ops[i]? with | some o=>OpP P r N ops S o τ w (fun τ=>XT P r N ops Q S T p τ ds w) | none=>False
  | .takeA i p,τ,ds,w=>match ops[i]? with | some o=>OpP P r N ops (fun k=>S k\/T k) o τ w (fun τ=>XT P r N ops Q S T p τ ds w) | none=>False
  | .eff i p,τ,ds,w=>match ops[i]? with | some o=>OpE P r N ops o Q τ ds w (fun τ' ds' w'=>Keep S w w'/\XT P r N ops Q S T p τ' ds' w') | none=>False
  | .fork i p j q,τ,ds,w=>(match ops[i]? with | some o=>OpE P r N ops o Q τ ds w (fun τ' ds' w'=>Keep S w w'/\XT P r N ops Q S T p τ' ds' w') | none=>False) /\
      (match ops[j]? with | some o=>OpE P r N ops o Q τ ds w (fun τ' ds' w'=>Keep S w w'/\XT P r N ops Q S T q τ' ds' w') | none=>False)
  | .free i p,τ,ds,w=>match ops[i]? with | some o=>OpE P r N ops o Q τ ds w (fun τ' ds' w'=>Keep T w w'/\XT P r N ops Q S T p τ' ds' w') | none=>False
  | .last i,τ,ds,w=>match ops[i]? with | some o=>OpE P r N ops o Q τ ds w (fun τ' ds' w'=>Keep T w w'/\Q .normal τ' ds' w') | none=>False
theorem ifK {S T:Nat->Prop} {c:Prop} [Decidable c] {a b:World} (h:Keep S a b):Keep (if c then (fun k=>S k\/T k) else S) a b:=by
  split
  · exact h.mono (fun _ _ e=>.inl e)
  exact h
theorem XA_done {ops:Array Oper} {S T:Nat->Prop} {h:List Nat} {listed:Array Bool} (hr:Region.ready .any ops listed=[]) (hq:Q .normal τ ds w):∀ fuel,XA P r N ops Q S T h fuel listed τ ds w
  | 0=>⟨hr,hq⟩
  | _+1=>⟨fun _=>hq,by rw [hr];simp⟩
theorem XA_of_XT {ops:Array Oper} {S T:Nat->Prop} {h:List Nat} (hs:Region.noSelect ops=true) (hQ:∀ ch τ τ' ds w,Q (.panic ch) τ ds w->Q (.panic ch) τ' ds w) :
    ∀ (p:Plan) (listed:Array Bool) (τ:Tau) (ds:List Deferred) (w:World) (fuel:Nat),p.ok ops h listed=true->p.size<=fuel->XT P r N ops Q S T p τ ds w->XA P r N ops Q S T h fuel listed τ ds w
  | .done,listed,τ,ds,w,fuel,hok,_,hx=>XA_done (by simpa [Plan.ok] using hok) hx fuel
  | .take i p,listed,τ,ds,w,fuel,hok,hf,hx=>by
    simp only [Plan.ok,Bool.and_eq_true] at hok
    obtain ⟨⟨⟨hfree,hrdy⟩,hwait⟩,hok⟩:=hok
    simp only [Plan.size] at hf
    obtain ⟨fuel,rfl⟩:∃ n,fuel=n+1:=⟨fuel - 1,by omega⟩
    simp only [XT] at hx
    cases hi:ops[i]? with
    | none=>simp [hi] at hx
    | some o=>
      simp only [hi] at hx
      obtain ⟨v,hy,hK⟩:=hx
      exact XA_first hi (Region.noSelect_spec hs) hQ fuel listed τ ds w (Region.free_spec hi hfree) (.inr ⟨rfl,waitsFor_spec hwait⟩) (by simpa using hrdy) hy (XA_of_XT hs hQ p _ _ ds w fuel hok (by omega) hK)
  | .takeA i p,listed,τ,ds,w,fuel,hok,hf,hx=>by
    simp only [Plan.ok,Bool.and_eq_true] at hok
    obtain ⟨⟨hfree,hrdy⟩,hok⟩:=hok
    simp only [Plan.size] at hf
    obtain ⟨fuel,rfl⟩:∃ n,fuel=n+1:=⟨fuel - 1,by omega⟩
    simp only [XT] at hx
    cases hi:ops[i]? with
    | none=>simp [hi] at hx
    | some o=>
      simp only [hi] at hx
      obtain ⟨v,hy,hK⟩:=hx
      exact XA_first hi (Region.noSelect_spec hs) hQ fuel listed τ ds w (Region.free_spec hi hfree) (.inl rfl) (by simpa using hrdy) hy (XA_of_XT hs hQ p _ _ ds w fuel hok (by omega) hK)
  | .eff i p,listed,τ,ds,w,fuel,hok,hf,hx=>by
    simp only [Plan.ok,Bool.and_eq_true,beq_iff_eq] at hok
    obtain ⟨hrdy,hok⟩:=hok
    simp only [Plan.size] at hf
    obtain ⟨fuel,rfl⟩:∃ n,fuel=n+1:=⟨fuel - 1,by omega⟩
    simp only [XT] at hx
    refine ⟨fun h0=>(by rw [hrdy] at h0;cases h0),fun j hj o ho=>?_⟩
    rw [hrdy,List.mem_singleton] at hj
    subst hj
    simp only [ho] at hx
    exact hx.mono fun t d w' ⟨hk,hx⟩=>⟨ifK hk,XA_of_XT hs hQ p _ t d w' fuel hok (by omega) hx⟩
  | .last i,listed,τ,ds,w,fuel,hok,hf,hx=>by
    simp only [Plan.ok,Bool.and_eq_true,beq_iff_eq] at hok
    obtain ⟨⟨hrdy,hh⟩,hok⟩:=hok
    simp only [Plan.size] at hf
    obtain ⟨fuel,rfl⟩:∃ n,fuel=n+1:=⟨fuel - 1,by omega⟩
    simp only [XT] at hx
    refine ⟨fun h0=>(by rw [hrdy] at h0;cases h0),fun j hj o ho=>?_⟩
    rw [hrdy,List.mem_singleton] at hj
    subst hj
    simp only [ho] at hx
    exact hx.mono fun t d w' ⟨hk,hx⟩=>⟨by rw [if_pos (by simpa using hh)];exact hk.mono (fun _ _ e=>.inr e),XA_done (by simpa using hok) hx fuel⟩
  | .free i p,listed,τ,ds,w,fuel,hok,hf,hx=>by
    simp only [Plan.ok,Bool.and_eq_true,beq_iff_eq] at hok
    obtain ⟨⟨hrdy,hh⟩,hok⟩:=hok
    simp only [Plan.size] at hf
    obtain ⟨fuel,rfl⟩:∃ n,fuel=n+1:=⟨fuel - 1,by omega⟩
    simp only [XT] at hx
    refine ⟨fun h0=>(by rw [hrdy] at h0;cases h0),fun j hj o ho=>?_⟩
    rw [hrdy,List.mem_singleton] at hj
    subst hj
    simp only [ho] at hx
    exact hx.mono fun t d w' ⟨hk,hx⟩=>⟨by rw [if_pos (by simpa using hh)];exact hk.mono (fun _ _ e=>.inr e),XA_of_XT hs hQ p _ t d w' fuel hok (by omega) hx⟩
  | .fork i p j q,listed,τ,ds,w,fuel,hok,hf,hx=>by
    simp only [Plan.ok,Bool.and_eq_true,Bool.or_eq_true,beq_iff_eq] at hok
    obtain ⟨⟨hrdy,hokp⟩,hokq⟩:=hok
    simp only [Plan.size] at hf
    obtain ⟨fuel,rfl⟩:∃ n,fuel=n+1:=⟨fuel - 1,by omega⟩
    simp only [XT] at hx
    obtain ⟨h1,h2⟩:=hx
    refine ⟨fun h0=>(by rcases hrdy with hrdy | hrdy<;>(rw [hrdy] at h0;cases h0)),fun k hk o ho=>?_⟩
    have hk':k=i\/k=j:=by
      rcases hrdy with hrdy | hrdy<;>(rw [hrdy] at hk;simp at hk)
      · exact hk
      exact hk.symm
    rcases hk' with rfl | rfl
    · simp only [ho] at h1
      exact h1.mono fun t d w' ⟨hk,hx⟩=>⟨ifK hk,XA_of_XT hs hQ p _ t d w' fuel hokp (by have:=Nat.le_max_left p.size q.size;omega) hx⟩
    simp only [ho] at h2
    exact h2.mono fun t d w' ⟨hk,hx⟩=>⟨ifK hk,XA_of_XT hs hQ q _ t d w' fuel hokq (by have:=Nat.le_max_right p.size q.size;omega) hx⟩
theorem x_draw {id:Nat} {ops:Array Oper} (S T:Nat->Prop) (p:Plan) (hm:P.follows .mixedOrders=true) (hok:(Region.noSelect ops && p.ok ops p.lastI (Array.replicate ops.size false) && decide (p.size<=ops.size))=true)
    (hQ:∀ ch τ τ' ds w,Q (.panic ch) τ ds w->Q (.panic ch) τ' ds w) (h:XT P r N ops Q S T p τ ds { w with drawn:=w.drawn+1 }):X P r N (.region id ops true) Q τ ds w:=fun a ha=>by
  simp only [Bool.and_eq_true,decide_eq_true_eq] at hok
  exact wpIn_region_any hm (XA_sound _ _ τ ds _ (XA_of_XT hok.1.1 hQ p _ τ ds _ _ hok.1.2 hok.2 h) a ha)
end rules
abbrev ii:=@inferInstance
class LtN (a b:Nat):Prop where lt:a<b
instance ltn (k t:Nat):LtN t (k+t+1):=⟨by omega⟩
class NeN (a b:Nat):Prop where ne:a≠b
instance nen1 (a b:Nat) [h:LtN a b]:NeN a b:=⟨Nat.ne_of_lt h.lt⟩
instance nen2 (a b:Nat) [h:LtN b a]:NeN a b:=⟨Nat.ne_of_gt h.lt⟩
class Ev (τ:Tau) (t:Nat) (v:outParam Value):Prop where eq:τ t=v
instance ev_same (τ:Tau) (t:Nat) (v:Value):Ev (upd τ t v) t v:=⟨upd_same τ t v⟩
instance ev_ne (τ:Tau) (t s:Nat) (v u:Value) [h:NeN t s] [e:Ev τ t u]:Ev (upd τ s v) t u:=⟨(upd_ne τ v h.ne).trans e.eq⟩
class EvO (N:Nat) (τ:Tau) (x:Operand) (v:outParam Value):Prop where eq:evO N τ x=v
instance evo_tmp (N:Nat) (τ:Tau) (t:Nat) (v:Value) [h:LtN t N] [e:Ev τ t v]:EvO N τ (.tmp t) v:=⟨by simp only [evO];rw [if_pos h.lt];exact e.eq⟩
instance evo_const (N:Nat) (τ:Tau) (v:Value):EvO N τ (.const v) v:=⟨rfl⟩
instance evo_func (N:Nat) (τ:Tau) (f:FuncId):EvO N τ (.func f) (.func (.func f) #[] #[]):=⟨rfl⟩
class EvL (N:Nat) (τ:Tau) (xs:List Operand) (vs:outParam (List Value)):Prop where eq:xs.map (evO N τ)=vs
instance evl_nil (N:Nat) (τ:Tau):EvL N τ [] []:=⟨rfl⟩
instance evl_cons (N:Nat) (τ:Tau) (x:Operand) (xs:List Operand) (v:Value) (vs:List Value) [h:EvO N τ x v] [k:EvL N τ xs vs]:EvL N τ (x :: xs) (v :: vs):=⟨by rw [List.map_cons,h.eq,k.eq]⟩
class EvP (N:Nat) (τ:Tau) (xs:List (Nat×Operand)) (vs:outParam (List (Nat×Value))):Prop where eq:(xs.map fun p=>(p.1,evO N τ p.2))=vs
instance evp_nil (N:Nat) (τ:Tau):EvP N τ [] []:=⟨rfl⟩
instance evp_cons (N:Nat) (τ:Tau) (i:Nat) (x:Operand) (xs:List (Nat×Operand)) (v:Value) (vs:List (Nat×Value)) [h:EvO N τ x v] [k:EvP N τ xs vs]:EvP N τ ((i,x) :: xs) ((i,v) :: vs):=⟨by rw [List.map_cons,h.eq,k.eq]⟩
class Und (P:Program) (t:TypeId) (d:outParam TypeDesc):Prop where eq:P.underlying t=some d
class Inf (P:Program) (t:TypeId) (sz bytes:outParam Nat) (z:outParam Value):Prop where ex:∃ i,P.info? t=some i/\i.size=sz/\i.bytes=bytes/\i.zero=some z
class One (P:Program) (t:TypeId):Prop where ex:∃ d,P.underlying t=some d/\(match d with | .struct _ | .array _ _=>False | _=>True)
class Many (P:Program) (t:TypeId) (n:outParam Nat):Prop where ex:∃ d i,P.underlying t=some d/\(match d with | .struct _ | .array _ _=>True | _=>False)/\P.info? t=some i/\i.size=n
class Fld (P:Program) (s:TypeId) (f:Nat) (off:outParam Nat) (t:outParam TypeId):Prop where ex:∃ fs fd i,P.underlying s=some (.struct fs)/\fs[f]?=some fd/\P.info? fd.type=some i/\i.size≠0/\fd.offset=off/\fd.type=t
class Blk (w:World) (b:Nat) (o:outParam Obj):Prop where eq:w.heap[b]?=some o
class Has (w:World) (b:Nat):Prop where lt:b<w.heap.size
instance has_blk (w:World) (b:Nat) (o:Obj) [h:Blk w b o]:Has w b:=⟨(Array.getElem?_eq_some_iff.1 h.eq).1⟩
class Lk (w':World) (w:outParam World) (S:outParam (Nat->Prop)):Prop where keep:Keep S w w'
class NotS (S:Nat->Prop) (b:Nat):Prop where not:¬ S b
instance notS_no (b:Nat):NotS NoB b:=⟨fun h=>h⟩
def OneB (c:Nat):Nat->Prop:=fun b=>b=c
class NeB (a b:Nat):Prop where ne:a≠b
instance notS_one (b c:Nat) [h:NeB b c]:NotS (OneB c) b:=⟨h.ne⟩
class New (b:Nat) (w:outParam World):Prop where eq:b=w.heap.size
instance neB_new1 (b c:Nat) (w:World) [h:New c w] [k:Has w b]:NeB b c:=⟨by have:=h.eq;have:=k.lt;omega⟩
instance neB_new2 (b c:Nat) (w:World) [h:New c w] [k:Has w b]:NeB c b:=⟨by have:=h.eq;have:=k.lt;omega⟩
instance blk_lk (w' w:World) (S:Nat->Prop) (b:Nat) (o:Obj) [l:Lk w' w S] [n:NotS S b] [h:Blk w b o]:Blk w' b o:=⟨(l.keep.block b (Array.getElem?_eq_some_iff.1 h.eq).1 n.not).trans h.eq⟩
class CsGet (cs:Array Value) (i:Nat) (v:outParam Value):Prop where eq:cs[i]?=some v
instance csget_zero (v:Value) (l:List Value):CsGet (v :: l).toArray 0 v:=⟨rfl⟩
instance csget_succ (u v:Value) (l:List Value) (i:Nat) [h:CsGet l.toArray i v]:CsGet (u :: l).toArray (i+1) v:=⟨by have:=h.eq;simpa using this⟩
class CsSet (cs:Array Value) (i:Nat) (v:Value) (ds:outParam (Array Value)):Prop where eq:i<cs.size/\cs.setIfInBounds i v=ds
instance csset_zero (u v:Value) (l:List Value):CsSet (u :: l).toArray 0 v (v :: l).toArray:=⟨by simp,by simp⟩
instance csset_succ (u v:Value) (l m:List Value) (i:Nat) [h:CsSet l.toArray i v m.toArray]:CsSet (u :: l).toArray (i+1) v (u :: m).toArray:=⟨by
  obtain ⟨h1,h2⟩:=h.eq
  refine ⟨by simpa using h1,?_⟩
  have:=congrArg Array.toList h2
  simp at this
  simp [this]⟩
class Cells (v:Value) (cs:outParam (Array Value)):Prop where eq:v.cells=cs
instance cells_agg (cs:Array Value):Cells (.agg cs) cs:=⟨rfl⟩
instance cells_int (k:IntKind) (n:Int):Cells (.int k n) #[.int k n]:=⟨rfl⟩
instance cells_string (b:ByteArray):Cells (.string b) #[.string b]:=⟨rfl⟩
instance cells_ptr (b:Option Addr):Cells (.pointer b) #[.pointer b]:=⟨rfl⟩
instance cells_slice (b:Option Addr) (n c:Nat):Cells (.slice b n c) #[.slice b n c]:=⟨rfl⟩
instance cells_map (b:Option Nat):Cells (.map b) #[.map b]:=⟨rfl⟩
instance cells_func (f:Fn) (a c:Array Value):Cells (.func f a c) #[.func f a c]:=⟨rfl⟩
instance cells_nilFunc:Cells .nilFunc #[.nilFunc]:=⟨rfl⟩
class Cell1 (v:Value):Prop where eq:v.oneCell'=true
instance cell1_int (k:IntKind) (n:Int):Cell1 (.int k n):=⟨rfl⟩
instance cell1_string (b:ByteArray):Cell1 (.string b):=⟨rfl⟩
instance cell1_ptr (b:Option Addr):Cell1 (.pointer b):=⟨rfl⟩
instance cell1_slice (b:Option Addr) (n c:Nat):Cell1 (.slice b n c):=⟨rfl⟩
instance cell1_map (b:Option Nat):Cell1 (.map b):=⟨rfl⟩
instance cell1_func (f:Fn) (a c:Array Value):Cell1 (.func f a c):=⟨rfl⟩
def padd (A:Option Addr) (j:Nat):Value:=.pointer (A.map (·.add j))
def RowP (w:World) (A:Option Addr) (cs:List Value):Prop:=∀ j v,cs[j]?=some v->∃ a,A=some a/\w.cell? (a.add j)=some v
class Row (w:World) (A:Option Addr) (cs:outParam (List Value)):Prop where row:RowP w A cs
class RowOut (S:Nat->Prop) (A:Option Addr):Prop where out:∀ a,A=some a->¬ S a.block
instance rowOut_no (A:Option Addr):RowOut NoB A:=⟨fun _ _ h=>h⟩
theorem block_add (a:Addr) (n:Nat):(a.add n).block=a.block:=by unfold Addr.add;split<;>rfl
theorem add_add (a:Addr) (i j:Nat):(a.add i).add j=a.add (i+j):=by
  unfold Addr.add
  by_cases hi:i=0<;>by_cases hj:j=0<;>simp [hi,hj,Nat.add_assoc]
theorem add_none (b o j:Nat):(⟨b,o,none⟩:Addr).add j=⟨b,o+j,none⟩:=by unfold Addr.add;split<;>simp_all
theorem RowP.keep {w w':World} {S:Nat->Prop} {A:Option Addr} {cs:List Value} (h:RowP w A cs) (hk:Keep S w w') (ho:∀ a,A=some a->¬ S a.block):RowP w' A cs:=fun j v hv=>by
  obtain ⟨a,rfl,hc⟩:=h j v hv
  refine ⟨a,rfl,?_⟩
  rw [<- hc]
  have hlt:=World.block_lt_of_cell? w _ hc
  rw [block_add] at hlt
  exact World.cell?_of_block (by rw [block_add];exact hk.block _ hlt (ho a rfl))
instance row_lk (w' w:World) (S:Nat->Prop) (A:Option Addr) (cs:List Value) [l:Lk w' w S] [n:RowOut S A] [h:Row w A cs]:Row w' A cs:=⟨h.row.keep l.keep n.out⟩
def Val (P:Program) (r:Option Nat) (N:Nat) (S:Nat->Prop) (op:Op) (ty:TypeId) (τ:Tau) (w:World) (v:Value):Prop:=
  (∀ c,op≠.defer c)/\∀ W,Keep S w W->(execOp (evO N τ) ⟨none,op,ty,"",#[],none⟩).run P W=.ok (.value v) W
section laws
variable {P:Program} {r:Option Nat} {N:Nat} {S U:Nat->Prop} {Q:Post} {τ:Tau} {ds:List Deferred} {w:World} {ty:TypeId} {ops:Array Oper} {rest:List Oper} {pos:String} {aft:Array Edge} {d:Nat} {v:Value} {op:Op}
theorem Val.run (h:Val P r N S op ty τ w v) (o:Oper) (ho:o.op=op) (ht:o.type=ty) {W:World} (hW:Keep S w W):(o.semAt r (evO N τ)).run P W=.ok (.value v) W:=by
  rw [Oper.semAt_eq r _ o (by rw [ho];exact h.1)]
  rw [<- h.2 W hW]
  unfold execOp
  simp only [ho,ht]
theorem xl_v (hv:Val P r N NoB op ty τ w v) (h:XL P r N ops Q rest (upd τ d v) ds w):XL P r N ops Q (⟨some d,op,ty,pos,aft,none⟩ :: rest) τ ds w:=by
  show OpE P r N ops _ Q τ ds w _
  unfold OpE
  rw [if_pos (by rfl),hv.run _ rfl rfl (Keep.refl _ _)]
  exact h
theorem xl_nil (h:Q .normal τ ds w):XL P r N ops Q [] τ ds w:=h
theorem xl_gv {j e:Nat} {b:Bool} (hj:(ops[j]?).bind (·.dst)=some e) (hb:evO N τ (.tmp e)=.bool b) (hv:Val P r N NoB op ty τ w v) (h:XL P r N ops Q rest (upd τ d v) ds w) :
    XL P r N ops Q (⟨some d,op,ty,pos,aft,some (j,b)⟩ :: rest) τ ds w:=by
  show OpE P r N ops _ Q τ ds w _
  unfold OpE
  rw [if_pos (by simp [wantedT,Region.wanted,yieldedT,hj,hb]),hv.run _ rfl rfl (Keep.refl _ _)]
  exact h
theorem xl_gs {j e:Nat} {b:Bool} (hj:(ops[j]?).bind (·.dst)=some e) (hb:evO N τ (.tmp e)=.bool (!b)) (h:XL P r N ops Q rest (upd τ d undef) ds w) :
    XL P r N ops Q (⟨some d,op,ty,pos,aft,some (j,b)⟩ :: rest) τ ds w:=by
  show OpE P r N ops _ Q τ ds w _
  unfold OpE
  rw [if_neg (by simp [wantedT,Region.wanted,yieldedT,hj,hb])]
  exact h
theorem xt_v {p:Plan} {i:Nat} {pos':String} {aft':Array Edge} (hi:ops[i]?=some ⟨some d,op,ty,pos',aft',none⟩) (hv:Val P r N S op ty τ w v) (h:XT P r N ops Q S U p (upd τ d v) ds w):XT P r N ops Q S U (.take i p) τ ds w:=by
  show match ops[i]? with | some o=>OpP P r N ops S o τ w (fun τ=>XT P r N ops Q S U p τ ds w) | none=>False
  rw [hi]
  exact ⟨v,.inl ⟨rfl,fun W hW=>hv.run _ rfl rfl hW⟩,h⟩
theorem xt_gv {p:Plan} {i j e:Nat} {b:Bool} {pos':String} {aft':Array Edge} (hi:ops[i]?=some ⟨some d,op,ty,pos',aft',some (j,b)⟩) (hj:(ops[j]?).bind (·.dst)=some e) (hb:evO N τ (.tmp e)=.bool b) (hv:Val P r N S op ty τ w v) (h:XT P r N ops Q S U p (upd τ d v) ds w):XT P r N ops Q S U (.take i p) τ ds w:=by
  show match ops[i]? with | some o=>OpP P r N ops S o τ w (fun τ=>XT P r N ops Q S U p τ ds w) | none=>False
  rw [hi]
  exact ⟨v,.inl ⟨by simp [wantedT,Region.wanted,yieldedT,hj,hb],fun W hW=>hv.run _ rfl rfl hW⟩,h⟩
theorem xt_gs {p:Plan} {i j e:Nat} {b:Bool} {pos':String} {aft':Array Edge} (hi:ops[i]?=some ⟨some d,op,ty,pos',aft',some (j,b)⟩) (hj:(ops[j]?).bind (·.dst)=some e) (hb:evO N τ (.tmp e)=.bool (!b)) (h:XT P r N ops Q S U p (upd τ d undef) ds w):XT P r N ops Q S U (.take i p) τ ds w:=by
  show match ops[i]? with | some o=>OpP P r N ops S o τ w (fun τ=>XT P r N ops Q S U p τ ds w) | none=>False
  rw [hi]
  exact ⟨undef,.inr ⟨by simp [wantedT,Region.wanted,yieldedT,hj,hb],rfl⟩,h⟩
theorem xt_av {p:Plan} {i:Nat} {pos':String} {aft':Array Edge} (hi:ops[i]?=some ⟨some d,op,ty,pos',aft',none⟩) (hv:Val P r N (fun k=>S k\/U k) op ty τ w v) (h:XT P r N ops Q S U p (upd τ d v) ds w):XT P r N ops Q S U (.takeA i p) τ ds w:=by
  show match ops[i]? with | some o=>OpP P r N ops (fun k=>S k\/U k) o τ w (fun τ=>XT P r N ops Q S U p τ ds w) | none=>False
  rw [hi]
  exact ⟨v,.inl ⟨rfl,fun W hW=>hv.run _ rfl rfl hW⟩,h⟩
theorem xt_nil (h:Q .normal τ ds w):XT P r N ops Q S U .done τ ds w:=h
theorem upd_self {t:Nat} [e:Ev τ t v]:upd τ t v=τ:=by
  funext s
  by_cases h:s=t
  · subst h;rw [upd_same];exact e.eq.symm
  rw [upd_ne _ _ h]
theorem xl_split (t:Nat) {c:Bool} {l:List Oper} [e:Ev τ t (.bool c)] (ht:c=true->XL P r N ops Q l (upd τ t (.bool true)) ds w) (hf:c=false->XL P r N ops Q l (upd τ t (.bool false)) ds w):XL P r N ops Q l τ ds w:=by
  cases c with
  | true=>have:=ht rfl;rwa [upd_self] at this
  | false=>have:=hf rfl;rwa [upd_self] at this
theorem xt_split (t:Nat) {c:Bool} {p:Plan} [e:Ev τ t (.bool c)] (ht:c=true->XT P r N ops Q S U p (upd τ t (.bool true)) ds w) (hf:c=false->XT P r N ops Q S U p (upd τ t (.bool false)) ds w):XT P r N ops Q S U p τ ds w:=by
  cases c with
  | true=>have:=ht rfl;rwa [upd_self] at this
  | false=>have:=hf rfl;rwa [upd_self] at this
theorem v_move {x:Operand} [h:EvO N τ x v]:Val P r N S (.move x) ty τ w v:=⟨fun _=>nofun,fun W _=>by simp [execOp,h.eq]⟩
theorem v_assign {x:Operand} [h:EvO N τ x v]:Val P r N S (.assign x) ty τ w v:=⟨fun _=>nofun,fun W _=>by simp [execOp,h.eq]⟩
theorem v_pickT {c x y:Operand} [hc:EvO N τ c (.bool true)] [h:EvO N τ x v]:Val P r N S (.pick c x y) ty τ w v:=⟨fun _=>nofun,fun W _=>by simp [execOp,hc.eq,h.eq,asBool]⟩
theorem v_pickF {c x y:Operand} [hc:EvO N τ c (.bool false)] [h:EvO N τ y v]:Val P r N S (.pick c x y) ty τ w v:=⟨fun _=>nofun,fun W _=>by simp [execOp,hc.eq,h.eq,asBool]⟩
theorem v_pick {c x y:Operand} {b b1 b2:Bool} [hc:EvO N τ c (.bool b)] [h1:EvO N τ x (.bool b1)] [h2:EvO N τ y (.bool b2)]:Val P r N S (.pick c x y) ty τ w (.bool (if b then b1 else b2)):=⟨fun _=>nofun,fun W _=>by cases b<;>simp [execOp,hc.eq,h1.eq,h2.eq,asBool]⟩
theorem beq_dec {α:Type} [BEq α] [LawfulBEq α] [DecidableEq α] (a b:α):(a == b)=decide (a=b):=by by_cases h:a=b<;>simp [h]
section ints
variable {k:IntKind} {a b:Int} {x y:Operand} {t t':TypeId} [hx:EvO N τ x (.int k a)] [hy:EvO N τ y (.int k b)]
include hx hy
theorem v_eql:Val P r N S (.binOp .eql t x y t') ty τ w (.bool (decide (a=b))):=⟨fun _=>nofun,fun W _=>by simp [execOp,hx.eq,hy.eq,eqGuard,binOp,Op.intCmp];exact beq_dec a b⟩
theorem v_neq:Val P r N S (.binOp .neq t x y t') ty τ w (.bool (!decide (a=b))):=⟨fun _=>nofun,fun W _=>by simp [execOp,hx.eq,hy.eq,eqGuard,binOp,Op.intCmp,bne];exact beq_dec a b⟩
theorem v_lss:Val P r N S (.binOp .lss t x y t') ty τ w (.bool (decide (a<b))):=⟨fun _=>nofun,fun W _=>by simp [execOp,hx.eq,hy.eq,eqGuard,binOp,Op.intCmp]⟩
theorem v_leq:Val P r N S (.binOp .leq t x y t') ty τ w (.bool (decide (a<=b))):=⟨fun _=>nofun,fun W _=>by simp [execOp,hx.eq,hy.eq,eqGuard,binOp,Op.intCmp]⟩
theorem v_gtr:Val P r N S (.binOp .gtr t x y t') ty τ w (.bool (decide (b<a))):=⟨fun _=>nofun,fun W _=>by simp [execOp,hx.eq,hy.eq,eqGuard,binOp,Op.intCmp]⟩
theorem v_geq:Val P r N S (.binOp .geq t x y t') ty τ w (.bool (decide (b<=a))):=⟨fun _=>nofun,fun W _=>by simp [execOp,hx.eq,hy.eq,eqGuard,binOp,Op.intCmp]⟩
theorem v_addw:Val P r N S (.binOp .add t x y t') ty τ w (.int k (k.wrap (a+b))):=⟨fun _=>nofun,fun W _=>by simp [execOp,hx.eq,hy.eq,eqGuard,binOp,Op.intArith]⟩
theorem v_subw:Val P r N S (.binOp .sub t x y t') ty τ w (.int k (k.wrap (a - b))):=⟨fun _=>nofun,fun W _=>by simp [execOp,hx.eq,hy.eq,eqGuard,binOp,Op.intArith]⟩
theorem v_mulw:Val P r N S (.binOp .mul t x y t') ty τ w (.int k (k.wrap (a*b))):=⟨fun _=>nofun,fun W _=>by simp [execOp,hx.eq,hy.eq,eqGuard,binOp,Op.intArith]⟩
end ints
theorem wrap_in {a:Int} (h1:-9223372036854775808<=a) (h2:a<=9223372036854775807):IntKind.i64.wrap a=a:=Go.IntWalk.i64_in a ⟨h1,h2⟩
section i64
variable {a b:Int} {x y:Operand} {t t':TypeId} [hx:EvO N τ x (.int .i64 a)] [hy:EvO N τ y (.int .i64 b)]
theorem v_add (h:-9223372036854775808<=a+b/\a+b<=9223372036854775807):Val P r N S (.binOp .add t x y t') ty τ w (.int .i64 (a+b)):=by have:=v_addw (P:=P) (r:=r) (N:=N) (S:=S) (τ:=τ) (w:=w) (ty:=ty) (t:=t) (t':=t') (hx:=hx) (hy:=hy);rwa [wrap_in h.1 h.2] at this
theorem v_sub (h:-9223372036854775808<=a - b/\a - b<=9223372036854775807):Val P r N S (.binOp .sub t x y t') ty τ w (.int .i64 (a - b)):=by have:=v_subw (P:=P) (r:=r) (N:=N) (S:=S) (τ:=τ) (w:=w) (ty:=ty) (t:=t) (t':=t') (hx:=hx) (hy:=hy);rwa [wrap_in h.1 h.2] at this
theorem v_mul (h:-9223372036854775808<=a*b/\a*b<=9223372036854775807):Val P r N S (.binOp .mul t x y t') ty τ w (.int .i64 (a*b)):=by have:=v_mulw (P:=P) (r:=r) (N:=N) (S:=S) (τ:=τ) (w:=w) (ty:=ty) (t:=t) (t':=t') (hx:=hx) (hy:=hy);rwa [wrap_in h.1 h.2] at this
theorem v_rem {k:IntKind} {a b:Int} [hx:EvO N τ x (.int k a)] [hy:EvO N τ y (.int k b)] (h:b≠0):Val P r N S (.binOp .rem t x y t') ty τ w (.int k (a.tmod b)):=⟨fun _=>nofun,fun W _=>by simp [execOp,hx.eq,hy.eq,eqGuard,binOp,Op.intDiv,h]⟩
theorem v_quo {k:IntKind} {a b:Int} [hx:EvO N τ x (.int k a)] [hy:EvO N τ y (.int k b)] (h:b≠0):Val P r N S (.binOp .quo t x y t') ty τ w (.int k (k.wrap (a.tdiv b))):=⟨fun _=>nofun,fun W _=>by simp [execOp,hx.eq,hy.eq,eqGuard,binOp,Op.intDiv,h]⟩
theorem v_not {b:Bool} {t:TypeId} {x:Operand} [hx:EvO N τ x (.bool b)]:Val P r N S (.unOp .not t x) ty τ w (.bool (!b)):=⟨fun _=>nofun,fun W _=>by simp [execOp,hx.eq,Op.unary]⟩
end i64
section strs
variable {a b:ByteArray} {x y:Operand} {t t':TypeId} [hx:EvO N τ x (.string a)] [hy:EvO N τ y (.string b)]
include hx hy
theorem v_seql:Val P r N S (.binOp .eql t x y t') ty τ w (.bool (decide (a=b))):=⟨fun _=>nofun,fun W _=>by
  have e:(a.toList == b.toList)=decide (a=b):=by
    rw [beq_dec];congr 1;rw [eq_iff_iff]
    exact ⟨fun h=>ByteArray.ext (by have:=congrArg List.toArray h;simpa [ByteArray.toList_eq] using this),fun h=>by rw [h]⟩
  simp [execOp,hx.eq,hy.eq,eqGuard,binOp,Op.stringOp,e]⟩
end strs
theorem v_len {x:Operand} {t e:TypeId} {A:Option Addr} {n c:Nat} [hx:EvO N τ x (.slice A n c)] [hu:Und P t (.slice e)]:Val P r N S (.call { callee:=.builtin .len,args:=#[x],argTypes:=#[t] }) ty τ w (.int .i64 (n:Int)):=⟨fun _=>nofun,fun W _=>by
  simp [execOp,resolve,invoke,builtin,hx.eq,Builtin.len_,run_underlying hu.eq,goInt]⟩
theorem v_lens {x:Operand} {t:TypeId} {s:ByteArray} [hx:EvO N τ x (.string s)] [hu:Und P t .string]:Val P r N S (.call { callee:=.builtin .len,args:=#[x],argTypes:=#[t] }) ty τ w (.int .i64 (s.size:Int)):=⟨fun _=>nofun,fun W _=>by
  simp [execOp,resolve,invoke,builtin,hx.eq,Builtin.len_,run_underlying hu.eq,goInt]⟩
theorem v_min {x y:Operand} {t:Array TypeId} {k:IntKind} {a b:Int} [hx:EvO N τ x (.int k a)] [hy:EvO N τ y (.int k b)]:Val P r N S (.call { callee:=.builtin .min,args:=#[x,y],argTypes:=t }) ty τ w (.int k (min a b)):=⟨fun _=>nofun,fun W _=>by
  have e:(if b<a then b else a)=min a b:=by split<;>omega
  simp [execOp,resolve,invoke,builtin,hx.eq,hy.eq,Builtin.min_,Builtin.min2,e]⟩
theorem v_extract {x:Operand} {i:Nat} {l:List Value} [hx:EvO N τ x (.tuple l.toArray)] [h:CsGet l.toArray i v]:Val P r N S (.extract x i) ty τ w v:=⟨fun _=>nofun,fun W _=>by
  have:=h.eq
  simp [execOp,hx.eq,Instr.extract,this]⟩
theorem v_makeFunc {fn:Fn} {a c:List Operand} {va vc:List Value} [ha:EvL N τ a va] [hc:EvL N τ c vc]:Val P r N S (.makeFunc fn a.toArray c.toArray) ty τ w (.func fn va.toArray vc.toArray):=⟨fun _=>nofun,fun W _=>by
  simp [execOp,Instr.makeFunc,ha.eq,hc.eq]⟩
theorem v_nilCheckP {x:Operand} {a:Addr} [hx:EvO N τ x (.pointer (some a))]:Val P r N S (.nilCheck x) ty τ w (.pointer (some a)):=⟨fun _=>nofun,fun W _=>by simp [execOp,hx.eq]⟩
theorem v_nilCheckF {x:Operand} {f:FuncId} {a c:Array Value} [hx:EvO N τ x (.func (.func f) a c)]:Val P r N S (.nilCheck x) ty τ w (.func (.func f) a c):=⟨fun _=>nofun,fun W _=>by simp [execOp,hx.eq]⟩
theorem v_field {x:Operand} {s:TypeId} {f off:Nat} {t:TypeId} {cs:Array Value} [hx:EvO N τ x (.agg cs)] [hf:Fld P s f off t] [ho:One P t] [hc:CsGet cs off v]:Val P r N S (.field s x f) ty τ w v:=⟨fun _=>nofun,fun W _=>by
  obtain ⟨fs,fd,i,h1,h2,h3,h4,h5,h6⟩:=hf.ex
  obtain ⟨dd,h7,h8⟩:=ho.ex
  have hc':=hc.eq
  subst h5;subst h6
  have hagg:(isAgg fd.type).run P W=.ok false W:=by
    unfold isAgg
    cases dd<;>simp_all [run_underlying h7]
  simp [execOp,hx.eq,Instr.field,run_underlying h1,h2,asAgg,part,hagg,hc']⟩
class AddN (a b:Nat) (c:outParam Nat):Prop where eq:a+b=c
instance (priority:=low) addn_any (a b:Nat):AddN a b (a+b):=⟨rfl⟩
instance addn_zl (b:Nat):AddN 0 b b:=⟨Nat.zero_add b⟩
instance addn_zr (a:Nat):AddN a 0 a:=⟨rfl⟩
instance addn_1 (a:Nat):AddN a 1 (a+1):=⟨rfl⟩
theorem run_fieldPlace {s:TypeId} {f off:Nat} {t:TypeId} (hf:Fld P s f off t) (a:Addr) (W:World):(Instr.fieldAt s (.pointer (some a)) f).run P W=.ok (.pointer (some (a.add off))) W:=by
  obtain ⟨fs,fd,i,h1,h2,h3,h4,h5,h6⟩:=hf.ex
  subst h5;subst h6
  simp [Instr.fieldAt,run_underlying h1,h2,Instr.sureAddr,fieldPlace,sizeOf,typeInfo,h3,h4]
theorem v_fieldAddr {x:Operand} {s:TypeId} {f off b o o':Nat} {t:TypeId} [hx:EvO N τ x (.pointer (some ⟨b,o,none⟩))] [hf:Fld P s f off t] [ha:AddN o off o']:Val P r N S (.fieldAddr s x f) ty τ w (.pointer (some ⟨b,o',none⟩)):=⟨fun _=>nofun,fun W _=>by
  have:=ha.eq
  simp [execOp,hx.eq,run_fieldPlace hf,add_none,this]⟩
theorem v_fieldAddrR {x:Operand} {s:TypeId} {f off j:Nat} {t:TypeId} {j':Nat} {A:Option Addr} [hx:EvO N τ x (padd A j)] [hf:Fld P s f off t] [ha:AddN j off j'] (hA:A.isSome=true):Val P r N S (.fieldAddr s x f) ty τ w (padd A j'):=⟨fun _=>nofun,fun W _=>by
  obtain ⟨a,rfl⟩:=Option.isSome_iff_exists.1 hA
  have e:(a.add j).add off=a.add (j+off):=add_add a j off
  have:=ha.eq
  simp [execOp,hx.eq,padd,run_fieldPlace hf,e,this]⟩
theorem v_indexAddr {x y:Operand} {t e:TypeId} {sz bytes:Nat} {z:Value} {A:Option Addr} {n c:Nat} {i:Int} (k:Nat) [hx:EvO N τ x (.slice A n c)] [hy:EvO N τ y (.int .i64 i)] [hu:Und P t (.slice e)] [hi:Inf P e sz bytes z]
    (hk:i=(k:Int)) (hn:k<n) (hA:A.isSome=true):Val P r N S (.indexAddr t x y) ty τ w (padd A (k*sz)):=⟨fun _=>nofun,fun W _=>by
  obtain ⟨a,rfl⟩:=Option.isSome_iff_exists.1 hA
  obtain ⟨ii,h1,h2,h3,h4⟩:=hi.ex
  subst hk;subst h2
  simp [execOp,hx.eq,hy.eq,Instr.indexAt,asIntOf,run_underlying hu.eq,hn,sizeOf,typeInfo,h1,padd]⟩
theorem run_isAgg_one {t:TypeId} (h:One P t) (W:World):(isAgg t).run P W=.ok false W:=by
  obtain ⟨dd,h7,h8⟩:=h.ex
  unfold isAgg
  cases dd<;>simp_all [run_underlying h7]
theorem cell_of_blk {b off:Nat} {cs:Array Value} {e:TypeId} {fr:Nat×Nat} (h:w.heap[b]?=some (.cells cs e fr)):w.cell? ⟨b,off,none⟩=cs[off]?:=by simp [World.cell?,h]
theorem v_load {x:Operand} {t e:TypeId} {b off:Nat} {cs:Array Value} {fr:Nat×Nat} [hx:EvO N τ x (.pointer (some ⟨b,off,none⟩))] [ho:One P t] [hb:Blk w b (.cells cs e fr)] [hs:NotS S b] [hc:CsGet cs off v]:Val P r N S (.load t x) ty τ w v:=⟨fun _=>nofun,fun W hW=>by
  have h1:=(hW.block b (Array.getElem?_eq_some_iff.1 hb.eq).1 hs.not).trans hb.eq
  have h2:=(cell_of_blk (off:=off) h1).trans hc.eq
  simp [execOp,hx.eq,Instr.loadAt,Instr.sureAddr,loadVar,run_isAgg_one ho,h2]⟩
theorem v_loadR {x:Operand} {t:TypeId} {A:Option Addr} {j:Nat} {cs:List Value} [hx:EvO N τ x (padd A j)] [ho:One P t] [hr:Row w A cs] [hs:RowOut S A] (hv:cs[j]?=some v):Val P r N S (.load t x) ty τ w v:=⟨fun _=>nofun,fun W hW=>by
  obtain ⟨a,rfl,hc⟩:=(hr.row.keep hW hs.out) j v hv
  simp [execOp,hx.eq,padd,Instr.loadAt,Instr.sureAddr,loadVar,run_isAgg_one ho,hc]⟩
end laws
end Go.Wst
