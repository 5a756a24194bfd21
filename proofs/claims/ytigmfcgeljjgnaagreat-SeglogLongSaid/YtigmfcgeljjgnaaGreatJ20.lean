/- A part of the walks through the log and its document, and of the law in plain Lean: Rb04z. -/
import Derived.Test.YtigmfcgeljjgnaaGreatJ19
set_option maxRecDepth 100000
set_option linter.all false
namespace Go.Proofs.YtigmfcgeljjgnaaGreat
open Go.Wst Go.Wst.Dm Go.Wst.Sg
open Go.ChangeShapes Go.WideShapes Go.ChangeAt Go.RowKit Go.Deep
theorem ownK:ownKnob Tryz.prog.godebug=none:=by kernel_rfl
theorem laidK:laidOutB Tryz.prog=true:=by kernel_rfl
theorem agg_of {w:World} {r:Reach} {b:Nat} {t:TypeId} {fs:Array Field} {v:Value} {cs:List Value} (hs:Tryz.prog.underlying t=some (.struct fs)) (hv:Value.okWide Tryz.prog w r b t v) (hc:v.cells.toList=cs):v=.agg cs.toArray:=by
  obtain ⟨c,rfl,_⟩:=okWide_struct hs hv
  subst hc
  simp [Value.cells]
theorem slice_of {w:World} {r:Reach} {b:Nat} {t e:TypeId} {v u:Value} (hs:Tryz.prog.underlying t=some (.slice e)) (hv:Value.okWide Tryz.prog w r b t v) (hc:v.cells.toList=[u]):v=u:=by
  obtain ⟨a,l,c,rfl⟩:=okWide_slice hs hv
  simpa [Value.cells] using hc
theorem int_of {w:World} {r:Reach} {b:Nat} {t:TypeId} {v u:Value} {k:IntKind} (hs:Tryz.prog.underlying t=some (.int k)) (hv:Value.okWide Tryz.prog w r b t v) (hc:v.cells.toList=[u]):v=u:=by
  obtain ⟨n,rfl⟩:=okWide_int hs hv
  simpa [Value.cells] using hc
section
variable {H:Type} {enc:TypeId×Value->H} {w:World} {base:Nat} {spare:Nat->Bool} {held:Bool}
theorem wf_i64 {n:Int} (h:(Lit.int .i64 n).wf=true):In64 n:=by
  have h1:-9223372036854775808<=n/\n<=9223372036854775807:=by
    simpa [Lit.wf,IntKind.min,IntKind.max,IntKind.signed,IntKind.bits] using h
  exact h1
theorem open_crash (fuel:Nat) (cs:List Value) (x:DataW H×List MemPlace) (h:DataW.trod enc Tryz.prog w base spare held fuel 24 cs=some x) :
    ∃ a b:Int,cs=[.int .i64 a,.int .i64 b]/\In64 a/\In64 b:=by
  have hl:cs.length=2:=(trod_field Tryz.underlying24 h).1.trans (by kernel_rfl)
  have ha:=trod_at (pl:=[(0,1,3),(1,1,3)]) ⟨_,Tryz.underlying24,by kernel_rfl⟩ h
  match cs,hl with
  | [c0,c1],_=>
    obtain ⟨_,_,h0⟩:=ha 0 _ _ _ rfl
    obtain ⟨_,_,h1⟩:=ha 1 _ _ _ rfl
    obtain ⟨n0,e0,_,hw0⟩:=DataW.trod_int Tryz.underlying3 h0
    obtain ⟨n1,e1,_,hw1⟩:=DataW.trod_int Tryz.underlying3 h1
    simp at e0 e1
    subst e0;subst e1
    exact ⟨n0,n1,rfl,wf_i64 hw0,wf_i64 hw1⟩
theorem open_ent (fuel:Nat) (cs:List Value) (x:DataW H×List MemPlace) (h:DataW.trod enc Tryz.prog w base spare held fuel 51 cs=some x) :
    ∃ a:En,cs=enC a/\True:=by
  have hl:cs.length=6:=(trod_field Tryz.underlying51 h).1.trans (by kernel_rfl)
  have ha:=trod_at (pl:=[(0,1,2),(1,1,3),(2,1,2),(3,1,2),(4,1,49),(5,1,2)]) ⟨_,Tryz.underlying51,by kernel_rfl⟩ h
  match cs,hl with
  | [c0,c1,c2,c3,c4,c5],_=>
    obtain ⟨_,_,h0⟩:=ha 0 _ _ _ rfl
    obtain ⟨_,_,h1⟩:=ha 1 _ _ _ rfl
    obtain ⟨_,_,h2⟩:=ha 2 _ _ _ rfl
    obtain ⟨_,_,h3⟩:=ha 3 _ _ _ rfl
    obtain ⟨_,_,h4⟩:=ha 4 _ _ _ rfl
    obtain ⟨_,_,h5⟩:=ha 5 _ _ _ rfl
    obtain ⟨n0,e0,_,_⟩:=DataW.trod_int Tryz.underlying2 h0
    obtain ⟨n1,e1,_,_⟩:=DataW.trod_int Tryz.underlying3 h1
    obtain ⟨n2,e2,_,_⟩:=DataW.trod_int Tryz.underlying2 h2
    obtain ⟨n3,e3,_,_⟩:=DataW.trod_int Tryz.underlying2 h3
    obtain ⟨n4,e4,_,_⟩:=DataW.trod_int Tryz.underlying49 h4
    obtain ⟨n5,e5,_,_⟩:=DataW.trod_int Tryz.underlying2 h5
    simp at e0 e1 e2 e3 e4 e5
    subst e0;subst e1;subst e2;subst e3;subst e4;subst e5
    exact ⟨⟨n0,n1,n2,n3,n4,n5⟩,rfl,trivial⟩
theorem open_ents {fuel:Nat} {cs:List Value} {x:DataW H×List MemPlace} (h:DataW.trod enc Tryz.prog w base spare held fuel 37 cs=some x) :
    ∃ (A:Option Addr) (n c:Nat) (xs:List En),cs=[.slice A n c]/\xs.length=n/\RowP w A (xs.flatMap enC)/\(∀ a∈xs,True)/\(A.isSome=true\/n=0)/\n<=9223372036854775807:=by
  refine open_rows (Q:=fun _:En=>True) (ea:=enC) (sz:=6) (fun _=>rfl) Tryz.underlying37 (by kernel_rfl) (fun fuel cs x h=>?_) h
  exact open_ent _ _ _ h
theorem open_act (fuel:Nat) (cs:List Value) (x:DataW H×List MemPlace) (h:DataW.trod enc Tryz.prog w base spare held fuel 39 cs=some x) :
    ∃ a:LA,cs=actC a/\RowP w a.A (a.xs.flatMap enC)/\(In64 a.n/\In64 a.keep/\In64 a.torn/\a.xs.length<=9223372036854775807):=by
  have hl:cs.length=5:=(trod_field Tryz.underlying39 h).1.trans (by kernel_rfl)
  have ha:=trod_at (pl:=[(0,1,3),(1,1,37),(2,1,3),(3,2,24)]) ⟨_,Tryz.underlying39,by kernel_rfl⟩ h
  match cs,hl with
  | [c0,c1,c2,c3,c4],_=>
    obtain ⟨_,_,h0⟩:=ha 0 _ _ _ rfl
    obtain ⟨_,_,h1⟩:=ha 1 _ _ _ rfl
    obtain ⟨_,_,h2⟩:=ha 2 _ _ _ rfl
    obtain ⟨_,_,h3⟩:=ha 3 _ _ _ rfl
    obtain ⟨n0,e0,_,_⟩:=DataW.trod_int Tryz.underlying3 h0
    obtain ⟨A,m,c,xs,e1,hxl,hr,_,_,hm⟩:=open_ents h1
    obtain ⟨n2,e2,_,hw2⟩:=DataW.trod_int Tryz.underlying3 h2
    obtain ⟨a3,b3,e3,hw3,hw4⟩:=open_crash _ _ _ h3
    simp at e0 e1 e2 e3
    obtain ⟨e3,e4⟩:=e3
    subst e0;subst e1;subst e2;subst e3;subst e4;subst hxl
    exact ⟨⟨n0,xs,A,c,n2,a3,b3⟩,rfl,hr,wf_i64 hw2,hw3,hw4,hm⟩
theorem open_acts {fuel:Nat} {cs:List Value} {x:DataW H×List MemPlace} (h:DataW.trod enc Tryz.prog w base spare held fuel 22 cs=some x) :
    ∃ (A:Option Addr) (n c:Nat) (xs:List LA),cs=[.slice A n c]/\xs.length=n/\RowP w A (xs.flatMap actC)/\(∀ a∈xs,RowP w a.A (a.xs.flatMap enC)/\(In64 a.n/\In64 a.keep/\In64 a.torn/\a.xs.length<=9223372036854775807))/\(A.isSome=true\/n=0)/\n<=9223372036854775807:=by
  refine open_rows (Q:=fun a:LA=>RowP w a.A (a.xs.flatMap enC)/\(In64 a.n/\In64 a.keep/\In64 a.torn/\a.xs.length<=9223372036854775807)) (ea:=actC) (sz:=5) (fun _=>rfl) Tryz.underlying22 (by kernel_rfl) (fun fuel cs x h=>?_) h
  exact open_act _ _ _ h
end
end Go.Proofs.YtigmfcgeljjgnaaGreat
