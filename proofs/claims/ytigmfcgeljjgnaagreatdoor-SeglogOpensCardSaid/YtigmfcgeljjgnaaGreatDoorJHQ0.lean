/- A part of the walks through the log and its document, and of the law in plain Lean: HQ0. -/
import Derived.Test.YtigmfcgeljjgnaaGreatDoorJHO
set_option linter.all false
set_option maxRecDepth 100000
set_option synthInstance.maxSize 100000
set_option synthInstance.maxHeartbeats 400000
namespace Go.Proofs.YtigmfcgeljjgnaaGreatDoor
open Go.Wst
open Go.Wst.Dm Go.Wst.Sg
theorem LogW.turn {R:Nat->Prop} {bx bz:Nat} {Lx Lz:LLog} {M:Disk} {W:World} (hx:LogW (fun k=>R k\/k=bz\/AB Lz.A k) (fun k=>R k\/k=bz\/AB Lz.A k) bx Lx M W) (hd:Lz.d=Lx.d) (hat:W.heap[bz]?=some (.cells (logC Lz).toArray 100 (0,0))) (hrow:W.ownsRow 0 84 6 (.slice Lz.A Lz.es.length Lz.c) Lz.es.length (Lz.es.flatMap enC)) (nb:¬ AB Lz.A bz) (hR:∀ k,R k->k≠bz/\¬ AB Lz.A k) (h1:logName Lz.name=true) (h2:1<=Lz.per) (h3:Lz.per<=256) (h4:Lz.es.length<=4096) (h5:∀ e∈Lz.es,Right e):LogW (fun k=>R k\/k=bx\/AB Lx.A k) (fun k=>R k\/k=bx\/AB Lx.A k) bz Lz M W:=by
 have hp:∀ k,(k=bz\/AB Lz.A k)->k≠bx/\¬ AB Lx.A k:=fun k e=>hx.pb k (.inl (.inr e))
 have hsub:∀ k,((R k\/k=bx\/AB Lx.A k)\/k=bz\/AB Lz.A k)->((R k\/k=bz\/AB Lz.A k)\/k=bx\/AB Lx.A k):=fun k e=>by
  rcases e with (e | e) | e
  ·exact .inl (.inl e)
  ·exact .inr e
  ·exact .inl (.inr e)
 have hdk:=hx.disk
 rw [<- hd] at hdk
 refine ⟨hdk.narrow hsub hsub,hat,hrow,nb,fun k e=>?_,h1,h2,h3,h4,h5⟩
 have e2:R k\/k=bx\/AB Lx.A k:=e.elim id id
 rcases e2 with e2 | e2 | e2
 ·exact hR k e2
 ·subst e2
  exact ⟨fun e3=>(hp k (.inl e3)).1 rfl,fun e3=>(hp k (.inr e3)).1 rfl⟩
 ·exact ⟨fun e3=>(hp k (.inl e3)).2 e2,fun e3=>(hp k (.inr e3)).2 e2⟩
end Go.Proofs.YtigmfcgeljjgnaaGreatDoor
