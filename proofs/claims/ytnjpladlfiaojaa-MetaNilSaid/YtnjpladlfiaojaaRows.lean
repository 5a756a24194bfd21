/-
  No cell of these rows narrows 'for every input' (looked for: loops, veiled, ifaces, maps, wideKeys, modest, calm, conditions, laid).
  DERIVED. THE GIVEN ROWS OF THIS SEAT. 9 by the template 'for every input the law returns true; each argument reads behind the call as it read before'; 0 by the template 'total and deterministic' (their statements: YtnjpladlfiaojaaTotals.lean).
  GIVEN WITH THE SEED: the statements are not yours to turn. If you find one false, say at which input.
  Laid BY PROGRAM, IN A SANDBOX (cutbox-rows.mjs): the forced cells as the released guide's own fill.sh prints them over the translation 168ab53f2437f6f7… (all of the seat's roots in one cut). By AI agents, Wed Nov 11 2026. No macro, syntax, notation, axiom, sorry.
-/
import Derived.Test.YtnjpladlfiaojaaChecked
import GoSem.Claim
import GoSem.ClaimJoined
import GoSem.ClaimMapViews
import Derived.JoinedTies
import Derived.KernelRfl
namespace Go.Proofs.Ytnjpladlfiaojaa
/- THE CELL 'sum', in the pinned program and in every row, IS THE sha256 OF THE DUMP (.gsa) THAT YtnjpladlfiaojaaProg.lean LOADS. Nothing in Lean hashes anything: it is a label: what it is worth is what the hold of that sum in a sandbox is worth. -/
noncomputable def Try.pinned : Pinned := { name := "ytnjpladlfiaojaa", sum := "168ab53f2437f6f776d6fc6530dd16d72445fceae4f1a3256cacb12115ec72ea", checked := Try.checked }
namespace Rows
def none {H : Type} : Left H := { results := [], args := [] }

/-- 'waystationlaw10.MetaRises': WHATEVER THE INPUT: true; the input reads as it did. -/
def metaRisesSpec : ChangeSpec := { name := "metaRises", fn := fun _ => fun
  | [d] => { results := [.lit (.bool true)], args := [d] }
  | _ => none }
def metaRisesRow : OpenClaim := { program := "ytnjpladlfiaojaa", sum := "168ab53f2437f6f776d6fc6530dd16d72445fceae4f1a3256cacb12115ec72ea", func := "waystation/waystationlaw10.MetaRises", spec := "metaRises", unfollowed := true, recurses := true, apart := false }
def MetaRisesSaid : Prop := metaRisesRow.holds Try.pinned (OpenSpec.ofChange metaRisesSpec)

/-- ITS FALSE NEIGHBOUR: 'it returns false'. Refute it at one input. -/
def metaRisesWrong : ChangeSpec := { name := "metaRises", fn := fun _ => fun
  | [d] => { results := [.lit (.bool false)], args := [d] }
  | _ => none }
def MetaRisesWrongFalsely : Prop := metaRisesRow.holds Try.pinned (OpenSpec.ofChange metaRisesWrong)

/-- 'waystationlaw10.MetaPlay': WHATEVER THE INPUT: true; the input reads as it did. -/
def metaPlaySpec : ChangeSpec := { name := "metaPlay", fn := fun _ => fun
  | [d1, d2] => { results := [.lit (.bool true)], args := [d1, d2] }
  | _ => none }
def metaPlayRow : OpenClaim := { program := "ytnjpladlfiaojaa", sum := "168ab53f2437f6f776d6fc6530dd16d72445fceae4f1a3256cacb12115ec72ea", func := "waystation/waystationlaw10.MetaPlay", spec := "metaPlay", unfollowed := true, recurses := true, apart := false }
def MetaPlaySaid : Prop := metaPlayRow.holds Try.pinned (OpenSpec.ofChange metaPlaySpec)

/-- ITS FALSE NEIGHBOUR: 'it returns false'. Refute it at one input. -/
def metaPlayWrong : ChangeSpec := { name := "metaPlay", fn := fun _ => fun
  | [d1, d2] => { results := [.lit (.bool false)], args := [d1, d2] }
  | _ => none }
def MetaPlayWrongFalsely : Prop := metaPlayRow.holds Try.pinned (OpenSpec.ofChange metaPlayWrong)

/-- 'waystationlaw10.MetaTxn': WHATEVER THE INPUT: true; the input reads as it did. -/
def metaTxnSpec : ChangeSpec := { name := "metaTxn", fn := fun _ => fun
  | [d1, d2, d3] => { results := [.lit (.bool true)], args := [d1, d2, d3] }
  | _ => none }
def metaTxnRow : OpenClaim := { program := "ytnjpladlfiaojaa", sum := "168ab53f2437f6f776d6fc6530dd16d72445fceae4f1a3256cacb12115ec72ea", func := "waystation/waystationlaw10.MetaTxn", spec := "metaTxn", unfollowed := true, recurses := true, apart := false }
def MetaTxnSaid : Prop := metaTxnRow.holds Try.pinned (OpenSpec.ofChange metaTxnSpec)

/-- ITS FALSE NEIGHBOUR: 'it returns false'. Refute it at one input. -/
def metaTxnWrong : ChangeSpec := { name := "metaTxn", fn := fun _ => fun
  | [d1, d2, d3] => { results := [.lit (.bool false)], args := [d1, d2, d3] }
  | _ => none }
def MetaTxnWrongFalsely : Prop := metaTxnRow.holds Try.pinned (OpenSpec.ofChange metaTxnWrong)

/-- 'waystationlaw10.MetaSteps': WHATEVER THE INPUT: true; the input reads as it did. -/
def metaStepsSpec : ChangeSpec := { name := "metaSteps", fn := fun _ => fun
  | [d] => { results := [.lit (.bool true)], args := [d] }
  | _ => none }
def metaStepsRow : OpenClaim := { program := "ytnjpladlfiaojaa", sum := "168ab53f2437f6f776d6fc6530dd16d72445fceae4f1a3256cacb12115ec72ea", func := "waystation/waystationlaw10.MetaSteps", spec := "metaSteps", unfollowed := true, recurses := true, apart := false }
def MetaStepsSaid : Prop := metaStepsRow.holds Try.pinned (OpenSpec.ofChange metaStepsSpec)

/-- ITS FALSE NEIGHBOUR: 'it returns false'. Refute it at one input. -/
def metaStepsWrong : ChangeSpec := { name := "metaSteps", fn := fun _ => fun
  | [d] => { results := [.lit (.bool false)], args := [d] }
  | _ => none }
def MetaStepsWrongFalsely : Prop := metaStepsRow.holds Try.pinned (OpenSpec.ofChange metaStepsWrong)

/-- 'waystationlaw10.MetaSessions': WHATEVER THE INPUT: true; the input reads as it did. -/
def metaSessionsSpec : ChangeSpec := { name := "metaSessions", fn := fun _ => fun
  | [d] => { results := [.lit (.bool true)], args := [d] }
  | _ => none }
def metaSessionsRow : OpenClaim := { program := "ytnjpladlfiaojaa", sum := "168ab53f2437f6f776d6fc6530dd16d72445fceae4f1a3256cacb12115ec72ea", func := "waystation/waystationlaw10.MetaSessions", spec := "metaSessions", unfollowed := true, recurses := true, apart := false }
def MetaSessionsSaid : Prop := metaSessionsRow.holds Try.pinned (OpenSpec.ofChange metaSessionsSpec)

/-- ITS FALSE NEIGHBOUR: 'it returns false'. Refute it at one input. -/
def metaSessionsWrong : ChangeSpec := { name := "metaSessions", fn := fun _ => fun
  | [d] => { results := [.lit (.bool false)], args := [d] }
  | _ => none }
def MetaSessionsWrongFalsely : Prop := metaSessionsRow.holds Try.pinned (OpenSpec.ofChange metaSessionsWrong)

/-- 'waystationlaw10.MetaForms': WHATEVER THE INPUT: true; the input reads as it did. -/
def metaFormsSpec : ChangeSpec := { name := "metaForms", fn := fun _ => fun
  | [d] => { results := [.lit (.bool true)], args := [d] }
  | _ => none }
def metaFormsRow : OpenClaim := { program := "ytnjpladlfiaojaa", sum := "168ab53f2437f6f776d6fc6530dd16d72445fceae4f1a3256cacb12115ec72ea", func := "waystation/waystationlaw10.MetaForms", spec := "metaForms", unfollowed := true, recurses := true, apart := false }
def MetaFormsSaid : Prop := metaFormsRow.holds Try.pinned (OpenSpec.ofChange metaFormsSpec)

/-- ITS FALSE NEIGHBOUR: 'it returns false'. Refute it at one input. -/
def metaFormsWrong : ChangeSpec := { name := "metaForms", fn := fun _ => fun
  | [d] => { results := [.lit (.bool false)], args := [d] }
  | _ => none }
def MetaFormsWrongFalsely : Prop := metaFormsRow.holds Try.pinned (OpenSpec.ofChange metaFormsWrong)

/-- 'waystationlaw10.MetaFences': WHATEVER THE INPUT: true; the input reads as it did. -/
def metaFencesSpec : ChangeSpec := { name := "metaFences", fn := fun _ => fun
  | [d1, d2] => { results := [.lit (.bool true)], args := [d1, d2] }
  | _ => none }
def metaFencesRow : OpenClaim := { program := "ytnjpladlfiaojaa", sum := "168ab53f2437f6f776d6fc6530dd16d72445fceae4f1a3256cacb12115ec72ea", func := "waystation/waystationlaw10.MetaFences", spec := "metaFences", unfollowed := true, recurses := true, apart := false }
def MetaFencesSaid : Prop := metaFencesRow.holds Try.pinned (OpenSpec.ofChange metaFencesSpec)

/-- ITS FALSE NEIGHBOUR: 'it returns false'. Refute it at one input. -/
def metaFencesWrong : ChangeSpec := { name := "metaFences", fn := fun _ => fun
  | [d1, d2] => { results := [.lit (.bool false)], args := [d1, d2] }
  | _ => none }
def MetaFencesWrongFalsely : Prop := metaFencesRow.holds Try.pinned (OpenSpec.ofChange metaFencesWrong)

/-- 'waystationlaw10.MetaNil': WHATEVER THE INPUT: true; the input reads as it did. -/
def metaNilSpec : ChangeSpec := { name := "metaNil", fn := fun _ => fun
  | [d1, d2] => { results := [.lit (.bool true)], args := [d1, d2] }
  | _ => none }
def metaNilRow : OpenClaim := { program := "ytnjpladlfiaojaa", sum := "168ab53f2437f6f776d6fc6530dd16d72445fceae4f1a3256cacb12115ec72ea", func := "waystation/waystationlaw10.MetaNil", spec := "metaNil", unfollowed := true, recurses := true, apart := false }
def MetaNilSaid : Prop := metaNilRow.holds Try.pinned (OpenSpec.ofChange metaNilSpec)

/-- ITS FALSE NEIGHBOUR: 'it returns false'. Refute it at one input. -/
def metaNilWrong : ChangeSpec := { name := "metaNil", fn := fun _ => fun
  | [d1, d2] => { results := [.lit (.bool false)], args := [d1, d2] }
  | _ => none }
def MetaNilWrongFalsely : Prop := metaNilRow.holds Try.pinned (OpenSpec.ofChange metaNilWrong)

/-- 'waystationlaw10.MetaCopies': WHATEVER THE INPUT: true; the input reads as it did. -/
def metaCopiesSpec : ChangeSpec := { name := "metaCopies", fn := fun _ => fun
  | [d1, d2] => { results := [.lit (.bool true)], args := [d1, d2] }
  | _ => none }
def metaCopiesRow : OpenClaim := { program := "ytnjpladlfiaojaa", sum := "168ab53f2437f6f776d6fc6530dd16d72445fceae4f1a3256cacb12115ec72ea", func := "waystation/waystationlaw10.MetaCopies", spec := "metaCopies", unfollowed := true, recurses := true, apart := false }
def MetaCopiesSaid : Prop := metaCopiesRow.holds Try.pinned (OpenSpec.ofChange metaCopiesSpec)

/-- ITS FALSE NEIGHBOUR: 'it returns false'. Refute it at one input. -/
def metaCopiesWrong : ChangeSpec := { name := "metaCopies", fn := fun _ => fun
  | [d1, d2] => { results := [.lit (.bool false)], args := [d1, d2] }
  | _ => none }
def MetaCopiesWrongFalsely : Prop := metaCopiesRow.holds Try.pinned (OpenSpec.ofChange metaCopiesWrong)

/- THE SECOND FORM. 'bulk': how many values and letters a reading holds, each counted each time it is reached (what is shared counts as often as it is met; a slice's spare places count too). A statement '..UptoSaid' is the law's where the arguments, and the package variables that the reading takes, are together of bulk at most 1048576: NARROWER than '..Said'. Prove '..Said' where nothing that the law and all that it calls make is longer than what came in: it says more and counts as full. Else prove '..UptoSaid'. A law counts once. -/
mutual
def uptoBulk {H : Type} : DataW H → Nat
  | .lit (.string bytes) => bytes.length + 1
  | .lit _ => 1
  | .nil => 1
  | .ptr d => uptoBulk d + 1
  | .slice elems spare => uptoBulkAll elems + uptoBulkAll spare + 1
  | .agg parts => uptoBulkAll parts + 1
  | .iface _ d => uptoBulk d + 1
  | .map entries => uptoBulkEntries entries + 1
  | .held _ => 1
def uptoBulkAll {H : Type} : List (DataW H) → Nat
  | [] => 0
  | d :: r => uptoBulk d + uptoBulkAll r
def uptoBulkEntries {H : Type} : List (Lit × DataW H) → Nat
  | [] => 0
  | x :: r => uptoBulkEntry x + uptoBulkEntries r
def uptoBulkEntry {H : Type} : Lit × DataW H → Nat
  | (.string bytes, d) => bytes.length + uptoBulk d + 1
  | (_, d) => uptoBulk d + 1
 end
def uptoSmall : (H : Type) → List (DataW H) → Bool := fun _ ds => decide (uptoBulkAll ds ≤ 1048576)
def OpenSpec.upto (s : _root_.Go.ChangeSpec) : _root_.Go.OpenSpec := { _root_.Go.OpenSpec.ofChange s with cond := some uptoSmall }

/-- 'waystationlaw10.MetaRises', WHERE WHAT IT READS IS OF BULK AT MOST 1048576: true; the input reads as it did. -/
def metaRisesUptoRow : OpenClaim := { program := "ytnjpladlfiaojaa", sum := "168ab53f2437f6f776d6fc6530dd16d72445fceae4f1a3256cacb12115ec72ea", func := "waystation/waystationlaw10.MetaRises", spec := "metaRises", unfollowed := true, recurses := true, apart := false, narrowed := true }
def MetaRisesUptoSaid : Prop := metaRisesUptoRow.holds Try.pinned (OpenSpec.upto metaRisesSpec)

/-- 'waystationlaw10.MetaPlay', WHERE WHAT IT READS IS OF BULK AT MOST 1048576: true; the input reads as it did. -/
def metaPlayUptoRow : OpenClaim := { program := "ytnjpladlfiaojaa", sum := "168ab53f2437f6f776d6fc6530dd16d72445fceae4f1a3256cacb12115ec72ea", func := "waystation/waystationlaw10.MetaPlay", spec := "metaPlay", unfollowed := true, recurses := true, apart := false, narrowed := true }
def MetaPlayUptoSaid : Prop := metaPlayUptoRow.holds Try.pinned (OpenSpec.upto metaPlaySpec)

/-- 'waystationlaw10.MetaTxn', WHERE WHAT IT READS IS OF BULK AT MOST 1048576: true; the input reads as it did. -/
def metaTxnUptoRow : OpenClaim := { program := "ytnjpladlfiaojaa", sum := "168ab53f2437f6f776d6fc6530dd16d72445fceae4f1a3256cacb12115ec72ea", func := "waystation/waystationlaw10.MetaTxn", spec := "metaTxn", unfollowed := true, recurses := true, apart := false, narrowed := true }
def MetaTxnUptoSaid : Prop := metaTxnUptoRow.holds Try.pinned (OpenSpec.upto metaTxnSpec)

/-- 'waystationlaw10.MetaSteps', WHERE WHAT IT READS IS OF BULK AT MOST 1048576: true; the input reads as it did. -/
def metaStepsUptoRow : OpenClaim := { program := "ytnjpladlfiaojaa", sum := "168ab53f2437f6f776d6fc6530dd16d72445fceae4f1a3256cacb12115ec72ea", func := "waystation/waystationlaw10.MetaSteps", spec := "metaSteps", unfollowed := true, recurses := true, apart := false, narrowed := true }
def MetaStepsUptoSaid : Prop := metaStepsUptoRow.holds Try.pinned (OpenSpec.upto metaStepsSpec)

/-- 'waystationlaw10.MetaSessions', WHERE WHAT IT READS IS OF BULK AT MOST 1048576: true; the input reads as it did. -/
def metaSessionsUptoRow : OpenClaim := { program := "ytnjpladlfiaojaa", sum := "168ab53f2437f6f776d6fc6530dd16d72445fceae4f1a3256cacb12115ec72ea", func := "waystation/waystationlaw10.MetaSessions", spec := "metaSessions", unfollowed := true, recurses := true, apart := false, narrowed := true }
def MetaSessionsUptoSaid : Prop := metaSessionsUptoRow.holds Try.pinned (OpenSpec.upto metaSessionsSpec)

/-- 'waystationlaw10.MetaForms', WHERE WHAT IT READS IS OF BULK AT MOST 1048576: true; the input reads as it did. -/
def metaFormsUptoRow : OpenClaim := { program := "ytnjpladlfiaojaa", sum := "168ab53f2437f6f776d6fc6530dd16d72445fceae4f1a3256cacb12115ec72ea", func := "waystation/waystationlaw10.MetaForms", spec := "metaForms", unfollowed := true, recurses := true, apart := false, narrowed := true }
def MetaFormsUptoSaid : Prop := metaFormsUptoRow.holds Try.pinned (OpenSpec.upto metaFormsSpec)

/-- 'waystationlaw10.MetaFences', WHERE WHAT IT READS IS OF BULK AT MOST 1048576: true; the input reads as it did. -/
def metaFencesUptoRow : OpenClaim := { program := "ytnjpladlfiaojaa", sum := "168ab53f2437f6f776d6fc6530dd16d72445fceae4f1a3256cacb12115ec72ea", func := "waystation/waystationlaw10.MetaFences", spec := "metaFences", unfollowed := true, recurses := true, apart := false, narrowed := true }
def MetaFencesUptoSaid : Prop := metaFencesUptoRow.holds Try.pinned (OpenSpec.upto metaFencesSpec)

/-- 'waystationlaw10.MetaNil', WHERE WHAT IT READS IS OF BULK AT MOST 1048576: true; the input reads as it did. -/
def metaNilUptoRow : OpenClaim := { program := "ytnjpladlfiaojaa", sum := "168ab53f2437f6f776d6fc6530dd16d72445fceae4f1a3256cacb12115ec72ea", func := "waystation/waystationlaw10.MetaNil", spec := "metaNil", unfollowed := true, recurses := true, apart := false, narrowed := true }
def MetaNilUptoSaid : Prop := metaNilUptoRow.holds Try.pinned (OpenSpec.upto metaNilSpec)

/-- 'waystationlaw10.MetaCopies', WHERE WHAT IT READS IS OF BULK AT MOST 1048576: true; the input reads as it did. -/
def metaCopiesUptoRow : OpenClaim := { program := "ytnjpladlfiaojaa", sum := "168ab53f2437f6f776d6fc6530dd16d72445fceae4f1a3256cacb12115ec72ea", func := "waystation/waystationlaw10.MetaCopies", spec := "metaCopies", unfollowed := true, recurses := true, apart := false, narrowed := true }
def MetaCopiesUptoSaid : Prop := metaCopiesUptoRow.holds Try.pinned (OpenSpec.upto metaCopiesSpec)

end Rows
end Go.Proofs.Ytnjpladlfiaojaa
