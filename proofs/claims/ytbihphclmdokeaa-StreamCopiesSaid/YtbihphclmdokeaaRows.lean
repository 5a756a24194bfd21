/-
  No cell of these rows narrows 'for every input' (looked for: loops, veiled, ifaces, maps, wideKeys, modest, calm, conditions, laid).
  DERIVED. THE GIVEN ROWS OF THIS SEAT. 10 by the template 'for every input the law returns true; each argument reads behind the call as it read before'; 0 by the template 'total and deterministic' (their statements: YtbihphclmdokeaaTotals.lean).
  GIVEN WITH THE SEED: the statements are not yours to turn. If you find one false, say at which input.
  Laid BY PROGRAM, IN A SANDBOX (cutbox-rows.mjs): the forced cells as the released guide's own fill.sh prints them over the translation 5afb5337df0d22fb… (all of the seat's roots in one cut). By AI agents, Wed Nov 11 2026. No macro, syntax, notation, axiom, sorry.
-/
import Derived.Test.YtbihphclmdokeaaChecked
import GoSem.Claim
import GoSem.ClaimJoined
import GoSem.ClaimMapViews
import Derived.JoinedTies
import Derived.KernelRfl
namespace Go.Proofs.Ytbihphclmdokeaa
/- THE CELL 'sum', in the pinned program and in every row, IS THE sha256 OF THE DUMP (.gsa) THAT YtbihphclmdokeaaProg.lean LOADS. Nothing in Lean hashes anything: it is a label: what it is worth is what the hold of that sum in a sandbox is worth. -/
noncomputable def Try.pinned : Pinned := { name := "ytbihphclmdokeaa", sum := "5afb5337df0d22fb5e83117dbb8749abc14ac041f512d5830df4eb3c0a5be39d", checked := Try.checked }
namespace Rows
def none {H : Type} : Left H := { results := [], args := [] }

/-- 'waystationlaw14.StreamFolds': WHATEVER THE INPUT: true; the input reads as it did. -/
def streamFoldsSpec : ChangeSpec := { name := "streamFolds", fn := fun _ => fun
  | [d1, d2] => { results := [.lit (.bool true)], args := [d1, d2] }
  | _ => none }
def streamFoldsRow : OpenClaim := { program := "ytbihphclmdokeaa", sum := "5afb5337df0d22fb5e83117dbb8749abc14ac041f512d5830df4eb3c0a5be39d", func := "waystation/waystationlaw14.StreamFolds", spec := "streamFolds", unfollowed := true, recurses := true, apart := false }
def StreamFoldsSaid : Prop := streamFoldsRow.holds Try.pinned (OpenSpec.ofChange streamFoldsSpec)

/-- ITS FALSE NEIGHBOUR: 'it returns false'. Refute it at one input. -/
def streamFoldsWrong : ChangeSpec := { name := "streamFolds", fn := fun _ => fun
  | [d1, d2] => { results := [.lit (.bool false)], args := [d1, d2] }
  | _ => none }
def StreamFoldsWrongFalsely : Prop := streamFoldsRow.holds Try.pinned (OpenSpec.ofChange streamFoldsWrong)

/-- 'waystationlaw14.StreamRounds': WHATEVER THE INPUT: true; the input reads as it did. -/
def streamRoundsSpec : ChangeSpec := { name := "streamRounds", fn := fun _ => fun
  | [d1, d2, d3] => { results := [.lit (.bool true)], args := [d1, d2, d3] }
  | _ => none }
def streamRoundsRow : OpenClaim := { program := "ytbihphclmdokeaa", sum := "5afb5337df0d22fb5e83117dbb8749abc14ac041f512d5830df4eb3c0a5be39d", func := "waystation/waystationlaw14.StreamRounds", spec := "streamRounds", unfollowed := true, recurses := true, apart := false }
def StreamRoundsSaid : Prop := streamRoundsRow.holds Try.pinned (OpenSpec.ofChange streamRoundsSpec)

/-- ITS FALSE NEIGHBOUR: 'it returns false'. Refute it at one input. -/
def streamRoundsWrong : ChangeSpec := { name := "streamRounds", fn := fun _ => fun
  | [d1, d2, d3] => { results := [.lit (.bool false)], args := [d1, d2, d3] }
  | _ => none }
def StreamRoundsWrongFalsely : Prop := streamRoundsRow.holds Try.pinned (OpenSpec.ofChange streamRoundsWrong)

/-- 'waystationlaw14.StreamLong': WHATEVER THE INPUT: true; the input reads as it did. -/
def streamLongSpec : ChangeSpec := { name := "streamLong", fn := fun _ => fun
  | [] => { results := [.lit (.bool true)], args := [] }
  | _ => none }
def streamLongRow : OpenClaim := { program := "ytbihphclmdokeaa", sum := "5afb5337df0d22fb5e83117dbb8749abc14ac041f512d5830df4eb3c0a5be39d", func := "waystation/waystationlaw14.StreamLong", spec := "streamLong", unfollowed := true, recurses := true, apart := false }
def StreamLongSaid : Prop := streamLongRow.holds Try.pinned (OpenSpec.ofChange streamLongSpec)

/-- ITS FALSE NEIGHBOUR: 'it returns false'. Refute it at one input. -/
def streamLongWrong : ChangeSpec := { name := "streamLong", fn := fun _ => fun
  | [] => { results := [.lit (.bool false)], args := [] }
  | _ => none }
def StreamLongWrongFalsely : Prop := streamLongRow.holds Try.pinned (OpenSpec.ofChange streamLongWrong)

/-- 'waystationlaw14.StreamRules': WHATEVER THE INPUT: true; the input reads as it did. -/
def streamRulesSpec : ChangeSpec := { name := "streamRules", fn := fun _ => fun
  | [d1, d2] => { results := [.lit (.bool true)], args := [d1, d2] }
  | _ => none }
def streamRulesRow : OpenClaim := { program := "ytbihphclmdokeaa", sum := "5afb5337df0d22fb5e83117dbb8749abc14ac041f512d5830df4eb3c0a5be39d", func := "waystation/waystationlaw14.StreamRules", spec := "streamRules", unfollowed := true, recurses := true, apart := false }
def StreamRulesSaid : Prop := streamRulesRow.holds Try.pinned (OpenSpec.ofChange streamRulesSpec)

/-- ITS FALSE NEIGHBOUR: 'it returns false'. Refute it at one input. -/
def streamRulesWrong : ChangeSpec := { name := "streamRules", fn := fun _ => fun
  | [d1, d2] => { results := [.lit (.bool false)], args := [d1, d2] }
  | _ => none }
def StreamRulesWrongFalsely : Prop := streamRulesRow.holds Try.pinned (OpenSpec.ofChange streamRulesWrong)

/-- 'waystationlaw14.StreamPlays': WHATEVER THE INPUT: true; the input reads as it did. -/
def streamPlaysSpec : ChangeSpec := { name := "streamPlays", fn := fun _ => fun
  | [d1, d2] => { results := [.lit (.bool true)], args := [d1, d2] }
  | _ => none }
def streamPlaysRow : OpenClaim := { program := "ytbihphclmdokeaa", sum := "5afb5337df0d22fb5e83117dbb8749abc14ac041f512d5830df4eb3c0a5be39d", func := "waystation/waystationlaw14.StreamPlays", spec := "streamPlays", unfollowed := true, recurses := true, apart := false }
def StreamPlaysSaid : Prop := streamPlaysRow.holds Try.pinned (OpenSpec.ofChange streamPlaysSpec)

/-- ITS FALSE NEIGHBOUR: 'it returns false'. Refute it at one input. -/
def streamPlaysWrong : ChangeSpec := { name := "streamPlays", fn := fun _ => fun
  | [d1, d2] => { results := [.lit (.bool false)], args := [d1, d2] }
  | _ => none }
def StreamPlaysWrongFalsely : Prop := streamPlaysRow.holds Try.pinned (OpenSpec.ofChange streamPlaysWrong)

/-- 'waystationlaw14.StreamAsks': WHATEVER THE INPUT: true; the input reads as it did. -/
def streamAsksSpec : ChangeSpec := { name := "streamAsks", fn := fun _ => fun
  | [d1, d2, d3, d4] => { results := [.lit (.bool true)], args := [d1, d2, d3, d4] }
  | _ => none }
def streamAsksRow : OpenClaim := { program := "ytbihphclmdokeaa", sum := "5afb5337df0d22fb5e83117dbb8749abc14ac041f512d5830df4eb3c0a5be39d", func := "waystation/waystationlaw14.StreamAsks", spec := "streamAsks", unfollowed := true, recurses := true, apart := false }
def StreamAsksSaid : Prop := streamAsksRow.holds Try.pinned (OpenSpec.ofChange streamAsksSpec)

/-- ITS FALSE NEIGHBOUR: 'it returns false'. Refute it at one input. -/
def streamAsksWrong : ChangeSpec := { name := "streamAsks", fn := fun _ => fun
  | [d1, d2, d3, d4] => { results := [.lit (.bool false)], args := [d1, d2, d3, d4] }
  | _ => none }
def StreamAsksWrongFalsely : Prop := streamAsksRow.holds Try.pinned (OpenSpec.ofChange streamAsksWrong)

/-- 'waystationlaw14.StreamChains': WHATEVER THE INPUT: true; the input reads as it did. -/
def streamChainsSpec : ChangeSpec := { name := "streamChains", fn := fun _ => fun
  | [d1, d2, d3] => { results := [.lit (.bool true)], args := [d1, d2, d3] }
  | _ => none }
def streamChainsRow : OpenClaim := { program := "ytbihphclmdokeaa", sum := "5afb5337df0d22fb5e83117dbb8749abc14ac041f512d5830df4eb3c0a5be39d", func := "waystation/waystationlaw14.StreamChains", spec := "streamChains", unfollowed := true, recurses := true, apart := false }
def StreamChainsSaid : Prop := streamChainsRow.holds Try.pinned (OpenSpec.ofChange streamChainsSpec)

/-- ITS FALSE NEIGHBOUR: 'it returns false'. Refute it at one input. -/
def streamChainsWrong : ChangeSpec := { name := "streamChains", fn := fun _ => fun
  | [d1, d2, d3] => { results := [.lit (.bool false)], args := [d1, d2, d3] }
  | _ => none }
def StreamChainsWrongFalsely : Prop := streamChainsRow.holds Try.pinned (OpenSpec.ofChange streamChainsWrong)

/-- 'waystationlaw14.StreamOnce': WHATEVER THE INPUT: true; the input reads as it did. -/
def streamOnceSpec : ChangeSpec := { name := "streamOnce", fn := fun _ => fun
  | [d1, d2] => { results := [.lit (.bool true)], args := [d1, d2] }
  | _ => none }
def streamOnceRow : OpenClaim := { program := "ytbihphclmdokeaa", sum := "5afb5337df0d22fb5e83117dbb8749abc14ac041f512d5830df4eb3c0a5be39d", func := "waystation/waystationlaw14.StreamOnce", spec := "streamOnce", unfollowed := true, recurses := true, apart := false }
def StreamOnceSaid : Prop := streamOnceRow.holds Try.pinned (OpenSpec.ofChange streamOnceSpec)

/-- ITS FALSE NEIGHBOUR: 'it returns false'. Refute it at one input. -/
def streamOnceWrong : ChangeSpec := { name := "streamOnce", fn := fun _ => fun
  | [d1, d2] => { results := [.lit (.bool false)], args := [d1, d2] }
  | _ => none }
def StreamOnceWrongFalsely : Prop := streamOnceRow.holds Try.pinned (OpenSpec.ofChange streamOnceWrong)

/-- 'waystationlaw14.StreamMakes': WHATEVER THE INPUT: true; the input reads as it did. -/
def streamMakesSpec : ChangeSpec := { name := "streamMakes", fn := fun _ => fun
  | [d] => { results := [.lit (.bool true)], args := [d] }
  | _ => none }
def streamMakesRow : OpenClaim := { program := "ytbihphclmdokeaa", sum := "5afb5337df0d22fb5e83117dbb8749abc14ac041f512d5830df4eb3c0a5be39d", func := "waystation/waystationlaw14.StreamMakes", spec := "streamMakes", inPlace := ["maps.clone"], unfollowed := true, recurses := true, apart := false }
def StreamMakesSaid : Prop := streamMakesRow.holds Try.pinned (OpenSpec.ofChange streamMakesSpec)

/-- ITS FALSE NEIGHBOUR: 'it returns false'. Refute it at one input. -/
def streamMakesWrong : ChangeSpec := { name := "streamMakes", fn := fun _ => fun
  | [d] => { results := [.lit (.bool false)], args := [d] }
  | _ => none }
def StreamMakesWrongFalsely : Prop := streamMakesRow.holds Try.pinned (OpenSpec.ofChange streamMakesWrong)

/-- 'waystationlaw14.StreamCopies': WHATEVER THE INPUT: true; the input reads as it did. -/
def streamCopiesSpec : ChangeSpec := { name := "streamCopies", fn := fun _ => fun
  | [d1, d2, d3] => { results := [.lit (.bool true)], args := [d1, d2, d3] }
  | _ => none }
def streamCopiesRow : OpenClaim := { program := "ytbihphclmdokeaa", sum := "5afb5337df0d22fb5e83117dbb8749abc14ac041f512d5830df4eb3c0a5be39d", func := "waystation/waystationlaw14.StreamCopies", spec := "streamCopies", inPlace := ["maps.clone"], unfollowed := true, recurses := true, apart := false }
def StreamCopiesSaid : Prop := streamCopiesRow.holds Try.pinned (OpenSpec.ofChange streamCopiesSpec)

/-- ITS FALSE NEIGHBOUR: 'it returns false'. Refute it at one input. -/
def streamCopiesWrong : ChangeSpec := { name := "streamCopies", fn := fun _ => fun
  | [d1, d2, d3] => { results := [.lit (.bool false)], args := [d1, d2, d3] }
  | _ => none }
def StreamCopiesWrongFalsely : Prop := streamCopiesRow.holds Try.pinned (OpenSpec.ofChange streamCopiesWrong)

/- THE SECOND FORM. 'bulk': how many values and letters a reading holds, each counted each time it is reached (what is shared counts as often as it is met; a slice's spare places count too). A statement '..UptoSaid' is the law's where the arguments, and the package variables that the reading takes, are together of bulk at most 1048576: NARROWER than '..Said'. Prove '..Said' where nothing that the law and all that it calls make is longer than what came in: it says more and counts as full. Else prove '..UptoSaid'. A law counts once. -/
mutual
def uptoBulk {H : Type} : DataW H → Nat
  | .lit (.string bytes) => bytes.length + 1
  | .lit _ => 1
  | .nil => 1
  | .ptr d => uptoBulk d + 1
  | .slice elems spare => uptoBulkAll elems + uptoBulkAll spare + 1
  | .agg parts => uptoBulkAll parts + 1
  | .iface _ d => uptoBulk d + 1
  | .map entries => uptoBulkEntries entries + 1
  | .held _ => 1
def uptoBulkAll {H : Type} : List (DataW H) → Nat
  | [] => 0
  | d :: r => uptoBulk d + uptoBulkAll r
def uptoBulkEntries {H : Type} : List (Lit × DataW H) → Nat
  | [] => 0
  | x :: r => uptoBulkEntry x + uptoBulkEntries r
def uptoBulkEntry {H : Type} : Lit × DataW H → Nat
  | (.string bytes, d) => bytes.length + uptoBulk d + 1
  | (_, d) => uptoBulk d + 1
 end
def uptoSmall : (H : Type) → List (DataW H) → Bool := fun _ ds => decide (uptoBulkAll ds ≤ 1048576)
def OpenSpec.upto (s : _root_.Go.ChangeSpec) : _root_.Go.OpenSpec := { _root_.Go.OpenSpec.ofChange s with cond := some uptoSmall }

/-- 'waystationlaw14.StreamFolds', WHERE WHAT IT READS IS OF BULK AT MOST 1048576: true; the input reads as it did. -/
def streamFoldsUptoRow : OpenClaim := { program := "ytbihphclmdokeaa", sum := "5afb5337df0d22fb5e83117dbb8749abc14ac041f512d5830df4eb3c0a5be39d", func := "waystation/waystationlaw14.StreamFolds", spec := "streamFolds", unfollowed := true, recurses := true, apart := false, narrowed := true }
def StreamFoldsUptoSaid : Prop := streamFoldsUptoRow.holds Try.pinned (OpenSpec.upto streamFoldsSpec)

/-- 'waystationlaw14.StreamRounds', WHERE WHAT IT READS IS OF BULK AT MOST 1048576: true; the input reads as it did. -/
def streamRoundsUptoRow : OpenClaim := { program := "ytbihphclmdokeaa", sum := "5afb5337df0d22fb5e83117dbb8749abc14ac041f512d5830df4eb3c0a5be39d", func := "waystation/waystationlaw14.StreamRounds", spec := "streamRounds", unfollowed := true, recurses := true, apart := false, narrowed := true }
def StreamRoundsUptoSaid : Prop := streamRoundsUptoRow.holds Try.pinned (OpenSpec.upto streamRoundsSpec)

/-- 'waystationlaw14.StreamLong', WHERE WHAT IT READS IS OF BULK AT MOST 1048576: true; the input reads as it did. -/
def streamLongUptoRow : OpenClaim := { program := "ytbihphclmdokeaa", sum := "5afb5337df0d22fb5e83117dbb8749abc14ac041f512d5830df4eb3c0a5be39d", func := "waystation/waystationlaw14.StreamLong", spec := "streamLong", unfollowed := true, recurses := true, apart := false, narrowed := true }
def StreamLongUptoSaid : Prop := streamLongUptoRow.holds Try.pinned (OpenSpec.upto streamLongSpec)

/-- 'waystationlaw14.StreamRules', WHERE WHAT IT READS IS OF BULK AT MOST 1048576: true; the input reads as it did. -/
def streamRulesUptoRow : OpenClaim := { program := "ytbihphclmdokeaa", sum := "5afb5337df0d22fb5e83117dbb8749abc14ac041f512d5830df4eb3c0a5be39d", func := "waystation/waystationlaw14.StreamRules", spec := "streamRules", unfollowed := true, recurses := true, apart := false, narrowed := true }
def StreamRulesUptoSaid : Prop := streamRulesUptoRow.holds Try.pinned (OpenSpec.upto streamRulesSpec)

/-- 'waystationlaw14.StreamPlays', WHERE WHAT IT READS IS OF BULK AT MOST 1048576: true; the input reads as it did. -/
def streamPlaysUptoRow : OpenClaim := { program := "ytbihphclmdokeaa", sum := "5afb5337df0d22fb5e83117dbb8749abc14ac041f512d5830df4eb3c0a5be39d", func := "waystation/waystationlaw14.StreamPlays", spec := "streamPlays", unfollowed := true, recurses := true, apart := false, narrowed := true }
def StreamPlaysUptoSaid : Prop := streamPlaysUptoRow.holds Try.pinned (OpenSpec.upto streamPlaysSpec)

/-- 'waystationlaw14.StreamAsks', WHERE WHAT IT READS IS OF BULK AT MOST 1048576: true; the input reads as it did. -/
def streamAsksUptoRow : OpenClaim := { program := "ytbihphclmdokeaa", sum := "5afb5337df0d22fb5e83117dbb8749abc14ac041f512d5830df4eb3c0a5be39d", func := "waystation/waystationlaw14.StreamAsks", spec := "streamAsks", unfollowed := true, recurses := true, apart := false, narrowed := true }
def StreamAsksUptoSaid : Prop := streamAsksUptoRow.holds Try.pinned (OpenSpec.upto streamAsksSpec)

/-- 'waystationlaw14.StreamChains', WHERE WHAT IT READS IS OF BULK AT MOST 1048576: true; the input reads as it did. -/
def streamChainsUptoRow : OpenClaim := { program := "ytbihphclmdokeaa", sum := "5afb5337df0d22fb5e83117dbb8749abc14ac041f512d5830df4eb3c0a5be39d", func := "waystation/waystationlaw14.StreamChains", spec := "streamChains", unfollowed := true, recurses := true, apart := false, narrowed := true }
def StreamChainsUptoSaid : Prop := streamChainsUptoRow.holds Try.pinned (OpenSpec.upto streamChainsSpec)

/-- 'waystationlaw14.StreamOnce', WHERE WHAT IT READS IS OF BULK AT MOST 1048576: true; the input reads as it did. -/
def streamOnceUptoRow : OpenClaim := { program := "ytbihphclmdokeaa", sum := "5afb5337df0d22fb5e83117dbb8749abc14ac041f512d5830df4eb3c0a5be39d", func := "waystation/waystationlaw14.StreamOnce", spec := "streamOnce", unfollowed := true, recurses := true, apart := false, narrowed := true }
def StreamOnceUptoSaid : Prop := streamOnceUptoRow.holds Try.pinned (OpenSpec.upto streamOnceSpec)

/-- 'waystationlaw14.StreamMakes', WHERE WHAT IT READS IS OF BULK AT MOST 1048576: true; the input reads as it did. -/
def streamMakesUptoRow : OpenClaim := { program := "ytbihphclmdokeaa", sum := "5afb5337df0d22fb5e83117dbb8749abc14ac041f512d5830df4eb3c0a5be39d", func := "waystation/waystationlaw14.StreamMakes", spec := "streamMakes", inPlace := ["maps.clone"], unfollowed := true, recurses := true, apart := false, narrowed := true }
def StreamMakesUptoSaid : Prop := streamMakesUptoRow.holds Try.pinned (OpenSpec.upto streamMakesSpec)

/-- 'waystationlaw14.StreamCopies', WHERE WHAT IT READS IS OF BULK AT MOST 1048576: true; the input reads as it did. -/
def streamCopiesUptoRow : OpenClaim := { program := "ytbihphclmdokeaa", sum := "5afb5337df0d22fb5e83117dbb8749abc14ac041f512d5830df4eb3c0a5be39d", func := "waystation/waystationlaw14.StreamCopies", spec := "streamCopies", inPlace := ["maps.clone"], unfollowed := true, recurses := true, apart := false, narrowed := true }
def StreamCopiesUptoSaid : Prop := streamCopiesUptoRow.holds Try.pinned (OpenSpec.upto streamCopiesSpec)

end Rows
end Go.Proofs.Ytbihphclmdokeaa
