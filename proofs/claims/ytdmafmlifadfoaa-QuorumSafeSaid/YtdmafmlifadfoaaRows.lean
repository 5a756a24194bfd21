/-
  No cell of these rows narrows 'for every input' (looked for: loops, veiled, ifaces, maps, wideKeys, modest, calm, conditions, laid).
  DERIVED. THE GIVEN ROWS OF THIS SEAT. 9 by the template 'for every input the law returns true; each argument reads behind the call as it read before'; 0 by the template 'total and deterministic' (their statements: YtdmafmlifadfoaaTotals.lean).
  GIVEN WITH THE SEED: the statements are not yours to turn. If you find one false, say at which input.
  Laid BY PROGRAM, IN A SANDBOX (cutbox-rows.mjs): the forced cells as the released guide's own fill.sh prints them over the translation fd5f7972e23e7d1a… (all of the seat's roots in one cut). By AI agents, Wed Nov 11 2026. No macro, syntax, notation, axiom, sorry.
-/
import Derived.Test.YtdmafmlifadfoaaChecked
import GoSem.Claim
import GoSem.ClaimJoined
import GoSem.ClaimMapViews
import Derived.JoinedTies
import Derived.KernelRfl
namespace Go.Proofs.Ytdmafmlifadfoaa
/- THE CELL 'sum', in the pinned program and in every row, IS THE sha256 OF THE DUMP (.gsa) THAT YtdmafmlifadfoaaProg.lean LOADS. Nothing in Lean hashes anything: it is a label: what it is worth is what the hold of that sum in a sandbox is worth. -/
noncomputable def Try.pinned : Pinned := { name := "ytdmafmlifadfoaa", sum := "fd5f7972e23e7d1a09c45c685f5153247658fdf7203b5e82825c04c8af8ff202", checked := Try.checked }
namespace Rows
def none {H : Type} : Left H := { results := [], args := [] }

/-- 'waystationlaw06.QuorumSafe': WHATEVER THE INPUT: true; the input reads as it did. -/
def quorumSafeSpec : ChangeSpec := { name := "quorumSafe", fn := fun _ => fun
  | [d1, d2] => { results := [.lit (.bool true)], args := [d1, d2] }
  | _ => none }
def quorumSafeRow : OpenClaim := { program := "ytdmafmlifadfoaa", sum := "fd5f7972e23e7d1a09c45c685f5153247658fdf7203b5e82825c04c8af8ff202", func := "waystation/waystationlaw06.QuorumSafe", spec := "quorumSafe", unfollowed := true, recurses := true, apart := false }
def QuorumSafeSaid : Prop := quorumSafeRow.holds Try.pinned (OpenSpec.ofChange quorumSafeSpec)

/-- ITS FALSE NEIGHBOUR: 'it returns false'. Refute it at one input. -/
def quorumSafeWrong : ChangeSpec := { name := "quorumSafe", fn := fun _ => fun
  | [d1, d2] => { results := [.lit (.bool false)], args := [d1, d2] }
  | _ => none }
def QuorumSafeWrongFalsely : Prop := quorumSafeRow.holds Try.pinned (OpenSpec.ofChange quorumSafeWrong)

/-- 'waystationlaw06.QuorumPlays': WHATEVER THE INPUT: true; the input reads as it did. -/
def quorumPlaysSpec : ChangeSpec := { name := "quorumPlays", fn := fun _ => fun
  | [d1, d2] => { results := [.lit (.bool true)], args := [d1, d2] }
  | _ => none }
def quorumPlaysRow : OpenClaim := { program := "ytdmafmlifadfoaa", sum := "fd5f7972e23e7d1a09c45c685f5153247658fdf7203b5e82825c04c8af8ff202", func := "waystation/waystationlaw06.QuorumPlays", spec := "quorumPlays", unfollowed := true, recurses := true, apart := false }
def QuorumPlaysSaid : Prop := quorumPlaysRow.holds Try.pinned (OpenSpec.ofChange quorumPlaysSpec)

/-- ITS FALSE NEIGHBOUR: 'it returns false'. Refute it at one input. -/
def quorumPlaysWrong : ChangeSpec := { name := "quorumPlays", fn := fun _ => fun
  | [d1, d2] => { results := [.lit (.bool false)], args := [d1, d2] }
  | _ => none }
def QuorumPlaysWrongFalsely : Prop := quorumPlaysRow.holds Try.pinned (OpenSpec.ofChange quorumPlaysWrong)

/-- 'waystationlaw06.QuorumRuns': WHATEVER THE INPUT: true; the input reads as it did. -/
def quorumRunsSpec : ChangeSpec := { name := "quorumRuns", fn := fun _ => fun
  | [d1, d2] => { results := [.lit (.bool true)], args := [d1, d2] }
  | _ => none }
def quorumRunsRow : OpenClaim := { program := "ytdmafmlifadfoaa", sum := "fd5f7972e23e7d1a09c45c685f5153247658fdf7203b5e82825c04c8af8ff202", func := "waystation/waystationlaw06.QuorumRuns", spec := "quorumRuns", unfollowed := true, recurses := true, apart := false }
def QuorumRunsSaid : Prop := quorumRunsRow.holds Try.pinned (OpenSpec.ofChange quorumRunsSpec)

/-- ITS FALSE NEIGHBOUR: 'it returns false'. Refute it at one input. -/
def quorumRunsWrong : ChangeSpec := { name := "quorumRuns", fn := fun _ => fun
  | [d1, d2] => { results := [.lit (.bool false)], args := [d1, d2] }
  | _ => none }
def QuorumRunsWrongFalsely : Prop := quorumRunsRow.holds Try.pinned (OpenSpec.ofChange quorumRunsWrong)

/-- 'waystationlaw06.QuorumOne': WHATEVER THE INPUT: true; the input reads as it did. -/
def quorumOneSpec : ChangeSpec := { name := "quorumOne", fn := fun _ => fun
  | [d1, d2, d3] => { results := [.lit (.bool true)], args := [d1, d2, d3] }
  | _ => none }
def quorumOneRow : OpenClaim := { program := "ytdmafmlifadfoaa", sum := "fd5f7972e23e7d1a09c45c685f5153247658fdf7203b5e82825c04c8af8ff202", func := "waystation/waystationlaw06.QuorumOne", spec := "quorumOne", unfollowed := true, recurses := true, apart := false }
def QuorumOneSaid : Prop := quorumOneRow.holds Try.pinned (OpenSpec.ofChange quorumOneSpec)

/-- ITS FALSE NEIGHBOUR: 'it returns false'. Refute it at one input. -/
def quorumOneWrong : ChangeSpec := { name := "quorumOne", fn := fun _ => fun
  | [d1, d2, d3] => { results := [.lit (.bool false)], args := [d1, d2, d3] }
  | _ => none }
def QuorumOneWrongFalsely : Prop := quorumOneRow.holds Try.pinned (OpenSpec.ofChange quorumOneWrong)

/-- 'waystationlaw06.QuorumVotes': WHATEVER THE INPUT: true; the input reads as it did. -/
def quorumVotesSpec : ChangeSpec := { name := "quorumVotes", fn := fun _ => fun
  | [d1, d2, d3] => { results := [.lit (.bool true)], args := [d1, d2, d3] }
  | _ => none }
def quorumVotesRow : OpenClaim := { program := "ytdmafmlifadfoaa", sum := "fd5f7972e23e7d1a09c45c685f5153247658fdf7203b5e82825c04c8af8ff202", func := "waystation/waystationlaw06.QuorumVotes", spec := "quorumVotes", unfollowed := true, recurses := true, apart := false }
def QuorumVotesSaid : Prop := quorumVotesRow.holds Try.pinned (OpenSpec.ofChange quorumVotesSpec)

/-- ITS FALSE NEIGHBOUR: 'it returns false'. Refute it at one input. -/
def quorumVotesWrong : ChangeSpec := { name := "quorumVotes", fn := fun _ => fun
  | [d1, d2, d3] => { results := [.lit (.bool false)], args := [d1, d2, d3] }
  | _ => none }
def QuorumVotesWrongFalsely : Prop := quorumVotesRow.holds Try.pinned (OpenSpec.ofChange quorumVotesWrong)

/-- 'waystationlaw06.QuorumLogs': WHATEVER THE INPUT: true; the input reads as it did. -/
def quorumLogsSpec : ChangeSpec := { name := "quorumLogs", fn := fun _ => fun
  | [d1, d2, d3] => { results := [.lit (.bool true)], args := [d1, d2, d3] }
  | _ => none }
def quorumLogsRow : OpenClaim := { program := "ytdmafmlifadfoaa", sum := "fd5f7972e23e7d1a09c45c685f5153247658fdf7203b5e82825c04c8af8ff202", func := "waystation/waystationlaw06.QuorumLogs", spec := "quorumLogs", unfollowed := true, recurses := true, apart := false }
def QuorumLogsSaid : Prop := quorumLogsRow.holds Try.pinned (OpenSpec.ofChange quorumLogsSpec)

/-- ITS FALSE NEIGHBOUR: 'it returns false'. Refute it at one input. -/
def quorumLogsWrong : ChangeSpec := { name := "quorumLogs", fn := fun _ => fun
  | [d1, d2, d3] => { results := [.lit (.bool false)], args := [d1, d2, d3] }
  | _ => none }
def QuorumLogsWrongFalsely : Prop := quorumLogsRow.holds Try.pinned (OpenSpec.ofChange quorumLogsWrong)

/-- 'waystationlaw06.QuorumBounds': WHATEVER THE INPUT: true; the input reads as it did. -/
def quorumBoundsSpec : ChangeSpec := { name := "quorumBounds", fn := fun _ => fun
  | [d] => { results := [.lit (.bool true)], args := [d] }
  | _ => none }
def quorumBoundsRow : OpenClaim := { program := "ytdmafmlifadfoaa", sum := "fd5f7972e23e7d1a09c45c685f5153247658fdf7203b5e82825c04c8af8ff202", func := "waystation/waystationlaw06.QuorumBounds", spec := "quorumBounds", unfollowed := true, recurses := true, apart := false }
def QuorumBoundsSaid : Prop := quorumBoundsRow.holds Try.pinned (OpenSpec.ofChange quorumBoundsSpec)

/-- ITS FALSE NEIGHBOUR: 'it returns false'. Refute it at one input. -/
def quorumBoundsWrong : ChangeSpec := { name := "quorumBounds", fn := fun _ => fun
  | [d] => { results := [.lit (.bool false)], args := [d] }
  | _ => none }
def QuorumBoundsWrongFalsely : Prop := quorumBoundsRow.holds Try.pinned (OpenSpec.ofChange quorumBoundsWrong)

/-- 'waystationlaw06.QuorumCrashes': WHATEVER THE INPUT: true; the input reads as it did. -/
def quorumCrashesSpec : ChangeSpec := { name := "quorumCrashes", fn := fun _ => fun
  | [d1, d2, d3, d4] => { results := [.lit (.bool true)], args := [d1, d2, d3, d4] }
  | _ => none }
def quorumCrashesRow : OpenClaim := { program := "ytdmafmlifadfoaa", sum := "fd5f7972e23e7d1a09c45c685f5153247658fdf7203b5e82825c04c8af8ff202", func := "waystation/waystationlaw06.QuorumCrashes", spec := "quorumCrashes", unfollowed := true, recurses := true, apart := false }
def QuorumCrashesSaid : Prop := quorumCrashesRow.holds Try.pinned (OpenSpec.ofChange quorumCrashesSpec)

/-- ITS FALSE NEIGHBOUR: 'it returns false'. Refute it at one input. -/
def quorumCrashesWrong : ChangeSpec := { name := "quorumCrashes", fn := fun _ => fun
  | [d1, d2, d3, d4] => { results := [.lit (.bool false)], args := [d1, d2, d3, d4] }
  | _ => none }
def QuorumCrashesWrongFalsely : Prop := quorumCrashesRow.holds Try.pinned (OpenSpec.ofChange quorumCrashesWrong)

/-- 'waystationlaw06.QuorumMakes': WHATEVER THE INPUT: true; the input reads as it did. -/
def quorumMakesSpec : ChangeSpec := { name := "quorumMakes", fn := fun _ => fun
  | [d] => { results := [.lit (.bool true)], args := [d] }
  | _ => none }
def quorumMakesRow : OpenClaim := { program := "ytdmafmlifadfoaa", sum := "fd5f7972e23e7d1a09c45c685f5153247658fdf7203b5e82825c04c8af8ff202", func := "waystation/waystationlaw06.QuorumMakes", spec := "quorumMakes", unfollowed := true, recurses := true, apart := false }
def QuorumMakesSaid : Prop := quorumMakesRow.holds Try.pinned (OpenSpec.ofChange quorumMakesSpec)

/-- ITS FALSE NEIGHBOUR: 'it returns false'. Refute it at one input. -/
def quorumMakesWrong : ChangeSpec := { name := "quorumMakes", fn := fun _ => fun
  | [d] => { results := [.lit (.bool false)], args := [d] }
  | _ => none }
def QuorumMakesWrongFalsely : Prop := quorumMakesRow.holds Try.pinned (OpenSpec.ofChange quorumMakesWrong)

/- THE SECOND FORM. 'bulk': how many values and letters a reading holds, each counted each time it is reached (what is shared counts as often as it is met; a slice's spare places count too). A statement '..UptoSaid' is the law's where the arguments, and the package variables that the reading takes, are together of bulk at most 1048576: NARROWER than '..Said'. Prove '..Said' where nothing that the law and all that it calls make is longer than what came in: it says more and counts as full. Else prove '..UptoSaid'. A law counts once. -/
mutual
def uptoBulk {H : Type} : DataW H → Nat
  | .lit (.string bytes) => bytes.length + 1
  | .lit _ => 1
  | .nil => 1
  | .ptr d => uptoBulk d + 1
  | .slice elems spare => uptoBulkAll elems + uptoBulkAll spare + 1
  | .agg parts => uptoBulkAll parts + 1
  | .iface _ d => uptoBulk d + 1
  | .map entries => uptoBulkEntries entries + 1
  | .held _ => 1
def uptoBulkAll {H : Type} : List (DataW H) → Nat
  | [] => 0
  | d :: r => uptoBulk d + uptoBulkAll r
def uptoBulkEntries {H : Type} : List (Lit × DataW H) → Nat
  | [] => 0
  | x :: r => uptoBulkEntry x + uptoBulkEntries r
def uptoBulkEntry {H : Type} : Lit × DataW H → Nat
  | (.string bytes, d) => bytes.length + uptoBulk d + 1
  | (_, d) => uptoBulk d + 1
 end
def uptoSmall : (H : Type) → List (DataW H) → Bool := fun _ ds => decide (uptoBulkAll ds ≤ 1048576)
def OpenSpec.upto (s : _root_.Go.ChangeSpec) : _root_.Go.OpenSpec := { _root_.Go.OpenSpec.ofChange s with cond := some uptoSmall }

/-- 'waystationlaw06.QuorumSafe', WHERE WHAT IT READS IS OF BULK AT MOST 1048576: true; the input reads as it did. -/
def quorumSafeUptoRow : OpenClaim := { program := "ytdmafmlifadfoaa", sum := "fd5f7972e23e7d1a09c45c685f5153247658fdf7203b5e82825c04c8af8ff202", func := "waystation/waystationlaw06.QuorumSafe", spec := "quorumSafe", unfollowed := true, recurses := true, apart := false, narrowed := true }
def QuorumSafeUptoSaid : Prop := quorumSafeUptoRow.holds Try.pinned (OpenSpec.upto quorumSafeSpec)

/-- 'waystationlaw06.QuorumPlays', WHERE WHAT IT READS IS OF BULK AT MOST 1048576: true; the input reads as it did. -/
def quorumPlaysUptoRow : OpenClaim := { program := "ytdmafmlifadfoaa", sum := "fd5f7972e23e7d1a09c45c685f5153247658fdf7203b5e82825c04c8af8ff202", func := "waystation/waystationlaw06.QuorumPlays", spec := "quorumPlays", unfollowed := true, recurses := true, apart := false, narrowed := true }
def QuorumPlaysUptoSaid : Prop := quorumPlaysUptoRow.holds Try.pinned (OpenSpec.upto quorumPlaysSpec)

/-- 'waystationlaw06.QuorumRuns', WHERE WHAT IT READS IS OF BULK AT MOST 1048576: true; the input reads as it did. -/
def quorumRunsUptoRow : OpenClaim := { program := "ytdmafmlifadfoaa", sum := "fd5f7972e23e7d1a09c45c685f5153247658fdf7203b5e82825c04c8af8ff202", func := "waystation/waystationlaw06.QuorumRuns", spec := "quorumRuns", unfollowed := true, recurses := true, apart := false, narrowed := true }
def QuorumRunsUptoSaid : Prop := quorumRunsUptoRow.holds Try.pinned (OpenSpec.upto quorumRunsSpec)

/-- 'waystationlaw06.QuorumOne', WHERE WHAT IT READS IS OF BULK AT MOST 1048576: true; the input reads as it did. -/
def quorumOneUptoRow : OpenClaim := { program := "ytdmafmlifadfoaa", sum := "fd5f7972e23e7d1a09c45c685f5153247658fdf7203b5e82825c04c8af8ff202", func := "waystation/waystationlaw06.QuorumOne", spec := "quorumOne", unfollowed := true, recurses := true, apart := false, narrowed := true }
def QuorumOneUptoSaid : Prop := quorumOneUptoRow.holds Try.pinned (OpenSpec.upto quorumOneSpec)

/-- 'waystationlaw06.QuorumVotes', WHERE WHAT IT READS IS OF BULK AT MOST 1048576: true; the input reads as it did. -/
def quorumVotesUptoRow : OpenClaim := { program := "ytdmafmlifadfoaa", sum := "fd5f7972e23e7d1a09c45c685f5153247658fdf7203b5e82825c04c8af8ff202", func := "waystation/waystationlaw06.QuorumVotes", spec := "quorumVotes", unfollowed := true, recurses := true, apart := false, narrowed := true }
def QuorumVotesUptoSaid : Prop := quorumVotesUptoRow.holds Try.pinned (OpenSpec.upto quorumVotesSpec)

/-- 'waystationlaw06.QuorumLogs', WHERE WHAT IT READS IS OF BULK AT MOST 1048576: true; the input reads as it did. -/
def quorumLogsUptoRow : OpenClaim := { program := "ytdmafmlifadfoaa", sum := "fd5f7972e23e7d1a09c45c685f5153247658fdf7203b5e82825c04c8af8ff202", func := "waystation/waystationlaw06.QuorumLogs", spec := "quorumLogs", unfollowed := true, recurses := true, apart := false, narrowed := true }
def QuorumLogsUptoSaid : Prop := quorumLogsUptoRow.holds Try.pinned (OpenSpec.upto quorumLogsSpec)

/-- 'waystationlaw06.QuorumBounds', WHERE WHAT IT READS IS OF BULK AT MOST 1048576: true; the input reads as it did. -/
def quorumBoundsUptoRow : OpenClaim := { program := "ytdmafmlifadfoaa", sum := "fd5f7972e23e7d1a09c45c685f5153247658fdf7203b5e82825c04c8af8ff202", func := "waystation/waystationlaw06.QuorumBounds", spec := "quorumBounds", unfollowed := true, recurses := true, apart := false, narrowed := true }
def QuorumBoundsUptoSaid : Prop := quorumBoundsUptoRow.holds Try.pinned (OpenSpec.upto quorumBoundsSpec)

/-- 'waystationlaw06.QuorumCrashes', WHERE WHAT IT READS IS OF BULK AT MOST 1048576: true; the input reads as it did. -/
def quorumCrashesUptoRow : OpenClaim := { program := "ytdmafmlifadfoaa", sum := "fd5f7972e23e7d1a09c45c685f5153247658fdf7203b5e82825c04c8af8ff202", func := "waystation/waystationlaw06.QuorumCrashes", spec := "quorumCrashes", unfollowed := true, recurses := true, apart := false, narrowed := true }
def QuorumCrashesUptoSaid : Prop := quorumCrashesUptoRow.holds Try.pinned (OpenSpec.upto quorumCrashesSpec)

/-- 'waystationlaw06.QuorumMakes', WHERE WHAT IT READS IS OF BULK AT MOST 1048576: true; the input reads as it did. -/
def quorumMakesUptoRow : OpenClaim := { program := "ytdmafmlifadfoaa", sum := "fd5f7972e23e7d1a09c45c685f5153247658fdf7203b5e82825c04c8af8ff202", func := "waystation/waystationlaw06.QuorumMakes", spec := "quorumMakes", unfollowed := true, recurses := true, apart := false, narrowed := true }
def QuorumMakesUptoSaid : Prop := quorumMakesUptoRow.holds Try.pinned (OpenSpec.upto quorumMakesSpec)

end Rows
end Go.Proofs.Ytdmafmlifadfoaa
