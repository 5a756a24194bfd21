/-
  NARROWER THAN 'FOR EVERY INPUT', by the rows' own cells (each row's printed sentence says how): SeglogTwo: laid · SeglogPlays: laid · SeglogOpens: laid · SeglogFiles: laid · SeglogTorn: laid · SeglogCopies: laid.
  DERIVED. THE GIVEN ROWS OF THIS SEAT. 6 by the template 'for every input the law returns true; each argument reads behind the call as it read before'; 0 by the template 'total and deterministic' (their statements: YtigmfcgeljjgnaaGreatDoorTotals.lean).
  GIVEN WITH THE SEED: the statements are not yours to turn. If you find one false, say at which input.
  Laid BY PROGRAM, IN A SANDBOX (cutbox-rows.mjs): the forced cells as the released guide's own fill.sh prints them over the translation c4f12c83a808de39… (all of the seat's roots in one cut). By AI agents, Wed Nov 11 2026. No macro, syntax, notation, axiom, sorry.
-/
import Derived.Test.YtigmfcgeljjgnaaGreatDoorChecked
import GoSem.Claim
import GoSem.ClaimJoined
import GoSem.ClaimMapViews
import Derived.JoinedTies
import Derived.KernelRfl
namespace Go.Proofs.YtigmfcgeljjgnaaGreatDoor
/- THE CELL 'sum', in the pinned program and in every row, IS THE sha256 OF THE DUMP (.gsa) THAT YtigmfcgeljjgnaaGreatDoorProg.lean LOADS. Nothing in Lean hashes anything: it is a label: what it is worth is what the hold of that sum in a sandbox is worth. -/
noncomputable def Tryz.pinned : Pinned := { name := "ytigmfcgeljjgnaagreatdoor", sum := "c4f12c83a808de39fc2b9834b810cd3c5f496bfea05f642cbbbea2c3705da5f8", checked := Tryz.checked }
namespace Rows
def none {H : Type} : Left H := { results := [], args := [] }

/- WHAT THE LISTED PACKAGE-LEVEL VARIABLES READ AS WHEN THE CALL BEGINS. Each datum BY PROGRAM (the guide's laid-datum.mjs) off the statement by which the dump's own 'gosem.cut.vars' lays the variable. In a bare row this is a premise. The card (YtigmfcgeljjgnaaGreatDoorCards.lean) ties it to the program's text. -/
def laid_math_bits_deBruijn32tab {H : Type} : DataW H := .agg [.lit (.int .u8 0), .lit (.int .u8 1), .lit (.int .u8 28), .lit (.int .u8 2), .lit (.int .u8 29), .lit (.int .u8 14), .lit (.int .u8 24), .lit (.int .u8 3), .lit (.int .u8 30), .lit (.int .u8 22), .lit (.int .u8 20), .lit (.int .u8 15), .lit (.int .u8 25), .lit (.int .u8 17), .lit (.int .u8 4), .lit (.int .u8 8), .lit (.int .u8 31), .lit (.int .u8 27), .lit (.int .u8 13), .lit (.int .u8 23), .lit (.int .u8 21), .lit (.int .u8 19), .lit (.int .u8 16), .lit (.int .u8 7), .lit (.int .u8 26), .lit (.int .u8 12), .lit (.int .u8 18), .lit (.int .u8 6), .lit (.int .u8 11), .lit (.int .u8 5), .lit (.int .u8 10), .lit (.int .u8 9)]
def laid_math_bits_deBruijn64tab {H : Type} : DataW H := .agg [.lit (.int .u8 0), .lit (.int .u8 1), .lit (.int .u8 56), .lit (.int .u8 2), .lit (.int .u8 57), .lit (.int .u8 49), .lit (.int .u8 28), .lit (.int .u8 3), .lit (.int .u8 61), .lit (.int .u8 58), .lit (.int .u8 42), .lit (.int .u8 50), .lit (.int .u8 38), .lit (.int .u8 29), .lit (.int .u8 17), .lit (.int .u8 4), .lit (.int .u8 62), .lit (.int .u8 47), .lit (.int .u8 59), .lit (.int .u8 36), .lit (.int .u8 45), .lit (.int .u8 43), .lit (.int .u8 51), .lit (.int .u8 22), .lit (.int .u8 53), .lit (.int .u8 39), .lit (.int .u8 33), .lit (.int .u8 30), .lit (.int .u8 24), .lit (.int .u8 18), .lit (.int .u8 12), .lit (.int .u8 5), .lit (.int .u8 63), .lit (.int .u8 55), .lit (.int .u8 48), .lit (.int .u8 27), .lit (.int .u8 60), .lit (.int .u8 41), .lit (.int .u8 37), .lit (.int .u8 16), .lit (.int .u8 46), .lit (.int .u8 35), .lit (.int .u8 44), .lit (.int .u8 21), .lit (.int .u8 52), .lit (.int .u8 32), .lit (.int .u8 23), .lit (.int .u8 11), .lit (.int .u8 54), .lit (.int .u8 26), .lit (.int .u8 40), .lit (.int .u8 15), .lit (.int .u8 34), .lit (.int .u8 20), .lit (.int .u8 31), .lit (.int .u8 10), .lit (.int .u8 25), .lit (.int .u8 14), .lit (.int .u8 19), .lit (.int .u8 9), .lit (.int .u8 13), .lit (.int .u8 8), .lit (.int .u8 7), .lit (.int .u8 6)]
def laid_internal_strconv_uint64pow10 {H : Type} : DataW H := .agg [.lit (.int .u64 1), .lit (.int .u64 10), .lit (.int .u64 100), .lit (.int .u64 1000), .lit (.int .u64 10000), .lit (.int .u64 100000), .lit (.int .u64 1000000), .lit (.int .u64 10000000), .lit (.int .u64 100000000), .lit (.int .u64 1000000000), .lit (.int .u64 10000000000), .lit (.int .u64 100000000000), .lit (.int .u64 1000000000000), .lit (.int .u64 10000000000000), .lit (.int .u64 100000000000000), .lit (.int .u64 1000000000000000), .lit (.int .u64 10000000000000000), .lit (.int .u64 100000000000000000), .lit (.int .u64 1000000000000000000), .lit (.int .u64 10000000000000000000)]

/-- 'waystationlaw04.SeglogTwo': WHATEVER THE INPUT: true; the input reads as it did. -/
def seglogTwoSpec : ChangeSpec := { name := "seglogTwo", fn := fun _ => fun
  | [d1, d2, d3] => { results := [.lit (.bool true)], args := [d1, d2, d3] }
  | _ => none }
def seglogTwoRow : OpenClaim := { program := "ytigmfcgeljjgnaagreatdoor", sum := "c4f12c83a808de39fc2b9834b810cd3c5f496bfea05f642cbbbea2c3705da5f8", func := "waystation/waystationlaw04.SeglogTwo", spec := "seglogTwo", inPlace := ["maps.clone"], unfollowed := true, recurses := true, named := ["internal/strconv.uint64pow10", "math/bits.deBruijn32tab", "math/bits.deBruijn64tab"], apart := false, laid := [("math/bits.deBruijn32tab", laid_math_bits_deBruijn32tab), ("math/bits.deBruijn64tab", laid_math_bits_deBruijn64tab), ("internal/strconv.uint64pow10", laid_internal_strconv_uint64pow10)] }
def SeglogTwoSaid : Prop := seglogTwoRow.holds Tryz.pinned (OpenSpec.ofChange seglogTwoSpec)

/-- ITS FALSE NEIGHBOUR: 'it returns false'. Refute it at one input. -/
def seglogTwoWrong : ChangeSpec := { name := "seglogTwo", fn := fun _ => fun
  | [d1, d2, d3] => { results := [.lit (.bool false)], args := [d1, d2, d3] }
  | _ => none }
def SeglogTwoWrongFalsely : Prop := seglogTwoRow.holds Tryz.pinned (OpenSpec.ofChange seglogTwoWrong)

/-- 'waystationlaw04.SeglogPlays': WHATEVER THE INPUT: true; the input reads as it did. -/
def seglogPlaysSpec : ChangeSpec := { name := "seglogPlays", fn := fun _ => fun
  | [d1, d2, d3] => { results := [.lit (.bool true)], args := [d1, d2, d3] }
  | _ => none }
def seglogPlaysRow : OpenClaim := { program := "ytigmfcgeljjgnaagreatdoor", sum := "c4f12c83a808de39fc2b9834b810cd3c5f496bfea05f642cbbbea2c3705da5f8", func := "waystation/waystationlaw04.SeglogPlays", spec := "seglogPlays", inPlace := ["maps.clone"], unfollowed := true, recurses := true, named := ["internal/strconv.uint64pow10", "math/bits.deBruijn32tab", "math/bits.deBruijn64tab"], apart := false, laid := [("math/bits.deBruijn32tab", laid_math_bits_deBruijn32tab), ("math/bits.deBruijn64tab", laid_math_bits_deBruijn64tab), ("internal/strconv.uint64pow10", laid_internal_strconv_uint64pow10)] }
def SeglogPlaysSaid : Prop := seglogPlaysRow.holds Tryz.pinned (OpenSpec.ofChange seglogPlaysSpec)

/-- ITS FALSE NEIGHBOUR: 'it returns false'. Refute it at one input. -/
def seglogPlaysWrong : ChangeSpec := { name := "seglogPlays", fn := fun _ => fun
  | [d1, d2, d3] => { results := [.lit (.bool false)], args := [d1, d2, d3] }
  | _ => none }
def SeglogPlaysWrongFalsely : Prop := seglogPlaysRow.holds Tryz.pinned (OpenSpec.ofChange seglogPlaysWrong)

/-- 'waystationlaw04.SeglogOpens': WHATEVER THE INPUT: true; the input reads as it did. -/
def seglogOpensSpec : ChangeSpec := { name := "seglogOpens", fn := fun _ => fun
  | [d1, d2, d3] => { results := [.lit (.bool true)], args := [d1, d2, d3] }
  | _ => none }
def seglogOpensRow : OpenClaim := { program := "ytigmfcgeljjgnaagreatdoor", sum := "c4f12c83a808de39fc2b9834b810cd3c5f496bfea05f642cbbbea2c3705da5f8", func := "waystation/waystationlaw04.SeglogOpens", spec := "seglogOpens", inPlace := ["maps.clone"], unfollowed := true, recurses := true, named := ["internal/strconv.uint64pow10", "math/bits.deBruijn32tab", "math/bits.deBruijn64tab"], apart := false, laid := [("math/bits.deBruijn32tab", laid_math_bits_deBruijn32tab), ("math/bits.deBruijn64tab", laid_math_bits_deBruijn64tab), ("internal/strconv.uint64pow10", laid_internal_strconv_uint64pow10)] }
def SeglogOpensSaid : Prop := seglogOpensRow.holds Tryz.pinned (OpenSpec.ofChange seglogOpensSpec)

/-- ITS FALSE NEIGHBOUR: 'it returns false'. Refute it at one input. -/
def seglogOpensWrong : ChangeSpec := { name := "seglogOpens", fn := fun _ => fun
  | [d1, d2, d3] => { results := [.lit (.bool false)], args := [d1, d2, d3] }
  | _ => none }
def SeglogOpensWrongFalsely : Prop := seglogOpensRow.holds Tryz.pinned (OpenSpec.ofChange seglogOpensWrong)

/-- 'waystationlaw04.SeglogFiles': WHATEVER THE INPUT: true; the input reads as it did. -/
def seglogFilesSpec : ChangeSpec := { name := "seglogFiles", fn := fun _ => fun
  | [d1, d2, d3] => { results := [.lit (.bool true)], args := [d1, d2, d3] }
  | _ => none }
def seglogFilesRow : OpenClaim := { program := "ytigmfcgeljjgnaagreatdoor", sum := "c4f12c83a808de39fc2b9834b810cd3c5f496bfea05f642cbbbea2c3705da5f8", func := "waystation/waystationlaw04.SeglogFiles", spec := "seglogFiles", inPlace := ["maps.clone"], unfollowed := true, recurses := true, named := ["internal/strconv.uint64pow10", "math/bits.deBruijn32tab", "math/bits.deBruijn64tab"], apart := false, laid := [("math/bits.deBruijn32tab", laid_math_bits_deBruijn32tab), ("math/bits.deBruijn64tab", laid_math_bits_deBruijn64tab), ("internal/strconv.uint64pow10", laid_internal_strconv_uint64pow10)] }
def SeglogFilesSaid : Prop := seglogFilesRow.holds Tryz.pinned (OpenSpec.ofChange seglogFilesSpec)

/-- ITS FALSE NEIGHBOUR: 'it returns false'. Refute it at one input. -/
def seglogFilesWrong : ChangeSpec := { name := "seglogFiles", fn := fun _ => fun
  | [d1, d2, d3] => { results := [.lit (.bool false)], args := [d1, d2, d3] }
  | _ => none }
def SeglogFilesWrongFalsely : Prop := seglogFilesRow.holds Tryz.pinned (OpenSpec.ofChange seglogFilesWrong)

/-- 'waystationlaw04.SeglogTorn': WHATEVER THE INPUT: true; the input reads as it did. -/
def seglogTornSpec : ChangeSpec := { name := "seglogTorn", fn := fun _ => fun
  | [d1, d2, d3] => { results := [.lit (.bool true)], args := [d1, d2, d3] }
  | _ => none }
def seglogTornRow : OpenClaim := { program := "ytigmfcgeljjgnaagreatdoor", sum := "c4f12c83a808de39fc2b9834b810cd3c5f496bfea05f642cbbbea2c3705da5f8", func := "waystation/waystationlaw04.SeglogTorn", spec := "seglogTorn", inPlace := ["maps.clone"], unfollowed := true, recurses := true, named := ["internal/strconv.uint64pow10", "math/bits.deBruijn32tab", "math/bits.deBruijn64tab"], apart := false, laid := [("math/bits.deBruijn32tab", laid_math_bits_deBruijn32tab), ("math/bits.deBruijn64tab", laid_math_bits_deBruijn64tab), ("internal/strconv.uint64pow10", laid_internal_strconv_uint64pow10)] }
def SeglogTornSaid : Prop := seglogTornRow.holds Tryz.pinned (OpenSpec.ofChange seglogTornSpec)

/-- ITS FALSE NEIGHBOUR: 'it returns false'. Refute it at one input. -/
def seglogTornWrong : ChangeSpec := { name := "seglogTorn", fn := fun _ => fun
  | [d1, d2, d3] => { results := [.lit (.bool false)], args := [d1, d2, d3] }
  | _ => none }
def SeglogTornWrongFalsely : Prop := seglogTornRow.holds Tryz.pinned (OpenSpec.ofChange seglogTornWrong)

/-- 'waystationlaw04.SeglogCopies': WHATEVER THE INPUT: true; the input reads as it did. -/
def seglogCopiesSpec : ChangeSpec := { name := "seglogCopies", fn := fun _ => fun
  | [d1, d2, d3] => { results := [.lit (.bool true)], args := [d1, d2, d3] }
  | _ => none }
def seglogCopiesRow : OpenClaim := { program := "ytigmfcgeljjgnaagreatdoor", sum := "c4f12c83a808de39fc2b9834b810cd3c5f496bfea05f642cbbbea2c3705da5f8", func := "waystation/waystationlaw04.SeglogCopies", spec := "seglogCopies", inPlace := ["maps.clone"], unfollowed := true, recurses := true, named := ["internal/strconv.uint64pow10", "math/bits.deBruijn32tab", "math/bits.deBruijn64tab"], apart := false, laid := [("math/bits.deBruijn32tab", laid_math_bits_deBruijn32tab), ("math/bits.deBruijn64tab", laid_math_bits_deBruijn64tab), ("internal/strconv.uint64pow10", laid_internal_strconv_uint64pow10)] }
def SeglogCopiesSaid : Prop := seglogCopiesRow.holds Tryz.pinned (OpenSpec.ofChange seglogCopiesSpec)

/-- ITS FALSE NEIGHBOUR: 'it returns false'. Refute it at one input. -/
def seglogCopiesWrong : ChangeSpec := { name := "seglogCopies", fn := fun _ => fun
  | [d1, d2, d3] => { results := [.lit (.bool false)], args := [d1, d2, d3] }
  | _ => none }
def SeglogCopiesWrongFalsely : Prop := seglogCopiesRow.holds Tryz.pinned (OpenSpec.ofChange seglogCopiesWrong)

/- THE SECOND FORM. 'bulk': how many values and letters a reading holds, each counted each time it is reached (what is shared counts as often as it is met; a slice's spare places count too). A statement '..UptoSaid' is the law's where the arguments, and the package variables that the reading takes, are together of bulk at most 1048576: NARROWER than '..Said'. Prove '..Said' where nothing that the law and all that it calls make is longer than what came in: it says more and counts as full. Else prove '..UptoSaid'. A law counts once. -/
mutual
def uptoBulk {H : Type} : DataW H → Nat
  | .lit (.string bytes) => bytes.length + 1
  | .lit _ => 1
  | .nil => 1
  | .ptr d => uptoBulk d + 1
  | .slice elems spare => uptoBulkAll elems + uptoBulkAll spare + 1
  | .agg parts => uptoBulkAll parts + 1
  | .iface _ d => uptoBulk d + 1
  | .map entries => uptoBulkEntries entries + 1
  | .held _ => 1
def uptoBulkAll {H : Type} : List (DataW H) → Nat
  | [] => 0
  | d :: r => uptoBulk d + uptoBulkAll r
def uptoBulkEntries {H : Type} : List (Lit × DataW H) → Nat
  | [] => 0
  | x :: r => uptoBulkEntry x + uptoBulkEntries r
def uptoBulkEntry {H : Type} : Lit × DataW H → Nat
  | (.string bytes, d) => bytes.length + uptoBulk d + 1
  | (_, d) => uptoBulk d + 1
 end
def uptoSmall : (H : Type) → List (DataW H) → Bool := fun _ ds => decide (uptoBulkAll ds ≤ 1048576)
def OpenSpec.upto (s : _root_.Go.ChangeSpec) : _root_.Go.OpenSpec := { _root_.Go.OpenSpec.ofChange s with cond := some uptoSmall }

/-- 'waystationlaw04.SeglogTwo', WHERE WHAT IT READS IS OF BULK AT MOST 1048576: true; the input reads as it did. -/
def seglogTwoUptoRow : OpenClaim := { program := "ytigmfcgeljjgnaagreatdoor", sum := "c4f12c83a808de39fc2b9834b810cd3c5f496bfea05f642cbbbea2c3705da5f8", func := "waystation/waystationlaw04.SeglogTwo", spec := "seglogTwo", inPlace := ["maps.clone"], unfollowed := true, recurses := true, named := ["internal/strconv.uint64pow10", "math/bits.deBruijn32tab", "math/bits.deBruijn64tab"], apart := false, laid := [("math/bits.deBruijn32tab", laid_math_bits_deBruijn32tab), ("math/bits.deBruijn64tab", laid_math_bits_deBruijn64tab), ("internal/strconv.uint64pow10", laid_internal_strconv_uint64pow10)], narrowed := true }
def SeglogTwoUptoSaid : Prop := seglogTwoUptoRow.holds Tryz.pinned (OpenSpec.upto seglogTwoSpec)

/-- 'waystationlaw04.SeglogPlays', WHERE WHAT IT READS IS OF BULK AT MOST 1048576: true; the input reads as it did. -/
def seglogPlaysUptoRow : OpenClaim := { program := "ytigmfcgeljjgnaagreatdoor", sum := "c4f12c83a808de39fc2b9834b810cd3c5f496bfea05f642cbbbea2c3705da5f8", func := "waystation/waystationlaw04.SeglogPlays", spec := "seglogPlays", inPlace := ["maps.clone"], unfollowed := true, recurses := true, named := ["internal/strconv.uint64pow10", "math/bits.deBruijn32tab", "math/bits.deBruijn64tab"], apart := false, laid := [("math/bits.deBruijn32tab", laid_math_bits_deBruijn32tab), ("math/bits.deBruijn64tab", laid_math_bits_deBruijn64tab), ("internal/strconv.uint64pow10", laid_internal_strconv_uint64pow10)], narrowed := true }
def SeglogPlaysUptoSaid : Prop := seglogPlaysUptoRow.holds Tryz.pinned (OpenSpec.upto seglogPlaysSpec)

/-- 'waystationlaw04.SeglogOpens', WHERE WHAT IT READS IS OF BULK AT MOST 1048576: true; the input reads as it did. -/
def seglogOpensUptoRow : OpenClaim := { program := "ytigmfcgeljjgnaagreatdoor", sum := "c4f12c83a808de39fc2b9834b810cd3c5f496bfea05f642cbbbea2c3705da5f8", func := "waystation/waystationlaw04.SeglogOpens", spec := "seglogOpens", inPlace := ["maps.clone"], unfollowed := true, recurses := true, named := ["internal/strconv.uint64pow10", "math/bits.deBruijn32tab", "math/bits.deBruijn64tab"], apart := false, laid := [("math/bits.deBruijn32tab", laid_math_bits_deBruijn32tab), ("math/bits.deBruijn64tab", laid_math_bits_deBruijn64tab), ("internal/strconv.uint64pow10", laid_internal_strconv_uint64pow10)], narrowed := true }
def SeglogOpensUptoSaid : Prop := seglogOpensUptoRow.holds Tryz.pinned (OpenSpec.upto seglogOpensSpec)

/-- 'waystationlaw04.SeglogFiles', WHERE WHAT IT READS IS OF BULK AT MOST 1048576: true; the input reads as it did. -/
def seglogFilesUptoRow : OpenClaim := { program := "ytigmfcgeljjgnaagreatdoor", sum := "c4f12c83a808de39fc2b9834b810cd3c5f496bfea05f642cbbbea2c3705da5f8", func := "waystation/waystationlaw04.SeglogFiles", spec := "seglogFiles", inPlace := ["maps.clone"], unfollowed := true, recurses := true, named := ["internal/strconv.uint64pow10", "math/bits.deBruijn32tab", "math/bits.deBruijn64tab"], apart := false, laid := [("math/bits.deBruijn32tab", laid_math_bits_deBruijn32tab), ("math/bits.deBruijn64tab", laid_math_bits_deBruijn64tab), ("internal/strconv.uint64pow10", laid_internal_strconv_uint64pow10)], narrowed := true }
def SeglogFilesUptoSaid : Prop := seglogFilesUptoRow.holds Tryz.pinned (OpenSpec.upto seglogFilesSpec)

/-- 'waystationlaw04.SeglogTorn', WHERE WHAT IT READS IS OF BULK AT MOST 1048576: true; the input reads as it did. -/
def seglogTornUptoRow : OpenClaim := { program := "ytigmfcgeljjgnaagreatdoor", sum := "c4f12c83a808de39fc2b9834b810cd3c5f496bfea05f642cbbbea2c3705da5f8", func := "waystation/waystationlaw04.SeglogTorn", spec := "seglogTorn", inPlace := ["maps.clone"], unfollowed := true, recurses := true, named := ["internal/strconv.uint64pow10", "math/bits.deBruijn32tab", "math/bits.deBruijn64tab"], apart := false, laid := [("math/bits.deBruijn32tab", laid_math_bits_deBruijn32tab), ("math/bits.deBruijn64tab", laid_math_bits_deBruijn64tab), ("internal/strconv.uint64pow10", laid_internal_strconv_uint64pow10)], narrowed := true }
def SeglogTornUptoSaid : Prop := seglogTornUptoRow.holds Tryz.pinned (OpenSpec.upto seglogTornSpec)

/-- 'waystationlaw04.SeglogCopies', WHERE WHAT IT READS IS OF BULK AT MOST 1048576: true; the input reads as it did. -/
def seglogCopiesUptoRow : OpenClaim := { program := "ytigmfcgeljjgnaagreatdoor", sum := "c4f12c83a808de39fc2b9834b810cd3c5f496bfea05f642cbbbea2c3705da5f8", func := "waystation/waystationlaw04.SeglogCopies", spec := "seglogCopies", inPlace := ["maps.clone"], unfollowed := true, recurses := true, named := ["internal/strconv.uint64pow10", "math/bits.deBruijn32tab", "math/bits.deBruijn64tab"], apart := false, laid := [("math/bits.deBruijn32tab", laid_math_bits_deBruijn32tab), ("math/bits.deBruijn64tab", laid_math_bits_deBruijn64tab), ("internal/strconv.uint64pow10", laid_internal_strconv_uint64pow10)], narrowed := true }
def SeglogCopiesUptoSaid : Prop := seglogCopiesUptoRow.holds Tryz.pinned (OpenSpec.upto seglogCopiesSpec)

end Rows
end Go.Proofs.YtigmfcgeljjgnaaGreatDoor
