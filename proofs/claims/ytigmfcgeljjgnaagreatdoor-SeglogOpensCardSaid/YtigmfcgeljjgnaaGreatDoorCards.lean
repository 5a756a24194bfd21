/-
  DERIVED. GIVEN WITH THE SEED: THE CARDS: each row of YtigmfcgeljjgnaaGreatDoorRows.lean that lists a variable, with what it lists TIED to the program's text (the seventh form; the later family's looks); each row that meets fmt, with fmt's text TOLD by the authors' own Lean function (tested against real Go, not proved from fmt's source: count such statements apart). THE CARD IS WHAT COUNTS. Prove the row's statement (the work); the ties are given (YtigmfcgeljjgnaaGreatDoorTie.lean); close each card by the builder's one call (the guide's Derived/Test/ToyasCard.lean, 'card_holds'). Laid BY PROGRAM, IN A SANDBOX (cutbox-door.mjs). By AI agents, Wed Nov 11 2026. No macro, syntax, notation, axiom, sorry.
-/
import Derived.Test.YtigmfcgeljjgnaaGreatDoorRows
import GoSem.ClaimSeven
namespace Go.Proofs.YtigmfcgeljjgnaaGreatDoor
namespace Rows

/-- THE TIED CARD OF 'waystationlaw04.SeglogTwo'. -/
def seglogTwoCard : Claim7 := { stood := { row := seglogTwoRow, standIns := [], harness := (true, "01ef0002f38d3a461f3a2f8ee30881cbd373bac9651bf68fd9a4f7539f52c929"), looks := true }, kinds := [], alts := [], laidByText := true, laidKinds := [.data, .data, .data], laidTests := true, laidLooks := .later }
def SeglogTwoCardSaid : Prop := Claim7.holds Tryz.pinned (.plain (OpenSpec.ofChange seglogTwoSpec)) seglogTwoCard

/-- THE TIED CARD OF 'waystationlaw04.SeglogPlays'. -/
def seglogPlaysCard : Claim7 := { stood := { row := seglogPlaysRow, standIns := [], harness := (true, "01ef0002f38d3a461f3a2f8ee30881cbd373bac9651bf68fd9a4f7539f52c929"), looks := true }, kinds := [], alts := [], laidByText := true, laidKinds := [.data, .data, .data], laidTests := true, laidLooks := .later }
def SeglogPlaysCardSaid : Prop := Claim7.holds Tryz.pinned (.plain (OpenSpec.ofChange seglogPlaysSpec)) seglogPlaysCard

/-- THE TIED CARD OF 'waystationlaw04.SeglogOpens'. -/
def seglogOpensCard : Claim7 := { stood := { row := seglogOpensRow, standIns := [], harness := (true, "01ef0002f38d3a461f3a2f8ee30881cbd373bac9651bf68fd9a4f7539f52c929"), looks := true }, kinds := [], alts := [], laidByText := true, laidKinds := [.data, .data, .data], laidTests := true, laidLooks := .later }
def SeglogOpensCardSaid : Prop := Claim7.holds Tryz.pinned (.plain (OpenSpec.ofChange seglogOpensSpec)) seglogOpensCard

/-- THE TIED CARD OF 'waystationlaw04.SeglogFiles'. -/
def seglogFilesCard : Claim7 := { stood := { row := seglogFilesRow, standIns := [], harness := (true, "01ef0002f38d3a461f3a2f8ee30881cbd373bac9651bf68fd9a4f7539f52c929"), looks := true }, kinds := [], alts := [], laidByText := true, laidKinds := [.data, .data, .data], laidTests := true, laidLooks := .later }
def SeglogFilesCardSaid : Prop := Claim7.holds Tryz.pinned (.plain (OpenSpec.ofChange seglogFilesSpec)) seglogFilesCard

/-- THE TIED CARD OF 'waystationlaw04.SeglogTorn'. -/
def seglogTornCard : Claim7 := { stood := { row := seglogTornRow, standIns := [], harness := (true, "01ef0002f38d3a461f3a2f8ee30881cbd373bac9651bf68fd9a4f7539f52c929"), looks := true }, kinds := [], alts := [], laidByText := true, laidKinds := [.data, .data, .data], laidTests := true, laidLooks := .later }
def SeglogTornCardSaid : Prop := Claim7.holds Tryz.pinned (.plain (OpenSpec.ofChange seglogTornSpec)) seglogTornCard

/-- THE TIED CARD OF 'waystationlaw04.SeglogCopies'. -/
def seglogCopiesCard : Claim7 := { stood := { row := seglogCopiesRow, standIns := [], harness := (true, "01ef0002f38d3a461f3a2f8ee30881cbd373bac9651bf68fd9a4f7539f52c929"), looks := true }, kinds := [], alts := [], laidByText := true, laidKinds := [.data, .data, .data], laidTests := true, laidLooks := .later }
def SeglogCopiesCardSaid : Prop := Claim7.holds Tryz.pinned (.plain (OpenSpec.ofChange seglogCopiesSpec)) seglogCopiesCard

/-- THE SECOND FORM's CARD OF 'waystationlaw04.SeglogTwo'. -/
def seglogTwoUptoCard : Claim7 := { stood := { row := seglogTwoUptoRow, standIns := [], harness := (true, "01ef0002f38d3a461f3a2f8ee30881cbd373bac9651bf68fd9a4f7539f52c929"), looks := true }, kinds := [], alts := [], laidByText := true, laidKinds := [.data, .data, .data], laidTests := true, laidLooks := .later }
def SeglogTwoUptoCardSaid : Prop := Claim7.holds Tryz.pinned (.plain (OpenSpec.upto seglogTwoSpec)) seglogTwoUptoCard

/-- THE SECOND FORM's CARD OF 'waystationlaw04.SeglogPlays'. -/
def seglogPlaysUptoCard : Claim7 := { stood := { row := seglogPlaysUptoRow, standIns := [], harness := (true, "01ef0002f38d3a461f3a2f8ee30881cbd373bac9651bf68fd9a4f7539f52c929"), looks := true }, kinds := [], alts := [], laidByText := true, laidKinds := [.data, .data, .data], laidTests := true, laidLooks := .later }
def SeglogPlaysUptoCardSaid : Prop := Claim7.holds Tryz.pinned (.plain (OpenSpec.upto seglogPlaysSpec)) seglogPlaysUptoCard

/-- THE SECOND FORM's CARD OF 'waystationlaw04.SeglogOpens'. -/
def seglogOpensUptoCard : Claim7 := { stood := { row := seglogOpensUptoRow, standIns := [], harness := (true, "01ef0002f38d3a461f3a2f8ee30881cbd373bac9651bf68fd9a4f7539f52c929"), looks := true }, kinds := [], alts := [], laidByText := true, laidKinds := [.data, .data, .data], laidTests := true, laidLooks := .later }
def SeglogOpensUptoCardSaid : Prop := Claim7.holds Tryz.pinned (.plain (OpenSpec.upto seglogOpensSpec)) seglogOpensUptoCard

/-- THE SECOND FORM's CARD OF 'waystationlaw04.SeglogFiles'. -/
def seglogFilesUptoCard : Claim7 := { stood := { row := seglogFilesUptoRow, standIns := [], harness := (true, "01ef0002f38d3a461f3a2f8ee30881cbd373bac9651bf68fd9a4f7539f52c929"), looks := true }, kinds := [], alts := [], laidByText := true, laidKinds := [.data, .data, .data], laidTests := true, laidLooks := .later }
def SeglogFilesUptoCardSaid : Prop := Claim7.holds Tryz.pinned (.plain (OpenSpec.upto seglogFilesSpec)) seglogFilesUptoCard

/-- THE SECOND FORM's CARD OF 'waystationlaw04.SeglogTorn'. -/
def seglogTornUptoCard : Claim7 := { stood := { row := seglogTornUptoRow, standIns := [], harness := (true, "01ef0002f38d3a461f3a2f8ee30881cbd373bac9651bf68fd9a4f7539f52c929"), looks := true }, kinds := [], alts := [], laidByText := true, laidKinds := [.data, .data, .data], laidTests := true, laidLooks := .later }
def SeglogTornUptoCardSaid : Prop := Claim7.holds Tryz.pinned (.plain (OpenSpec.upto seglogTornSpec)) seglogTornUptoCard

/-- THE SECOND FORM's CARD OF 'waystationlaw04.SeglogCopies'. -/
def seglogCopiesUptoCard : Claim7 := { stood := { row := seglogCopiesUptoRow, standIns := [], harness := (true, "01ef0002f38d3a461f3a2f8ee30881cbd373bac9651bf68fd9a4f7539f52c929"), looks := true }, kinds := [], alts := [], laidByText := true, laidKinds := [.data, .data, .data], laidTests := true, laidLooks := .later }
def SeglogCopiesUptoCardSaid : Prop := Claim7.holds Tryz.pinned (.plain (OpenSpec.upto seglogCopiesSpec)) seglogCopiesUptoCard
end Rows
end Go.Proofs.YtigmfcgeljjgnaaGreatDoor
