/-
  DERIVED. GIVEN WITH THE SEED: THE CARDS: each row of YtfkfdffhajokkaaGreatDoorRows.lean that lists a variable, with what it lists TIED to the program's text (the seventh form; the later family's looks); each row that meets fmt, with fmt's text TOLD by the authors' own Lean function (tested against real Go, not proved from fmt's source: count such statements apart). THE CARD IS WHAT COUNTS. Prove the row's statement (the work); the ties are given (YtfkfdffhajokkaaGreatDoorTie.lean); close each card by the builder's one call (the guide's Derived/Test/ToyasCard.lean, 'card_holds'). Laid BY PROGRAM, IN A SANDBOX (cutbox-door.mjs). By AI agents, Wed Nov 11 2026. No macro, syntax, notation, axiom, sorry.
-/
import Derived.Test.YtfkfdffhajokkaaGreatDoorRows
import GoSem.ClaimSeven
namespace Go.Proofs.YtfkfdffhajokkaaGreatDoor
namespace Rows

/-- THE TIED CARD OF 'spokeshavelaw23.X86Runs'. -/
def x86RunsCard : Claim7 := { stood := { row := x86RunsRow, standIns := [], harness := (true, "6b4594821ad5a5cf6226c65788352835d1680a156e5ba39ca27b1a83a4a66873"), looks := true }, kinds := [], alts := [], laidByText := true, laidKinds := [.data, .data, .data, .data, .sentinel, .sentinel, .mappedDeep, .pinned], laidTests := true, laidLooks := .later }
def X86RunsCardSaid : Prop := Claim7.holds Tryz.pinned (.plain (OpenSpec.ofChange x86RunsSpec)) x86RunsCard

/-- THE TIED CARD OF 'spokeshavelaw23.X86Words'. -/
def x86WordsCard : Claim7 := { stood := { row := x86WordsRow, standIns := [], harness := (true, "6b4594821ad5a5cf6226c65788352835d1680a156e5ba39ca27b1a83a4a66873"), looks := true }, kinds := [], alts := [], laidByText := true, laidKinds := [.data, .data, .data, .data, .sentinel, .sentinel, .mappedDeep, .pinned], laidTests := true, laidLooks := .later }
def X86WordsCardSaid : Prop := Claim7.holds Tryz.pinned (.plain (OpenSpec.ofChange x86WordsSpec)) x86WordsCard

/-- THE TIED CARD OF 'spokeshavelaw23.X86Stack'. -/
def x86StackCard : Claim7 := { stood := { row := x86StackRow, standIns := [], harness := (true, "6b4594821ad5a5cf6226c65788352835d1680a156e5ba39ca27b1a83a4a66873"), looks := true }, kinds := [], alts := [], laidByText := true, laidKinds := [.data, .data, .data, .data, .sentinel, .sentinel, .mappedDeep, .pinned], laidTests := true, laidLooks := .later }
def X86StackCardSaid : Prop := Claim7.holds Tryz.pinned (.plain (OpenSpec.ofChange x86StackSpec)) x86StackCard

/-- THE TIED CARD OF 'spokeshavelaw23.X86Loops'. -/
def x86LoopsCard : Claim7 := { stood := { row := x86LoopsRow, standIns := [], harness := (true, "6b4594821ad5a5cf6226c65788352835d1680a156e5ba39ca27b1a83a4a66873"), looks := true }, kinds := [], alts := [], laidByText := true, laidKinds := [.data, .data, .data, .data, .sentinel, .sentinel, .mappedDeep, .pinned], laidTests := true, laidLooks := .later }
def X86LoopsCardSaid : Prop := Claim7.holds Tryz.pinned (.plain (OpenSpec.ofChange x86LoopsSpec)) x86LoopsCard

/-- THE SECOND FORM's CARD OF 'spokeshavelaw23.X86Runs'. -/
def x86RunsUptoCard : Claim7 := { stood := { row := x86RunsUptoRow, standIns := [], harness := (true, "6b4594821ad5a5cf6226c65788352835d1680a156e5ba39ca27b1a83a4a66873"), looks := true }, kinds := [], alts := [], laidByText := true, laidKinds := [.data, .data, .data, .data, .sentinel, .sentinel, .mappedDeep, .pinned], laidTests := true, laidLooks := .later }
def X86RunsUptoCardSaid : Prop := Claim7.holds Tryz.pinned (.plain (OpenSpec.upto x86RunsSpec)) x86RunsUptoCard

/-- THE SECOND FORM's CARD OF 'spokeshavelaw23.X86Words'. -/
def x86WordsUptoCard : Claim7 := { stood := { row := x86WordsUptoRow, standIns := [], harness := (true, "6b4594821ad5a5cf6226c65788352835d1680a156e5ba39ca27b1a83a4a66873"), looks := true }, kinds := [], alts := [], laidByText := true, laidKinds := [.data, .data, .data, .data, .sentinel, .sentinel, .mappedDeep, .pinned], laidTests := true, laidLooks := .later }
def X86WordsUptoCardSaid : Prop := Claim7.holds Tryz.pinned (.plain (OpenSpec.upto x86WordsSpec)) x86WordsUptoCard

/-- THE SECOND FORM's CARD OF 'spokeshavelaw23.X86Stack'. -/
def x86StackUptoCard : Claim7 := { stood := { row := x86StackUptoRow, standIns := [], harness := (true, "6b4594821ad5a5cf6226c65788352835d1680a156e5ba39ca27b1a83a4a66873"), looks := true }, kinds := [], alts := [], laidByText := true, laidKinds := [.data, .data, .data, .data, .sentinel, .sentinel, .mappedDeep, .pinned], laidTests := true, laidLooks := .later }
def X86StackUptoCardSaid : Prop := Claim7.holds Tryz.pinned (.plain (OpenSpec.upto x86StackSpec)) x86StackUptoCard

/-- THE SECOND FORM's CARD OF 'spokeshavelaw23.X86Loops'. -/
def x86LoopsUptoCard : Claim7 := { stood := { row := x86LoopsUptoRow, standIns := [], harness := (true, "6b4594821ad5a5cf6226c65788352835d1680a156e5ba39ca27b1a83a4a66873"), looks := true }, kinds := [], alts := [], laidByText := true, laidKinds := [.data, .data, .data, .data, .sentinel, .sentinel, .mappedDeep, .pinned], laidTests := true, laidLooks := .later }
def X86LoopsUptoCardSaid : Prop := Claim7.holds Tryz.pinned (.plain (OpenSpec.upto x86LoopsSpec)) x86LoopsUptoCard
end Rows
end Go.Proofs.YtfkfdffhajokkaaGreatDoor
