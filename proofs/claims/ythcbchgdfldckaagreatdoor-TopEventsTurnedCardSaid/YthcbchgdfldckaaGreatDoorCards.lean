/-
  DERIVED. GIVEN WITH THE SEED: THE CARDS: each row of YthcbchgdfldckaaGreatDoorRows.lean that lists a variable, with what it lists TIED to the program's text (the seventh form; the later family's looks); each row that meets fmt, with fmt's text TOLD by the authors' own Lean function (tested against real Go, not proved from fmt's source: count such statements apart). THE CARD IS WHAT COUNTS. Prove the row's statement (the work); the ties are given (YthcbchgdfldckaaGreatDoorTie.lean); close each card by the builder's one call (the guide's Derived/Test/ToyasCard.lean, 'card_holds'). Laid BY PROGRAM, IN A SANDBOX (cutbox-door.mjs). By AI agents, Wed Nov 11 2026. No macro, syntax, notation, axiom, sorry.
-/
import Derived.Test.YthcbchgdfldckaaGreatDoorRows
import GoSem.ClaimSeven
namespace Go.Proofs.YthcbchgdfldckaaGreatDoor
namespace Rows

/-- THE TIED CARD OF 'wracktop.TopTiesMore'. -/
def topTiesMoreCard : Claim7 := { stood := { row := topTiesMoreRow, standIns := [], harness := (true, "17edc6c4c9b04487fceff9f615abff38739102ea19582065e41d28606b57a7ff"), looks := true }, kinds := [], alts := [], laidByText := true, laidKinds := [.sentinel, .sentinel, .data, .data, .data, .pinned, .data], laidTests := true, laidLooks := .later }
def TopTiesMoreCardSaid : Prop := Claim7.holds Tryz.pinned (.plain (OpenSpec.ofChange topTiesMoreSpec)) topTiesMoreCard

/-- THE TIED CARD OF 'wracktop.TopClocksNamed'. -/
def topClocksNamedCard : Claim7 := { stood := { row := topClocksNamedRow, standIns := [], harness := (true, "17edc6c4c9b04487fceff9f615abff38739102ea19582065e41d28606b57a7ff"), looks := true }, kinds := [], alts := [], laidByText := true, laidKinds := [.sentinel, .sentinel, .data, .data, .data, .pinned, .data], laidTests := true, laidLooks := .later }
def TopClocksNamedCardSaid : Prop := Claim7.holds Tryz.pinned (.plain (OpenSpec.ofChange topClocksNamedSpec)) topClocksNamedCard

/-- THE TIED CARD OF 'wracktop.TopEventsTurned'. -/
def topEventsTurnedCard : Claim7 := { stood := { row := topEventsTurnedRow, standIns := [], harness := (true, "17edc6c4c9b04487fceff9f615abff38739102ea19582065e41d28606b57a7ff"), looks := true }, kinds := [], alts := [], laidByText := true, laidKinds := [.sentinel, .sentinel, .data, .data, .data, .pinned, .data], laidTests := true, laidLooks := .later }
def TopEventsTurnedCardSaid : Prop := Claim7.holds Tryz.pinned (.plain (OpenSpec.ofChange topEventsTurnedSpec)) topEventsTurnedCard

/-- THE SECOND FORM's CARD OF 'wracktop.TopTiesMore'. -/
def topTiesMoreUptoCard : Claim7 := { stood := { row := topTiesMoreUptoRow, standIns := [], harness := (true, "17edc6c4c9b04487fceff9f615abff38739102ea19582065e41d28606b57a7ff"), looks := true }, kinds := [], alts := [], laidByText := true, laidKinds := [.sentinel, .sentinel, .data, .data, .data, .pinned, .data], laidTests := true, laidLooks := .later }
def TopTiesMoreUptoCardSaid : Prop := Claim7.holds Tryz.pinned (.plain (OpenSpec.upto topTiesMoreSpec)) topTiesMoreUptoCard

/-- THE SECOND FORM's CARD OF 'wracktop.TopClocksNamed'. -/
def topClocksNamedUptoCard : Claim7 := { stood := { row := topClocksNamedUptoRow, standIns := [], harness := (true, "17edc6c4c9b04487fceff9f615abff38739102ea19582065e41d28606b57a7ff"), looks := true }, kinds := [], alts := [], laidByText := true, laidKinds := [.sentinel, .sentinel, .data, .data, .data, .pinned, .data], laidTests := true, laidLooks := .later }
def TopClocksNamedUptoCardSaid : Prop := Claim7.holds Tryz.pinned (.plain (OpenSpec.upto topClocksNamedSpec)) topClocksNamedUptoCard

/-- THE SECOND FORM's CARD OF 'wracktop.TopEventsTurned'. -/
def topEventsTurnedUptoCard : Claim7 := { stood := { row := topEventsTurnedUptoRow, standIns := [], harness := (true, "17edc6c4c9b04487fceff9f615abff38739102ea19582065e41d28606b57a7ff"), looks := true }, kinds := [], alts := [], laidByText := true, laidKinds := [.sentinel, .sentinel, .data, .data, .data, .pinned, .data], laidTests := true, laidLooks := .later }
def TopEventsTurnedUptoCardSaid : Prop := Claim7.holds Tryz.pinned (.plain (OpenSpec.upto topEventsTurnedSpec)) topEventsTurnedUptoCard
end Rows
end Go.Proofs.YthcbchgdfldckaaGreatDoor
