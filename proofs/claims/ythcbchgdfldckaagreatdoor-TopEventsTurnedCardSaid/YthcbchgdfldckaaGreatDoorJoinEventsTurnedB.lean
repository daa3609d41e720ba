/- The closed facts of the row of TopEventsTurned: whether it recurses. -/
import Derived.Test.YthcbchgdfldckaaGreatDoorLaid
import Derived.JoinedOf
namespace Go.Proofs.YthcbchgdfldckaaGreatDoor
open Go
theorem topEventsTurnedJ11 : ((Rows.topEventsTurnedRow.recurses == Tryz.prog.recurses 5)) = true := by kernel_rfl
end Go.Proofs.YthcbchgdfldckaaGreatDoor

/- The closed facts of the row of TopEventsTurned: which variables it names. -/
namespace Go.Proofs.YthcbchgdfldckaaGreatDoor
open Go
theorem topEventsTurnedJ12 : ((Rows.topEventsTurnedRow.named == Tryz.prog.varsNamed 5)) = true := by kernel_rfl
end Go.Proofs.YthcbchgdfldckaaGreatDoor
