/- The closed facts of the row of TopClocksNamed: whether it recurses. -/
import Derived.Test.YthcbchgdfldckaaGreatDoorLaid
import Derived.JoinedOf
namespace Go.Proofs.YthcbchgdfldckaaGreatDoor
open Go
theorem topClocksNamedJ11 : ((Rows.topClocksNamedRow.recurses == Tryz.prog.recurses 4)) = true := by kernel_rfl
end Go.Proofs.YthcbchgdfldckaaGreatDoor

/- The closed facts of the row of TopClocksNamed: which variables it names. -/
namespace Go.Proofs.YthcbchgdfldckaaGreatDoor
open Go
theorem topClocksNamedJ12 : ((Rows.topClocksNamedRow.named == Tryz.prog.varsNamed 4)) = true := by kernel_rfl
end Go.Proofs.YthcbchgdfldckaaGreatDoor
