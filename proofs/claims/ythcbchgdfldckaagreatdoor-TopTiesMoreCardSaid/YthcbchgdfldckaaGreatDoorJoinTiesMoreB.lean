/- The closed facts of the row of TopTiesMore: whether it recurses. -/
import Derived.Test.YthcbchgdfldckaaGreatDoorLaid
import Derived.JoinedOf
namespace Go.Proofs.YthcbchgdfldckaaGreatDoor
open Go
theorem topTiesMoreJ11 : ((Rows.topTiesMoreRow.recurses == Tryz.prog.recurses 3)) = true := by kernel_rfl
end Go.Proofs.YthcbchgdfldckaaGreatDoor

/- The closed facts of the row of TopTiesMore: which variables it names. -/
namespace Go.Proofs.YthcbchgdfldckaaGreatDoor
open Go
theorem topTiesMoreJ12 : ((Rows.topTiesMoreRow.named == Tryz.prog.varsNamed 3)) = true := by kernel_rfl
end Go.Proofs.YthcbchgdfldckaaGreatDoor
