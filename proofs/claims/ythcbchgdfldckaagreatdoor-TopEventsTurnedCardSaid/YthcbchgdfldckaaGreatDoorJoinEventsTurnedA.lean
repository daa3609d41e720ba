/- The closed facts of the row of TopEventsTurned: what it reaches. -/
import Derived.Test.YthcbchgdfldckaaGreatDoorLaid
import Derived.JoinedOf
namespace Go.Proofs.YthcbchgdfldckaaGreatDoor
open Go
theorem topEventsTurnedJ9 : ((Rows.topEventsTurnedRow.inPlace == Tryz.prog.inPlace 5)) = true := by kernel_rfl
theorem topEventsTurnedJ10 : ((Rows.topEventsTurnedRow.unfollowed == Tryz.prog.unfollowed 5)) = true := by kernel_rfl
end Go.Proofs.YthcbchgdfldckaaGreatDoor
