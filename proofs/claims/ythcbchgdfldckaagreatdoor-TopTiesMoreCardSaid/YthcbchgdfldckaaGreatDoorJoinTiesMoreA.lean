/- The closed facts of the row of TopTiesMore: what it reaches. -/
import Derived.Test.YthcbchgdfldckaaGreatDoorLaid
import Derived.JoinedOf
namespace Go.Proofs.YthcbchgdfldckaaGreatDoor
open Go
theorem topTiesMoreJ9 : ((Rows.topTiesMoreRow.inPlace == Tryz.prog.inPlace 3)) = true := by kernel_rfl
theorem topTiesMoreJ10 : ((Rows.topTiesMoreRow.unfollowed == Tryz.prog.unfollowed 3)) = true := by kernel_rfl
end Go.Proofs.YthcbchgdfldckaaGreatDoor
