/- The closed facts of the row of TopClocksNamed: what it reaches. -/
import Derived.Test.YthcbchgdfldckaaGreatDoorLaid
import Derived.JoinedOf
namespace Go.Proofs.YthcbchgdfldckaaGreatDoor
open Go
theorem topClocksNamedJ9 : ((Rows.topClocksNamedRow.inPlace == Tryz.prog.inPlace 4)) = true := by kernel_rfl
theorem topClocksNamedJ10 : ((Rows.topClocksNamedRow.unfollowed == Tryz.prog.unfollowed 4)) = true := by kernel_rfl
end Go.Proofs.YthcbchgdfldckaaGreatDoor
