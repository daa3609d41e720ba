/- The ties of this seat's rows, in parts: the variables' own code ends. -/
import Derived.Test.YthcbchgdfldckaaGreatDoorTyA
namespace Go.Proofs.YthcbchgdfldckaaGreatDoor
open Go
theorem tyDone (os tape) : varsDone Tryz.prog 400 (varsId Tryz.prog) os tape = true := by kernel_rfl
end Go.Proofs.YthcbchgdfldckaaGreatDoor
