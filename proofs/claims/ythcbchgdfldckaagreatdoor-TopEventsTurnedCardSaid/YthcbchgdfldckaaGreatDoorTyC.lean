/- The ties of this seat's rows, in parts: what the variables hold. -/
import Derived.Test.YthcbchgdfldckaaGreatDoorTyA
namespace Go.Proofs.YthcbchgdfldckaaGreatDoor
open Go
theorem tyRun (os tape) : (DataW.laidRun Tryz.prog (varsWorld Tryz.prog 400 (varsId Tryz.prog) os tape).memory 8 (laidOwn.map (·.1))).map (·.1) = some laidOwn := by kernel_rfl
end Go.Proofs.YthcbchgdfldckaaGreatDoor
