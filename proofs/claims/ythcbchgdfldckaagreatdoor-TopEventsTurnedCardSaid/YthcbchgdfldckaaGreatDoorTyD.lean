/- The ties of this seat's rows, in parts: where they lie. -/
import Derived.Test.YthcbchgdfldckaaGreatDoorTyA
namespace Go.Proofs.YthcbchgdfldckaaGreatDoor
open Go
theorem tyRows (os tape) : (DataW.laidRun Tryz.prog (varsWorld Tryz.prog 400 (varsId Tryz.prog) os tape).memory 8 (laidOwn.map (·.1))).map (fun x => decide x.2.Nodup && laidRowsB Tryz.prog (varsWorld Tryz.prog 400 (varsId Tryz.prog) os tape).memory x.2) = some true := by kernel_rfl
end Go.Proofs.YthcbchgdfldckaaGreatDoor
