/- The closed facts of the row of TopEventsTurned: the rest, and the whole. -/
import Derived.Test.YthcbchgdfldckaaGreatDoorCardP
import Derived.Test.YthcbchgdfldckaaGreatDoorJoinEventsTurnedA
import Derived.Test.YthcbchgdfldckaaGreatDoorJoinEventsTurnedB
import Derived.JoinedOf
namespace Go.Proofs.YthcbchgdfldckaaGreatDoor
open Go
theorem topEventsTurnedJ0 : (Rows.topEventsTurnedRow.wf (OpenSpec.ofChange Rows.topEventsTurnedSpec)) = true := by kernel_rfl
theorem topEventsTurnedJ3 : (Tryz.f5.params.all (Tryz.prog.readableRec ·)) = true := by kernel_rfl
theorem topEventsTurnedJ4 : (namedTie Tryz.prog Rows.topEventsTurnedRow.named Rows.topEventsTurnedSpec.vars) = true := by kernel_rfl
theorem topEventsTurnedJ5 : ((Rows.topEventsTurnedRow.stops == [])) = true := by kernel_rfl
theorem topEventsTurnedJ7 : ((Rows.topEventsTurnedRow.knobs == [])) = true := by kernel_rfl
theorem topEventsTurnedJ13 : ((Rows.topEventsTurnedRow.maps == (Tryz.f5.params.toList ++ Rows.topEventsTurnedSpec.plain.varTypes Tryz.prog).any (Tryz.prog.mapsRec ·))) = true := by kernel_rfl
theorem topEventsTurnedJ14 : ((Rows.topEventsTurnedRow.ifaces == (Tryz.f5.params.toList ++ Rows.topEventsTurnedSpec.plain.varTypes Tryz.prog).any (Tryz.prog.ifacesRec ·))) = true := by kernel_rfl
theorem topEventsTurnedJ15 : ((Rows.topEventsTurnedRow.mapsOut == Tryz.prog.mapsAmong Tryz.f5.resultTypes.toList)) = true := by kernel_rfl
theorem topEventsTurnedJ16 : ((Rows.topEventsTurnedRow.loops == (Tryz.f5.params.toList ++ Rows.topEventsTurnedSpec.plain.varTypes Tryz.prog).any (Tryz.prog.loopsFrom ·))) = true := by kernel_rfl
theorem topEventsTurnedJ17 : ((Rows.topEventsTurnedRow.wideKeys == (Tryz.f5.params.toList ++ Rows.topEventsTurnedSpec.plain.varTypes Tryz.prog ++ Tryz.f5.resultTypes.toList).any (Tryz.prog.wideKeysFrom ·))) = true := by kernel_rfl
theorem topEventsTurnedJ18 : (Rows.topEventsTurnedSpec.vars.all (Tryz.prog.varReadable ·)) = true := by kernel_rfl
theorem topEventsTurnedJ19 : (Tryz.f5.resultTypes.all (fun t => Tryz.prog.readableRec t && decide (t < Tryz.prog.types.size))) = true := by kernel_rfl
theorem topEventsTurnedJ20 : ((Rows.topEventsTurnedRow.ifacesOut == Tryz.f5.resultTypes.toList.any (Tryz.prog.ifacesRec ·))) = true := by kernel_rfl
theorem topEventsTurnedJ21 : ((Rows.topEventsTurnedRow.loopsOut == Tryz.f5.resultTypes.toList.any (Tryz.prog.loopsFrom ·))) = true := by kernel_rfl
theorem topEventsTurnedJ22 : ((Rows.topEventsTurnedRow.plainKeys == Tryz.prog.plainKeys)) = true := by kernel_rfl
theorem topEventsTurnedJ23 : (Rows.topEventsTurnedRow.shortTexts.isNone) = true := by kernel_rfl
theorem topEventsTurnedJ26 : ((Rows.topEventsTurnedRow.lifted == Tryz.prog.liftsFinal)) = true := by kernel_rfl
theorem topEventsTurnedJ27 : ((Tryz.prog.make == some Rows.topEventsTurnedRow.make)) = true := by kernel_rfl
theorem topEventsTurnedJ28 : ((Rows.topEventsTurnedRow.kinds == (if Rows.topEventsTurnedRow.domain.isEmpty then [] else Tryz.f5.params.toList.map fun t => match Tryz.prog.underlying t with | some (.int k) => some k | _ => none))) = true := by kernel_rfl
theorem topEventsTurnedJ29 : ((Rows.topEventsTurnedRow.pinned == Rows.topEventsTurnedRow.pinnedBy)) = true := by kernel_rfl
theorem topEventsTurnedJ30 : ((Rows.topEventsTurnedRow.veiled == (Tryz.f5.params.toList ++ Rows.topEventsTurnedSpec.plain.varTypes Tryz.prog ++ Tryz.f5.resultTypes.toList).any (Tryz.prog.veiledRec ·))) = true := by kernel_rfl
theorem topEventsTurnedJ31 : (Rows.topEventsTurnedRow.veiledFits Tryz.prog Tryz.f5.params.toList (Tryz.f5.params.toList ++ Rows.topEventsTurnedSpec.plain.varTypes Tryz.prog ++ Tryz.f5.resultTypes.toList)) = true := by kernel_rfl
set_option maxRecDepth 10000 in
theorem topEventsTurned_joined : joinedFacts Tryz.pinned.checked.prog 5 Tryz.f5 Rows.topEventsTurnedSpec Rows.topEventsTurnedRow = true := and2 (and2 (and2 (and2 (and2 (and2 (and2 (and2 (and2 (and2 (and2 (and2 (and2 (and2 (and2 (and2 (and2 (and2 (and2 (and2 (and2 (and2 (and2 (and2 (and2 (and2 (and2 (and2 (and2 (and2 (and2 (topEventsTurnedJ0) laidOut) joinP2) topEventsTurnedJ3) topEventsTurnedJ4) topEventsTurnedJ5) joinP6) topEventsTurnedJ7) joinP8) topEventsTurnedJ9) topEventsTurnedJ10) topEventsTurnedJ11) topEventsTurnedJ12) topEventsTurnedJ13) topEventsTurnedJ14) topEventsTurnedJ15) topEventsTurnedJ16) topEventsTurnedJ17) topEventsTurnedJ18) topEventsTurnedJ19) topEventsTurnedJ20) topEventsTurnedJ21) topEventsTurnedJ22) topEventsTurnedJ23) joinP24) joinP25) topEventsTurnedJ26) topEventsTurnedJ27) topEventsTurnedJ28) topEventsTurnedJ29) topEventsTurnedJ30) topEventsTurnedJ31
end Go.Proofs.YthcbchgdfldckaaGreatDoor
