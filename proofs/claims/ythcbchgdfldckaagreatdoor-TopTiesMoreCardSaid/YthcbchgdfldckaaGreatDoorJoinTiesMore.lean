/- The closed facts of the row of TopTiesMore: the rest, and the whole. -/
import Derived.Test.YthcbchgdfldckaaGreatDoorCardP
import Derived.Test.YthcbchgdfldckaaGreatDoorJoinTiesMoreA
import Derived.Test.YthcbchgdfldckaaGreatDoorJoinTiesMoreB
import Derived.JoinedOf
namespace Go.Proofs.YthcbchgdfldckaaGreatDoor
open Go
theorem topTiesMoreJ0 : (Rows.topTiesMoreRow.wf (OpenSpec.ofChange Rows.topTiesMoreSpec)) = true := by kernel_rfl
theorem topTiesMoreJ3 : (Tryz.f3.params.all (Tryz.prog.readableRec ·)) = true := by kernel_rfl
theorem topTiesMoreJ4 : (namedTie Tryz.prog Rows.topTiesMoreRow.named Rows.topTiesMoreSpec.vars) = true := by kernel_rfl
theorem topTiesMoreJ5 : ((Rows.topTiesMoreRow.stops == [])) = true := by kernel_rfl
theorem topTiesMoreJ7 : ((Rows.topTiesMoreRow.knobs == [])) = true := by kernel_rfl
theorem topTiesMoreJ13 : ((Rows.topTiesMoreRow.maps == (Tryz.f3.params.toList ++ Rows.topTiesMoreSpec.plain.varTypes Tryz.prog).any (Tryz.prog.mapsRec ·))) = true := by kernel_rfl
theorem topTiesMoreJ14 : ((Rows.topTiesMoreRow.ifaces == (Tryz.f3.params.toList ++ Rows.topTiesMoreSpec.plain.varTypes Tryz.prog).any (Tryz.prog.ifacesRec ·))) = true := by kernel_rfl
theorem topTiesMoreJ15 : ((Rows.topTiesMoreRow.mapsOut == Tryz.prog.mapsAmong Tryz.f3.resultTypes.toList)) = true := by kernel_rfl
theorem topTiesMoreJ16 : ((Rows.topTiesMoreRow.loops == (Tryz.f3.params.toList ++ Rows.topTiesMoreSpec.plain.varTypes Tryz.prog).any (Tryz.prog.loopsFrom ·))) = true := by kernel_rfl
theorem topTiesMoreJ17 : ((Rows.topTiesMoreRow.wideKeys == (Tryz.f3.params.toList ++ Rows.topTiesMoreSpec.plain.varTypes Tryz.prog ++ Tryz.f3.resultTypes.toList).any (Tryz.prog.wideKeysFrom ·))) = true := by kernel_rfl
theorem topTiesMoreJ18 : (Rows.topTiesMoreSpec.vars.all (Tryz.prog.varReadable ·)) = true := by kernel_rfl
theorem topTiesMoreJ19 : (Tryz.f3.resultTypes.all (fun t => Tryz.prog.readableRec t && decide (t < Tryz.prog.types.size))) = true := by kernel_rfl
theorem topTiesMoreJ20 : ((Rows.topTiesMoreRow.ifacesOut == Tryz.f3.resultTypes.toList.any (Tryz.prog.ifacesRec ·))) = true := by kernel_rfl
theorem topTiesMoreJ21 : ((Rows.topTiesMoreRow.loopsOut == Tryz.f3.resultTypes.toList.any (Tryz.prog.loopsFrom ·))) = true := by kernel_rfl
theorem topTiesMoreJ22 : ((Rows.topTiesMoreRow.plainKeys == Tryz.prog.plainKeys)) = true := by kernel_rfl
theorem topTiesMoreJ23 : (Rows.topTiesMoreRow.shortTexts.isNone) = true := by kernel_rfl
theorem topTiesMoreJ26 : ((Rows.topTiesMoreRow.lifted == Tryz.prog.liftsFinal)) = true := by kernel_rfl
theorem topTiesMoreJ27 : ((Tryz.prog.make == some Rows.topTiesMoreRow.make)) = true := by kernel_rfl
theorem topTiesMoreJ28 : ((Rows.topTiesMoreRow.kinds == (if Rows.topTiesMoreRow.domain.isEmpty then [] else Tryz.f3.params.toList.map fun t => match Tryz.prog.underlying t with | some (.int k) => some k | _ => none))) = true := by kernel_rfl
theorem topTiesMoreJ29 : ((Rows.topTiesMoreRow.pinned == Rows.topTiesMoreRow.pinnedBy)) = true := by kernel_rfl
theorem topTiesMoreJ30 : ((Rows.topTiesMoreRow.veiled == (Tryz.f3.params.toList ++ Rows.topTiesMoreSpec.plain.varTypes Tryz.prog ++ Tryz.f3.resultTypes.toList).any (Tryz.prog.veiledRec ·))) = true := by kernel_rfl
theorem topTiesMoreJ31 : (Rows.topTiesMoreRow.veiledFits Tryz.prog Tryz.f3.params.toList (Tryz.f3.params.toList ++ Rows.topTiesMoreSpec.plain.varTypes Tryz.prog ++ Tryz.f3.resultTypes.toList)) = true := by kernel_rfl
set_option maxRecDepth 10000 in
theorem topTiesMore_joined : joinedFacts Tryz.pinned.checked.prog 3 Tryz.f3 Rows.topTiesMoreSpec Rows.topTiesMoreRow = true := and2 (and2 (and2 (and2 (and2 (and2 (and2 (and2 (and2 (and2 (and2 (and2 (and2 (and2 (and2 (and2 (and2 (and2 (and2 (and2 (and2 (and2 (and2 (and2 (and2 (and2 (and2 (and2 (and2 (and2 (and2 (topTiesMoreJ0) laidOut) joinP2) topTiesMoreJ3) topTiesMoreJ4) topTiesMoreJ5) joinP6) topTiesMoreJ7) joinP8) topTiesMoreJ9) topTiesMoreJ10) topTiesMoreJ11) topTiesMoreJ12) topTiesMoreJ13) topTiesMoreJ14) topTiesMoreJ15) topTiesMoreJ16) topTiesMoreJ17) topTiesMoreJ18) topTiesMoreJ19) topTiesMoreJ20) topTiesMoreJ21) topTiesMoreJ22) topTiesMoreJ23) joinP24) joinP25) topTiesMoreJ26) topTiesMoreJ27) topTiesMoreJ28) topTiesMoreJ29) topTiesMoreJ30) topTiesMoreJ31
end Go.Proofs.YthcbchgdfldckaaGreatDoor
