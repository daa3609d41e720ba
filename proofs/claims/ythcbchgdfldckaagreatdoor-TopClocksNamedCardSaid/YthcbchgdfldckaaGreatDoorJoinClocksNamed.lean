/- The closed facts of the row of TopClocksNamed: the rest, and the whole. -/
import Derived.Test.YthcbchgdfldckaaGreatDoorCardP
import Derived.Test.YthcbchgdfldckaaGreatDoorJoinClocksNamedA
import Derived.Test.YthcbchgdfldckaaGreatDoorJoinClocksNamedB
import Derived.JoinedOf
namespace Go.Proofs.YthcbchgdfldckaaGreatDoor
open Go
theorem topClocksNamedJ0 : (Rows.topClocksNamedRow.wf (OpenSpec.ofChange Rows.topClocksNamedSpec)) = true := by kernel_rfl
theorem topClocksNamedJ3 : (Tryz.f4.params.all (Tryz.prog.readableRec ·)) = true := by kernel_rfl
theorem topClocksNamedJ4 : (namedTie Tryz.prog Rows.topClocksNamedRow.named Rows.topClocksNamedSpec.vars) = true := by kernel_rfl
theorem topClocksNamedJ5 : ((Rows.topClocksNamedRow.stops == [])) = true := by kernel_rfl
theorem topClocksNamedJ7 : ((Rows.topClocksNamedRow.knobs == [])) = true := by kernel_rfl
theorem topClocksNamedJ13 : ((Rows.topClocksNamedRow.maps == (Tryz.f4.params.toList ++ Rows.topClocksNamedSpec.plain.varTypes Tryz.prog).any (Tryz.prog.mapsRec ·))) = true := by kernel_rfl
theorem topClocksNamedJ14 : ((Rows.topClocksNamedRow.ifaces == (Tryz.f4.params.toList ++ Rows.topClocksNamedSpec.plain.varTypes Tryz.prog).any (Tryz.prog.ifacesRec ·))) = true := by kernel_rfl
theorem topClocksNamedJ15 : ((Rows.topClocksNamedRow.mapsOut == Tryz.prog.mapsAmong Tryz.f4.resultTypes.toList)) = true := by kernel_rfl
theorem topClocksNamedJ16 : ((Rows.topClocksNamedRow.loops == (Tryz.f4.params.toList ++ Rows.topClocksNamedSpec.plain.varTypes Tryz.prog).any (Tryz.prog.loopsFrom ·))) = true := by kernel_rfl
theorem topClocksNamedJ17 : ((Rows.topClocksNamedRow.wideKeys == (Tryz.f4.params.toList ++ Rows.topClocksNamedSpec.plain.varTypes Tryz.prog ++ Tryz.f4.resultTypes.toList).any (Tryz.prog.wideKeysFrom ·))) = true := by kernel_rfl
theorem topClocksNamedJ18 : (Rows.topClocksNamedSpec.vars.all (Tryz.prog.varReadable ·)) = true := by kernel_rfl
theorem topClocksNamedJ19 : (Tryz.f4.resultTypes.all (fun t => Tryz.prog.readableRec t && decide (t < Tryz.prog.types.size))) = true := by kernel_rfl
theorem topClocksNamedJ20 : ((Rows.topClocksNamedRow.ifacesOut == Tryz.f4.resultTypes.toList.any (Tryz.prog.ifacesRec ·))) = true := by kernel_rfl
theorem topClocksNamedJ21 : ((Rows.topClocksNamedRow.loopsOut == Tryz.f4.resultTypes.toList.any (Tryz.prog.loopsFrom ·))) = true := by kernel_rfl
theorem topClocksNamedJ22 : ((Rows.topClocksNamedRow.plainKeys == Tryz.prog.plainKeys)) = true := by kernel_rfl
theorem topClocksNamedJ23 : (Rows.topClocksNamedRow.shortTexts.isNone) = true := by kernel_rfl
theorem topClocksNamedJ26 : ((Rows.topClocksNamedRow.lifted == Tryz.prog.liftsFinal)) = true := by kernel_rfl
theorem topClocksNamedJ27 : ((Tryz.prog.make == some Rows.topClocksNamedRow.make)) = true := by kernel_rfl
theorem topClocksNamedJ28 : ((Rows.topClocksNamedRow.kinds == (if Rows.topClocksNamedRow.domain.isEmpty then [] else Tryz.f4.params.toList.map fun t => match Tryz.prog.underlying t with | some (.int k) => some k | _ => none))) = true := by kernel_rfl
theorem topClocksNamedJ29 : ((Rows.topClocksNamedRow.pinned == Rows.topClocksNamedRow.pinnedBy)) = true := by kernel_rfl
theorem topClocksNamedJ30 : ((Rows.topClocksNamedRow.veiled == (Tryz.f4.params.toList ++ Rows.topClocksNamedSpec.plain.varTypes Tryz.prog ++ Tryz.f4.resultTypes.toList).any (Tryz.prog.veiledRec ·))) = true := by kernel_rfl
theorem topClocksNamedJ31 : (Rows.topClocksNamedRow.veiledFits Tryz.prog Tryz.f4.params.toList (Tryz.f4.params.toList ++ Rows.topClocksNamedSpec.plain.varTypes Tryz.prog ++ Tryz.f4.resultTypes.toList)) = true := by kernel_rfl
set_option maxRecDepth 10000 in
theorem topClocksNamed_joined : joinedFacts Tryz.pinned.checked.prog 4 Tryz.f4 Rows.topClocksNamedSpec Rows.topClocksNamedRow = true := and2 (and2 (and2 (and2 (and2 (and2 (and2 (and2 (and2 (and2 (and2 (and2 (and2 (and2 (and2 (and2 (and2 (and2 (and2 (and2 (and2 (and2 (and2 (and2 (and2 (and2 (and2 (and2 (and2 (and2 (and2 (topClocksNamedJ0) laidOut) joinP2) topClocksNamedJ3) topClocksNamedJ4) topClocksNamedJ5) joinP6) topClocksNamedJ7) joinP8) topClocksNamedJ9) topClocksNamedJ10) topClocksNamedJ11) topClocksNamedJ12) topClocksNamedJ13) topClocksNamedJ14) topClocksNamedJ15) topClocksNamedJ16) topClocksNamedJ17) topClocksNamedJ18) topClocksNamedJ19) topClocksNamedJ20) topClocksNamedJ21) topClocksNamedJ22) topClocksNamedJ23) joinP24) joinP25) topClocksNamedJ26) topClocksNamedJ27) topClocksNamedJ28) topClocksNamedJ29) topClocksNamedJ30) topClocksNamedJ31
end Go.Proofs.YthcbchgdfldckaaGreatDoor
