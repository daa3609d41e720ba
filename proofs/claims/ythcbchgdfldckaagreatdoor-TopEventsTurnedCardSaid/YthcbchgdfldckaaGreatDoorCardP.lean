/- Closed facts that the cards of this seat share. -/
import Derived.Test.YthcbchgdfldckaaGreatDoorCards
import Derived.Test.YthcbchgdfldckaaGreatDoorLaid
import Derived.SevenTiedAt
import GoSem.ClaimGoes
import Derived.JoinedOf
namespace Go.Proofs.YthcbchgdfldckaaGreatDoor
open Go
theorem card_main : Tryz.pinned.checked.prog.mainIs = some (true, "17edc6c4c9b04487fceff9f615abff38739102ea19582065e41d28606b57a7ff".toList) := by kernel_rfl
theorem card_looks : true = Tryz.pinned.checked.prog.looks [] := by kernel_rfl
theorem card_stand : ([22, 23, 3].all fun u => !Tryz.prog.wantsStandIn u) = true := by kernel_rfl
theorem card_stands (t : TypeId) (hm : t ∈ [22, 23, 3]) : Tryz.prog.wantsStandIn t = false := by simpa using List.all_eq_true.1 card_stand t hm
theorem no_goes : Tryz.prog.funcs.any Func.goes = false := by
  rw [← Array.any_toList]
  kernel_rfl
theorem goes_none (f : FuncId) : Tryz.prog.goes f = false := by
  unfold Program.goes
  rw [no_goes, Bool.and_false, Bool.or_false, List.any_eq_false]
  intro g _ h
  cases hg : Tryz.prog.funcs[g]? with
  | none => rw [hg] at h; cases h
  | some fn =>
    rw [hg] at h
    have := Array.any_eq_false.1 no_goes g (Array.getElem?_eq_some_iff.1 hg).1
    rw [(Array.getElem?_eq_some_iff.1 hg).2] at this
    exact this h
theorem goes_from (n : String) : false = Tryz.prog.goesFrom n := by
  unfold Program.goesFrom
  cases Tryz.prog.funcNamed n with
  | none => rfl
  | some f => rw [Option.any_some, goes_none]
end Go.Proofs.YthcbchgdfldckaaGreatDoor

/- The closed facts of the row of TopTiesMore: what concerns the program alone. -/
namespace Go.Proofs.YthcbchgdfldckaaGreatDoor
open Go
theorem and2 {a b : Bool} (h : a = true) (k : b = true) : (a && b) = true := by rw [h, k]; rfl
theorem joinP2 : (mapsRowed Tryz.prog) = true := by kernel_rfl
theorem joinP6 : ((Tryz.prog.stops == [])) = true := by kernel_rfl
theorem joinP8 : ((Tryz.prog.stopKnobs == [])) = true := by kernel_rfl
theorem joinP24 : (Tryz.prog.stopsHeard) = true := by kernel_rfl
theorem joinP25 : (Tryz.prog.mayEnter) = true := by kernel_rfl
end Go.Proofs.YthcbchgdfldckaaGreatDoor
