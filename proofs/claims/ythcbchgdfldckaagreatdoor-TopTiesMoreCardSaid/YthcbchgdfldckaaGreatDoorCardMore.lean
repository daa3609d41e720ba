/- wracktop.TopTiesMore returns true for every input and leaves its arguments as they were: the row and its tied card. -/
import Derived.Test.YthcbchgdfldckaaGreatDoorCards
import Derived.Test.YthcbchgdfldckaaGreatDoorTy
import Derived.Test.YthcbchgdfldckaaGreatDoorRowMore
import Derived.Test.YthcbchgdfldckaaGreatDoorJoinTiesMore
import Derived.Test.YthcbchgdfldckaaGreatDoorCardP
import Derived.SevenTiedAt
import Derived.JoinedOf
namespace Go.Proofs.YthcbchgdfldckaaGreatDoor
open Go.ChangeShapes Go.WideShapes Go.ChangeAt Go.RowKit

theorem topTiesMore_wf : Rows.topTiesMoreRow.wfByText (OpenSpec.ofChange Rows.topTiesMoreSpec) = true := by kernel_rfl
theorem topTiesMore_at : Tryz.prog.funcNamed "wrackline/wracktop.TopTiesMore" = some 3 := by kernel_rfl
theorem topTiesMore_goes : false = Rows.topTiesMoreRow.goesBy Tryz.pinned.checked.prog := by
  show false = (Tryz.prog.goesFrom "wrackline/wracktop.TopTiesMore" || false)
  rw [Bool.or_false]
  exact goes_from _
theorem topTiesMore_inst : Tryz.f3.isInstance Tryz.pinned.checked.prog Rows.topTiesMoreRow.origin Rows.topTiesMoreRow.targs := of_decide_eq_true (by kernel_rfl)
theorem topTiesMore_wrap : Tryz.f3.isWrapper Tryz.pinned.checked.prog Rows.topTiesMoreRow.wrapper Rows.topTiesMoreRow.mainSum := by
  unfold Func.isWrapper; first | (rw [if_pos (by decide +kernel)]; kernel_rfl) | (rw [if_neg (by decide +kernel)]; exact ⟨rfl, rfl⟩)
theorem topTiesMore_holds : Rows.TopTiesMoreSaid :=
  OpenClaim.holds_of_wide 3 Tryz.f3 rfl rfl rfl rfl rfl rfl rfl ⟨rfl, rfl, rfl, rfl, rfl⟩ rfl rfl rfl rfl rfl topTiesMore_at Tryz.func3 topTiesMore_joined topTiesMore_inst topTiesMore_wrap
    (fun os started H enc _ => more_lifted os started H enc)
theorem topTiesMore_card : Rows.TopTiesMoreCardSaid :=
  Claim7.holds_tied_plain_at .later [] [.sentinel, .sentinel, .data, .data, .data, .pinned, .data] true (true, "17edc6c4c9b04487fceff9f615abff38739102ea19582065e41d28606b57a7ff") true topTiesMore_holds (fun _ h => by cases h) topTiesMore_wf (fun _ h => by cases h) topTiesMore_row_tieOwn rfl ⟨rfl, rfl⟩ card_main rfl
    (fun f fn hf hfn => by
      obtain rfl : f = 3 := Option.some.inj (topTiesMore_at.symm.trans hf) |>.symm
      obtain rfl : fn = Tryz.f3 := (Option.some.inj (Tryz.func3.symm.trans hfn)).symm
      exact ⟨card_looks, fun j t ht => by
        rw [Tryz.params3] at ht
        have hm : t ∈ [22, 23, 3, 3, 3] := by simpa using Array.mem_of_getElem? ht
        exact card_stands t (by simp only [List.mem_cons, List.mem_nil_iff, or_false] at hm; rcases hm with rfl | rfl | rfl | rfl | rfl <;> simp)⟩)
    topTiesMore_goes
#print axioms topTiesMore_holds
#print axioms topTiesMore_card
end Go.Proofs.YthcbchgdfldckaaGreatDoor
