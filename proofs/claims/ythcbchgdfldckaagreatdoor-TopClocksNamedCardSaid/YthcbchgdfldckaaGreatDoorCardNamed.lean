/- wracktop.TopClocksNamed returns true for every input and leaves its arguments as they were: the row and its tied card. -/
import Derived.Test.YthcbchgdfldckaaGreatDoorCards
import Derived.Test.YthcbchgdfldckaaGreatDoorTy
import Derived.Test.YthcbchgdfldckaaGreatDoorRowNamed
import Derived.Test.YthcbchgdfldckaaGreatDoorJoinClocksNamed
import Derived.Test.YthcbchgdfldckaaGreatDoorCardP
import Derived.SevenTiedAt
import Derived.JoinedOf
namespace Go.Proofs.YthcbchgdfldckaaGreatDoor
open Go.ChangeShapes Go.WideShapes Go.ChangeAt Go.RowKit

theorem topClocksNamed_wf : Rows.topClocksNamedRow.wfByText (OpenSpec.ofChange Rows.topClocksNamedSpec) = true := by kernel_rfl
theorem topClocksNamed_at : Tryz.prog.funcNamed "wrackline/wracktop.TopClocksNamed" = some 4 := by kernel_rfl
theorem topClocksNamed_goes : false = Rows.topClocksNamedRow.goesBy Tryz.pinned.checked.prog := by
  show false = (Tryz.prog.goesFrom "wrackline/wracktop.TopClocksNamed" || false)
  rw [Bool.or_false]
  exact goes_from _
theorem topClocksNamed_inst : Tryz.f4.isInstance Tryz.pinned.checked.prog Rows.topClocksNamedRow.origin Rows.topClocksNamedRow.targs := of_decide_eq_true (by kernel_rfl)
theorem topClocksNamed_wrap : Tryz.f4.isWrapper Tryz.pinned.checked.prog Rows.topClocksNamedRow.wrapper Rows.topClocksNamedRow.mainSum := by
  unfold Func.isWrapper; first | (rw [if_pos (by decide +kernel)]; kernel_rfl) | (rw [if_neg (by decide +kernel)]; exact ⟨rfl, rfl⟩)
theorem topClocksNamed_holds : Rows.TopClocksNamedSaid :=
  OpenClaim.holds_of_wide 4 Tryz.f4 rfl rfl rfl rfl rfl rfl rfl ⟨rfl, rfl, rfl, rfl, rfl⟩ rfl rfl rfl rfl rfl topClocksNamed_at Tryz.func4 topClocksNamed_joined topClocksNamed_inst topClocksNamed_wrap
    (fun os started H enc _ => named_lifted os started H enc)
theorem topClocksNamed_card : Rows.TopClocksNamedCardSaid :=
  Claim7.holds_tied_plain_at .later [] [.sentinel, .sentinel, .data, .data, .data, .pinned, .data] true (true, "17edc6c4c9b04487fceff9f615abff38739102ea19582065e41d28606b57a7ff") true topClocksNamed_holds (fun _ h => by cases h) topClocksNamed_wf (fun _ h => by cases h) topClocksNamed_row_tieOwn rfl ⟨rfl, rfl⟩ card_main rfl
    (fun f fn hf hfn => by
      obtain rfl : f = 4 := Option.some.inj (topClocksNamed_at.symm.trans hf) |>.symm
      obtain rfl : fn = Tryz.f4 := (Option.some.inj (Tryz.func4.symm.trans hfn)).symm
      exact ⟨card_looks, fun j t ht => by
        rw [Tryz.params4] at ht
        have hm : t ∈ [22, 23, 3] := by simpa using Array.mem_of_getElem? ht
        exact card_stands t hm⟩)
    topClocksNamed_goes
#print axioms topClocksNamed_holds
#print axioms topClocksNamed_card
end Go.Proofs.YthcbchgdfldckaaGreatDoor
