/- Walks of ask.Run's closure. -/
import Derived.Test.YthcbchgdfldckaaGreatDoorAskH
import Derived.Deep.RegionHeldLaw
import Derived.Deep.DrawnRows
namespace Go.Proofs.YthcbchgdfldckaaGreatDoor
open Go.RowKit Go.Lib
attribute [local go_sem ↓] Go.wp_at_zero Go.wp_at_succ

theorem Tryz.info44' : (Tryz.prog.info? 44).map (fun i => (i.zero, i.size, i.bytes)) = some (some (.slice none 0 0), 1, 24) := by kernel_rfl
set_option maxHeartbeats 2000000 in
set_option maxRecDepth 100000 in
/-- The leaf: a whole row is added to the rows. -/
theorem run_leaf (rb rc qb ob lb fb b : Nat) (w : World) (hr : w.cell? ⟨rb, 0, none⟩ = some (.int .i64 0)) (hq : w.cell? ⟨qb, 0, none⟩ = some (.slice (some ⟨b, 0, none⟩) (1 : Nat) 1)) (ho : w.cell? ⟨ob, 0, none⟩ = some (.slice none 0 0)) (hof : w.frozen? ⟨ob, 0, none⟩ = false) (hob : ob < w.heap.size) :
    Calls Tryz.prog 38 #[.slice (some ⟨rb, 0, none⟩) (1 : Nat) rc, .pointer (some ⟨qb, 0, none⟩), .pointer (some ⟨ob, 0, none⟩), .pointer (some ⟨lb, 0, none⟩), .pointer (some ⟨fb, 0, none⟩)] w fun e w' => e = .returned (.tuple #[]) ∧ Below ob w w' ∧ ∃ g c, w'.cell? ⟨ob, 0, none⟩ = some (.slice (some ⟨g, 0, none⟩) (1 : Nat) c) := by
  go_enter Tryz.func38, Tryz.ntmps38
  go_wp2
  have hrd : w.drew.cell? ⟨rb, 0, none⟩ = some (.int .i64 0) := hr
  have hod : w.drew.cell? ⟨ob, 0, none⟩ = some (.slice none 0 0) := ho
  have hz : ∀ j, j < ([0] : List Int).length → w.drew.cell? ⟨rb, 0 + j, none⟩ = some (.int .i64 (([0] : List Int).getD j 0)) := by
    intro j hj
    have hj0 : j = 0 := by simpa using hj
    subst hj0
    exact hrd
  have hc := Tryz.slices_Clone_int rb 0 1 rc [0] w.drew (by simp) (by omega) hz
  have Hc := Lib.hid hc
  clear hc
  go_region_with (first | (go_at_call 39; refine Hc.out.mono ?_; rintro e w3 ⟨v, rfl, hown3, _, hb3⟩; obtain ⟨A3, c3, rfl⟩ := own_slice hown3; have hod3 := kept_below hb3 _ _ hod; have hof3 : w3.frozen? ⟨ob, 0, none⟩ = false := (hb3.frozen (p := ⟨ob, 0, none⟩) (by exact hob)).trans hof; have hob3 : ob < w3.heap.size := Nat.lt_of_lt_of_le hob hb3.size; have hne3 : ob ≠ w3.heap.size := by omega))
  all_goals first
    | (exfalso; rename_i hbad _; exact absurd hbad (by decide +kernel))
    | skip
  all_goals go_wp2
  all_goals (try simp only [Exit.inBlock, Exit.then])
  all_goals refine bodyPost_ret (results_none rfl _ _ _) rfl ?_
  all_goals
    have hbw : Below ob w w3 := (below_of_drew hb3).mono (Nat.le_of_lt hob)
    have hsw := hbw.size
    refine ⟨rfl, ?_, w3.heap.size + 1, (Question.appendCap 1 0 44).cut (w3.tape w3.drawn (Question.appendCap 1 0 44)), ?_⟩
    · refine Below.drew ?_
      refine Below.alloc ?_ (by simp <;> omega) _
      refine Below.alloc ?_ (by simp <;> omega) _
      exact hbw.setCell (by show ob ≤ ob; omega) _
    · rw [World.cell?_drew, World.cell?_alloc_old _ _ _ (by simp <;> omega), World.cell?_alloc_old _ _ _ (by simp <;> omega)]
      exact World.cell?_setCell_same _ _ _ hod3
end Go.Proofs.YthcbchgdfldckaaGreatDoor
