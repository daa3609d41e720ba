/- slices.BinarySearch among the clocks' names. -/
import Derived.Test.YthcbchgdfldckaaGreatDoorClocks
import Derived.Test.YthcbchgdfldckaaGreatDoorCons
import Derived.Sort.Walk0
namespace Go.Proofs.YthcbchgdfldckaaGreatDoor
open Go.RowKit

theorem search_spec (N : List Nm) (hN : N.Pairwise (· < ·)) (c : ByteArray) (hc : c.data.toList ∈ N) :
    Lib.bsGo (fun t => Op.bytesLess ((fun j => if j < N.length then (⟨(N.getD j []).toArray⟩ : ByteArray) else c) t).toList c.toList) N.length 0 N.length = N.idxOf c.data.toList := by
  have hlt := List.idxOf_lt_length_of_mem hc
  have hget : N.getD (N.idxOf c.data.toList) [] = c.data.toList := by
    rw [List.getD_eq_getElem?_getD, List.getElem?_eq_getElem hlt]
    simp
  have tl : ∀ l : Nm, (⟨l.toArray⟩ : ByteArray).toList = l := fun l => by rw [ByteArray.toList_eq]
  have cl : c.toList = c.data.toList := ByteArray.toList_eq c
  have ge : ∀ i j, i < N.length → j < N.length → i < j → N.getD i [] < N.getD j [] := fun i j hi hj h => by
    have := List.pairwise_iff_getElem.1 hN i j hi hj h
    rw [List.getD_eq_getElem?_getD, List.getD_eq_getElem?_getD, List.getElem?_eq_getElem hi, List.getElem?_eq_getElem hj]
    exact this
  refine Lib.bsGo_spec _ (N.idxOf c.data.toList) (fun t ht => ?_) (fun t ht => ?_) _ _ _ (by omega) (Nat.zero_le _) (by omega)
  · simp only
    rw [if_pos (by omega), tl, cl, bytesLess_eq, decide_eq_true_eq]
    have := ge t _ (by omega) hlt ht
    rw [hget] at this
    exact this
  · simp only
    split
    · next hn =>
      rw [tl, cl, bytesLess_eq, decide_eq_false_iff_not]
      intro h
      rcases Nat.lt_or_eq_of_le ht with h1 | h1
      · have := ge _ t hlt hn h1
        rw [hget] at this
        exact List.lt_irrefl _ (Std.lt_trans this h)
      · subst h1
        rw [hget] at h
        exact List.lt_irrefl _ h
    · rw [cl, bytesLess_eq, decide_eq_false_iff_not]
      exact List.lt_irrefl _

/-- slices.BinarySearch of a clock among the names. -/
theorem search_any (l : List Ev) (c : ByteArray) (hc : c.data.toList ∈ names l) (g cp : Nat) (w : World) (hl : l.length ≤ 1000) (hcells : ∀ j, j < (names l).length → w.cell? ⟨g, 0 + j, none⟩ = some (encStr ((names l).getD j []))) :
    Calls Tryz.prog 94 #[.slice (some ⟨g, 0, none⟩) (names l).length cp, .string c] w fun e w' => e = .returned (.tuple #[.int .i64 (pos l c.data.toList : Nat), .bool true]) ∧ ∃ q, w' = w.drewN q := by
  have hnl := names_length l
  have h := Tryz.slices_BinarySearch_string g 0 (names l).length cp (fun j => if j < (names l).length then (⟨((names l).getD j []).toArray⟩ : ByteArray) else c) c w (by omega) (fun j hj => by rw [if_pos hj]; exact hcells j hj)
  rw [search_spec _ (names_pw l) c hc] at h
  have hlt := pos_lt hc
  refine h.mono fun e w' ⟨he, hw⟩ => ⟨?_, hw⟩
  rw [he]
  have hd : decide (pos l c.data.toList < (names l).length ∧ (if pos l c.data.toList < (names l).length then (⟨((names l).getD (pos l c.data.toList) []).toArray⟩ : ByteArray) else c) = c) = true := by
    rw [decide_eq_true_eq, if_pos hlt]
    refine ⟨hlt, ?_⟩
    rw [List.getD_eq_getElem?_getD, pos_get hc]
    simp
  show Ending.returned (.tuple #[.int .i64 (pos l c.data.toList : Nat), .bool (decide (pos l c.data.toList < (names l).length ∧ (if pos l c.data.toList < (names l).length then (⟨((names l).getD (pos l c.data.toList) []).toArray⟩ : ByteArray) else c) = c))]) = _
  rw [hd]
end Go.Proofs.YthcbchgdfldckaaGreatDoor
