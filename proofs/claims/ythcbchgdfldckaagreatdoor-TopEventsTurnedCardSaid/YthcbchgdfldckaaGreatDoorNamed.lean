/- The walk of fs.Named. -/
import Derived.Test.YthcbchgdfldckaaGreatDoorEv
import Derived.Test.YthcbchgdfldckaaGreatDoorLaws
namespace Go.Proofs.YthcbchgdfldckaaGreatDoor
open Go.RowKit

theorem size_list (s : ByteArray) : s.data.toList.length = s.size := by rw [Array.length_toList]; rfl
theorem list_at (s : ByteArray) (k : Nat) (h : k < s.size) : s.data.toList[k]? = some s[k] := by
  rw [List.getElem?_eq_getElem (by rw [size_list]; exact h)]
  rfl
theorem isName_nil {s : ByteArray} (h : s.toList = []) : isName s.data.toList = false := by
  rw [ByteArray.toList_eq] at h; rw [h]; rfl
theorem isName_long {s : ByteArray} (h : 12 < (s.size : Int)) : isName s.data.toList = false := by
  unfold isName
  split
  · rfl
  · next c r e =>
    have := size_list s
    rw [e] at this
    have h2 : decide ((c :: r).length ≤ 12) = false := by rw [decide_eq_false_iff_not]; omega
    rw [h2]; rfl
theorem isName_first {s : ByteArray} (h0 : 0 < s.size) (h : (s[0].toNat : Int) < 97 ∨ 122 < (s[0].toNat : Int)) : isName s.data.toList = false := by
  have h1 := list_at s 0 h0
  unfold isName
  split
  · rfl
  · next c r e =>
    rw [e] at h1
    have hc : c = s[0] := by simpa using h1
    subst hc
    have h2 : ((97 : UInt8) ≤ s[0] && s[0] ≤ (122 : UInt8)) = false := by
      rw [Bool.and_eq_false_iff]; simp only [decide_eq_false_iff_not, UInt8.le_iff_toNat_le]
      rcases h with h | h
      · left; show ¬ (97 : UInt8).toNat ≤ _; have : (97 : UInt8).toNat = 97 := rfl; omega
      · right; have : (122 : UInt8).toNat = 122 := rfl; omega
    rw [h2]; simp
def nameAt (s : ByteArray) (k : Nat) : Bool := match s.data.toList[k]? with
  | some c => nameByte c
  | none => true
theorem isName_not {s : ByteArray} {k : Nat} (hk : k < s.size) (h : nameByte s[k] = false) : isName s.data.toList = false := by
  have h1 := list_at s k hk
  unfold isName
  split
  · rfl
  · next c r e =>
    rw [e] at h1
    cases k with
    | zero =>
      have hc : c = s[0] := by simpa using h1
      subst hc
      have h2 : ((97 : UInt8) ≤ s[0] && s[0] ≤ (122 : UInt8)) = false := by
        unfold nameByte at h
        simp only [Bool.or_eq_false_iff] at h
        exact h.1.1
      rw [h2]; simp
    | succ k =>
      have : r.all nameByte = false := by
        rw [List.all_eq_false]
        exact ⟨s[k+1], List.mem_of_getElem? (by simpa using h1), by simp [h]⟩
      rw [this]; simp
theorem isName_yes {s : ByteArray} (h0 : 0 < s.size) (hl : (s.size : Int) ≤ 12) (h1 : 97 ≤ (s[0].toNat : Int)) (h2 : (s[0].toNat : Int) ≤ 122) (h : ∀ j (hj : j < s.size), nameByte s[j] = true) : isName s.data.toList = true := by
  have e0 := list_at s 0 h0
  unfold isName
  split
  · next e => rw [e] at e0; simp at e0
  · next c r e =>
    have hsz := size_list s
    rw [e] at e0 hsz
    have hc : c = s[0] := by simpa using e0
    have hr : r.all nameByte = true := by
      rw [List.all_eq_true]
      intro x hx
      obtain ⟨j, hj, hx⟩ := List.mem_iff_getElem.1 hx
      have hj1 : j + 1 < s.size := by rw [← hsz]; simp; omega
      have e1 := list_at s (j + 1) hj1
      rw [e] at e1
      have : x = s[j + 1] := by
        have e2 : (c :: r)[j + 1]? = some x := by rw [List.getElem?_cons_succ, List.getElem?_eq_getElem hj, hx]
        rw [e2] at e1; exact Option.some.inj e1
      rw [this]; exact h (j + 1) hj1
    subst hc
    have hlen : (s[0] :: r).length ≤ 12 := by omega
    have a1 : ((97 : UInt8) ≤ s[0] && s[0] ≤ (122 : UInt8)) = true := by
      rw [Bool.and_eq_true]; simp only [decide_eq_true_eq, UInt8.le_iff_toNat_le]
      exact ⟨by show (97 : UInt8).toNat ≤ _; have : (97 : UInt8).toNat = 97 := rfl; omega, by have : (122 : UInt8).toNat = 122 := rfl; omega⟩
    rw [hr, a1]; simp only [hlen]; simp
theorem nameByte_num (c : UInt8) : nameByte c = decide ((97 ≤ (c.toNat : Int) ∧ (c.toNat : Int) ≤ 122) ∨ (48 ≤ (c.toNat : Int) ∧ (c.toNat : Int) ≤ 57) ∨ (c.toNat : Int) = 45) := by
  unfold nameByte
  rw [Bool.eq_iff_iff]
  simp only [Bool.or_eq_true, Bool.and_eq_true, decide_eq_true_eq, UInt8.le_iff_toNat_le, beq_iff_eq, ← UInt8.toNat_inj]
  have e1 : (97 : UInt8).toNat = 97 := rfl
  have e2 : (122 : UInt8).toNat = 122 := rfl
  have e3 : (48 : UInt8).toNat = 48 := rfl
  have e4 : (57 : UInt8).toNat = 57 := rfl
  have e5 : (45 : UInt8).toNat = 45 := rfl
  omega

set_option maxHeartbeats 1000000 in
set_option maxRecDepth 100000 in
theorem named_any (s : ByteArray) (w : World) (hs : s.size ≤ 140737488351232) :
    Calls Tryz.prog 58 #[.string s] w fun e w' => e = .returned (.bool (isName s.data.toList)) ∧ w' = w := by
  by_cases h0 : s.toList = []
  · have hn := isName_nil h0
    have Hn := Lib.hid hn
    clear hn
    go_enter Tryz.func58, Tryz.ntmps58
    go_wp2
    go_ret
    exact ⟨by rw [Hn.out]; rfl, rfl⟩
  · have hpos : 0 < s.size := by
      rcases Nat.eq_zero_or_pos s.size with h | h
      · exact absurd (by rw [ByteArray.toList_eq]; exact List.eq_nil_of_length_eq_zero (by rw [size_list]; exact h)) h0
      · exact h
    have hemp : s.toList.isEmpty = false := by simpa using h0
    by_cases h12 : 12 < (s.size : Int)
    · have Hn := Lib.hid (isName_long h12)
      go_enter Tryz.func58, Tryz.ntmps58
      go_wp2
      go_ret
      exact ⟨by rw [Hn.out]; rfl, rfl⟩
    · by_cases h97 : (s[0].toNat : Int) < 97 ∨ 122 < (s[0].toNat : Int)
      · have Hn := Lib.hid (isName_first hpos h97)
        rcases h97 with h97 | h97
        all_goals
          go_enter Tryz.func58, Tryz.ntmps58
          go_wp2
          go_ret
          exact ⟨by rw [Hn.out]; rfl, rfl⟩
      · have h97a : 97 ≤ (s[0].toNat : Int) := by omega
        have h97b : (s[0].toNat : Int) ≤ 122 := by omega
        have Hyes := Lib.hid (isName_yes hpos (by omega) h97a h97b)
        have Hnot := Lib.hid (fun k hk h => isName_not (s := s) (k := k) hk h)
        clear h97
        go_enter Tryz.func58, Tryz.ntmps58
        go_wp2
        clear h97a h97b
        go_loop [24] (fun i => ∃ k : Nat, k ≤ s.size ∧ i = .int .i64 k ∧ Hid (∀ j (hj : j < s.size), j < k → nameByte s[j] = true)) (fun i => s.size - (intOf i).toNat)
        case atStart => exact ⟨0, Nat.zero_le _, rfl, fun j hj h => absurd h (Nat.not_lt_zero _)⟩
        case round =>
          obtain ⟨k, hk, rfl, hall⟩ := hrel
          by_cases hlt : k < s.size
          · have Hb := Lib.hid (nameByte_num s[k])
            have hnext : Hid (nameByte s[k] = true → ∀ j (hj : j < s.size), j < k + 1 → nameByte s[j] = true) := fun hb j hj h => by
              rcases Nat.lt_or_ge j k with h | h
              · exact hall.out j hj h
              · obtain rfl : j = k := by omega
                exact hb
            have Hno := Lib.hid (Hnot.out k hlt)
            by_cases h45 : (s[k].toNat : Int) = 45
            · have Hy := Lib.hid (hnext.out (by rw [Hb.out, decide_eq_true_eq]; omega))
              have b45 : ((s[k].toNat : Int) != 45) = false := by simp [h45]
              clear h45
              go_wp2
              all_goals refine ⟨⟨k + 1, by omega, by go_num, Hy.out⟩, by simp [intOf]; omega⟩
            · have b45 : ((s[k].toNat : Int) != 45) = true := by simp [h45]
              go_wp2
              all_goals first
                | (refine ⟨⟨k + 1, by omega, by go_num, hnext.out (by rw [Hb.out, decide_eq_true_eq]; omega)⟩, by simp [intOf]; omega⟩)
                | (go_ret; exact ⟨by rw [Hno.out (by rw [Hb.out, decide_eq_false_iff_not]; omega)]; rfl, rfl⟩)
          · go_wp2
            go_ret
            exact ⟨by rw [Hyes.out (fun j hj => hall.out j hj (by omega))]; rfl, rfl⟩
end Go.Proofs.YthcbchgdfldckaaGreatDoor
