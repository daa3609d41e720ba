/- The walk of wrackref4's Word. -/
import Derived.Test.YthcbchgdfldckaaGreatDoorNamed
import Derived.Test.YthcbchgdfldckaaGreatDoorOwn
import Derived.Lib.ConvBytes
namespace Go.Proofs.YthcbchgdfldckaaGreatDoor
open Go.RowKit Go.Lib

theorem below_bytes (w : World) (e : TypeId) (s : ByteArray) : Below w.heap.size w (Lib.bytesWorld w e s) := by
  refine ⟨rfl, rfl, rfl, by rw [Lib.bytesWorld_size]; omega, fun k hk => Lib.bytesWorld_at_old w e s k hk⟩
set_option maxHeartbeats 1000000 in
set_option maxRecDepth 100000 in
theorem word_any (s : ByteArray) (w : World) (hs : s.size ≤ 140737488351232) :
    Calls Tryz.prog 25 #[.string s] w fun e w' => e = .returned (.bool (isName s.data.toList)) ∧ Below w.heap.size w w' := by
  have hconv := Lib.run_convert_string_bytes (P := Tryz.prog) w 9 48 5 s Tryz.underlying9 Tryz.underlying48 Tryz.underlying5
  have hcell := fun j hj => Lib.bytesWorld_cell w 5 s j hj
  have hbel : Below w.heap.size w (Lib.bytesWorld w 5 s) := below_bytes w 5 s
  generalize Lib.bytesWorld w 5 s = W at *
  generalize grownCap w s.size 0 5 = cp at *
  have Hyes := Lib.hid (fun hpos hl => isName_yes (s := s) hpos hl)
  have Hnot := Lib.hid (fun k hk h => isName_not (s := s) (k := k) hk h)
  go_enter Tryz.func25, Tryz.ntmps25
  go_wp2
  go_loop [8] (fun i => ∃ k : Nat, k ≤ s.size ∧ i = .int .i64 k ∧ Hid (∀ j (hj : j < s.size), j < k → nameByte s[j] = true) ∧ Hid (∀ h : 0 < s.size, 0 < k → 97 ≤ (s[0].toNat : Int) ∧ (s[0].toNat : Int) ≤ 122)) (fun i => s.size - (intOf i).toNat)
  case atStart => exact ⟨0, Nat.zero_le _, rfl, fun j hj h => absurd h (Nat.not_lt_zero _), fun _ h => absurd h (Nat.not_lt_zero _)⟩
  case round =>
    obtain ⟨k, hk, rfl, hall, hfirst⟩ := hrel
    by_cases hlt : k < s.size
    · have Hb : Hid (nameByte s[k] = decide ((97 ≤ (s.data[k].toNat : Int) ∧ (s.data[k].toNat : Int) ≤ 122) ∨ (48 ≤ (s.data[k].toNat : Int) ∧ (s.data[k].toNat : Int) ≤ 57) ∨ (s.data[k].toNat : Int) = 45)) := nameByte_num s[k]
      have hck := hcell k hlt
      rw [show s.data.toList.getD k 0 = s[k] by rw [List.getD_eq_getElem?_getD, list_at s k hlt]; rfl] at hck
      have hnext : Hid (nameByte s[k] = true → ∀ j (hj : j < s.size), j < k + 1 → nameByte s[j] = true) := fun hb j hj h => by
        rcases Nat.lt_or_ge j k with h | h
        · exact hall.out j hj h
        · obtain rfl : j = k := by omega
          exact hb
      have Hno := Lib.hid (Hnot.out k hlt)
      have hf1 : Hid ((97 ≤ (s.data[k].toNat : Int) ∧ (s.data[k].toNat : Int) ≤ 122) ∨ 0 < k → ∀ h : 0 < s.size, 0 < k + 1 → 97 ≤ (s[0].toNat : Int) ∧ (s[0].toNat : Int) ≤ 122) := fun hc h _ => by
        rcases Nat.eq_zero_or_pos k with h0 | h0
        · subst h0
          rcases hc with hc | hc
          · exact hc
          · omega
        · exact hfirst.out h h0
      have Hf0 : Hid (k = 0 → ((s.data[k].toNat : Int) < 97 ∨ 122 < (s.data[k].toNat : Int)) → isName s.data.toList = false) := fun h0 hc => by
        subst h0
        exact isName_first hlt hc
      by_cases h45 : (s.data[k].toNat : Int) = 45
      · have b45 : ((s.data[k].toNat : Int) == 45) = true := by simp [h45]
        have b46 : Hid ((s.data[k].toNat : Int) = 45) := h45
        clear h45
        go_wp2
        all_goals first
          | (refine ⟨⟨k + 1, by omega, by go_num, hnext.out (by rw [Hb.out, decide_eq_true_eq]; have := b46.out; omega), hf1.out (by have := b46.out; omega)⟩, by simp [intOf]; omega⟩)
          | (go_ret; exact ⟨by rw [Hf0.out (by omega) (by have := b46.out; omega)]; rfl, hbel⟩)
      · have b45 : ((s.data[k].toNat : Int) == 45) = false := by simp [h45]
        have b46 : Hid (¬ (s.data[k].toNat : Int) = 45) := h45
        clear h45
        go_wp2
        all_goals first
          | (refine ⟨⟨k + 1, by omega, by go_num, hnext.out (by rw [Hb.out, decide_eq_true_eq]; have := b46.out; omega), hf1.out (by omega)⟩, by simp [intOf]; omega⟩)
          | (go_ret; exact ⟨by rw [Hf0.out (by omega) (by omega)]; rfl, hbel⟩)
          | (go_ret; exact ⟨by rw [Hno.out (by rw [Hb.out, decide_eq_false_iff_not]; have := b46.out; omega)]; rfl, hbel⟩)
    · obtain rfl : s.size = k := by omega
      clear hcell
      by_cases h0 : s.toList = []
      · have Hn := Lib.hid (isName_nil h0)
        have hz : s.size = 0 := by rw [← size_list, ← ByteArray.toList_eq, h0]; rfl
        clear h0
        go_wp2
        go_ret
        exact ⟨by rw [Hn.out]; rfl, hbel⟩
      · have hpos : 0 < s.size := by
          rcases Nat.eq_zero_or_pos s.size with h | h
          · exact absurd (by rw [ByteArray.toList_eq]; exact List.eq_nil_of_length_eq_zero (by rw [size_list]; exact h)) h0
          · exact h
        clear h0
        by_cases h12 : 12 < (s.size : Int)
        · have Hn := Lib.hid (isName_long h12)
          have hle : ¬ (s.size : Int) ≤ 12 := by omega
          go_wp2
          go_ret
          refine ⟨?_, hbel⟩
          rw [Hn.out]
          rfl
        · obtain ⟨f1, f2⟩ := hfirst.out hpos hpos
          have Hn := Lib.hid (Hyes.out hpos (by omega) f1 f2 (fun j hj => hall.out j hj hj))
          clear f1 f2
          have hle : (s.size : Int) ≤ 12 := by omega
          go_wp2
          go_ret
          refine ⟨?_, hbel⟩
          rw [Hn.out]
          rfl
end Go.Proofs.YthcbchgdfldckaaGreatDoor
