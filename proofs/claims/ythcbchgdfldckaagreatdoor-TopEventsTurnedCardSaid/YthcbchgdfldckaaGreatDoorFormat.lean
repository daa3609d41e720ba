/- The walk of strconv.FormatUint at base 16: some string. -/
import Derived.Test.YthcbchgdfldckaaGreatDoorOwn
import Derived.Laws.BitsAllLaws
import Derived.Laws.BytesArg
namespace Go.Proofs.YthcbchgdfldckaaGreatDoor
open Go.RowKit

theorem and15 (u : Int) (h0 : 0 ≤ u) (h1 : u < 18446744073709551616) : 0 ≤ bits .and .u64 u 15 ∧ bits .and .u64 u 15 ≤ 15 := by
  rw [u64_and u 15 h0 h1 (by omega) (by omega)]
  have : u.toNat &&& (15 : Int).toNat ≤ 15 := Nat.and_le_right
  omega
set_option maxHeartbeats 1000000 in
set_option maxRecDepth 100000 in
theorem tz16 (w : World) (h : w.cell? ⟨3, 15, none⟩ = some (.int .u8 4)) :
    Calls Tryz.prog 219 #[.int .u64 16] w fun e w' => e = .returned (.int .i64 4) ∧ w' = w := by
  have e1 : bits BinOp.and IntKind.u64 16 (IntKind.u64.wrap (-16)) = 16 := by decide +kernel
  have e2 : IntKind.u64.wrap (16 * 285870213051353865) = 4573923408821661840 := by decide +kernel
  go_enter Tryz.func219, Tryz.ntmps219
  go_wp2
  go_ret
  exact ⟨rfl, rfl⟩
set_option maxRecDepth 100000 in
theorem pow16 (w : World) : Calls Tryz.prog 218 #[.int .i64 16] w fun e w' => e = .returned (.bool true) ∧ w' = w := by
  have e1 : bits BinOp.and IntKind.i64 16 15 = 0 := by decide +kernel
  go_enter Tryz.func218, Tryz.ntmps218
  go_wp2
  go_ret
  exact ⟨rfl, rfl⟩
/-- The block of 65 bytes. -/
def Arr65 (w : World) (g : Nat) : Prop := ∃ f : Nat → Int, ∀ j, j < 65 → w.cell? ⟨g, j, none⟩ = some (.int .u8 (f j)) ∧ w.frozen? ⟨g, j, none⟩ = false
theorem zeros65 : (Tryz.zeroCells304).toList = List.replicate 65 (.int .u8 0) := by kernel_rfl
theorem arr65_new (w : World) (t : TypeId) : Arr65 (w.alloc (.cells Tryz.zeroCells304 t)) w.heap.size := by
  refine ⟨fun _ => 0, fun j hj => ?_⟩
  refine ⟨?_, frozen_of_row _ _ j _ _ (heap_alloc_new _ _)⟩
  rw [cell_of_row _ _ j _ _ (0, 0) (heap_alloc_new _ _), ← Array.getElem?_toList, zeros65, List.getElem?_eq_getElem (by rw [List.length_replicate]; exact hj), List.getElem_replicate]
theorem Arr65.set {w : World} {g : Nat} (h : Arr65 w g) {i : Nat} (hi : i < 65) (v : Int) : Arr65 (w.setCell ⟨g, i, none⟩ (.int .u8 v)) g := by
  obtain ⟨f, hf⟩ := h
  refine ⟨fun j => if j = i then v else f j, fun j hj => ?_⟩
  obtain ⟨h1, h2⟩ := hf j hj
  refine ⟨?_, (World.frozen?_setCell w _ _ _).trans h2⟩
  by_cases hji : j = i
  · subst hji
    simp only [if_true]
    exact World.cell?_setCell_same _ _ _ h1
  · simp only [if_neg hji]
    rw [World.cell?_setCell_other _ _ _ _ (by intro h; simp only [Addr.mk.injEq] at h; omega)]
    exact h1
theorem slice65 (W : World) (g : Nat) (i : Int) (h0 : 0 ≤ i) (h1 : i < 65) : (Instr.sliceAt 304 (.pointer (some ⟨g, 0, none⟩)) (some (.int .i64 i)) none none).run Tryz.prog W = .ok (.slice (some ⟨g, i.toNat, none⟩) (65 - i.toNat : Nat) (65 - i.toNat)) W := by
  have hal : Tryz.prog.arrayLen 304 = 65 := by kernel_rfl
  have hel : Tryz.prog.elem 304 = 5 := by kernel_rfl
  have ht : Tryz.prog.underlying 304 = some (.array (Tryz.prog.arrayLen 304) (Tryz.prog.elem 304)) := by kernel_rfl
  have h := run_sliceAt_array_l (P := Tryz.prog) W 304 ⟨g, 0, none⟩ ht .i64 i h0 (by rw [hal]; omega)
  rw [h, hal, hel, Tryz.sizeOf5 W]
  simp only [Result.andThen, slicedAt]
  rw [if_neg (by omega), Go.WideShapes.add_plain]
  simp
theorem str65 (W : World) (g i c : Nat) (hi : i ≤ 65) (h : Arr65 W g) : ∃ s, (convert 48 9 (.slice (some ⟨g, i, none⟩) (65 - i : Nat) c)).run Tryz.prog W = .ok (.string s) W := by
  obtain ⟨f, hf⟩ := h
  refine ⟨_, run_convert_bytes_arg (P := Tryz.prog) W 48 5 Tryz.underlying48 Tryz.underlying5 g i (65 - i) c ((List.range (65 - i)).map fun k => f (i + k)) (by simp) (fun k hk => ?_) 9 Tryz.underlying9⟩
  rw [(hf (i + k) (by omega)).1]
  simp [List.getD_eq_getElem?_getD, hk]
set_option maxHeartbeats 2000000 in
set_option maxRecDepth 100000 in
theorem formatBits_any (h : Int) (w : World) (h0 : 0 ≤ h) (h1 : h < 18446744073709551616) (hz : w.cell? ⟨3, 15, none⟩ = some (.int .u8 4)) :
    Calls Tryz.prog 151 #[.slice none 0 0, .int .u64 h, .int .i64 16, .bool false, .bool false] w fun e w' => ∃ s : ByteArray, e = .returned (.tuple #[.slice none 0 0, .string s]) ∧ Below w.heap.size w w' := by
  go_enter Tryz.func151, Tryz.ntmps151
  go_wp2_with fail
  have hb0 : Below w.heap.size w (w.alloc (.cells Tryz.zeroCells304 304)) := (Below.refl _ _).alloc (Nat.le_refl _) _
  have ha0 := arr65_new w 304
  have hz0 := kept_below hb0 _ _ hz
  generalize w.alloc (.cells Tryz.zeroCells304 304) = W at *
  refine (pow16 _).mono ?_
  rintro e w1 ⟨rfl, rfl⟩
  go_wp2_with fail
  refine (tz16 _ hz0).mono ?_
  rintro e w2 ⟨rfl, rfl⟩
  go_wp2
  go_loopw [1, 13] (fun s1 s13 wr => ∃ (u : Int) (j : Nat), j ≤ 16 ∧ 1 ≤ j ∧ s1 = .int .u64 u ∧ s13 = .int .i64 (49 + j : Nat) ∧ 0 ≤ u ∧ u < 18446744073709551616 ∧ u < (16 : Int) ^ j ∧ Arr65 wr w.heap.size ∧ Below w.heap.size w wr) (fun _ s13 _ => (intOf s13).toNat)
  case atStart => exact ⟨h, 16, by omega, by omega, rfl, rfl, h0, h1, by omega, ha0, hb0⟩
  case round =>
    obtain ⟨u, j, hj, hj1, rfl, rfl, hu0, hu1, huj, har, hb⟩ := hrel
    obtain ⟨a0, a1⟩ := and15 u hu0 hu1
    by_cases hu : 16 ≤ u
    · obtain ⟨k, rfl⟩ : ∃ k, j = k + 1 := ⟨j - 1, by omega⟩
      have hk : 1 ≤ k := by
        rcases Nat.eq_zero_or_pos k with rfl | h
        · simp at huj; omega
        · exact h
      have huk : u / 16 < (16 : Int) ^ k := by
        rw [Int.pow_succ] at huj
        omega
      have Huk := Lib.hid huk
      clear huk huj
      obtain ⟨f, hf⟩ := har
      obtain ⟨c1, c2⟩ := hf (49 + k) (by omega)
      have Har := Lib.hid (show Arr65 wr w.heap.size from ⟨f, hf⟩)
      clear hf
      go_wp2
      refine ⟨⟨_, k, by omega, hk, rfl, by go_num, by omega, by omega, Huk.out, Har.out.set (by omega) _, hb.setCell (by show w.heap.size ≤ w.heap.size; omega) _⟩, by simp [intOf]; omega⟩
    · obtain ⟨f, hf⟩ := har
      obtain ⟨c1, c2⟩ := hf (48 + j) (by omega)
      have Har := Lib.hid (show Arr65 wr w.heap.size from ⟨f, hf⟩)
      clear hf
      have hsl := fun W => slice65 W w.heap.size (49 + j - 1) (by omega) (by omega)
      have e1 : (49 + (j : Int) - 1).toNat = 48 + j := by omega
      go_wp2
      clear hsl
      obtain ⟨s, hs⟩ := str65 _ w.heap.size (48 + j) (65 - (48 + j)) (by omega) (Har.out.set (i := 48 + j) (by omega) _)
      rw [hs]
      go_wp2
      go_ret2
      exact ⟨s, rfl, hb.setCell (by show w.heap.size ≤ w.heap.size; omega) _⟩
set_option maxHeartbeats 1000000 in
set_option maxRecDepth 100000 in
theorem formatUint_any (h : Int) (w : World) (h0 : 0 ≤ h) (h1 : h < 18446744073709551616) (hz : w.cell? ⟨3, 15, none⟩ = some (.int .u8 4)) :
    Calls Tryz.prog 56 #[.int .u64 h, .int .i64 16] w fun e w' => ∃ s : ByteArray, e = .returned (.string s) ∧ Below w.heap.size w w' := by
  have hc := formatBits_any h w h0 h1 hz
  have Hc := Lib.hid hc
  clear hc
  go_enter Tryz.func56, Tryz.ntmps56
  go_wp2_with (first | (go_at_call 89; go_in))
  go_wp2_with fail
  refine Hc.out.mono ?_
  rintro e w' ⟨s, rfl, hb⟩
  go_wp2
  go_ret
  exact ⟨s, rfl, hb⟩
end Go.Proofs.YthcbchgdfldckaaGreatDoor
