/- The walk of wrackmake.Below. -/
import Derived.Test.YthcbchgdfldckaaGreatDoorOwn
namespace Go.Proofs.YthcbchgdfldckaaGreatDoor
open Go.RowKit

theorem tmod_neg (x n : Int) (hn : 0 < n) (hx : x < 0) : (x.tmod n < 0 → x.tmod n + n = x % n) ∧ (¬ x.tmod n < 0 → x.tmod n = x % n) ∧ -n < x.tmod n := by
  obtain ⟨y, rfl⟩ : ∃ y, x = -y := ⟨-x, by omega⟩
  rw [Int.neg_tmod, Int.tmod_eq_emod_of_nonneg (by omega)]
  have h1 := Int.emod_nonneg y (by omega : n ≠ 0)
  have h2 := Int.emod_lt_of_pos y hn
  have h3 := Int.emod_add_mul_ediv y n
  generalize hr : y % n = r at *
  generalize y / n = q at *
  have hz : n * (-q - 1) = -(n * q) - n := by rw [Int.mul_sub, Int.mul_neg, Int.mul_one]
  have e : -y = (n - r) + n * (-q - 1) := by omega
  have e2 : (-y) % n = (n - r) % n := by rw [e, Int.add_mul_emod_self_left]
  rw [e2]
  by_cases h0 : r = 0
  · subst h0
    rw [Int.sub_zero, Int.emod_self]
    exact ⟨fun h => by omega, fun _ => by omega, by omega⟩
  · rw [Int.emod_eq_of_lt (by omega) (by omega)]
    omega
theorem tmod_pos (x n : Int) (hx : 0 ≤ x) : x.tmod n = x % n := Int.tmod_eq_emod_of_nonneg hx
set_option maxRecDepth 100000 in
theorem below_any (x n : Int) (w : World) (hx : -9223372036854775808 ≤ x ∧ x ≤ 9223372036854775807) (hn : 0 < n) (hn2 : n ≤ 4611686018427387904) :
    Calls Tryz.prog 8 #[.int .i64 x, .int .i64 n] w fun e w' => e = .returned (.int .i64 (x % n)) ∧ w' = w := by
  obtain ⟨h1, h2⟩ := hx
  by_cases h0 : 0 ≤ x
  · have h4 := Int.emod_nonneg x (by omega : n ≠ 0)
    have h5 := Int.emod_lt_of_pos x hn
    have h6 : ¬ x % n < 0 := by omega
    go_enter Tryz.func8, Tryz.ntmps8
    go_wp2
    go_ret
    exact ⟨rfl, rfl⟩
  · obtain ⟨h3, h4, h5⟩ := tmod_neg x n hn (by omega)
    have h6 := Int.tmod_lt_of_pos x hn
    have H3 := Lib.hid h3
    have H4 := Lib.hid h4
    clear h3 h4
    by_cases h7 : x.tmod n < 0
    · go_enter Tryz.func8, Tryz.ntmps8
      go_wp2
      go_ret
      exact ⟨by rw [← H3.out h7]; rfl, rfl⟩
    · go_enter Tryz.func8, Tryz.ntmps8
      go_wp2
      go_ret
      exact ⟨by rw [← H4.out h7]; rfl, rfl⟩
end Go.Proofs.YthcbchgdfldckaaGreatDoor
