/- Walks of package docket that the concrete run needs. -/
import Derived.Test.YthcbchgdfldckaaGreatDoorReport2
import Derived.Test.YthcbchgdfldckaaGreatDoorFormat
namespace Go.Proofs.YthcbchgdfldckaaGreatDoor
open Go.RowKit Go.Lib
attribute [local go_sem ↓] Go.wp_at_zero Go.wp_at_succ

set_option maxRecDepth 100000 in
theorem itoa64 (w : World) : Calls Tryz.prog 55 #[.int .i64 64] w fun e w' => ∃ s, e = .returned (.string s) ∧ w' = w := by
  go_enter Tryz.func55, Tryz.ntmps55
  go_wp2_with (first | (go_at_call 88; go_in) | (go_at_call 147; go_in) | (go_at_call 148; go_in))
  go_wp2
  go_ret
  exact ⟨_, rfl, rfl⟩
set_option maxHeartbeats 1000000 in
set_option maxRecDepth 100000 in
theorem store_new (b n c : Nat) (f : Nat → Int) (w : World) (hc : ∀ i, i < n → w.cell? ⟨b, i, none⟩ = some (.int .u8 (f i))) (hn : n ≤ 65536) (h0 : 0 < n) :
    Calls Tryz.prog 52 #[.slice (some ⟨b, 0, none⟩) n c] w fun e w' => ∃ S, e = .returned (.tuple #[.pointer (some ⟨S, 0, none⟩), .int .i64 0]) ∧ Below w.heap.size w w' := by
  go_enter Tryz.func52, Tryz.ntmps52
  go_wp2_with fail
  refine (of_any b n c f w hc hn h0).mono ?_
  rintro e w2 ⟨B, rfl, hi2, hb2⟩
  go_wp2
  go_ret2
  exact ⟨_, rfl, hb2.alloc hb2.size _⟩
set_option maxHeartbeats 1000000 in
set_option maxRecDepth 100000 in
theorem at_none (d : Nat) (s : ByteArray) (w : World) (h : w.cell? ⟨d, 0, none⟩ = some (.slice none 0 0)) :
    Calls Tryz.prog 50 #[.pointer (some ⟨d, 0, none⟩), .string s] w fun e w' => e = .returned (.int .i64 (-1)) ∧ Below w.heap.size w w' := by
  have hd := World.block_lt_of_cell? w _ h
  have hne : d ≠ w.heap.size := Nat.ne_of_lt hd
  go_enter Tryz.func50, Tryz.ntmps50
  go_wp2_with (first | (go_at_call 86; go_in))
  go_wp2
  go_loop [8] (fun s => s = .int .i64 0) (fun _ => 0)
  case atStart => rfl
  case round =>
    subst hrel
    go_wp2
    go_ret
    exact ⟨rfl, (Below.refl _ _).alloc (Nat.le_refl _) _⟩
set_option maxRecDepth 100000 in
theorem full_none (d : Nat) (w : World) (h : w.cell? ⟨d, 3, none⟩ = some (.slice none 0 0)) :
    Calls Tryz.prog 51 #[.pointer (some ⟨d, 0, none⟩)] w fun e w' => e = .returned (.bool false) ∧ w' = w := by
  go_enter Tryz.func51, Tryz.ntmps51
  go_wp2
  go_ret
  exact ⟨rfl, rfl⟩
set_option maxHeartbeats 1000000 in
set_option maxRecDepth 100000 in
theorem log_any (d : Nat) (s : ByteArray) (A : Option Addr) (n c : Nat) (w : World) (h : w.cell? ⟨d, 3, none⟩ = some (.slice none 0 0)) (hf : w.frozen? ⟨d, 3, none⟩ = false) :
    Calls Tryz.prog 54 #[.pointer (some ⟨d, 0, none⟩), .string s, .slice A n c] w fun e w' => e = .returned (.tuple #[]) ∧ Below d w w' := by
  have hd := World.block_lt_of_cell? w _ h
  have hne : d ≠ w.heap.size := Nat.ne_of_lt hd
  have hne2 : d ≠ w.heap.size + 1 := by have : d < w.heap.size := hd; omega
  go_enter Tryz.func54, Tryz.ntmps54
  go_wp2
  go_end0
  refine ⟨rfl, Below.drew ?_⟩
  refine Below.alloc ?_ (by simp; omega) _
  refine Below.alloc ?_ (by simp; omega) _
  exact (Below.refl _ _).setCell (by show d ≤ d; omega) _
theorem dock_after (w5 w1 : World) (d : Nat) (v : Value) (o1 o2 : Obj) (hb : Below d w1 w5) (hd : d < w5.heap.size) (h3 : w5.cell? ⟨d, 3, none⟩ = some (.slice none 0 0)) (f3 : w5.frozen? ⟨d, 3, none⟩ = false) :
    Below d w1 (((w5.setCell ⟨d, 0, none⟩ v).alloc o1).alloc o2).drew ∧ (((w5.setCell ⟨d, 0, none⟩ v).alloc o1).alloc o2).drew.cell? ⟨d, 3, none⟩ = some (.slice none 0 0) ∧ (((w5.setCell ⟨d, 0, none⟩ v).alloc o1).alloc o2).drew.frozen? ⟨d, 3, none⟩ = false := by
  have e1 : d ≠ w5.heap.size := Nat.ne_of_lt hd
  have e2 : d ≠ w5.heap.size + 1 := Nat.ne_of_lt (Nat.lt_succ_of_lt hd)
  have hb1 := hb.setCell (p := ⟨d, 0, none⟩) (Nat.le_refl d) v
  have hs1 : (w5.setCell ⟨d, 0, none⟩ v).heap.size = w5.heap.size := by simp
  have hb2 := hb1.alloc (by rw [hs1]; omega) o1
  have hb3 := hb2.alloc (by simp; omega) o2
  refine ⟨hb3.drew, ?_, ?_⟩
  · rw [World.cell?_drew, World.cell?_alloc_old _ _ _ (by simp; omega), World.cell?_alloc_old _ _ _ (by simp; omega), World.cell?_setCell_other _ _ _ _ (by intro h; simp only [Addr.mk.injEq] at h; omega)]
    exact h3
  · have hbelow := ((Below.refl (w5.setCell ⟨d, 0, none⟩ v).heap.size (w5.setCell ⟨d, 0, none⟩ v)).alloc (Nat.le_refl _) o1).alloc (by simp) o2
    refine (hbelow.drew.frozen (p := ⟨d, 3, none⟩) (by show d < (w5.setCell ⟨d, 0, none⟩ v).heap.size; rw [hs1]; exact hd)).trans ?_
    exact (World.frozen?_setCell w5 _ _ _).trans f3
set_option maxHeartbeats 4000000 in
set_option maxRecDepth 100000 in
theorem image_any (d b c : Nat) (f : Nat → Int) (w : World) (hc : ∀ i, i < 64 → w.cell? ⟨b, i, none⟩ = some (.int .u8 (f i))) (hf : ∀ i, 0 ≤ f i ∧ f i < 256) (hbd : b < d)
    (h0 : w.cell? ⟨d, 0, none⟩ = some (.slice none 0 0)) (h3 : w.cell? ⟨d, 3, none⟩ = some (.slice none 0 0)) (f0 : w.frozen? ⟨d, 0, none⟩ = false) (f3 : w.frozen? ⟨d, 3, none⟩ = false)
    (hz : w.cell? ⟨3, 15, none⟩ = some (.int .u8 4)) (hz2 : 3 < d) :
    Calls Tryz.prog 23 #[.pointer (some ⟨d, 0, none⟩), .string sA, .slice (some ⟨b, 0, none⟩) (64 : Nat) c] w fun e w' => e = .returned (.int .i64 0) ∧ Below d w w' := by
  have hd : d < w.heap.size := World.block_lt_of_cell? w _ h0
  have Hc := Lib.hid hc
  have Hf := Lib.hid hf
  have Hz := Lib.hid hz
  clear hc hf hz
  go_enter Tryz.func23, Tryz.ntmps23
  go_wp2_with (first | (go_at_call 49; go_in))
  go_wp2_with fail
  refine (named_any sA _ (by decide)).mono ?_
  rintro e w1 ⟨rfl, rfl⟩
  rw [show isName sA.data.toList = true from by decide]
  go_wp2_with fail
  refine (at_none d sA w1 h0).mono ?_
  rintro e w2 ⟨rfl, hb2⟩
  have h02 := kept_below hb2 _ _ h0
  have h32 := kept_below hb2 _ _ h3
  have f02 := (hb2.frozen (p := ⟨d, 0, none⟩) (by exact hd)).trans f0
  have f32 := (hb2.frozen (p := ⟨d, 3, none⟩) (by exact hd)).trans f3
  have hs2 := hb2.size
  have Hb2 := Lib.hid hb2
  clear hb2
  go_wp2_with fail
  refine (full_none d w2 h32).mono ?_
  rintro e w3 ⟨rfl, rfl⟩
  go_wp2_with fail
  refine (store_new b 64 c f w3 (fun i hi => kept_below Hb2.out _ _ (Hc.out i hi)) (by omega) (by omega)).mono ?_
  rintro e w4 ⟨S, rfl, hb4⟩
  have hb14 := below_then Hb2.out hs2 hb4
  have h04 := kept_below hb4 _ _ h02
  have h34 := kept_below hb4 _ _ h32
  have f04 := (hb4.frozen (p := ⟨d, 0, none⟩) (by show d < _; omega)).trans f02
  have f34 := (hb4.frozen (p := ⟨d, 3, none⟩) (by show d < _; omega)).trans f32
  have hs4 := hb14.size
  have Hb14 := Lib.hid hb14
  have Hbc := Lib.hid (bclone b 64 c f 0 w4.drew (by omega) (fun j hj => by rw [Nat.zero_add]; exact kept_below hb14 _ _ (Hc.out j hj)))
  clear hb14 hb4 h02 h32 f02 f32 h0 h3 f0 f3
  go_wp2
  have hd4 : d < w4.heap.size := by omega
  have h64 : 0 < 64 := by omega
  have f04d : w4.drew.frozen? ⟨d, 0, none⟩ = false := f04
  have h04d : w4.drew.cell? ⟨d, 0, none⟩ = some (.slice none 0 0) := h04
  go_region_with (first | (go_at_call 53; refine Hbc.out.mono ?_; rintro e w5 ⟨v5, rfl, hown5, _, hb5⟩; obtain ⟨g5, c5, rfl, hc5, hg5, hbg5, hcells5⟩ := own_formp hown5 h64; have h05 := kept_below hb5 _ _ h04d; have f05 : w5.frozen? ⟨d, 0, none⟩ = false := (hb5.frozen (p := ⟨d, 0, none⟩) hd4).trans f04d; have hs5 : w4.heap.size ≤ w5.heap.size := hb5.size; have hd5 : d < w5.heap.size := Nat.lt_of_lt_of_le hd4 hs5; have hnd : d ≠ w5.heap.size := Nat.ne_of_lt hd5; have hnd2 : d ≠ w5.heap.size + 1 := Nat.ne_of_lt (Nat.lt_succ_of_lt hd5)))
  all_goals
    have hb45 : Below w4.heap.size w4 w5 := below_of_drew hb5
    have hb15 : Below d w1 w5 := (Hb14.out.mono (Nat.le_of_lt hd)).trans (hb45.mono (Nat.le_of_lt hd4))
    have h35 := kept_below hb45 _ _ h34
    have f35 := (hb45.frozen (p := ⟨d, 3, none⟩) hd4).trans f34
    have Hb15 := Lib.hid hb15
    have H35 := Lib.hid h35
    have F35 := Lib.hid f35
    clear hb5 hb45 hb15 h35 f35 hcells5 h05 f05 h04 h34 f04 f34 h04d f04d
    go_wp2_with fail
    refine (itoa64 _).mono ?_
    rintro e w6 ⟨s6, rfl, hw6⟩
    have hA : Below d w1 w6 ∧ w6.cell? ⟨d, 3, none⟩ = some (.slice none 0 0) ∧ w6.frozen? ⟨d, 3, none⟩ = false := by rw [hw6]; exact dock_after w5 w1 d _ _ _ Hb15.out hd5 H35.out F35.out
    clear hw6
    obtain ⟨hb6, h36, f36⟩ := hA
    have hs6 := World.block_lt_of_cell? w6 _ h36
    have hc6 : ∀ i, i < 64 → w6.cell? ⟨b, i, none⟩ = some (.int .u8 (f i)) := fun i hi => (hb6.cell (p := ⟨b, i, none⟩) hbd).trans (Hc.out i hi)
    have hz6 : w6.cell? ⟨3, 15, none⟩ = some (.int .u8 4) := (hb6.cell (p := ⟨3, 15, none⟩) hz2).trans Hz.out
    have Hb6 := Lib.hid hb6
    have Hc6 := Lib.hid hc6
    have Hz6 := Lib.hid hz6
    clear hb6 hc6 hz6
    go_wp2_with fail
    refine (hash_any b 64 c f w6 Hc6.out Hf.out (by omega)).mono ?_
    rintro e w7 ⟨hh, rfl, hh0, hh1, rfl⟩
    go_wp2_with fail
    refine (formatUint_any hh w7 hh0 hh1 Hz6.out).mono ?_
    rintro e w8 ⟨s8, rfl, hb8⟩
    have h38 := kept_below hb8 _ _ h36
    have f38 := (hb8.frozen (p := ⟨d, 3, none⟩) hs6).trans f36
    have hb18 : Below d w1 w8 := Hb6.out.trans (hb8.mono (Nat.le_of_lt hs6))
    have hd8 : d < w8.heap.size := Nat.lt_of_lt_of_le hs6 hb8.size
    have hnd8 : d ≠ w8.heap.size := Nat.ne_of_lt hd8
    have Hb18 := Lib.hid hb18
    clear hb8 hb18
    go_wp2_with (first | (go_at_call 54; fail))
    have hba := (Below.refl w8.heap.size w8).alloc (Nat.le_refl _) (.cells #[.string sA, .string s6, .string s8] 9)
    refine (log_any d _ _ 3 3 _ (kept_below hba _ _ h38) ((hba.frozen (p := ⟨d, 3, none⟩) hd8).trans f38)).mono ?_
    rintro e w9 ⟨rfl, hb9⟩
    have hbe : Below d w1 w9 := (Hb18.out.trans (hba.mono (Nat.le_of_lt hd8))).trans hb9
    have Hbe := Lib.hid hbe
    clear hba hb9 hbe
    go_wp2
    go_ret
    exact ⟨rfl, Hbe.out⟩
end Go.Proofs.YthcbchgdfldckaaGreatDoor
