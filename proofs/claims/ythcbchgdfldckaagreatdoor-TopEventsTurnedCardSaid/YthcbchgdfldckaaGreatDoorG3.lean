/- The walk of g3fact: it returns true. -/
import Derived.Test.YthcbchgdfldckaaGreatDoorMake
import Derived.Test.YthcbchgdfldckaaGreatDoorDock
import Derived.Test.YthcbchgdfldckaaGreatDoorAskN
import Derived.Lib.LazyBuf
import Derived.Laws.OwnMore
namespace Go.Proofs.YthcbchgdfldckaaGreatDoor
open Go.RowKit Go.Lib

/-- The 64 bytes "ab", zeros. -/
theorem made64 (w : World) : ∃ w1, (Instr.makeSlice 48 (.int .i64 64) (.int .i64 64)).run Tryz.prog w = .ok (.slice (some ⟨w.heap.size, 0, none⟩) (64 : Nat) 64) w1 ∧ Below w.heap.size w w1 ∧ w.heap.size < w1.heap.size ∧
    ∀ i, i < 64 → w1.cell? ⟨w.heap.size, i, none⟩ = some (.int .u8 0) ∧ w1.frozen? ⟨w.heap.size, i, none⟩ = false := by
  obtain ⟨i0, hi, z0, z1, z2⟩ := info_of Tryz.info5
  obtain ⟨w1, hrun, hown, hg⟩ := run_make_full (P := Tryz.prog) w w.heap.size 48 5 i0 _ 1 Tryz.underlying48 hi z0 z1 .i64 .i64 64 (by rw [z2]; omega) (by simp only [maxLen]; omega) (Nat.le_refl _)
  refine ⟨w1, hrun, (Below.refl _ _).grown hg (Nat.le_refl _) (fun k hk => by cases hk), (hown.lt _ rfl).2, fun i hi => ⟨?_, hown.frozenAt i⟩⟩
  rw [hown.cellAt i (by omega)]
  show (madeCells #[Value.int .u8 0] (64 * 1)).toList[i]? = _
  rw [toList_madeCells_one, List.getElem?_replicate, if_pos hi]
theorem copy_ab (w1 : World) (g : Nat) (h : ∀ i, i < 64 → w1.cell? ⟨g, i, none⟩ = some (.int .u8 0) ∧ w1.frozen? ⟨g, i, none⟩ = false) : ∃ w2, (Builtin.copy_ #[48, 9] 3 #[.slice (some ⟨g, 0, none⟩) (64 : Nat) 64, .string ⟨#[97, 98]⟩]).run Tryz.prog w1 = .ok (.int .i64 2) w2 ∧
    (∀ i, i < 64 → w2.cell? ⟨g, i, none⟩ = some (.int .u8 (fAb i))) ∧ w2.heap.size = w1.heap.size ∧ ∀ w, Below g w w1 → Below g w w2 := by
  have hr := run_copy_string (P := Tryz.prog) w1 48 9 3 5 g 0 64 64 ⟨#[97, 98]⟩ Tryz.underlying48 (fun w => Tryz.sizeOf5 w) (by decide) (fun j hj => by have hj2 : j < 2 := hj; rw [Nat.zero_add, (h j (by omega)).1]; rfl) (fun j hj => by have hj2 : j < 2 := hj; rw [Nat.zero_add]; exact (h j (by omega)).2)
  refine ⟨_, hr, fun i hi => ?_, by simp [World.setCells], fun w hb => (hb.setCell (by show g ≤ g; omega) _).setCell (by show g ≤ g; omega) _⟩
  show ((w1.setCell ⟨g, 0, none⟩ (.int .u8 97)).setCell ⟨g, 1, none⟩ (.int .u8 98)).cell? ⟨g, i, none⟩ = _
  unfold fAb
  have c0 := (h 0 (by omega)).1
  have c1 := (h 1 (by omega)).1
  have c1' : (w1.setCell ⟨g, 0, none⟩ (.int .u8 97)).cell? ⟨g, 1, none⟩ = some (.int .u8 0) := by rw [World.cell?_setCell_other _ _ _ _ (by intro h; simp only [Addr.mk.injEq] at h; omega)]; exact c1
  rcases (by omega : i = 0 ∨ i = 1 ∨ 2 ≤ i) with rfl | rfl | h2
  · rw [World.cell?_setCell_other _ _ _ _ (by intro h; simp only [Addr.mk.injEq] at h; omega), World.cell?_setCell_same _ _ _ c0]; rfl
  · rw [World.cell?_setCell_same _ _ _ c1']; rfl
  · rw [World.cell?_setCell_other _ _ _ _ (by intro h; simp only [Addr.mk.injEq] at h; omega), World.cell?_setCell_other _ _ _ _ (by intro h; simp only [Addr.mk.injEq] at h; omega), (h i hi).1, if_neg (by omega), if_neg (by omega)]
theorem fAb_byte (i : Nat) : 0 ≤ fAb i ∧ fAb i < 256 := by unfold fAb; split <;> (try split) <;> omega

set_option maxRecDepth 100000 in
theorem new_any (w : World) : Calls Tryz.prog 22 #[] w fun e w' => e = .returned (.pointer (some ⟨w.heap.size, 0, none⟩)) ∧ Below w.heap.size w w' ∧ w'.cell? ⟨w.heap.size, 0, none⟩ = some (.slice none 0 0) ∧ w'.cell? ⟨w.heap.size, 3, none⟩ = some (.slice none 0 0) ∧ w'.frozen? ⟨w.heap.size, 0, none⟩ = false ∧ w'.frozen? ⟨w.heap.size, 3, none⟩ = false := by
  go_enter Tryz.func22, Tryz.ntmps22
  go_wp2
  go_ret
  obtain ⟨n1, n2, n3, n4⟩ := new_facts w #[Value.slice none 0 0, Value.slice none 0 0, Value.slice none 0 0, Value.slice none 0 0] 108
  exact ⟨rfl, n4, n1 0 _ rfl, n1 3 _ rfl, n2 0, n2 3⟩
set_option maxHeartbeats 4000000 in
set_option maxRecDepth 100000 in
theorem g3_any (m : Int) (w : World) (hm : w.cell? ⟨0, 0, none⟩ = some (.int .i64 m)) (hz : w.cell? ⟨3, 15, none⟩ = some (.int .u8 4)) :
    Calls Tryz.prog 6 #[] w fun e w' => e = .returned (.bool true) ∧ Below w.heap.size w w' := by
  obtain ⟨w1, hmk, hb1, hlt1, hc1⟩ := made64 w
  obtain ⟨w2, hcp, hc2, hs2, hbf2⟩ := copy_ab w1 w.heap.size hc1
  have hb2 := hbf2 w hb1
  have Hc2 := Lib.hid hc2
  have Hb2 := Lib.hid hb2
  have Hm := Lib.hid hm
  have Hz := Lib.hid hz
  clear hc1 hc2 hb1 hb2 hbf2 hm hz
  go_enter Tryz.func6, Tryz.ntmps6
  go_wp2_with fail
  refine (of_any w.heap.size 64 64 fAb w2 Hc2.out (by omega) (by omega)).mono ?_
  rintro e w3 ⟨B, rfl, hi3, hb3⟩
  go_wp2_with fail
  have hb23 := Hb2.out.trans (hb3.mono (by omega))
  obtain ⟨n1, n2, n3, n4⟩ := new_facts w3 #[Value.int .i64 0, Value.int .i64 2] 59
  generalize w3.alloc (.cells #[Value.int .i64 0, Value.int .i64 2] 59) = W3 at *
  refine (make_any B 64 w3.heap.size 0 1 fAb 0 2 W3 (hi3.kept (kept_below n4)) (n1 0 _ rfl) (n1 1 _ rfl) (by omega) (by omega) (by omega) (by omega)).mono ?_
  rintro e w5 ⟨fv, rfl, ⟨g1, c1, b1, c2, rfl, hf5⟩, hb5⟩
  have hfv5 : FindIs w5 (.agg (findCells (.slice (some ⟨g1, 0, none⟩) (1 : Nat) c1) (.slice (some ⟨b1, 0, none⟩) (2 : Nat) c2))) fAb 0 2 := ⟨g1, c1, b1, c2, rfl, hf5⟩
  have hb35 : Below w3.heap.size w3 w5 := below_then n4 (by omega) hb5
  have hb25 := hb3.trans (hb35.mono hb3.size)
  have hb05 : Below w.heap.size w w5 := Hb2.out.trans (hb25.mono (by omega))
  have hs5 : w.heap.size < w5.heap.size := Nat.lt_of_lt_of_le (by omega) hb25.size
  have hc5 : ∀ i, i < 64 → w5.cell? ⟨w.heap.size, i, none⟩ = some (.int .u8 (fAb i)) := fun i hi => (hb25.cell (p := ⟨w.heap.size, i, none⟩) (by show w.heap.size < w2.heap.size; omega)).trans (Hc2.out i hi)
  have Hfv5 := Lib.hid hfv5
  have Hb05 := Lib.hid hb05
  have Hc5 := Lib.hid hc5
  clear hf5 hfv5 hb05 hc5 hb25 hb35 hb5 n1 n2 n4 hb3 hb23 hi3 hmk hcp
  unfold findCells
  go_wp2_with fail
  obtain ⟨n1, n2, n3, n4⟩ := new_facts w5 #[Value.string kText, Value.slice none 0 0, Value.slice (some ⟨g1, 0, none⟩) (1 : Nat) c1, Value.slice (some ⟨b1, 0, none⟩) (2 : Nat) c2, Value.string ⟨#[]⟩, Value.int IntKind.i64 0, Value.int IntKind.i64 4294967295] 55
  generalize w5.alloc (.cells #[Value.string kText, Value.slice none 0 0, Value.slice (some ⟨g1, 0, none⟩) (1 : Nat) c1, Value.slice (some ⟨b1, 0, none⟩) (2 : Nat) c2, Value.string ⟨#[]⟩, Value.int IntKind.i64 0, Value.int IntKind.i64 4294967295] 55) = W6 at *
  obtain ⟨m1, m2, m3, m4⟩ := new_facts W6 #[Value.string kText, Value.slice none 0 0, Value.slice (some ⟨g1, 0, none⟩) (1 : Nat) c1, Value.slice (some ⟨b1, 0, none⟩) (2 : Nat) c2, Value.string ⟨#[]⟩, Value.int IntKind.i64 0, Value.int IntKind.i64 4294967295] 55
  rw [n3] at m1 m2 m3
  generalize W6.alloc (.cells #[Value.string kText, Value.slice none 0 0, Value.slice (some ⟨g1, 0, none⟩) (1 : Nat) c1, Value.slice (some ⟨b1, 0, none⟩) (2 : Nat) c2, Value.string ⟨#[]⟩, Value.int IntKind.i64 0, Value.int IntKind.i64 4294967295] 55) = W7 at *
  obtain ⟨l1, l2, l3, l4⟩ := new_facts W7 #[Value.int .i64 3, Value.string ⟨#[97, 98]⟩, Value.int .i64 0, Value.int .i64 0, Value.slice none 0 0] 66
  rw [m3] at l1 l2 l3
  generalize W7.alloc (.cells #[Value.int .i64 3, Value.string ⟨#[97, 98]⟩, Value.int .i64 0, Value.int .i64 0, Value.slice none 0 0] 66) = W8 at *
  have hb68 : Below W6.heap.size W6 W8 := below_then m4 (by omega) l4
  have hb58 : Below w5.heap.size w5 W8 := below_then n4 (by omega) hb68
  have t0 : W8.cell? ⟨w5.heap.size, 0, none⟩ = some (.string kText) := kept_below hb68 _ _ (n1 0 _ rfl)
  have t1 : W8.cell? ⟨w5.heap.size, 1, none⟩ = some (.slice none 0 0) := kept_below hb68 _ _ (n1 1 _ rfl)
  have t2 : W8.cell? ⟨w5.heap.size, 2, none⟩ = some (.slice (some ⟨g1, 0, none⟩) (1 : Nat) c1) := kept_below hb68 _ _ (n1 2 _ rfl)
  have t3 : W8.cell? ⟨w5.heap.size, 3, none⟩ = some (.slice (some ⟨b1, 0, none⟩) (2 : Nat) c2) := kept_below hb68 _ _ (n1 3 _ rfl)
  have t4 : W8.cell? ⟨w5.heap.size, 4, none⟩ = some (.string ⟨#[]⟩) := kept_below hb68 _ _ (n1 4 _ rfl)
  have t5 : W8.cell? ⟨w5.heap.size, 5, none⟩ = some (.int .i64 0) := kept_below hb68 _ _ (n1 5 _ rfl)
  have t6 : W8.cell? ⟨w5.heap.size, 6, none⟩ = some (.int .i64 4294967295) := kept_below hb68 _ _ (n1 6 _ rfl)
  have hm8 : W8.cell? ⟨0, 0, none⟩ = some (.int .i64 m) := kept_below hb58 _ _ (kept_below Hb05.out _ _ Hm.out)
  have hrun := run_ab (.agg (findCells (.slice (some ⟨g1, 0, none⟩) (1 : Nat) c1) (.slice (some ⟨b1, 0, none⟩) (2 : Nat) c2))) (w5.heap.size + 1) 1 (w5.heap.size + 1 + 1) m W8 (Hfv5.out.kept (kept_below hb58)) hm8 ⟨_, _, rfl, fun j u hu => kept_below l4 _ _ (m1 j u hu)⟩ (fun j u hu => l1 j u hu)
  unfold askAb at hrun
  refine hrun.mono ?_
  rintro e w9 ⟨gr, cr, rfl, hb9⟩
  have hb89 := hb9.size
  have u0 := kept_below hb9 _ _ t0
  have u1 := kept_below hb9 _ _ t1
  have u2 := kept_below hb9 _ _ t2
  have u3 := kept_below hb9 _ _ t3
  have u4 := kept_below hb9 _ _ t4
  have u5 := kept_below hb9 _ _ t5
  have u6 := kept_below hb9 _ _ t6
  have Hb59 := Lib.hid (below_then hb58 (by omega) hb9)
  clear hrun hm8 t0 t1 t2 t3 t4 t5 t6 hb9 hb58 hb68 n1 n2 n4 m1 m2 m4 l1 l2 l4
  go_wp2_with fail
  obtain ⟨k1, k2, k3, k4⟩ := new_facts w9 #[Value.string kText, Value.slice none 0 0, Value.slice (some ⟨g1, 0, none⟩) (1 : Nat) c1, Value.slice (some ⟨b1, 0, none⟩) (2 : Nat) c2, Value.string ⟨#[]⟩, Value.int IntKind.i64 0, Value.int IntKind.i64 4294967295] 55
  generalize w9.alloc (.cells #[Value.string kText, Value.slice none 0 0, Value.slice (some ⟨g1, 0, none⟩) (1 : Nat) c1, Value.slice (some ⟨b1, 0, none⟩) (2 : Nat) c2, Value.string ⟨#[]⟩, Value.int IntKind.i64 0, Value.int IntKind.i64 4294967295] 55) = W10 at *
  have hb510 : Below w5.heap.size w5 W10 := below_then Hb59.out (by have := Hb59.out.size; omega) k4
  have hc10 : ∀ i, i < 64 → W10.cell? ⟨w.heap.size, i, none⟩ = some (.int .u8 (fAb i)) := fun i hi => kept_below hb510 _ _ (Hc5.out i hi)
  have hmk2 := rmake_any w.heap.size 64 64 fAb 0 2 w9.heap.size 1 (.agg (findCells (.slice (some ⟨g1, 0, none⟩) (1 : Nat) c1) (.slice (some ⟨b1, 0, none⟩) (2 : Nat) c2))) W10 hc10 fAb_byte (by omega) (Hfv5.out.kept (kept_below hb510)) ⟨_, _, rfl, fun j u hu => k1 j u hu⟩ (by omega) (by omega) (by omega)
  refine hmk2.mono ?_
  rintro e w11 ⟨h, A, dd, rfl, hb11⟩
  have hb511 : Below w5.heap.size w5 w11 := below_then hb510 hb510.size hb11
  have hs11 := hb511.size
  have hb011 : Below w.heap.size w w11 := Hb05.out.trans (hb511.mono (Nat.le_of_lt hs5))
  have Hc11 := Lib.hid (fun i hi => kept_below hb511 _ _ (Hc5.out i hi))
  have Hb011 := Lib.hid hb011
  clear hmk2 hc10 hb510 hb511 hb011 hb11 k1 k2 k4 u0 u1 u2 u3 u4 u5 u6
  go_wp2_with fail
  obtain ⟨k1, k2, k3, k4⟩ := new_facts w11 #[Value.string sA, Value.int .u64 h, Value.slice A (1 : Nat) dd] 72
  generalize w11.alloc (.cells #[Value.string sA, Value.int .u64 h, Value.slice A (1 : Nat) dd] 72) = W12 at *
  refine (new_any W12).mono ?_
  rintro e w13 ⟨rfl, hb13, d0, d3, e0, e3⟩
  have r2 : w13.cell? ⟨w11.heap.size, 2, none⟩ = some (.slice A (1 : Nat) dd) := kept_below hb13 _ _ (k1 2 _ rfl)
  have hb1113 : Below w11.heap.size w11 w13 := below_then k4 k4.size hb13
  have Hc13 := Lib.hid (fun i hi => kept_below hb1113 _ _ (Hc11.out i hi))
  have hb013 : Below w.heap.size w w13 := below_then Hb011.out Hb011.out.size hb1113
  have Hb013 := Lib.hid hb013
  have hz13 := kept_below hb013 _ _ Hz.out
  have hgz : 3 < w.heap.size := World.block_lt_of_cell? w _ Hz.out
  have hw12 : w.heap.size < W12.heap.size := by have := Hb011.out.size; omega
  rw [k3] at d0 d3 e0 e3 hw12
  clear hb13 hb1113 hb013 k1 k2 k4
  go_wp2_with fail
  refine (image_any (w11.heap.size + 1) w.heap.size 64 fAb w13 Hc13.out fAb_byte hw12 d0 d3 e0 e3 hz13 (by omega)).mono ?_
  rintro e w14 ⟨rfl, hb14⟩
  have hbe : Below w.heap.size w w14 := Hb013.out.trans (hb14.mono (Nat.le_of_lt hw12))
  have Hbe := Lib.hid hbe
  clear hbe hb14
  go_wp2
  go_ret
  exact ⟨rfl, Hbe.out⟩
end Go.Proofs.YthcbchgdfldckaaGreatDoor
