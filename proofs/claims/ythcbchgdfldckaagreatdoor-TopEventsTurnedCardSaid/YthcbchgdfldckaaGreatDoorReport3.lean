/- Walks of report.Check and report.Make that the concrete run needs. -/
import Derived.Test.YthcbchgdfldckaaGreatDoorReport2
import Derived.Test.YthcbchgdfldckaaGreatDoorAskH
namespace Go.Proofs.YthcbchgdfldckaaGreatDoor
open Go.RowKit Go.Lib
attribute [local go_sem ↓] Go.wp_at_zero Go.wp_at_succ

theorem findCells_inj {A B A' B' : Value} (h : Value.agg (findCells A B) = .agg (findCells A' B')) : A = A' ∧ B = B' := by
  simpa [findCells] using h
set_option maxHeartbeats 2000000 in
set_option maxRecDepth 100000 in
theorem rcheck_any (f : Nat → Int) (x y : Nat) (fv : Value) (h : Int) (g c : Nat) (w : World) (hf : FindIs w fv f x y) (hl : RowF w g fv) (hy2 : y ≤ 4096) :
    Calls Tryz.prog 48 #[.agg #[.string sA, .int .u64 h, .slice (some ⟨g, 0, none⟩) (1 : Nat) c]] w fun e w' => e = .returned (.int .i64 0) ∧ Below w.heap.size w w' := by
  obtain ⟨g1, c1, b, c2, rfl, hc2, hx, hyc, hbytes⟩ := hf
  obtain ⟨A, B, e, hcs⟩ := hl
  obtain ⟨rfl, rfl⟩ := findCells_inj e
  have hrf := fun W => rform_any (some ⟨g1, 0, none⟩) (some ⟨b, 0, none⟩) 1 c1 y c2 W (by omega) (by omega)
  unfold findCells at *
  have Hrf := Lib.hid hrf
  clear hrf e hx hyc hbytes
  go_enter Tryz.func48, Tryz.ntmps48
  go_wp2_with fail
  obtain ⟨n1, n2, n3, n4⟩ := new_facts w #[Value.string sA, Value.int .u64 h, Value.slice (some ⟨g, 0, none⟩) (1 : Nat) c] 72
  generalize w.alloc (.cells #[Value.string sA, Value.int .u64 h, Value.slice (some ⟨g, 0, none⟩) (1 : Nat) c] 72) = W at *
  have z2 : W.cell? ⟨w.heap.size, 2, none⟩ = some (.slice (some ⟨g, 0, none⟩) (1 : Nat) c) := n1 2 _ rfl
  have cs0 : W.cell? ⟨g, 0, none⟩ = some (.string kText) := kept_below n4 _ _ (hcs 0 _ rfl)
  have cs1 : W.cell? ⟨g, 1, none⟩ = some (.slice none 0 0) := kept_below n4 _ _ (hcs 1 _ rfl)
  have cs2 : W.cell? ⟨g, 2, none⟩ = some (.slice (some ⟨g1, 0, none⟩) (1 : Nat) c1) := kept_below n4 _ _ (hcs 2 _ rfl)
  have cs3 : W.cell? ⟨g, 3, none⟩ = some (.slice (some ⟨b, 0, none⟩) y c2) := kept_below n4 _ _ (hcs 3 _ rfl)
  have cs4 : W.cell? ⟨g, 4, none⟩ = some (.string ⟨#[]⟩) := kept_below n4 _ _ (hcs 4 _ rfl)
  have cs5 : W.cell? ⟨g, 5, none⟩ = some (.int .i64 0) := kept_below n4 _ _ (hcs 5 _ rfl)
  have cs6 : W.cell? ⟨g, 6, none⟩ = some (.int .i64 4294967295) := kept_below n4 _ _ (hcs 6 _ rfl)
  clear n1 n2 hcs
  refine (title_a _).mono ?_
  rintro e w2 ⟨rfl, hb2⟩
  have hb := below_then n4 n4.size hb2
  have z2' := kept_below hb2 _ _ z2
  have d0 := kept_below hb2 _ _ cs0
  have d1 := kept_below hb2 _ _ cs1
  have d2 := kept_below hb2 _ _ cs2
  have d3 := kept_below hb2 _ _ cs3
  have d4 := kept_below hb2 _ _ cs4
  have d5 := kept_below hb2 _ _ cs5
  have d6 := kept_below hb2 _ _ cs6
  clear hb2 n4 z2 cs0 cs1 cs2 cs3 cs4 cs5 cs6
  have Hb := Lib.hid hb
  clear hb
  go_wp2
  go_loopw [17] (fun s17 wr => ∃ k : Nat, k ≤ 1 ∧ s17 = .int .i64 k ∧ Below w2.heap.size w2 wr) (fun s17 _ => 1 - (intOf s17).toNat)
  case atStart => exact ⟨0, by omega, rfl, Below.refl _ _⟩
  case round =>
    obtain ⟨k, hk, rfl, hbr⟩ := hrel
    have hsz := hbr.size
    rcases (by omega : k = 0 ∨ k = 1) with rfl | rfl
    · have d0 := kept_below hbr _ _ d0
      have d1 := kept_below hbr _ _ d1
      have d2 := kept_below hbr _ _ d2
      have d3 := kept_below hbr _ _ d3
      have d4 := kept_below hbr _ _ d4
      have d5 := kept_below hbr _ _ d5
      have d6 := kept_below hbr _ _ d6
      go_wp2_with fail
      refine (Hrf.out _).mono ?_
      rintro e w3 ⟨rfl, hb3⟩
      have hb4 := below_then (hbr.alloc hsz _) (hbr.alloc hsz _).size hb3
      have Hb4 := Lib.hid hb4
      clear hb4 hb3 hbr d0 d1 d2 d3 d4 d5 d6
      go_wp2
      go_quiet (fail)
      go_wp2
      exact ⟨⟨1, by omega, by go_num, Hb4.out.trans ⟨rfl, rfl, rfl, Nat.le_refl _, fun _ _ => rfl⟩⟩, by simp [intOf]⟩
    · go_wp2
      go_ret
      exact ⟨rfl, below_then Hb.out Hb.out.size hbr⟩
end Go.Proofs.YthcbchgdfldckaaGreatDoor
