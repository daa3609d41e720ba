/- Walks of package ask that the concrete run needs: Holds, fits. -/
import Derived.Test.YthcbchgdfldckaaGreatDoorAskW
import Derived.Test.YthcbchgdfldckaaGreatDoorWord
namespace Go.Proofs.YthcbchgdfldckaaGreatDoor
open Go.RowKit Go.Lib

/-- The finding's bytes are "ab". -/
def fAb (i : Nat) : Int := if i = 0 then 97 else if i = 1 then 98 else 0
set_option maxHeartbeats 2000000 in
set_option maxRecDepth 100000 in
theorem holds_ab (fv : Value) (m : Int) (w : World) (h : FindIs w fv fAb 0 2) (hm : w.cell? ⟨0, 0, none⟩ = some (.int .i64 m)) :
    Calls Tryz.prog 73 #[fv, .agg condAb] w fun e w' => e = .returned (.bool true) ∧ Below w.heap.size w w' := by
  obtain ⟨g, c1, b, c2, rfl, hc2, hx, hy, hbytes⟩ := h
  have hconv := fun W => Lib.run_convert_string_bytes (P := Tryz.prog) W 9 48 5 sAb Tryz.underlying9 Tryz.underlying48 Tryz.underlying5
  have hb0 := hbytes 0 (by omega)
  have hb1 := hbytes 1 (by omega)
  unfold findCells condAb
  go_enter Tryz.func73, Tryz.ntmps73
  go_wp2_with fail
  have hbW : Below w.heap.size w ((w.alloc (.cells #[Value.string kText, Value.slice none 0 0, Value.slice (some ⟨g, 0, none⟩) (1 : Nat) c1, Value.slice (some ⟨b, 0, none⟩) (2 : Nat) c2, Value.string ⟨#[]⟩, Value.int .i64 0, Value.int .i64 4294967295] 55)).alloc (.cells #[Value.int .i64 3, Value.string sAb, Value.int .i64 0, Value.int .i64 0, Value.slice none 0 0] 66)) := ((Below.refl _ _).alloc (Nat.le_refl _) _).alloc (by simp) _
  have hsW : ((w.alloc (.cells #[Value.string kText, Value.slice none 0 0, Value.slice (some ⟨g, 0, none⟩) (1 : Nat) c1, Value.slice (some ⟨b, 0, none⟩) (2 : Nat) c2, Value.string ⟨#[]⟩, Value.int .i64 0, Value.int .i64 4294967295] 55)).alloc (.cells #[Value.int .i64 3, Value.string sAb, Value.int .i64 0, Value.int .i64 0, Value.slice none 0 0] 66)).heap.size = w.heap.size + 1 + 1 := by simp
  generalize (w.alloc (.cells #[Value.string kText, Value.slice none 0 0, Value.slice (some ⟨g, 0, none⟩) (1 : Nat) c1, Value.slice (some ⟨b, 0, none⟩) (2 : Nat) c2, Value.string ⟨#[]⟩, Value.int .i64 0, Value.int .i64 4294967295] 55)).alloc (.cells #[Value.int .i64 3, Value.string sAb, Value.int .i64 0, Value.int .i64 0, Value.slice none 0 0] 66) = W at *
  have hbB := below_bytes W 5 sAb
  have hb3 := below_then hbW hbW.size hbB
  have n0 := Lib.bytesWorld_cell W 5 sAb 0 (by decide)
  have n1 := Lib.bytesWorld_cell W 5 sAb 1 (by decide)
  rw [hsW] at n0 n1
  have o0 := kept_below hb3 _ _ hb0
  have o1 := kept_below hb3 _ _ hb1
  have om := kept_below hb3 _ _ hm
  generalize Lib.bytesWorld W 5 sAb = W2 at *
  generalize grownCap W sAb.size 0 5 = cp at *
  refine (Tryz.bytes_Contains_at ⟨b, 0, none⟩ ⟨w.heap.size + 1 + 1, 0, none⟩ 2 c2 2 cp [97, 98] [97, 98] m W2 rfl rfl (by decide) (by decide) (fun i hi => ?_) (fun i hi => ?_) hc2 (by omega) (by omega) om).mono ?_
  · rw [Go.WideShapes.add_plain]
    rcases (by omega : i = 0 ∨ i = 1) with rfl | rfl
    · exact o0
    · exact o1
  · rw [Go.WideShapes.add_plain]
    rcases (by omega : i = 0 ∨ i = 1) with rfl | rfl
    · exact n0
    · exact n1
  · rintro e w5 ⟨rfl, q, rfl⟩
    rw [show Lib.contains (Lib.bytesOf [97, 98]) (Lib.bytesOf [97, 98]) = true from by decide +kernel]
    go_wp2
    go_ret
    exact ⟨rfl, hb3.trans ⟨rfl, rfl, rfl, Nat.le_refl _, fun _ _ => rfl⟩⟩

/-- A finding's cells at block lf. -/
def RowF (w : World) (lf : Nat) (fv : Value) : Prop := ∃ A B, fv = .agg (findCells A B) ∧ ∀ (j : Nat) u, (findCells A B)[j]? = some u → w.cell? ⟨lf, j, none⟩ = some u
theorem RowF.kept {w w' : World} {lf : Nat} {fv : Value} (h : RowF w lf fv) (k : Kept w w') : RowF w' lf fv := by
  obtain ⟨A, B, e, hc⟩ := h
  exact ⟨A, B, e, fun j u hu => k _ _ (hc j u hu)⟩
theorem AskAt.kept {w w' : World} {b : Nat} (h : AskAt w b) (k : Kept w w') : AskAt w' b := fun j u hu => k _ _ (h j u hu)
set_option maxHeartbeats 2000000 in
set_option maxRecDepth 100000 in
theorem fits_ab (fv : Value) (lf lc b rb rc : Nat) (m : Int) (w : World) (h : FindIs w fv fAb 0 2) (hm : w.cell? ⟨0, 0, none⟩ = some (.int .i64 m)) (hl : RowF w lf fv) (hq : AskAt w b) (hr : w.cell? ⟨rb, 0, none⟩ = some (.int .i64 0)) :
    Calls Tryz.prog 40 #[.slice (some ⟨lf, 0, none⟩) (1 : Nat) lc, .agg (askAb b), .slice (some ⟨rb, 0, none⟩) (1 : Nat) rc] w fun e w' => e = .returned (.bool true) ∧ Below w.heap.size w w' := by
  obtain ⟨n1, n2, n3, n4⟩ := new_facts w (askAb b) 69
  have hW : FindIs (w.alloc (.cells (askAb b) 69)) fv fAb 0 2 := h.kept (kept_below n4)
  have hmW := kept_below n4 _ _ hm
  have hlW := hl.kept (kept_below n4)
  have hqW := hq.kept (kept_below n4)
  have hrW := kept_below n4 _ _ hr
  unfold askAb at *
  go_enter Tryz.func40, Tryz.ntmps40
  go_wp2
  have z0 : (w.alloc (.cells #[Value.slice (some ⟨b, 0, none⟩) (1 : Nat) 1, Value.slice none 0 0, Value.int .i64 1] 69)).cell? ⟨w.heap.size, 0, none⟩ = some (.slice (some ⟨b, 0, none⟩) (1 : Nat) 1) := n1 0 _ rfl
  have z1 : (w.alloc (.cells #[Value.slice (some ⟨b, 0, none⟩) (1 : Nat) 1, Value.slice none 0 0, Value.int .i64 1] 69)).cell? ⟨w.heap.size, 1, none⟩ = some (.slice none 0 0) := n1 1 _ rfl
  generalize w.alloc (.cells #[Value.slice (some ⟨b, 0, none⟩) (1 : Nat) 1, Value.slice none 0 0, Value.int .i64 1] 69) = W at *
  have hWd : FindIs W.drew fv fAb 0 2 := hW
  have hmd : W.drew.cell? ⟨0, 0, none⟩ = some (.int .i64 m) := hmW
  obtain ⟨A, B, rfl, hcs⟩ := hlW
  have l0 : W.drew.cell? ⟨lf, 0, none⟩ = some (.string kText) := hcs 0 _ rfl
  have l1 : W.drew.cell? ⟨lf, 1, none⟩ = some (.slice none 0 0) := hcs 1 _ rfl
  have l2 : W.drew.cell? ⟨lf, 2, none⟩ = some A := hcs 2 _ rfl
  have l3 : W.drew.cell? ⟨lf, 3, none⟩ = some B := hcs 3 _ rfl
  have l4 : W.drew.cell? ⟨lf, 4, none⟩ = some (.string ⟨#[]⟩) := hcs 4 _ rfl
  have l5 : W.drew.cell? ⟨lf, 5, none⟩ = some (.int .i64 0) := hcs 5 _ rfl
  have l6 : W.drew.cell? ⟨lf, 6, none⟩ = some (.int .i64 4294967295) := hcs 6 _ rfl
  have q0 : W.drew.cell? ⟨b, 0, none⟩ = some (.int .i64 3) := hqW 0 _ rfl
  have q1 : W.drew.cell? ⟨b, 1, none⟩ = some (.string sAb) := hqW 1 _ rfl
  have q2 : W.drew.cell? ⟨b, 2, none⟩ = some (.int .i64 0) := hqW 2 _ rfl
  have q3 : W.drew.cell? ⟨b, 3, none⟩ = some (.int .i64 0) := hqW 3 _ rfl
  have q4 : W.drew.cell? ⟨b, 4, none⟩ = some (.slice none 0 0) := hqW 4 _ rfl
  have r0 : W.drew.cell? ⟨rb, 0, none⟩ = some (.int .i64 0) := hrW
  have y0 : W.drew.cell? ⟨w.heap.size, 0, none⟩ = some (.slice (some ⟨b, 0, none⟩) (1 : Nat) 1) := z0
  have y1 : W.drew.cell? ⟨w.heap.size, 1, none⟩ = some (.slice none 0 0) := z1
  have hbd : Below w.heap.size w W.drew := n4.drew
  have hcall := holds_ab _ m W.drew hWd hmd
  unfold findCells condAb at hcall
  clear hcs hqW hrW hW hmW hq hl h hr hm n1 n2 n3 n4 z0 z1
  have Hcall := Lib.hid hcall
  clear hcall
  go_region_held3 (fun w' => w'.cell? ⟨lf, 0, none⟩ = some (.string kText) ∧ w'.cell? ⟨lf, 1, none⟩ = some (.slice none 0 0) ∧ w'.cell? ⟨lf, 2, none⟩ = some A ∧ w'.cell? ⟨lf, 3, none⟩ = some B ∧ w'.cell? ⟨lf, 4, none⟩ = some (.string ⟨#[]⟩) ∧ w'.cell? ⟨lf, 5, none⟩ = some (.int .i64 0) ∧ w'.cell? ⟨lf, 6, none⟩ = some (.int .i64 4294967295) ∧ w'.cell? ⟨b, 0, none⟩ = some (.int .i64 3) ∧ w'.cell? ⟨b, 1, none⟩ = some (.string sAb) ∧ w'.cell? ⟨b, 2, none⟩ = some (.int .i64 0) ∧ w'.cell? ⟨b, 3, none⟩ = some (.int .i64 0) ∧ w'.cell? ⟨b, 4, none⟩ = some (.slice none 0 0) ∧ w'.cell? ⟨rb, 0, none⟩ = some (.int .i64 0) ∧ w'.cell? ⟨w.heap.size, 0, none⟩ = some (.slice (some ⟨b, 0, none⟩) (1 : Nat) 1)) (first | exact ⟨l0, l1, l2, l3, l4, l5, l6, q0, q1, q2, q3, q4, r0, y0⟩ | exact ⟨kept_below hb3 _ _ l0, kept_below hb3 _ _ l1, kept_below hb3 _ _ l2, kept_below hb3 _ _ l3, kept_below hb3 _ _ l4, kept_below hb3 _ _ l5, kept_below hb3 _ _ l6, kept_below hb3 _ _ q0, kept_below hb3 _ _ q1, kept_below hb3 _ _ q2, kept_below hb3 _ _ q3, kept_below hb3 _ _ q4, kept_below hb3 _ _ r0, kept_below hb3 _ _ y0⟩) (first | (go_at_call 73; refine Hcall.out.mono ?_; rintro e w3 ⟨rfl, hb3⟩))
  have y3 := kept_below hb3 _ _ y1
  have hbe := below_then hbd hbd.size hb3
  go_wp2
  go_loop [30] (fun s => s = .int .i64 0) (fun _ => 0)
  case atStart => rfl
  case round =>
    subst hrel
    go_wp2
    go_ret
    exact ⟨rfl, hbe⟩
end Go.Proofs.YthcbchgdfldckaaGreatDoor
