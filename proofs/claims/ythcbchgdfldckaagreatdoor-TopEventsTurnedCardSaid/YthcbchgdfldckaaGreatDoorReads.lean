/- Walks of package source and find that the concrete run needs. -/
import Derived.Test.YthcbchgdfldckaaGreatDoorSource
namespace Go.Proofs.YthcbchgdfldckaaGreatDoor
open Go.RowKit Go.Lib

theorem below_of_drew {w w' : World} (h : Below w.drew.heap.size w.drew w') : Below w.heap.size w w' := ⟨h.os, h.tape, h.output, h.size, h.block⟩
theorem nil_pread (B : Nat) (u : World) : (nilAhead (Tryz.prog.types.size + Made.depth) 185 (Value.pointer (some ⟨B, 0, none⟩)) "Read").run Tryz.prog u = .ok (some false) u := by kernel_rfl
set_option maxHeartbeats 1000000 in
set_option maxRecDepth 100000 in
theorem all_any (Q B n : Nat) (f : Nat → Int) (x y : Nat) (w : World) (h : PcsAt w Q B n x y) (hi : ImgAt w B n f) (hxy : x + y ≤ n) (hy : 0 < y) (hn : n ≤ 65536) :
    Calls Tryz.prog 70 #[.iface 185 (.pointer (some ⟨Q, 0, none⟩))] w fun e w' => ∃ v, e = .returned (.tuple #[v, .int .i64 0]) ∧ w'.ownsRow w.heap.size 5 1 v y (bytesAt f x y) ∧ Below w.heap.size w w' := by
  have hm := meth_psize Q
  have hm2 := meth_pread Q
  rw [show Tryz.prog.types.size + Made.depth = 739 from by kernel_rfl] at hm hm2
  have hm3 := nil_pread Q
  rw [show Tryz.prog.types.size + Made.depth = 739 from by kernel_rfl] at hm3
  go_enter Tryz.func70, Tryz.ntmps70
  go_wp2
  have hd : PcsAt w.drew Q B n x y := h
  have hid : ImgAt w.drew B n f := hi
  go_region_held3 (fun _ => True) (trivial) (first | (go_at_call 527; refine (pieces_size Q B n x y _ hd).mono ?_; rintro e w3 ⟨rfl, rfl⟩) | (go_at_call 525; refine (pieces_read Q B n f x y _ hd hid hxy hy hn).mono ?_; rintro e w3 ⟨v, rfl, hown3, hb3⟩))
  all_goals go_wp2
  all_goals go_ret2
  all_goals exact ⟨v, rfl, hown3, below_of_drew hb3⟩

set_option maxHeartbeats 1000000 in
set_option maxRecDepth 100000 in
theorem read_any (B n b o c : Nat) (f : Nat → Int) (x y : Nat) (w : World) (hi : ImgAt w B n f) (h1 : w.cell? ⟨b, o, none⟩ = some (.int .i64 x)) (h2 : w.cell? ⟨b, o + 1, none⟩ = some (.int .i64 y)) (hxy : x + y ≤ n) (hy : 0 < y) (hy2 : y ≤ 4096) (hn : n ≤ 65536) :
    Calls Tryz.prog 36 #[.iface 125 (.pointer (some ⟨B, 0, none⟩)), .slice (some ⟨b, o, none⟩) (1 : Nat) c] w fun e w' => ∃ v, e = .returned (.tuple #[v, .int .i64 0]) ∧ w'.ownsRow w.heap.size 5 1 v y (bytesAt f x y) ∧ Below w.heap.size w w' := by
  go_enter Tryz.func36, Tryz.ntmps36
  go_wp2_with fail
  refine (pieces_any B n b o c f x y w hi h1 h2 hxy hy hn).mono ?_
  rintro e w1 ⟨Q, rfl, hP, hb1⟩
  go_wp2_with fail
  refine (pieces_size Q B n x y w1 hP).mono ?_
  rintro e w2 ⟨rfl, rfl⟩
  go_wp2_with fail
  refine (all_any Q B n f x y w2 hP (hi.kept (kept_below hb1)) hxy hy hn).mono ?_
  rintro e w3 ⟨v, rfl, hown, hb3⟩
  have hsz := hb1.size
  have hb := below_then hb1 hsz hb3
  obtain ⟨A5, c5, rfl⟩ := own_slice hown
  go_wp2
  go_ret2
  exact ⟨_, rfl, own_mono' hown hsz, hb⟩

end Go.Proofs.YthcbchgdfldckaaGreatDoor
