/- Walks of find.Check and find.Copy that the concrete run needs. -/
import Derived.Test.YthcbchgdfldckaaGreatDoorHash
import Derived.Deep.RegionHeldLaw
import Derived.RegionTactic
import Derived.BigRegion
import Derived.Deep.DrawnRows
namespace Go.Proofs.YthcbchgdfldckaaGreatDoor
open Go.RowKit Go.Lib

theorem bytesAt_ints (f : Nat → Int) (x y : Nat) : bytesAt f x y = ((List.range y).map fun i => f (x + i)).map (Value.int .u8) := by simp [bytesAt]
set_option maxHeartbeats 2000000 in
set_option maxRecDepth 100000 in
theorem fcheck_any (B n : Nat) (f : Nat → Int) (x y : Nat) (fv : Value) (w : World) (hi : ImgAt w B n f) (h : FindIs w fv f x y) (hxy : x + y ≤ n) (hy : 0 < y) (hy2 : y ≤ 4096) (hn : n ≤ 65536) :
    Calls Tryz.prog 42 #[.iface 125 (.pointer (some ⟨B, 0, none⟩)), fv] w fun e w' => e = .returned (.int .i64 0) ∧ Below w.heap.size w w' := by
  obtain ⟨g, c1, b, c2, rfl, hc2, hx, hyc, hbytes⟩ := h
  have hf := fun W => form_any (some ⟨g, 0, none⟩) (some ⟨b, 0, none⟩) 1 c1 y c2 W (by omega) (by omega)
  unfold findCells at *
  have Hf := Lib.hid hf
  clear hf
  go_enter Tryz.func42, Tryz.ntmps42
  go_wp2_with fail
  obtain ⟨n1, n2, n3, n4⟩ := new_facts w #[Value.string kText, Value.slice none 0 0, Value.slice (some ⟨g, 0, none⟩) (1 : Nat) c1, Value.slice (some ⟨b, 0, none⟩) y c2, Value.string ⟨#[]⟩, Value.int IntKind.i64 0, Value.int IntKind.i64 4294967295] 55
  have z1 := n1 1 _ rfl
  have z2 := n1 2 _ rfl
  have z3 := n1 3 _ rfl
  generalize w.alloc (.cells #[Value.string kText, Value.slice none 0 0, Value.slice (some ⟨g, 0, none⟩) (1 : Nat) c1, Value.slice (some ⟨b, 0, none⟩) y c2, Value.string ⟨#[]⟩, Value.int IntKind.i64 0, Value.int IntKind.i64 4294967295] 55) = W at *
  clear n1 n2
  refine (Hf.out _).mono ?_
  rintro e w2 ⟨rfl, hb2⟩
  have y1 := kept_below hb2 _ _ z1
  have y2 := kept_below hb2 _ _ z2
  have y3 := kept_below hb2 _ _ z3
  have hb := below_then n4 n4.size hb2
  have i2 := hi.kept (kept_below hb)
  have x2 := kept_below hb _ _ hx
  have v2 := kept_below hb _ _ hyc
  have b2 := fun j hj => kept_below hb _ _ (hbytes j hj)
  have Hb := Lib.hid hb
  have Hb2 := Lib.hid b2
  have Hi2 := Lib.hid i2
  clear hb2 n4 z1 z2 z3 hbytes hi hx hyc b2 i2 hb
  go_wp2_with fail
  refine (open_none _ _).mono ?_
  rintro e w3 ⟨rfl, rfl⟩
  go_wp2_with fail
  refine (read_any B n g 0 c1 f x y w3 Hi2.out x2 v2 hxy hy hy2 hn).mono ?_
  rintro e w5 ⟨v, rfl, hown5, hb5⟩
  obtain ⟨k, c5, rfl, hc5, hk, hbk, hcells5⟩ := own_formp hown5 hy
  have hbe := below_then Hb.out Hb.out.size hb5
  have y5 := kept_below hb5 _ _ y3
  have Hbe := Lib.hid hbe
  have e1 : Lib.BytesIn w5 (some ⟨k, 0, none⟩) y ((List.range y).map fun i => f (x + i)) := fun _ => ⟨k, 0, rfl, fun i hi => by
    have := hcells5 i (.int .u8 (f (x + i))) (by unfold bytesAt; rw [List.getElem?_map, List.getElem?_eq_getElem (by simpa using hi)]; simp)
    rw [Nat.zero_add, this]
    simp [List.getD_eq_getElem?_getD, hi]⟩
  have e2 : Lib.BytesIn w5 (some ⟨b, 0, none⟩) y ((List.range y).map fun i => f (x + i)) := fun _ => ⟨b, 0, rfl, fun i hi => by
    rw [Nat.zero_add, kept_below hb5 _ _ (Hb2.out i hi)]
    simp [List.getD_eq_getElem?_getD, hi]⟩
  clear hown5 hcells5 hb5 hbe y1 y2 y3 x2 v2
  go_wp2_with fail
  refine (Tryz.bytes_Equal_all (some ⟨k, 0, none⟩) (some ⟨b, 0, none⟩) y c5 y c2 _ _ w5 (by simp) (by simp) e1 e2).mono ?_
  rintro e w6 ⟨rfl, rfl⟩
  rw [beq_self_eq_true]
  go_wp2
  go_ret
  exact ⟨rfl, Hbe.out⟩
end Go.Proofs.YthcbchgdfldckaaGreatDoor

/- The walk of find.Copy. -/
namespace Go.Proofs.YthcbchgdfldckaaGreatDoor
open Go.RowKit Go.Lib
attribute [local go_sem ↓] Go.wp_at_zero Go.wp_at_succ

theorem results_cell_one {fn : Func} {p : Tmp} {ty : TypeId} (h : fn.results = #[.cell p ty]) (tmps : Array Value) (P : Program) (w : World) :
    (results fn tmps).run P w = ((asAddr (tmps.getD p undef)).run P w).andThen fun a w₁ => (loadVar ty a).run P w₁ := by
  simp only [results, h]
  simp [Sem.run_bind, Result.andThen]
theorem bclone (b n c : Nat) (f : Nat → Int) (x : Nat) (w : World) (hn : n ≤ 1000000) (hc : ∀ j, j < n → w.cell? ⟨b, j, none⟩ = some (.int .u8 (f (x + j)))) :
    Calls Tryz.prog 53 #[.slice (some ⟨b, 0, none⟩) n c] w fun e w' => ∃ v', e = .returned v' ∧ w'.ownsRow w.heap.size 5 1 v' n (bytesAt f x n) ∧ v' ≠ .slice none 0 0 ∧ Below w.heap.size w w' := by
  rw [bytesAt_ints]
  refine Tryz.bytes_Clone_at ⟨b, 0, none⟩ n c ((List.range n).map fun i => f (x + i)) w (by simp) (by omega) (fun i hi => ?_)
  rw [Go.WideShapes.add_plain, Nat.zero_add, hc i hi]
  simp [List.getD_eq_getElem?_getD, hi]
set_option maxHeartbeats 4000000 in
set_option maxRecDepth 100000 in
theorem copy_any (f : Nat → Int) (x y : Nat) (fv : Value) (w : World) (h : FindIs w fv f x y) (hy : 0 < y) (hy2 : y ≤ 4096) :
    Calls Tryz.prog 43 #[fv] w fun e w' => ∃ fv', e = .returned fv' ∧ FindIs w' fv' f x y ∧ Below w.heap.size w w' := by
  obtain ⟨g, c1, b, c2, rfl, hc2, hx, hyc, hbytes⟩ := h
  unfold findCells
  go_enter Tryz.func43, Tryz.ntmps43
  go_wp2
  obtain ⟨n1, n2, n3, n4⟩ := new_facts w #[Value.string kText, Value.slice none 0 0, Value.slice (some ⟨g, 0, none⟩) (1 : Nat) c1, Value.slice (some ⟨b, 0, none⟩) y c2, Value.string ⟨#[]⟩, Value.int IntKind.i64 0, Value.int IntKind.i64 4294967295] 55
  generalize w.alloc (.cells #[Value.string kText, Value.slice none 0 0, Value.slice (some ⟨g, 0, none⟩) (1 : Nat) c1, Value.slice (some ⟨b, 0, none⟩) y c2, Value.string ⟨#[]⟩, Value.int IntKind.i64 0, Value.int IntKind.i64 4294967295] 55) = W at *
  obtain ⟨m1, m2, m3, m4⟩ := new_facts W #[Value.string ⟨#[]⟩, Value.slice none 0 0, Value.slice none 0 0, Value.slice none 0 0, Value.string ⟨#[]⟩, Value.int IntKind.i64 0, Value.int IntKind.i64 0] 55
  have hb2 : Below w.heap.size w (W.alloc (.cells #[Value.string ⟨#[]⟩, Value.slice none 0 0, Value.slice none 0 0, Value.slice none 0 0, Value.string ⟨#[]⟩, Value.int IntKind.i64 0, Value.int IntKind.i64 0] 55)) := below_then n4 (by omega) m4
  have q1 := fun j u hu => kept_below m4 _ _ (n1 j u hu)
  have q2 := fun j => (m4.frozen (p := ⟨w.heap.size, j, none⟩) (by show w.heap.size < _; omega)).trans (n2 j)
  rw [n3] at m1 m2 m3
  generalize W.alloc (.cells #[Value.string ⟨#[]⟩, Value.slice none 0 0, Value.slice none 0 0, Value.slice none 0 0, Value.string ⟨#[]⟩, Value.int IntKind.i64 0, Value.int IntKind.i64 0] 55) = W2 at *
  have z1 : W2.drew.cell? ⟨w.heap.size, 1, none⟩ = some (.slice none 0 0) := q1 1 _ rfl
  have z2 : W2.drew.cell? ⟨w.heap.size, 2, none⟩ = some (.slice (some ⟨g, 0, none⟩) (1 : Nat) c1) := q1 2 _ rfl
  have z3 : W2.drew.cell? ⟨w.heap.size, 3, none⟩ = some (.slice (some ⟨b, 0, none⟩) y c2) := q1 3 _ rfl
  have hs := clone_span g 0 c1 x y W2.drew (kept_below hb2 _ _ hx) (kept_below hb2 _ _ hyc)
  have Hb2 := Lib.hid hb2
  have Hs := Lib.hid hs
  clear hs
  have Hbytes := Lib.hid hbytes
  have Hm1 := Lib.hid m1
  have Hq1 := Lib.hid q1
  have fm0 := m2
  have fq0 := q2
  clear hb2 hbytes m1 q1 n1 n2 n4 m4 hx hyc
  go_region_with (first | (go_at_call 32; refine (Tryz.slices_Clone_string_nil _ _ _).mono ?_; rintro e w3 ⟨rfl, rfl⟩) | (go_at_call 33; refine Hs.out.mono ?_; rintro e w4 ⟨v4, rfl, hown4, _, hb4⟩; obtain ⟨g4, c4, rfl, hc4, hg4, hbg4, hcells4⟩ := own_formp hown4 (by omega); have z34 := kept_below hb4 _ _ z3; clear hown4) | (go_at_call 53; refine (bclone b y c2 f x _ (by omega) (fun j hj => kept_below (below_then Hb2.out.drew Hb2.out.drew.size hb4) _ _ (Hbytes.out j hj))).mono ?_; rintro e w5 ⟨v5, rfl, hown5, _, hb5⟩; obtain ⟨g5, c5, rfl, hc5, hg5, hbg5, hcells5⟩ := own_formp hown5 hy; have hb25 : Below W2.heap.size W2 w5 := below_of_drew (below_then hb4 hb4.size hb5); have x1 : w5.cell? ⟨w.heap.size, 1, none⟩ = some (.slice none 0 0) := kept_below hb25 _ _ (Hq1.out 1 _ rfl); have x2 : w5.cell? ⟨w.heap.size, 2, none⟩ = some (.slice (some ⟨g, 0, none⟩) (1 : Nat) c1) := kept_below hb25 _ _ (Hq1.out 2 _ rfl); have x3 : w5.cell? ⟨w.heap.size, 3, none⟩ = some (.slice (some ⟨b, 0, none⟩) y c2) := kept_below hb25 _ _ (Hq1.out 3 _ rfl); have y1 := (hb25.frozen (p := ⟨w.heap.size, 1, none⟩) (by show w.heap.size < _; omega)).trans (fq0 1); have y2 := (hb25.frozen (p := ⟨w.heap.size, 2, none⟩) (by show w.heap.size < _; omega)).trans (fq0 2); have y3 := (hb25.frozen (p := ⟨w.heap.size, 3, none⟩) (by show w.heap.size < _; omega)).trans (fq0 3); clear hown5))
  all_goals
    have x0 : w5.cell? ⟨w.heap.size, 0, none⟩ = some (.string kText) := kept_below hb25 _ _ (Hq1.out 0 _ rfl)
    have x4 : w5.cell? ⟨w.heap.size, 4, none⟩ = some (.string ⟨#[]⟩) := kept_below hb25 _ _ (Hq1.out 4 _ rfl)
    have x5 : w5.cell? ⟨w.heap.size, 5, none⟩ = some (.int .i64 0) := kept_below hb25 _ _ (Hq1.out 5 _ rfl)
    have x6 : w5.cell? ⟨w.heap.size, 6, none⟩ = some (.int .i64 4294967295) := kept_below hb25 _ _ (Hq1.out 6 _ rfl)
    have r0 : w5.cell? ⟨w.heap.size + 1, 0, none⟩ = some (.string ⟨#[]⟩) := kept_below hb25 _ _ (Hm1.out 0 _ rfl)
    have r1 : w5.cell? ⟨w.heap.size + 1, 1, none⟩ = some (.slice none 0 0) := kept_below hb25 _ _ (Hm1.out 1 _ rfl)
    have r2 : w5.cell? ⟨w.heap.size + 1, 2, none⟩ = some (.slice none 0 0) := kept_below hb25 _ _ (Hm1.out 2 _ rfl)
    have r3 : w5.cell? ⟨w.heap.size + 1, 3, none⟩ = some (.slice none 0 0) := kept_below hb25 _ _ (Hm1.out 3 _ rfl)
    have r4 : w5.cell? ⟨w.heap.size + 1, 4, none⟩ = some (.string ⟨#[]⟩) := kept_below hb25 _ _ (Hm1.out 4 _ rfl)
    have r5 : w5.cell? ⟨w.heap.size + 1, 5, none⟩ = some (.int .i64 0) := kept_below hb25 _ _ (Hm1.out 5 _ rfl)
    have r6 : w5.cell? ⟨w.heap.size + 1, 6, none⟩ = some (.int .i64 0) := kept_below hb25 _ _ (Hm1.out 6 _ rfl)
    have hfr : ∀ j, w5.frozen? ⟨w.heap.size + 1, j, none⟩ = false := fun j => (hb25.frozen (p := ⟨w.heap.size + 1, j, none⟩) (by show w.heap.size + 1 < _; omega)).trans (fm0 j)
    have fr0 := hfr 0
    have fr1 := hfr 1
    have fr2 := hfr 2
    have fr3 := hfr 3
    have fr4 := hfr 4
    have fr5 := hfr 5
    have fr6 := hfr 6
    have hbe := below_then Hb2.out Hb2.out.size hb25
    have hg4b : W2.heap.size ≤ g4 := hbg4
    have hg5b : W2.heap.size ≤ g5 := Nat.le_trans (show W2.heap.size ≤ w4.heap.size from hb4.size) hbg5
    have d0 := kept_below hb5 _ _ (hcells4 0 _ rfl)
    have d1 := kept_below hb5 _ _ (hcells4 1 _ rfl)
    have Hbe := Lib.hid hbe
    have Hc5 := Lib.hid hcells5
    clear hfr hbe hbg4 hbg5 hb4 hb5 hb25 hcells4 hcells5 z1 z2 z3 z34 hg4 hg5 hc4 m2 q2 fm0 fq0
    have hn1 : g4 ≠ w.heap.size + 1 := by omega
    have hn2 : g5 ≠ w.heap.size + 1 := by omega
    have hn3 : g4 ≠ w.heap.size := by omega
    have hn4 : g5 ≠ w.heap.size := by omega
    go_wp2
    refine bodyPost_ret (v := .agg (findCells (.slice (some ⟨g4, 0, none⟩) (1 : Nat) c4) (.slice (some ⟨g5, 0, none⟩) y c5))) ?_ rfl ?_
    · rw [results_cell_one rfl]
      unfold findCells
      go_simp
    · refine ⟨_, rfl, ⟨g4, c4, g5, c5, rfl, hc5, ?_, ?_, fun j hj => ?_⟩, ?_⟩
      · simp only [cell_set_block _ _ hn1, cell_set_block _ _ hn3]
        exact d0
      · simp only [cell_set_block _ _ hn1, cell_set_block _ _ hn3]
        exact d1
      · simp only [cell_set_block _ _ hn2, cell_set_block _ _ hn4]
        refine Hc5.out j _ ?_
        unfold bytesAt
        rw [List.getElem?_map, List.getElem?_eq_getElem (by simpa using hj)]
        simp
      · repeat (refine Below.setCell ?_ (by first | (show w.heap.size ≤ w.heap.size; omega) | (show w.heap.size ≤ w.heap.size + 1; omega)) _)
        exact Hbe.out
end Go.Proofs.YthcbchgdfldckaaGreatDoor
