/- The walk of report.Make at one finding. -/
import Derived.Test.YthcbchgdfldckaaGreatDoorReport3
namespace Go.Proofs.YthcbchgdfldckaaGreatDoor
open Go.RowKit Go.Lib
attribute [local go_sem ↓] Go.wp_at_zero Go.wp_at_succ

/-- What the loop keeps: the report at block M, its findings: none, or one. -/
def MakeAt (M : Nat) (f : Nat → Int) (x y : Nat) (h : Int) (k : Nat) (w : World) : Prop :=
  w.cell? ⟨M, 0, none⟩ = some (.string sA) ∧ w.cell? ⟨M, 1, none⟩ = some (.int .u64 h) ∧ w.frozen? ⟨M, 2, none⟩ = false ∧
  ((k = 0 ∧ w.cell? ⟨M, 2, none⟩ = some (.slice none 0 0)) ∨ (k = 1 ∧ ∃ G c fv, w.cell? ⟨M, 2, none⟩ = some (.slice (some ⟨G, 0, none⟩) (1 : Nat) c) ∧ RowF w G fv ∧ FindIs w fv f x y))
theorem kept_set {w : World} {p : Addr} {v : Value} (h : w.cell? p = some v) : Kept w (w.setCell p v) := fun a u e => by
  by_cases hap : a = p
  · subst hap
    rw [h] at e
    cases e
    exact World.cell?_setCell_same _ _ _ h
  · rw [World.cell?_setCell_other _ _ _ _ (by first | exact hap | exact fun h => hap h.symm)]
    exact e
theorem make_after (w5 W3 : World) (M : Nat) (f : Nat → Int) (x y : Nat) (h : Int) (A' B' old : Value) (cap : Nat) (Z : Array Value) (t : TypeId) (o1 : Obj) (hfv : FindIs w5 (.agg (findCells A' B')) f x y) (hy0 : 0 < y)
    (a0 : w5.cell? ⟨M, 0, none⟩ = some (.string sA)) (a1 : w5.cell? ⟨M, 1, none⟩ = some (.int .u64 h)) (a2 : w5.frozen? ⟨M, 2, none⟩ = false) (a3 : w5.cell? ⟨M, 2, none⟩ = some old) (hb : Below M W3 w5) :
    MakeAt M f x y h 1 (((w5.setCell ⟨M, 2, none⟩ (.slice (some ⟨w5.heap.size + 1, 0, none⟩) (1 : Nat) cap)).alloc o1).alloc (.cells (findCells A' B' ++ Z) t)).drew ∧
    Below M W3 (((w5.setCell ⟨M, 2, none⟩ (.slice (some ⟨w5.heap.size + 1, 0, none⟩) (1 : Nat) cap)).alloc o1).alloc (.cells (findCells A' B' ++ Z) t)).drew ∧
    w5.heap.size ≤ (((w5.setCell ⟨M, 2, none⟩ (.slice (some ⟨w5.heap.size + 1, 0, none⟩) (1 : Nat) cap)).alloc o1).alloc (.cells (findCells A' B' ++ Z) t)).drew.heap.size := by
  have hM : M < w5.heap.size := World.block_lt_of_cell? w5 _ a0
  obtain ⟨g, c1, b, c2, e, hc2, hx, hy, hbytes⟩ := hfv
  obtain ⟨rfl, rfl⟩ := findCells_inj e
  have hg : g ≠ M := fun e => by subst e; rw [a0] at hx; cases hx
  have hbM : b ≠ M := fun e => by subst e; have := hbytes 0 hy0; rw [a0] at this; cases this
  have hs1 : (w5.setCell ⟨M, 2, none⟩ (.slice (some ⟨w5.heap.size + 1, 0, none⟩) (1 : Nat) cap)).heap.size = w5.heap.size := by simp
  have e5 : (w5.setCell ⟨M, 2, none⟩ (.slice (some ⟨w5.heap.size + 1, 0, none⟩) (1 : Nat) cap)).cell? ⟨M, 2, none⟩ = some (.slice (some ⟨w5.heap.size + 1, 0, none⟩) (1 : Nat) cap) := World.cell?_setCell_same _ _ _ a3
  have e0 : (w5.setCell ⟨M, 2, none⟩ (.slice (some ⟨w5.heap.size + 1, 0, none⟩) (1 : Nat) cap)).cell? ⟨M, 0, none⟩ = some (.string sA) := by rw [World.cell?_setCell_other _ _ _ _ (by intro h; simp only [Addr.mk.injEq] at h; omega)]; exact a0
  have e1 : (w5.setCell ⟨M, 2, none⟩ (.slice (some ⟨w5.heap.size + 1, 0, none⟩) (1 : Nat) cap)).cell? ⟨M, 1, none⟩ = some (.int .u64 h) := by rw [World.cell?_setCell_other _ _ _ _ (by intro h; simp only [Addr.mk.injEq] at h; omega)]; exact a1
  have e2 : (w5.setCell ⟨M, 2, none⟩ (.slice (some ⟨w5.heap.size + 1, 0, none⟩) (1 : Nat) cap)).frozen? ⟨M, 2, none⟩ = false := (World.frozen?_setCell w5 _ _ _).trans a2
  have ex : (w5.setCell ⟨M, 2, none⟩ (.slice (some ⟨w5.heap.size + 1, 0, none⟩) (1 : Nat) cap)).cell? ⟨g, 0, none⟩ = some (.int .i64 x) := by rw [cell_set_block _ _ hg]; exact hx
  have ey : (w5.setCell ⟨M, 2, none⟩ (.slice (some ⟨w5.heap.size + 1, 0, none⟩) (1 : Nat) cap)).cell? ⟨g, 1, none⟩ = some (.int .i64 y) := by rw [cell_set_block _ _ hg]; exact hy
  have eb : ∀ j, j < y → (w5.setCell ⟨M, 2, none⟩ (.slice (some ⟨w5.heap.size + 1, 0, none⟩) (1 : Nat) cap)).cell? ⟨b, j, none⟩ = some (.int .u8 (f (x + j))) := fun j hj => by rw [cell_set_block _ _ hbM]; exact hbytes j hj
  have hb1 : Below M W3 (w5.setCell ⟨M, 2, none⟩ (.slice (some ⟨w5.heap.size + 1, 0, none⟩) (1 : Nat) cap)) := hb.setCell (by show M ≤ M; omega) _
  generalize w5.setCell ⟨M, 2, none⟩ (.slice (some ⟨w5.heap.size + 1, 0, none⟩) (1 : Nat) cap) = V at *
  have hbo := (Below.refl V.heap.size V).alloc (Nat.le_refl _) o1
  obtain ⟨n1, n2, n3, n4⟩ := new_facts (V.alloc o1) (findCells (.slice (some ⟨g, 0, none⟩) (1 : Nat) c1) (.slice (some ⟨b, 0, none⟩) y c2) ++ Z) t
  have hso : (V.alloc o1).heap.size = w5.heap.size + 1 := by simp [hs1]
  rw [hso] at n1 n2 n3
  have hbV := below_then hbo hbo.size n4
  have hszV := hbV.size
  refine ⟨⟨kept_below hbV _ _ e0, kept_below hbV _ _ e1, (hbV.frozen (p := ⟨M, 2, none⟩) (by show M < V.heap.size; omega)).trans e2, .inr ⟨rfl, w5.heap.size + 1, cap, _, kept_below hbV _ _ e5, ⟨_, _, rfl, fun j u hu => ?_⟩, ⟨g, c1, b, c2, rfl, hc2, kept_below hbV _ _ ex, kept_below hbV _ _ ey, fun j hj => kept_below hbV _ _ (eb j hj)⟩⟩⟩, (hb1.trans (hbV.mono (by omega))).drew, by rw [← hs1]; exact hszV⟩
  refine n1 j u ?_
  rw [Array.getElem?_append]
  have hj := (Array.getElem?_eq_some_iff.1 hu).1
  rw [if_pos hj]
  exact hu
set_option maxHeartbeats 4000000 in
set_option maxRecDepth 100000 in
theorem rmake_any (b n c : Nat) (f : Nat → Int) (x y lf lc : Nat) (fv : Value) (w : World) (hc : ∀ i, i < n → w.cell? ⟨b, i, none⟩ = some (.int .u8 (f i))) (hf : ∀ i, 0 ≤ f i ∧ f i < 256) (hn : n ≤ 65536)
    (hv : FindIs w fv f x y) (hl : RowF w lf fv) (hxy : x + y ≤ n) (hy : 0 < y) (hy2 : y ≤ 4096) :
    Calls Tryz.prog 21 #[.string sA, .slice (some ⟨b, 0, none⟩) n c, .slice (some ⟨lf, 0, none⟩) (1 : Nat) lc] w fun e w' => ∃ h A d, e = .returned (.tuple #[.agg #[.string sA, .int .u64 h, .slice A (1 : Nat) d], .int .i64 0]) ∧ Below w.heap.size w w' := by
  obtain ⟨g1, c1, b1, c2, rfl, hv'⟩ := hv
  have hv : FindIs w (.agg (findCells (.slice (some ⟨g1, 0, none⟩) (1 : Nat) c1) (.slice (some ⟨b1, 0, none⟩) y c2))) f x y := ⟨g1, c1, b1, c2, rfl, hv'⟩
  clear hv'
  go_enter Tryz.func21, Tryz.ntmps21
  go_wp2_with fail
  obtain ⟨n1, n2, n3, n4⟩ := new_facts w #[Value.string ⟨#[]⟩, Value.int .u64 0, Value.slice none 0 0] 72
  generalize w.alloc (.cells #[Value.string ⟨#[]⟩, Value.int .u64 0, Value.slice none 0 0] 72) = W at *
  refine (of_any b n c f W (fun i hi => kept_below n4 _ _ (hc i hi)) hn (by omega)).mono ?_
  rintro e w2 ⟨B, rfl, hi2, hb2⟩
  have hb02 := below_then n4 n4.size hb2
  go_wp2_with fail
  refine (hash_any b n c f w2 (fun i hi => kept_below hb02 _ _ (hc i hi)) hf hn).mono ?_
  rintro e w3 ⟨h, rfl, h0, h1, rfl⟩
  have y0 := fun j u hu => kept_below hb2 _ _ (n1 j u hu)
  have yf := fun j => (hb2.frozen (p := ⟨w.heap.size, j, none⟩) (by show w.heap.size < _; omega)).trans (n2 j)
  have hv2 := hv.kept (kept_below hb02)
  have hl2 := hl.kept (kept_below hb02)
  have hs2 := hb02.size
  obtain ⟨m1, m2, m3, m4⟩ := new_facts w3 #[Value.string sA, Value.int .u64 h, Value.slice none 0 0] 72
  have Hhc := Lib.hid hc
  have Hi2 := Lib.hid hi2
  have Hv2 := Lib.hid hv2
  have Hl2 := Lib.hid hl2
  have Hb02 := Lib.hid hb02
  have Hy0 := Lib.hid y0
  have Hyf := Lib.hid yf
  clear hc hi2 hv2 hl2 hb02 y0 yf hb2 n1 n2 n4 hv hl
  go_wp2
  generalize w3.alloc (.cells #[Value.string sA, Value.int .u64 h, Value.slice none 0 0] 72) = W3 at *
  have ha0 : MakeAt w3.heap.size f x y h 0 W3 := ⟨m1 0 _ rfl, m1 1 _ rfl, m2 2, .inl ⟨rfl, m1 2 _ rfl⟩⟩
  have Hm4 := Lib.hid m4
  clear m1 m2 m4
  go_loopw [30] (fun s30 wr => ∃ k : Nat, k ≤ 1 ∧ s30 = .int .i64 k ∧ MakeAt w3.heap.size f x y h k wr ∧ Below w3.heap.size W3 wr ∧ W3.heap.size ≤ wr.heap.size) (fun s30 _ => 1 - (intOf s30).toNat)
  case atStart => exact ⟨0, by omega, rfl, ha0, Below.refl _ _, Nat.le_refl _⟩
  case round =>
    obtain ⟨k, hk, rfl, ⟨a0, a1, a2, ha⟩, hbr, hsz⟩ := hrel
    have hb3r : Below w3.heap.size w3 wr := Hm4.out.trans hbr
    rcases (by omega : k = 0 ∨ k = 1) with rfl | rfl
    · have a3 : wr.cell? ⟨w3.heap.size, 2, none⟩ = some (.slice none 0 0) := by
        rcases ha with ⟨_, h⟩ | ⟨h, _⟩
        · exact h
        · cases h
      have hvr := Hv2.out.kept (kept_below hb3r)
      obtain ⟨A, B', e, hcs⟩ := Hl2.out.kept (kept_below hb3r)
      obtain ⟨rfl, rfl⟩ := findCells_inj e
      clear e
      have l0 : wr.cell? ⟨lf, 0, none⟩ = some (.string kText) := hcs 0 _ rfl
      have l1 : wr.cell? ⟨lf, 1, none⟩ = some (.slice none 0 0) := hcs 1 _ rfl
      have l2 : wr.cell? ⟨lf, 2, none⟩ = some (.slice (some ⟨g1, 0, none⟩) (1 : Nat) c1) := hcs 2 _ rfl
      have l3 : wr.cell? ⟨lf, 3, none⟩ = some (.slice (some ⟨b1, 0, none⟩) y c2) := hcs 3 _ rfl
      have l4 : wr.cell? ⟨lf, 4, none⟩ = some (.string ⟨#[]⟩) := hcs 4 _ rfl
      have l5 : wr.cell? ⟨lf, 5, none⟩ = some (.int .i64 0) := hcs 5 _ rfl
      have l6 : wr.cell? ⟨lf, 6, none⟩ = some (.int .i64 4294967295) := hcs 6 _ rfl
      have hcheck := fun W hi hv => fcheck_any B n f x y (.agg (findCells (.slice (some ⟨g1, 0, none⟩) (1 : Nat) c1) (.slice (some ⟨b1, 0, none⟩) y c2))) W hi hv hxy hy hy2 hn
      have hcopy := fun W hv => copy_any f x y (.agg (findCells (.slice (some ⟨g1, 0, none⟩) (1 : Nat) c1) (.slice (some ⟨b1, 0, none⟩) y c2))) W hv hy hy2
      unfold findCells at hcheck hcopy
      have Hcheck := Lib.hid hcheck
      have Hcopy := Lib.hid hcopy
      clear ha hcs hcheck hcopy
      have Hvr := Lib.hid hvr
      have Hb3r := Lib.hid hb3r
      have Hbr := Lib.hid hbr
      clear hvr hb3r hbr
      go_wp2_with fail
      obtain ⟨p1, p2, p3, p4⟩ := new_facts wr #[Value.string kText, Value.slice none 0 0, Value.slice (some ⟨g1, 0, none⟩) (1 : Nat) c1, Value.slice (some ⟨b1, 0, none⟩) y c2, Value.string ⟨#[]⟩, Value.int IntKind.i64 0, Value.int IntKind.i64 4294967295] 55
      generalize wr.alloc (.cells #[Value.string kText, Value.slice none 0 0, Value.slice (some ⟨g1, 0, none⟩) (1 : Nat) c1, Value.slice (some ⟨b1, 0, none⟩) y c2, Value.string ⟨#[]⟩, Value.int IntKind.i64 0, Value.int IntKind.i64 4294967295] 55) = W4 at *
      have hb34 : Below w3.heap.size w3 W4 := Hb3r.out.trans (p4.mono (by omega))
      refine (Hcheck.out W4 (Hi2.out.kept (kept_below hb34)) (Hv2.out.kept (kept_below hb34))).mono ?_
      rintro e w5 ⟨rfl, hb5⟩
      have hbr5 : Below wr.heap.size wr w5 := below_then p4 (by omega) hb5
      have q0 : w5.cell? ⟨wr.heap.size, 0, none⟩ = some (.string kText) := kept_below hb5 _ _ (p1 0 _ rfl)
      have q1 : w5.cell? ⟨wr.heap.size, 1, none⟩ = some (.slice none 0 0) := kept_below hb5 _ _ (p1 1 _ rfl)
      have q2 : w5.cell? ⟨wr.heap.size, 2, none⟩ = some (.slice (some ⟨g1, 0, none⟩) (1 : Nat) c1) := kept_below hb5 _ _ (p1 2 _ rfl)
      have q3 : w5.cell? ⟨wr.heap.size, 3, none⟩ = some (.slice (some ⟨b1, 0, none⟩) y c2) := kept_below hb5 _ _ (p1 3 _ rfl)
      have q4 : w5.cell? ⟨wr.heap.size, 4, none⟩ = some (.string ⟨#[]⟩) := kept_below hb5 _ _ (p1 4 _ rfl)
      have q5 : w5.cell? ⟨wr.heap.size, 5, none⟩ = some (.int .i64 0) := kept_below hb5 _ _ (p1 5 _ rfl)
      have q6 : w5.cell? ⟨wr.heap.size, 6, none⟩ = some (.int .i64 4294967295) := kept_below hb5 _ _ (p1 6 _ rfl)
      have hMr : w3.heap.size < wr.heap.size := by omega
      have a05 := kept_below hbr5 _ _ a0
      have a15 := kept_below hbr5 _ _ a1
      have a35 := kept_below hbr5 _ _ a3
      have a25 := (hbr5.frozen (p := ⟨w3.heap.size, 2, none⟩) hMr).trans a2
      have hs5 := hbr5.size
      have Hb35 := Lib.hid (Hb3r.out.trans (hbr5.mono (Nat.le_of_lt hMr)))
      have HbW5 := Lib.hid (Hbr.out.trans (hbr5.mono (Nat.le_of_lt hMr)))
      have hcp := Hcopy.out w5.drew (Hv2.out.kept (kept_below Hb35.out.drew))
      have Hcp := Lib.hid hcp
      clear hcp p1 p2 p4 hb34 hb5 hbr5 a0 a1 a2 a3 l0 l1 l2 l3 l4 l5 l6
      go_wp2
      have z0 : w5.drew.cell? ⟨wr.heap.size, 0, none⟩ = some (.string kText) := q0
      have z1 : w5.drew.cell? ⟨wr.heap.size, 1, none⟩ = some (.slice none 0 0) := q1
      have z2 : w5.drew.cell? ⟨wr.heap.size, 2, none⟩ = some (.slice (some ⟨g1, 0, none⟩) (1 : Nat) c1) := q2
      have z3 : w5.drew.cell? ⟨wr.heap.size, 3, none⟩ = some (.slice (some ⟨b1, 0, none⟩) y c2) := q3
      have z4 : w5.drew.cell? ⟨wr.heap.size, 4, none⟩ = some (.string ⟨#[]⟩) := q4
      have z5 : w5.drew.cell? ⟨wr.heap.size, 5, none⟩ = some (.int .i64 0) := q5
      have z6 : w5.drew.cell? ⟨wr.heap.size, 6, none⟩ = some (.int .i64 4294967295) := q6
      have y3 : w5.drew.cell? ⟨w3.heap.size, 2, none⟩ = some (.slice none 0 0) := a35
      have y2 : w5.drew.frozen? ⟨w3.heap.size, 2, none⟩ = false := a25
      have hM5 : w3.heap.size < w5.heap.size := by omega
      clear q0 q1 q2 q3 q4 q5 q6
      go_region_with (first | (go_at_call 43; refine Hcp.out.mono ?_; rintro e w6 ⟨fv6, rfl, ⟨g6, c6, b6, d6, rfl, hf6⟩, hb6⟩; have y36 := kept_below hb6 _ _ y3; have y26 := (hb6.frozen (p := ⟨w3.heap.size, 2, none⟩) hM5).trans y2; have hs6 : w5.heap.size ≤ w6.heap.size := hb6.size; have hM6 : w3.heap.size < w6.heap.size := Nat.lt_of_lt_of_le hM5 hs6; have hn6 : w3.heap.size ≠ w6.heap.size := Nat.ne_of_lt hM6; have hn7 : w3.heap.size ≠ w6.heap.size + 1 := Nat.ne_of_lt (Nat.lt_succ_of_lt hM6); unfold findCells))
      all_goals
        have hb56 : Below w5.heap.size w5 w6 := below_of_drew hb6
        have a06 := kept_below hb56 _ _ a05
        have a16 := kept_below hb56 _ _ a15
        have hbW6 := HbW5.out.trans (hb56.mono (Nat.le_of_lt hM5))
        have hfin := fun cap Z t o1 => make_after w6 W3 w3.heap.size f x y h (.slice (some ⟨g6, 0, none⟩) (1 : Nat) c6) (.slice (some ⟨b6, 0, none⟩) y d6) _ cap Z t o1 ⟨g6, c6, b6, d6, rfl, hf6⟩ hy a06 a16 y26 y36 hbW6
        have Hfin := Lib.hid hfin
        clear hfin hf6 hb6 hb56 hbW6 y3 y2 z0 z1 z2 z3 z4 z5 z6
        go_wp2
        refine ⟨⟨1, by omega, by go_num, ?_⟩, by simp [intOf]⟩
        obtain ⟨r1, r2, r3⟩ := Hfin.out ((Question.appendCap 1 0 55).cut (w6.tape w6.drawn (Question.appendCap 1 0 55))) _ _ _
        exact ⟨r1, r2, Nat.le_trans (show W3.heap.size ≤ w6.heap.size by omega) r3⟩
    · obtain ⟨G, c, fv, a3, hrow, hfi⟩ : ∃ G c fv, wr.cell? ⟨w3.heap.size, 2, none⟩ = some (.slice (some ⟨G, 0, none⟩) (1 : Nat) c) ∧ RowF wr G fv ∧ FindIs wr fv f x y := by
        rcases ha with ⟨h, _⟩ | ⟨_, h⟩
        · cases h
        · exact h
      have hchk := fun W hf hl => rcheck_any f x y fv h G c W hf hl hy2
      have Hchk := Lib.hid hchk
      have Hrow := Lib.hid hrow
      have Hfi := Lib.hid hfi
      have Hb3r := Lib.hid hb3r
      clear ha hchk hrow hfi hb3r hbr
      go_wp2_with fail
      refine (sort_find (some ⟨G, 0, none⟩) 1 c _ wr (by omega)).mono ?_
      rintro e w5 ⟨rfl, rfl⟩
      go_wp2_with fail
      refine (compact_find (some ⟨G, 0, none⟩) 1 c _ w5 (by omega)).mono ?_
      rintro e w6 ⟨rfl, rfl⟩
      go_wp2_with fail
      have hks := kept_set a3
      have hbs : Below w3.heap.size w3 (w6.setCell ⟨w3.heap.size, 2, none⟩ (.slice (some ⟨G, 0, none⟩) (1 : Nat) c)) := Hb3r.out.setCell (by show w3.heap.size ≤ w3.heap.size; omega) _
      have v0 := hks _ _ a0
      have v1 := hks _ _ a1
      have v2 := hks _ _ a3
      have hrowV := Hrow.out.kept hks
      have hfiV := Hfi.out.kept hks
      have hszV : (w6.setCell ⟨w3.heap.size, 2, none⟩ (.slice (some ⟨G, 0, none⟩) (1 : Nat) c)).heap.size = w6.heap.size := by simp
      generalize w6.setCell ⟨w3.heap.size, 2, none⟩ (.slice (some ⟨G, 0, none⟩) (1 : Nat) c) = V at *
      refine (Hchk.out V hfiV hrowV).mono ?_
      rintro e w7 ⟨rfl, hb7⟩
      have u0 := kept_below hb7 _ _ v0
      have u1 := kept_below hb7 _ _ v1
      have u2 := kept_below hb7 _ _ v2
      have hb37 : Below w3.heap.size w3 w7 := hbs.trans (hb7.mono (by omega))
      have x0 : w7.cell? ⟨w.heap.size, 0, none⟩ = some (.string ⟨#[]⟩) := kept_below hb37 _ _ (Hy0.out 0 _ rfl)
      have x1 : w7.cell? ⟨w.heap.size, 1, none⟩ = some (.int .u64 0) := kept_below hb37 _ _ (Hy0.out 1 _ rfl)
      have x2 : w7.cell? ⟨w.heap.size, 2, none⟩ = some (.slice none 0 0) := kept_below hb37 _ _ (Hy0.out 2 _ rfl)
      have hyl : w.heap.size < w3.heap.size := World.block_lt_of_cell? w3 _ (Hy0.out 0 _ rfl)
      have f0 := (hb37.frozen (p := ⟨w.heap.size, 0, none⟩) hyl).trans (Hyf.out 0)
      have f1 := (hb37.frozen (p := ⟨w.heap.size, 1, none⟩) hyl).trans (Hyf.out 1)
      have f2 := (hb37.frozen (p := ⟨w.heap.size, 2, none⟩) hyl).trans (Hyf.out 2)
      have hbe : Below w.heap.size w w7 := Hb02.out.trans (hb37.mono hs2)
      have Hbe := Lib.hid hbe
      clear hks hbs v0 v1 v2 hrowV hfiV hb7 hb37 hbe a0 a1 a2 a3
      go_wp2
      refine bodyPost_ret (v := .tuple #[.agg #[.string sA, .int .u64 h, .slice (some ⟨G, 0, none⟩) (1 : Nat) c], .int .i64 0]) ?_ rfl ?_
      · rw [results_cell_tmp rfl]
        go_simp
      · refine ⟨h, some ⟨G, 0, none⟩, c, rfl, ?_⟩
        repeat (refine Below.setCell ?_ (by show w.heap.size ≤ w.heap.size; omega) _)
        exact Hbe.out
end Go.Proofs.YthcbchgdfldckaaGreatDoor
