/- The walk of TopTiesMore. -/
import Derived.Test.YthcbchgdfldckaaGreatDoorG3
import Derived.Test.YthcbchgdfldckaaGreatDoorFault
import Derived.Test.YthcbchgdfldckaaGreatDoorSolved
import Derived.Test.YthcbchgdfldckaaGreatDoorPlain
import Derived.Test.YthcbchgdfldckaaGreatDoorPairEq
import Derived.Test.YthcbchgdfldckaaGreatDoorRowFlat
import Derived.Test.YthcbchgdfldckaaGreatDoorRaw
import Derived.Deep.DeepCutAuto
import Derived.Deep.CutBlock
namespace Go.Proofs.YthcbchgdfldckaaGreatDoor
open Go.RowKit ClkM

theorem Tryz.info28 : (Tryz.prog.info? 28).map (fun i => (i.zero, i.size, i.bytes)) = some (some (.agg #[.int .i64 0, .int .i64 0, .int .i64 0, .int .i64 0]), 4, 32) := by kernel_rfl
theorem ti_one {l : List Ti} {n : Nat} : ∀ u ∈ flatN n (fun i => (l.getD i dTi).cells), u.oneCell' = true := fun u hu => by
  obtain ⟨i, _, h⟩ := flatN_mem hu
  simp [Ti.cells] at h
  rcases h with rfl | rfl | rfl | rfl <;> rfl
theorem clone_ties (b o c : Nat) (l : List Ti) (w : World) (h : TisAt w (some ⟨b, o, none⟩) l) (hl : l.length ≤ 1000) :
    Calls Tryz.prog 9 #[.slice (some ⟨b, o, none⟩) l.length c] w fun e w' => ∃ v', e = .returned v' ∧ w'.ownsRow w.heap.size 28 4 v' l.length (flatN l.length fun i => (l.getD i dTi).cells) ∧ v' ≠ .slice none 0 0 ∧ Below w.heap.size w w' := by
  obtain ⟨i0, hi, z0, z1, z2⟩ := info_of Tryz.info28
  exact Tryz.slices_Clone_tie i0 _ 4 32 hi z0 z1 z2 rfl (by omega) (fun w => Tryz.sizeOf28 w) b o l.length c _ w (flatN_length (fun i => Ti.cells_length l i) _) (by simp only [maxLen]; omega) (by omega) (RowAt.news (fun i => Ti.cells_length l i) (by omega) h) ti_one
/-- What the choice of the tie leaves: tie z at block g. -/
def CutMore (w0 : World) (g : Nat) (z : Ti) (w : World) : Prop := Below g w0 w ∧ ∀ (j : Nat) u, z.cells[j]? = some u → w.cell? ⟨g, j, none⟩ = some u
theorem cell_far {w : World} {g i j : Nat} (v : Value) (h : i ≠ j) : (w.setCell ⟨g, i, none⟩ v).cell? ⟨g, j, none⟩ = w.cell? ⟨g, j, none⟩ :=
  World.cell?_setCell_other _ _ _ _ (by intro e; simp only [Addr.mk.injEq] at e; omega)
theorem cut_all {w0 w : World} {g : Nat} {z : Ti} {u0 u1 u2 u3 : Value} (hb : Below g w0 w) (d0 : w.cell? ⟨g, 0, none⟩ = some u0) (d1 : w.cell? ⟨g, 1, none⟩ = some u1) (d2 : w.cell? ⟨g, 2, none⟩ = some u2) (d3 : w.cell? ⟨g, 3, none⟩ = some u3) :
    CutMore w0 g z ((((w.setCell ⟨g, 0, none⟩ (.int .i64 z.a)).setCell ⟨g, 1, none⟩ (.int .i64 z.b)).setCell ⟨g, 2, none⟩ (.int .i64 z.low)).setCell ⟨g, 3, none⟩ (.int .i64 z.high)) := by
  refine ⟨(((hb.setCell (by show g ≤ g; omega) _).setCell (by show g ≤ g; omega) _).setCell (by show g ≤ g; omega) _).setCell (by show g ≤ g; omega) _, fun j u hu => ?_⟩
  have h1 : (w.setCell ⟨g, 0, none⟩ (.int .i64 z.a)).cell? ⟨g, 1, none⟩ = some u1 := by rw [cell_far _ (by omega)]; exact d1
  have h2 : ((w.setCell ⟨g, 0, none⟩ (.int .i64 z.a)).setCell ⟨g, 1, none⟩ (.int .i64 z.b)).cell? ⟨g, 2, none⟩ = some u2 := by rw [cell_far _ (by omega), cell_far _ (by omega)]; exact d2
  have h3 : (((w.setCell ⟨g, 0, none⟩ (.int .i64 z.a)).setCell ⟨g, 1, none⟩ (.int .i64 z.b)).setCell ⟨g, 2, none⟩ (.int .i64 z.low)).cell? ⟨g, 3, none⟩ = some u3 := by rw [cell_far _ (by omega), cell_far _ (by omega), cell_far _ (by omega)]; exact d3
  rcases j with _ | _ | _ | _ | j
  · simp [Ti.cells] at hu; subst hu
    rw [cell_far _ (by omega), cell_far _ (by omega), cell_far _ (by omega)]; exact World.cell?_setCell_same _ _ _ d0
  · simp [Ti.cells] at hu; subst hu
    rw [cell_far _ (by omega), cell_far _ (by omega)]; exact World.cell?_setCell_same _ _ _ h1
  · simp [Ti.cells] at hu; subst hu
    rw [cell_far _ (by omega)]; exact World.cell?_setCell_same _ _ _ h2
  · simp [Ti.cells] at hu; subst hu
    exact World.cell?_setCell_same _ _ _ h3
  · simp [Ti.cells] at hu
theorem cut_two {w0 w : World} {g : Nat} {z : Ti} {u2 u3 : Value} (hb : Below g w0 w) (d0 : w.cell? ⟨g, 0, none⟩ = some (.int .i64 z.a)) (d1 : w.cell? ⟨g, 1, none⟩ = some (.int .i64 z.b)) (d2 : w.cell? ⟨g, 2, none⟩ = some u2) (d3 : w.cell? ⟨g, 3, none⟩ = some u3) :
    CutMore w0 g z ((w.setCell ⟨g, 2, none⟩ (.int .i64 z.low)).setCell ⟨g, 3, none⟩ (.int .i64 z.high)).drew := by
  refine ⟨((hb.setCell (by show g ≤ g; omega) _).setCell (by show g ≤ g; omega) _).drew, fun j u hu => ?_⟩
  have h3 : (w.setCell ⟨g, 2, none⟩ (.int .i64 z.low)).cell? ⟨g, 3, none⟩ = some u3 := by rw [cell_far _ (by omega)]; exact d3
  show ((w.setCell ⟨g, 2, none⟩ (.int .i64 z.low)).setCell ⟨g, 3, none⟩ (.int .i64 z.high)).cell? ⟨g, j, none⟩ = some u
  rcases j with _ | _ | _ | _ | j
  · simp [Ti.cells] at hu; subst hu
    rw [cell_far _ (by omega), cell_far _ (by omega)]; exact d0
  · simp [Ti.cells] at hu; subst hu
    rw [cell_far _ (by omega), cell_far _ (by omega)]; exact d1
  · simp [Ti.cells] at hu; subst hu
    rw [cell_far _ (by omega)]; exact World.cell?_setCell_same _ _ _ d2
  · simp [Ti.cells] at hu; subst hu
    exact World.cell?_setCell_same _ _ _ h3
  · simp [Ti.cells] at hu
theorem own_ties {w : World} {base g c : Nat} {l : List Ti} {z : Ti} (h : w.ownsRow base 28 4 (.slice (some ⟨g, 0, none⟩) (l.length + 1) c) (l.length + 1) (flatN l.length (fun i => (l.getD i dTi).cells) ++ [.int .i64 z.a, .int .i64 z.b, .int .i64 z.low, .int .i64 z.high])) :
    TisAt w (some ⟨g, 0, none⟩) (l ++ [z]) := by
  have e := flat_snoc_ti l z
  rw [List.length_append, List.length_singleton] at e
  have h2 : w.ownsRow base 28 4 (.slice (some ⟨g, 0, none⟩) (l.length + 1) c) (l.length + 1) (flatN (l.length + 1) (fun i => ((l ++ [z]).getD i dTi).cells)) := by rw [e]; exact h
  have := row_own (fun i => Ti.cells_length (l ++ [z]) i) h2
  obtain ⟨A, c', (⟨e1, e2, _⟩ | ⟨e1, _⟩)⟩ := this
  · simp only [Value.slice.injEq] at e1
    unfold TisAt
    rw [List.length_append, List.length_singleton, e1.1]
    exact e2
  · omega
theorem out_len {l : List Ev} {ties : List Ti} {fs : List Q} {e : Int} {L : List (Int × Int)} (h : Out l ties fs e L) : L.length ≤ fs.length := by
  rcases h with ⟨_, _, rfl⟩ | ⟨_, ⟨_, rfl, _⟩ | ⟨_, _, h, _⟩⟩
  · simp
  · simp
  · omega
set_option maxHeartbeats 8000000 in
set_option maxRecDepth 100000 in
theorem more_any (A B : Option Addr) (ca cb : Nat) (l : List Ev) (ties : List Ti) (wh ot wi m : Int) (w : World) (h : EvsAt w A l) (h2 : TisAt w B ties) (hcap : l.length ≤ ca) (hok : EvOk l)
    (hm : w.cell? ⟨0, 0, none⟩ = some (.int .i64 m)) (hz : w.cell? ⟨3, 15, none⟩ = some (.int .u8 4))
    (hwh : -9223372036854775808 ≤ wh ∧ wh ≤ 9223372036854775807) (hot : -9223372036854775808 ≤ ot ∧ ot ≤ 9223372036854775807) (hwi : -9223372036854775808 ≤ wi ∧ wi ≤ 9223372036854775807) :
    Calls Tryz.prog 3 #[.slice A l.length ca, .slice B ties.length cb, .int .i64 wh, .int .i64 ot, .int .i64 wi] w fun e w' => e = .returned (.bool true) ∧ Below w.heap.size w w' := by
  have Hh := Lib.hid h
  have Hh2 := Lib.hid h2
  have Hm := Lib.hid hm
  have Hz := Lib.hid hz
  have Hok := Lib.hid hok
  clear h h2 hm hz hok
  go_enter Tryz.func3, Tryz.ntmps3
  go_wp2_with fail
  refine (g3_any m w Hm.out Hz.out).mono ?_
  rintro e w1 ⟨rfl, hb1⟩
  go_wp2_with fail
  refine (clockFault_any A B ca cb l ties w1 (Hh.out.kept (kept_below hb1)) (Hh2.out.kept (kept_below hb1)) hcap Hok.out).mono ?_
  rintro e w2 ⟨E, rfl, hb2, hR⟩
  have hb02 := below_then hb1 hb1.size hb2
  have Hb02 := Lib.hid hb02
  have HR := Lib.hid hR
  clear hb1 hb2 hb02 hR
  by_cases hE : E = 0
  · subst hE
    by_cases hn0 : ties.length = 0
    · have hn0' : ((ties.length : Int) == 0) = true := by simp [hn0]
      go_wp2_with fail
      refine (g3_any m w2 (kept_below Hb02.out _ _ Hm.out) (kept_below Hb02.out _ _ Hz.out)).mono ?_
      rintro e w3 ⟨rfl, hb3⟩
      have Hbe := Lib.hid (below_then Hb02.out Hb02.out.size hb3)
      clear hb3
      go_wp2
      go_ret
      exact ⟨rfl, Hbe.out⟩
    · have hn0' : ((ties.length : Int) == 0) = false := by simpa using hn0
      by_cases hn80 : 80 ≤ (ties.length : Int)
      · have Hn0 := Lib.hid hn0
        clear hn0
        go_wp2_with fail
        refine (g3_any m w2 (kept_below Hb02.out _ _ Hm.out) (kept_below Hb02.out _ _ Hz.out)).mono ?_
        rintro e w3 ⟨rfl, hb3⟩
        have Hbe := Lib.hid (below_then Hb02.out Hb02.out.size hb3)
        clear hb3
        go_wp2
        go_ret
        exact ⟨rfl, Hbe.out⟩
      · have hpos : 0 < ties.length := Nat.pos_of_ne_zero hn0
        clear hn0
        obtain ⟨b, o, rfl, hcells⟩ := Hh2.out hpos
        have hright : Right l ties := HR.out rfl
        have h0n : (0 : Int) < (ties.length : Int) := by omega
        obtain ⟨i, hi⟩ : ∃ i : Nat, wh % (ties.length : Int) = i := ⟨(wh % (ties.length : Int)).toNat, (Int.toNat_of_nonneg (Int.emod_nonneg _ (by omega))).symm⟩
        obtain ⟨j, hj⟩ : ∃ j : Nat, ot % (ties.length : Int) = j := ⟨(ot % (ties.length : Int)).toNat, (Int.toNat_of_nonneg (Int.emod_nonneg _ (by omega))).symm⟩
        have hin : i < ties.length := by have := Int.emod_lt_of_pos wh h0n; omega
        have hjn : j < ties.length := by have := Int.emod_lt_of_pos ot h0n; omega
        have Hi := Lib.hid hi
        have Hj := Lib.hid hj
        clear hi hj
        have hx : ties.getD i dTi ∈ ties := getD_mem hin
        have hy : ties.getD j dTi ∈ ties := getD_mem hjn
        have bx := tiErr_ok (hright.2.2.2 _ hx)
        have by_ := tiErr_ok (hright.2.2.2 _ hy)
        have x0 := kept_below Hb02.out _ _ (hcells i 0 _ hin rfl)
        have x1 := kept_below Hb02.out _ _ (hcells i 1 _ hin rfl)
        have x2 := kept_below Hb02.out _ _ (hcells i 2 _ hin rfl)
        have x3 := kept_below Hb02.out _ _ (hcells i 3 _ hin rfl)
        have y0 := kept_below Hb02.out _ _ (hcells j 0 _ hjn rfl)
        have y1 := kept_below Hb02.out _ _ (hcells j 1 _ hjn rfl)
        have y2 := kept_below Hb02.out _ _ (hcells j 2 _ hjn rfl)
        have y3 := kept_below Hb02.out _ _ (hcells j 3 _ hjn rfl)
        rw [Nat.add_zero] at x0 y0
        generalize ties.getD i dTi = x at *
        generalize ties.getD j dTi = y at *
        have hbb := World.block_lt_of_cell? w2 _ x0
        have hnb : b ≠ w2.heap.size := Nat.ne_of_lt hbb
        have Hbx := Lib.hid bx
        have Hby := Lib.hid by_
        have Hx := Lib.hid hx
        have Hy := Lib.hid hy
        have Hright := Lib.hid hright
        clear bx by_ hx hy hright hcells
        go_wp2_with fail
        refine (below_any wh ties.length w2 hwh (by omega) (by omega)).mono ?_
        rintro e w3 ⟨he, rfl⟩
        rw [Hi.out] at he
        subst he
        go_wp2_with fail
        refine (below_any ot ties.length _ hot (by omega) (by omega)).mono ?_
        rintro e w4 ⟨he, hw4⟩
        rw [Hj.out] at he
        subst he
        obtain ⟨p1, p2, p3, p4⟩ := new_facts w3 #[Value.int .i64 x.a, Value.int .i64 x.b, Value.int .i64 x.low, Value.int .i64 x.high] 28
        subst hw4
        generalize w3.alloc (.cells #[Value.int .i64 x.a, Value.int .i64 x.b, Value.int .i64 x.low, Value.int .i64 x.high] 28) = W4 at *
        have v0 := kept_below p4 _ _ y0
        have v1 := kept_below p4 _ _ y1
        have v2 := kept_below p4 _ _ y2
        have v3 := kept_below p4 _ _ y3
        have a0 : W4.cell? ⟨w3.heap.size, 0, none⟩ = some (.int .i64 x.a) := p1 0 _ rfl
        have a1 : W4.cell? ⟨w3.heap.size, 1, none⟩ = some (.int .i64 x.b) := p1 1 _ rfl
        have a2 : W4.cell? ⟨w3.heap.size, 2, none⟩ = some (.int .i64 x.low) := p1 2 _ rfl
        have a3 : W4.cell? ⟨w3.heap.size, 3, none⟩ = some (.int .i64 x.high) := p1 3 _ rfl
        have Hp4 := Lib.hid p4
        clear p1 p2 p4 x0 x1 x2 x3 y0 y1 y2 y3
        have hl4 : w3.heap.size ≠ W4.heap.size := by omega
        have hl5 : w3.heap.size ≠ W4.heap.size + 1 := by omega
        go_wp2_with fail
        obtain ⟨q1, q2, q3, q4⟩ := new_facts W4 #[Value.int .i64 y.a, Value.int .i64 y.b, Value.int .i64 y.low, Value.int .i64 y.high] 28
        generalize W4.alloc (.cells #[Value.int .i64 y.a, Value.int .i64 y.b, Value.int .i64 y.low, Value.int .i64 y.high] 28) = W5 at *
        obtain ⟨r1, r2, r3, r4⟩ := new_facts W5 #[Value.int .i64 x.a, Value.int .i64 x.b, Value.int .i64 x.low, Value.int .i64 x.high] 28
        generalize W5.alloc (.cells #[Value.int .i64 x.a, Value.int .i64 x.b, Value.int .i64 x.low, Value.int .i64 x.high] 28) = W6 at *
        rw [p3] at q1 q2 q3
        rw [q3] at r1 r2 r3
        have hb46 : Below W4.heap.size W4 W6 := below_then q4 (by omega) r4
        have a0 := kept_below hb46 _ _ a0
        have a1 := kept_below hb46 _ _ a1
        have a2 := kept_below hb46 _ _ a2
        have a3 := kept_below hb46 _ _ a3
        have c0 : W6.cell? ⟨w3.heap.size + 1, 0, none⟩ = some (.int .i64 y.a) := kept_below r4 _ _ (q1 0 _ rfl)
        have c1 : W6.cell? ⟨w3.heap.size + 1, 1, none⟩ = some (.int .i64 y.b) := kept_below r4 _ _ (q1 1 _ rfl)
        have c2 : W6.cell? ⟨w3.heap.size + 1, 2, none⟩ = some (.int .i64 y.low) := kept_below r4 _ _ (q1 2 _ rfl)
        have c3 : W6.cell? ⟨w3.heap.size + 1, 3, none⟩ = some (.int .i64 y.high) := kept_below r4 _ _ (q1 3 _ rfl)
        have d0 : W6.cell? ⟨w3.heap.size + 1 + 1, 0, none⟩ = some (.int .i64 x.a) := r1 0 _ rfl
        have d1 : W6.cell? ⟨w3.heap.size + 1 + 1, 1, none⟩ = some (.int .i64 x.b) := r1 1 _ rfl
        have d2 : W6.cell? ⟨w3.heap.size + 1 + 1, 2, none⟩ = some (.int .i64 x.low) := r1 2 _ rfl
        have d3 : W6.cell? ⟨w3.heap.size + 1 + 1, 3, none⟩ = some (.int .i64 x.high) := r1 3 _ rfl
        have f0 := r2 0
        have f1 := r2 1
        have f2 := r2 2
        have f3 := r2 3
        have hb36 : Below w3.heap.size w3 W6 := below_then Hp4.out (by omega) hb46
        have Hb36 := Lib.hid hb36
        have hs6 : W6.heap.size = w3.heap.size + 1 + 1 + 1 := by omega
        have Hs6 := Lib.hid hs6
        have hnab : w3.heap.size ≠ w3.heap.size + 1 + 1 := by omega
        clear v0 v1 v2 v3 hb46 hb36 q1 q2 q3 q4 r1 r2 r3 r4 p3 hl4 hl5 hs6
        refine (below_any wi 1000 W6 hwi (by omega) (by omega)).mono ?_
        rintro e w4 ⟨rfl, rfl⟩
        have hk0 := Int.emod_nonneg wi (by omega : (1000 : Int) ≠ 0)
        have hk1 := Int.emod_lt_of_pos wi (by omega : (0 : Int) < 1000)
        obtain ⟨k, hk⟩ : ∃ k, wi % 1000 = k := ⟨_, rfl⟩
        rw [hk] at hk0 hk1 ⊢
        have Hk := Lib.hid hk
        clear hk
        go_upto_block 0 with fail
        go_cut [70] (fun s70 wx => CutMore w4 (w3.heap.size + 1 + 1) (tieMore x y wi k) wx)
        case first =>
          obtain ⟨b1, b2, b3, b4, b5, b6, b7, b8⟩ := Hbx.out
          obtain ⟨e1, e2, e3, e4, e5, e6, e7, e8⟩ := Hby.out
          by_cases hc : y.a = x.b ∧ y.b ≠ x.a
          · obtain ⟨hc1, hc2⟩ := hc
            have hc1' : (y.a == x.b) = true := by simpa using hc1
            have hc2' : (y.b != x.a) = true := by simpa using hc2
            have Ht := Lib.hid (show tieMore x y wi k = ⟨x.a, y.b, x.low + y.low, x.high + y.high⟩ by unfold tieMore; rw [if_pos ⟨hc1, hc2⟩])
            clear hc1 hc2 b5 e5
            go_wp2_with fail
            go_meet
            rw [Ht.out]
            exact cut_all (z := ⟨x.a, y.b, x.low + y.low, x.high + y.high⟩) (Below.refl _ _) d0 d1 d2 d3
          · have Hn := Lib.hid hc
            by_cases hw : wi.tmod 2 = 0 ∧ 0 ≤ x.a
            · obtain ⟨hw1, hw2⟩ := hw
              have Ht := Lib.hid (show tieMore x y wi k = ⟨x.b, x.a, -x.high, -x.low⟩ by unfold tieMore; rw [if_neg hc, if_pos ⟨hw1, hw2⟩])
              have hw1' : (wi.tmod 2 == 0) = true := by simpa using hw1
              clear hw1 b5 e5
              by_cases hc1 : y.a = x.b
              · have hc2' : (y.b != x.a) = false := by simpa using Classical.byContradiction fun h => hc ⟨hc1, h⟩
                have hc1' : (y.a == x.b) = true := by simpa using hc1
                clear hc1 hc
                go_wp2_with fail
                go_meet
                rw [Ht.out]
                exact cut_all (z := ⟨x.b, x.a, -x.high, -x.low⟩) (Below.refl _ _) d0 d1 d2 d3
              · have hc1' : (y.a == x.b) = false := by simpa using hc1
                clear hc1 hc
                go_wp2_with fail
                go_meet
                rw [Ht.out]
                exact cut_all (z := ⟨x.b, x.a, -x.high, -x.low⟩) (Below.refl _ _) d0 d1 d2 d3
            · have Ht := Lib.hid (show tieMore x y wi k = ⟨x.a, x.b, x.low - k, x.high + k⟩ by unfold tieMore; rw [if_neg hc, if_neg hw])
              have hwb : (wi.tmod 2 == 0) = false ∨ ((wi.tmod 2 == 0) = true ∧ x.a < 0) := by
                by_cases h1 : wi.tmod 2 = 0
                · exact .inr ⟨by simpa using h1, Int.not_le.1 fun h2 => hw ⟨h1, h2⟩⟩
                · exact .inl (by simpa using h1)
              have hcb : (y.a == x.b) = false ∨ ((y.a == x.b) = true ∧ (y.b != x.a) = false) := by
                by_cases h1 : y.a = x.b
                · exact .inr ⟨by simpa using h1, by simpa using Classical.byContradiction fun h => hc ⟨h1, h⟩⟩
                · exact .inl (by simpa using h1)
              clear hc hw b5 e5
              rcases hwb with hw1' | ⟨hw1', hw2⟩ <;> rcases hcb with hc1' | ⟨hc1', hc2'⟩
              all_goals
                go_wp2_with fail
                go_region
              all_goals
                go_wp2_with fail
                go_meet
                rw [Ht.out]
                exact cut_two (z := ⟨x.a, x.b, x.low - k, x.high + k⟩) (Below.refl _ _) d0 d1 d2 d3
        case rest =>
          obtain ⟨hbc, hcz⟩ := hcut
          have z0 : wc.cell? ⟨w3.heap.size + 1 + 1, 0, none⟩ = some (.int .i64 (tieMore x y wi k).a) := hcz 0 _ rfl
          have z1 : wc.cell? ⟨w3.heap.size + 1 + 1, 1, none⟩ = some (.int .i64 (tieMore x y wi k).b) := hcz 1 _ rfl
          have z2 : wc.cell? ⟨w3.heap.size + 1 + 1, 2, none⟩ = some (.int .i64 (tieMore x y wi k).low) := hcz 2 _ rfl
          have z3 : wc.cell? ⟨w3.heap.size + 1 + 1, 3, none⟩ = some (.int .i64 (tieMore x y wi k).high) := hcz 3 _ rfl
          have Hmore := Lib.hid (fun hr2 fs e e' L L' => @more_same l ties x y wi k Hright.out hr2 Hx.out Hy.out hk0 fs e e' L L')
          generalize tieMore x y wi k = z at *
          have hb0c : Below w3.heap.size w3 wc := Hb36.out.trans (hbc.mono (by omega))
          have hb0 : Below w.heap.size w wc := below_then Hb02.out Hb02.out.size hb0c
          have Hb0 := Lib.hid hb0
          have hsc : w3.heap.size + 1 + 1 < wc.heap.size := World.block_lt_of_cell? wc _ z0
          clear hbc hcz hb0c hb0 a0 a1 a2 a3 c0 c1 c2 c3 d0 d1 d2 d3 f0 f1 f2 f3
          go_wp2_with fail
          have hTA : TisAt wc.drew (some ⟨b, o, none⟩) ties := Hh2.out.kept (kept_below Hb0.out.drew)
          have HcA := Lib.hid (clone_ties b o cb ties wc.drew hTA (by omega))
          have hbo := (Below.refl wc.heap.size wc).alloc (Nat.le_refl _) (.cells #[Value.int .i64 z.a, Value.int .i64 z.b, Value.int .i64 z.low, Value.int .i64 z.high] 28)
          have HcB := Lib.hid (clone_ties b o cb ties (wc.alloc (.cells #[Value.int .i64 z.a, Value.int .i64 z.b, Value.int .i64 z.low, Value.int .i64 z.high] 28)).drew (Hh2.out.kept (kept_below (below_then Hb0.out Hb0.out.size hbo.drew))) (by omega))
          have s0 : wc.drew.cell? ⟨w3.heap.size + 1 + 1, 0, none⟩ = some (.int .i64 z.a) := z0
          have s1 : wc.drew.cell? ⟨w3.heap.size + 1 + 1, 1, none⟩ = some (.int .i64 z.b) := z1
          have s2 : wc.drew.cell? ⟨w3.heap.size + 1 + 1, 2, none⟩ = some (.int .i64 z.low) := z2
          have s3 : wc.drew.cell? ⟨w3.heap.size + 1 + 1, 3, none⟩ = some (.int .i64 z.high) := z3
          clear hTA hbo
          go_region_held3 (fun w' => w'.cell? ⟨w3.heap.size + 1 + 1, 0, none⟩ = some (.int .i64 z.a) ∧ w'.cell? ⟨w3.heap.size + 1 + 1, 1, none⟩ = some (.int .i64 z.b) ∧ w'.cell? ⟨w3.heap.size + 1 + 1, 2, none⟩ = some (.int .i64 z.low) ∧ w'.cell? ⟨w3.heap.size + 1 + 1, 3, none⟩ = some (.int .i64 z.high))
            (first | exact ⟨s0, s1, s2, s3⟩ | exact ⟨kept_below hbk _ _ z0, kept_below hbk _ _ z1, kept_below hbk _ _ z2, kept_below hbk _ _ z3⟩ | exact ⟨kept_below hbf _ _ z0, kept_below hbf _ _ z1, kept_below hbf _ _ z2, kept_below hbf _ _ z3⟩ | go_keep)
            (first | (go_at_call 9; first | (refine HcA.out.mono ?_; rintro e w5 ⟨v5, rfl, hown5, hnn5, hb5⟩; have hbk : Below wc.heap.size wc w5 := below_of_drew hb5; have hsz5 : wc.heap.size ≤ w5.heap.size := hbk.size) | (refine HcB.out.mono ?_; rintro e w5 ⟨v5, rfl, hown5', hnn5, hb5'⟩; have hown5 := own_mono' hown5' (show wc.heap.size ≤ (wc.alloc (.cells #[Value.int .i64 z.a, Value.int .i64 z.b, Value.int .i64 z.low, Value.int .i64 z.high] 28)).drew.heap.size by simp); have hbk : Below wc.heap.size wc w5 := below_then (((Below.refl wc.heap.size wc).alloc (Nat.le_refl _) (.cells #[Value.int .i64 z.a, Value.int .i64 z.b, Value.int .i64 z.low, Value.int .i64 z.high] 28)).drew) (by simp) hb5'; have hsz5 : wc.heap.size ≤ w5.heap.size := hbk.size)) | (refine step_push _ (by rfl) (.tmp 119) (.tmp 121) 23 (by rfl) wc.heap.size 28 _ 4 32 Tryz.underlying23 Tryz.info28 rfl (by decide) v5 ties.length _ (by rfl) (hown5.alloc _) ⟨w5.heap.size, 0, none⟩ 1 1 [.int .i64 z.a, .int .i64 z.b, .int .i64 z.low, .int .i64 z.high] (by rfl) (by rfl) (news_new w5 #[Value.int .i64 z.a, Value.int .i64 z.b, Value.int .i64 z.low, Value.int .i64 z.high] 28) (by intro u hu; simp at hu; rcases hu with rfl | rfl | rfl | rfl <;> rfl) (by decide) (by omega) (by decide) (by first | exact hsz5 | (simp; omega)) ?_; intro g6 cap6 w6 hown6 hg6 hat6 hlt6; have hbf : Below wc.heap.size wc w6 := below_push (hbk.alloc hsz5 _) hg6 (by simp; omega) (own_base hown5)) | (refine step_push _ (by rfl) (.tmp 119) (.tmp 121) 23 (by rfl) wc.heap.size 28 _ 4 32 Tryz.underlying23 Tryz.info28 rfl (by decide) v5 ties.length _ (by rfl) hown5 ⟨wc.heap.size, 0, none⟩ 1 1 [.int .i64 z.a, .int .i64 z.b, .int .i64 z.low, .int .i64 z.high] (by rfl) (by rfl) (fun j u hu => kept_below hb5' _ _ (news_new wc #[Value.int .i64 z.a, Value.int .i64 z.b, Value.int .i64 z.low, Value.int .i64 z.high] 28 j u hu)) (by intro u hu; simp at hu; rcases hu with rfl | rfl | rfl | rfl <;> rfl) (by decide) (by omega) (by decide) (by first | exact hsz5 | (simp; omega)) ?_; intro g6 cap6 w6 hown6 hg6 hat6 hlt6; have hbf : Below wc.heap.size wc w6 := below_push hbk hg6 hsz5 (own_base hown5)))
          all_goals
            have hT6 : TisAt w6 (some ⟨g6, 0, none⟩) (ties ++ [z]) := own_ties hown6
            have hlen : (ties ++ [z]).length = ties.length + 1 := by simp
            have hb6 : Below w.heap.size w w6 := below_then Hb0.out Hb0.out.size hbf
            have Hb6 := Lib.hid hb6
            have HT6 := Lib.hid hT6
            have hcf := clockFault_any A (some ⟨g6, 0, none⟩) ca cap6 l (ties ++ [z]) w6 (Hh.out.kept (kept_below hb6)) hT6 hcap Hok.out
            rw [hlen] at hcf
            have Hcf := Lib.hid hcf
            have Hlen := Lib.hid hlen
            (try clear hb5)
            (try clear hb5' hown5')
            clear hcf hT6 hlen hb6 hbf hown6 hg6 hat6 hown5 hnn5 hbk s0 s1 s2 s3 z0 z1 z2 z3
            go_wp2_with fail
            refine Hcf.out.mono ?_
            rintro e w7 ⟨E2, rfl, hb7, hR2⟩
            have Hb7 := Lib.hid (below_then Hb6.out Hb6.out.size hb7)
            have HT7 := Lib.hid (HT6.out.kept (kept_below hb7))
            have HR2 := Lib.hid hR2
            clear hb7 hR2
            by_cases hE2 : E2 = 0
            · subst hE2
              have Hr2 := Lib.hid (HR2.out rfl)
              have hl40 := Hright.out.1
              go_wp2_with fail
              refine (solve_any A (some ⟨b, o, none⟩) ca cb l ties w7 (Hh.out.kept (kept_below Hb7.out)) (Hh2.out.kept (kept_below Hb7.out)) hcap Hok.out).mono ?_
              rintro e w8 ⟨v8, F1, L1, rfl, ho1, hp1, hb8⟩
              obtain ⟨A1, d1, rfl, hP1⟩ := pairs_own hp1
              have Hb8 := Lib.hid (below_then Hb7.out Hb7.out.size hb8)
              have HT8 := Lib.hid (HT7.out.kept (kept_below hb8))
              have HP1 := Lib.hid hP1
              have Ho1 := Lib.hid ho1
              clear hb8 hp1 hP1 ho1
              go_wp2_with fail
              have hs9 := solve_any A (some ⟨g6, 0, none⟩) ca cap6 l (ties ++ [z]) w8 (Hh.out.kept (kept_below Hb8.out)) HT8.out hcap Hok.out
              rw [Hlen.out] at hs9
              refine hs9.mono ?_
              rintro e w9 ⟨v9, F2, L2, rfl, ho2, hp2, hb9⟩
              obtain ⟨A2, d2, rfl, hP2⟩ := pairs_own hp2
              obtain ⟨rfl, rfl⟩ := Hmore.out Hr2.out _ _ _ _ _ Ho1.out ho2
              have Hb9 := Lib.hid (below_then Hb8.out Hb8.out.size hb9)
              have HT9 := Lib.hid (HT8.out.kept (kept_below hb9))
              have HP19 := Lib.hid (HP1.out.kept (kept_below hb9))
              have HP2 := Lib.hid hP2
              clear hs9 hb9 hp2 hP2 ho2
              go_wp2_with fail
              refine (errors_any A (some ⟨b, o, none⟩) ca cb l ties w9 (Hh.out.kept (kept_below Hb9.out)) (Hh2.out.kept (kept_below Hb9.out)) hcap Hok.out).mono ?_
              rintro e w10 ⟨v10, F3, L3, rfl, ho3, hp3, hb10⟩
              obtain ⟨A3, d3, rfl, hP3⟩ := pairs_own hp3
              have Hb10 := Lib.hid (below_then Hb9.out Hb9.out.size hb10)
              have HT10 := Lib.hid (HT9.out.kept (kept_below hb10))
              have HP1a := Lib.hid (HP19.out.kept (kept_below hb10))
              have HP2a := Lib.hid (HP2.out.kept (kept_below hb10))
              have HP3 := Lib.hid hP3
              have Ho3 := Lib.hid ho3
              clear hb10 hp3 hP3 ho3
              go_wp2_with fail
              have hs11 := errors_any A (some ⟨g6, 0, none⟩) ca cap6 l (ties ++ [z]) w10 (Hh.out.kept (kept_below Hb10.out)) HT10.out hcap Hok.out
              rw [Hlen.out] at hs11
              refine hs11.mono ?_
              rintro e w11 ⟨v11, F4, L4, rfl, ho4, hp4, hb11⟩
              obtain ⟨A4, d4, rfl, hP4⟩ := pairs_own hp4
              obtain ⟨rfl, rfl⟩ := Hmore.out Hr2.out _ _ _ _ _ Ho3.out ho4
              have Hb11 := Lib.hid (below_then Hb10.out Hb10.out.size hb11)
              have HQ1 := Lib.hid (HP1a.out.kept (kept_below hb11))
              have HQ2 := Lib.hid (HP2a.out.kept (kept_below hb11))
              have HQ3 := Lib.hid (HP3.out.kept (kept_below hb11))
              have HQ4 := Lib.hid hP4
              have hL1 : L1.length ≤ 1000 := by have := out_len Ho1.out; simp [times] at this; omega
              have hL3 : L3.length ≤ 1000 := by have := out_len Ho3.out; have := names_length l; simp [errs] at *; omega
              clear hs11 hb11 hp4 hP4 ho4
              go_wp2_with fail
              refine (equal_pairs A1 A2 d1 d2 L1 w11 HQ1.out HQ2.out hL1).mono ?_
              rintro e w12 ⟨rfl, hb12⟩
              have Hb12 := Lib.hid (below_then Hb11.out Hb11.out.size hb12)
              have HS3 := Lib.hid (HQ3.out.kept (kept_below hb12))
              have HS4 := Lib.hid (HQ4.out.kept (kept_below hb12))
              clear hb12
              go_wp2_with fail
              refine (equal_pairs A3 A4 d3 d4 L3 w12 HS3.out HS4.out hL3).mono ?_
              rintro e w13 ⟨rfl, hb13⟩
              have Hb13 := Lib.hid (below_then Hb12.out Hb12.out.size hb13)
              clear hb13
              go_wp2
              go_ret
              exact ⟨rfl, Hb13.out⟩
            · have hE2' : (E2 != 0) = true := by simpa using hE2
              clear hE2
              go_wp2
              go_ret
              exact ⟨rfl, Hb7.out⟩
  · have hE' : (E != 0) = true := by simpa using hE
    have HE := Lib.hid hE
    clear hE
    go_wp2_with fail
    refine (g3_any m w2 (kept_below Hb02.out _ _ Hm.out) (kept_below Hb02.out _ _ Hz.out)).mono ?_
    rintro e w3 ⟨rfl, hb3⟩
    have Hbe := Lib.hid (below_then Hb02.out Hb02.out.size hb3)
    clear hb3
    go_wp2
    go_ret
    exact ⟨rfl, Hbe.out⟩
end Go.Proofs.YthcbchgdfldckaaGreatDoor
