/- The walk of net.close: it closes the net in place, or finds that nothing solves it. -/
import Derived.Test.YthcbchgdfldckaaGreatDoorNet
namespace Go.Proofs.YthcbchgdfldckaaGreatDoor
open Go.RowKit ClkM

theorem inv_cells {n k i j : Nat} {U : Int} {A D : Net} (h : Inv n U A k D) (hk : k < n) (hi : i < n) (hj : j < n) :
    rowTo k i (rowsDone n k D i) j i k = D i k ∧ rowTo k i (rowsDone n k D i) j k j = D k j ∧ -(2 * U) ≤ D i k ∧ D i k ≤ U ∧ -(2 * U) ≤ D k j ∧ D k j ≤ U := by
  have hkk : 0 ≤ D k k := by rw [h.diag k hk]; exact Int.le_refl _
  have h1 : rowTo k i (rowsDone n k D i) j = rowDone k i (rowsDone n k D i) j := rowTo_eq k i _ (by rw [rowsDone_k n k D hkk]; exact hkk) j
  have a1 : rowsDone n k D i i k = D i k := rowsDone_col n k D hkk i i
  have a2 : rowsDone n k D i k k = D k k := rowsDone_k n k D hkk i k
  have a3 : rowsDone n k D i k j = D k j := rowsDone_k n k D hkk i j
  refine ⟨?_, ?_, h.lower i k hi hk, h.up i k hi hk, h.lower k j hk hj, h.up k j hk hj⟩
  · rw [h1]
    unfold rowDone
    split
    · rw [a1, a2]; omega
    · exact a1
  · rw [h1]
    unfold rowDone
    split
    · next hc => omega
    · exact a3
theorem row_full {n k i : Nat} {U : Int} {A D : Net} (h : Inv n U A k D) (hk : k < n) : rowTo k i (rowsDone n k D i) n = rowsDone n k D (i + 1) := by
  have hkk : 0 ≤ D k k := by rw [h.diag k hk]; exact Int.le_refl _
  rw [rowTo_eq k i _ (by rw [rowsDone_k n k D hkk]; exact hkk) n, rowsDone_succ n k D hkk]

/-- What close comes to. -/
def CloseOut (w : World) (b : Nat) (r : Nat → Nat) (n : Nat) (A : Net) (B : Nat) (e : Ending) (w' : World) : Prop :=
  ∃ (ok : Bool) (D : Net), e = .returned (.bool ok) ∧ NetAt w' b r n D ∧ Below B w w' ∧ ((ok = true ∧ ∀ i j, i < n → j < n → IsMax (Sol n A) i j (D i j)) ∨ (ok = false ∧ ∀ x, ¬ Sol n A x))

set_option maxHeartbeats 1000000 in
set_option maxRecDepth 100000 in
theorem close_net (b : Nat) (r : Nat → Nat) (n : Nat) (A : Net) (w : World) (h : NetAt w b r n A) (B : Nat) (hB : ∀ a, a < n → B ≤ r a) (hn : n ≤ 1000)
    (hU : ∀ i j, i < n → j < n → -100000000000 ≤ A i j ∧ A i j ≤ 100000000000) (hd : ∀ i, i < n → A i i = 0) :
    Calls Tryz.prog 60 #[.slice (some ⟨b, 0, none⟩) n n] w (CloseOut w b r n A B) := by
  have hI := Inv.start hU hd
  have HI : Hid (Inv n 100000000000 A 0 A) := hI
  clear hI hU hd
  go_enter Tryz.func60, Tryz.ntmps60
  go_wp2
  go_loopw [8] (fun s8 wr => ∃ (k : Nat) (D : Net), k ≤ n ∧ s8 = .int .i64 k ∧ NetAt wr b r n D ∧ Below B w wr ∧ Hid (Inv n 100000000000 A k D)) (fun s8 _ => n - (intOf s8).toNat)
  case atStart => exact ⟨0, A, Nat.zero_le _, rfl, h, Below.refl _ _, HI⟩
  case round =>
    obtain ⟨k, D, hk, rfl, hN, hb, HI'⟩ := hrel
    clear HI h
    by_cases hkn : k < n
    · go_wp2
      obtain ⟨wo, rfl⟩ : ∃ wo : World, wo = wr := ⟨_, rfl⟩
      -- the rows of round k
      go_loopw [13] (fun s13 wr => ∃ (i : Nat), i ≤ n ∧ s13 = .int .i64 i ∧ NetAt wr b r n (rowsDone n k D i) ∧ Below B w wr ∧ Hid (∀ a, a < i → ¬ rowsDone n k D n a a < 0)) (fun s13 _ => n - (intOf s13).toNat)
      case atStart => exact ⟨0, Nat.zero_le _, rfl, by rw [rowsDone_zero]; exact hN, hb, fun a ha => absurd ha (Nat.not_lt_zero _)⟩
      case round =>
        obtain ⟨i, hi, rfl, hN1, hb1, Hneg⟩ := hrel
        clear hN hb
        by_cases hin : i < n
        · go_wp2
          obtain ⟨wo2, rfl⟩ : ∃ wo : World, wo = wr := ⟨_, rfl⟩
          -- the cells of row i
          go_loopw [18] (fun s18 wr => ∃ (j : Nat), j ≤ n ∧ s18 = .int .i64 j ∧ NetAt wr b r n (rowTo k i (rowsDone n k D i) j) ∧ Below B w wr) (fun s18 _ => n - (intOf s18).toNat)
          case atStart => exact ⟨0, Nat.zero_le _, rfl, hN1, hb1⟩
          case round =>
            obtain ⟨j, hj, rfl, hN2, hb2⟩ := hrel
            clear hN1 hb1
            by_cases hjn : j < n
            · obtain ⟨v1, v2, v3, v4, v5, v6⟩ := inv_cells (i := i) (j := j) HI'.out hkn hin hjn
              obtain ⟨c1, c2, c3⟩ := hN2.cell hin hjn
              obtain ⟨d1, d2, _⟩ := hN2.cell hin hkn
              obtain ⟨e1, e2, _⟩ := hN2.cell hkn hjn
              have hset := hN2.set (i := i) j hin (min (rowTo k i (rowsDone n k D i) j i j) (rowTo k i (rowsDone n k D i) j i k + rowTo k i (rowsDone n k D i) j k j))
              rw [v1] at d2
              rw [v2] at e2
              rw [v1, v2] at hset
              have HS : Hid (NetAt (wr.setCell ⟨r i, j, none⟩ (.int .i64 (min (rowTo k i (rowsDone n k D i) j i j) (D i k + D k j)))) b r n (rowTo k i (rowsDone n k D i) (j + 1))) := by
                show NetAt _ b r n (cellStep k i j (rowTo k i (rowsDone n k D i) j))
                unfold cellStep
                rw [v1, v2]
                exact hset
              clear hset v1 v2
              generalize rowTo k i (rowsDone n k D i) j i j = x at *
              generalize D i k = y at *
              generalize D k j = z at *
              have hm : min x (y + z) = if y + z < x then y + z else x := by omega
              rw [hm] at HS
              clear hm
              have hBi := hB i hin
              go_wp2
              go_region
              all_goals go_wp2
              all_goals go_roundw
              case rel => exact ⟨j + 1, by omega, by go_num, HS.out.drew, (hb2.setCell (by exact hBi) _).drew⟩
              case measure => simp [intOf]; omega
            · obtain rfl : n = j := by omega
              rw [row_full HI'.out hkn] at hN2
              obtain ⟨c1, c2, c3⟩ := hN2.cell hin hin
              have hval : rowsDone n k D (i + 1) i i = rowsDone n k D n i i := by unfold rowsDone; rw [if_pos ⟨by omega, hin⟩, if_pos ⟨hin, hin⟩]
              rw [hval] at c2
              have Hval := Lib.hid hval
              clear hval
              have Hcl := Lib.hid (Inv.clash (i := i) (m := n) HI'.out hkn hin)
              have Hgo : Hid (¬ rowsDone n k D n i i < 0 → ∀ a, a < i + 1 → ¬ rowsDone n k D n a a < 0) := fun h0 a ha => by
                rcases Nat.lt_or_ge a i with h1 | h1
                · exact Int.not_lt.2 (Hneg.out a h1)
                · obtain rfl : a = i := by omega
                  exact h0
              clear Hneg Hval
              generalize rowsDone n k D n i i = v at *
              by_cases hv : v < 0
              · go_wp2
                go_ret
                exact ⟨false, _, rfl, hN2, hb2, .inr ⟨rfl, Hcl.out hv⟩⟩
              · go_wp2
                go_roundw
                case rel => exact ⟨i + 1, by omega, by go_num, hN2, hb2, Hgo.out hv⟩
                case measure => simp [intOf]; omega
        · obtain rfl : n = i := by omega
          have hnext := HI'.out.next hkn Hneg.out
          go_wp2
          go_roundw
          case rel => exact ⟨k + 1, _, by omega, by go_num, hN1, hb1, hnext⟩
          case measure => simp [intOf]; omega
    · obtain rfl : n = k := by omega
      have Hmax := Lib.hid HI'.out.max
      go_wp2
      go_ret
      exact ⟨true, D, rfl, hN, hb, .inl ⟨rfl, Hmax.out⟩⟩
end Go.Proofs.YthcbchgdfldckaaGreatDoor

/- The walk of net.intervals. -/
namespace Go.Proofs.YthcbchgdfldckaaGreatDoor
open Go.RowKit ClkM

theorem Tryz.info35 : (Tryz.prog.info? 35).map (fun i => (i.zero, i.size, i.bytes)) = some (some (.agg #[.int .i64 0, .int .i64 0]), 2, 16) := by kernel_rfl
/-- Pairs of whole numbers as cells. -/
def pairCells (l : List (Int × Int)) : List Value := l.flatMap fun p => [.int .i64 p.1, .int .i64 p.2]
theorem pairCells_length (l : List (Int × Int)) : (pairCells l).length = l.length * 2 := by
  induction l with
  | nil => rfl
  | cons p l ih => simp only [pairCells, List.flatMap_cons, List.length_append, List.length_cons, List.length_nil] at *; omega
theorem pairCells_snoc (l : List (Int × Int)) (a b : Int) : pairCells (l ++ [(a, b)]) = pairCells l ++ [.int .i64 a, .int .i64 b] := by simp [pairCells]
/-- The intervals of m variables from 'f' on. -/
def ivals (D : Net) (f m : Nat) : List (Int × Int) := (List.range m).map fun i => (-(D (f + i) 0), D 0 (f + i))
theorem ivals_succ (D : Net) (f m : Nat) : ivals D f (m + 1) = ivals D f m ++ [(-(D (f + m) 0), D 0 (f + m))] := by simp [ivals, List.range_succ]
theorem ivals_length (D : Net) (f m : Nat) : (ivals D f m).length = m := by simp [ivals]

set_option maxHeartbeats 1000000 in
set_option maxRecDepth 100000 in
theorem intervals_net (b : Nat) (r : Nat → Nat) (n : Nat) (D : Net) (f m : Nat) (w : World) (h : NetAt w b r n D) (hn : f + m ≤ n) (hn0 : 0 < n) (hn2 : n ≤ 1000)
    (hU : ∀ i j, i < n → j < n → -1000000000000 ≤ D i j ∧ D i j ≤ 1000000000000) :
    Calls Tryz.prog 28 #[.slice (some ⟨b, 0, none⟩) n n, .int .i64 f, .int .i64 m] w fun e w' => ∃ v, e = .returned v ∧ w'.ownsRow w.heap.size 35 2 v m (pairCells (ivals D f m)) ∧ Below w.heap.size w w' := by
  go_enter Tryz.func28, Tryz.ntmps28
  go_wp2
  go_loopw [7, 10] (fun s7 s10 wr => ∃ k : Nat, k ≤ m ∧ s10 = .int .i64 k ∧ wr.ownsRow w.heap.size 35 2 s7 k (pairCells (ivals D f k)) ∧ Below w.heap.size w wr) (fun _ s10 _ => m - (intOf s10).toNat)
  case atStart => exact ⟨0, Nat.zero_le _, rfl, World.ownsRow_nil _ _ _ _, Below.refl _ _⟩
  case round =>
    obtain ⟨k, hk, rfl, hown, hb⟩ := hrel
    by_cases hkm : k < m
    · obtain ⟨c1, c2, c3⟩ := h.cell (i := f + k) (j := 0) (by omega) hn0
      obtain ⟨d1, d2, d3⟩ := h.cell (i := 0) (j := f + k) hn0 (by omega)
      have k1 := kept_below hb _ _ c1
      have k2 := kept_below hb _ _ c2
      have k3 := kept_below hb _ _ d1
      have k4 := kept_below hb _ _ d2
      obtain ⟨u1, u2⟩ := hU (f + k) 0 (by omega) hn0
      have HU := Lib.hid hU
      have HS := Lib.hid (ivals_succ D f k)
      clear c1 c2 d1 d2 c3 d3 hU
      generalize D (f + k) 0 = x at *
      generalize D 0 (f + k) = y at *
      have hs := hb.size
      go_wp2
      have q1 : (0 : Int) ≤ (f : Int) + (k : Int) := by omega
      have q2 : (f : Int) + (k : Int) < (n : Int) := by omega
      have q3 : IntKind.i64.wrap ((f : Int) + (k : Int)) = (f : Int) + (k : Int) := IntWalk.i64_in _ (by omega)
      have q4 : ((f : Int) + (k : Int)).toNat = f + k := by omega
      have q5 : IntKind.i64.wrap (-x) = -x := IntWalk.i64_in _ (by omega)
      go_region_law (refine step_push _ rfl (.tmp 13) (.tmp 32) 31 rfl w.heap.size 35 _ 2 16 Tryz.underlying31 Tryz.info35 rfl (by decide) u7 k (pairCells (ivals D f k)) rfl (hown.alloc _) ⟨wr.heap.size, 0, none⟩ 1 1 [.int .i64 (-x), .int .i64 y] (by simp [Act.eval]) rfl (news_new wr #[.int .i64 (-x), .int .i64 y] 35) (by simp [Value.oneCell']) (by decide) (by omega) (by decide) (by simp; omega) ?_; intro g cap w1 hown1 hg1 hat1 hlt1)
      all_goals go_wp2
      all_goals refine ⟨⟨k + 1, by omega, by go_num, by rw [HS.out, pairCells_snoc]; exact hown1, below_push ((hb.alloc hs _).drew) hg1 (by simp; omega) (own_base hown)⟩, by simp [intOf]; omega⟩
    · obtain rfl : m = k := by omega
      go_wp2
      go_ret
      exact ⟨_, rfl, hown, hb⟩
end Go.Proofs.YthcbchgdfldckaaGreatDoor
