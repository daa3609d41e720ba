/- Comparing two pairs of numbers. -/
import Derived.Test.YthcbchgdfldckaaGreatDoorOwn
import Derived.Test.YthcbchgdfldckaaGreatDoorClose
import Derived.Deep.QuietTactic
import Derived.BigQuiet
namespace Go.Proofs.YthcbchgdfldckaaGreatDoor
open Go.RowKit
theorem eqi (w : World) (p : Int) (d : Nat) : (Op.equalIn (d + 1) 3 (.int .i64 p) (.int .i64 p)).run Tryz.prog w = .ok true w := by
  unfold Op.equalIn
  simp [Sem.run_bind, run_underlying Tryz.underlying3, Result.andThen]
theorem neq_pair (w : World) (p q : Int) : (binOp .neq 35 (.agg #[.int .i64 p, .int .i64 q]) (.agg #[.int .i64 p, .int .i64 q])).run Tryz.prog w = .ok (.bool false) w := by
  have h0 : Op.maxDepth = 9998 + 1 + 1 := rfl
  have e1 := eqi w p 9998
  have e2 := eqi w q 9998
  unfold binOp Op.equal
  rw [h0]
  unfold Op.equalIn
  simp [Sem.run_bind, run_underlying Tryz.underlying35, Result.andThen, Tryz.sizeOf3]
  have r2 : List.range' 0 2 = [0, 1] := rfl
  have p0 : ∀ w, (part 3 #[Value.int IntKind.i64 p, Value.int IntKind.i64 q] 0).run Tryz.prog w = .ok (.int .i64 p) w := fun w => by kernel_rfl
  have p1 : ∀ w, (part 3 #[Value.int IntKind.i64 p, Value.int IntKind.i64 q] 1).run Tryz.prog w = .ok (.int .i64 q) w := fun w => by kernel_rfl
  simp [r2, Sem.run_bind, p0, p1, Result.andThen, e1, e2]
end Go.Proofs.YthcbchgdfldckaaGreatDoor

/- The walk of slices.Equal at intervals: the same ones. -/
namespace Go.Proofs.YthcbchgdfldckaaGreatDoor
open Go.RowKit

/-- Intervals at A. -/
def PairsAt (w : World) (A : Option Addr) (L : List (Int × Int)) : Prop := 0 < L.length → ∃ b, A = some ⟨b, 0, none⟩ ∧ ∀ i, i < L.length → w.cell? ⟨b, i * 2, none⟩ = some (.int .i64 (L.getD i (0, 0)).1) ∧ w.cell? ⟨b, i * 2 + 1, none⟩ = some (.int .i64 (L.getD i (0, 0)).2)
theorem PairsAt.kept {w w' : World} {A : Option Addr} {L : List (Int × Int)} (h : PairsAt w A L) (k : Kept w w') : PairsAt w' A L := fun h0 => by
  obtain ⟨b, e, hc⟩ := h h0
  exact ⟨b, e, fun i hi => ⟨k _ _ (hc i hi).1, k _ _ (hc i hi).2⟩⟩
theorem pairCells_get (L : List (Int × Int)) : ∀ i, i < L.length → (pairCells L)[i * 2]? = some (.int .i64 (L.getD i (0, 0)).1) ∧ (pairCells L)[i * 2 + 1]? = some (.int .i64 (L.getD i (0, 0)).2) := by
  induction L with
  | nil => intro i hi; simp at hi
  | cons p l ih =>
    intro i hi
    cases i with
    | zero => simp [pairCells]
    | succ i =>
      have := ih i (by simpa using hi)
      have e1 : (i + 1) * 2 = i * 2 + 1 + 1 := by omega
      rw [e1]
      simpa [pairCells] using this
theorem pairs_own {w : World} {base : Nat} {v : Value} {L : List (Int × Int)} (h : w.ownsRow base 35 2 v L.length (pairCells L)) : ∃ A c, v = .slice A L.length c ∧ PairsAt w A L := by
  rcases h.2 with ⟨rfl, h0⟩ | ⟨g, c, cur, rfl, _⟩
  · have hl : L.length = 0 := h0
    exact ⟨none, 0, by rw [hl], fun h => by omega⟩
  · refine ⟨_, c, rfl, fun h0 => ⟨g, rfl, fun i hi => ?_⟩⟩
    obtain ⟨e1, e2⟩ := pairCells_get L i hi
    exact ⟨(h.cellAt (i * 2) (by omega)).trans e1, (h.cellAt (i * 2 + 1) (by omega)).trans e2⟩
set_option maxHeartbeats 1000000 in
set_option maxRecDepth 100000 in
theorem equal_pairs (A B : Option Addr) (c d : Nat) (L : List (Int × Int)) (w : World) (hA : PairsAt w A L) (hB : PairsAt w B L) (hl : L.length ≤ 1000) :
    Calls Tryz.prog 12 #[.slice A L.length c, .slice B L.length d] w fun e w' => e = .returned (.bool true) ∧ Below w.heap.size w w' := by
  go_enter Tryz.func12, Tryz.ntmps12
  go_wp2
  go_loopw [13] (fun s13 wr => ∃ i : Nat, i ≤ L.length ∧ s13 = .int .i64 i ∧ Below w.heap.size w wr) (fun s13 _ => L.length - (intOf s13).toNat)
  case atStart => exact ⟨0, by omega, rfl, Below.refl _ _⟩
  case round =>
    obtain ⟨i, hi, rfl, hb⟩ := hrel
    by_cases hlt : i < L.length
    · obtain ⟨b1, rfl, h1⟩ := hA (by omega)
      obtain ⟨b2, rfl, h2⟩ := hB (by omega)
      have x1 := kept_below hb _ _ (h1 i hlt).1
      have x2 := kept_below hb _ _ (h1 i hlt).2
      have y1 := kept_below hb _ _ (h2 i hlt).1
      have y2 := kept_below hb _ _ (h2 i hlt).2
      generalize (L.getD i (0, 0)).1 = p at *
      generalize (L.getD i (0, 0)).2 = q at *
      clear h1 h2 hA hB
      have hp0 : (0 : Int) ≤ (i : Int) := by omega
      have hp1 : (i : Int) < (L.length : Int) := by omega
      have hne := fun W => neq_pair W p q
      go_wp2
      go_quiet (fail)
      go_wp2
      exact ⟨⟨i + 1, by omega, by go_num, hb.trans ⟨rfl, rfl, rfl, Nat.le_refl _, fun _ _ => rfl⟩⟩, by simp [intOf]; omega⟩
    · obtain rfl : L.length = i := by omega
      go_wp2
      go_ret
      exact ⟨rfl, hb⟩
end Go.Proofs.YthcbchgdfldckaaGreatDoor
