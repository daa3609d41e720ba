/- The walks of the nets: limit, between, close of package clock. -/
import Derived.Test.YthcbchgdfldckaaGreatDoorProg
import Derived.Test.YthcbchgdfldckaaGreatDoorMath
import Derived.Test.YthcbchgdfldckaaGreatDoorOwn
import Derived.WalkKit
import Derived.Outline
import Derived.Deep.QuietTactic
import Derived.BigQuiet
import Derived.Deep.LoopGhost
import Derived.Deep.OwnRows
import Derived.WalkLawsBesides
import Derived.WalkSpells
import Derived.BigRegion
import Derived.RegionTactic
import Derived.Deep.Light
import Derived.Lib.Hide
namespace Go.Proofs.YthcbchgdfldckaaGreatDoor
open Go.RowKit ClkM

/-- The net D over n variables lies in block b, row i in block r i. -/
structure NetAt (w : World) (b : Nat) (r : Nat → Nat) (n : Nat) (D : Net) : Prop where
  top : w.rowIs b 44 n (fun i => .slice (some ⟨r i, 0, none⟩) n n)
  row : ∀ i, i < n → w.rowIs (r i) 3 n (fun j => .int .i64 (D i j))
  ne : ∀ i, i < n → r i ≠ b
  inj : ∀ i j, i < n → j < n → r i = r j → i = j

theorem NetAt.set {w : World} {b : Nat} {r : Nat → Nat} {n : Nat} {D : Net} (h : NetAt w b r n D) {i : Nat} (j : Nat) (hi : i < n) (v : Int) : NetAt (w.setCell ⟨r i, j, none⟩ (.int .i64 v)) b r n (upd D i j v) := by
  refine ⟨h.top.setOther (by show b ≠ r i; exact fun e => h.ne i hi e.symm) _, fun a ha => ?_, h.ne, h.inj⟩
  by_cases e : a = i
  · subst e
    refine ((h.row a ha).set j _).congr (fun c hc => ?_)
    unfold upd
    by_cases e2 : c = j
    · subst e2; simp
    · simp [e2]
  · refine ((h.row a ha).setOther (by show r a ≠ r i; exact fun e2 => e (h.inj a i ha hi e2)) _).congr (fun c hc => ?_)
    unfold upd
    simp [e]
theorem NetAt.drew {w : World} {b : Nat} {r : Nat → Nat} {n : Nat} {D : Net} (h : NetAt w b r n D) : NetAt w.drew b r n D := ⟨h.top.drew, fun i hi => (h.row i hi).drew, h.ne, h.inj⟩
theorem NetAt.drewN {w : World} {b : Nat} {r : Nat → Nat} {n : Nat} {D : Net} (h : NetAt w b r n D) (q : Nat) : NetAt (w.drewN q) b r n D := ⟨h.top, h.row, h.ne, h.inj⟩
theorem NetAt.alloc {w : World} {b : Nat} {r : Nat → Nat} {n : Nat} {D : Net} (h : NetAt w b r n D) (o : Obj) : NetAt (w.alloc o) b r n D := ⟨h.top.alloc _, fun i hi => (h.row i hi).alloc _, h.ne, h.inj⟩
theorem NetAt.below {w w' : World} {b : Nat} {r : Nat → Nat} {n : Nat} {D : Net} (h : NetAt w b r n D) (hb : Below w.heap.size w w') : NetAt w' b r n D :=
  ⟨h.top.of_block (hb.block _ h.top.lt), fun i hi => (h.row i hi).of_block (hb.block _ (h.row i hi).lt), h.ne, h.inj⟩
theorem NetAt.cell {w : World} {b : Nat} {r : Nat → Nat} {n : Nat} {D : Net} (h : NetAt w b r n D) {i j : Nat} (hi : i < n) (hj : j < n) :
    w.cell? ⟨b, i, none⟩ = some (.slice (some ⟨r i, 0, none⟩) n n) ∧ w.cell? ⟨r i, j, none⟩ = some (.int .i64 (D i j)) ∧ w.frozen? ⟨r i, j, none⟩ = false :=
  ⟨h.top.cell hi, (h.row i hi).cell hj, (h.row i hi).frozen j⟩

set_option maxRecDepth 100000 in
theorem limit_any (b n i j g : Nat) (D m : Int) (w : World) (hi : i < n) (hj : j < n) (h1 : w.cell? ⟨b, i, none⟩ = some (.slice (some ⟨g, 0, none⟩) n n)) (h2 : w.cell? ⟨g, j, none⟩ = some (.int .i64 D)) (h3 : w.frozen? ⟨g, j, none⟩ = false) :
    Calls Tryz.prog 153 #[.slice (some ⟨b, 0, none⟩) n n, .int .i64 i, .int .i64 j, .int .i64 m] w fun e w' => e = .returned (.tuple #[]) ∧ w' = (w.setCell ⟨g, j, none⟩ (.int .i64 (min D m))).drew := by
  have e : min D m = if m < D then m else D := by omega
  rw [e]
  go_enter Tryz.func153, Tryz.ntmps153
  go_region
  all_goals (go_end0; exact ⟨rfl, rfl⟩)

/-- 'd.limit(i, j, most)'. -/
theorem limit_net (b : Nat) (r : Nat → Nat) (n : Nat) (D : Net) (i j m : Int) (w : World) (h : NetAt w b r n D) (B : Nat) (hB : ∀ a, a < n → B ≤ r a) (hi0 : 0 ≤ i) (hj0 : 0 ≤ j) (hi : i < n) (hj : j < n) :
    Calls Tryz.prog 153 #[.slice (some ⟨b, 0, none⟩) n n, .int .i64 i, .int .i64 j, .int .i64 m] w fun e w' => e = .returned (.tuple #[]) ∧ NetAt w' b r n (upd D i.toNat j.toNat (min (D i.toNat j.toNat) m)) ∧ Below B w w' := by
  obtain ⟨i, rfl⟩ := Int.eq_ofNat_of_zero_le hi0
  obtain ⟨j, rfl⟩ := Int.eq_ofNat_of_zero_le hj0
  obtain ⟨c1, c2, c3⟩ := h.cell (i := i) (j := j) (by omega) (by omega)
  refine (limit_any b n i j (r i) (D i j) m w (by omega) (by omega) c1 c2 c3).mono fun e w' ⟨he, hw⟩ => ?_
  subst hw
  exact ⟨he, (h.set j (by omega) _).drew, ((Below.refl B w).setCell (hB i (by omega)) _).drew⟩

theorem between_net (b : Nat) (r : Nat → Nat) (n : Nat) (D : Net) (i j lo hi : Int) (w : World) (h : NetAt w b r n D) (B : Nat) (hB : ∀ a, a < n → B ≤ r a) (hi0 : 0 ≤ i) (hj0 : 0 ≤ j) (hin : i < n) (hjn : j < n) (hlo : -1000000000000 ≤ lo) (hlo2 : lo ≤ 1000000000000) :
    Calls Tryz.prog 92 #[.slice (some ⟨b, 0, none⟩) n n, .int .i64 i, .int .i64 j, .int .i64 lo, .int .i64 hi] w fun e w' => e = .returned (.tuple #[]) ∧
      NetAt w' b r n (upd (upd D i.toNat j.toNat (min (D i.toNat j.toNat) hi)) j.toNat i.toNat (min (upd D i.toNat j.toNat (min (D i.toNat j.toNat) hi) j.toNat i.toNat) (-lo))) ∧ Below B w w' := by
  go_enter Tryz.func92, Tryz.ntmps92
  go_wp2_with fail
  refine (limit_net b r n D i j hi w h B hB hi0 hj0 hin hjn).mono ?_
  rintro e w1 ⟨rfl, h1, b1⟩
  go_wp2_with fail
  refine (limit_net b r n _ j i (-lo) w1 h1 B hB hj0 hi0 hjn hin).mono ?_
  rintro e w2 ⟨rfl, h2, b2⟩
  go_wp2_with fail
  go_end0
  exact ⟨rfl, h2, b1.trans b2⟩
end Go.Proofs.YthcbchgdfldckaaGreatDoor
