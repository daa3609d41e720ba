/- Events and ties: how they lie in memory. -/
import Derived.Test.YthcbchgdfldckaaGreatDoorOwn
import Derived.Test.YthcbchgdfldckaaGreatDoorSpec
namespace Go.Proofs.YthcbchgdfldckaaGreatDoor
open Go.RowKit

def Ev.cells (e : Ev) : List Value := [.string e.clock, .int .i64 e.shown, .int .i64 e.wide]
def Ti.cells (t : Ti) : List Value := [.int .i64 t.a, .int .i64 t.b, .int .i64 t.low, .int .i64 t.high]

/-- A slice's elements at A: n elements of sz cells each; 'f i' are the cells of element i. -/
def RowAt (w : World) (A : Option Addr) (sz n : Nat) (f : Nat → List Value) : Prop :=
  0 < n → ∃ b o, A = some ⟨b, o, none⟩ ∧ ∀ i j u, i < n → (f i)[j]? = some u → w.cell? ⟨b, o + i * sz + j, none⟩ = some u
theorem RowAt.kept {w w' : World} {A : Option Addr} {sz n : Nat} {f : Nat → List Value} (h : RowAt w A sz n f) (hk : Kept w w') : RowAt w' A sz n f := fun hn => by
  obtain ⟨b, o, e, hc⟩ := h hn
  exact ⟨b, o, e, fun i j u hi hu => hk _ _ (hc i j u hi hu)⟩
theorem RowAt.take {w : World} {A : Option Addr} {sz n : Nat} {f : Nat → List Value} (h : RowAt w A sz n f) {m : Nat} (hm : m ≤ n) : RowAt w A sz m f := fun hn => by
  obtain ⟨b, o, e, hc⟩ := h (by omega)
  exact ⟨b, o, e, fun i j u hi hu => hc i j u (by omega) hu⟩
/-- Events whose strings are of reach. -/
def EvOk (l : List Ev) : Prop := ∀ i, i < l.length → (l.getD i dEv).clock.size ≤ 140737488351232
/-- Events at A. -/
def EvsAt (w : World) (A : Option Addr) (l : List Ev) : Prop := RowAt w A 3 l.length fun i => (l.getD i dEv).cells
def TisAt (w : World) (A : Option Addr) (l : List Ti) : Prop := RowAt w A 4 l.length fun i => (l.getD i dTi).cells
theorem EvsAt.cell {w : World} {A : Option Addr} {l : List Ev} (h : EvsAt w A l) {k : Nat} (hk : k < l.length) : ∃ b o, A = some ⟨b, o, none⟩ ∧
    w.cell? ⟨b, o + k * 3, none⟩ = some (.string (l.getD k dEv).clock) ∧ w.cell? ⟨b, o + k * 3 + 1, none⟩ = some (.int .i64 (l.getD k dEv).shown) ∧ w.cell? ⟨b, o + k * 3 + 2, none⟩ = some (.int .i64 (l.getD k dEv).wide) := by
  obtain ⟨b, o, e, hc⟩ := h (by omega)
  exact ⟨b, o, e, hc k 0 _ hk rfl, hc k 1 _ hk rfl, hc k 2 _ hk rfl⟩
theorem TisAt.cell {w : World} {A : Option Addr} {l : List Ti} (h : TisAt w A l) {k : Nat} (hk : k < l.length) : ∃ b o, A = some ⟨b, o, none⟩ ∧
    w.cell? ⟨b, o + k * 4, none⟩ = some (.int .i64 (l.getD k dTi).a) ∧ w.cell? ⟨b, o + k * 4 + 1, none⟩ = some (.int .i64 (l.getD k dTi).b) ∧ w.cell? ⟨b, o + k * 4 + 2, none⟩ = some (.int .i64 (l.getD k dTi).low) ∧ w.cell? ⟨b, o + k * 4 + 3, none⟩ = some (.int .i64 (l.getD k dTi).high) := by
  obtain ⟨b, o, e, hc⟩ := h (by omega)
  exact ⟨b, o, e, hc k 0 _ hk rfl, hc k 1 _ hk rfl, hc k 2 _ hk rfl, hc k 3 _ hk rfl⟩
theorem take_snoc_getD {α : Type} (l : List α) (d : α) (k : Nat) (h : k < l.length) : l.take (k + 1) = l.take k ++ [l.getD k d] := by
  rw [List.take_succ_eq_append_getElem h]; simp [List.getD_eq_getElem?_getD, List.getElem?_eq_getElem h]
end Go.Proofs.YthcbchgdfldckaaGreatDoor
