/- Rows of structs: the cells one after the other. -/
import Derived.Test.YthcbchgdfldckaaGreatDoorEv
namespace Go.Proofs.YthcbchgdfldckaaGreatDoor
open Go.RowKit

def flatN (n : Nat) (f : Nat → List Value) : List Value := (List.range n).flatMap f
theorem flatN_succ (n : Nat) (f : Nat → List Value) : flatN (n + 1) f = flatN n f ++ f n := by simp [flatN, List.range_succ]
theorem flatN_length {f : Nat → List Value} {sz : Nat} (hl : ∀ i, (f i).length = sz) : ∀ n, (flatN n f).length = n * sz
  | 0 => by simp [flatN]
  | n + 1 => by rw [flatN_succ, List.length_append, flatN_length hl n, hl, Nat.succ_mul]
theorem flatN_get {f : Nat → List Value} {sz : Nat} (hl : ∀ i, (f i).length = sz) : ∀ n i j, i < n → j < sz → (flatN n f)[i * sz + j]? = (f i)[j]?
  | 0, i, j, h, _ => absurd h (Nat.not_lt_zero _)
  | n + 1, i, j, hi, hj => by
    have hn := flatN_length hl n
    rw [flatN_succ]
    rcases Nat.lt_or_ge i n with h | h
    · have h1 : i * sz + j < n * sz := by
        have : (i + 1) * sz ≤ n * sz := Nat.mul_le_mul_right sz h
        rw [Nat.succ_mul] at this
        omega
      rw [List.getElem?_append_left (by omega)]
      exact flatN_get hl n i j h hj
    · obtain rfl : i = n := by omega
      rw [List.getElem?_append_right (by omega), hn, Nat.add_sub_cancel_left]
theorem flatN_congr {n : Nat} {f g : Nat → List Value} (h : ∀ i, i < n → f i = g i) : flatN n f = flatN n g := by
  unfold flatN
  rw [List.flatMap_def, List.flatMap_def, List.map_congr_left fun i hi => h i (List.mem_range.1 hi)]
theorem flatN_mem {n : Nat} {f : Nat → List Value} {u : Value} (h : u ∈ flatN n f) : ∃ i, i < n ∧ u ∈ f i := by
  unfold flatN at h
  obtain ⟨i, hi, hu⟩ := List.mem_flatMap.1 h
  exact ⟨i, List.mem_range.1 hi, hu⟩
/-- A row that lies in memory: its cells, one after the other. -/
theorem RowAt.news {w : World} {b o sz n : Nat} {f : Nat → List Value} (hl : ∀ i, (f i).length = sz) (hs : 0 < sz) (h : RowAt w (some ⟨b, o, none⟩) sz n f) : ∀ (k : Nat) u, (flatN n f)[k]? = some u → w.cell? ⟨b, o + k, none⟩ = some u := fun k u hu => by
  have hk := (List.getElem?_eq_some_iff.1 hu).1
  rw [flatN_length hl] at hk
  have hn : 0 < n := Nat.pos_of_ne_zero fun e => by subst e; simp at hk
  obtain ⟨b', o', e, hc⟩ := h hn
  cases e
  have hi : k / sz < n := Nat.div_lt_of_lt_mul (by rw [Nat.mul_comm]; exact hk)
  have hj : k % sz < sz := Nat.mod_lt _ hs
  have e1 : k / sz * sz + k % sz = k := by rw [Nat.mul_comm]; exact Nat.div_add_mod k sz
  have := flatN_get hl n (k / sz) (k % sz) hi hj
  rw [e1, hu] at this
  have := hc (k / sz) (k % sz) u hi this.symm
  rw [Nat.add_assoc, e1] at this
  exact this
theorem row_own {w : World} {base : Nat} {e : TypeId} {sz n : Nat} {v : Value} {f : Nat → List Value} (hl : ∀ i, (f i).length = sz) (h : w.ownsRow base e sz v n (flatN n f)) : ∃ A c, v = .slice A n c ∧ RowAt w A sz n f ∧ n ≤ c ∨ (n = 0 ∧ v = .slice none 0 0) := by
  rcases h.2 with ⟨rfl, h0⟩ | ⟨g, c, cur, rfl, _, _, hnc, _⟩
  · exact ⟨none, 0, .inr ⟨h0, rfl⟩⟩
  · refine ⟨_, c, .inl ⟨rfl, fun h0 => ⟨g, 0, rfl, fun i j u hi hu => ?_⟩, hnc⟩⟩
    have hj : j < sz := by rw [← hl i]; exact (List.getElem?_eq_some_iff.1 hu).1
    have h1 : i * sz + j < n * sz := by
      have : (i + 1) * sz ≤ n * sz := Nat.mul_le_mul_right sz hi
      rw [Nat.succ_mul] at this
      omega
    rw [Nat.zero_add, h.cellAt (i * sz + j) h1, flatN_get hl n i j hi hj]
    exact hu
theorem Ti.cells_length (l : List Ti) (i : Nat) : ((l.getD i dTi).cells).length = 4 := rfl
theorem Ev.cells_length (l : List Ev) (i : Nat) : ((l.getD i dEv).cells).length = 3 := rfl
theorem getD_append_left {α : Type} (l m : List α) (d : α) {i : Nat} (h : i < l.length) : (l ++ m).getD i d = l.getD i d := by
  simp [List.getD_eq_getElem?_getD, List.getElem?_append_left h]
theorem getD_snoc {α : Type} (l : List α) (x d : α) : (l ++ [x]).getD l.length d = x := by simp [List.getD_eq_getElem?_getD]
/-- One tie more. -/
theorem flat_snoc_ti (l : List Ti) (x : Ti) : flatN (l ++ [x]).length (fun i => ((l ++ [x]).getD i dTi).cells) = flatN l.length (fun i => (l.getD i dTi).cells) ++ x.cells := by
  rw [List.length_append, List.length_singleton, flatN_succ, getD_snoc]
  congr 1
  exact flatN_congr fun i hi => by rw [getD_append_left l [x] dTi hi]
theorem flat_snoc_ev (l : List Ev) (x : Ev) : flatN (l ++ [x]).length (fun i => ((l ++ [x]).getD i dEv).cells) = flatN l.length (fun i => (l.getD i dEv).cells) ++ x.cells := by
  rw [List.length_append, List.length_singleton, flatN_succ, getD_snoc]
  congr 1
  exact flatN_congr fun i hi => by rw [getD_append_left l [x] dEv hi]
end Go.Proofs.YthcbchgdfldckaaGreatDoor
