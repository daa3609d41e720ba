/- What the clocks' functions are to come to, as plain mathematics: names of clocks, solutions of events and ties. -/
import Derived.Lib.SlicesCompact
import Derived.Test.YthcbchgdfldckaaGreatDoorMath
namespace Go.Proofs.YthcbchgdfldckaaGreatDoor
open ClkM

abbrev Nm := List UInt8
structure Ev where
  clock : ByteArray
  shown : Int
  wide : Int
structure Ti where
  a : Int
  b : Int
  low : Int
  high : Int
def dEv : Ev := ⟨ByteArray.empty, 0, 0⟩
def dTi : Ti := ⟨0, 0, 0, 0⟩
def Ev.nm (e : Ev) : Nm := e.clock.data.toList
def sorted (l : List Nm) : List Nm := l.mergeSort fun x y => decide (x ≤ y)
/-- The names of the clocks, sorted, each once. -/
def names (l : List Ev) : List Nm := Lib.compact (sorted (l.map Ev.nm))

theorem sorted_pw (l : List Nm) : (sorted l).Pairwise (· ≤ ·) := by
  have := List.pairwise_mergeSort (le := fun x y : Nm => decide (x ≤ y)) (fun a b c h k => by simp at *; exact List.le_trans h k) (fun a b => by simpa using List.le_total a b) l
  simpa [sorted] using this
theorem sorted_mem (l : List Nm) (c : Nm) : c ∈ sorted l ↔ c ∈ l := (List.mergeSort_perm l _).mem_iff
theorem sorted_length (l : List Nm) : (sorted l).length = l.length := (List.mergeSort_perm l _).length_eq

/-- What is kept of a sorted array's first m elements. -/
theorem compact_step (d : Array Nm) (hs : ∀ i j, i ≤ j → j < d.size → d[i]! ≤ d[j]!) : ∀ m, m ≤ d.size →
    (Lib.compactUpTo d m).Pairwise (· < ·) ∧ (∀ c, c ∈ Lib.compactUpTo d m ↔ ∃ j, j < m ∧ d[j]! = c) := by
  intro m
  induction m with
  | zero => intro _; exact ⟨by simp [Lib.compactUpTo], fun c => by simp [Lib.compactUpTo]⟩
  | succ m ih =>
    intro hm
    obtain ⟨h1, h2⟩ := ih (by omega)
    rw [Lib.compactUpTo_succ]
    by_cases hk : Lib.keeps d m = true
    · rw [if_pos hk]
      refine ⟨List.pairwise_append.2 ⟨h1, by simp, fun a ha b hb => ?_⟩, fun c => ?_⟩
      · obtain ⟨j, hj, rfl⟩ := (h2 a).1 ha
        have hb' : b = d[m]! := by simpa using hb
        subst hb'
        have hm0 : m ≠ 0 := by omega
        have hne : d[m]! ≠ d[m - 1]! := by
          have := hk
          simp only [Lib.keeps, decide_eq_true_eq] at this
          exact this.resolve_left hm0
        have l1 := hs j (m - 1) (by omega) (by omega)
        have l2 := hs (m - 1) m (by omega) (by omega)
        exact Std.lt_of_le_of_lt l1 (Std.lt_of_le_of_ne l2 hne.symm)
      · rw [List.mem_append, h2]
        constructor
        · rintro (⟨j, hj, e⟩ | h)
          · exact ⟨j, by omega, e⟩
          · exact ⟨m, by omega, (List.mem_singleton.1 h).symm⟩
        · rintro ⟨j, hj, e⟩
          rcases Nat.lt_or_ge j m with h | h
          · exact .inl ⟨j, h, e⟩
          · obtain rfl : j = m := by omega
            exact .inr (by simp [e])
    · rw [if_neg hk, List.append_nil]
      refine ⟨h1, fun c => ?_⟩
      rw [h2]
      have hk' : ¬ (m = 0 ∨ d[m]! ≠ d[m - 1]!) := by simpa [Lib.keeps] using hk
      have hm0 : m ≠ 0 := fun e => hk' (.inl e)
      have he : d[m]! = d[m - 1]! := Classical.byContradiction fun e => hk' (.inr e)
      constructor
      · rintro ⟨j, hj, e⟩; exact ⟨j, by omega, e⟩
      · rintro ⟨j, hj, e⟩
        rcases Nat.lt_or_ge j m with h | h
        · exact ⟨j, h, e⟩
        · obtain rfl : j = m := by omega
          exact ⟨j - 1, by omega, by rw [← he]; exact e⟩
theorem compact_sorted (l : List Nm) (hs : l.Pairwise (· ≤ ·)) : (Lib.compact l).Pairwise (· < ·) ∧ ∀ c, c ∈ Lib.compact l ↔ c ∈ l := by
  have hg : ∀ i, i < l.length → l.toArray[i]! = l[i]! := fun i hi => by simp [List.getElem!_eq_getElem?_getD]
  have h := compact_step l.toArray (fun i j hij hj => by
    have hj' : j < l.length := by simpa using hj
    have hi' : i < l.length := by omega
    rw [getElem!_pos l.toArray i (by simpa using hi'), getElem!_pos l.toArray j (by simpa using hj')]
    simp only [List.getElem_toArray]
    rcases Nat.lt_or_eq_of_le hij with h | h
    · exact List.pairwise_iff_getElem.1 hs i j hi' hj' h
    · subst h; exact List.le_refl _) l.length (by simp)
  refine ⟨h.1, fun c => ?_⟩
  unfold Lib.compact
  rw [h.2]
  constructor
  · rintro ⟨j, hj, rfl⟩
    rw [getElem!_pos l.toArray j (by simpa using hj)]
    simp
  · intro hc
    obtain ⟨j, hj, e⟩ := List.mem_iff_getElem.1 hc
    exact ⟨j, hj, by rw [getElem!_pos l.toArray j (by simpa using hj)]; simpa using e⟩
theorem names_pw (l : List Ev) : (names l).Pairwise (· < ·) := (compact_sorted _ (sorted_pw _)).1
theorem names_mem (l : List Ev) (c : Nm) : c ∈ names l ↔ ∃ e ∈ l, e.nm = c := by
  unfold names
  rw [(compact_sorted _ (sorted_pw _)).2, sorted_mem, List.mem_map]
/-- Two strictly rising lists with the same members are one. -/
theorem rising_ext : ∀ (l m : List Nm), l.Pairwise (· < ·) → m.Pairwise (· < ·) → (∀ c, c ∈ l ↔ c ∈ m) → l = m
  | [], [], _, _, _ => rfl
  | [], b :: m, _, _, h => absurd ((h b).2 (by simp)) (by simp)
  | a :: l, [], _, _, h => absurd ((h a).1 (by simp)) (by simp)
  | a :: l, b :: m, hl, hm, h => by
    have hl1 := List.pairwise_cons.1 hl
    have hm1 := List.pairwise_cons.1 hm
    have e : a = b := by
      have h1 : a ∈ b :: m := (h a).1 (by simp)
      have h2 : b ∈ a :: l := (h b).2 (by simp)
      rcases List.mem_cons.1 h1 with e | h1
      · exact e
      · rcases List.mem_cons.1 h2 with e | h2
        · exact e.symm
        · exact absurd (Std.lt_trans (hl1.1 b h2) (hm1.1 a h1)) (List.lt_irrefl a)
    subst e
    congr 1
    refine rising_ext l m hl1.2 hm1.2 (fun c => ?_)
    have hc := h c
    simp only [List.mem_cons] at hc
    constructor
    · intro hcl
      have hne : c ≠ a := fun e => by subst e; exact List.lt_irrefl _ (hl1.1 _ hcl)
      exact (hc.1 (.inr hcl)).resolve_left hne
    · intro hcm
      have hne : c ≠ a := fun e => by subst e; exact List.lt_irrefl _ (hm1.1 _ hcm)
      exact (hc.2 (.inr hcm)).resolve_left hne
theorem names_ext {l m : List Ev} (h : ∀ c, (∃ e ∈ l, e.nm = c) ↔ (∃ e ∈ m, e.nm = c)) : names l = names m :=
  rising_ext _ _ (names_pw l) (names_pw m) fun c => by rw [names_mem, names_mem]; exact h c
theorem names_length (l : List Ev) : (names l).length ≤ l.length := by
  unfold names Lib.compact Lib.compactUpTo
  rw [List.length_map]
  refine Nat.le_trans (List.length_filter_le _ _) ?_
  rw [List.length_range, sorted_length, List.length_map]
  exact Nat.le_refl _

/-- Errors of the clocks and true times that fit events and ties (the axis begins at 0). -/
structure Fits (l : List Ev) (ties : List Ti) (err : Nm → Int) (t : Nat → Int) : Prop where
  inErr : ∀ c, c ∈ names l → -4294967295 ≤ err c ∧ err c ≤ 4294967295
  inTime : ∀ i, i < l.length → -4294967295 ≤ t i ∧ t i ≤ 4294967295
  inShown : ∀ i, i < l.length → (l.getD i dEv).shown - (l.getD i dEv).wide ≤ t i - err (l.getD i dEv).nm ∧ t i - err (l.getD i dEv).nm ≤ (l.getD i dEv).shown + (l.getD i dEv).wide
  inTie : ∀ x ∈ ties, x.low ≤ t x.b.toNat - (if x.a < 0 then 0 else t x.a.toNat) ∧ t x.b.toNat - (if x.a < 0 then 0 else t x.a.toNat) ≤ x.high
/-- v is the most that f comes to among what fits. -/
def Top (l : List Ev) (ties : List Ti) (f : (Nm → Int) → (Nat → Int) → Int) (v : Int) : Prop := (∀ err t, Fits l ties err t → f err t ≤ v) ∧ ∃ err t, Fits l ties err t ∧ f err t = v
theorem Top.uniq {l : List Ev} {ties : List Ti} {f : (Nm → Int) → (Nat → Int) → Int} {v u : Int} (h : Top l ties f v) (k : Top l ties f u) : v = u := by
  obtain ⟨h1, x, y, hx, e⟩ := h
  obtain ⟨k1, x', y', hy, e'⟩ := k
  have a := h1 x' y' hy
  have b := k1 x y hx
  omega
end Go.Proofs.YthcbchgdfldckaaGreatDoor
