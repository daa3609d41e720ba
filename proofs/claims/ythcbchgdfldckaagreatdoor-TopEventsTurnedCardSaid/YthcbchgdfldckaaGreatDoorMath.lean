/-! Plain mathematics of nets of differences. -/
namespace Go.Proofs.YthcbchgdfldckaaGreatDoor.ClkM

/-- A net: how much variable j is greater than variable i at most. -/
abbrev Net := Nat → Nat → Int
/-- x is a solution of the net over n variables. -/
def Sol (n : Nat) (D : Net) (x : Nat → Int) : Prop := ∀ i j, i < n → j < n → x j - x i ≤ D i j
def upd (D : Net) (i j : Nat) (v : Int) : Net := fun a b => if a = i ∧ b = j then v else D a b

/-- One cell of a round. -/
def cellStep (k i j : Nat) (D : Net) : Net := upd D i j (min (D i j) (D i k + D k j))
/-- Row i of round k, from cell j on: the cells 0 .. j-1 are done. -/
def rowTo (k i : Nat) (D : Net) : Nat → Net
  | 0 => D
  | j + 1 => cellStep k i j (rowTo k i D j)
/-- The row done at once. -/
def rowDone (k i : Nat) (D : Net) (m : Nat) : Net := fun a b => if a = i ∧ b < m then min (D a b) (D a k + D k b) else D a b

theorem rowTo_eq (k i : Nat) (D : Net) (hk : 0 ≤ D k k) (m : Nat) : rowTo k i D m = rowDone k i D m := by
  induction m with
  | zero => funext a b; simp [rowTo, rowDone]
  | succ j ih =>
    funext a b
    simp only [rowTo, ih, cellStep, upd]
    have e1 : rowDone k i D j i k = D i k := by
      unfold rowDone
      split
      · rw [Int.min_def]; split
        · rfl
        · omega
      · rfl
    have e2 : rowDone k i D j k j = D k j := by
      unfold rowDone
      split
      · omega
      · rfl
    have e3 : rowDone k i D j i j = D i j := by
      unfold rowDone
      split
      · omega
      · rfl
    rw [e1, e2, e3]
    by_cases h : a = i ∧ b = j
    · obtain ⟨rfl, rfl⟩ := h
      simp [rowDone]
    · rw [if_neg h]
      unfold rowDone
      by_cases h1 : a = i ∧ b < j
      · rw [if_pos h1, if_pos ⟨h1.1, by omega⟩]
      · rw [if_neg h1]
        by_cases h2 : a = i ∧ b < j + 1
        · exfalso; apply h; exact ⟨h2.1, by have := h2.2; have : ¬ b < j := fun hb => h1 ⟨h2.1, hb⟩; omega⟩
        · rw [if_neg h2]

/-- Rows 0 .. m-1 of round k are done. -/
def rowsDone (n k : Nat) (D : Net) (m : Nat) : Net := fun a b => if a < m ∧ b < n then min (D a b) (D a k + D k b) else D a b

theorem rowsDone_k (n k : Nat) (D : Net) (hk : 0 ≤ D k k) (m j : Nat) : rowsDone n k D m k j = D k j := by
  unfold rowsDone
  split
  · rw [Int.min_def]; split
    · rfl
    · omega
  · rfl
theorem rowsDone_col (n k : Nat) (D : Net) (hk : 0 ≤ D k k) (m i : Nat) : rowsDone n k D m i k = D i k := by
  unfold rowsDone
  split
  · rw [Int.min_def]; split
    · rfl
    · omega
  · rfl
theorem rowsDone_succ (n k : Nat) (D : Net) (hk : 0 ≤ D k k) (m : Nat) : rowDone k m (rowsDone n k D m) n = rowsDone n k D (m + 1) := by
  funext a b
  unfold rowDone
  by_cases h : a = m ∧ b < n
  · rw [if_pos h, rowsDone_k n k D hk, rowsDone_col n k D hk]
    unfold rowsDone
    rw [if_neg (by omega), if_pos ⟨by omega, h.2⟩]
  · rw [if_neg h]
    unfold rowsDone
    by_cases h1 : a < m ∧ b < n
    · rw [if_pos h1, if_pos ⟨by omega, h1.2⟩]
    · rw [if_neg h1, if_neg (by intro h2; apply h; exact ⟨by have : ¬ a < m := fun h3 => h1 ⟨h3, h2.2⟩; omega, h2.2⟩)]
theorem rowsDone_zero (n k : Nat) (D : Net) : rowsDone n k D 0 = D := by funext a b; simp [rowsDone]

/-- What holds ahead of round k. A: the net at the start. U bounds A. -/
structure Inv (n : Nat) (U : Int) (A : Net) (k : Nat) (D : Net) : Prop where
  up : ∀ i j, i < n → j < n → D i j ≤ U
  low : ∀ i j, i < n → j < n → -U ≤ A i j
  diag : ∀ i, i < n → D i i = 0
  le : ∀ i j, i < n → j < n → D i j ≤ A i j
  tri : ∀ i j m, i < n → j < n → m < k → m < n → D i j ≤ D i m + D m j
  sol : ∀ x, Sol n A x → Sol n D x
  mid : ∀ i j, i < n → j < n → A i j ≤ D i j ∨ ∃ m, m < k ∧ m < n ∧ D i m + D m j ≤ D i j

theorem Inv.start {n : Nat} {U : Int} {A : Net} (hU : ∀ i j, i < n → j < n → -U ≤ A i j ∧ A i j ≤ U) (hd : ∀ i, i < n → A i i = 0) : Inv n U A 0 A :=
  ⟨fun i j hi hj => (hU i j hi hj).2, fun i j hi hj => (hU i j hi hj).1, hd, fun _ _ _ _ => Int.le_refl _, fun _ _ _ _ _ h => absurd h (Nat.not_lt_zero _), fun _ h => h, fun _ _ _ _ => .inl (Int.le_refl _)⟩

theorem Inv.lower {n : Nat} {U : Int} {A D : Net} {k : Nat} (h : Inv n U A k D) : ∀ i j, i < n → j < n → -(2 * U) ≤ D i j := by
  have hU : 0 ≤ n → ∀ i, i < n → 0 ≤ U := fun _ i hi => by have := h.up i i hi hi; rw [h.diag i hi] at this; exact this
  intro i j hi hj
  have hU0 := hU (Nat.zero_le _) i hi
  rcases h.mid i j hi hj with h1 | ⟨m, hm, hmn, h2⟩
  · have := h.low i j hi hj; omega
  · have a1 := h.tri m m i
    have t1 := h.tri i i m hi hi hm hmn
    rw [h.diag i hi] at t1
    have t2 := h.tri j j m hj hj hm hmn
    rw [h.diag j hj] at t2
    have u1 := h.up m i hmn hi
    have u2 := h.up j m hj hmn
    omega

/-- Round k, wholly done without a negative diagonal, goes on. -/
theorem Inv.next {n : Nat} {U : Int} {A D : Net} {k : Nat} (h : Inv n U A k D) (hk : k < n) (hd : ∀ i, i < n → ¬ rowsDone n k D n i i < 0) : Inv n U A (k + 1) (rowsDone n k D n) := by
  have hkk : 0 ≤ D k k := by rw [h.diag k hk]; exact Int.le_refl _
  have e : ∀ i j, i < n → j < n → rowsDone n k D n i j = min (D i j) (D i k + D k j) := fun i j hi hj => by unfold rowsDone; rw [if_pos ⟨hi, hj⟩]
  refine ⟨fun i j hi hj => ?_, h.low, fun i hi => ?_, fun i j hi hj => ?_, fun i j m hi hj hm hmn => ?_, fun x hx i j hi hj => ?_, fun i j hi hj => ?_⟩
  · have := h.up i j hi hj; rw [e i j hi hj]; omega
  · have h1 := hd i hi
    have h2 := h.diag i hi
    have h3 := e i i hi hi
    omega
  · have := h.le i j hi hj; rw [e i j hi hj]; omega
  · rw [e i j hi hj, e i m hi hmn, e m j hmn hj]
    by_cases hmk : m = k
    · subst hmk
      rw [h.diag m hk]
      omega
    · have hm' : m < k := by omega
      have t1 := h.tri i j m hi hj hm' hmn
      have t2 := h.tri i k m hi hk hm' hmn
      have t3 := h.tri k j m hk hj hm' hmn
      have t4 := h.tri k k m hk hk hm' hmn
      rw [h.diag k hk] at t4
      omega
  · have s := h.sol x hx
    have s1 := s i j hi hj
    have s2 := s i k hi hk
    have s3 := s k j hk hj
    rw [e i j hi hj]
    omega
  · rw [e i j hi hj]
    by_cases hc : D i j ≤ D i k + D k j
    · rw [Int.min_eq_left hc]
      rcases h.mid i j hi hj with h1 | ⟨m, hm, hmn, h2⟩
      · exact .inl h1
      · refine .inr ⟨m, by omega, hmn, ?_⟩
        rw [e i m hi hmn, e m j hmn hj]
        omega
    · refine .inr ⟨k, by omega, hk, ?_⟩
      rw [e i k hi hk, e k j hk hj, h.diag k hk]
      omega

/-- A negative diagonal: there is no solution. -/
theorem Inv.clash {n : Nat} {U : Int} {A D : Net} {k m : Nat} (h : Inv n U A k D) (hk : k < n) {i : Nat} (hi : i < n) (hneg : rowsDone n k D m i i < 0) : ∀ x, ¬ Sol n A x := by
  intro x hx
  have s := h.sol x hx
  have s2 := s i k hi hk
  have s3 := s k i hk hi
  have h2 := h.diag i hi
  unfold rowsDone at hneg
  split at hneg <;> omega

/-- v is the most by which j is greater than i in what solves. -/
def IsMax (S : (Nat → Int) → Prop) (i j : Nat) (v : Int) : Prop := (∀ x, S x → x j - x i ≤ v) ∧ ∃ x, S x ∧ x j - x i = v
theorem IsMax.uniq {S : (Nat → Int) → Prop} {i j : Nat} {v u : Int} (h : IsMax S i j v) (k : IsMax S i j u) : v = u := by
  obtain ⟨h1, x, hx, e⟩ := h
  obtain ⟨k1, y, hy, f⟩ := k
  have a := h1 y hy
  have b := k1 x hx
  omega

theorem Inv.max {n : Nat} {U : Int} {A D : Net} (h : Inv n U A n D) : ∀ i j, i < n → j < n → IsMax (Sol n A) i j (D i j) := by
  intro i j hi hj
  refine ⟨fun x hx => h.sol x hx i j hi hj, fun b => D i b, fun a b ha hb => ?_, ?_⟩
  · have t := h.tri i b a hi hb ha ha
    have l := h.le a b ha hb
    show D i b - D i a ≤ A a b
    omega
  · show D i j - D i i = D i j
    rw [h.diag i hi]; omega

/-- A bound more. -/
theorem sol_limit {n : Nat} {D : Net} {i j : Nat} (hi : i < n) (hj : j < n) (v : Int) (x : Nat → Int) : Sol n (upd D i j (min (D i j) v)) x ↔ Sol n D x ∧ x j - x i ≤ v := by
  constructor
  · intro h
    refine ⟨fun a b ha hb => ?_, ?_⟩
    · have := h a b ha hb
      unfold upd at this
      split at this
      · next e => obtain ⟨rfl, rfl⟩ := e; omega
      · exact this
    · have := h i j hi hj
      unfold upd at this
      rw [if_pos ⟨rfl, rfl⟩] at this
      omega
  · intro ⟨h, hv⟩ a b ha hb
    unfold upd
    split
    · next e => obtain ⟨rfl, rfl⟩ := e; have := h a b ha hb; omega
    · exact h a b ha hb
/-- What a net is good for while it is built. -/
structure NetOk (n : Nat) (D : Net) : Prop where
  lo : ∀ i j, i < n → j < n → -100000000000 ≤ D i j
  hi : ∀ i j, i < n → j < n → D i j ≤ 100000000000
  diag : ∀ i, i < n → D i i = 0
def two (D : Net) (i j : Nat) (lo hi : Int) : Net := upd (upd D i j (min (D i j) hi)) j i (min (upd D i j (min (D i j) hi) j i) (-lo))
theorem sol_two {n : Nat} {D : Net} {i j : Nat} (hi : i < n) (hj : j < n) (lo hi' : Int) (x : Nat → Int) : Sol n (two D i j lo hi') x ↔ Sol n D x ∧ lo ≤ x j - x i ∧ x j - x i ≤ hi' := by
  unfold two
  rw [sol_limit hj hi, sol_limit hi hj]
  constructor
  · rintro ⟨⟨h1, h2⟩, h3⟩; exact ⟨h1, by omega, h2⟩
  · rintro ⟨h1, h2, h3⟩; exact ⟨⟨h1, h3⟩, by omega⟩
theorem netOk_two {n : Nat} {D : Net} {i j : Nat} (h : NetOk n D) (hi : i < n) (hj : j < n) (hne : i ≠ j) {lo hi' : Int} (h1 : -100000000000 ≤ hi') (h2 : lo ≤ 100000000000) : NetOk n (two D i j lo hi') := by
  have e : ∀ a b, a < n → b < n → two D i j lo hi' a b ≤ D a b ∧ (a = b → two D i j lo hi' a b = D a b) ∧ -100000000000 ≤ two D i j lo hi' a b := by
    intro a b ha hb
    have l1 := h.lo a b ha hb
    have l2 := h.lo i j hi hj
    have l3 := h.lo j i hj hi
    unfold two upd
    by_cases c1 : a = j ∧ b = i
    · obtain ⟨rfl, rfl⟩ := c1
      rw [if_pos ⟨rfl, rfl⟩, if_neg (by rintro ⟨rfl, _⟩; exact hne rfl)]
      exact ⟨by omega, fun e => absurd e.symm hne, by omega⟩
    · rw [if_neg c1]
      by_cases c2 : a = i ∧ b = j
      · obtain ⟨rfl, rfl⟩ := c2
        rw [if_pos ⟨rfl, rfl⟩]
        exact ⟨by omega, fun e => absurd e hne, by omega⟩
      · rw [if_neg c2]
        exact ⟨Int.le_refl _, fun _ => rfl, l1⟩
  exact ⟨fun a b ha hb => (e a b ha hb).2.2, fun a b ha hb => Int.le_trans (e a b ha hb).1 (h.hi a b ha hb), fun a ha => by rw [(e a a ha ha).2.1 rfl]; exact h.diag a ha⟩
/-- The net at the start: far apart. -/
def far : Net := fun i j => if i = j then 0 else 17179869180
theorem netOk_far (n : Nat) : NetOk n far := ⟨fun i j _ _ => by unfold far; split <;> omega, fun i j _ _ => by unfold far; split <;> omega, fun i _ => by unfold far; rw [if_pos rfl]⟩
theorem sol_far (n : Nat) (x : Nat → Int) : Sol n far x ↔ ∀ i j, i < n → j < n → x j - x i ≤ 17179869180 := by
  constructor
  · intro h i j hi hj
    have := h i j hi hj
    unfold far at this
    split at this <;> omega
  · intro h i j hi hj
    unfold far
    split
    · next e => subst e; omega
    · exact h i j hi hj
end Go.Proofs.YthcbchgdfldckaaGreatDoor.ClkM
