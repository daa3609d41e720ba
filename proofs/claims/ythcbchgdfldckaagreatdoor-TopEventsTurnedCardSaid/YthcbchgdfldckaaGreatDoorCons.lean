/- The constraints of a net of clocks, and what fits. -/
import Derived.Test.YthcbchgdfldckaaGreatDoorLaws
namespace Go.Proofs.YthcbchgdfldckaaGreatDoor
open ClkM

def pos (l : List Ev) (c : Nm) : Nat := (names l).idxOf c
theorem pos_lt {l : List Ev} {c : Nm} (h : c ∈ names l) : pos l c < (names l).length := List.idxOf_lt_length_of_mem h
theorem pos_get {l : List Ev} {c : Nm} (h : c ∈ names l) : (names l)[pos l c]? = some c := by
  rw [List.getElem?_eq_getElem (pos_lt h)]
  simp [pos]
theorem names_nodup (l : List Ev) : (names l).Nodup := by
  have := names_pw l
  exact this.imp (fun h e => by subst e; exact List.lt_irrefl _ h)
theorem pos_at {l : List Ev} {k : Nat} (hk : k < (names l).length) : pos l ((names l).getD k []) = k := by
  have e : (names l).getD k [] = (names l)[k] := by simp [List.getD_eq_getElem?_getD, List.getElem?_eq_getElem hk]
  rw [e]
  exact (names_nodup l).idxOf_getElem k hk
theorem nm_mem {l : List Ev} {i : Nat} (h : i < l.length) : (l.getD i dEv).nm ∈ names l := by
  rw [names_mem]
  refine ⟨l.getD i dEv, ?_, rfl⟩
  rw [show l.getD i dEv = l[i] by simp [List.getD_eq_getElem?_getD, List.getElem?_eq_getElem h]]
  exact List.getElem_mem h
/-- The number of variables. -/
def vars (l : List Ev) : Nat := 1 + (names l).length + l.length
/-- The variable of an event, of the begin of the axis. -/
def atOf (l : List Ev) (a : Int) : Nat := if a < 0 then 0 else 1 + (names l).length + a.toNat
structure Cons (l : List Ev) (ties : List Ti) (x : Nat → Int) : Prop where
  base : ∀ i, 1 ≤ i → i < vars l → -4294967295 ≤ x i - x 0 ∧ x i - x 0 ≤ 4294967295
  ev : ∀ i, i < l.length → (l.getD i dEv).shown - (l.getD i dEv).wide ≤ x (1 + (names l).length + i) - x (1 + pos l (l.getD i dEv).nm) ∧ x (1 + (names l).length + i) - x (1 + pos l (l.getD i dEv).nm) ≤ (l.getD i dEv).shown + (l.getD i dEv).wide
  tie : ∀ i, i < ties.length → (ties.getD i dTi).low ≤ x (atOf l (ties.getD i dTi).b) - x (atOf l (ties.getD i dTi).a) ∧ x (atOf l (ties.getD i dTi).b) - x (atOf l (ties.getD i dTi).a) ≤ (ties.getD i dTi).high
/-- What is right of a tie. -/
def TiOk (n : Nat) (t : Ti) : Prop := -1 ≤ t.a ∧ t.a < n ∧ 0 ≤ t.b ∧ t.b < n ∧ t.a ≠ t.b ∧ t.low ≤ t.high ∧ -4294967295 ≤ t.low ∧ t.high ≤ 4294967295
theorem getD_mem {α : Type} {l : List α} {d : α} {i : Nat} (h : i < l.length) : l.getD i d ∈ l := by
  rw [show l.getD i d = l[i] by simp [List.getD_eq_getElem?_getD, List.getElem?_eq_getElem h]]
  exact List.getElem_mem h
theorem mem_getD {α : Type} {l : List α} {x : α} (d : α) (h : x ∈ l) : ∃ i, i < l.length ∧ l.getD i d = x := by
  obtain ⟨i, hi, e⟩ := List.mem_iff_getElem.1 h
  exact ⟨i, hi, by simp [List.getD_eq_getElem?_getD, List.getElem?_eq_getElem hi, e]⟩
theorem cons_fits {l : List Ev} {ties : List Ti} {x : Nat → Int} (h : Cons l ties x) (ht : ∀ t ∈ ties, TiOk l.length t) :
    Fits l ties (fun c => x (1 + pos l c) - x 0) (fun i => x (1 + (names l).length + i) - x 0) := by
  refine ⟨fun c hc => ?_, fun i hi => ?_, fun i hi => ?_, fun t htm => ?_⟩
  · exact h.base _ (by omega) (by have := pos_lt hc; unfold vars; omega)
  · exact h.base _ (by omega) (by unfold vars; omega)
  · have := h.ev i hi; omega
  · obtain ⟨i, hi, rfl⟩ := mem_getD dTi htm
    have e := h.tie i hi
    obtain ⟨o1, o2, o3, o4, _⟩ := ht _ htm
    generalize ties.getD i dTi = t at *
    unfold atOf at e
    rw [if_neg (by omega : ¬ t.b < 0)] at e
    by_cases ha : t.a < 0
    · rw [if_pos ha] at e ⊢; omega
    · rw [if_neg ha] at e ⊢; omega
/-- The variables of a solution. -/
def unfit (l : List Ev) (err : Nm → Int) (t : Nat → Int) : Nat → Int := fun i => if i = 0 then 0 else if i < 1 + (names l).length then err ((names l).getD (i - 1) []) else t (i - 1 - (names l).length)
theorem unfit_zero (l : List Ev) (err : Nm → Int) (t : Nat → Int) : unfit l err t 0 = 0 := rfl
theorem unfit_err {l : List Ev} {err : Nm → Int} {t : Nat → Int} {k : Nat} (hk : k < (names l).length) : unfit l err t (1 + k) = err ((names l).getD k []) := by
  unfold unfit
  rw [if_neg (by omega), if_pos (by omega), show 1 + k - 1 = k by omega]
theorem unfit_pos {l : List Ev} {err : Nm → Int} {t : Nat → Int} {c : Nm} (hc : c ∈ names l) : unfit l err t (1 + pos l c) = err c := by
  rw [unfit_err (pos_lt hc)]
  rw [List.getD_eq_getElem?_getD, pos_get hc]; rfl
theorem unfit_time {l : List Ev} {err : Nm → Int} {t : Nat → Int} (i : Nat) : unfit l err t (1 + (names l).length + i) = t i := by
  unfold unfit
  rw [if_neg (by omega), if_neg (by omega), show 1 + (names l).length + i - 1 - (names l).length = i by omega]
theorem fits_cons {l : List Ev} {ties : List Ti} {err : Nm → Int} {t : Nat → Int} (h : Fits l ties err t) (ht : ∀ t ∈ ties, TiOk l.length t) : Cons l ties (unfit l err t) := by
  refine ⟨fun i h1 hi => ?_, fun i hi => ?_, fun i hi => ?_⟩
  · rw [unfit_zero]
    rcases Nat.lt_or_ge i (1 + (names l).length) with h2 | h2
    · obtain ⟨k, rfl⟩ : ∃ k, i = 1 + k := ⟨i - 1, by omega⟩
      rw [unfit_err (by omega)]
      have := h.inErr ((names l).getD k []) (getD_mem (by omega))
      omega
    · obtain ⟨k, rfl⟩ := Nat.exists_eq_add_of_le h2
      rw [unfit_time]
      have := h.inTime k (by unfold vars at hi; omega)
      omega
  · rw [unfit_time, unfit_pos (nm_mem hi)]
    exact h.inShown i hi
  · have hm := getD_mem (d := dTi) hi
    have e := h.inTie _ hm
    obtain ⟨o1, o2, o3, o4, _⟩ := ht _ hm
    generalize ties.getD i dTi = t at *
    unfold atOf
    rw [if_neg (by omega : ¬ t.b < 0), unfit_time]
    by_cases ha : t.a < 0
    · rw [if_pos ha] at e ⊢; rw [unfit_zero]; omega
    · rw [if_neg ha] at e ⊢; rw [unfit_time]; omega
/-- The greatest difference of two variables is what an asked difference comes to at most. -/
theorem top_of {l : List Ev} {ties : List Ti} (ht : ∀ t ∈ ties, TiOk l.length t) {i j : Nat} {v : Int} (h : IsMax (Cons l ties) i j v) (f : Q)
    (h1 : ∀ x, Cons l ties x → f (fun c => x (1 + pos l c) - x 0) (fun i => x (1 + (names l).length + i) - x 0) = x j - x i)
    (h2 : ∀ err t, Fits l ties err t → unfit l err t j - unfit l err t i = f err t) : Top l ties f v := by
  obtain ⟨m1, x, hx, e⟩ := h
  refine ⟨fun err t hf => ?_, _, _, cons_fits hx ht, by rw [h1 x hx]; exact e⟩
  rw [← h2 err t hf]
  exact m1 _ (fits_cons hf ht)
theorem top_time {l : List Ev} {ties : List Ti} (ht : ∀ t ∈ ties, TiOk l.length t) {i : Nat} {v : Int} (h : IsMax (Cons l ties) 0 (1 + (names l).length + i) v) : Top l ties (fun _ t => t i) v :=
  top_of ht h _ (fun _ _ => rfl) (fun err t _ => by rw [unfit_time, unfit_zero]; omega)
theorem top_time' {l : List Ev} {ties : List Ti} (ht : ∀ t ∈ ties, TiOk l.length t) {i : Nat} {v : Int} (h : IsMax (Cons l ties) (1 + (names l).length + i) 0 v) : Top l ties (fun _ t => - t i) v :=
  top_of ht h _ (fun x _ => by show -(x (1 + (names l).length + i) - x 0) = _; omega) (fun err t _ => by rw [unfit_time, unfit_zero]; omega)
theorem top_err {l : List Ev} {ties : List Ti} (ht : ∀ t ∈ ties, TiOk l.length t) {k : Nat} (hk : k < (names l).length) {v : Int} (h : IsMax (Cons l ties) 0 (1 + k) v) : Top l ties (fun err _ => err ((names l).getD k [])) v :=
  top_of ht h _ (fun x _ => by show x (1 + pos l _) - x 0 = _; rw [pos_at hk]) (fun err t _ => by rw [unfit_err hk, unfit_zero]; omega)
theorem top_err' {l : List Ev} {ties : List Ti} (ht : ∀ t ∈ ties, TiOk l.length t) {k : Nat} (hk : k < (names l).length) {v : Int} (h : IsMax (Cons l ties) (1 + k) 0 v) : Top l ties (fun err _ => - err ((names l).getD k [])) v :=
  top_of ht h _ (fun x _ => by show -(x (1 + pos l _) - x 0) = _; rw [pos_at hk]; omega) (fun err t _ => by rw [unfit_err hk, unfit_zero]; omega)
theorem top_less {l : List Ev} {ties : List Ti} (ht : ∀ t ∈ ties, TiOk l.length t) {a b : Nat} {v : Int} (h : IsMax (Cons l ties) (1 + (names l).length + b) (1 + (names l).length + a) v) : Top l ties (fun _ t => t a - t b) v :=
  top_of ht h _ (fun x _ => by show (x (1 + (names l).length + a) - x 0) - (x (1 + (names l).length + b) - x 0) = _; omega) (fun err t _ => by rw [unfit_time, unfit_time])
theorem isMax_congr {S T : (Nat → Int) → Prop} (h : ∀ x, S x ↔ T x) {i j : Nat} {v : Int} (k : IsMax S i j v) : IsMax T i j v := by
  obtain ⟨a, x, hx, e⟩ := k
  exact ⟨fun y hy => a y ((h y).2 hy), x, (h x).1 hx, e⟩
/-- Right events and ties, as Check says. -/
theorem chk_ties {l : List Ev} {ties : List Ti} (h : chk l ties = 0) : l.length ≤ 40 ∧ ties.length ≤ 80 ∧ (names l).length ≤ 12 ∧ (∀ e ∈ l, isName e.nm = true ∧ 0 ≤ e.shown ∧ e.shown ≤ 4294967295 ∧ 0 ≤ e.wide ∧ e.wide ≤ 4294967295) ∧ ∀ t ∈ ties, TiOk l.length t := by
  unfold chk at h
  split at h
  · omega
  · next hs =>
    rw [first_zero] at h
    refine ⟨by omega, by omega, by omega, fun e he => ?_, fun t ht => ?_⟩
    · have := h (evErr e) (List.mem_append_left _ (List.mem_map_of_mem he))
      unfold evErr at this
      split at this
      · next hn => split at this <;> (try omega); exact ⟨hn, by omega⟩
      · omega
    · have := h (tiErr l.length t) (List.mem_append_right _ (List.mem_map_of_mem ht))
      unfold tiErr at this
      split at this
      · omega
      · split at this
        · omega
        · split at this
          · omega
          · unfold TiOk; omega
end Go.Proofs.YthcbchgdfldckaaGreatDoor
