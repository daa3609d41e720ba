/- The plain laws of the clocks. -/
import Derived.Test.YthcbchgdfldckaaGreatDoorSpec
namespace Go.Proofs.YthcbchgdfldckaaGreatDoor
open ClkM

/-- What is asked of a solution. -/
abbrev Q := (Nm → Int) → (Nat → Int) → Int
/-- fs.Named. -/
def nameByte (c : UInt8) : Bool := (97 ≤ c && c ≤ 122) || (48 ≤ c && c ≤ 57) || c == 45
def isName (s : Nm) : Bool := match s with
  | [] => false
  | c :: r => decide ((c :: r).length ≤ 12) && (97 ≤ c && c ≤ 122) && r.all nameByte
/-- What clock.Check says of an event, and of a tie. -/
def evErr (e : Ev) : Int := if isName e.nm then (if e.shown < 0 ∨ 4294967295 < e.shown ∨ e.wide < 0 ∨ 4294967295 < e.wide then 4 else 0) else 6
def tiErr (n : Nat) (t : Ti) : Int :=
  if t.a < -1 ∨ (n : Int) ≤ t.a ∨ t.b < 0 ∨ (n : Int) ≤ t.b then 8 else if t.a = t.b then 16 else if t.high < t.low ∨ t.low < -4294967295 ∨ 4294967295 < t.high then 4 else 0
/-- The first that is not 0. -/
def first : List Int → Int
  | [] => 0
  | e :: r => if e = 0 then first r else e
theorem first_zero {l : List Int} : first l = 0 ↔ ∀ e ∈ l, e = 0 := by
  induction l with
  | nil => simp [first]
  | cons e r ih => unfold first; split <;> simp_all
/-- clock.Check. -/
def chk (l : List Ev) (ties : List Ti) : Int :=
  if 40 < l.length ∨ 80 < ties.length ∨ 12 < (names l).length then 2 else first (l.map evErr ++ ties.map (tiErr l.length))
/-- clock.Solve's and clock.Errors's results for right events and ties; 'fs': what is asked for, one by one. -/
def Told (l : List Ev) (ties : List Ti) (fs : List (Q)) (e : Int) (L : List (Int × Int)) : Prop :=
  (e = 17 ∧ L = [] ∧ ∀ err t, ¬ Fits l ties err t) ∨
  (e = 0 ∧ (∃ err t, Fits l ties err t) ∧ L.length = fs.length ∧ ∀ (i : Nat) (f : Q) (p : Int × Int), fs[i]? = some f → L[i]? = some p → Top l ties f p.2 ∧ Top l ties (fun a b => -f a b) (-p.1))
/-- With Check ahead. -/
def Out (l : List Ev) (ties : List Ti) (fs : List (Q)) (e : Int) (L : List (Int × Int)) : Prop :=
  (chk l ties ≠ 0 ∧ e = chk l ties ∧ L = []) ∨ (chk l ties = 0 ∧ Told l ties fs e L)
/-- Is event a surely ahead of event b: clock.Before. -/
def Bef (l : List Ev) (ties : List Ti) (a b : Int) (r : Bool) (e : Int) : Prop :=
  (chk l ties ≠ 0 ∧ e = chk l ties ∧ r = false) ∨
  (chk l ties = 0 ∧ (a < 0 ∨ b < 0 ∨ (l.length : Int) ≤ a ∨ (l.length : Int) ≤ b) ∧ e = 8 ∧ r = false) ∨
  (chk l ties = 0 ∧ ¬ (a < 0 ∨ b < 0 ∨ (l.length : Int) ≤ a ∨ (l.length : Int) ≤ b) ∧
    ((e = 17 ∧ r = false ∧ ∀ err t, ¬ Fits l ties err t) ∨ (e = 0 ∧ (∃ err t, Fits l ties err t) ∧ ∃ v, Top l ties (fun _ t => t a.toNat - t b.toNat) v ∧ r = decide (v < 0))))
def times (l : List Ev) : List (Q) := (List.range l.length).map fun i => fun _ t => t i
def errs (l : List Ev) : List (Q) := (names l).map fun c => fun err _ => err c

/-- Two that are asked the same of what fits the same answer the same. -/
theorem Told.same {l m : List Ev} {ties t : List Ti} {fs gs : List (Q)} {e e' : Int} {L L' : List (Int × Int)} (h : Told l ties fs e L) (k : Told m t gs e' L')
    (hl : fs.length = gs.length) (to : ∀ err τ, Fits l ties err τ → ∃ err' τ', Fits m t err' τ' ∧ ∀ (i : Nat) (f g : Q), fs[i]? = some f → gs[i]? = some g → f err τ = g err' τ')
    (back : ∀ err τ, Fits m t err τ → ∃ err' τ', Fits l ties err' τ' ∧ ∀ (i : Nat) (f g : Q), fs[i]? = some f → gs[i]? = some g → f err' τ' = g err τ) : e = e' ∧ L = L' := by
  have hiff : (∀ err τ, ¬ Fits l ties err τ) ↔ (∀ err τ, ¬ Fits m t err τ) := by
    constructor
    · intro h0 err τ hf; obtain ⟨a, b, hf', _⟩ := back err τ hf; exact h0 a b hf'
    · intro h0 err τ hf; obtain ⟨a, b, hf', _⟩ := to err τ hf; exact h0 a b hf'
  have top_eq : ∀ (i : Nat) f g v u, fs[i]? = some f → gs[i]? = some g → Top l ties f v → Top m t g u → v = u := by
    intro i f g v u hf hg hv hu
    obtain ⟨v1, a, b, hfit, e1⟩ := hv
    obtain ⟨u1, a', b', hfit', e2⟩ := hu
    obtain ⟨x, y, hx, hxe⟩ := to a b hfit
    obtain ⟨x', y', hx', hxe'⟩ := back a' b' hfit'
    have p1 := u1 x y hx
    have p2 := v1 x' y' hx'
    have p3 := hxe i f g hf hg
    have p4 := hxe' i f g hf hg
    omega
  have top_eq' : ∀ (i : Nat) f g v u, fs[i]? = some f → gs[i]? = some g → Top l ties (fun a b => -f a b) v → Top m t (fun a b => -g a b) u → v = u := by
    intro i f g v u hf hg hv hu
    obtain ⟨v1, a, b, hfit, e1⟩ := hv
    obtain ⟨u1, a', b', hfit', e2⟩ := hu
    obtain ⟨x, y, hx, hxe⟩ := to a b hfit
    obtain ⟨x', y', hx', hxe'⟩ := back a' b' hfit'
    have p1 := u1 x y hx
    have p2 := v1 x' y' hx'
    have p3 := hxe i f g hf hg
    have p4 := hxe' i f g hf hg
    simp only at p1 p2 e1 e2
    omega
  rcases h with ⟨he, hL, hn⟩ | ⟨he, ⟨x0, y0, hx0⟩, hL, ht⟩ <;> rcases k with ⟨ke, kL, kn⟩ | ⟨ke, ⟨x1, y1, hx1⟩, kL, kt⟩
  · exact ⟨he.trans ke.symm, hL.trans kL.symm⟩
  · exact absurd hx1 (hiff.1 hn x1 y1)
  · exact absurd hx0 (hiff.2 kn x0 y0)
  · refine ⟨he.trans ke.symm, List.ext_getElem? fun i => ?_⟩
    rcases Nat.lt_or_ge i fs.length with hi | hi
    · obtain ⟨f, hf⟩ : ∃ f, fs[i]? = some f := ⟨_, List.getElem?_eq_getElem hi⟩
      obtain ⟨g, hg⟩ : ∃ g, gs[i]? = some g := ⟨_, List.getElem?_eq_getElem (hl ▸ hi)⟩
      obtain ⟨p, hp⟩ : ∃ p, L[i]? = some p := ⟨_, List.getElem?_eq_getElem (by omega)⟩
      obtain ⟨q, hq⟩ : ∃ q, L'[i]? = some q := ⟨_, List.getElem?_eq_getElem (by omega)⟩
      obtain ⟨a1, a2⟩ := ht i f p hf hp
      obtain ⟨b1, b2⟩ := kt i g q hg hq
      have c1 := top_eq i f g _ _ hf hg a1 b1
      have c2 := top_eq' i f g _ _ hf hg a2 b2
      have : p = q := Prod.ext (by omega) c1
      rw [hp, hq, this]
    · rw [List.getElem?_eq_none (by omega), List.getElem?_eq_none (by omega)]

theorem first_at {l : List Int} {k : Nat} (hk : k < l.length) (hz : ∀ j, j < k → l.getD j 0 = 0) (hne : l.getD k 0 ≠ 0) : first l = l.getD k 0 := by
  induction l generalizing k with
  | nil => simp at hk
  | cons e r ih =>
    cases k with
    | zero => unfold first; simp at hne; rw [if_neg hne]; simp
    | succ k =>
      have h0 : e = 0 := by simpa using hz 0 (Nat.succ_pos _)
      subst h0
      unfold first
      rw [if_pos rfl, ih (k := k) (by simpa using hk) (fun j hj => by simpa using hz (j + 1) (by omega)) (by simpa using hne)]
      simp
theorem getD_map {α : Type} (l : List α) (f : α → Int) (d : α) (k : Nat) (hk : k < l.length) : (l.map f).getD k 0 = f (l.getD k d) := by
  simp [List.getD_eq_getElem?_getD, List.getElem?_eq_getElem hk]
theorem getD_left {l m : List Int} {k : Nat} (h : k < l.length) : (l ++ m).getD k 0 = l.getD k 0 := by
  simp [List.getD_eq_getElem?_getD, List.getElem?_append_left h]
theorem getD_right {l m : List Int} {k : Nat} : (l ++ m).getD (l.length + k) 0 = m.getD k 0 := by
  simp [List.getD_eq_getElem?_getD, List.getElem?_append_right]
theorem chk_large {l : List Ev} {ties : List Ti} (h : 40 < l.length ∨ 80 < ties.length ∨ 12 < (names l).length) : chk l ties = 2 := by unfold chk; rw [if_pos h]
theorem chk_ev {l : List Ev} {ties : List Ti} (h : ¬ (40 < l.length ∨ 80 < ties.length ∨ 12 < (names l).length)) {k : Nat} (hk : k < l.length) (hz : ∀ j, j < k → evErr (l.getD j dEv) = 0) (hne : evErr (l.getD k dEv) ≠ 0) :
    chk l ties = evErr (l.getD k dEv) := by
  unfold chk
  rw [if_neg h]
  have e : ∀ j, j < l.length → (l.map evErr ++ ties.map (tiErr l.length)).getD j 0 = evErr (l.getD j dEv) := fun j hj => by
    rw [getD_left (by simpa using hj), getD_map l evErr dEv j hj]
  rw [first_at (k := k) (by simp; omega) (fun j hj => by rw [e j (by omega)]; exact hz j hj) (by rw [e k hk]; exact hne), e k hk]
theorem chk_ti {l : List Ev} {ties : List Ti} (h : ¬ (40 < l.length ∨ 80 < ties.length ∨ 12 < (names l).length)) (hl : ∀ j, j < l.length → evErr (l.getD j dEv) = 0) {k : Nat} (hk : k < ties.length) (hz : ∀ j, j < k → tiErr l.length (ties.getD j dTi) = 0) (hne : tiErr l.length (ties.getD k dTi) ≠ 0) :
    chk l ties = tiErr l.length (ties.getD k dTi) := by
  unfold chk
  rw [if_neg h]
  have e : ∀ j, j < l.length → (l.map evErr ++ ties.map (tiErr l.length)).getD j 0 = evErr (l.getD j dEv) := fun j hj => by
    rw [getD_left (by simpa using hj), getD_map l evErr dEv j hj]
  have e2 : ∀ j, j < ties.length → (l.map evErr ++ ties.map (tiErr l.length)).getD (l.length + j) 0 = tiErr l.length (ties.getD j dTi) := fun j hj => by
    have := getD_right (l := l.map evErr) (m := ties.map (tiErr l.length)) (k := j)
    rw [List.length_map] at this
    rw [this, getD_map ties (tiErr l.length) dTi j hj]
  rw [first_at (k := l.length + k) (by simp; omega) (fun j hj => by
    rcases Nat.lt_or_ge j l.length with h1 | h1
    · rw [e j h1]; exact hl j h1
    · obtain ⟨i, rfl⟩ := Nat.exists_eq_add_of_le h1
      rw [e2 i (by omega)]; exact hz i (by omega)) (by rw [e2 k hk]; exact hne), e2 k hk]
theorem chk_ok {l : List Ev} {ties : List Ti} (h : ¬ (40 < l.length ∨ 80 < ties.length ∨ 12 < (names l).length)) (hl : ∀ j, j < l.length → evErr (l.getD j dEv) = 0) (ht : ∀ j, j < ties.length → tiErr l.length (ties.getD j dTi) = 0) : chk l ties = 0 := by
  unfold chk
  rw [if_neg h, first_zero]
  intro x hx
  rcases List.mem_append.1 hx with hx | hx
  · obtain ⟨y, hy, rfl⟩ := List.mem_map.1 hx
    obtain ⟨j, hj, rfl⟩ := List.mem_iff_getElem.1 hy
    have := hl j hj
    simpa [List.getD_eq_getElem?_getD, List.getElem?_eq_getElem hj] using this
  · obtain ⟨y, hy, rfl⟩ := List.mem_map.1 hx
    obtain ⟨j, hj, rfl⟩ := List.mem_iff_getElem.1 hy
    have := ht j hj
    simpa [List.getD_eq_getElem?_getD, List.getElem?_eq_getElem hj] using this
/-- What ClockFault says of events and ties that are right. -/
def Right (l : List Ev) (ties : List Ti) : Prop := l.length ≤ 40 ∧ ties.length ≤ 80 ∧ (∀ e ∈ l, isName e.nm = true ∧ 0 ≤ e.shown ∧ e.shown ≤ 4294967295 ∧ 0 ≤ e.wide ∧ e.wide ≤ 4294967295) ∧ ∀ t ∈ ties, tiErr l.length t = 0
end Go.Proofs.YthcbchgdfldckaaGreatDoor
