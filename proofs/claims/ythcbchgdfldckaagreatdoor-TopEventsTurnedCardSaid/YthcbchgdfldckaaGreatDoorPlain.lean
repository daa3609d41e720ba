/- The plain laws of the three clock statements. -/
import Derived.Test.YthcbchgdfldckaaGreatDoorCons
namespace Go.Proofs.YthcbchgdfldckaaGreatDoor
open ClkM

theorem evErr_right {e : Ev} (h : isName e.nm = true ∧ 0 ≤ e.shown ∧ e.shown ≤ 4294967295 ∧ 0 ≤ e.wide ∧ e.wide ≤ 4294967295) : evErr e = 0 := by
  unfold evErr
  rw [if_pos h.1, if_neg (by omega)]
theorem right_chk {l : List Ev} {ties : List Ti} (h : Right l ties) : chk l ties = if 12 < (names l).length then 2 else 0 := by
  obtain ⟨h1, h2, h3, h4⟩ := h
  by_cases hn : 12 < (names l).length
  · rw [if_pos hn, chk_large (.inr (.inr hn))]
  · rw [if_neg hn]
    exact chk_ok (by omega) (fun j hj => evErr_right (h3 _ (getD_mem hj))) (fun j hj => h4 _ (getD_mem hj))
theorem tiErr_ok {n : Nat} {t : Ti} (h : tiErr n t = 0) : TiOk n t := by
  unfold tiErr at h
  split at h
  · omega
  · split at h
    · omega
    · split at h
      · omega
      · unfold TiOk; omega
/-- Two that can be solved together have one error. -/
theorem Told.err {l m : List Ev} {ties t : List Ti} {fs gs : List Q} {e e' : Int} {L L' : List (Int × Int)} (h : Told l ties fs e L) (k : Told m t gs e' L')
    (hs : (∃ err τ, Fits l ties err τ) ↔ (∃ err τ, Fits m t err τ)) : e = e' := by
  rcases h with ⟨he, _, hn⟩ | ⟨he, hx, _⟩ <;> rcases k with ⟨ke, _, kn⟩ | ⟨ke, hy, _⟩
  · omega
  · obtain ⟨a, b, hf⟩ := hs.2 hy; exact absurd hf (hn a b)
  · obtain ⟨a, b, hf⟩ := hs.1 hx; exact absurd hf (kn a b)
  · omega
theorem Told.len {l : List Ev} {ties : List Ti} {fs : List Q} {e : Int} {L : List (Int × Int)} (h : Told l ties fs e L) (he : e = 0) : L.length = fs.length := by
  rcases h with ⟨h1, _⟩ | ⟨_, _, h2, _⟩
  · omega
  · exact h2
theorem Told.nil {l : List Ev} {ties : List Ti} {fs : List Q} {e : Int} {L : List (Int × Int)} (h : Told l ties fs e L) (he : e ≠ 0) : L = [] := by
  rcases h with ⟨_, h1, _⟩ | ⟨h1, _⟩
  · exact h1
  · exact absurd h1 he
/-- What is asked alike has one answer. -/
theorem Told.at {l m : List Ev} {ties t : List Ti} {fs gs : List Q} {e e' : Int} {L L' : List (Int × Int)} (h : Told l ties fs e L) (k : Told m t gs e' L') {i j : Nat} {f g : Q} {p q : Int × Int}
    (hf : fs[i]? = some f) (hg : gs[j]? = some g) (hp : L[i]? = some p) (hq : L'[j]? = some q)
    (to : ∀ err τ, Fits l ties err τ → ∃ err' τ', Fits m t err' τ' ∧ f err τ = g err' τ') (back : ∀ err τ, Fits m t err τ → ∃ err' τ', Fits l ties err' τ' ∧ f err' τ' = g err τ) : p = q := by
  rcases h with ⟨_, rfl, _⟩ | ⟨_, _, _, ht⟩
  · simp at hp
  · rcases k with ⟨_, rfl, _⟩ | ⟨_, _, _, kt⟩
    · simp at hq
    · obtain ⟨⟨a1, x1, y1, fx1, e1⟩, ⟨a2, x2, y2, fx2, e2⟩⟩ := ht i f p hf hp
      obtain ⟨⟨b1, u1, v1, fu1, e3⟩, ⟨b2, u2, v2, fu2, e4⟩⟩ := kt j g q hg hq
      obtain ⟨c1, d1, fc1, k1⟩ := to _ _ fx1
      obtain ⟨c2, d2, fc2, k2⟩ := to _ _ fx2
      obtain ⟨c3, d3, fc3, k3⟩ := back _ _ fu1
      obtain ⟨c4, d4, fc4, k4⟩ := back _ _ fu2
      have p1 := b1 _ _ fc1
      have p2 := b2 _ _ fc2
      have p3 := a1 _ _ fc3
      have p4 := a2 _ _ fc4
      simp only at p2 p4 e2 e4
      exact Prod.ext (by omega) (by omega)
theorem Out.told {l : List Ev} {ties : List Ti} {fs : List Q} {e : Int} {L : List (Int × Int)} (h : Out l ties fs e L) (hc : chk l ties = 0) : Told l ties fs e L := by
  rcases h with ⟨h1, _⟩ | ⟨_, h2⟩
  · exact absurd hc h1
  · exact h2
theorem Out.bad {l : List Ev} {ties : List Ti} {fs : List Q} {e : Int} {L : List (Int × Int)} (h : Out l ties fs e L) (hc : chk l ties ≠ 0) : e = chk l ties ∧ L = [] := by
  rcases h with ⟨_, h1⟩ | ⟨h2, _⟩
  · exact h1
  · exact absurd h2 hc

/-! Ties that say no more. -/
/-- The tie that TopTiesMore adds; w: from 0 on. -/
def tieMore (x y : Ti) (wide w : Int) : Ti :=
  if y.a = x.b ∧ y.b ≠ x.a then ⟨x.a, y.b, x.low + y.low, x.high + y.high⟩ else if wide.tmod 2 = 0 ∧ 0 ≤ x.a then ⟨x.b, x.a, -x.high, -x.low⟩ else ⟨x.a, x.b, x.low - w, x.high + w⟩
theorem more_fits {l : List Ev} {ties : List Ti} {x y : Ti} {wide w : Int} (hx : x ∈ ties) (hy : y ∈ ties) (hb : 0 ≤ x.b) (hw : 0 ≤ w) (err : Nm → Int) (t : Nat → Int) :
    Fits l ties err t ↔ Fits l (ties ++ [tieMore x y wide w]) err t := by
  constructor
  · intro h
    refine ⟨h.inErr, h.inTime, h.inShown, fun z hz => ?_⟩
    rcases List.mem_append.1 hz with hz | hz
    · exact h.inTie z hz
    · obtain rfl := List.mem_singleton.1 hz
      have ex := h.inTie x hx
      have ey := h.inTie y hy
      unfold tieMore
      split
      · next hc =>
        obtain ⟨h1, _⟩ := hc
        rw [h1, if_neg (by omega : ¬ x.b < 0)] at ey
        show x.low + y.low ≤ t y.b.toNat - (if x.a < 0 then 0 else t x.a.toNat) ∧ t y.b.toNat - (if x.a < 0 then 0 else t x.a.toNat) ≤ x.high + y.high
        omega
      · split
        · next hc =>
          obtain ⟨_, h1⟩ := hc
          rw [if_neg (by omega : ¬ x.a < 0)] at ex
          show -x.high ≤ t x.a.toNat - (if x.b < 0 then 0 else t x.b.toNat) ∧ t x.a.toNat - (if x.b < 0 then 0 else t x.b.toNat) ≤ -x.low
          rw [if_neg (by omega : ¬ x.b < 0)]
          omega
        · show x.low - w ≤ t x.b.toNat - (if x.a < 0 then 0 else t x.a.toNat) ∧ t x.b.toNat - (if x.a < 0 then 0 else t x.a.toNat) ≤ x.high + w
          omega
  · intro h
    exact ⟨h.inErr, h.inTime, h.inShown, fun z hz => h.inTie z (List.mem_append_left _ hz)⟩
theorem more_same {l : List Ev} {ties : List Ti} {x y : Ti} {wide w : Int} (hr : Right l ties) (hr2 : Right l (ties ++ [tieMore x y wide w])) (hx : x ∈ ties) (hy : y ∈ ties) (hw : 0 ≤ w) {fs : List Q} {e e' : Int} {L L' : List (Int × Int)}
    (h : Out l ties fs e L) (k : Out l (ties ++ [tieMore x y wide w]) fs e' L') : e = e' ∧ L = L' := by
  have hc := right_chk hr
  have kc := right_chk hr2
  have hb : 0 ≤ x.b := (tiErr_ok (hr.2.2.2 x hx)).2.2.1
  by_cases hn : chk l ties = 0
  · have kn : chk l (ties ++ [tieMore x y wide w]) = 0 := by rw [kc, ← hc]; exact hn
    refine (h.told hn).same (k.told kn) rfl (fun err τ hf => ⟨err, τ, (more_fits hx hy hb hw err τ).1 hf, fun i f g hf hg => ?_⟩) (fun err τ hf => ⟨err, τ, (more_fits hx hy hb hw err τ).2 hf, fun i f g hf hg => ?_⟩)
    · rw [hf] at hg; cases hg; rfl
    · rw [hf] at hg; cases hg; rfl
  · have kn : chk l (ties ++ [tieMore x y wide w]) ≠ 0 := by rw [kc, ← hc]; exact hn
    obtain ⟨h1, h2⟩ := h.bad hn
    obtain ⟨k1, k2⟩ := k.bad kn
    exact ⟨by rw [h1, k1, hc, kc], by rw [h2, k2]⟩
end Go.Proofs.YthcbchgdfldckaaGreatDoor
