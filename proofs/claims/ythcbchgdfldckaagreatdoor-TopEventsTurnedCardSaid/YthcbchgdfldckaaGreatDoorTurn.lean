/- The plain law of TopEventsTurned. -/
import Derived.Test.YthcbchgdfldckaaGreatDoorPlain
import Derived.Test.YthcbchgdfldckaaGreatDoorRaw
import Derived.Lib.ConvBytes
import Derived.Lib.SlBytesRow
import Derived.Deep.Light
import Derived.StillTailTactics
namespace Go.Proofs.YthcbchgdfldckaaGreatDoor
open ClkM

/-- Where event i of n comes to stand. -/
def turnAt (n k : Nat) (flip : Bool) (i : Nat) : Nat := if flip then n - 1 - (i + k) % n else (i + k) % n
def turnBack (n k : Nat) (flip : Bool) (j : Nat) : Nat := if flip then (n - 1 - j + (n - k)) % n else (j + (n - k)) % n
theorem mod_once {a n : Nat} (h : a < 2 * n) : a % n = if a < n then a else a - n := by
  split
  · next h1 => exact Nat.mod_eq_of_lt h1
  · next h1 =>
    rw [Nat.mod_eq_sub_mod (by omega), Nat.mod_eq_of_lt (by omega)]
theorem turnAt_lt {n k : Nat} {flip : Bool} {i : Nat} (hk : k < n) (hi : i < n) : turnAt n k flip i < n := by
  unfold turnAt
  rw [mod_once (by omega)]
  split <;> split <;> omega
theorem turnBack_lt {n k : Nat} {flip : Bool} {j : Nat} (_hk : k < n) (hj : j < n) : turnBack n k flip j < n := by
  unfold turnBack
  split
  · exact Nat.mod_lt _ (by omega)
  · exact Nat.mod_lt _ (by omega)
theorem turn_back {n k : Nat} {flip : Bool} {i : Nat} (hk : k < n) (hi : i < n) : turnBack n k flip (turnAt n k flip i) = i := by
  have h := turnAt_lt (flip := flip) hk hi
  have e : turnAt n k flip i = if flip then n - 1 - (if i + k < n then i + k else i + k - n) else (if i + k < n then i + k else i + k - n) := by
    unfold turnAt; rw [mod_once (by omega)]
  generalize turnAt n k flip i = j at *
  unfold turnBack
  cases flip
  · simp only [Bool.false_eq_true, if_false] at e ⊢
    rw [mod_once (by omega)]
    split at e <;> split <;> omega
  · simp only [if_true] at e ⊢
    rw [mod_once (by omega)]
    split at e <;> split <;> omega
theorem turn_at {n k : Nat} {flip : Bool} {j : Nat} (hk : k < n) (hj : j < n) : turnAt n k flip (turnBack n k flip j) = j := by
  have h := turnBack_lt (flip := flip) hk hj
  unfold turnAt
  rw [mod_once (by omega)]
  cases flip
  · have e : turnBack n k false j = if j + (n - k) < n then j + (n - k) else j + (n - k) - n := by unfold turnBack; rw [if_neg (by simp), mod_once (by omega)]
    simp only [Bool.false_eq_true, if_false]
    split at e <;> split <;> omega
  · have e : turnBack n k true j = if n - 1 - j + (n - k) < n then n - 1 - j + (n - k) else n - 1 - j + (n - k) - n := by unfold turnBack; rw [if_pos rfl, mod_once (by omega)]
    simp only [if_true]
    split at e <;> split <;> omega
/-- A tie over the turned events. -/
def turnInt (n : Nat) (f : Nat → Nat) (a : Int) : Int := if 0 ≤ a ∧ a < n then (f a.toNat : Int) else a
def turnTie (n : Nat) (f : Nat → Nat) (x : Ti) : Ti := ⟨turnInt n f x.a, turnInt n f x.b, x.low, x.high⟩

/-- m is l turned: f and g are turns that undo each other. -/
structure Turned (l m : List Ev) (ties t : List Ti) (f g : Nat → Nat) : Prop where
  len : m.length = l.length
  fl : ∀ i, i < l.length → f i < l.length
  gl : ∀ i, i < l.length → g i < l.length
  gf : ∀ i, i < l.length → g (f i) = i
  fg : ∀ i, i < l.length → f (g i) = i
  ev : ∀ i, i < l.length → m.getD (f i) dEv = l.getD i dEv
  tie : ∀ z, z ∈ t ↔ ∃ x ∈ ties, z = turnTie l.length f x
  tlen : t.length = ties.length
theorem Turned.evb {l m : List Ev} {ties t : List Ti} {f g : Nat → Nat} (h : Turned l m ties t f g) {j : Nat} (hj : j < l.length) : m.getD j dEv = l.getD (g j) dEv := by
  have := h.ev (g j) (h.gl j hj)
  rw [h.fg j hj] at this
  exact this
theorem Turned.names {l m : List Ev} {ties t : List Ti} {f g : Nat → Nat} (h : Turned l m ties t f g) : names m = names l := by
  refine names_ext fun c => ⟨?_, ?_⟩
  · rintro ⟨e, he, rfl⟩
    obtain ⟨i, hi, rfl⟩ := mem_getD dEv he
    rw [h.len] at hi
    exact ⟨_, getD_mem (h.gl i hi), by rw [h.evb hi]⟩
  · rintro ⟨e, he, rfl⟩
    obtain ⟨i, hi, rfl⟩ := mem_getD dEv he
    exact ⟨m.getD (f i) dEv, getD_mem (by rw [h.len]; exact h.fl i hi), by rw [h.ev i hi]⟩
theorem turnInt_err {n : Nat} {f : Nat → Nat} (hf : ∀ i, i < n → f i < n) (a : Int) (ha : a < n) : (turnInt n f a < 0 ↔ a < 0) ∧ turnInt n f a < n ∧ (-1 ≤ turnInt n f a ↔ -1 ≤ a) ∧ (0 ≤ a → turnInt n f a = f a.toNat) := by
  unfold turnInt
  by_cases h : 0 ≤ a ∧ a < n
  · rw [if_pos h]
    have := hf a.toNat (by omega)
    omega
  · rw [if_neg h]; omega
theorem Turned.tieOk {l m : List Ev} {ties t : List Ti} {f g : Nat → Nat} (h : Turned l m ties t f g) (hr : ∀ x ∈ ties, tiErr l.length x = 0) : ∀ z ∈ t, tiErr m.length z = 0 := by
  intro z hz
  obtain ⟨x, hx, rfl⟩ := (h.tie z).1 hz
  obtain ⟨o1, o2, o3, o4, o5, o6, o7, o8⟩ := tiErr_ok (hr x hx)
  obtain ⟨a1, a2, a3, a4⟩ := turnInt_err h.fl x.a o2
  obtain ⟨b1, b2, b3, b4⟩ := turnInt_err h.fl x.b o4
  have hne : turnInt l.length f x.a ≠ turnInt l.length f x.b := by
    intro e
    by_cases ha : x.a < 0
    · have := a1.2 ha; have := b4 o3; omega
    · have p := a4 (by omega)
      have q := b4 o3
      have p2 := h.gf x.a.toNat (by omega)
      have q2 := h.gf x.b.toNat (by omega)
      have e2 : f x.a.toNat = f x.b.toNat := by omega
      rw [e2] at p2
      omega
  have c1 := a3.2 o1
  have c2 : ¬ turnInt l.length f x.b < 0 := fun hh => by have := b1.1 hh; omega
  rw [h.len]
  unfold tiErr turnTie
  simp only
  rw [if_neg (by omega), if_neg hne, if_neg (by omega)]
theorem Turned.right {l m : List Ev} {ties t : List Ti} {f g : Nat → Nat} (h : Turned l m ties t f g) (hr : Right l ties) : Right m t := by
  obtain ⟨r1, r2, r3, r4⟩ := hr
  refine ⟨by rw [h.len]; exact r1, by rw [h.tlen]; exact r2, fun e he => ?_, h.tieOk r4⟩
  obtain ⟨i, hi, rfl⟩ := mem_getD dEv he
  rw [h.len] at hi
  rw [h.evb hi]
  exact r3 _ (getD_mem (h.gl i hi))
theorem Turned.chk {l m : List Ev} {ties t : List Ti} {f g : Nat → Nat} (h : Turned l m ties t f g) (hr : Right l ties) : chk m t = chk l ties := by
  rw [right_chk hr, right_chk (h.right hr), h.names]
theorem Turned.to {l m : List Ev} {ties t : List Ti} {f g : Nat → Nat} (h : Turned l m ties t f g) (hr : ∀ x ∈ ties, tiErr l.length x = 0) {err : Nm → Int} {τ : Nat → Int} (k : Fits l ties err τ) : Fits m t err (fun j => τ (g j)) := by
  refine ⟨fun c hc => k.inErr c (by rw [← h.names]; exact hc), fun j hj => ?_, fun j hj => ?_, fun z hz => ?_⟩
  · rw [h.len] at hj; exact k.inTime _ (h.gl j hj)
  · rw [h.len] at hj
    rw [h.evb hj]
    exact k.inShown _ (h.gl j hj)
  · obtain ⟨x, hx, rfl⟩ := (h.tie z).1 hz
    obtain ⟨o1, o2, o3, o4, _⟩ := tiErr_ok (hr x hx)
    obtain ⟨a1, a2, a3, a4⟩ := turnInt_err h.fl x.a o2
    obtain ⟨b1, b2, b3, b4⟩ := turnInt_err h.fl x.b o4
    have e := k.inTie x hx
    have q := b4 o3
    have q2 := h.gf x.b.toNat (by omega)
    unfold turnTie
    simp only
    rw [q, Int.toNat_natCast, q2]
    by_cases ha : x.a < 0
    · rw [if_pos ha] at e
      rw [if_pos (a1.2 ha)]
      exact e
    · have p := a4 (by omega)
      have p2 := h.gf x.a.toNat (by omega)
      rw [if_neg ha] at e
      rw [if_neg (fun hh => ha (a1.1 hh)), p, Int.toNat_natCast, p2]
      exact e
theorem Turned.back {l m : List Ev} {ties t : List Ti} {f g : Nat → Nat} (h : Turned l m ties t f g) (hr : ∀ x ∈ ties, tiErr l.length x = 0) {err : Nm → Int} {τ : Nat → Int} (k : Fits m t err τ) : Fits l ties err (fun i => τ (f i)) := by
  refine ⟨fun c hc => k.inErr c (by rw [h.names]; exact hc), fun j hj => ?_, fun j hj => ?_, fun x hx => ?_⟩
  · exact k.inTime _ (by rw [h.len]; exact h.fl j hj)
  · have := k.inShown (f j) (by rw [h.len]; exact h.fl j hj)
    rw [h.ev j hj] at this
    exact this
  · obtain ⟨o1, o2, o3, o4, _⟩ := tiErr_ok (hr x hx)
    obtain ⟨a1, a2, a3, a4⟩ := turnInt_err h.fl x.a o2
    obtain ⟨b1, b2, b3, b4⟩ := turnInt_err h.fl x.b o4
    have e := k.inTie _ ((h.tie _).2 ⟨x, hx, rfl⟩)
    have q := b4 o3
    unfold turnTie at e
    simp only at e
    rw [q, Int.toNat_natCast] at e
    by_cases ha : x.a < 0
    · rw [if_pos (a1.2 ha)] at e
      rw [if_pos ha]
      exact e
    · have p := a4 (by omega)
      rw [if_neg (fun hh => ha (a1.1 hh)), p, Int.toNat_natCast] at e
      rw [if_neg ha]
      exact e
theorem Turned.some {l m : List Ev} {ties t : List Ti} {f g : Nat → Nat} (h : Turned l m ties t f g) (hr : ∀ x ∈ ties, tiErr l.length x = 0) : (∃ err τ, Fits l ties err τ) ↔ (∃ err τ, Fits m t err τ) :=
  ⟨fun ⟨err, _, k⟩ => ⟨err, _, h.to hr k⟩, fun ⟨err, _, k⟩ => ⟨err, _, h.back hr k⟩⟩
/-- What is asked of the turned events. -/
theorem turned_solve {l m : List Ev} {ties t : List Ti} {f g : Nat → Nat} (h : Turned l m ties t f g) (hr : Right l ties) {e e' : Int} {L L' : List (Int × Int)}
    (hs : Out l ties (times l) e L) (ks : Out m t (times m) e' L') : e = e' ∧ (e = 0 → L.length = l.length ∧ L'.length = l.length ∧ ∀ i, i < l.length → L.getD i (0, 0) = L'.getD (f i) (0, 0)) := by
  have hc := h.chk hr
  by_cases hn : chk l ties = 0
  · have kn : chk m t = 0 := hc.trans hn
    have a := hs.told hn
    have b := ks.told kn
    have ee := a.err b (h.some hr.2.2.2)
    refine ⟨ee, fun h0 => ?_⟩
    have l1 : L.length = l.length := by rw [a.len h0]; simp [times]
    have l2 : L'.length = l.length := by rw [b.len (by omega)]; simp [times, h.len]
    refine ⟨l1, l2, fun i hi => ?_⟩
    have fi := h.fl i hi
    have g1 : (times l)[i]? = Option.some (fun _ t => t i) := by simp [times, hi]
    have g2 : (times m)[f i]? = Option.some (fun _ t => t (f i)) := by simp [times, h.len, fi]
    have p1 : L[i]? = Option.some (L.getD i (0, 0)) := by simp [List.getD_eq_getElem?_getD, List.getElem?_eq_getElem (show i < L.length by omega)]
    have p2 : L'[f i]? = Option.some (L'.getD (f i) (0, 0)) := by simp [List.getD_eq_getElem?_getD, List.getElem?_eq_getElem (show f i < L'.length by omega)]
    exact a.at b g1 g2 p1 p2 (fun err τ k => ⟨err, _, h.to hr.2.2.2 k, by show τ i = τ (g (f i)); rw [h.gf i hi]⟩) (fun err τ k => ⟨err, _, h.back hr.2.2.2 k, rfl⟩)
  · obtain ⟨h1, h2⟩ := hs.bad hn
    obtain ⟨k1, k2⟩ := ks.bad (by rw [hc]; exact hn)
    exact ⟨by rw [h1, k1, hc], fun h0 => absurd h0 (by rw [h1]; exact hn)⟩
theorem turned_errs {l m : List Ev} {ties t : List Ti} {f g : Nat → Nat} (h : Turned l m ties t f g) (hr : Right l ties) {e e' : Int} {L L' : List (Int × Int)}
    (hs : Out l ties (errs l) e L) (ks : Out m t (errs m) e' L') : e = e' ∧ L = L' := by
  have hc := h.chk hr
  by_cases hn : chk l ties = 0
  · have kn : chk m t = 0 := hc.trans hn
    have he : errs m = errs l := by unfold errs; rw [h.names]
    rw [he] at ks
    refine (hs.told hn).same (ks.told kn) rfl (fun err τ k => ⟨err, _, h.to hr.2.2.2 k, fun i p q hp hq => ?_⟩) (fun err τ k => ⟨err, _, h.back hr.2.2.2 k, fun i p q hp hq => ?_⟩)
    all_goals
      have hpq : p = q := by rw [hp] at hq; exact Option.some.inj hq
      subst hpq
      unfold errs at hp
      rw [List.getElem?_map] at hp
      obtain ⟨c, _, rfl⟩ := Option.map_eq_some_iff.1 hp
      rfl
  · obtain ⟨h1, h2⟩ := hs.bad hn
    obtain ⟨k1, k2⟩ := ks.bad (by rw [hc]; exact hn)
    exact ⟨by rw [h1, k1, hc], by rw [h2, k2]⟩
/-- The error is the same whatever is asked. -/
theorem out_err {l : List Ev} {ties : List Ti} {fs gs : List Q} {e e' : Int} {L L' : List (Int × Int)} (hs : Out l ties fs e L) (ks : Out l ties gs e' L') : e = e' := by
  by_cases hn : chk l ties = 0
  · exact (hs.told hn).err (ks.told hn) Iff.rfl
  · rw [(hs.bad hn).1, (ks.bad hn).1]
theorem turned_bef {l m : List Ev} {ties t : List Ti} {f g : Nat → Nat} (h : Turned l m ties t f g) (hr : Right l ties) {a b : Nat} (ha : a < l.length) (hb : b < l.length) {r r' : Bool} {e0 e e' : Int} {fs : List Q} {L : List (Int × Int)}
    (h0 : Out l ties fs e0 L) (hz : e0 = 0) (hs : Bef l ties a b r e) (ks : Bef m t (f a : Nat) (f b : Nat) r' e') : e = 0 ∧ e' = 0 ∧ r = r' := by
  have hc := h.chk hr
  have hn : chk l ties = 0 := Classical.byContradiction fun hn => hn (by rw [← (h0.bad hn).1]; exact hz)
  have kn : chk m t = 0 := hc.trans hn
  have ht := h0.told hn
  obtain ⟨err0, τ0, k0⟩ : ∃ err τ, Fits l ties err τ := by
    rcases ht with ⟨h1, _⟩ | ⟨_, h2, _⟩
    · omega
    · exact h2
  have fa := h.fl a ha
  have fb := h.fl b hb
  rcases hs with ⟨x, _⟩ | ⟨_, x, _⟩ | ⟨_, _, hs⟩
  · exact absurd hn x
  · omega
  · rcases ks with ⟨x, _⟩ | ⟨_, x, _⟩ | ⟨_, _, ks⟩
    · exact absurd kn x
    · rw [h.len] at x; omega
    · rcases hs with ⟨_, _, x⟩ | ⟨e1, _, v, tv, rfl⟩
      · exact absurd k0 (x _ _)
      · rcases ks with ⟨_, _, x⟩ | ⟨e2, _, u, tu, rfl⟩
        · exact absurd (h.to hr.2.2.2 k0) (x _ _)
        · refine ⟨e1, e2, ?_⟩
          obtain ⟨a1, x1, y1, fx1, q1⟩ := tv
          obtain ⟨b1, x2, y2, fx2, q2⟩ := tu
          have p1 := b1 _ _ (h.to hr.2.2.2 fx1)
          have p2 := a1 _ _ (h.back hr.2.2.2 fx2)
          simp only [Int.toNat_natCast] at p1 p2 q1 q2
          rw [h.gf a ha, h.gf b hb] at p1
          have : v = u := by omega
          rw [this]
end Go.Proofs.YthcbchgdfldckaaGreatDoor

/- The plain law of TopClocksNamed. -/
namespace Go.Proofs.YthcbchgdfldckaaGreatDoor
open ClkM

/-- A letter moved k places along the alphabet. -/
def slideN (k c : Nat) : Nat := if 97 ≤ c ∧ c ≤ 122 then 97 + (c - 97 + k) % 26 else c
theorem slideN_lt {k c : Nat} (h : c < 256) : slideN k c < 256 := by unfold slideN; split <;> omega
theorem slideN_letter (k c : Nat) : (97 ≤ slideN k c ∧ slideN k c ≤ 122) ↔ (97 ≤ c ∧ c ≤ 122) := by
  unfold slideN
  split <;> omega
theorem slideN_back {k : Nat} (c : Nat) (hk : k < 26) : slideN (26 - k) (slideN k c) = c := by
  by_cases h : 97 ≤ c ∧ c ≤ 122
  · have e : slideN k c = 97 + (c - 97 + k) % 26 := by unfold slideN; rw [if_pos h]
    have h2 := (slideN_letter k c).2 h
    rw [mod_once (by omega)] at e
    generalize slideN k c = d at *
    unfold slideN
    rw [if_pos h2, mod_once (by omega)]
    split at e <;> split <;> omega
  · have e : slideN k c = c := by unfold slideN; rw [if_neg h]
    rw [e]
    unfold slideN
    rw [if_neg h]
theorem slideN_forth {k : Nat} (c : Nat) (hk : k < 26) : slideN k (slideN (26 - k) c) = c := by
  by_cases h : 97 ≤ c ∧ c ≤ 122
  · have e : slideN (26 - k) c = 97 + (c - 97 + (26 - k)) % 26 := by unfold slideN; rw [if_pos h]
    have h2 := (slideN_letter (26 - k) c).2 h
    rw [mod_once (by omega)] at e
    generalize slideN (26 - k) c = d at *
    unfold slideN
    rw [if_pos h2, mod_once (by omega)]
    split at e <;> split <;> omega
  · have e : slideN (26 - k) c = c := by unfold slideN; rw [if_neg h]
    rw [e]
    unfold slideN
    rw [if_neg h]
def slideB (k : Nat) (c : UInt8) : UInt8 := UInt8.ofNat (slideN k c.toNat)
theorem slideB_toNat (k : Nat) (c : UInt8) : (slideB k c).toNat = slideN k c.toNat := by
  unfold slideB
  rw [UInt8.toNat_ofNat']
  exact Nat.mod_eq_of_lt (slideN_lt c.toNat_lt)
theorem slideB_back {k : Nat} (c : UInt8) (hk : k < 26) : slideB (26 - k) (slideB k c) = c := by
  apply UInt8.toNat.inj
  rw [slideB_toNat, slideB_toNat, slideN_back _ hk]
theorem slideB_forth {k : Nat} (c : UInt8) (hk : k < 26) : slideB k (slideB (26 - k) c) = c := by
  apply UInt8.toNat.inj
  rw [slideB_toNat, slideB_toNat, slideN_forth _ hk]
theorem slideB_letter (k : Nat) (c : UInt8) : (97 ≤ slideB k c && slideB k c ≤ 122) = (97 ≤ c && c ≤ 122) := by
  have h := slideN_letter k c.toNat
  rw [← slideB_toNat] at h
  rw [Bool.eq_iff_iff]
  simp only [Bool.and_eq_true, decide_eq_true_eq, UInt8.le_iff_toNat_le]
  exact h
theorem slideB_other {k : Nat} {c : UInt8} (h : (97 ≤ c && c ≤ 122) = false) : slideB k c = c := by
  apply UInt8.toNat.inj
  rw [slideB_toNat]
  unfold slideN
  rw [if_neg]
  intro h2
  have : (97 ≤ c && c ≤ 122) = true := by
    simp only [Bool.and_eq_true, decide_eq_true_eq, UInt8.le_iff_toNat_le]
    exact h2
  rw [this] at h; cases h
theorem slideB_name (k : Nat) (c : UInt8) : nameByte (slideB k c) = nameByte c := by
  by_cases h : (97 ≤ c && c ≤ 122) = true
  · have h2 := (slideB_letter k c).trans h
    unfold nameByte
    rw [h, h2]; rfl
  · rw [slideB_other (by simpa using h)]
def slide (k : Nat) (s : Nm) : Nm := s.map (slideB k)
theorem slide_back {k : Nat} (s : Nm) (hk : k < 26) : slide (26 - k) (slide k s) = s := by
  unfold slide
  rw [List.map_map]
  refine (List.map_congr_left (fun c _ => ?_)).trans (List.map_id s)
  exact slideB_back c hk
theorem slide_forth {k : Nat} (s : Nm) (hk : k < 26) : slide k (slide (26 - k) s) = s := by
  unfold slide
  rw [List.map_map]
  refine (List.map_congr_left (fun c _ => ?_)).trans (List.map_id s)
  exact slideB_forth c hk
theorem slide_inj {k : Nat} (hk : k < 26) {s t : Nm} (h : slide k s = slide k t) : s = t := by
  rw [← slide_back s hk, h, slide_back t hk]
theorem slide_isName (k : Nat) (s : Nm) : isName (slide k s) = isName s := by
  cases s with
  | nil => rfl
  | cons c r =>
    show isName (slideB k c :: r.map (slideB k)) = isName (c :: r)
    unfold isName
    simp only [List.length_cons, List.length_map, List.all_map]
    rw [slideB_letter]
    congr 2
    funext d
    exact slideB_name k d
/-- Events whose clocks are slid. -/
def slideBA (k : Nat) (s : ByteArray) : ByteArray := ⟨(slide k s.data.toList).toArray⟩
theorem slideBA_list (k : Nat) (s : ByteArray) : (slideBA k s).data.toList = slide k s.data.toList := by simp [slideBA]
def slid (k : Nat) (l : List Ev) : List Ev := l.map fun e => ⟨slideBA k e.clock, e.shown, e.wide⟩
theorem slid_length (k : Nat) (l : List Ev) : (slid k l).length = l.length := by simp [slid]
theorem slid_get {k : Nat} {l : List Ev} {i : Nat} (h : i < l.length) : (slid k l).getD i dEv = ⟨slideBA k (l.getD i dEv).clock, (l.getD i dEv).shown, (l.getD i dEv).wide⟩ := by
  simp [slid, List.getD_eq_getElem?_getD, List.getElem?_eq_getElem h]
theorem slid_nm {k : Nat} {l : List Ev} {i : Nat} (h : i < l.length) : ((slid k l).getD i dEv).nm = slide k (l.getD i dEv).nm := by
  rw [slid_get h]; exact slideBA_list k _
theorem slid_mem {k : Nat} (hk : k < 26) {l : List Ev} {c : Nm} : slide k c ∈ names (slid k l) ↔ c ∈ names l := by
  rw [names_mem, names_mem]
  constructor
  · rintro ⟨e, he, h⟩
    obtain ⟨i, hi, rfl⟩ := mem_getD dEv he
    rw [slid_length] at hi
    rw [slid_nm hi] at h
    exact ⟨_, getD_mem hi, slide_inj hk h⟩
  · rintro ⟨e, he, rfl⟩
    obtain ⟨i, hi, rfl⟩ := mem_getD dEv he
    exact ⟨_, getD_mem (by rw [slid_length]; exact hi), slid_nm hi⟩
theorem slid_mem' {k : Nat} (hk : k < 26) {l : List Ev} {c : Nm} : c ∈ names (slid k l) ↔ slide (26 - k) c ∈ names l := by
  have := slid_mem hk (l := l) (c := slide (26 - k) c)
  rw [slide_forth c hk] at this
  exact this
theorem slid_count {k : Nat} (hk : k < 26) (l : List Ev) : (names (slid k l)).length = (names l).length := by
  have hp : (names (slid k l)).Perm ((names l).map (slide k)) := by
    refine (List.perm_ext_iff_of_nodup (names_nodup _) ?_).2 (fun c => ?_)
    · exact List.Pairwise.map (S := fun a b => a ≠ b) _ (fun a b hab e => hab (slide_inj hk e)) (names_nodup l)
    · rw [slid_mem' hk, List.mem_map]
      constructor
      · intro h; exact ⟨_, h, slide_forth c hk⟩
      · rintro ⟨d, hd, rfl⟩; rw [slide_back d hk]; exact hd
  rw [hp.length_eq, List.length_map]
theorem slid_right {k : Nat} {l : List Ev} {ties : List Ti} (h : Right l ties) : Right (slid k l) ties := by
  obtain ⟨h1, h2, h3, h4⟩ := h
  refine ⟨by rw [slid_length]; exact h1, h2, fun e he => ?_, by rw [slid_length]; exact h4⟩
  obtain ⟨i, hi, rfl⟩ := mem_getD dEv he
  rw [slid_length] at hi
  rw [slid_nm hi, slide_isName, slid_get hi]
  exact h3 _ (getD_mem hi)
theorem slid_chk {k : Nat} (hk : k < 26) {l : List Ev} {ties : List Ti} (h : Right l ties) : chk (slid k l) ties = chk l ties := by
  rw [right_chk h, right_chk (slid_right h), slid_count hk]
theorem slid_to {k : Nat} (hk : k < 26) {l : List Ev} {ties : List Ti} {err : Nm → Int} {t : Nat → Int} (h : Fits l ties err t) : Fits (slid k l) ties (fun c => err (slide (26 - k) c)) t := by
  refine ⟨fun c hc => h.inErr _ ((slid_mem' hk).1 hc), fun i hi => h.inTime i (by rw [slid_length] at hi; exact hi), fun i hi => ?_, h.inTie⟩
  rw [slid_length] at hi
  have e := h.inShown i hi
  rw [slid_nm hi, slide_back _ hk, slid_get hi]
  exact e
theorem slid_back {k : Nat} (hk : k < 26) {l : List Ev} {ties : List Ti} {err : Nm → Int} {t : Nat → Int} (h : Fits (slid k l) ties err t) : Fits l ties (fun c => err (slide k c)) t := by
  refine ⟨fun c hc => h.inErr _ ((slid_mem hk).2 hc), fun i hi => h.inTime i (by rw [slid_length]; exact hi), fun i hi => ?_, h.inTie⟩
  have e := h.inShown i (by rw [slid_length]; exact hi)
  rw [slid_nm hi, slid_get hi] at e
  exact e
theorem slid_solve {k : Nat} (hk : k < 26) {l : List Ev} {ties : List Ti} (hr : Right l ties) {e e' : Int} {L L' : List (Int × Int)}
    (hs : Out l ties (times l) e L) (ks : Out (slid k l) ties (times (slid k l)) e' L') : e = e' ∧ L = L' := by
  have hc := slid_chk hk hr
  by_cases hn : chk l ties = 0
  · have he : times (slid k l) = times l := by unfold times; rw [slid_length]
    rw [he] at ks
    refine (hs.told hn).same (ks.told (hc.trans hn)) rfl (fun err τ h => ⟨_, _, slid_to hk h, fun i p q hp hq => ?_⟩) (fun err τ h => ⟨_, _, slid_back hk h, fun i p q hp hq => ?_⟩)
    all_goals
      have hpq : p = q := by rw [hp] at hq; exact Option.some.inj hq
      subst hpq
      unfold times at hp
      rw [List.getElem?_map] at hp
      obtain ⟨c, _, rfl⟩ := Option.map_eq_some_iff.1 hp
      rfl
  · obtain ⟨h1, h2⟩ := hs.bad hn
    obtain ⟨k1, k2⟩ := ks.bad (by rw [hc]; exact hn)
    exact ⟨by rw [h1, k1, hc], by rw [h2, k2]⟩
/-- Where the slid name of clock i stands. -/
def slidPos (k : Nat) (l : List Ev) (i : Nat) : Nat := (names (slid k l)).idxOf (slide k ((names l).getD i []))
theorem slidPos_lt {k : Nat} (hk : k < 26) {l : List Ev} {i : Nat} (hi : i < (names l).length) : slidPos k l i < (names (slid k l)).length :=
  List.idxOf_lt_length_of_mem ((slid_mem hk).2 (getD_mem hi))
theorem slidPos_get {k : Nat} (hk : k < 26) {l : List Ev} {i : Nat} (hi : i < (names l).length) : (names (slid k l))[slidPos k l i]? = some (slide k ((names l).getD i [])) := by
  rw [List.getElem?_eq_getElem (slidPos_lt hk hi)]
  simp [slidPos]
theorem slid_errs {k : Nat} (hk : k < 26) {l : List Ev} {ties : List Ti} (hr : Right l ties) {e e' : Int} {L L' : List (Int × Int)}
    (hs : Out l ties (errs l) e L) (ks : Out (slid k l) ties (errs (slid k l)) e' L') : e = e' ∧ L.length = L'.length ∧ L.length ≤ (names l).length ∧ ∀ i, i < L.length → L.getD i (0, 0) = L'.getD (slidPos k l i) (0, 0) ∧ slidPos k l i < L'.length := by
  have hc := slid_chk hk hr
  by_cases hn : chk l ties = 0
  · have a := hs.told hn
    have b := ks.told (hc.trans hn)
    have ee := a.err b ⟨fun ⟨_, _, h⟩ => ⟨_, _, slid_to hk h⟩, fun ⟨_, _, h⟩ => ⟨_, _, slid_back hk h⟩⟩
    by_cases h0 : e = 0
    · have l1 : L.length = (names l).length := by rw [a.len h0]; simp [errs]
      have l2 : L'.length = (names l).length := by rw [b.len (by omega), ← slid_count hk l]; simp [errs]
      refine ⟨ee, by omega, by omega, fun i hi => ?_⟩
      have hi2 : i < (names l).length := by omega
      have hp := slidPos_lt hk hi2
      rw [slid_count hk] at hp
      refine ⟨?_, by omega⟩
      have g1 : (errs l)[i]? = some (fun err _ => err ((names l).getD i [])) := by
        unfold errs
        rw [List.getElem?_map, List.getElem?_eq_getElem hi2]
        simp [List.getD_eq_getElem?_getD, List.getElem?_eq_getElem hi2]
      have g2 : (errs (slid k l))[slidPos k l i]? = some (fun err _ => err (slide k ((names l).getD i []))) := by
        unfold errs
        rw [List.getElem?_map, slidPos_get hk hi2]
        rfl
      have p1 : L[i]? = some (L.getD i (0, 0)) := by simp [List.getD_eq_getElem?_getD, List.getElem?_eq_getElem hi]
      have p2 : L'[slidPos k l i]? = some (L'.getD (slidPos k l i) (0, 0)) := by simp [List.getD_eq_getElem?_getD, List.getElem?_eq_getElem (show slidPos k l i < L'.length by omega)]
      refine a.at b g1 g2 p1 p2 (fun err τ h => ⟨_, _, slid_to hk h, ?_⟩) (fun err τ h => ⟨_, _, slid_back hk h, rfl⟩)
      show err _ = err (slide (26 - k) (slide k _))
      rw [slide_back _ hk]
    · have l1 := a.nil h0
      have l2 := b.nil (by omega)
      subst l1 l2
      exact ⟨ee, rfl, by simp, fun i hi => by simp at hi⟩
  · obtain ⟨h1, h2⟩ := hs.bad hn
    obtain ⟨k1, k2⟩ := ks.bad (by rw [hc]; exact hn)
    subst h2 k2
    exact ⟨by rw [h1, k1, hc], rfl, by simp, fun i hi => by simp at hi⟩
end Go.Proofs.YthcbchgdfldckaaGreatDoor

/- The walk of hwSlide. -/
namespace Go.Proofs.YthcbchgdfldckaaGreatDoor
open Go.RowKit Go.Lib

/-- Byte j of s, slid if it lies ahead of i. -/
def slidByte (k : Nat) (s : ByteArray) (i j : Nat) : Int := if j < i then slideN k (s.data.toList.getD j 0).toNat else (s.data.toList.getD j 0).toNat
def SlRow (w : World) (g k : Nat) (s : ByteArray) (i : Nat) : Prop := ∀ j, j < s.size → w.cell? ⟨g, j, none⟩ = some (.int .u8 (slidByte k s i j)) ∧ w.frozen? ⟨g, j, none⟩ = false
theorem slRow_start (w : World) (t : TypeId) (k : Nat) (s : ByteArray) : SlRow (Lib.bytesWorld w t s) w.heap.size k s 0 := fun j hj => by
  refine ⟨?_, ?_⟩
  · rw [Lib.bytesWorld_cell w t s j hj]
    unfold slidByte
    rw [if_neg (by omega)]
  · have h := Lib.bytesWorld_at_new w t s
    have hc : s.size ≤ (Lib.bytesCells w t s).size := by simp [Lib.bytesCells]
    simp only [World.frozen?, h]
    simp
    omega
theorem slRow_next {w : World} {g k : Nat} {s : ByteArray} {i : Nat} (h : SlRow w g k s i) (hi : i < s.size) (v : Int) (hv : v = slideN k (s.data.toList.getD i 0).toNat) : SlRow (w.setCell ⟨g, i, none⟩ (.int .u8 v)) g k s (i + 1) := fun j hj => by
  obtain ⟨h1, h2⟩ := h j hj
  refine ⟨?_, (World.frozen?_setCell w _ _ _).trans h2⟩
  subst hv
  unfold slidByte
  by_cases hji : j = i
  · subst hji
    rw [if_pos (by omega)]
    exact World.cell?_setCell_same _ _ _ h1
  · rw [World.cell?_setCell_other _ _ _ _ (by intro h; simp only [Addr.mk.injEq] at h; omega), h1]
    unfold slidByte
    rcases Nat.lt_or_ge j i with h3 | h3
    · rw [if_pos h3, if_pos (by omega)]
    · rw [if_neg (by omega), if_neg (by omega)]
theorem slideBA_size (k : Nat) (s : ByteArray) : (slideBA k s).size = s.size := by show (slide k s.data.toList).toArray.size = _; simp [slide]
theorem slRow_bytes {w : World} {g k : Nat} {s : ByteArray} (h : SlRow w g k s s.size) : Lib.Bytes w g 0 (slideBA k s) := fun i hi => by
  have hsz := slideBA_size k s
  obtain ⟨h1, _⟩ := h i (by omega)
  rw [Nat.zero_add, h1]
  have e : (slideBA k s)[i] = slideB k (s.data.toList.getD i 0) := by
    show (slide k s.data.toList).toArray[i] = _
    have hi2 : i < s.data.toList.length := by have : s.data.toList.length = s.size := by simp
                                              omega
    simp [slide, List.getD_eq_getElem?_getD, List.getElem?_eq_getElem hi2]
  rw [e, slideB_toNat]
  unfold slidByte
  rw [if_pos (by omega)]
theorem slRow_same {w : World} {g k : Nat} {s : ByteArray} {i : Nat} (h : SlRow w g k s i) (hv : slideN k (s.data.toList.getD i 0).toNat = (s.data.toList.getD i 0).toNat) : SlRow w g k s (i + 1) := fun j hj => by
  obtain ⟨h1, h2⟩ := h j hj
  refine ⟨?_, h2⟩
  rw [h1]
  unfold slidByte
  rcases Nat.lt_or_ge j i with h3 | h3
  · rw [if_pos h3, if_pos (by omega)]
  · rw [if_neg (by omega)]
    rcases Nat.eq_or_lt_of_le h3 with rfl | h4
    · rw [if_pos (by omega), hv]
    · rw [if_neg (by omega)]
set_option maxHeartbeats 1000000 in
set_option maxRecDepth 100000 in
theorem slide_any (s : ByteArray) (m : Int) (w : World) (hs : s.size ≤ 1000) (hm : -9223372036854775808 ≤ m ∧ m ≤ 9223372036854775807) :
    Calls Tryz.prog 13 #[.string s, .int .i64 m] w fun e w' => e = .returned (.string (slideBA (m % 26).toNat s)) ∧ Below w.heap.size w w' := by
  have hconv := fun W => Lib.run_convert_string_bytes (P := Tryz.prog) W 9 48 5 s Tryz.underlying9 Tryz.underlying48 Tryz.underlying5
  have hk0 := Int.emod_nonneg m (by omega : (26 : Int) ≠ 0)
  have hk1 := Int.emod_lt_of_pos m (by omega : (0 : Int) < 26)
  go_enter Tryz.func13, Tryz.ntmps13
  go_wp2
  clear hconv
  have hb0 : Below w.heap.size w (Lib.bytesWorld w 5 s) := ⟨rfl, rfl, rfl, by rw [Lib.bytesWorld_size]; omega, fun k hk => Lib.bytesWorld_at_old w _ s k hk⟩
  have hr0 := slRow_start w 5 (m % 26).toNat s
  generalize Lib.bytesWorld w 5 s = W at *
  generalize grownCap w s.size 0 5 = cp at *
  go_loopw [11] (fun s11 wr => ∃ i : Nat, i ≤ s.size ∧ s11 = .int .i64 i ∧ SlRow wr w.heap.size (m % 26).toNat s i ∧ Below w.heap.size w wr) (fun s11 _ => s.size - (RowKit.intOf s11).toNat)
  case atStart => exact ⟨0, by omega, rfl, hr0, hb0⟩
  case round =>
    obtain ⟨i, hi, rfl, hr, hb⟩ := hrel
    by_cases hlt : i < s.size
    · obtain ⟨c0, f0⟩ := hr i hlt
      have e0 : slidByte (m % 26).toNat s i i = (s.data.toList.getD i 0).toNat := by unfold slidByte; rw [if_neg (by omega)]
      rw [e0] at c0
      have hx255 := (s.data.toList.getD i 0).toNat_lt
      have Hnext := Lib.hid (slRow_next hr hlt)
      have Hsame := Lib.hid (slRow_same hr)
      clear hr hr0 hb0 e0
      generalize (s.data.toList.getD i 0).toNat = x at *
      by_cases h1 : 97 ≤ (x : Int)
      · by_cases h2 : (x : Int) ≤ 122
        · have s1 : IntKind.u8.wrap ((x : Int) - 97) = (x : Int) - 97 := by rw [IntKind.wrap_u8]; omega
          have s2 : IntKind.i64.wrap ((x : Int) - 97 + m % 26) = (x : Int) - 97 + m % 26 := IntWalk.i64_in _ (by omega)
          go_wp2
          refine wp_region_still_tail 15 (by kernel_rfl) (by kernel_rfl) ?_
          simp only [List.take_succ_cons, List.take_zero, List.drop_succ_cons, List.drop_zero]
          repeat still_step
          still_call (below_any m 26 _ hm (by omega) (by omega))
          repeat still_step
          refine wpStill_nil ?_
          have f0' : wr.drew.frozen? ⟨w.heap.size, i, none⟩ = false := f0
          go_wp2
          have Hn := Hnext.out (97 + ((x : Int) - 97 + m) % 26) (by unfold slideN; rw [if_pos (by omega)]; omega)
          refine ⟨⟨i + 1, by omega, by go_num, fun j hj => ?_, ?_⟩, by simp [RowKit.intOf]; omega⟩
          · exact Hn j hj
          · exact (hb.setCell (by show w.heap.size ≤ w.heap.size; omega) _).drew
        · have h2' : ¬ (x : Int) ≤ 122 := h2
          go_wp2
          refine ⟨⟨i + 1, by omega, by go_num, Hsame.out (by unfold slideN; rw [if_neg (by omega)]), hb⟩, by simp [RowKit.intOf]; omega⟩
      · go_wp2
        refine ⟨⟨i + 1, by omega, by go_num, Hsame.out (by unfold slideN; rw [if_neg (by omega)]), hb⟩, by simp [RowKit.intOf]; omega⟩
    · obtain rfl : s.size = i := by omega
      have hcv := Lib.run_convert_whole (P := Tryz.prog) wr 48 5 9 Tryz.underlying48 Tryz.underlying5 Tryz.underlying9 w.heap.size 0 (slideBA (m % 26).toNat s) (slRow_bytes hr) cp
      rw [slideBA_size] at hcv
      go_wp2
      go_ret
      exact ⟨rfl, hb⟩
end Go.Proofs.YthcbchgdfldckaaGreatDoor
