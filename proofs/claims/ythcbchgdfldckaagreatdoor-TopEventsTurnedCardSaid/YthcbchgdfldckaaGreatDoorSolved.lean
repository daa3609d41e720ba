/- The walks of clock.solved, Solve and Errors. -/
import Derived.Test.YthcbchgdfldckaaGreatDoorBuild
import Derived.Test.YthcbchgdfldckaaGreatDoorCheck
import Derived.Test.YthcbchgdfldckaaGreatDoorClose
namespace Go.Proofs.YthcbchgdfldckaaGreatDoor
open Go.RowKit ClkM

/-- What solved comes to. -/
def SolvedOut (w : World) (l : List Ev) (ties : List Ti) (e : Ending) (w' : World) : Prop :=
  ∃ (b : Nat) (r : Nat → Nat) (D : Net) (ok : Bool), e = .returned (.tuple #[.slice (some ⟨b, 0, none⟩) (vars l) (vars l), .bool ok]) ∧ NetAt w' b r (vars l) D ∧ Below w.heap.size w w' ∧
    ((ok = true ∧ ∀ i j, i < vars l → j < vars l → IsMax (Cons l ties) i j (D i j)) ∨ (ok = false ∧ ∀ x, ¬ Cons l ties x))

set_option maxHeartbeats 1000000 in
set_option maxRecDepth 100000 in
theorem solved_any (A B : Option Addr) (cap cap2 : Nat) (l : List Ev) (ties : List Ti) (w : World) (h : EvsAt w A l) (h2 : TisAt w B ties) (hl : l.length ≤ 40) (ht : ties.length ≤ 80) (hcap : l.length ≤ cap) (hev : ∀ e ∈ l, 0 ≤ e.shown ∧ e.shown ≤ 4294967295 ∧ 0 ≤ e.wide ∧ e.wide ≤ 4294967295) (hti : ∀ t ∈ ties, TiOk l.length t) :
    Calls Tryz.prog 27 #[.slice A l.length cap, .slice B ties.length cap2] w (SolvedOut w l ties) := by
  have hnl := names_length l
  go_enter Tryz.func27, Tryz.ntmps27
  go_wp2_with fail
  refine (build_any A B cap cap2 l ties w h h2 hl ht hcap hev hti).mono ?_
  rintro e w1 ⟨b, r, D, rfl, hN, hG, hS, hb, hr⟩
  have hv : vars l ≤ 1000 := by unfold vars; omega
  go_wp2_with fail
  refine (close_net b r (vars l) D w1 hN w.heap.size hr hv (fun i j hi hj => ⟨hG.lo i j hi hj, hG.hi i j hi hj⟩) hG.diag).mono ?_
  rintro e w2 ⟨ok, D2, rfl, hN2, hb2, hD⟩
  have Hb := Lib.hid (hb.trans hb2)
  have HD := Lib.hid hD
  clear hD
  go_wp2
  go_ret2
  refine ⟨b, r, D2, ok, rfl, hN2, Hb.out, ?_⟩
  rcases HD.out with ⟨e1, hm⟩ | ⟨e1, hm⟩
  · exact .inl ⟨e1, fun i j hi hj => isMax_congr hS (hm i j hi hj)⟩
  · exact .inr ⟨e1, fun x hx => hm x ((hS x).2 hx)⟩

theorem isMax_fits {l : List Ev} {ties : List Ti} (ht : ∀ t ∈ ties, TiOk l.length t) {i j : Nat} {v : Int} (h : IsMax (Cons l ties) i j v) : ∃ err t, Fits l ties err t := by
  obtain ⟨_, x, hx, _⟩ := h
  exact ⟨_, _, cons_fits hx ht⟩
theorem isMax_bounds {l : List Ev} {ties : List Ti} {i j : Nat} {v : Int} (hi : i < vars l) (hj : j < vars l) (h : IsMax (Cons l ties) i j v) : -1000000000000 ≤ v ∧ v ≤ 1000000000000 := by
  obtain ⟨_, x, hx, e⟩ := h
  have b : ∀ i, i < vars l → -4294967295 ≤ x i - x 0 ∧ x i - x 0 ≤ 4294967295 := fun i hi => by
    rcases Nat.eq_zero_or_pos i with h0 | h0
    · subst h0; omega
    · have := hx.base i h0 hi; omega
  have b1 := b i hi
  have b2 := b j hj
  omega
theorem told_not {l : List Ev} {ties : List Ti} (ht : ∀ t ∈ ties, TiOk l.length t) (fs : List Q) (h : ∀ x, ¬ Cons l ties x) : Told l ties fs 17 [] :=
  .inl ⟨rfl, rfl, fun _ _ hf => h _ (fits_cons hf ht)⟩
theorem ivals_get {D : Net} {f m i : Nat} {p : Int × Int} (h : (ivals D f m)[i]? = some p) : i < m ∧ p = (-(D (f + i) 0), D 0 (f + i)) := by
  unfold ivals at h
  rw [List.getElem?_map] at h
  rcases Nat.lt_or_ge i m with hi | hi
  · rw [List.getElem?_eq_getElem (by simpa using hi)] at h
    simp at h
    exact ⟨hi, h.symm⟩
  · rw [List.getElem?_eq_none (by simpa using hi)] at h
    simp at h
theorem told_times {l : List Ev} {ties : List Ti} (ht : ∀ t ∈ ties, TiOk l.length t) {D : Net} (h : ∀ i j, i < vars l → j < vars l → IsMax (Cons l ties) i j (D i j)) : Told l ties (times l) 0 (ivals D (1 + (names l).length) l.length) := by
  have h0 : 0 < vars l := by unfold vars; omega
  refine .inr ⟨rfl, isMax_fits ht (h 0 0 h0 h0), by simp [times, ivals], fun i f p hf hp => ?_⟩
  obtain ⟨hi, rfl⟩ := ivals_get hp
  have hv : 1 + (names l).length + i < vars l := by unfold vars; omega
  unfold times at hf
  rw [List.getElem?_map, List.getElem?_eq_getElem (by simpa using hi)] at hf
  simp at hf
  subst hf
  refine ⟨top_time ht (h _ _ h0 hv), ?_⟩
  have := top_time' ht (h _ _ hv h0)
  simpa using this
theorem told_errs {l : List Ev} {ties : List Ti} (ht : ∀ t ∈ ties, TiOk l.length t) {D : Net} (h : ∀ i j, i < vars l → j < vars l → IsMax (Cons l ties) i j (D i j)) : Told l ties (errs l) 0 (ivals D 1 (names l).length) := by
  have h0 : 0 < vars l := by unfold vars; omega
  refine .inr ⟨rfl, isMax_fits ht (h 0 0 h0 h0), by simp [errs, ivals], fun i f p hf hp => ?_⟩
  obtain ⟨hi, rfl⟩ := ivals_get hp
  have hv : 1 + i < vars l := by unfold vars; omega
  unfold errs at hf
  rw [List.getElem?_map, List.getElem?_eq_getElem hi] at hf
  simp at hf
  subst hf
  have e : (names l)[i] = (names l).getD i [] := by simp [List.getD_eq_getElem?_getD, List.getElem?_eq_getElem hi]
  rw [e]
  refine ⟨top_err ht hi (h _ _ h0 hv), ?_⟩
  have := top_err' ht hi (h _ _ hv h0)
  simpa using this

theorem own_mono {w : World} {base base' : Nat} {e : TypeId} {size n : Nat} {v : Value} {xs : List Value} (h : w.ownsRow base e size v n xs) (hb : base' ≤ base) : w.ownsRow base' e size v n xs := by
  obtain ⟨h1, h2⟩ := h
  refine ⟨h1, ?_⟩
  rcases h2 with h2 | ⟨g, c, cur, a1, a2, a3⟩
  · exact .inl h2
  · exact .inr ⟨g, c, cur, a1, Nat.le_trans hb a2, a3⟩
/-- What Solve and Errors come to. -/
def AskedOut (w : World) (l : List Ev) (ties : List Ti) (fs : List Q) (e : Ending) (w' : World) : Prop :=
  ∃ (v : Value) (E : Int) (L : List (Int × Int)), e = .returned (.tuple #[v, .int .i64 E]) ∧ Out l ties fs E L ∧ w'.ownsRow w.heap.size 35 2 v L.length (pairCells L) ∧ Below w.heap.size w w'

set_option maxHeartbeats 1000000 in
set_option maxRecDepth 100000 in
theorem solve_any (A B : Option Addr) (cap cap2 : Nat) (l : List Ev) (ties : List Ti) (w : World) (h : EvsAt w A l) (h2 : TisAt w B ties) (hcap : l.length ≤ cap) (hok : EvOk l) :
    Calls Tryz.prog 10 #[.slice A l.length cap, .slice B ties.length cap2] w (AskedOut w l ties (times l)) := by
  go_enter Tryz.func10, Tryz.ntmps10
  go_wp2_with fail
  refine (check_any A B cap cap2 l ties w h h2 hcap hok).mono ?_
  rintro e w1 ⟨rfl, hb1⟩
  by_cases hc : chk l ties = 0
  · have Hc := Lib.hid hc
    have Hch := Lib.hid (chk_ties hc)
    rw [hc]
    clear hc
    go_wp2_with fail
    obtain ⟨g1, g2, g3, g4, g5⟩ := Hch.out
    refine (solved_any A B cap cap2 l ties w1 (h.kept (kept_below hb1)) (h2.kept (kept_below hb1)) g1 g2 hcap (fun e he => (g4 e he).2) g5).mono ?_
    rintro e w2 ⟨b, r, D, ok, rfl, hN, hb2, hD⟩
    have hb12 := below_then hb1 hb1.size hb2
    have HD := Lib.hid hD
    have Hb12 := Lib.hid hb12
    have Hg := Lib.hid g5
    have hnl := names_length l
    have hv : vars l = 1 + (names l).length + l.length := rfl
    clear hD g4 g5
    cases ok
    · go_wp2
      go_ret2
      refine ⟨_, _, [], rfl, .inr ⟨Hc.out, told_not Hg.out _ ?_⟩, World.ownsRow_nil _ _ _ _, Hb12.out⟩
      rcases HD.out with ⟨e1, _⟩ | ⟨_, hm⟩
      · cases e1
      · exact hm
    · have hm : ∀ i j, i < vars l → j < vars l → IsMax (Cons l ties) i j (D i j) := by
        rcases HD.out with ⟨_, hm⟩ | ⟨e1, _⟩
        · exact hm
        · cases e1
      have Hm := Lib.hid hm
      clear hm
      go_wp2_with fail
      refine (clocks_any A cap l w2 (h.kept (kept_below Hb12.out)) (by omega) hcap).mono ?_
      rintro e w3 ⟨v, rfl, hown, hb3⟩
      obtain ⟨A1, c1, rfl⟩ := own_slice hown
      go_wp2_with fail
      have hb123 := below_then Hb12.out Hb12.out.size hb3
      have e1 : (.int .i64 (1 + ((names l).length : Int)) : Value) = .int .i64 ((1 + (names l).length : Nat) : Int) := by congr 1
      rw [e1]
      refine (intervals_net b r (vars l) D (1 + (names l).length) l.length w3 (hN.below hb3) (by omega) (by omega) (by omega) (fun i j hi hj => isMax_bounds hi hj (Hm.out i j hi hj))).mono ?_
      rintro e w4 ⟨v, rfl, hown4, hb4⟩
      have Hown4 := Lib.hid hown4
      have Hb := Lib.hid (below_then hb123 hb123.size hb4)
      have hs := hb123.size
      clear hown4
      go_wp2
      go_ret2
      refine ⟨_, _, _, rfl, .inr ⟨Hc.out, told_times Hg.out Hm.out⟩, ?_, Hb.out⟩
      rw [ivals_length]
      exact own_mono Hown4.out hs
  · have Hc := Lib.hid hc
    go_wp2
    go_ret2
    exact ⟨_, _, [], rfl, .inl ⟨Hc.out, rfl, rfl⟩, World.ownsRow_nil _ _ _ _, hb1⟩
set_option maxHeartbeats 1000000 in
set_option maxRecDepth 100000 in
theorem errors_any (A B : Option Addr) (cap cap2 : Nat) (l : List Ev) (ties : List Ti) (w : World) (h : EvsAt w A l) (h2 : TisAt w B ties) (hcap : l.length ≤ cap) (hok : EvOk l) :
    Calls Tryz.prog 11 #[.slice A l.length cap, .slice B ties.length cap2] w (AskedOut w l ties (errs l)) := by
  go_enter Tryz.func11, Tryz.ntmps11
  go_wp2_with fail
  refine (check_any A B cap cap2 l ties w h h2 hcap hok).mono ?_
  rintro e w1 ⟨rfl, hb1⟩
  by_cases hc : chk l ties = 0
  · have Hc := Lib.hid hc
    have Hch := Lib.hid (chk_ties hc)
    rw [hc]
    clear hc
    go_wp2_with fail
    obtain ⟨g1, g2, g3, g4, g5⟩ := Hch.out
    refine (solved_any A B cap cap2 l ties w1 (h.kept (kept_below hb1)) (h2.kept (kept_below hb1)) g1 g2 hcap (fun e he => (g4 e he).2) g5).mono ?_
    rintro e w2 ⟨b, r, D, ok, rfl, hN, hb2, hD⟩
    have hb12 := below_then hb1 hb1.size hb2
    have HD := Lib.hid hD
    have Hb12 := Lib.hid hb12
    have Hg := Lib.hid g5
    have hnl := names_length l
    have hv : vars l = 1 + (names l).length + l.length := rfl
    clear hD g4 g5
    cases ok
    · go_wp2
      go_ret2
      refine ⟨_, _, [], rfl, .inr ⟨Hc.out, told_not Hg.out _ ?_⟩, World.ownsRow_nil _ _ _ _, Hb12.out⟩
      rcases HD.out with ⟨e1, _⟩ | ⟨_, hm⟩
      · cases e1
      · exact hm
    · have hm : ∀ i j, i < vars l → j < vars l → IsMax (Cons l ties) i j (D i j) := by
        rcases HD.out with ⟨_, hm⟩ | ⟨e1, _⟩
        · exact hm
        · cases e1
      have Hm := Lib.hid hm
      clear hm
      go_wp2_with fail
      refine (clocks_any A cap l w2 (h.kept (kept_below Hb12.out)) (by omega) hcap).mono ?_
      rintro e w3 ⟨v, rfl, hown, hb3⟩
      obtain ⟨A1, c1, rfl⟩ := own_slice hown
      go_wp2_with fail
      have hb123 := below_then Hb12.out Hb12.out.size hb3
      refine (intervals_net b r (vars l) D 1 (names l).length w3 (hN.below hb3) (by omega) (by omega) (by omega) (fun i j hi hj => isMax_bounds hi hj (Hm.out i j hi hj))).mono ?_
      rintro e w4 ⟨v, rfl, hown4, hb4⟩
      have Hown4 := Lib.hid hown4
      have Hb := Lib.hid (below_then hb123 hb123.size hb4)
      have hs := hb123.size
      clear hown4
      go_wp2
      go_ret2
      refine ⟨_, _, _, rfl, .inr ⟨Hc.out, told_errs Hg.out Hm.out⟩, ?_, Hb.out⟩
      rw [ivals_length]
      exact own_mono Hown4.out hs
  · have Hc := Lib.hid hc
    go_wp2
    go_ret2
    exact ⟨_, _, [], rfl, .inl ⟨Hc.out, rfl, rfl⟩, World.ownsRow_nil _ _ _ _, hb1⟩
/-- What Before comes to. -/
def BefOut (w : World) (l : List Ev) (ties : List Ti) (a b : Int) (e : Ending) (w' : World) : Prop :=
  ∃ (r : Bool) (E : Int), e = .returned (.tuple #[.bool r, .int .i64 E]) ∧ Bef l ties a b r E ∧ Below w.heap.size w w'
set_option maxHeartbeats 1000000 in
set_option maxRecDepth 100000 in
theorem before_any (A B : Option Addr) (cap cap2 : Nat) (l : List Ev) (ties : List Ti) (a b : Int) (w : World) (h : EvsAt w A l) (h2 : TisAt w B ties) (hcap : l.length ≤ cap) (hok : EvOk l) (ha : -9223372036854775808 ≤ a ∧ a ≤ 9223372036854775807) (hb : -9223372036854775808 ≤ b ∧ b ≤ 9223372036854775807) :
    Calls Tryz.prog 17 #[.slice A l.length cap, .slice B ties.length cap2, .int .i64 a, .int .i64 b] w (BefOut w l ties a b) := by
  go_enter Tryz.func17, Tryz.ntmps17
  go_wp2_with fail
  refine (check_any A B cap cap2 l ties w h h2 hcap hok).mono ?_
  rintro e w1 ⟨rfl, hb1⟩
  by_cases hc : chk l ties = 0
  · have Hc := Lib.hid hc
    have Hch := Lib.hid (chk_ties hc)
    rw [hc]
    clear hc
    by_cases hr : a < 0 ∨ b < 0 ∨ (l.length : Int) ≤ a ∨ (l.length : Int) ≤ b
    · have Hr := Lib.hid hr
      by_cases hm : min a b < 0
      · go_wp2
        go_ret2
        exact ⟨_, _, rfl, .inr (.inl ⟨Hc.out, Hr.out, rfl, rfl⟩), hb1⟩
      · have hM : (l.length : Int) ≤ max a b := by rcases hr with h | h | h | h <;> omega
        clear hr
        go_wp2
        go_ret2
        exact ⟨_, _, rfl, .inr (.inl ⟨Hc.out, Hr.out, rfl, rfl⟩), hb1⟩
    · have Hr := Lib.hid hr
      have hm : ¬ min a b < 0 := by omega
      have hM : ¬ (l.length : Int) ≤ max a b := by omega
      obtain ⟨g1, g2, g3, g4, g5⟩ := Hch.out
      clear hr
      go_wp2_with fail
      refine (solved_any A B cap cap2 l ties w1 (h.kept (kept_below hb1)) (h2.kept (kept_below hb1)) g1 g2 hcap (fun e he => (g4 e he).2) g5).mono ?_
      rintro e w2 ⟨c, r, D, ok, rfl, hN, hb2, hD⟩
      have hb12 := below_then hb1 hb1.size hb2
      have HD := Lib.hid hD
      have Hb12 := Lib.hid hb12
      have Hg := Lib.hid g5
      have hnl := names_length l
      have hv : vars l = 1 + (names l).length + l.length := rfl
      clear hD g4 g5
      cases ok
      · go_wp2
        go_ret2
        refine ⟨_, _, rfl, .inr (.inr ⟨Hc.out, Hr.out, .inl ⟨rfl, rfl, ?_⟩⟩), Hb12.out⟩
        intro err t hf
        rcases HD.out with ⟨e1, _⟩ | ⟨_, hm⟩
        · cases e1
        · exact hm _ (fits_cons hf Hg.out)
      · have hm' : ∀ i j, i < vars l → j < vars l → IsMax (Cons l ties) i j (D i j) := by
          rcases HD.out with ⟨_, hm⟩ | ⟨e1, _⟩
          · exact hm
          · cases e1
        have Hm := Lib.hid hm'
        clear hm'
        go_wp2_with fail
        refine (clocks_any A cap l w2 (h.kept (kept_below Hb12.out)) (by omega) hcap).mono ?_
        rintro e w3 ⟨v, rfl, hown, hb3⟩
        obtain ⟨A1, c1, rfl⟩ := own_slice hown
        have Hb := Lib.hid (below_then Hb12.out Hb12.out.size hb3)
        have hN3 := hN.below hb3
        clear hown
        obtain ⟨na, rfl⟩ : ∃ na : Nat, a = na := ⟨a.toNat, by omega⟩
        obtain ⟨nb, rfl⟩ : ∃ nb : Nat, b = nb := ⟨b.toNat, by omega⟩
        have t1 := hN3.top.cell (i := 1 + (names l).length + nb) (by omega)
        have t2 := (hN3.row (1 + (names l).length + nb) (by omega)).cell (i := 1 + (names l).length + na) (by omega)
        have Hx := Lib.hid (Hm.out (1 + (names l).length + nb) (1 + (names l).length + na) (by omega) (by omega))
        have hx2 := isMax_bounds (by omega) (by omega) Hx.out
        go_wp2
        go_ret2
        refine ⟨_, _, rfl, .inr (.inr ⟨Hc.out, Hr.out, .inr ⟨rfl, isMax_fits Hg.out Hx.out, _, top_less Hg.out Hx.out, ?_⟩⟩), Hb.out⟩
        rfl
  · have Hc := Lib.hid hc
    go_wp2
    go_ret2
    exact ⟨_, _, rfl, .inl ⟨Hc.out, rfl, rfl⟩, hb1⟩
end Go.Proofs.YthcbchgdfldckaaGreatDoor
