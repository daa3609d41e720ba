/- The walk of clock.build. -/
import Derived.Test.YthcbchgdfldckaaGreatDoorClocks
import Derived.Test.YthcbchgdfldckaaGreatDoorNet
import Derived.Test.YthcbchgdfldckaaGreatDoorCons
import Derived.Test.YthcbchgdfldckaaGreatDoorSearch
import Derived.StillTailTactics
namespace Go.Proofs.YthcbchgdfldckaaGreatDoor
open Go.RowKit ClkM

theorem at_any (k : Int) (c : Nat) (A : Option Addr) (nc cp : Nat) (w : World) (hc : w.cell? ⟨c, 0, none⟩ = some (.slice A nc cp)) (h1 : -1000000000 ≤ k) (h2 : k ≤ 1000000000) (hn : nc ≤ 1000000000) :
    Calls Tryz.prog 93 #[.int .i64 k, .pointer (some ⟨c, 0, none⟩)] w fun e w' => e = .returned (.int .i64 (if k < 0 then 0 else 1 + nc + k)) ∧ w' = w := by
  by_cases hk : k < 0
  · rw [if_pos hk]
    go_enter Tryz.func93, Tryz.ntmps93
    go_wp2
    go_ret
    exact ⟨rfl, rfl⟩
  · rw [if_neg hk]
    go_enter Tryz.func93, Tryz.ntmps93
    go_wp2
    go_ret
    exact ⟨rfl, rfl⟩

theorem at_nat (k : Int) (hk : 0 ≤ k) (c : Nat) (A : Option Addr) (nc cp : Nat) (w : World) (hc : w.cell? ⟨c, 0, none⟩ = some (.slice A nc cp)) (h2 : k ≤ 1000000000) (hn : nc ≤ 1000000000) :
    Calls Tryz.prog 93 #[.int .i64 k, .pointer (some ⟨c, 0, none⟩)] w fun e w' => e = .returned (.int .i64 (1 + nc + k)) ∧ w' = w := by
  have h := at_any k c A nc cp w hc (by omega) h2 hn
  rw [if_neg (by omega)] at h
  exact h

theorem Tryz.info44 : (Tryz.prog.info? 44).map (fun i => (i.zero, i.size, i.bytes)) = some (some (.slice none 0 0), 1, 24) := by kernel_rfl
theorem Tryz.info3 : (Tryz.prog.info? 3).map (fun i => (i.zero, i.size, i.bytes)) = some (some (.int .i64 0), 1, 8) := by kernel_rfl

/-- i rows of the net are made, in the blocks behind b. -/
structure Made (W w : World) (b n i : Nat) : Prop where
  below : Below W.heap.size W w
  size : w.heap.size = b + 1 + i
  base : W.heap.size ≤ b
  top : w.rowIs b 44 n (fun j => if j < i then .slice (some ⟨b + 1 + j, 0, none⟩) n n else .slice none 0 0)
  row : ∀ j, j < i → w.rowIs (b + 1 + j) 3 n (fun c => .int .i64 (far j c))
/-- Row i is being filled, c cells of it. -/
structure Filling (W w : World) (b n i c : Nat) : Prop where
  below : Below W.heap.size W w
  size : w.heap.size = b + 1 + i + 1
  base : W.heap.size ≤ b
  top : w.rowIs b 44 n (fun j => if j < i + 1 then .slice (some ⟨b + 1 + j, 0, none⟩) n n else .slice none 0 0)
  row : ∀ j, j < i → w.rowIs (b + 1 + j) 3 n (fun k => .int .i64 (far j k))
  cur : w.rowIs (b + 1 + i) 3 n (fun k => .int .i64 (if k < c then 17179869180 else 0))
theorem made_start (W w : World) (n : Nat) (h : Below W.heap.size W w) : Made W (w.alloc (.cells (madeCells #[.slice none 0 0] n) 44)) w.heap.size n 0 :=
  ⟨h.alloc h.size _, by simp, h.size, (World.rowIs_made w _ n 44).congr (fun j _ => by simp), fun j hj => absurd hj (Nat.not_lt_zero _)⟩
theorem filling_start {W w : World} {b n i : Nat} (h : Made W w b n i) :
    Filling W ((w.alloc (.cells (madeCells #[.int .i64 0] n) 3)).setCell ⟨b, i, none⟩ (.slice (some ⟨b + 1 + i, 0, none⟩) n n)) b n i 0 := by
  have hnew := World.rowIs_made w (.int .i64 0) n 3
  rw [h.size] at hnew
  refine ⟨(h.below.alloc h.below.size _).setCell (by exact h.base) _, by simp [h.size], h.base, ((h.top.alloc _).set i _).congr (fun j _ => ?_), fun j hj => ((h.row j hj).alloc _).setOther (by show b + 1 + j ≠ b; omega) _,
    (hnew.setOther (by show b + 1 + i ≠ b; omega) _).congr (fun k _ => by simp)⟩
  by_cases e : j = i
  · subst e; simp
  · rw [if_neg e]
    by_cases hlt : j < i
    · rw [if_pos hlt, if_pos (by omega)]
    · rw [if_neg hlt, if_neg (by omega)]
theorem filling_step {W w : World} {b n i c : Nat} (h : Filling W w b n i c) : Filling W (w.setCell ⟨b + 1 + i, c, none⟩ (.int .i64 17179869180)) b n i (c + 1) := by
  refine ⟨h.below.setCell (by show W.heap.size ≤ b + 1 + i; have := h.base; omega) _, by simp [h.size], h.base, h.top.setOther (by show b ≠ b + 1 + i; omega) _, fun j hj => (h.row j hj).setOther (by show b + 1 + j ≠ b + 1 + i; omega) _, (h.cur.set c _).congr (fun k _ => ?_)⟩
  by_cases e : k = c
  · subst e; simp
  · rw [if_neg e]
    by_cases hlt : k < c
    · rw [if_pos hlt, if_pos (by omega)]
    · rw [if_neg hlt, if_neg (by omega)]
theorem filling_done {W w : World} {b n i : Nat} (h : Filling W w b n i n) : Made W (w.setCell ⟨b + 1 + i, i, none⟩ (.int .i64 0)) b n (i + 1) := by
  refine ⟨h.below.setCell (by show W.heap.size ≤ b + 1 + i; have := h.base; omega) _, by simp [h.size]; omega, h.base, h.top.setOther (by show b ≠ b + 1 + i; omega) _, fun j hj => ?_⟩
  by_cases e : j = i
  · subst e
    refine (h.cur.set j _).congr (fun k hk => ?_)
    unfold far
    by_cases e2 : k = j
    · subst e2; simp
    · rw [if_neg e2, if_pos hk, if_neg (fun e => e2 e.symm)]
  · exact (h.row j (by omega)).setOther (by show b + 1 + j ≠ b + 1 + i; omega) _
theorem made_net {W w : World} {b n : Nat} (h : Made W w b n n) : NetAt w b (fun i => b + 1 + i) n far :=
  ⟨h.top.congr (fun j hj => by rw [if_pos hj]), fun i hi => h.row i hi, fun i _ => by show b + 1 + i ≠ b; omega, fun i j _ _ e => by have : b + 1 + i = b + 1 + j := e; omega⟩

/-- The far net, with the first i variables kept near. -/
structure Near (l : List Ev) (i : Nat) (D : Net) : Prop where
  good : NetOk (vars l) D
  sol : ∀ x, Sol (vars l) D x ↔ (Sol (vars l) far x ∧ ∀ j, 1 ≤ j → j < i → -4294967295 ≤ x j - x 0 ∧ x j - x 0 ≤ 4294967295)
theorem near_start (l : List Ev) : Near l 1 far := ⟨netOk_far _, fun x => ⟨fun h => ⟨h, fun j h1 h2 => by omega⟩, fun h => h.1⟩⟩
theorem near_step {l : List Ev} {i : Nat} {D : Net} (h : Near l i D) (h1 : 1 ≤ i) (hi : i < vars l) : Near l (i + 1) (two D 0 i (-4294967295) 4294967295) := by
  refine ⟨netOk_two h.good (by omega) hi (by omega) (by omega) (by omega), fun x => ?_⟩
  rw [sol_two (by omega) hi, h.sol]
  constructor
  · rintro ⟨⟨a, b⟩, c⟩
    refine ⟨a, fun j j1 j2 => ?_⟩
    rcases Nat.lt_or_ge j i with h | h
    · exact b j j1 h
    · obtain rfl : j = i := by omega
      exact c
  · rintro ⟨a, b⟩
    exact ⟨⟨a, fun j j1 j2 => b j j1 (by omega)⟩, b i h1 (by omega)⟩

/-- .. and the first k events laid in, and the first m ties. -/
structure Laid (l : List Ev) (ties : List Ti) (k m : Nat) (D : Net) : Prop where
  good : NetOk (vars l) D
  sol : ∀ x, Sol (vars l) D x ↔ ((Sol (vars l) far x ∧ ∀ j, 1 ≤ j → j < vars l → -4294967295 ≤ x j - x 0 ∧ x j - x 0 ≤ 4294967295) ∧
    (∀ i, i < k → (l.getD i dEv).shown - (l.getD i dEv).wide ≤ x (1 + (names l).length + i) - x (1 + pos l (l.getD i dEv).nm) ∧ x (1 + (names l).length + i) - x (1 + pos l (l.getD i dEv).nm) ≤ (l.getD i dEv).shown + (l.getD i dEv).wide) ∧
    (∀ i, i < m → (ties.getD i dTi).low ≤ x (atOf l (ties.getD i dTi).b) - x (atOf l (ties.getD i dTi).a) ∧ x (atOf l (ties.getD i dTi).b) - x (atOf l (ties.getD i dTi).a) ≤ (ties.getD i dTi).high))
theorem laid_start {l : List Ev} (ties : List Ti) {D : Net} (h : Near l (vars l) D) : Laid l ties 0 0 D :=
  ⟨h.good, fun x => by rw [h.sol]; exact ⟨fun a => ⟨a, fun i hi => absurd hi (Nat.not_lt_zero _), fun i hi => absurd hi (Nat.not_lt_zero _)⟩, fun a => a.1⟩⟩
theorem laid_ev {l : List Ev} {ties : List Ti} {k : Nat} {D : Net} (h : Laid l ties k 0 D) (hk : k < l.length) (h0 : 0 ≤ (l.getD k dEv).shown ∧ (l.getD k dEv).shown ≤ 4294967295 ∧ 0 ≤ (l.getD k dEv).wide ∧ (l.getD k dEv).wide ≤ 4294967295) :
    Laid l ties (k + 1) 0 (two D (1 + pos l (l.getD k dEv).nm) (1 + (names l).length + k) ((l.getD k dEv).shown - (l.getD k dEv).wide) ((l.getD k dEv).shown + (l.getD k dEv).wide)) := by
  have hp := pos_lt (nm_mem hk)
  have hv : vars l = 1 + (names l).length + l.length := rfl
  refine ⟨netOk_two h.good (by omega) (by omega) (by omega) (by omega) (by omega), fun x => ?_⟩
  rw [sol_two (by omega) (by omega), h.sol]
  constructor
  · rintro ⟨⟨a, b, c⟩, d⟩
    refine ⟨a, fun j j1 => ?_, c⟩
    rcases Nat.lt_or_ge j k with h | h
    · exact b j h
    · obtain rfl : j = k := by omega
      exact d
  · rintro ⟨a, b, c⟩
    exact ⟨⟨a, fun j j1 => b j (by omega), c⟩, b k (by omega)⟩
theorem atOf_lt {l : List Ev} {a : Int} (h : a < l.length) : atOf l a < vars l := by unfold atOf vars; split <;> omega
theorem laid_ti {l : List Ev} {ties : List Ti} {m : Nat} {D : Net} (h : Laid l ties l.length m D) (_hm : m < ties.length) (h0 : TiOk l.length (ties.getD m dTi)) :
    Laid l ties l.length (m + 1) (two D (atOf l (ties.getD m dTi).a) (atOf l (ties.getD m dTi).b) (ties.getD m dTi).low (ties.getD m dTi).high) := by
  obtain ⟨o1, o2, o3, o4, o5, o6, o7, o8⟩ := h0
  have hne : atOf l (ties.getD m dTi).a ≠ atOf l (ties.getD m dTi).b := by unfold atOf; split <;> split <;> omega
  refine ⟨netOk_two h.good (atOf_lt o2) (atOf_lt o4) hne (by omega) (by omega), fun x => ?_⟩
  rw [sol_two (atOf_lt o2) (atOf_lt o4), h.sol]
  constructor
  · rintro ⟨⟨a, b, c⟩, d⟩
    refine ⟨a, b, fun j j1 => ?_⟩
    rcases Nat.lt_or_ge j m with h | h
    · exact c j h
    · obtain rfl : j = m := by omega
      exact d
  · rintro ⟨a, b, c⟩
    exact ⟨⟨a, b, fun j j1 => c j (by omega)⟩, c m (by omega)⟩
theorem laid_done {l : List Ev} {ties : List Ti} {D : Net} (h : Laid l ties l.length ties.length D) : ∀ x, Sol (vars l) D x ↔ Cons l ties x := fun x => by
  rw [h.sol]
  constructor
  · rintro ⟨⟨_, a⟩, b, c⟩; exact ⟨a, b, c⟩
  · intro ⟨a, b, c⟩
    refine ⟨⟨(sol_far _ _).2 fun i j hi hj => ?_, a⟩, b, c⟩
    have e : ∀ i, i < vars l → -4294967295 ≤ x i - x 0 ∧ x i - x 0 ≤ 4294967295 := fun i hi => by
      rcases Nat.eq_zero_or_pos i with h0 | h0
      · subst h0; omega
      · exact a i h0 hi
    have e1 := e i hi
    have e2 := e j hj
    omega

/-- What build comes to. -/
def BuildOut (w : World) (l : List Ev) (ties : List Ti) (e : Ending) (w' : World) : Prop :=
  ∃ (b : Nat) (r : Nat → Nat) (D : Net), e = .returned (.slice (some ⟨b, 0, none⟩) (vars l) (vars l)) ∧ NetAt w' b r (vars l) D ∧ NetOk (vars l) D ∧ (∀ x, Sol (vars l) D x ↔ Cons l ties x) ∧ Below w.heap.size w w' ∧ ∀ a, a < vars l → w.heap.size ≤ r a

set_option maxHeartbeats 2000000 in
set_option maxRecDepth 100000 in
theorem build_any (A B : Option Addr) (cap cap2 : Nat) (l : List Ev) (ties : List Ti) (w : World) (h : EvsAt w A l) (h2 : TisAt w B ties) (hl : l.length ≤ 40) (ht : ties.length ≤ 80) (hcap : l.length ≤ cap) (hev : ∀ e ∈ l, 0 ≤ e.shown ∧ e.shown ≤ 4294967295 ∧ 0 ≤ e.wide ∧ e.wide ≤ 4294967295) (hti : ∀ t ∈ ties, TiOk l.length t) :
    Calls Tryz.prog 59 #[.slice A l.length cap, .slice B ties.length cap2] w (BuildOut w l ties) := by
  have hnl := names_length l
  go_enter Tryz.func59, Tryz.ntmps59
  go_wp2_with fail
  refine (clocks_any A cap l w h (by omega) hcap).mono ?_
  rintro e w1 ⟨v, rfl, hown, hb⟩
  obtain ⟨A1, c1, rfl⟩ := own_slice hown
  obtain ⟨n, hn, hn2⟩ : ∃ n : Nat, (1 + ((names l).length : Int) + (l.length : Int)) = (n : Int) ∧ n = vars l := ⟨vars l, by unfold vars; omega, rfl⟩
  have hn3 : n ≤ 81 := by rw [hn2]; unfold vars; omega
  have hn4 : 1 ≤ n := by rw [hn2]; unfold vars; omega
  have hmk1 := run_make_row' (P := Tryz.prog) 79 44 (.slice none 0 0) 24 Tryz.underlying79 Tryz.info44 rfl .i64 .i64 n (by omega) (by omega)
  have hmk2 := run_make_row' (P := Tryz.prog) 44 3 (.int .i64 0) 8 Tryz.underlying44 Tryz.info3 rfl .i64 .i64 n (by omega) (by omega)
  have Hn2 := Lib.hid hn2
  clear hn2
  go_wp2
  have hb1 := hb.alloc hb.size (.cells #[.slice A1 (names l).length c1] 40)
  have hcl : (w1.alloc (.cells #[.slice A1 (names l).length c1] 40)).cell? ⟨w1.heap.size, 0, none⟩ = some (.slice A1 (names l).length c1) := by simp
  have hown1 := hown.alloc (.cells #[.slice A1 (names l).length c1] 40)
  have hS1 : (w1.alloc (.cells #[.slice A1 (names l).length c1] 40)).heap.size = w1.heap.size + 1 := by simp
  generalize hc0 : w1.heap.size = c0 at *
  generalize w1.alloc (.cells #[.slice A1 (names l).length c1] 40) = W at *
  have hM0 := made_start W W n (Below.refl _ _)
  rw [hS1] at hM0
  have HS1 := Lib.hid hS1
  clear hS1 hc0 hown hb
  go_loopw [30] (fun s30 wr => ∃ i : Nat, i ≤ n ∧ s30 = .int .i64 i ∧ Made W wr (c0 + 1) n i) (fun s30 _ => n - (intOf s30).toNat)
  case atStart => exact ⟨0, Nat.zero_le _, rfl, hM0⟩
  case round =>
    obtain ⟨i, hi, rfl, hM⟩ := hrel
    clear hM0
    by_cases hin : i < n
    · have hsize := hM.size
      have hst1 : ∀ o, (wr.alloc o).cell? ⟨c0 + 1, i, none⟩ = some (.slice none 0 0) := fun o => by
        have := (hM.top.alloc o).cell hin
        rw [if_neg (by omega)] at this
        exact this
      have hst2 : ∀ o, (wr.alloc o).frozen? ⟨c0 + 1, i, none⟩ = false := fun o => (hM.top.alloc o).frozen i
      have hF0 := Lib.hid (filling_start hM)
      go_wp2
      clear hst1 hst2 hsize hM
      obtain ⟨wo, rfl⟩ : ∃ wo : World, wo = wr := ⟨_, rfl⟩
      go_loopw [43] (fun s43 wr => ∃ c : Nat, c ≤ n ∧ s43 = .int .i64 c ∧ Filling W wr (c0 + 1) n i c) (fun s43 _ => n - (intOf s43).toNat)
      case atStart => exact ⟨0, Nat.zero_le _, rfl, hF0.out⟩
      case round =>
        obtain ⟨c, hc, rfl, hF⟩ := hrel
        clear hF0
        have t1 : wr.cell? ⟨c0 + 1, i, none⟩ = some (.slice (some ⟨c0 + 1 + 1 + i, 0, none⟩) n n) := by
          have := hF.top.cell hin
          rw [if_pos (by omega)] at this
          exact this
        by_cases hcn : c < n
        · have t2 := hF.cur.cell hcn
          have t3 := hF.cur.frozen c
          have hF1 := Lib.hid (filling_step hF)
          go_wp2
          refine ⟨⟨c + 1, by omega, by go_num, hF1.out⟩, by simp [intOf]; omega⟩
        · obtain rfl : n = c := by omega
          have t2 := hF.cur.cell hin
          have t3 := hF.cur.frozen i
          have hF1 := Lib.hid (filling_done hF)
          go_wp2
          refine ⟨⟨i + 1, by omega, by go_num, hF1.out⟩, by simp [intOf]; omega⟩
    · obtain rfl : n = i := by omega
      have hN := made_net hM
      have hbM := hM.below
      clear hM hmk1 hmk2
      go_wp2
      have HN0 := Lib.hid (near_start l)
      go_loopw [10] (fun s10 wr => ∃ (i : Nat) (D : Net), 1 ≤ i ∧ i ≤ n ∧ s10 = .int .i64 i ∧ NetAt wr (c0 + 1) (fun i => c0 + 1 + 1 + i) n D ∧ Below W.heap.size W wr ∧ Hid (Near l i D)) (fun s10 _ => n - (intOf s10).toNat)
      case atStart => exact ⟨1, far, Nat.le_refl _, hn4, rfl, hN, hbM, HN0⟩
      case round =>
        clear hN hbM HN0
        obtain ⟨i, D, hi1, hin, rfl, hN, hbM, HNr⟩ := hrel
        by_cases hlt : i < n
        · have Hnext := Lib.hid (near_step HNr.out hi1 (by rw [← Hn2.out]; exact hlt))
          go_wp2_with fail
          refine (between_net (c0 + 1) (fun i => c0 + 1 + 1 + i) n D 0 i _ _ _ hN W.heap.size (fun a ha => by rw [HS1.out]; omega) (by omega) (by omega) (by omega) (by omega) (by omega) (by omega)).mono ?_
          rintro e w2 ⟨rfl, hN2, hb2⟩
          go_wp2
          refine ⟨⟨i + 1, _, by omega, by omega, by go_num, hN2, hbM.trans hb2, Hnext.out⟩, by simp [intOf]; omega⟩
        · obtain rfl : n = i := by omega
          have HL0 := Lib.hid (laid_start ties (by rw [← Hn2.out]; exact HNr.out))
          clear HNr
          go_wp2
          go_loopw [71] (fun s71 wr => ∃ (k : Nat) (D : Net), k ≤ l.length ∧ s71 = .int .i64 k ∧ NetAt wr (c0 + 1) (fun i => c0 + 1 + 1 + i) n D ∧ Below W.heap.size W wr ∧ Hid (Laid l ties k 0 D)) (fun s71 _ => l.length - (intOf s71).toNat)
          case atStart => exact ⟨0, D, Nat.zero_le _, rfl, hN, hbM, HL0⟩
          case round =>
            clear hN hbM HL0
            obtain ⟨k, D, hk, rfl, hN, hbM, HL⟩ := hrel
            by_cases hkl : k < l.length
            · have hbW : Below w.heap.size w wr := hb1.trans (hbM.mono hb1.size)
              obtain ⟨b, o, rfl, p1, p2, p3⟩ := EvsAt.cell (h.kept (kept_below hbW)) hkl
              have Hmem := Lib.hid (nm_mem hkl)
              have Hx0 := Lib.hid (hev _ (getD_mem (d := dEv) hkl))
              have Hnext := Lib.hid (laid_ev HL.out hkl Hx0.out)
              have hplt := pos_lt (nm_mem hkl)
              obtain ⟨g, cg, hA1, _, _⟩ := (own_below hown1 hbM).form (Nat.lt_of_le_of_lt (Nat.zero_le _) hplt)
              simp only [Value.slice.injEq] at hA1
              obtain ⟨rfl, _, rfl⟩ := hA1
              have hs := hbM.size
              have hcs : c0 < wr.heap.size := by rw [HS1.out] at hs; omega
              have q5 : wr.cell? ⟨c0, 0, none⟩ = some (.slice (some ⟨g, 0, none⟩) (names l).length c1) := by
                rw [hbM.cell (p := ⟨c0, 0, none⟩) (by show c0 < W.heap.size; rw [HS1.out]; omega)]; exact hcl
              have hownr := own_below hown1 hbM
              have Hev0 := Lib.hid (show (l.getD k dEv).nm = _ from rfl)
              generalize l.getD k dEv = x at *
              obtain ⟨hx1, hx2, hx3, hx4⟩ := Hx0.out
              go_wp2_with fail
              refine (search_any l x.clock Hmem.out g c1 _ (by omega) (fun j hj => ?_)).mono ?_
              · have := (hownr.alloc (.cells #[.string x.clock, .int .i64 x.shown, .int .i64 x.wide] 38)).cells (g := g) rfl j (encStr ((names l).getD j [])) (by rw [List.getElem?_map, List.getElem?_eq_getElem hj, List.getD_eq_getElem?_getD, List.getElem?_eq_getElem hj]; rfl)
                rw [Go.WideShapes.add_plain] at this
                simpa using this
              rintro e w3 ⟨rfl, q, rfl⟩
              go_wp2
              have hNa : NetAt ((wr.alloc (.cells #[.string x.clock, .int .i64 x.shown, .int .i64 x.wide] 38)).drewN q) (c0 + 1) (fun i => c0 + 1 + 1 + i) n D := (hN.alloc _).drewN q
              have hba : Below W.heap.size W ((wr.alloc (.cells #[.string x.clock, .int .i64 x.shown, .int .i64 x.wide] 38)).drewN q) := hbM.trans (((Below.refl _ _).alloc hs _).trans ⟨rfl, rfl, rfl, Nat.le_refl _, fun _ _ => rfl⟩)
              have z1 : ((wr.alloc (.cells #[.string x.clock, .int .i64 x.shown, .int .i64 x.wide] 38)).drewN q).cell? ⟨wr.heap.size, 1, none⟩ = some (.int .i64 x.shown) := by simp
              have z2 : ((wr.alloc (.cells #[.string x.clock, .int .i64 x.shown, .int .i64 x.wide] 38)).drewN q).cell? ⟨wr.heap.size, 2, none⟩ = some (.int .i64 x.wide) := by simp
              have z3 : ((wr.alloc (.cells #[.string x.clock, .int .i64 x.shown, .int .i64 x.wide] 38)).drewN q).cell? ⟨c0, 0, none⟩ = some (.slice (some ⟨g, 0, none⟩) (names l).length c1) := by
                show (wr.alloc _).cell? _ = _
                rw [World.cell?_alloc_old _ _ _ (by show c0 ≠ wr.heap.size; omega)]
                exact q5
              generalize (wr.alloc (.cells #[.string x.clock, .int .i64 x.shown, .int .i64 x.wide] 38)).drewN q = W2 at *
              generalize hh0 : wr.heap.size = h0 at *
              clear hN hbM q5 hs hcs p1 p2 p3 hownr
              have Hh0 := Lib.hid hh0
              clear hh0
              have hpl2 : pos l x.clock.data.toList < (names l).length := hplt
              have s1 : IntKind.i64.wrap (1 + (pos l x.clock.data.toList : Int)) = 1 + (pos l x.clock.data.toList : Int) := IntWalk.i64_in _ (by omega)
              have s2 : IntKind.i64.wrap (x.shown - x.wide) = x.shown - x.wide := IntWalk.i64_in _ (by omega)
              have s3 : IntKind.i64.wrap (x.shown + x.wide) = x.shown + x.wide := IntWalk.i64_in _ (by omega)
              refine wp_region_still_tail 16 (by kernel_rfl) (by kernel_rfl) ?_
              simp only [List.take_succ_cons, List.take_zero, List.drop_succ_cons, List.drop_zero]
              repeat still_step
              still_call (at_nat _ (by omega) c0 (some ⟨g, 0, none⟩) (names l).length c1 W2.drew z3 (by omega) (by omega))
              repeat still_step
              refine wpStill_nil ?_
              go_wp2_with fail
              refine (between_net (c0 + 1) (fun i => c0 + 1 + 1 + i) n D _ _ _ _ _ hNa.drew W.heap.size (fun a ha => by rw [HS1.out]; omega) (by omega) (by omega) (by omega) (by omega) (by omega) (by omega)).mono ?_
              rintro e w5 ⟨rfl, hN5, hb5⟩
              have e1 : (1 + (pos l x.clock.data.toList : Int)).toNat = 1 + pos l x.nm := by show _ = 1 + pos l x.clock.data.toList; omega
              have e2 : (1 + ((names l).length : Int) + (k : Int)).toNat = 1 + (names l).length + k := by omega
              rw [e1, e2] at hN5
              have HN5 := Lib.hid hN5
              clear e1 e2 hN5
              go_wp2
              refine ⟨⟨k + 1, _, by omega, by go_num, HN5.out, (hba.drew).trans hb5, Hnext.out⟩, by simp [intOf]; omega⟩
            · obtain rfl : l.length = k := by omega
              have HL0 := HL
              clear HL
              go_wp2
              go_loopw [103] (fun s103 wr => ∃ (k : Nat) (D : Net), k ≤ ties.length ∧ s103 = .int .i64 k ∧ NetAt wr (c0 + 1) (fun i => c0 + 1 + 1 + i) n D ∧ Below W.heap.size W wr ∧ Hid (Laid l ties l.length k D)) (fun s103 _ => ties.length - (intOf s103).toNat)
              case atStart => exact ⟨0, D, Nat.zero_le _, rfl, hN, hbM, HL0⟩
              case round =>
                clear hN hbM HL0
                obtain ⟨k, D, hk2, rfl, hN, hbM, HL⟩ := hrel
                by_cases hkl : k < ties.length
                · have hbW : Below w.heap.size w wr := hb1.trans (hbM.mono hb1.size)
                  obtain ⟨b, o, rfl, p1, p2, p3, p4⟩ := TisAt.cell (h2.kept (kept_below hbW)) hkl
                  have Hx0 := Lib.hid (hti _ (getD_mem (d := dTi) hkl))
                  have Hnext := Lib.hid (laid_ti HL.out hkl Hx0.out)
                  have hs := hbM.size
                  have hcs : c0 < wr.heap.size := by rw [HS1.out] at hs; omega
                  have q5 : wr.cell? ⟨c0, 0, none⟩ = some (.slice A1 (names l).length c1) := by
                    rw [hbM.cell (p := ⟨c0, 0, none⟩) (by show c0 < W.heap.size; rw [HS1.out]; omega)]; exact hcl
                  generalize ties.getD k dTi = x at *
                  obtain ⟨hx1, hx2, hx3, hx4, hx5, hx6, hx7, hx8⟩ := Hx0.out
                  clear hx5
                  go_wp2
                  have hNa : NetAt (wr.alloc (.cells #[.int .i64 x.a, .int .i64 x.b, .int .i64 x.low, .int .i64 x.high] 28)) (c0 + 1) (fun i => c0 + 1 + 1 + i) n D := hN.alloc _
                  have hba : Below W.heap.size W (wr.alloc (.cells #[.int .i64 x.a, .int .i64 x.b, .int .i64 x.low, .int .i64 x.high] 28)) := hbM.alloc hs _
                  have z3 : (wr.alloc (.cells #[.int .i64 x.a, .int .i64 x.b, .int .i64 x.low, .int .i64 x.high] 28)).cell? ⟨c0, 0, none⟩ = some (.slice A1 (names l).length c1) := by
                    rw [World.cell?_alloc_old _ _ _ (by show c0 ≠ wr.heap.size; omega)]
                    exact q5
                  have z0 : (wr.alloc (.cells #[.int .i64 x.a, .int .i64 x.b, .int .i64 x.low, .int .i64 x.high] 28)).cell? ⟨wr.heap.size, 0, none⟩ = some (.int .i64 x.a) := by simp
                  have z1 : (wr.alloc (.cells #[.int .i64 x.a, .int .i64 x.b, .int .i64 x.low, .int .i64 x.high] 28)).cell? ⟨wr.heap.size, 1, none⟩ = some (.int .i64 x.b) := by simp
                  have z2 : (wr.alloc (.cells #[.int .i64 x.a, .int .i64 x.b, .int .i64 x.low, .int .i64 x.high] 28)).cell? ⟨wr.heap.size, 2, none⟩ = some (.int .i64 x.low) := by simp
                  have z4 : (wr.alloc (.cells #[.int .i64 x.a, .int .i64 x.b, .int .i64 x.low, .int .i64 x.high] 28)).cell? ⟨wr.heap.size, 3, none⟩ = some (.int .i64 x.high) := by simp
                  generalize wr.alloc (.cells #[.int .i64 x.a, .int .i64 x.b, .int .i64 x.low, .int .i64 x.high] 28) = W2 at *
                  generalize hh0 : wr.heap.size = h0 at *
                  clear hN hbM q5 hs hcs p1 p2 p3 p4 hh0 hbW
                  have Hat : Hid (∀ a : Int, -1 ≤ a → ((if a < 0 then 0 else 1 + ((names l).length : Int) + a) : Int).toNat = atOf l a ∧ 0 ≤ (if a < 0 then 0 else 1 + ((names l).length : Int) + a : Int) ∧ (a < l.length → (if a < 0 then 0 else 1 + ((names l).length : Int) + a : Int) < n)) := by
                    intro a ha
                    unfold atOf
                    by_cases h0 : a < 0
                    · rw [if_pos h0, if_pos h0]; exact ⟨rfl, by omega, fun _ => by omega⟩
                    · rw [if_neg h0, if_neg h0]; exact ⟨by omega, by omega, fun _ => by omega⟩
                  obtain ⟨f1, f2, f3⟩ := Hat.out x.a (by omega)
                  obtain ⟨g1, g2, g3⟩ := Hat.out x.b (by omega)
                  have f4 := f3 (by omega)
                  have g4 := g3 (by omega)
                  have c1a := at_any x.a c0 A1 (names l).length c1 W2.drew z3 (by omega) (by omega) (by omega)
                  have c1b := at_any x.b c0 A1 (names l).length c1 W2.drew z3 (by omega) (by omega) (by omega)
                  generalize (if x.a < 0 then 0 else 1 + ((names l).length : Int) + x.a : Int) = va at *
                  generalize (if x.b < 0 then 0 else 1 + ((names l).length : Int) + x.b : Int) = vb at *
                  have Hc1a := Lib.hid c1a
                  have Hc1b := Lib.hid c1b
                  have Hf1 := Lib.hid f1
                  have Hg1 := Lib.hid g1
                  clear c1a c1b f1 g1 f3 g3
                  refine wp_region_still_tail 13 (by kernel_rfl) (by kernel_rfl) ?_
                  simp only [List.take_succ_cons, List.take_zero, List.drop_succ_cons, List.drop_zero]
                  repeat still_step
                  still_call Hc1a.out
                  repeat still_step
                  still_call Hc1b.out
                  repeat still_step
                  refine wpStill_nil ?_
                  go_wp2_with fail
                  refine (between_net (c0 + 1) (fun i => c0 + 1 + 1 + i) n D va vb x.low x.high _ hNa.drew W.heap.size (fun a ha => by rw [HS1.out]; omega) f2 g2 f4 g4 (by omega) (by omega)).mono ?_
                  rintro e w5 ⟨rfl, hN5, hb5⟩
                  rw [Hf1.out, Hg1.out] at hN5
                  go_wp2
                  refine ⟨⟨k + 1, _, by omega, by go_num, hN5, (hba.drew).trans hb5, Hnext.out⟩, by simp [intOf]; omega⟩
                · obtain rfl : ties.length = k := by omega
                  have hbW : Below w.heap.size w wr := hb1.trans (hbM.mono hb1.size)
                  go_wp2
                  go_ret
                  have hn2 := Hn2.out
                  subst hn2
                  exact ⟨c0 + 1, fun i => c0 + 1 + 1 + i, D, rfl, hN, HL.out.good, laid_done HL.out, hbW, fun a _ => by show w.heap.size ≤ c0 + 1 + 1 + a; have := hb1.size; rw [HS1.out] at this; omega⟩
end Go.Proofs.YthcbchgdfldckaaGreatDoor
