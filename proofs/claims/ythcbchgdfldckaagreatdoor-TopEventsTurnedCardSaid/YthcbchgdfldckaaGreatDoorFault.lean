/- The walks of wrackref4's ClocksOf and ClockFault. -/
import Derived.Test.YthcbchgdfldckaaGreatDoorStrRow
import Derived.Test.YthcbchgdfldckaaGreatDoorCheck
import Derived.Test.YthcbchgdfldckaaGreatDoorWord
import Derived.Test.YthcbchgdfldckaaGreatDoorCons
namespace Go.Proofs.YthcbchgdfldckaaGreatDoor
open Go.RowKit Go.Lib

theorem ba_beq (a b : ByteArray) : (a == b) = decide (a = b) := by
  cases a; cases b
  rename_i x y
  show (x == y) = _
  by_cases h : x = y
  · subst h; simp
  · rw [decide_eq_false (by simpa using h)]; simpa using h
theorem ba_self (a : ByteArray) : (a != a) = false := by unfold bne; rw [ba_beq]; simp
theorem ba_ne {a b : ByteArray} (h : a ≠ b) : (a != b) = true := by unfold bne; rw [ba_beq]; simpa using h
theorem below_drewN {B : Nat} {w w' : World} (h : Below B w w') (q : Nat) : Below B w (w'.drewN q) := h.trans ⟨rfl, rfl, rfl, Nat.le_refl _, fun _ _ => rfl⟩

set_option maxHeartbeats 1000000 in
set_option maxRecDepth 100000 in
theorem clocksOf_any (A : Option Addr) (cap : Nat) (l : List Ev) (w : World) (h : EvsAt w A l) (hl : l.length ≤ 400) (_hcap : l.length ≤ cap) :
    Calls Tryz.prog 24 #[.slice A l.length cap] w fun e w' => ∃ v n, e = .returned v ∧ StrRow w' w.heap.size v n ∧ Below w.heap.size w w' := by
  go_enter Tryz.func24, Tryz.ntmps24
  go_wp2
  go_loopw [3, 9] (fun s3 s9 wr => ∃ k n : Nat, k ≤ l.length ∧ n ≤ k ∧ s9 = .int .i64 k ∧ StrRow wr w.heap.size s3 n ∧ Below w.heap.size w wr) (fun _ s9 _ => l.length - (intOf s9).toNat)
  case atStart => exact ⟨0, 0, Nat.zero_le _, Nat.le_refl _, rfl, .inl ⟨rfl, rfl⟩, Below.refl _ _⟩
  case round =>
    obtain ⟨k, n, hk, hnk, rfl, hrow, hb⟩ := hrel
    obtain ⟨A1, c1, rfl⟩ := hrow.slice
    by_cases hkl : k < l.length
    · obtain ⟨b, o, rfl, p1, p2, p3⟩ := EvsAt.cell (h.kept (kept_below hb)) hkl
      have hsz := hb.size
      generalize l.getD k dEv = x at *
      go_wp2
      have hrow1 := hrow.below ((Below.refl wr.heap.size wr).alloc (Nat.le_refl _) (.cells #[.string x.clock, .int .i64 x.shown, .int .i64 x.wide] 38))
      have hb1 := hb.alloc hsz (.cells #[.string x.clock, .int .i64 x.shown, .int .i64 x.wide] 38)
      have z0 : (wr.alloc (.cells #[.string x.clock, .int .i64 x.shown, .int .i64 x.wide] 38)).cell? ⟨wr.heap.size, 0, none⟩ = some (.string x.clock) := by simp
      have hS1 : (wr.alloc (.cells #[.string x.clock, .int .i64 x.shown, .int .i64 x.wide] 38)).heap.size = wr.heap.size + 1 := by simp
      generalize wr.alloc (.cells #[.string x.clock, .int .i64 x.shown, .int .i64 x.wide] 38) = W at *
      generalize hh0 : wr.heap.size = h0 at *
      clear hrow hb hh0 p1 p2 p3
      have HROW := Lib.hid hrow1
      have key : Hid (∀ i q : Nat, i ≤ n → Calls Tryz.prog 57 #[.slice A1 n c1, .int .i64 i, .slice (some ⟨h0 + 1, 0, none⟩) 1 1] ((W.drewN q).alloc (.cells #[.string x.clock] 9)) fun e w' => ∃ v', e = .returned v' ∧ StrRow w' w.heap.size v' (n + 1) ∧ Below w.heap.size w w') := by
        intro i q hi
        have hbq : Below w.heap.size w ((W.drewN q).alloc (.cells #[.string x.clock] 9)) := (below_drewN hb1 q).alloc (by show w.heap.size ≤ W.heap.size; omega) _
        have hnew := heap_alloc_new (W.drewN q) (.cells #[.string x.clock] 9)
        rw [show (W.drewN q).heap.size = h0 + 1 from hS1] at hnew
        have hrow2 : StrRow (W.drewN q) w.heap.size (.slice A1 n c1) n := hrow1
        refine (insert_str w.heap.size _ n i (h0 + 1) x.clock _ (hrow2.below ((Below.refl _ _).alloc (Nat.le_refl _) _)) hi (by omega) hbq.size ⟨_, _, hnew, rfl⟩ (by rw [cell_of_row _ _ 0 _ _ (0, 0) hnew]; rfl) (fun g c e => ?_)).mono ?_
        · rcases hrow2 with ⟨e1, _⟩ | ⟨g', c', e1, _, e3, _⟩
          · rw [e1] at e; cases e
          · rw [e1] at e
            cases e
            have := e3.lt
            have : g < W.heap.size := this
            omega
        · rintro e w3 ⟨v', rfl, hrow3, hb3⟩
          exact ⟨v', rfl, hrow3, hbq.trans hb3⟩
      go_loopw [6] (fun s6 wr => ∃ i q : Nat, i ≤ n ∧ s6 = .int .i64 i ∧ wr = W.drewN q) (fun s6 _ => n - (intOf s6).toNat)
      case atStart => exact ⟨0, 0, Nat.zero_le _, rfl, rfl⟩
      case round =>
        obtain ⟨i, q, hi, rfl, rfl⟩ := hrel
        by_cases hin : i < n
        · rcases hrow1 with ⟨_, h0⟩ | ⟨g, c, e1, e2, e3, e4, e5, e6, e7⟩
          · omega
          · obtain ⟨s, hs⟩ := e7 i hin
            simp only [Value.slice.injEq] at e1
            obtain ⟨rfl, _, rfl⟩ := e1
            have hs' : (W.drewN q).cell? ⟨g, i, none⟩ = some (.string s) := hs
            have z0' : (W.drewN q).cell? ⟨h0, 0, none⟩ = some (.string x.clock) := z0
            go_wp2
            go_region
            go_wp2
            · exact ⟨⟨i + 1, q + 1, by omega, by go_num, rfl⟩, by simp [intOf]; omega⟩
            · have hs2 : ((W.drewN q).drew).cell? ⟨g, i, none⟩ = some (.string s) := hs
              have z02 : ((W.drewN q).drew).cell? ⟨h0, 0, none⟩ = some (.string x.clock) := z0
              have hne : ¬ ((i : Int) = (n : Int)) := by omega
              have hne2 : ¬ (i = n) := by omega
              have hne3 : ((i : Int) == (n : Int)) = false := by simpa using hne
              go_region
              go_wp2_with fail
              · refine (key.out i _ (by omega)).mono ?_
                rintro e w3 ⟨v', rfl, hrow3, hb3⟩
                obtain ⟨A3, c3, rfl⟩ := hrow3.slice
                go_wp2
                exact ⟨⟨k + 1, n + 1, by omega, by omega, by go_num, hrow3, hb3⟩, by simp [intOf]; omega⟩
              · refine ⟨⟨k + 1, n, by omega, by omega, by go_num, HROW.out, below_drewN hb1 _⟩, by simp [intOf]; omega⟩
        · obtain rfl : n = i := by omega
          go_wp2
          go_region
          go_wp2
          go_region
          go_wp2_with fail
          refine (key.out n _ (by omega)).mono ?_
          rintro e w3 ⟨v', rfl, hrow3, hb3⟩
          obtain ⟨A3, c3, rfl⟩ := hrow3.slice
          go_wp2
          refine ⟨⟨k + 1, n + 1, by omega, by omega, by go_num, hrow3, hb3⟩, by simp [intOf]; omega⟩
    · obtain rfl : l.length = k := by omega
      go_wp2
      go_ret
      exact ⟨_, _, rfl, hrow, hb⟩

/-- What ClockFault comes to. -/
def FaultOut (w : World) (l : List Ev) (ties : List Ti) (e : Ending) (w' : World) : Prop := ∃ E : Int, e = .returned (.int .i64 E) ∧ Below w.heap.size w w' ∧ (E = 0 → Right l ties)
theorem right_intro {l : List Ev} {ties : List Ti} (h1 : l.length ≤ 40) (h2 : ties.length ≤ 80) (h3 : ∀ j, j < l.length → evErr (l.getD j dEv) = 0) (h4 : ∀ j, j < ties.length → tiErr l.length (ties.getD j dTi) = 0) : Right l ties := by
  refine ⟨h1, h2, fun e he => ?_, fun t ht => ?_⟩
  · obtain ⟨i, hi, rfl⟩ := mem_getD dEv he
    have := h3 i hi
    unfold evErr at this
    split at this
    · split at this
      · omega
      · rename_i a b; refine ⟨a, ?_⟩; omega
    · omega
  · obtain ⟨i, hi, rfl⟩ := mem_getD dTi ht
    exact h4 i hi

set_option maxHeartbeats 2000000 in
set_option maxRecDepth 100000 in
theorem clockFault_any (A B : Option Addr) (cap cap2 : Nat) (l : List Ev) (ties : List Ti) (w : World) (h : EvsAt w A l) (h2 : TisAt w B ties) (hcap : l.length ≤ cap) (hok : EvOk l) :
    Calls Tryz.prog 7 #[.slice A l.length cap, .slice B ties.length cap2] w (FaultOut w l ties) := by
  by_cases h40 : 40 < (l.length : Int)
  · go_enter Tryz.func7, Tryz.ntmps7
    go_wp2
    go_ret
    exact ⟨_, rfl, Below.refl _ _, fun h => absurd h (by decide)⟩
  · by_cases h80 : 80 < (ties.length : Int)
    · go_enter Tryz.func7, Tryz.ntmps7
      go_wp2
      go_ret
      exact ⟨_, rfl, Below.refl _ _, fun h => absurd h (by decide)⟩
    · go_enter Tryz.func7, Tryz.ntmps7
      go_wp2_with fail
      refine (clocksOf_any A cap l w h (by omega) hcap).mono ?_
      rintro e w1 ⟨v, n, rfl, hrow, hb⟩
      obtain ⟨A1, c1, rfl⟩ := hrow.slice
      clear hrow
      have hb0 := hb.size
      by_cases h12 : 12 < (n : Int)
      · go_wp2
        go_ret
        exact ⟨_, rfl, hb, fun h => absurd h (by decide)⟩
      · have hl1 : l.length ≤ 40 := by omega
        have hl2 : ties.length ≤ 80 := by omega
        go_wp2
        go_loopw [27] (fun s27 wr => ∃ k : Nat, k ≤ l.length ∧ s27 = .int .i64 k ∧ Below w.heap.size w wr ∧ Hid (∀ j, j < k → evErr (l.getD j dEv) = 0)) (fun s27 _ => l.length - (intOf s27).toNat)
        case atStart => exact ⟨0, Nat.zero_le _, rfl, hb, fun j hj => absurd hj (Nat.not_lt_zero _)⟩
        case round =>
          clear hb hb0
          obtain ⟨k, hk, rfl, hb, hz⟩ := hrel
          have hb0 := hb.size
          by_cases hkm : k < l.length
          · obtain ⟨b, o, rfl, p1, p2, p3⟩ := EvsAt.cell (h.kept (kept_below hb)) hkm
            have Hx := Lib.hid (hok k hkm)
            have Hnext : Hid (evErr (l.getD k dEv) = 0 → ∀ j, j < k + 1 → evErr (l.getD j dEv) = 0) := fun h0 j hj => by
              rcases Nat.lt_or_ge j k with h1 | h1
              · exact hz.out j h1
              · obtain rfl : j = k := by omega
                exact h0
            have Hin := Lib.hid (evErr_ok (e := l.getD k dEv))
            generalize l.getD k dEv = x at *
            go_wp2_with fail
            refine (word_any x.clock _ Hx.out).mono ?_
            rintro e w2 ⟨rfl, hb2⟩
            have hb3 := (hb.alloc hb0 (.cells #[.string x.clock, .int .i64 x.shown, .int .i64 x.wide] 38))
            have hb4 := below_then hb3 hb3.size hb2
            have z1 : w2.cell? ⟨wr.heap.size, 1, none⟩ = some (.int .i64 x.shown) := by rw [hb2.cell (p := ⟨wr.heap.size, 1, none⟩) (by show wr.heap.size < _; simp)]; simp
            have z2 : w2.cell? ⟨wr.heap.size, 2, none⟩ = some (.int .i64 x.wide) := by rw [hb2.cell (p := ⟨wr.heap.size, 2, none⟩) (by show wr.heap.size < _; simp)]; simp
            have hb0' := hb4.size
            cases hn : isName x.clock.data.toList with
            | false =>
              clear hn
              go_wp2
              go_ret
              exact ⟨_, rfl, hb4, fun h => absurd h (by decide)⟩
            | true =>
              have Hn := Lib.hid hn
              clear hn hb hb2 hb3 p1 p2 p3
              go_wp2
              have y1 : (w2.alloc (.cells #[.int .i64 x.shown, .int .i64 x.wide] 3)).cell? ⟨w2.heap.size, 0, none⟩ = some (.int .i64 x.shown) := by simp
              have y2 : (w2.alloc (.cells #[.int .i64 x.shown, .int .i64 x.wide] 3)).cell? ⟨w2.heap.size, 1, none⟩ = some (.int .i64 x.wide) := by simp
              have hb5 := hb4.alloc hb0' (.cells #[.int .i64 x.shown, .int .i64 x.wide] 3)
              generalize w2.alloc (.cells #[.int .i64 x.shown, .int .i64 x.wide] 3) = w3 at *
              generalize w2.heap.size = g at *
              clear hb4 hb0'
              go_loop [41] (fun s41 => ∃ i : Nat, i ≤ 2 ∧ s41 = .int .i64 i ∧ Hid (0 < i → 0 ≤ x.shown ∧ x.shown ≤ 4294967295) ∧ Hid (1 < i → 0 ≤ x.wide ∧ x.wide ≤ 4294967295)) (fun s41 => 2 - (intOf s41).toNat)
              case atStart => exact ⟨0, by omega, rfl, fun h => absurd h (by omega), fun h => absurd h (by omega)⟩
              case round =>
                obtain ⟨i, hi, rfl, hi1, hi2⟩ := hrel
                rcases (by omega : i = 0 ∨ i = 1 ∨ i = 2) with rfl | rfl | rfl
                · by_cases hr : x.shown < 0 ∨ 4294967295 < x.shown
                  · go_wp2
                    all_goals (go_ret; exact ⟨_, rfl, hb5, fun h => absurd h (by decide)⟩)
                  · have r1 : 0 ≤ x.shown := by omega
                    have r2 : x.shown ≤ 4294967295 := by omega
                    clear hr
                    go_wp2
                    exact ⟨⟨1, by omega, by go_num, fun _ => ⟨r1, r2⟩, fun h => absurd h (by omega)⟩, by simp [intOf]⟩
                · by_cases hr : x.wide < 0 ∨ 4294967295 < x.wide
                  · go_wp2
                    all_goals (go_ret; exact ⟨_, rfl, hb5, fun h => absurd h (by decide)⟩)
                  · have r1 : 0 ≤ x.wide := by omega
                    have r2 : x.wide ≤ 4294967295 := by omega
                    clear hr
                    go_wp2
                    exact ⟨⟨2, by omega, by go_num, fun _ => hi1.out (by omega), fun _ => ⟨r1, r2⟩⟩, by simp [intOf]⟩
                · have Hc6 := Lib.hid (Hnext.out (Hin.out Hn.out (by have := hi1.out (by omega); have := hi2.out (by omega); omega)))
                  go_wp2
                  refine ⟨⟨k + 1, by omega, by go_num, hb5, Hc6.out⟩, by simp [intOf]; omega⟩
          · obtain rfl : l.length = k := by omega
            have Hl := hz
            clear hz
            go_wp2
            go_loopw [55] (fun s55 wr => ∃ k : Nat, k ≤ ties.length ∧ s55 = .int .i64 k ∧ Below w.heap.size w wr ∧ Hid (∀ j, j < k → tiErr l.length (ties.getD j dTi) = 0)) (fun s55 _ => ties.length - (intOf s55).toNat)
            case atStart => exact ⟨0, Nat.zero_le _, rfl, hb, fun j hj => absurd hj (Nat.not_lt_zero _)⟩
            case round =>
              clear hb hb0
              obtain ⟨k, hk2, rfl, hb, hz⟩ := hrel
              have hb0 := hb.size
              by_cases hkm2 : k < ties.length
              · obtain ⟨b, o, rfl, p1, p2, p3, p4⟩ := TisAt.cell (h2.kept (kept_below hb)) hkm2
                have Hnext : Hid (tiErr l.length (ties.getD k dTi) = 0 → ∀ j, j < k + 1 → tiErr l.length (ties.getD j dTi) = 0) := fun h0 j hj => by
                  rcases Nat.lt_or_ge j k with h1 | h1
                  · exact hz.out j h1
                  · obtain rfl : j = k := by omega
                    exact h0
                generalize ties.getD k dTi = x at *
                by_cases c1 : x.a < -1 ∨ (l.length : Int) ≤ x.a ∨ x.b < 0 ∨ (l.length : Int) ≤ x.b
                · go_wp2
                  all_goals (go_ret; exact ⟨_, rfl, (hb.alloc hb0 _), fun h => absurd h (by decide)⟩)
                · have q1 : -1 ≤ x.a := by omega
                  have q2 : x.a < (l.length : Int) := by omega
                  have q3 : 0 ≤ x.b := by omega
                  have q4 : x.b < (l.length : Int) := by omega
                  by_cases c2 : x.a = x.b
                  · have b2 : (x.a == x.b) = true := by simpa using c2
                    clear c1 c2
                    go_wp2
                    all_goals (go_ret; exact ⟨_, rfl, (hb.alloc hb0 _), fun h => absurd h (by decide)⟩)
                  · have b2 : (x.a == x.b) = false := by simpa using c2
                    by_cases c3 : x.high < x.low ∨ x.low < -4294967295 ∨ 4294967295 < x.high
                    · clear c1 c2
                      go_wp2
                      all_goals (go_ret; exact ⟨_, rfl, (hb.alloc hb0 _), fun h => absurd h (by decide)⟩)
                    · have Hc6 : Hid (tiErr l.length x = 0) := by unfold Hid tiErr; rw [if_neg c1, if_neg c2, if_neg c3]
                      have Hc := Lib.hid (Hnext.out Hc6.out)
                      have q5 : x.low ≤ x.high := by omega
                      have q6 : -4294967295 ≤ x.low := by omega
                      have q7 : x.high ≤ 4294967295 := by omega
                      clear c1 c2 c3
                      go_wp2
                      refine ⟨⟨k + 1, by omega, by go_num, hb.alloc hb0 _, Hc.out⟩, by simp [intOf]; omega⟩
              · obtain rfl : ties.length = k := by omega
                go_wp2
                go_ret
                exact ⟨_, rfl, hb, fun _ => right_intro hl1 hl2 Hl.out hz.out⟩
end Go.Proofs.YthcbchgdfldckaaGreatDoor
