/- The walk of clock.Check. -/
import Derived.Test.YthcbchgdfldckaaGreatDoorClocks
import Derived.Test.YthcbchgdfldckaaGreatDoorNamed
namespace Go.Proofs.YthcbchgdfldckaaGreatDoor
open Go.RowKit

theorem evErr_name {e : Ev} (h : isName e.nm = false) : evErr e = 6 := by unfold evErr; rw [h]; rfl
theorem evErr_range {e : Ev} (h : isName e.nm = true) (hr : e.shown < 0 ∨ 4294967295 < e.shown ∨ e.wide < 0 ∨ 4294967295 < e.wide) : evErr e = 4 := by unfold evErr; rw [h, if_pos rfl, if_pos hr]
theorem evErr_ok {e : Ev} (h : isName e.nm = true) (hr : ¬ (e.shown < 0 ∨ 4294967295 < e.shown ∨ e.wide < 0 ∨ 4294967295 < e.wide)) : evErr e = 0 := by unfold evErr; rw [h, if_pos rfl, if_neg hr]


set_option maxHeartbeats 2000000 in
set_option maxRecDepth 100000 in
theorem check_any (A B : Option Addr) (cap cap2 : Nat) (l : List Ev) (ties : List Ti) (w : World) (h : EvsAt w A l) (h2 : TisAt w B ties) (hcap : l.length ≤ cap) (hok : EvOk l) :
    Calls Tryz.prog 26 #[.slice A l.length cap, .slice B ties.length cap2] w fun e w' => e = .returned (.int .i64 (chk l ties)) ∧ Below w.heap.size w w' := by
  by_cases h40 : 40 < (l.length : Int)
  · have Hc := Lib.hid (chk_large (l := l) (ties := ties) (.inl (by omega)))
    go_enter Tryz.func26, Tryz.ntmps26
    go_wp2
    go_ret
    exact ⟨by rw [Hc.out]; rfl, Below.refl _ _⟩
  · by_cases h80 : 80 < (ties.length : Int)
    · have Hc := Lib.hid (chk_large (l := l) (ties := ties) (.inr (.inl (by omega))))
      go_enter Tryz.func26, Tryz.ntmps26
      go_wp2
      go_ret
      exact ⟨by rw [Hc.out]; rfl, Below.refl _ _⟩
    · go_enter Tryz.func26, Tryz.ntmps26
      go_wp2_with fail
      refine (clocks_any A cap l w h (by omega) hcap).mono ?_
      rintro e w1 ⟨v, rfl, hown, hb⟩
      obtain ⟨A1, c1, rfl⟩ := own_slice hown
      have hb0 := hb.size
      by_cases h12 : 12 < ((names l).length : Int)
      · have Hc := Lib.hid (chk_large (l := l) (ties := ties) (.inr (.inr (by omega))))
        go_wp2
        go_ret
        exact ⟨by rw [Hc.out]; rfl, hb⟩
      · have hsz : ¬ (40 < l.length ∨ 80 < ties.length ∨ 12 < (names l).length) := by omega
        have Hev := Lib.hid (fun k hk => chk_ev (l := l) (ties := ties) hsz (k := k) hk)
        have Hti := Lib.hid (fun hl k hk => chk_ti (l := l) (ties := ties) hsz hl (k := k) hk)
        have Hokk := Lib.hid (fun hl => chk_ok (l := l) (ties := ties) hsz hl)
        clear hsz hown
        go_wp2
        go_loopw [25] (fun s25 wr => ∃ k : Nat, k ≤ l.length ∧ s25 = .int .i64 k ∧ Below w.heap.size w wr ∧ Hid (∀ j, j < k → evErr (l.getD j dEv) = 0)) (fun s25 _ => l.length - (intOf s25).toNat)
        case atStart => exact ⟨0, Nat.zero_le _, rfl, hb, fun j hj => absurd hj (Nat.not_lt_zero _)⟩
        case round =>
          clear hb hb0
          obtain ⟨k, hk, rfl, hb, hz⟩ := hrel
          have hb0 := hb.size
          by_cases hkm : k < l.length
          · obtain ⟨b, o, rfl, p1, p2, p3⟩ := EvsAt.cell (h.kept (kept_below hb)) hkm
            have Hk := Lib.hid (Hev.out k hkm hz.out)
            have Hx := Lib.hid (hok k hkm)
            have Hnext : Hid (evErr (l.getD k dEv) = 0 → ∀ j, j < k + 1 → evErr (l.getD j dEv) = 0) := fun h0 j hj => by
              rcases Nat.lt_or_ge j k with h1 | h1
              · exact hz.out j h1
              · obtain rfl : j = k := by omega
                exact h0
            have Hname := Lib.hid (evErr_name (e := l.getD k dEv))
            have Hrange := Lib.hid (evErr_range (e := l.getD k dEv))
            have Hin := Lib.hid (evErr_ok (e := l.getD k dEv))
            generalize l.getD k dEv = x at *
            go_wp2_with fail
            refine (named_any x.clock _ Hx.out).mono ?_
            rintro e w2 ⟨rfl, rfl⟩
            cases hn : isName x.clock.data.toList with
            | false =>
              have Hc := Lib.hid (Hk.out (by rw [Hname.out hn]; decide))
              have Hc6 := Lib.hid (Hname.out hn)
              clear hn
              go_wp2
              go_ret
              exact ⟨by rw [Hc.out, Hc6.out]; rfl, (hb.alloc hb0 _)⟩
            | true =>
              by_cases hr : x.shown < 0 ∨ 4294967295 < x.shown ∨ x.wide < 0 ∨ 4294967295 < x.wide
              · have Hc := Lib.hid (Hk.out (by rw [Hrange.out hn hr]; decide))
                have Hc6 := Lib.hid (Hrange.out hn hr)
                clear hn
                go_wp2
                all_goals (go_ret; exact ⟨by rw [Hc.out, Hc6.out]; rfl, (hb.alloc hb0 _)⟩)
              · have Hc6 := Lib.hid (Hnext.out (Hin.out hn hr))
                have r1 : 0 ≤ x.shown := by omega
                have r2 : x.shown ≤ 4294967295 := by omega
                have r3 : 0 ≤ x.wide := by omega
                have r4 : x.wide ≤ 4294967295 := by omega
                clear hn hr
                go_wp2
                refine ⟨⟨k + 1, by omega, by go_num, hb.alloc hb0 _, Hc6.out⟩, by simp [intOf]; omega⟩
          · obtain rfl : l.length = k := by omega
            have Hl := Lib.hid (Hti.out hz.out)
            have Hl2 := Lib.hid (Hokk.out hz.out)
            clear hz Hti Hokk Hev
            go_wp2
            go_loopw [54] (fun s54 wr => ∃ k : Nat, k ≤ ties.length ∧ s54 = .int .i64 k ∧ Below w.heap.size w wr ∧ Hid (∀ j, j < k → tiErr l.length (ties.getD j dTi) = 0)) (fun s54 _ => ties.length - (intOf s54).toNat)
            case atStart => exact ⟨0, Nat.zero_le _, rfl, hb, fun j hj => absurd hj (Nat.not_lt_zero _)⟩
            case round =>
              clear hb hb0
              obtain ⟨k, hk2, rfl, hb, hz⟩ := hrel
              have hb0 := hb.size
              by_cases hkm2 : k < ties.length
              · obtain ⟨b, o, rfl, p1, p2, p3, p4⟩ := TisAt.cell (h2.kept (kept_below hb)) hkm2
                have Hk := Lib.hid (Hl.out k hkm2 hz.out)
                have Hnext : Hid (tiErr l.length (ties.getD k dTi) = 0 → ∀ j, j < k + 1 → tiErr l.length (ties.getD j dTi) = 0) := fun h0 j hj => by
                  rcases Nat.lt_or_ge j k with h1 | h1
                  · exact hz.out j h1
                  · obtain rfl : j = k := by omega
                    exact h0
                have He := Lib.hid (show tiErr l.length (ties.getD k dTi) = _ from rfl)
                generalize ties.getD k dTi = x at *
                by_cases c1 : x.a < -1 ∨ (l.length : Int) ≤ x.a ∨ x.b < 0 ∨ (l.length : Int) ≤ x.b
                · have Hc6 : Hid (tiErr l.length x = 8) := by unfold Hid tiErr; rw [if_pos c1]
                  have Hc := Lib.hid (Hk.out (by rw [Hc6.out]; decide))
                  go_wp2
                  all_goals (go_ret; exact ⟨by rw [Hc.out, Hc6.out]; rfl, (hb.alloc hb0 _)⟩)
                · have q1 : -1 ≤ x.a := by omega
                  have q2 : x.a < (l.length : Int) := by omega
                  have q3 : 0 ≤ x.b := by omega
                  have q4 : x.b < (l.length : Int) := by omega
                  by_cases c2 : x.a = x.b
                  · have Hc6 : Hid (tiErr l.length x = 16) := by unfold Hid tiErr; rw [if_neg c1, if_pos c2]
                    have Hc := Lib.hid (Hk.out (by rw [Hc6.out]; decide))
                    have b2 : (x.a == x.b) = true := by simpa using c2
                    clear c1 c2
                    go_wp2
                    all_goals (go_ret; exact ⟨by rw [Hc.out, Hc6.out]; rfl, (hb.alloc hb0 _)⟩)
                  · have b2 : (x.a == x.b) = false := by simpa using c2
                    by_cases c3 : x.high < x.low ∨ x.low < -4294967295 ∨ 4294967295 < x.high
                    · have Hc6 : Hid (tiErr l.length x = 4) := by unfold Hid tiErr; rw [if_neg c1, if_neg c2, if_pos c3]
                      have Hc := Lib.hid (Hk.out (by rw [Hc6.out]; decide))
                      clear c1 c2
                      go_wp2
                      all_goals (go_ret; exact ⟨by rw [Hc.out, Hc6.out]; rfl, (hb.alloc hb0 _)⟩)
                    · have Hc6 : Hid (tiErr l.length x = 0) := by unfold Hid tiErr; rw [if_neg c1, if_neg c2, if_neg c3]
                      have Hc := Lib.hid (Hnext.out Hc6.out)
                      have q5 : x.low ≤ x.high := by omega
                      have q6 : -4294967295 ≤ x.low := by omega
                      have q7 : x.high ≤ 4294967295 := by omega
                      clear c1 c2 c3
                      go_wp2
                      refine ⟨⟨k + 1, by omega, by go_num, hb.alloc hb0 _, Hc.out⟩, by simp [intOf]; omega⟩
              · obtain rfl : ties.length = k := by omega
                have Hc := Lib.hid (Hl2.out hz.out)
                clear hz
                go_wp2
                go_ret
                exact ⟨by rw [Hc.out]; rfl, hb⟩
end Go.Proofs.YthcbchgdfldckaaGreatDoor
