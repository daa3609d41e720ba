/- The walk of slices.Index over strings. -/
import Derived.Test.YthcbchgdfldckaaGreatDoorClocks
import Derived.Test.YthcbchgdfldckaaGreatDoorFault
import Derived.Test.YthcbchgdfldckaaGreatDoorG3
import Derived.Test.YthcbchgdfldckaaGreatDoorSolved
import Derived.Test.YthcbchgdfldckaaGreatDoorTurn
import Derived.Test.YthcbchgdfldckaaGreatDoorPairEq
import Derived.Test.YthcbchgdfldckaaGreatDoorRowFlat
import Derived.Test.YthcbchgdfldckaaGreatDoorFinds
import Derived.Deep.DeepCutAuto
import Derived.Deep.CutBlock
namespace Go.Proofs.YthcbchgdfldckaaGreatDoor
open Go.RowKit
def NamesAt (w : World) (A : Option Addr) (N : List Nm) : Prop := 0 < N.length → ∃ b, A = some ⟨b, 0, none⟩ ∧ ∀ i, i < N.length → w.cell? ⟨b, i, none⟩ = some (.string ⟨(N.getD i []).toArray⟩)
theorem NamesAt.kept {w w' : World} {A : Option Addr} {N : List Nm} (h : NamesAt w A N) (k : Kept w w') : NamesAt w' A N := fun h0 => by
  obtain ⟨b, e, hc⟩ := h h0
  exact ⟨b, e, fun i hi => k _ _ (hc i hi)⟩
theorem names_own {w : World} {base : Nat} {v : Value} {N : List Nm} (h : w.ownsRow base 9 1 v N.length (N.map encStr)) : ∃ A c, v = .slice A N.length c ∧ NamesAt w A N := by
  rcases h.2 with ⟨rfl, h0⟩ | ⟨g, c, cur, rfl, _⟩
  · have hl : N.length = 0 := h0
    exact ⟨none, 0, by rw [hl], fun h => by omega⟩
  · refine ⟨_, c, rfl, fun h0 => ⟨g, rfl, fun i hi => ?_⟩⟩
    refine (h.cellAt i (by omega)).trans ?_
    rw [List.getElem?_map, List.getElem?_eq_getElem hi]
    simp [List.getD_eq_getElem?_getD, List.getElem?_eq_getElem hi, encStr]
set_option maxHeartbeats 1000000 in
set_option maxRecDepth 100000 in
theorem index_str (b c : Nat) (N : List Nm) (s : ByteArray) (p : Nat) (w : World) (hc : ∀ j, j < N.length → w.cell? ⟨b, j, none⟩ = some (.string ⟨(N.getD j []).toArray⟩))
    (hl : N.length ≤ 1000) (hp : p < N.length) (h1 : N.getD p [] = s.data.toList) (h2 : ∀ j, j < p → N.getD j [] ≠ s.data.toList) :
    Calls Tryz.prog 15 #[.slice (some ⟨b, 0, none⟩) N.length c, .string s] w fun e w' => e = .returned (.int .i64 p) ∧ Below w.heap.size w w' := by
  have Hc := Lib.hid hc
  have H1 := Lib.hid h1
  have H2 := Lib.hid h2
  clear hc h1 h2
  go_enter Tryz.func15, Tryz.ntmps15
  go_wp2
  go_loopw [8] (fun s8 wr => ∃ i : Nat, i ≤ p ∧ s8 = .int .i64 i ∧ Below w.heap.size w wr) (fun s8 _ => N.length - (intOf s8).toNat)
  case atStart => exact ⟨0, by omega, rfl, Below.refl _ _⟩
  case round =>
    obtain ⟨i, hi, rfl, hb⟩ := hrel
    have x1 := kept_below hb _ _ (Hc.out i (by omega))
    have hin : (i : Int) < (N.length : Int) := by omega
    by_cases hip : i = p
    · subst hip
      have e : (⟨(N.getD i []).toArray⟩ : ByteArray) = s := by rw [H1.out]
      rw [e] at x1
      have hs : (s.toList == s.toList) = true := by simp
      go_wp2
      go_ret
      exact ⟨rfl, hb⟩
    · have hne : (s.toList == (⟨(N.getD i []).toArray⟩ : ByteArray).toList) = false := by
        rw [beq_eq_false_iff_ne]
        intro e
        refine H2.out i (by omega) ?_
        rw [ByteArray.toList_eq, ByteArray.toList_eq] at e
        exact e.symm
      generalize (⟨(N.getD i []).toArray⟩ : ByteArray) = x at *
      go_wp2
      refine ⟨⟨i + 1, by omega, by go_num, hb⟩, by simp [intOf]; omega⟩
end Go.Proofs.YthcbchgdfldckaaGreatDoor

/- The walk of TopClocksNamed. -/
namespace Go.Proofs.YthcbchgdfldckaaGreatDoor
open Go.RowKit ClkM

theorem Tryz.info38 : (Tryz.prog.info? 38).map (fun i => (i.zero, i.size, i.bytes)) = some (some (.agg #[.string ByteArray.empty, .int .i64 0, .int .i64 0]), 3, 32) := by kernel_rfl
theorem own_evs {w : World} {base : Nat} {v : Value} {l : List Ev} (h : w.ownsRow base 38 3 v l.length (flatN l.length fun i => (l.getD i dEv).cells)) : ∃ A c, v = .slice A l.length c ∧ EvsAt w A l ∧ l.length ≤ c := by
  obtain ⟨A, c, (⟨e1, e2, e3⟩ | ⟨e1, e2⟩)⟩ := row_own (fun i => Ev.cells_length l i) h
  · exact ⟨A, c, e1, e2, e3⟩
  · exact ⟨none, 0, by rw [e2, e1], fun h0 => absurd h0 (by omega), by omega⟩
theorem right_size {l : List Ev} {ties : List Ti} (h : Right l ties) {i : Nat} (hi : i < l.length) : (l.getD i dEv).clock.size ≤ 12 := by
  have h1 := (h.2.2.1 _ (getD_mem (d := dEv) hi)).1
  rcases Nat.lt_or_ge 12 (l.getD i dEv).clock.size with h2 | h2
  · have := isName_long (s := (l.getD i dEv).clock) (by omega)
    rw [show (l.getD i dEv).clock.data.toList = (l.getD i dEv).nm from rfl, h1] at this
    cases this
  · exact h2
theorem right_name {l : List Ev} {ties : List Ti} (h : Right l ties) {i : Nat} (hi : i < (names l).length) : (⟨((names l).getD i []).toArray⟩ : ByteArray).size ≤ 12 := by
  have hm := getD_mem (d := ([] : Nm)) hi
  rw [names_mem] at hm
  obtain ⟨e, he, hn⟩ := hm
  have h1 := (h.2.2.1 _ he).1
  rcases Nat.lt_or_ge 12 (⟨((names l).getD i []).toArray⟩ : ByteArray).size with h2 | h2
  · have := isName_long (s := (⟨((names l).getD i []).toArray⟩ : ByteArray)) (by omega)
    have e3 : (⟨((names l).getD i []).toArray⟩ : ByteArray).data.toList = e.nm := hn.symm
    rw [e3, h1] at this
    cases this
  · exact h2
theorem slidPos_at {k : Nat} (hk : k < 26) {l : List Ev} {i : Nat} (hi : i < (names l).length) :
    (names (slid k l)).getD (slidPos k l i) [] = (slideBA k ⟨((names l).getD i []).toArray⟩).data.toList ∧ ∀ j, j < slidPos k l i → (names (slid k l)).getD j [] ≠ (slideBA k ⟨((names l).getD i []).toArray⟩).data.toList := by
  rw [slideBA_list]
  have e : (⟨((names l).getD i []).toArray⟩ : ByteArray).data.toList = (names l).getD i [] := rfl
  rw [e]
  refine ⟨?_, fun j hj h => ?_⟩
  · rw [List.getD_eq_getElem?_getD, slidPos_get hk hi]; rfl
  · have hp := slidPos_lt hk hi
    have hj' : j < (names (slid k l)).length := by omega
    have := List.not_of_lt_findIdx (xs := names (slid k l)) (p := (· == slide k ((names l).getD i []))) hj
    rw [List.getD_eq_getElem?_getD, List.getElem?_eq_getElem hj'] at h
    simp only [Option.getD_some] at h
    simp [h] at this
theorem slid_ok {k : Nat} {l : List Ev} (h : EvOk l) : EvOk (slid k l) := fun i hi => by
  rw [slid_length] at hi
  rw [slid_get hi]
  show (slideBA k _).size ≤ _
  rw [slideBA_size]
  exact h i hi
theorem out_len' {l : List Ev} {ties : List Ti} {fs : List Q} {e : Int} {L : List (Int × Int)} (h : Out l ties fs e L) : L.length ≤ fs.length := by
  rcases h with ⟨_, _, rfl⟩ | ⟨_, ⟨_, rfl, _⟩ | ⟨_, _, h, _⟩⟩
  · simp
  · simp
  · omega
set_option maxHeartbeats 8000000 in
set_option maxRecDepth 100000 in
theorem clocksNamed_any (A B : Option Addr) (ca cb : Nat) (l : List Ev) (ties : List Ti) (n m : Int) (w : World) (h : EvsAt w A l) (h2 : TisAt w B ties) (hcap : l.length ≤ ca) (hok : EvOk l)
    (hm : w.cell? ⟨0, 0, none⟩ = some (.int .i64 m)) (hz : w.cell? ⟨3, 15, none⟩ = some (.int .u8 4))
    (hn : -9223372036854775808 ≤ n ∧ n ≤ 9223372036854775807) :
    Calls Tryz.prog 4 #[.slice A l.length ca, .slice B ties.length cb, .int .i64 n] w fun e w' => e = .returned (.bool true) ∧ Below w.heap.size w w' := by
  have Hh := Lib.hid h
  have Hh2 := Lib.hid h2
  have Hm := Lib.hid hm
  have Hz := Lib.hid hz
  have Hok := Lib.hid hok
  clear h h2 hm hz hok
  go_enter Tryz.func4, Tryz.ntmps4
  go_wp2_with fail
  refine (g3_any m w Hm.out Hz.out).mono ?_
  rintro e w1 ⟨rfl, hb1⟩
  go_wp2_with fail
  refine (clockFault_any A B ca cb l ties w1 (Hh.out.kept (kept_below hb1)) (Hh2.out.kept (kept_below hb1)) hcap Hok.out).mono ?_
  rintro e w2 ⟨E, rfl, hb2, hR⟩
  have hb02 := below_then hb1 hb1.size hb2
  have Hb02 := Lib.hid hb02
  have HR := Lib.hid hR
  clear hb1 hb2 hb02 hR
  by_cases hE : E = 0
  · subst hE
    have Hright := Lib.hid (HR.out rfl)
    have hl40 := Hright.out.1
    go_wp2_with fail
    have hk : (n % 26).toNat < 26 := by
      have hk0 := Int.emod_nonneg n (by omega : (26 : Int) ≠ 0)
      have hk1 := Int.emod_lt_of_pos n (by omega : (0 : Int) < 26)
      omega
    have Hslide := Lib.hid (fun s W hs => slide_any s n W hs hn)
    generalize (n % 26).toNat = K at *
    go_loopw [7, 33] (fun s7 s33 wr => ∃ k : Nat, k ≤ l.length ∧ s33 = .int .i64 k ∧ wr.ownsRow w2.heap.size 38 3 s7 k (flatN k fun i => ((slid K l).getD i dEv).cells) ∧ Below w2.heap.size w2 wr) (fun _ s33 _ => l.length - (intOf s33).toNat)
    case atStart => exact ⟨0, Nat.zero_le _, rfl, World.ownsRow_nil _ _ _ _, Below.refl _ _⟩
    case round =>
      obtain ⟨k, hkl, rfl, hown, hb⟩ := hrel
      by_cases hlt : k < l.length
      · have hb0 : Below w.heap.size w wr := below_then Hb02.out Hb02.out.size hb
        obtain ⟨b, o, rfl, p1, p2, p3⟩ := EvsAt.cell (Hh.out.kept (kept_below hb0)) hlt
        have hsz := right_size Hright.out hlt
        have HF := Lib.hid (show flatN (k + 1) (fun i => ((slid K l).getD i dEv).cells) = flatN k (fun i => ((slid K l).getD i dEv).cells) ++ [.string (slideBA K (l.getD k dEv).clock), .int .i64 (l.getD k dEv).shown, .int .i64 (l.getD k dEv).wide] by rw [flatN_succ, slid_get hlt]; rfl)
        have hs := hb.size
        obtain ⟨A7, c7, rfl⟩ := own_slice hown
        generalize l.getD k dEv = x at *
        have hkl40 : (k : Int) < (l.length : Int) := by omega
        have Hown := Lib.hid hown
        have Hb := Lib.hid hb
        clear hown hb hb0
        go_wp2_with fail
        obtain ⟨q1, q2, q3, q4⟩ := new_facts wr #[Value.string x.clock, .int .i64 x.shown, .int .i64 x.wide] 38
        generalize wr.alloc (.cells #[Value.string x.clock, .int .i64 x.shown, .int .i64 x.wide] 38) = W at *
        refine (Hslide.out x.clock W (by omega)).mono ?_
        rintro e w3 ⟨rfl, hb3⟩
        have r0 : w3.cell? ⟨wr.heap.size, 0, none⟩ = some (.string x.clock) := kept_below hb3 _ _ (q1 0 _ rfl)
        have r1 : w3.cell? ⟨wr.heap.size, 1, none⟩ = some (.int .i64 x.shown) := kept_below hb3 _ _ (q1 1 _ rfl)
        have r2 : w3.cell? ⟨wr.heap.size, 2, none⟩ = some (.int .i64 x.wide) := kept_below hb3 _ _ (q1 2 _ rfl)
        have rf : w3.frozen? ⟨wr.heap.size, 0, none⟩ = false := (hb3.frozen (p := ⟨wr.heap.size, 0, none⟩) (show wr.heap.size < W.heap.size by omega)).trans (q2 0)
        have hw3 : Below wr.heap.size wr w3 := below_then q4 (by omega) hb3
        have hs3 := hw3.size
        have hs33 := hb3.size
        have hset : Below wr.heap.size wr (w3.setCell ⟨wr.heap.size, 0, none⟩ (.string (slideBA K x.clock))) := hw3.setCell (by show wr.heap.size ≤ wr.heap.size; omega) _
        have hown3 := own_below Hown.out hset
        have hb3' := below_then Hb.out hs hset
        have hsz3 : (w3.setCell ⟨wr.heap.size, 0, none⟩ (.string (slideBA K x.clock))).heap.size = w3.heap.size := by simp
        clear q1 q2 q4 p1 p2 p3
        go_wp2_with (at_builtin; refine wpl_push _ rfl (.tmp 42) (.tmp 44) 22 rfl w2.heap.size 38 _ 3 32 Tryz.underlying22 Tryz.info38 rfl (by decide) (.slice A7 k c7) k _ rfl (hown3.alloc _) ⟨w3.heap.size, 0, none⟩ 1 1 [.string (slideBA K x.clock), .int .i64 x.shown, .int .i64 x.wide] rfl rfl (news_at (cs := #[.string (slideBA K x.clock), .int .i64 x.shown, .int .i64 x.wide]) (by simp)) (by intro u hu; simp at hu; rcases hu with rfl | rfl | rfl <;> rfl) (by decide) (by omega) (by decide) (by simp; omega) ?_; intro g cp w4 hown4 hg4 hat4 hlt4)
        refine ⟨⟨k + 1, by omega, by go_num, ?_, below_push (hb3'.alloc (by simp; omega) _) hg4 (by simp; omega) (own_base Hown.out)⟩, by simp [intOf]; omega⟩
        rw [HF.out]
        exact hown4
      · obtain rfl : l.length = k := by omega
        have hown' : wr.ownsRow w2.heap.size 38 3 u7 (slid K l).length (flatN (slid K l).length fun i => ((slid K l).getD i dEv).cells) := by rw [slid_length]; exact hown
        obtain ⟨A7, c7, rfl, hE7, hc7⟩ := own_evs hown'
        rw [slid_length] at hc7 ⊢
        have Hb3 := Lib.hid (below_then Hb02.out Hb02.out.size hb)
        have HE3 := Lib.hid hE7
        have Hok7 := Lib.hid (slid_ok (k := K) Hok.out)
        clear hown hown' hb hE7
        go_wp2_with fail
        refine (solve_any A B ca cb l ties wr (Hh.out.kept (kept_below Hb3.out)) (Hh2.out.kept (kept_below Hb3.out)) hcap Hok.out).mono ?_
        rintro e w4 ⟨v4, F1, L1, rfl, ho1, hp1, hb4⟩
        obtain ⟨A1, d1, rfl, hP1⟩ := pairs_own hp1
        have Hb4 := Lib.hid (below_then Hb3.out Hb3.out.size hb4)
        have HE4 := Lib.hid (HE3.out.kept (kept_below hb4))
        have HP1 := Lib.hid hP1
        have Ho1 := Lib.hid ho1
        clear hb4 hp1 hP1 ho1
        go_wp2_with fail
        have hs5 := solve_any A7 B c7 cb (slid K l) ties w4 HE4.out (Hh2.out.kept (kept_below Hb4.out)) (by rw [slid_length]; exact hc7) Hok7.out
        rw [slid_length] at hs5
        refine hs5.mono ?_
        rintro e w5 ⟨v5, F2, L2, rfl, ho2, hp2, hb5⟩
        obtain ⟨A2, d2, rfl, hP2⟩ := pairs_own hp2
        obtain ⟨rfl, rfl⟩ := slid_solve hk Hright.out Ho1.out ho2
        have Hb5 := Lib.hid (below_then Hb4.out Hb4.out.size hb5)
        have HE5 := Lib.hid (HE4.out.kept (kept_below hb5))
        have HP15 := Lib.hid (HP1.out.kept (kept_below hb5))
        have HP2 := Lib.hid hP2
        clear hs5 hb5 hp2 hP2 ho2
        go_wp2_with fail
        refine (errors_any A B ca cb l ties w5 (Hh.out.kept (kept_below Hb5.out)) (Hh2.out.kept (kept_below Hb5.out)) hcap Hok.out).mono ?_
        rintro e w6 ⟨v6, F3, L3, rfl, ho3, hp3, hb6⟩
        obtain ⟨A3, d3, rfl, hP3⟩ := pairs_own hp3
        have Hb6 := Lib.hid (below_then Hb5.out Hb5.out.size hb6)
        have HE6 := Lib.hid (HE5.out.kept (kept_below hb6))
        have HP16 := Lib.hid (HP15.out.kept (kept_below hb6))
        have HP26 := Lib.hid (HP2.out.kept (kept_below hb6))
        have HP3 := Lib.hid hP3
        have Ho3 := Lib.hid ho3
        clear hb6 hp3 hP3 ho3
        go_wp2_with fail
        have hs7 := errors_any A7 B c7 cb (slid K l) ties w6 HE6.out (Hh2.out.kept (kept_below Hb6.out)) (by rw [slid_length]; exact hc7) Hok7.out
        rw [slid_length] at hs7
        refine hs7.mono ?_
        rintro e w7 ⟨v7, F4, L4, rfl, ho4, hp4, hb7⟩
        obtain ⟨A4, d4, rfl, hP4⟩ := pairs_own hp4
        obtain ⟨rfl, hL34, hL3n, hLs⟩ := slid_errs hk Hright.out Ho3.out ho4
        have Hb7 := Lib.hid (below_then Hb6.out Hb6.out.size hb7)
        have HE7 := Lib.hid (HE6.out.kept (kept_below hb7))
        have HP17 := Lib.hid (HP16.out.kept (kept_below hb7))
        have HP27 := Lib.hid (HP26.out.kept (kept_below hb7))
        have HP37 := Lib.hid (HP3.out.kept (kept_below hb7))
        have HP4 := Lib.hid hP4
        have HLs := Lib.hid hLs
        clear hs7 hb7 hp4 hP4 ho4 hLs
        have hNl := names_length l
        have HNs := Lib.hid (slid_count hk l)
        have HL34 := Lib.hid hL34
        clear hL34
        go_wp2_with fail
        refine (clocks_any A ca l w7 (Hh.out.kept (kept_below Hb7.out)) (by omega) hcap).mono ?_
        rintro e w8 ⟨v8, rfl, hn8, hb8⟩
        obtain ⟨A8, d8, rfl, hN8⟩ := names_own hn8
        have Hb8 := Lib.hid (below_then Hb7.out Hb7.out.size hb8)
        have HE8 := Lib.hid (HE7.out.kept (kept_below hb8))
        have HP18 := Lib.hid (HP17.out.kept (kept_below hb8))
        have HP28 := Lib.hid (HP27.out.kept (kept_below hb8))
        have HP38 := Lib.hid (HP37.out.kept (kept_below hb8))
        have HP48 := Lib.hid (HP4.out.kept (kept_below hb8))
        have HN8 := Lib.hid hN8
        clear hb8 hn8 hN8
        go_wp2_with fail
        have hs9 := clocks_any A7 c7 (slid K l) w8 HE8.out (by rw [slid_length]; omega) (by rw [slid_length]; exact hc7)
        rw [slid_length] at hs9
        refine hs9.mono ?_
        rintro e w9 ⟨v9, rfl, hn9, hb9⟩
        obtain ⟨A9, d9, rfl, hN9⟩ := names_own hn9
        have Hb9 := Lib.hid (below_then Hb8.out Hb8.out.size hb9)
        have HP19 := Lib.hid (HP18.out.kept (kept_below hb9))
        have HP29 := Lib.hid (HP28.out.kept (kept_below hb9))
        have HP39 := Lib.hid (HP38.out.kept (kept_below hb9))
        have HP49 := Lib.hid (HP48.out.kept (kept_below hb9))
        have HN89 := Lib.hid (HN8.out.kept (kept_below hb9))
        have HN9 := Lib.hid hN9
        clear hs9 hb9 hn9 hN9
        have hL1 : L1.length ≤ 1000 := by have := out_len' Ho1.out; simp [times] at this; omega
        have hNe : (((names l).length : Int) != ((names (slid K l)).length : Int)) = false := by have := HNs.out; simp; omega
        have hLe : ((L3.length : Int) != (L4.length : Int)) = false := by have := HL34.out; simp; omega
        go_wp2_with fail
        refine (equal_pairs A1 A2 d1 d2 L1 w9 HP19.out HP29.out hL1).mono ?_
        rintro e w10 ⟨rfl, hb10⟩
        have Hb10 := Lib.hid (below_then Hb9.out Hb9.out.size hb10)
        have HX3 := Lib.hid (HP39.out.kept (kept_below hb10))
        have HX4 := Lib.hid (HP49.out.kept (kept_below hb10))
        have HX8 := Lib.hid (HN89.out.kept (kept_below hb10))
        have HX9 := Lib.hid (HN9.out.kept (kept_below hb10))
        clear hb10 HP19 HP29 HP39 HP49 HN89 HN9 HP18 HP28 HP38 HP48 HN8 HP17 HP27 HP37 HP4 HP16 HP26 HP3 HP15 HP2 HP1 HE3 HE4 HE5 HE6 HE7 HE8
        go_wp2_with fail
        go_loopw [105] (fun s105 wr => ∃ i : Nat, i ≤ L3.length ∧ s105 = .int .i64 i ∧ Below w10.heap.size w10 wr) (fun s105 _ => L3.length - (intOf s105).toNat)
        case atStart => exact ⟨0, Nat.zero_le _, rfl, Below.refl _ _⟩
        case round =>
          obtain ⟨i, hi, rfl, hb⟩ := hrel
          clear hNe hLe
          have Hb := Lib.hid (below_then Hb10.out Hb10.out.size hb)
          by_cases hlt : i < L3.length
          · have hin : i < (names l).length := by omega
            have hNs := HNs.out
            have hL34 := HL34.out
            have hp := slidPos_lt hk hin
            obtain ⟨hat, hbf⟩ := slidPos_at hk hin
            have hnm := right_name Hright.out hin
            obtain ⟨heq, hp4⟩ := HLs.out i hlt
            obtain ⟨b8, rfl, h8⟩ := HX8.out (by omega)
            obtain ⟨b9, rfl, h9⟩ := HX9.out (by omega)
            obtain ⟨b3, rfl, h3⟩ := HX3.out (by omega)
            obtain ⟨b4, rfl, h4⟩ := HX4.out (by omega)
            have x8 := kept_below hb _ _ (h8 i hin)
            have H3a := Lib.hid (kept_below hb _ _ (h3 i hlt).1)
            have H3b := Lib.hid (kept_below hb _ _ (h3 i hlt).2)
            have h4a := kept_below hb _ _ (h4 _ hp4).1
            have h4b := kept_below hb _ _ (h4 _ hp4).2
            rw [← heq] at h4a h4b
            have H4a := Lib.hid h4a
            have H4b := Lib.hid h4b
            have H9 := Lib.hid (fun j hj => kept_below hb _ _ (h9 j hj))
            have hix := fun W => index_str b9 d9 (names (slid K l)) (slideBA K ⟨((names l).getD i []).toArray⟩) (slidPos K l i) W
            have Hix := Lib.hid (fun W hc => hix W hc (by omega) hp hat hbf)
            clear h4a h4b h8 h9 h3 h4 hix hat hbf heq hNs hL34
            generalize (⟨((names l).getD i []).toArray⟩ : ByteArray) = x at *
            generalize slidPos K l i = y at *
            generalize (L3.getD i (0, 0)).1 = u at *
            generalize (L3.getD i (0, 0)).2 = v at *
            have hi3 : (i : Int) < (L3.length : Int) := by omega
            have hi4 : (y : Int) < (L4.length : Int) := by omega
            have hi8 : (i : Int) < ((names l).length : Int) := by omega
            have hne := fun W => neq_pair W u v
            have Hbr := Lib.hid hb
            clear hb
            go_wp2_with fail
            refine (Hslide.out x wr (by omega)).mono ?_
            rintro e w11 ⟨rfl, hb11⟩
            have H9a := Lib.hid (Hix.out w11 (fun j hj => kept_below hb11 _ _ (H9.out j hj)))
            have Hb11 := Lib.hid (below_then Hbr.out Hbr.out.size hb11)
            have H3a1 := Lib.hid (kept_below hb11 _ _ H3a.out)
            have H3b1 := Lib.hid (kept_below hb11 _ _ H3b.out)
            have H4a1 := Lib.hid (kept_below hb11 _ _ H4a.out)
            have H4b1 := Lib.hid (kept_below hb11 _ _ H4b.out)
            clear hb11
            go_wp2_with fail
            refine H9a.out.mono ?_
            rintro e w12 ⟨rfl, hb12⟩
            have Hb12 := Lib.hid (below_then Hb11.out Hb11.out.size hb12)
            have x1 := kept_below hb12 _ _ H3a1.out
            have x2 := kept_below hb12 _ _ H3b1.out
            have y1 := kept_below hb12 _ _ H4a1.out
            have y2 := kept_below hb12 _ _ H4b1.out
            clear hb12 x8
            go_wp2_with fail
            go_quiet (fail)
            go_wp2_with fail
            exact ⟨⟨i + 1, by omega, by go_num, Hb12.out.trans ⟨rfl, rfl, rfl, Nat.le_refl _, fun _ _ => rfl⟩⟩, by simp [intOf]; omega⟩
          · obtain rfl : L3.length = i := by omega
            go_wp2
            go_ret
            exact ⟨rfl, Hb.out⟩
  · have hE' : (E != 0) = true := by simpa using hE
    have HE := Lib.hid hE
    clear hE
    go_wp2_with fail
    refine (g3_any m w2 (kept_below Hb02.out _ _ Hm.out) (kept_below Hb02.out _ _ Hz.out)).mono ?_
    rintro e w3 ⟨rfl, hb3⟩
    have Hbe := Lib.hid (below_then Hb02.out Hb02.out.size hb3)
    clear hb3
    go_wp2
    go_ret
    exact ⟨rfl, Hbe.out⟩
end Go.Proofs.YthcbchgdfldckaaGreatDoor
