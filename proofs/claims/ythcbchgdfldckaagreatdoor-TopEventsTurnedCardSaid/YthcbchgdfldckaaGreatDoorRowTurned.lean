/- It is proved that wracktop.TopEventsTurned returns true for every input and leaves its arguments as they were, the listed package-level variables being as the program's text lays them. -/
import Derived.Test.YthcbchgdfldckaaGreatDoorCards
import Derived.Test.YthcbchgdfldckaaGreatDoorTy
import Derived.Test.YthcbchgdfldckaaGreatDoorLaid
import Derived.Test.YthcbchgdfldckaaGreatDoorRevW
import Derived.SevenTiedAt
import Derived.Test.YthcbchgdfldckaaGreatDoorJoinEventsTurned
import Derived.Test.YthcbchgdfldckaaGreatDoorCardP
import Derived.JoinedOf
namespace Go.Proofs.YthcbchgdfldckaaGreatDoor
open Go.ChangeShapes Go.WideShapes Go.ChangeAt Go.RowKit

set_option maxRecDepth 100000 in
theorem turned_lifted (os : Os) (started : os.Started) (H : Type) (enc : TypeId × Value → H) :
    ReturnsInHanded {} Tryz.checked os 5 .any (fun w args => (Rows.topEventsTurnedSpec.pre enc Tryz.prog Tryz.f5 Rows.topEventsTurnedRow.domain false w args ∧ laidMetH Tryz.prog Rows.topTiesMoreRow.laid w) ∧ sizedMet enc Tryz.prog Tryz.f5 (OpenSpec.ofChange Rows.topEventsTurnedSpec) false w args)
      (Rows.topEventsTurnedSpec.post enc Tryz.prog Tryz.f5 false true false false) := by
  refine returns_shaped_and (C := Tryz.checked) (X := fun w _ => laidMetH Tryz.prog Rows.topTiesMoreRow.laid w) (fun _ _ _ hh h => h.of_heap hh) own started (by kernel_rfl) Tryz.func5
    (ChangeSpec.witness_shaped (enc := enc) (C := Tryz.checked) (os := os) (X := fun w _ => laidMetH Tryz.prog Rows.topTiesMoreRow.laid w) false (World.laidAll Tryz.prog os Rows.topTiesMoreRow.laid) #[.slice none 0 0, .slice none 0 0, .int .i64 0, .int .i64 0, .int .i64 0] 8 (World.laidAll_os _ _ _)
      (World.shaped_of_ZipB (by kernel_rfl) (by kernel_rfl)) (by kernel_rfl) (by kernel_rfl) (by kernel_rfl)
      (by rw [MakeChecks.laidMetH_plain _ _ _ (by kernel_rfl)]; exact laidMet_laidAll _ (by kernel_rfl) (by kernel_rfl))) ?_
  intro W base args ds gs before hval0 hW hreach hL hsh
  have hval : ∀ (j : Nat) t v, Tryz.f5.params[j]? = some t → args[j]? = some v → Value.okWide Tryz.prog W .any base t v := hval0
  have hW' := hW
  obtain ⟨p, q, hA0, hV, rfl, hfz, hnd⟩ := hW
  have hA : DataW.TrodAll enc Tryz.prog W 0 (fun _ => true) true Tryz.f5.params.toList args.toList ds p := hA0
  rw [Tryz.params5] at hA hval
  obtain ⟨v0, vs0, d0, ds0, p0, q0, hargs, rfl, rfl, h0, r0⟩ := trodAll_cons hA
  obtain ⟨v1, vs1, d1, ds1, p1, q1, rfl, rfl, rfl, h1, r1⟩ := trodAll_cons r0
  obtain ⟨v2, vs2, d2, ds2, p2, q2, rfl, rfl, rfl, h2, r2⟩ := trodAll_cons r1
  obtain ⟨v3, vs3, d3, ds3, p3, q3, rfl, rfl, rfl, h3, r3⟩ := trodAll_cons r2
  obtain ⟨v4, vs4, d4, ds4, p4, q4, rfl, rfl, rfl, h4, r4⟩ := trodAll_cons r3
  obtain ⟨rfl, rfl, rfl⟩ := trodAll_nil r4
  obtain rfl : args = #[v0, v1, v2, v3, v4] := by cases args; simp_all
  obtain ⟨rfl, rfl⟩ := trodVars_none hV
  obtain ⟨n2, rfl, rfl, rfl, w2⟩ := open_int Tryz.underlying3 (hval 2 3 v2 rfl rfl) h2
  obtain ⟨n3, rfl, rfl, rfl, w3⟩ := open_int Tryz.underlying3 (hval 3 3 v3 rfl rfl) h3
  obtain ⟨n4, rfl, rfl, rfl, w4⟩ := open_int Tryz.underlying3 (hval 4 3 v4 rfl rfl) h4
  have hreach' : (DataW.weightsEach Tryz.prog [22, 23, 3, 3, 3] [d0, d1, .lit (.int .i64 n2), .lit (.int .i64 n3), .lit (.int .i64 n4)]).all (· ≤ reachBytes) = true := by
    have e : (Tryz.f5.params.toList ++ Rows.topEventsTurnedSpec.plain.varTypes Tryz.prog) = [22, 23, 3, 3, 3] := by rw [Tryz.params5]; rfl
    have := hreach
    rw [show (Tryz.checked).prog = Tryz.prog from rfl, e] at this
    simpa using this
  have hr0 : ∀ n ∈ d0.weights Tryz.prog 22, n ≤ reachBytes := fun n hn => by
    have := List.all_eq_true.1 hreach' n (DataW.weights_mem_each (j := 0) rfl rfl n hn)
    simpa using this
  have hr1 : ∀ n ∈ d1.weights Tryz.prog 23, n ≤ reachBytes := fun n hn => by
    have := List.all_eq_true.1 hreach' n (DataW.weights_mem_each (j := 1) rfl rfl n hn)
    simpa using this
  obtain ⟨A, ca, l, rfl, hE, hcap, hok, hle, _⟩ := open_evs (hval 0 22 v0 rfl rfl) h0 hr0
  obtain ⟨B, cb, ties, rfl, hT, _, hlt2, _⟩ := open_tis (hval 1 23 v1 rfl rfl) h1 hr1
  obtain ⟨m, hm⟩ := max_cell hsh
  have hz := tab_cell hL
  have hlt : ∀ x ∈ p0 ++ (p1 ++ []), x.block < W.heap.size := fun x hx => hW'.lt x (by simpa using hx)
  clear hA0 hval0
  simp only [List.append_nil] at hW'
  refine (eventsTurned_any A B ca cb l ties n2 n3 n4 m W hE hT hcap hok hm hz (bounds_i64 w2) (bounds_i64 w3) (bounds_i64 w4) hle hlt2).mono fun e W' ⟨he, hb⟩ => ?_
  subst he
  refine ⟨_, rfl, post_of_below (pa := p0 ++ p1) (pv := []) hW' (fun _ _ _ => trodAll_mk1 (shut_bool Tryz.underlying4 _)) (fun sp hsp => ?_) (fun _ _ => rfl) (by simp) hb (ok_one (by kernel_rfl) rfl (okWide_bool_mk Tryz.underlying4 _))⟩
  have s0 := WideElems.Trod_stays (sp' := sp) laidOut (by kernel_rfl) (of_decide_eq_true (by kernel_rfl)) h0 (fun x hx => hb.same (hlt x (by simp [hx]))) (fun x hx => hsp x (by simp [hx]))
  have s1 := WideElems.Trod_stays (sp' := sp) laidOut (by kernel_rfl) (of_decide_eq_true (by kernel_rfl)) h1 (fun x hx => hb.same (hlt x (by simp [hx]))) (fun x hx => hsp x (by simp [hx]))
  have := trodAll_cons_mk s0 (trodAll_cons_mk s1 (trodAll_cons_mk (shut_int Tryz.underlying3 w2) (trodAll_cons_mk (shut_int Tryz.underlying3 w3) (trodAll_cons_mk (shut_int Tryz.underlying3 w4) trodAll_mk0))))
  rw [Tryz.params5]
  simp only [List.append_nil] at this
  exact this
end Go.Proofs.YthcbchgdfldckaaGreatDoor

/- wracktop.TopEventsTurned returns true for every input and leaves its arguments as they were: the row and its tied card. -/
namespace Go.Proofs.YthcbchgdfldckaaGreatDoor
open Go.ChangeShapes Go.WideShapes Go.ChangeAt Go.RowKit

theorem topEventsTurned_wf : Rows.topEventsTurnedRow.wfByText (OpenSpec.ofChange Rows.topEventsTurnedSpec) = true := by kernel_rfl
theorem topEventsTurned_at : Tryz.prog.funcNamed "wrackline/wracktop.TopEventsTurned" = some 5 := by kernel_rfl
theorem topEventsTurned_goes : false = Rows.topEventsTurnedRow.goesBy Tryz.pinned.checked.prog := by
  show false = (Tryz.prog.goesFrom "wrackline/wracktop.TopEventsTurned" || false)
  rw [Bool.or_false]
  exact goes_from _
theorem topEventsTurned_inst : Tryz.f5.isInstance Tryz.pinned.checked.prog Rows.topEventsTurnedRow.origin Rows.topEventsTurnedRow.targs := of_decide_eq_true (by kernel_rfl)
theorem topEventsTurned_wrap : Tryz.f5.isWrapper Tryz.pinned.checked.prog Rows.topEventsTurnedRow.wrapper Rows.topEventsTurnedRow.mainSum := by
  unfold Func.isWrapper; first | (rw [if_pos (by decide +kernel)]; kernel_rfl) | (rw [if_neg (by decide +kernel)]; exact ⟨rfl, rfl⟩)
theorem topEventsTurned_holds : Rows.TopEventsTurnedSaid :=
  OpenClaim.holds_of_wide 5 Tryz.f5 rfl rfl rfl rfl rfl rfl rfl ⟨rfl, rfl, rfl, rfl, rfl⟩ rfl rfl rfl rfl rfl topEventsTurned_at Tryz.func5 topEventsTurned_joined topEventsTurned_inst topEventsTurned_wrap
    (fun os started H enc _ => turned_lifted os started H enc)
theorem topEventsTurned_card : Rows.TopEventsTurnedCardSaid :=
  Claim7.holds_tied_plain_at .later [] [.sentinel, .sentinel, .data, .data, .data, .pinned, .data] true (true, "17edc6c4c9b04487fceff9f615abff38739102ea19582065e41d28606b57a7ff") true topEventsTurned_holds (fun _ h => by cases h) topEventsTurned_wf (fun _ h => by cases h) topEventsTurned_row_tieOwn rfl ⟨rfl, rfl⟩ card_main rfl
    (fun f fn hf hfn => by
      obtain rfl : f = 5 := Option.some.inj (topEventsTurned_at.symm.trans hf) |>.symm
      obtain rfl : fn = Tryz.f5 := (Option.some.inj (Tryz.func5.symm.trans hfn)).symm
      exact ⟨card_looks, fun j t ht => by
        rw [Tryz.params5] at ht
        have hm : t ∈ [22, 23, 3, 3, 3] := by simpa using Array.mem_of_getElem? ht
        exact card_stands t (by simp only [List.mem_cons, List.mem_nil_iff, or_false] at hm; rcases hm with rfl | rfl | rfl | rfl | rfl <;> simp)⟩)
    topEventsTurned_goes
#print axioms topEventsTurned_holds
#print axioms topEventsTurned_card
end Go.Proofs.YthcbchgdfldckaaGreatDoor
