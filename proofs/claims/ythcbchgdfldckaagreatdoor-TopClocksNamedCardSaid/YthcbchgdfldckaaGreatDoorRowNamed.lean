/- It is proved that wracktop.TopClocksNamed returns true for every input and leaves its arguments as they were, the listed package-level variables being as the program's text lays them. -/
import Derived.Test.YthcbchgdfldckaaGreatDoorCards
import Derived.Test.YthcbchgdfldckaaGreatDoorTy
import Derived.Test.YthcbchgdfldckaaGreatDoorLaid
import Derived.Test.YthcbchgdfldckaaGreatDoorIndexW
import Derived.SevenTiedAt
namespace Go.Proofs.YthcbchgdfldckaaGreatDoor
open Go.ChangeShapes Go.WideShapes Go.ChangeAt Go.RowKit

set_option maxRecDepth 100000 in
theorem named_lifted (os : Os) (started : os.Started) (H : Type) (enc : TypeId × Value → H) :
    ReturnsInHanded {} Tryz.checked os 4 .any (fun w args => (Rows.topClocksNamedSpec.pre enc Tryz.prog Tryz.f4 Rows.topClocksNamedRow.domain false w args ∧ laidMetH Tryz.prog Rows.topTiesMoreRow.laid w) ∧ sizedMet enc Tryz.prog Tryz.f4 (OpenSpec.ofChange Rows.topClocksNamedSpec) false w args)
      (Rows.topClocksNamedSpec.post enc Tryz.prog Tryz.f4 false true false false) := by
  refine returns_shaped_and (C := Tryz.checked) (X := fun w _ => laidMetH Tryz.prog Rows.topTiesMoreRow.laid w) (fun _ _ _ hh h => h.of_heap hh) own started (by kernel_rfl) Tryz.func4
    (ChangeSpec.witness_shaped (enc := enc) (C := Tryz.checked) (os := os) (X := fun w _ => laidMetH Tryz.prog Rows.topTiesMoreRow.laid w) false (World.laidAll Tryz.prog os Rows.topTiesMoreRow.laid) #[.slice none 0 0, .slice none 0 0, .int .i64 0] 8 (World.laidAll_os _ _ _)
      (World.shaped_of_ZipB (by kernel_rfl) (by kernel_rfl)) (by kernel_rfl) (by kernel_rfl) (by kernel_rfl)
      (by rw [MakeChecks.laidMetH_plain _ _ _ (by kernel_rfl)]; exact laidMet_laidAll _ (by kernel_rfl) (by kernel_rfl))) ?_
  intro W base args ds gs before hval0 hW hreach hL hsh
  have hval : ∀ (j : Nat) t v, Tryz.f4.params[j]? = some t → args[j]? = some v → Value.okWide Tryz.prog W .any base t v := hval0
  have hW' := hW
  obtain ⟨p, q, hA0, hV, rfl, hfz, hnd⟩ := hW
  have hA : DataW.TrodAll enc Tryz.prog W 0 (fun _ => true) true Tryz.f4.params.toList args.toList ds p := hA0
  rw [Tryz.params4] at hA hval
  obtain ⟨v0, vs0, d0, ds0, p0, q0, hargs, rfl, rfl, h0, r0⟩ := trodAll_cons hA
  obtain ⟨v1, vs1, d1, ds1, p1, q1, rfl, rfl, rfl, h1, r1⟩ := trodAll_cons r0
  obtain ⟨v2, vs2, d2, ds2, p2, q2, rfl, rfl, rfl, h2, r2⟩ := trodAll_cons r1
  obtain ⟨rfl, rfl, rfl⟩ := trodAll_nil r2
  obtain rfl : args = #[v0, v1, v2] := by cases args; simp_all
  obtain ⟨rfl, rfl⟩ := trodVars_none hV
  obtain ⟨n2, rfl, rfl, rfl, w2⟩ := open_int Tryz.underlying3 (hval 2 3 v2 rfl rfl) h2
  have hreach' : (DataW.weightsEach Tryz.prog [22, 23, 3] [d0, d1, .lit (.int .i64 n2)]).all (· ≤ reachBytes) = true := by
    have e : (Tryz.f4.params.toList ++ Rows.topClocksNamedSpec.plain.varTypes Tryz.prog) = [22, 23, 3] := by rw [Tryz.params4]; rfl
    have := hreach
    rw [show (Tryz.checked).prog = Tryz.prog from rfl, e] at this
    simpa using this
  have hr0 : ∀ n ∈ d0.weights Tryz.prog 22, n ≤ reachBytes := fun n hn => by
    have := List.all_eq_true.1 hreach' n (DataW.weights_mem_each (j := 0) rfl rfl n hn)
    simpa using this
  have hr1 : ∀ n ∈ d1.weights Tryz.prog 23, n ≤ reachBytes := fun n hn => by
    have := List.all_eq_true.1 hreach' n (DataW.weights_mem_each (j := 1) rfl rfl n hn)
    simpa using this
  obtain ⟨A, ca, l, rfl, hE, hcap, hok, _, _⟩ := open_evs (hval 0 22 v0 rfl rfl) h0 hr0
  obtain ⟨B, cb, ties, rfl, hT, _, _, _⟩ := open_tis (hval 1 23 v1 rfl rfl) h1 hr1
  obtain ⟨m, hm⟩ := max_cell hsh
  have hz := tab_cell hL
  have hlt : ∀ x ∈ p0 ++ (p1 ++ []), x.block < W.heap.size := fun x hx => hW'.lt x (by simpa using hx)
  clear hA0 hval0
  simp only [List.append_nil] at hW'
  refine (clocksNamed_any A B ca cb l ties n2 m W hE hT hcap hok hm hz (bounds_i64 w2)).mono fun e W' ⟨he, hb⟩ => ?_
  subst he
  refine ⟨_, rfl, post_of_below (pa := p0 ++ p1) (pv := []) hW' (fun _ _ _ => trodAll_mk1 (shut_bool Tryz.underlying4 _)) (fun sp hsp => ?_) (fun _ _ => rfl) (by simp) hb (ok_one (by kernel_rfl) rfl (okWide_bool_mk Tryz.underlying4 _))⟩
  have s0 := WideElems.Trod_stays (sp' := sp) laidOut (by kernel_rfl) (of_decide_eq_true (by kernel_rfl)) h0 (fun x hx => hb.same (hlt x (by simp [hx]))) (fun x hx => hsp x (by simp [hx]))
  have s1 := WideElems.Trod_stays (sp' := sp) laidOut (by kernel_rfl) (of_decide_eq_true (by kernel_rfl)) h1 (fun x hx => hb.same (hlt x (by simp [hx]))) (fun x hx => hsp x (by simp [hx]))
  have := trodAll_cons_mk s0 (trodAll_cons_mk s1 (trodAll_cons_mk (shut_int Tryz.underlying3 w2) trodAll_mk0))
  rw [Tryz.params4]
  simp only [List.append_nil] at this
  exact this
end Go.Proofs.YthcbchgdfldckaaGreatDoor
