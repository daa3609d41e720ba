/- Walks of package ask that the concrete run needs: the question Has "ab". -/
import Derived.Test.YthcbchgdfldckaaGreatDoorFinds
namespace Go.Proofs.YthcbchgdfldckaaGreatDoor
open Go.RowKit Go.Lib

def sAb : ByteArray := ⟨#[97, 98]⟩
def condAb : Array Value := #[.int .i64 3, .string sAb, .int .i64 0, .int .i64 0, .slice none 0 0]
set_option maxHeartbeats 1000000 in
set_option maxRecDepth 100000 in
theorem size_ab (w : World) :
    Calls Tryz.prog 71 #[.agg condAb] w fun e w' => e = .returned (.int .i64 1) ∧ Below w.heap.size w w' := by
  unfold condAb
  go_enter Tryz.func71, Tryz.ntmps71
  go_wp2
  go_loop [3, 9] (fun s3 s9 => s3 = .int .i64 1 ∧ s9 = .int .i64 0) (fun _ _ => 0)
  case atStart => exact ⟨rfl, rfl⟩
  case round =>
    obtain ⟨rfl, rfl⟩ := hrel
    go_wp2
    go_ret
    exact ⟨rfl, (Below.refl _ _).alloc (Nat.le_refl _) _⟩
def oddQ (x : Nat) : Bool := decide (x < 32 ∨ 126 < x ∨ x = 34)
set_option maxRecDepth 100000 in
theorem oddQ_quoted (w : World) : PredGrows Tryz.prog 270 #[] oddQ w := by
  intro W x hx hb
  have h : Calls Tryz.prog 270 #[.int .i32 x] W fun e w' => e = .returned (.bool (oddQ x)) ∧ Below W.heap.size W w' := by
    by_cases h1 : (x : Int) < 32
    · have ho : oddQ x = true := by unfold oddQ; simp; omega
      go_enter Tryz.func270, Tryz.ntmps270
      go_wp2
      go_ret
      exact ⟨by first | rfl | (rw [ho]; rfl), Below.refl _ _⟩
    · by_cases h2 : (126 : Int) < x
      · have ho : oddQ x = true := by unfold oddQ; simp; omega
        go_enter Tryz.func270, Tryz.ntmps270
        go_wp2
        go_ret
        exact ⟨by first | rfl | (rw [ho]; rfl), Below.refl _ _⟩
      · by_cases h3 : (x : Int) = 34
        · have ho : oddQ x = true := by unfold oddQ; simp; omega
          have h4 : ((x : Int) == 34) = true := by simp [h3]
          go_enter Tryz.func270, Tryz.ntmps270
          go_wp2
          go_ret
          exact ⟨by first | rfl | (rw [ho]; rfl), Below.refl _ _⟩
        · have ho : oddQ x = false := by unfold oddQ; simp; omega
          have h4 : ((x : Int) == 34) = false := by simpa using h3
          go_enter Tryz.func270, Tryz.ntmps270
          go_wp2
          go_ret
          exact ⟨by first | rfl | (rw [ho]; rfl), Below.refl _ _⟩
  simpa [encR] using h
set_option maxRecDepth 100000 in
theorem quoted_ab (w : World) :
    Calls Tryz.prog 202 #[.string sAb] w fun e w' => e = .returned (.bool true) ∧ Below w.heap.size w w' := by
  have hsz : sAb.size = 2 := rfl
  go_enter Tryz.func202, Tryz.ntmps202
  go_wp2_with fail
  refine (Tryz.strings_ContainsFunc_grows 270 #[] (fun _ _ => rfl) oddQ _ w (oddQ_quoted w)).mono ?_
  rintro e w' ⟨rfl, hb⟩
  have h0 : decide (0 ≤ Lib.idxFunc oddQ true sAb) = false := by decide +kernel
  rw [h0]
  go_wp2
  go_ret
  exact ⟨rfl, hb⟩
end Go.Proofs.YthcbchgdfldckaaGreatDoor

/- Walks of package ask that the concrete run needs: form, cond, Check. -/
namespace Go.Proofs.YthcbchgdfldckaaGreatDoor
open Go.RowKit Go.Lib

set_option maxHeartbeats 2000000 in
set_option maxRecDepth 100000 in
theorem form_ab (w : World) :
    Calls Tryz.prog 121 #[.agg condAb] w fun e w' => e = .returned (.int .i64 0) ∧ Below w.heap.size w w' := by
  unfold condAb
  go_enter Tryz.func121, Tryz.ntmps121
  go_wp2
  obtain ⟨n1, n2, n3, n4⟩ := new_facts w #[Value.int .i64 3, Value.string sAb, Value.int .i64 0, Value.int .i64 0, Value.slice none 0 0] 66
  generalize w.alloc (.cells #[Value.int .i64 3, Value.string sAb, Value.int .i64 0, Value.int .i64 0, Value.slice none 0 0] 66) = W at *
  have c0 : W.drew.cell? ⟨w.heap.size, 0, none⟩ = some (.int .i64 3) := n1 0 _ rfl
  have c1 : W.drew.cell? ⟨w.heap.size, 1, none⟩ = some (.string sAb) := n1 1 _ rfl
  have c2 : W.drew.cell? ⟨w.heap.size, 2, none⟩ = some (.int .i64 0) := n1 2 _ rfl
  have c3 : W.drew.cell? ⟨w.heap.size, 3, none⟩ = some (.int .i64 0) := n1 3 _ rfl
  have c4 : W.drew.cell? ⟨w.heap.size, 4, none⟩ = some (.slice none 0 0) := n1 4 _ rfl
  have hb : Below w.heap.size w W.drew := n4.drew
  go_region_held3 (fun w' => w'.cell? ⟨w.heap.size, 0, none⟩ = some (.int .i64 3)) (exact c0) (fail)
  generalize W.drew = W1 at *
  go_wp2_with fail
  refine (quoted_ab _).mono ?_
  rintro e w2 ⟨rfl, hb2⟩
  have hb3 := below_then hb hb.size hb2
  go_wp2
  go_ret
  exact ⟨rfl, hb3⟩

set_option maxHeartbeats 1000000 in
set_option maxRecDepth 100000 in
theorem cond_ab (w : World) :
    Calls Tryz.prog 72 #[.agg condAb] w fun e w' => e = .returned (.int .i64 0) ∧ Below w.heap.size w w' := by
  unfold condAb
  go_enter Tryz.func72, Tryz.ntmps72
  go_wp2_with fail
  refine (form_ab _).mono ?_
  rintro e w2 ⟨rfl, hb2⟩
  obtain ⟨n1, n2, n3, n4⟩ := new_facts w #[Value.int .i64 3, Value.string sAb, Value.int .i64 0, Value.int .i64 0, Value.slice none 0 0] 66
  have z4 := kept_below hb2 _ _ (n1 4 _ rfl)
  have hb3 := below_then n4 n4.size hb2
  clear n1 n2 n3 n4 hb2
  go_wp2
  go_loop [15] (fun s => s = .int .i64 0) (fun _ => 0)
  case atStart => rfl
  case round =>
    subst hrel
    go_wp2
    go_ret
    exact ⟨rfl, hb3⟩

/-- The question: one variable, Has "ab", at b. -/
def AskAt (w : World) (b : Nat) : Prop := ∀ (j : Nat) u, condAb[j]? = some u → w.cell? ⟨b, j, none⟩ = some u
def askAb (b : Nat) : Array Value := #[.slice (some ⟨b, 0, none⟩) (1 : Nat) 1, .slice none 0 0, .int .i64 1]
set_option maxHeartbeats 1000000 in
set_option maxRecDepth 100000 in
theorem check_ab (b : Nat) (w : World) (h : AskAt w b) :
    Calls Tryz.prog 37 #[.agg (askAb b)] w fun e w' => e = .returned (.int .i64 0) ∧ Below w.heap.size w w' := by
  unfold askAb
  have h0 : w.cell? ⟨b, 0, none⟩ = some (.int .i64 3) := h 0 _ rfl
  have h1 : w.cell? ⟨b, 1, none⟩ = some (.string sAb) := h 1 _ rfl
  have h2 : w.cell? ⟨b, 2, none⟩ = some (.int .i64 0) := h 2 _ rfl
  have h3 : w.cell? ⟨b, 3, none⟩ = some (.int .i64 0) := h 3 _ rfl
  have h4 : w.cell? ⟨b, 4, none⟩ = some (.slice none 0 0) := h 4 _ rfl
  clear h
  go_enter Tryz.func37, Tryz.ntmps37
  go_wp2
  obtain ⟨n1, n2, n3, n4⟩ := new_facts w #[Value.slice (some ⟨b, 0, none⟩) (1 : Nat) 1, Value.slice none 0 0, Value.int .i64 1] 69
  generalize w.alloc (.cells #[Value.slice (some ⟨b, 0, none⟩) (1 : Nat) 1, Value.slice none 0 0, Value.int .i64 1] 69) = W at *
  have c0 : W.cell? ⟨w.heap.size, 0, none⟩ = some (.slice (some ⟨b, 0, none⟩) (1 : Nat) 1) := n1 0 _ rfl
  have c1 : W.cell? ⟨w.heap.size, 1, none⟩ = some (.slice none 0 0) := n1 1 _ rfl
  have c2 : W.cell? ⟨w.heap.size, 2, none⟩ = some (.int .i64 1) := n1 2 _ rfl
  have k0 := kept_below n4 _ _ h0
  have k1 := kept_below n4 _ _ h1
  have k2 := kept_below n4 _ _ h2
  have k3 := kept_below n4 _ _ h3
  have k4 := kept_below n4 _ _ h4
  generalize hg : w.heap.size = g at *
  clear n1 n2 n3 h0 h1 h2 h3 h4
  go_loopw [3, 14] (fun s3 s14 wr => ∃ k : Nat, k ≤ 1 ∧ s14 = .int .i64 k ∧ s3 = .int .i64 k ∧ Below W.heap.size W wr) (fun _ s14 _ => 1 - (intOf s14).toNat)
  case atStart => exact ⟨0, by omega, rfl, rfl, Below.refl _ _⟩
  case round =>
    obtain ⟨k, hk, rfl, rfl, hb⟩ := hrel
    have hsz := hb.size
    rcases (by omega : k = 0 ∨ k = 1) with rfl | rfl
    · have q0 := kept_below hb _ _ k0
      have q1 := kept_below hb _ _ k1
      have q2 := kept_below hb _ _ k2
      have q3 := kept_below hb _ _ k3
      have q4 := kept_below hb _ _ k4
      go_wp2_with fail
      refine (size_ab _).mono ?_
      rintro e w2 ⟨rfl, hb2⟩
      have hb3 := hb.alloc hsz (.cells #[.int .i64 3, .string sAb, .int .i64 0, .int .i64 0, .slice none 0 0] 66)
      have hb4 := below_then hb3 hb3.size hb2
      go_wp2
      exact ⟨⟨1, by omega, by go_num, by go_num, hb4⟩, by simp [intOf]⟩
    · rw [show ((1 : Nat) : Int) = 1 from rfl]
      have d0 := kept_below hb _ _ c0
      have d1 := kept_below hb _ _ c1
      have d2 := kept_below hb _ _ c2
      have q0 := kept_below hb _ _ k0
      have q1 := kept_below hb _ _ k1
      have q2 := kept_below hb _ _ k2
      have q3 := kept_below hb _ _ k3
      have q4 := kept_below hb _ _ k4
      have hbW := below_then n4 (by have := n4.size; omega) hb
      go_wp2
      have Hbk := hbW
      go_loopw [44] (fun s44 wr2 => ∃ k : Nat, k ≤ 1 ∧ s44 = .int .i64 k ∧ Below wr.heap.size wr wr2) (fun s44 _ => 1 - (intOf s44).toNat)
      case atStart => exact ⟨0, by omega, rfl, Below.refl _ _⟩
      case round =>
        obtain ⟨k, hk, rfl, hb5⟩ := hrel
        have hsz5 := hb5.size
        have d0 := kept_below hb5 _ _ d0
        have d1 := kept_below hb5 _ _ d1
        have d2 := kept_below hb5 _ _ d2
        have q0 := kept_below hb5 _ _ q0
        have q1 := kept_below hb5 _ _ q1
        have q2 := kept_below hb5 _ _ q2
        have q3 := kept_below hb5 _ _ q3
        have q4 := kept_below hb5 _ _ q4
        rcases (by omega : k = 0 ∨ k = 1) with rfl | rfl
        · go_wp2_with fail
          refine (cond_ab _).mono ?_
          rintro e w2 ⟨rfl, hb2⟩
          have hb3 := hb5.alloc hsz5 (.cells #[.int .i64 3, .string sAb, .int .i64 0, .int .i64 0, .slice none 0 0] 66)
          have hb4 := below_then hb3 hb3.size hb2
          go_wp2
          exact ⟨⟨1, by omega, by go_num, hb4⟩, by simp [intOf]⟩
        · have hbE := below_then Hbk (by have := Hbk.size; omega) hb5
          go_wp2
          go_loop [57] (fun s => s = .int .i64 0) (fun _ => 0)
          case atStart => rfl
          case round =>
            subst hrel
            go_wp2
            go_ret
            exact ⟨rfl, by first | exact hbE | (rw [hg]; exact hbE) | (subst hg; exact hbE)⟩
end Go.Proofs.YthcbchgdfldckaaGreatDoor
