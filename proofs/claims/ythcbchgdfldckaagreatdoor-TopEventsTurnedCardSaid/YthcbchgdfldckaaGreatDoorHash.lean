/- The walk of sum.Hash: some number. -/
import Derived.Test.YthcbchgdfldckaaGreatDoorOwn
import Derived.Laws.BitsAllLaws
import Derived.Test.YthcbchgdfldckaaGreatDoorFinds
namespace Go.Proofs.YthcbchgdfldckaaGreatDoor
open Go.RowKit

theorem xor_range (a b : Int) : 0 ≤ bits .xor .u64 a b ∧ bits .xor .u64 a b < 18446744073709551616 := by
  obtain ⟨y, hy⟩ : ∃ y, bits .xor .u64 a b = IntKind.u64.wrap y := ⟨_, rfl⟩
  rw [hy, IntKind.wrap_u64]
  omega
set_option maxHeartbeats 1000000 in
set_option maxRecDepth 100000 in
theorem hash_any (b n c : Nat) (f : Nat → Int) (w : World) (hc : ∀ i, i < n → w.cell? ⟨b, i, none⟩ = some (.int .u8 (f i))) (hf : ∀ i, 0 ≤ f i ∧ f i < 256) (hn : n ≤ 65536) :
    Calls Tryz.prog 41 #[.slice (some ⟨b, 0, none⟩) n c] w fun e w' => ∃ h : Int, e = .returned (.int .u64 h) ∧ 0 ≤ h ∧ h < 18446744073709551616 ∧ w' = w := by
  go_enter Tryz.func41, Tryz.ntmps41
  go_wp2
  go_loop [3, 8] (fun s3 s8 => ∃ (k : Nat) (h : Int), k ≤ n ∧ s8 = .int .i64 k ∧ s3 = .int .u64 h ∧ 0 ≤ h ∧ h < 18446744073709551616) (fun _ s8 => n - (intOf s8).toNat)
  case atStart => exact ⟨0, _, Nat.zero_le _, rfl, rfl, by omega, by omega⟩
  case round =>
    obtain ⟨k, h, hk, rfl, rfl, h0, h1⟩ := hrel
    by_cases hkn : k < n
    · have q := hc k hkn
      have hfk := hf k
      generalize f k = x at *
      go_wp2
      refine ⟨⟨k + 1, _, by omega, by go_num, rfl, ?_, ?_⟩, by simp [intOf]; omega⟩
      · exact (xor_range _ _).1
      · exact (xor_range _ _).2
    · obtain rfl : n = k := by omega
      go_wp2
      go_ret
      exact ⟨h, rfl, h0, h1, rfl⟩
end Go.Proofs.YthcbchgdfldckaaGreatDoor

/- Walks of package report that the concrete run needs. -/
namespace Go.Proofs.YthcbchgdfldckaaGreatDoor
open Go.RowKit Go.Lib

def sA : ByteArray := ⟨#[97]⟩
set_option maxRecDepth 100000 in
theorem odd_title (w : World) : PredGrows Tryz.prog 144 #[] odd w := by
  intro W x hx hb
  have h : Calls Tryz.prog 144 #[.int .i32 x] W fun e w' => e = .returned (.bool (odd x)) ∧ Below W.heap.size W w' := by
    by_cases h1 : (x : Int) < 32
    · have ho : odd x = true := by unfold odd; simp; omega
      go_enter Tryz.func144, Tryz.ntmps144
      go_wp2
      go_ret
      exact ⟨by first | rfl | (rw [ho]; rfl), Below.refl _ _⟩
    · by_cases h2 : (126 : Int) < x
      · have ho : odd x = true := by unfold odd; simp; omega
        go_enter Tryz.func144, Tryz.ntmps144
        go_wp2
        go_ret
        exact ⟨by first | rfl | (rw [ho]; rfl), Below.refl _ _⟩
      · have ho : odd x = false := by unfold odd; simp; omega
        go_enter Tryz.func144, Tryz.ntmps144
        go_wp2
        go_ret
        exact ⟨by first | rfl | (rw [ho]; rfl), Below.refl _ _⟩
  simpa [encR] using h
set_option maxRecDepth 100000 in
theorem title_a (w : World) :
    Calls Tryz.prog 84 #[.string sA] w fun e w' => e = .returned (.bool true) ∧ Below w.heap.size w w' := by
  have hsz : sA.size = 1 := rfl
  go_enter Tryz.func84, Tryz.ntmps84
  go_wp2_with fail
  refine (Tryz.strings_ContainsFunc_grows 144 #[] (fun _ _ => rfl) odd _ w (odd_title w)).mono ?_
  rintro e w' ⟨rfl, hb⟩
  have h0 : decide (0 ≤ Lib.idxFunc odd true sA) = false := by decide +kernel
  rw [h0]
  go_wp2
  go_ret
  exact ⟨rfl, hb⟩
set_option maxRecDepth 100000 in
theorem has_none (f : Value) (w : World) :
    Calls Tryz.prog 129 #[.slice none 0 0, f] w fun e w' => e = .returned (.bool false) ∧ w' = w := by
  go_enter Tryz.func129, Tryz.ntmps129
  go_wp2_with (first | (go_at_call 206; go_in))
  go_wp2
  go_loop [8] (fun s => s = .int .i64 0) (fun _ => 0)
  case atStart => rfl
  case round =>
    subst hrel
    go_wp2
    go_ret
    exact ⟨rfl, rfl⟩
set_option maxHeartbeats 1000000 in
set_option maxRecDepth 100000 in
theorem rform_any (A B : Option Addr) (n c m d : Nat) (w : World) (hn : n ≤ 4096) (hm : m ≤ 4096) :
    Calls Tryz.prog 85 #[.agg (findCells (.slice A n c) (.slice B m d))] w fun e w' => e = .returned (.int .i64 0) ∧ Below w.heap.size w w' := by
  have hf := fun W => form_any A B n c m d W hn hm
  unfold findCells at *
  have Hf := Lib.hid hf
  clear hf
  go_enter Tryz.func85, Tryz.ntmps85
  go_wp2_with fail
  obtain ⟨n1, n2, n3, n4⟩ := new_facts w #[Value.string kText, Value.slice none 0 0, Value.slice A n c, Value.slice B m d, Value.string ⟨#[]⟩, Value.int IntKind.i64 0, Value.int IntKind.i64 4294967295] 55
  have z1 := n1 1 _ rfl
  generalize w.alloc (.cells #[Value.string kText, Value.slice none 0 0, Value.slice A n c, Value.slice B m d, Value.string ⟨#[]⟩, Value.int IntKind.i64 0, Value.int IntKind.i64 4294967295] 55) = W at *
  clear n1 n2
  refine (Hf.out _).mono ?_
  rintro e w2 ⟨rfl, hb2⟩
  have y1 := kept_below hb2 _ _ z1
  have hb := below_then n4 n4.size hb2
  clear hb2 n4
  go_wp2_with fail
  refine (has_none _ _).mono ?_
  rintro e w3 ⟨rfl, rfl⟩
  go_wp2
  go_ret
  exact ⟨rfl, hb⟩
set_option maxHeartbeats 1000000 in
set_option maxRecDepth 100000 in
theorem insertion_find (A : Option Addr) (n c m : Nat) (f : Value) (w : World) (hm : m ≤ 1) :
    Calls Tryz.prog 132 #[.slice A n c, .int .i64 0, .int .i64 m, f] w fun e w' => e = .returned (.tuple #[]) ∧ w' = w := by
  go_enter Tryz.func132, Tryz.ntmps132
  go_wp2
  go_loop [8] (fun s => s = .int .i64 1) (fun _ => 0)
  case atStart => rfl
  case round =>
    subst hrel
    go_wp2
    go_end0
    exact ⟨rfl, rfl⟩
set_option maxHeartbeats 1000000 in
set_option maxRecDepth 100000 in
theorem pdq_find (A : Option Addr) (n c m : Nat) (k : Int) (f : Value) (w : World) (hm : m ≤ 1) :
    Calls Tryz.prog 76 #[.slice A n c, .int .i64 0, .int .i64 m, .int .i64 k, f] w fun e w' => e = .returned (.tuple #[]) ∧ w' = w := by
  go_enter Tryz.func76, Tryz.ntmps76
  go_wp2
  go_loop [1, 2, 3] (fun s1 s2 s3 => s1 = .int .i64 0 ∧ s2 = .int .i64 m ∧ s3 = .int .i64 k) (fun _ _ _ => 0)
  case atStart => exact ⟨rfl, rfl, rfl⟩
  case round =>
    obtain ⟨rfl, rfl, rfl⟩ := hrel
    go_wp2_with fail
    refine (insertion_find A n c m f w hm).mono ?_
    rintro e w' ⟨rfl, rfl⟩
    go_wp2
    (try simp only [Exit.inBlock, Exit.then])
    refine bodyPost_ret (results_none rfl _ _ _) rfl ?_
    exact ⟨rfl, rfl⟩
set_option maxHeartbeats 1000000 in
set_option maxRecDepth 100000 in
theorem sort_find (A : Option Addr) (n c : Nat) (f : Value) (w : World) (hn : n ≤ 1) :
    Calls Tryz.prog 44 #[.slice A n c, f] w fun e w' => e = .returned (.tuple #[]) ∧ w' = w := by
  go_enter Tryz.func44, Tryz.ntmps44
  go_wp2_with fail
  refine (Tryz.bits_Len _ _ (by omega) (by omega)).mono ?_
  rintro e w' ⟨rfl, rfl⟩
  go_wp2_with fail
  refine (pdq_find A n c n _ f _ hn).mono ?_
  rintro e w' ⟨rfl, rfl⟩
  go_wp2
  go_end0
  exact ⟨rfl, rfl⟩
set_option maxHeartbeats 1000000 in
set_option maxRecDepth 100000 in
theorem compact_find (A : Option Addr) (n c : Nat) (f : Value) (w : World) (hn : n ≤ 1) :
    Calls Tryz.prog 46 #[.slice A n c, f] w fun e w' => e = .returned (.slice A n c) ∧ w' = w := by
  have h2 : (n : Int) < 2 := by omega
  go_enter Tryz.func46, Tryz.ntmps46
  go_wp2
  go_ret
  exact ⟨rfl, rfl⟩
end Go.Proofs.YthcbchgdfldckaaGreatDoor
