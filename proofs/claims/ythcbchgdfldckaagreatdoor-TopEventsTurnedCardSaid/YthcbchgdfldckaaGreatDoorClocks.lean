/- The walk of clock.Clocks. -/
import Derived.Test.YthcbchgdfldckaaGreatDoorEv
import Derived.Test.YthcbchgdfldckaaGreatDoorShelf
import Derived.Lib.OwnBridge
namespace Go.Proofs.YthcbchgdfldckaaGreatDoor
open Go.RowKit Go.Sort
theorem Tryz.info9 : (Tryz.prog.info? 9).map (fun i => (i.zero, i.size, i.bytes)) = some (some (.string ByteArray.empty), 1, 16) := by kernel_rfl
theorem encStr_nm (e : Ev) : encStr e.nm = .string e.clock := by simp [encStr, Ev.nm]
theorem names_nil : names [] = [] := List.eq_nil_of_length_eq_zero (Nat.le_zero.1 (names_length []))
theorem below_growS {B : Nat} {w0 w : World} (h : Below B w0 w) (hB : B ≤ w.heap.size) (os : Array Obj) : Below B w0 (grow w os) :=
  ⟨h.os, h.tape, h.output, by have := h.size; simp [grow]; omega, fun k hk => by rw [← h.block k hk]; exact heap_grow_old w os (by omega)⟩
theorem size_putRow {α : Type} [Inhabited α] (enc : α → Value) (w : World) (q g : Nat) (d : Array α) : (putRow enc (Sort.ahead w q) g 0 d).heap.size = w.heap.size := by simp [putRow, mapBlock, Sort.ahead]

set_option maxHeartbeats 1000000 in
set_option maxRecDepth 100000 in
theorem clocks_any (A : Option Addr) (cap : Nat) (l : List Ev) (w : World) (h : EvsAt w A l) (hl : l.length ≤ 100000000) (hcap : l.length ≤ cap) :
    Calls Tryz.prog 14 #[.slice A l.length cap] w fun e w' => ∃ v, e = .returned v ∧ w'.ownsRow w.heap.size 9 1 v (names l).length ((names l).map encStr) ∧ Below w.heap.size w w' := by
  go_enter Tryz.func14, Tryz.ntmps14
  go_wp2
  go_loopw [3, 8] (fun s3 s8 wr => ∃ k : Nat, k ≤ l.length ∧ s8 = .int .i64 k ∧ wr.ownsRow w.heap.size 9 1 s3 k (((l.take k).map Ev.nm).map encStr) ∧ Below w.heap.size w wr) (fun _ s8 _ => l.length - (intOf s8).toNat)
  case atStart => exact ⟨0, Nat.zero_le _, rfl, World.ownsRow_nil _ _ _ _, Below.refl _ _⟩
  case round =>
    obtain ⟨k, hk, rfl, hown, hb⟩ := hrel
    by_cases hkm : k < l.length
    · obtain ⟨b, o, rfl, c1, c2, c3⟩ := EvsAt.cell (h.kept (kept_below hb)) hkm
      have HS := Lib.hid (take_snoc_getD l dEv k hkm)
      have HE := Lib.hid (encStr_nm (l.getD k dEv))
      generalize l.getD k dEv = x at *
      have hs := hb.size
      go_wp2_with (at_builtin; refine wpl_push _ rfl (.tmp 12) (.tmp 15) 40 rfl w.heap.size 9 _ 1 16 Tryz.underlying40 Tryz.info9 rfl (by decide) u3 k _ rfl ((hown.alloc _).alloc _) ⟨wr.heap.size + 1, 0, none⟩ 1 1 [.string x.clock] rfl rfl (news_at (cs := #[.string x.clock]) (by simp)) (by simp [Value.oneCell']) (by decide) (by omega) (by decide) (by simp; omega) ?_; intro g cp w1 hown1 hg1 hat1 hlt1)
      refine ⟨⟨k + 1, by omega, by go_num, ?_, below_push ((hb.alloc hs _).alloc (by simp; omega) _) hg1 (by simp; omega) (own_base hown)⟩, by simp [intOf]; omega⟩
      rw [HS.out, List.map_append, List.map_append]
      simp only [List.map_cons, List.map_nil]
      rw [HE.out]
      exact hown1
    · obtain rfl : l.length = k := by omega
      rw [List.take_length] at hown
      have hs := hb.size
      rcases Nat.eq_zero_or_pos l.length with h0 | h0
      · obtain rfl : l = [] := List.eq_nil_of_length_eq_zero h0
        obtain ⟨A', c', rfl⟩ := own_slice hown
        go_wp2_with fail
        refine (Tryz.slices_Sort_string_none _ _ _).mono ?_
        rintro e w1 ⟨rfl, rfl⟩
        go_wp2_with fail
        refine (Tryz.slices_Compact_string_empty _ _ _).mono ?_
        rintro e w1 ⟨rfl, rfl⟩
        go_wp2_with fail
        go_ret
        exact ⟨.slice A' 0 c', rfl, by rw [names_nil]; exact hown, hb⟩
      · obtain ⟨g, c', hv, hbg, hgl, hcap', _, hlen, hH⟩ := Lib.holds_of_ownsRow hown (by
          obtain ⟨g, c', e, _⟩ := hown.form h0
          rw [e]; simp)
        subst hv
        have hnm : (l.map Ev.nm).length = l.length := by simp
        have hso : (sorted (l.map Ev.nm)).length = l.length := by rw [sorted_length, hnm]
        have hsort := Tryz.slices_Sort_string g 0 c' (l.map Ev.nm) wr hH hgl (by omega)
        rw [hlen] at hsort
        have Hsort := Lib.hid hsort
        have Hhso := Lib.hid hso
        clear hsort hso hlen hnm
        go_wp2_with fail
        refine Hsort.out.mono ?_
        rintro e w1 ⟨rfl, q, os, rfl⟩
        have ho1 : (grow (putRow encStr (Sort.ahead wr q) g 0 (sorted (l.map Ev.nm)).toArray) os).ownsRow w.heap.size 9 1 (.slice (some ⟨g, 0, none⟩) l.length c') l.length ((sorted (l.map Ev.nm)).map encStr) := by
          have h1 := Lib.ownsRow_putRow (q := q) (k := l.length) hown Hhso.out (Nat.le_refl _)
          rw [List.take_of_length_le (by rw [Hhso.out]; exact Nat.le_refl _)] at h1
          exact own_below h1 (below_growS (Below.refl _ _) (Nat.le_refl _) os)
        have hb1 : Below w.heap.size w (grow (putRow encStr (Sort.ahead wr q) g 0 (sorted (l.map Ev.nm)).toArray) os) :=
          below_growS (Lib.below_putRow hb hbg) (by rw [size_putRow]; exact hs) os
        have hg1 : g < (grow (putRow encStr (Sort.ahead wr q) g 0 (sorted (l.map Ev.nm)).toArray) os).heap.size := Nat.lt_of_lt_of_le (by rw [size_putRow]; exact hgl) (below_growS (Below.refl _ _) (Nat.le_refl _) os).size
        unfold sorted at ho1 hb1 hg1 Hhso
        generalize grow (putRow encStr (Sort.ahead wr q) g 0 ((l.map Ev.nm).mergeSort fun x y => decide (x ≤ y)).toArray) os = w1 at *
        obtain ⟨_, _, e1, _, _, _, _, _, hH1⟩ := Lib.holds_of_ownsRow ho1 (by simp)
        simp only [Value.slice.injEq, Option.some.injEq, Addr.mk.injEq] at e1
        obtain ⟨⟨rfl, _⟩, _, rfl⟩ := e1
        have hcomp := Tryz.slices_Compact_string g 0 c' _ w1 hH1 (by rw [Hhso.out]; omega) (by rw [Hhso.out]; omega)
        rw [Hhso.out] at hcomp
        have Hcomp := Lib.hid hcomp
        clear hcomp hH1
        go_wp2_with fail
        refine Hcomp.out.mono ?_
        rintro e w2 ⟨rfl, q2, rfl⟩
        have hN : names l = Lib.compact ((l.map Ev.nm).mergeSort fun x y => decide (x ≤ y)) := rfl
        have hle : (Lib.compact ((l.map Ev.nm).mergeSort fun x y => decide (x ≤ y))).length ≤ l.length := names_length l
        have ho2 := Lib.ownsRow_putRow (q := q2) (k := (names l).length) (ys := names l ++ List.replicate (l.length - (names l).length) []) ho1 (by rw [List.length_append, List.length_replicate]; have := names_length l; omega) (names_length l)
        rw [List.take_left] at ho2
        have hb2 := Lib.below_putRow (enc := encStr) (q := q2) (d := (names l ++ List.replicate (l.length - (names l).length) []).toArray) hb1 hbg
        rw [hN] at ho2 hb2
        have Ho2 := Lib.hid ho2
        have Hb2 := Lib.hid hb2
        have HN := Lib.hid hN
        clear ho2 hb2 hN ho1 hb1 Hhso Hcomp Hsort
        go_wp2_with fail
        go_ret
        exact ⟨_, rfl, by rw [HN.out]; exact Ho2.out, Hb2.out⟩
end Go.Proofs.YthcbchgdfldckaaGreatDoor
