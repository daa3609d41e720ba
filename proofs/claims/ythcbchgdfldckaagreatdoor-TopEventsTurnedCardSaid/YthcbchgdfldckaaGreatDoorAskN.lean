/- Walks of ask.Run's closure at no row. -/
import Derived.Test.YthcbchgdfldckaaGreatDoorAskR
import Derived.Laws.EntriesVeiled
namespace Go.Proofs.YthcbchgdfldckaaGreatDoor
open Go.RowKit Go.Lib

theorem infoInt : (Tryz.prog.info? 3).map (fun i => (i.zero, i.size, i.bytes)) = some (some (.int .i64 0), 1, 8) := by kernel_rfl
set_option maxHeartbeats 2000000 in
set_option maxRecDepth 100000 in
theorem run_nil (fv : Value) (lf lc qb ob lb fb b : Nat) (m : Int) (w : World) (h : FindIs w fv fAb 0 2) (hm : w.cell? ⟨0, 0, none⟩ = some (.int .i64 m)) (hl : RowF w lf fv) (hq : AskAt w b) (hla : w.cell? ⟨lb, 0, none⟩ = some (.slice (some ⟨lf, 0, none⟩) (1 : Nat) lc))
    (hqa : ∀ (j : Nat) u, (askAb b)[j]? = some u → w.cell? ⟨qb, j, none⟩ = some u) (ho : w.cell? ⟨ob, 0, none⟩ = some (.slice none 0 0)) (hof : w.frozen? ⟨ob, 0, none⟩ = false) (hob : ob < w.heap.size)
    (hfb : w.cell? ⟨fb, 0, none⟩ = some (.func (.func 38) #[] #[.pointer (some ⟨qb, 0, none⟩), .pointer (some ⟨ob, 0, none⟩), .pointer (some ⟨lb, 0, none⟩), .pointer (some ⟨fb, 0, none⟩)])) :
    Calls Tryz.prog 38 #[.slice none 0 0, .pointer (some ⟨qb, 0, none⟩), .pointer (some ⟨ob, 0, none⟩), .pointer (some ⟨lb, 0, none⟩), .pointer (some ⟨fb, 0, none⟩)] w fun e w' => e = .returned (.tuple #[]) ∧ Below ob w w' ∧ ∃ g c, w'.cell? ⟨ob, 0, none⟩ = some (.slice (some ⟨g, 0, none⟩) (1 : Nat) c) := by
  have q0 : w.cell? ⟨qb, 0, none⟩ = some (.slice (some ⟨b, 0, none⟩) (1 : Nat) 1) := hqa 0 _ rfl
  have q1 : w.cell? ⟨qb, 1, none⟩ = some (.slice none 0 0) := hqa 1 _ rfl
  have q2 : w.cell? ⟨qb, 2, none⟩ = some (.int .i64 1) := hqa 2 _ rfl
  go_enter Tryz.func38, Tryz.ntmps38
  go_wp2
  go_loopw [21] (fun s21 wr => (s21 = .int .i64 0 ∧ wr = w) ∨ (s21 = .int .i64 1 ∧ Below ob w wr ∧ ∃ g c, wr.cell? ⟨ob, 0, none⟩ = some (.slice (some ⟨g, 0, none⟩) (1 : Nat) c))) (fun s21 _ => 1 - (intOf s21).toNat)
  case atStart => exact .inl ⟨rfl, rfl⟩
  case round =>
    rcases hrel with ⟨rfl, rfl⟩ | ⟨rfl, hb, g, c, hg⟩
    · go_wp2_with fail
      refine (Tryz.slices_Clone_int_nil _ _ _).mono ?_
      rintro e w2 ⟨rfl, rfl⟩
      have hlb := World.block_lt_of_cell? w2 _ hla
      have hqb := World.block_lt_of_cell? w2 _ q0
      have hfbb := World.block_lt_of_cell? w2 _ hfb
      have Hh := Lib.hid h
      have Hl := Lib.hid hl
      have Hq := Lib.hid hq
      have Hqa := Lib.hid hqa
      have Hm := Lib.hid hm
      have hob0 : ob ≤ w2.heap.size := Nat.le_of_lt hob
      clear h hl hq hqa hm
      go_wp2_with (first | (at_builtin; refine wpl_push _ rfl (.tmp 30) (.tmp 32) 44 rfl w2.heap.size 3 _ 1 8 Tryz.underlying44 infoInt rfl (by decide) _ 0 [] rfl (World.ownsRow_nil _ _ _ _) ⟨w2.heap.size, 0, none⟩ 1 1 [.int .i64 0] rfl rfl (news_at (cs := #[.int .i64 0]) rfl) (by intro u hu; simp at hu; subst hu; rfl) (by decide) (by decide) (by decide) (by simp) ?_; intro g cap w1 hown1 hg1 hat1 hlt1; have hb1 : Below w2.heap.size w2 w1 := below_push ((Below.refl _ _).alloc (Nat.le_refl _) _) hg1 (by simp) (fun k hk => by cases hk); have hla1 := kept_below hb1 _ _ hla; have p0 := kept_below hb1 _ _ q0; have p1 := kept_below hb1 _ _ q1; have p2 := kept_below hb1 _ _ q2; have r0 : w1.cell? ⟨g, 0, none⟩ = some (.int .i64 0) := (hown1.cellAt 0 (by decide)).trans rfl; clear hg1 hat1) | (go_at_call 40; refine (show Calls _ _ _ _ _ from by have hf := fits_ab fv lf lc b g cap m w1 (Hh.out.kept (kept_below hb1)) (kept_below hb1 _ _ Hm.out) (Hl.out.kept (kept_below hb1)) (Hq.out.kept (kept_below hb1)) r0; unfold askAb at hf; exact hf).mono ?_; rintro e w3 ⟨rfl, hb3⟩; have hb13 := below_then hb1 hb1.size hb3; have hfb3 := kept_below hb13 _ _ hfb))
      have hsz13 := hb13.size
      refine (run_leaf g cap qb ob lb fb b w3 (kept_below hb3 _ _ r0) (kept_below hb13 _ _ q0) (kept_below hb13 _ _ ho) ((hb13.frozen (p := ⟨ob, 0, none⟩) (by exact hob)).trans hof) (by omega)).mono ?_
      rintro e w4 ⟨rfl, hb4, g4, c4, ho4⟩
      have hb24 : Below ob w2 w4 := (hb13.mono hob0).trans hb4
      have Hb24 := Lib.hid hb24
      clear hb4 hb3 hb13 hb1 hb24
      go_wp2
      refine ⟨.inr ⟨rfl, Hb24.out, g4, c4, ho4⟩, by simp [intOf]⟩
    · go_wp2
      go_end0
      exact ⟨rfl, hb, g, c, hg⟩
end Go.Proofs.YthcbchgdfldckaaGreatDoor

/- The walk of ask.Run at the concrete question. -/
namespace Go.Proofs.YthcbchgdfldckaaGreatDoor
open Go.RowKit Go.Lib

set_option maxHeartbeats 2000000 in
set_option maxRecDepth 100000 in
theorem run_ab (fv : Value) (lf lc b : Nat) (m : Int) (w : World) (h : FindIs w fv fAb 0 2) (hm : w.cell? ⟨0, 0, none⟩ = some (.int .i64 m)) (hl : RowF w lf fv) (hq : AskAt w b) :
    Calls Tryz.prog 20 #[.slice (some ⟨lf, 0, none⟩) (1 : Nat) lc, .agg (askAb b)] w fun e w' => ∃ g c, e = .returned (.tuple #[.slice (some ⟨g, 0, none⟩) (1 : Nat) c, .int .i64 0]) ∧ Below w.heap.size w w' := by
  have hcheck := fun W h => check_ab b W h
  unfold askAb at *
  have Hcheck := Lib.hid hcheck
  clear hcheck
  go_enter Tryz.func20, Tryz.ntmps20
  go_wp2_with fail
  obtain ⟨n1, n2, n3, n4⟩ := new_facts w #[Value.slice (some ⟨lf, 0, none⟩) (1 : Nat) lc] 63
  generalize w.alloc (.cells #[Value.slice (some ⟨lf, 0, none⟩) (1 : Nat) lc] 63) = W1 at *
  obtain ⟨m1, m2, m3, m4⟩ := new_facts W1 #[Value.slice (some ⟨b, 0, none⟩) (1 : Nat) 1, Value.slice none 0 0, Value.int .i64 1] 69
  rw [n3] at m1 m2 m3
  generalize W1.alloc (.cells #[Value.slice (some ⟨b, 0, none⟩) (1 : Nat) 1, Value.slice none 0 0, Value.int .i64 1] 69) = W2 at *
  have hbW : Below w.heap.size w W2 := below_then n4 (by omega) m4
  refine (Hcheck.out W2 (hq.kept (kept_below hbW))).mono ?_
  rintro e w3 ⟨rfl, hb3⟩
  have hb03 := below_then hbW (by omega) hb3
  have hs3 := hb3.size
  have l3 : w3.cell? ⟨w.heap.size, 0, none⟩ = some (.slice (some ⟨lf, 0, none⟩) (1 : Nat) lc) := kept_below hb3 _ _ (kept_below m4 _ _ (n1 0 _ rfl))
  have qa3 : ∀ (j : Nat) u, (askAb b)[j]? = some u → w3.cell? ⟨w.heap.size + 1, j, none⟩ = some u := fun j u hu => kept_below hb3 _ _ (m1 j u hu)
  have h3 := h.kept (kept_below hb03)
  have hm3 := kept_below hb03 _ _ hm
  have hl3 := hl.kept (kept_below hb03)
  have hq3 := hq.kept (kept_below hb03)
  have H3 := Lib.hid h3
  have Hm3 := Lib.hid hm3
  have Hl3 := Lib.hid hl3
  have Hq3 := Lib.hid hq3
  have Hqa3 := Lib.hid qa3
  have Hb03 := Lib.hid hb03
  clear h hm hl hq h3 hm3 hl3 hq3 qa3 hb03 hb3 n1 n2 n4 m1 m2 m4 hbW
  go_wp2_with (first | (go_at_call 38; fail))
  have L3 := Lib.hid l3
  clear l3
  obtain ⟨a1, a2, a3, a4⟩ := new_facts w3 #[Value.slice none 0 0] 60
  generalize w3.alloc (.cells #[Value.slice none 0 0] 60) = W4 at *
  obtain ⟨b1, b2, b3, b4⟩ := new_facts W4 #[Value.func (.func 38) #[] #[.pointer (some ⟨w.heap.size + 1, 0, none⟩), .pointer (some ⟨w3.heap.size, 0, none⟩), .pointer (some ⟨w.heap.size, 0, none⟩), .pointer (some ⟨w3.heap.size + 1, 0, none⟩)]] 92
  generalize W4.alloc (.cells #[Value.func (.func 38) #[] #[.pointer (some ⟨w.heap.size + 1, 0, none⟩), .pointer (some ⟨w3.heap.size, 0, none⟩), .pointer (some ⟨w.heap.size, 0, none⟩), .pointer (some ⟨w3.heap.size + 1, 0, none⟩)]] 92) = W5 at *
  rw [a3] at b1 b2 b3
  have hb35 : Below w3.heap.size w3 W5 := below_then a4 (by omega) b4
  refine (run_nil fv lf lc (w.heap.size + 1) w3.heap.size w.heap.size (w3.heap.size + 1) b m W5 (H3.out.kept (kept_below hb35)) (kept_below hb35 _ _ Hm3.out) (Hl3.out.kept (kept_below hb35)) (Hq3.out.kept (kept_below hb35)) (kept_below hb35 _ _ L3.out) (fun j u hu => kept_below hb35 _ _ (Hqa3.out j u hu)) (kept_below b4 _ _ (a1 0 _ rfl)) ((b4.frozen (p := ⟨w3.heap.size, 0, none⟩) (by show w3.heap.size < _; omega)).trans (a2 0)) (by omega) (b1 0 _ rfl)).mono ?_
  rintro e w6 ⟨rfl, hb6, g6, c6, ho6⟩
  have hbe := below_then Hb03.out (by have := Hb03.out.size; omega) (hb35.trans (hb6.mono (Nat.le_refl _)))
  have Hbe := Lib.hid hbe
  clear hbe hb6 hb35 a1 a2 a4 b1 b2 b4
  go_wp2
  go_ret2
  exact ⟨g6, c6, rfl, Hbe.out⟩
end Go.Proofs.YthcbchgdfldckaaGreatDoor
