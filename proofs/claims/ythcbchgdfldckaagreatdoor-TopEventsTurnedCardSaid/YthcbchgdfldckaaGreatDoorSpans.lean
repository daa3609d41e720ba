/- The walks of package span that the concrete run needs: sets of none and of one span. -/
import Derived.Test.YthcbchgdfldckaaGreatDoorOwn
import Derived.Test.YthcbchgdfldckaaGreatDoorShelf4
namespace Go.Proofs.YthcbchgdfldckaaGreatDoor
open Go.RowKit Go.Lib

theorem own_mono' {w : World} {base base' : Nat} {e : TypeId} {size n : Nat} {v : Value} {xs : List Value} (h : w.ownsRow base e size v n xs) (hb : base' ≤ base) : w.ownsRow base' e size v n xs := by
  obtain ⟨h1, h2⟩ := h
  refine ⟨h1, ?_⟩
  rcases h2 with h2 | ⟨g, c, cur, a1, a2, a3⟩
  · exact .inl h2
  · exact .inr ⟨g, c, cur, a1, Nat.le_trans hb a2, a3⟩
theorem own_form1 {w : World} {base n : Nat} {e : TypeId} {size : Nat} {v : Value} {xs : List Value} (h : w.ownsRow base e size v (n + 1) xs) : ∃ g c, v = .slice (some ⟨g, 0, none⟩) (n + 1) c ∧ ∀ (j : Nat) u, xs[j]? = some u → w.cell? ⟨g, j, none⟩ = some u := by
  rcases h.2 with ⟨_, h0⟩ | ⟨g, c, cur, e1, _⟩
  · omega
  · refine ⟨g, c, e1, fun j u hu => ?_⟩
    subst e1
    have := h.cells (g := g) rfl j u hu
    rw [Go.WideShapes.add_plain] at this
    simpa using this
theorem own_formp {w : World} {base n : Nat} {e : TypeId} {size : Nat} {v : Value} {xs : List Value} (h : w.ownsRow base e size v n xs) (h0 : 0 < n) : ∃ g c, v = .slice (some ⟨g, 0, none⟩) n c ∧ n ≤ c ∧ g < w.heap.size ∧ base ≤ g ∧ ∀ (j : Nat) u, xs[j]? = some u → w.cell? ⟨g, j, none⟩ = some u := by
  rcases h.2 with ⟨_, h1⟩ | ⟨g, c, cur, e1, hb, hg, hnc, _⟩
  · omega
  · refine ⟨g, c, e1, hnc, (Array.getElem?_eq_some_iff.1 hg).1, hb, fun j u hu => ?_⟩
    subst e1
    have := h.cells (g := g) rfl j u hu
    rw [Go.WideShapes.add_plain] at this
    simpa using this
theorem Tryz.info59 : (Tryz.prog.info? 59).map (fun i => (i.zero, i.size, i.bytes)) = some (some (.agg #[.int .i64 0, .int .i64 0]), 2, 16) := by kernel_rfl

set_option maxHeartbeats 1000000 in
set_option maxRecDepth 100000 in
theorem insertion_span (A : Option Addr) (n c m : Nat) (f : Value) (w : World) (hm : m ≤ 1) :
    Calls Tryz.prog 222 #[.slice A n c, .int .i64 0, .int .i64 m, f] w fun e w' => e = .returned (.tuple #[]) ∧ w' = w := by
  go_enter Tryz.func222, Tryz.ntmps222
  go_wp2
  go_loop [8] (fun s => s = .int .i64 1) (fun _ => 0)
  case atStart => rfl
  case round =>
    subst hrel
    go_wp2
    go_end0
    exact ⟨rfl, rfl⟩
set_option maxHeartbeats 1000000 in
set_option maxRecDepth 100000 in
theorem pdq_span (A : Option Addr) (n c m : Nat) (k : Int) (f : Value) (w : World) (hm : m ≤ 1) :
    Calls Tryz.prog 161 #[.slice A n c, .int .i64 0, .int .i64 m, .int .i64 k, f] w fun e w' => e = .returned (.tuple #[]) ∧ w' = w := by
  go_enter Tryz.func161, Tryz.ntmps161
  go_wp2
  go_loop [1, 2, 3] (fun s1 s2 s3 => s1 = .int .i64 0 ∧ s2 = .int .i64 m ∧ s3 = .int .i64 k) (fun _ _ _ => 0)
  case atStart => exact ⟨rfl, rfl, rfl⟩
  case round =>
    obtain ⟨rfl, rfl, rfl⟩ := hrel
    go_wp2_with fail
    refine (insertion_span A n c m f w hm).mono ?_
    rintro e w' ⟨rfl, rfl⟩
    go_wp2
    (try simp only [Exit.inBlock, Exit.then])
    refine bodyPost_ret (results_none rfl _ _ _) rfl ?_
    exact ⟨rfl, rfl⟩
set_option maxHeartbeats 1000000 in
set_option maxRecDepth 100000 in
theorem sort_span (A : Option Addr) (n c : Nat) (f : Value) (w : World) (hn : n ≤ 1) :
    Calls Tryz.prog 107 #[.slice A n c, f] w fun e w' => e = .returned (.tuple #[]) ∧ w' = w := by
  go_enter Tryz.func107, Tryz.ntmps107
  go_wp2_with fail
  refine (Tryz.bits_Len _ _ (by omega) (by omega)).mono ?_
  rintro e w' ⟨rfl, rfl⟩
  go_wp2_with fail
  refine (pdq_span A n c n _ f _ hn).mono ?_
  rintro e w' ⟨rfl, rfl⟩
  go_wp2
  go_end0
  exact ⟨rfl, rfl⟩

set_option maxHeartbeats 1000000 in
set_option maxRecDepth 100000 in
theorem norm_none (A : Option Addr) (c : Nat) (w : World) :
    Calls Tryz.prog 65 #[.slice A 0 c] w fun e w' => e = .returned (.slice none 0 0) ∧ w' = w := by
  go_enter Tryz.func65, Tryz.ntmps65
  go_wp2
  go_loop [3, 12] (fun s3 s => s3 = .slice none 0 0 ∧ s = .int .i64 0) (fun _ _ => 0)
  case atStart => exact ⟨rfl, rfl⟩
  case round =>
    obtain ⟨rfl, rfl⟩ := hrel
    go_wp2_with fail
    refine (sort_span none 0 0 _ w (by omega)).mono ?_
    rintro e w' ⟨rfl, rfl⟩
    go_wp2
    go_loop [6, 27] (fun s6 s => s6 = .slice none 0 0 ∧ s = .int .i64 0) (fun _ _ => 0)
    case atStart => exact ⟨rfl, rfl⟩
    case round =>
      obtain ⟨rfl, rfl⟩ := hrel
      go_wp2
      go_ret
      exact ⟨rfl, rfl⟩

set_option maxHeartbeats 1000000 in
set_option maxRecDepth 100000 in
theorem span_check (a b : Int) (w : World) (ha : 0 ≤ a) (hb : 0 ≤ b) (hs : a + b ≤ 65536) :
    Calls Tryz.prog 63 #[.agg #[.int .i64 a, .int .i64 b]] w fun e w' => e = .returned (.int .i64 0) ∧ Below w.heap.size w w' := by
  go_enter Tryz.func63, Tryz.ntmps63
  go_wp2
  go_ret
  exact ⟨rfl, (Below.refl _ _).alloc (Nat.le_refl _) _⟩
set_option maxHeartbeats 1000000 in
set_option maxRecDepth 100000 in
theorem span_good (a b : Int) (w : World) (ha : 0 ≤ a) (hb : 0 < b) (hs : a + b ≤ 65536) :
    Calls Tryz.prog 106 #[.agg #[.int .i64 a, .int .i64 b]] w fun e w' => e = .returned (.bool true) ∧ Below w.heap.size w w' := by
  go_enter Tryz.func106, Tryz.ntmps106
  go_wp2_with fail
  refine (span_check a b _ ha (by omega) hs).mono ?_
  rintro e w' ⟨rfl, hb1⟩
  have z : w'.cell? ⟨w.heap.size, 1, none⟩ = some (.int .i64 b) := by rw [hb1.cell (p := ⟨w.heap.size, 1, none⟩) (by show w.heap.size < _; simp)]; simp
  have hbl := ((Below.refl w.heap.size w).alloc (Nat.le_refl _) (.cells #[.int .i64 a, .int .i64 b] 59))
  have hbl2 := below_then hbl hbl.size hb1
  go_wp2
  go_ret
  exact ⟨rfl, hbl2⟩

set_option maxHeartbeats 1000000 in
set_option maxRecDepth 100000 in
/-- A set of one good span. -/
theorem norm_one (b o c : Nat) (x y : Int) (w : World) (h1 : w.cell? ⟨b, o, none⟩ = some (.int .i64 x)) (h2 : w.cell? ⟨b, o + 1, none⟩ = some (.int .i64 y)) (hx : 0 ≤ x) (hy : 0 < y) (hs : x + y ≤ 65536) :
    Calls Tryz.prog 65 #[.slice (some ⟨b, o, none⟩) (1 : Nat) c] w fun e w' => ∃ v, e = .returned v ∧ w'.ownsRow w.heap.size 59 2 v 1 [.int .i64 x, .int .i64 y] ∧ Below w.heap.size w w' := by
  go_enter Tryz.func65, Tryz.ntmps65
  go_wp2
  go_loopw [3, 12] (fun s3 s12 wr => ∃ k : Nat, k ≤ 1 ∧ s12 = .int .i64 k ∧ wr.ownsRow w.heap.size 59 2 s3 k (if k = 0 then [] else [.int .i64 x, .int .i64 y]) ∧ Below w.heap.size w wr) (fun _ s12 _ => 1 - (intOf s12).toNat)
  case atStart => exact ⟨0, by omega, rfl, World.ownsRow_nil _ _ _ _, Below.refl _ _⟩
  case round =>
    obtain ⟨k, hk, rfl, hown, hb⟩ := hrel
    rcases (by omega : k = 0 ∨ k = 1) with rfl | rfl
    · have q1 : wr.cell? ⟨b, o, none⟩ = some (.int .i64 x) := kept_below hb _ _ h1
      have q2 : wr.cell? ⟨b, o + 1, none⟩ = some (.int .i64 y) := kept_below hb _ _ h2
      have hsz := hb.size
      go_wp2_with fail
      refine (span_good x y _ hx hy hs).mono ?_
      rintro e w2 ⟨rfl, hb2⟩
      have hb3 := hb.alloc hsz (.cells #[.int .i64 x, .int .i64 y] 59)
      have hb4 := below_then hb3 hb3.size hb2
      have z1 : w2.cell? ⟨wr.heap.size, 0, none⟩ = some (.int .i64 x) := by rw [hb2.cell (p := ⟨wr.heap.size, 0, none⟩) (by show wr.heap.size < _; simp)]; simp
      have z2 : w2.cell? ⟨wr.heap.size, 1, none⟩ = some (.int .i64 y) := by rw [hb2.cell (p := ⟨wr.heap.size, 1, none⟩) (by show wr.heap.size < _; simp)]; simp
      have hown2 := own_below (hown.alloc (.cells #[.int .i64 x, .int .i64 y] 59)) hb2
      have hsz4 := hb4.size
      clear hb2 hb3 hb hown q1 q2
      go_wp2_with (at_builtin; refine wpl_push _ rfl (.tmp 18) (.tmp 20) 53 rfl w.heap.size 59 _ 2 16 Tryz.underlying53 Tryz.info59 rfl (by decide) u3 0 _ rfl (hown2.alloc _) ⟨w2.heap.size, 0, none⟩ 1 1 [.int .i64 x, .int .i64 y] (by simp [Act.eval]) rfl (news_new w2 #[.int .i64 x, .int .i64 y] 59) (by simp [Value.oneCell']) (by decide) (by omega) (by decide) (by simp; omega) ?_; intro g cap w1 hown1 hg1 hat1 hlt1)
      refine ⟨⟨1, by omega, by go_num, hown1, below_push (hb4.alloc hsz4 _) hg1 (by simp; omega) (own_base hown2)⟩, by simp [intOf]⟩
    · obtain ⟨g, cp, rfl, hcells⟩ := own_form1 hown
      have hsz := hb.size
      rw [if_neg (by omega)] at hown hcells
      have q1 : wr.cell? ⟨g, 0, none⟩ = some (.int .i64 x) := hcells 0 _ rfl
      have q2 : wr.cell? ⟨g, 1, none⟩ = some (.int .i64 y) := hcells 1 _ rfl
      go_wp2_with fail
      refine (sort_span _ 1 _ _ wr (by omega)).mono ?_
      rintro e w' ⟨rfl, rfl⟩
      go_wp2
      go_loopw [6, 27] (fun s6 s27 wr2 => ∃ k : Nat, k ≤ 1 ∧ s27 = .int .i64 k ∧ wr2.ownsRow w'.heap.size 59 2 s6 k (if k = 0 then [] else [.int .i64 x, .int .i64 y]) ∧ Below w'.heap.size w' wr2) (fun _ s27 _ => 1 - (intOf s27).toNat)
      case atStart => exact ⟨0, by omega, rfl, World.ownsRow_nil _ _ _ _, Below.refl _ _⟩
      case round =>
        obtain ⟨k, hk, rfl, hown2, hb2⟩ := hrel
        rcases (by omega : k = 0 ∨ k = 1) with rfl | rfl
        · have p1 := kept_below hb2 _ _ q1
          have p2 := kept_below hb2 _ _ q2
          have hsz2 := hb2.size
          obtain ⟨A6, c6, rfl⟩ := own_slice hown2
          go_wp2
          go_region
          have hown3 : ((wr.alloc (.cells #[.int .i64 x, .int .i64 y] 59)).drew).ownsRow w'.heap.size 59 2 (.slice A6 0 c6) 0 [] := hown2.alloc _
          have hb3 : Below w'.heap.size w' ((wr.alloc (.cells #[.int .i64 x, .int .i64 y] 59)).drew) := (hb2.alloc hsz2 _).drew
          have z1 : ((wr.alloc (.cells #[.int .i64 x, .int .i64 y] 59)).drew).cell? ⟨wr.heap.size, 0, none⟩ = some (.int .i64 x) := by simp
          have z2 : ((wr.alloc (.cells #[.int .i64 x, .int .i64 y] 59)).drew).cell? ⟨wr.heap.size, 1, none⟩ = some (.int .i64 y) := by simp
          generalize (wr.alloc (.cells #[.int .i64 x, .int .i64 y] 59)).drew = W at *
          have hsz3 := hb3.size
          clear hown2 hb2 p1 p2
          go_wp2_with (at_builtin; refine wpl_push _ rfl (.tmp 64) (.tmp 66) 53 rfl w'.heap.size 59 _ 2 16 Tryz.underlying53 Tryz.info59 rfl (by decide) _ 0 _ rfl (hown3.alloc _) ⟨W.heap.size, 0, none⟩ 1 1 [.int .i64 x, .int .i64 y] (by simp [Act.eval]) rfl (news_new W #[.int .i64 x, .int .i64 y] 59) (by simp [Value.oneCell']) (by decide) (by omega) (by decide) (by simp; omega) ?_; intro g cap w1 hown1 hg1 hat1 hlt1)
          refine ⟨⟨1, by omega, by go_num, hown1, ?_⟩, by simp [intOf]⟩
          exact below_push (hb3.alloc hsz3 _) hg1 (by simp; omega) (own_base hown3)
        · rw [if_neg (by omega)] at hown2
          obtain ⟨A6, c6, rfl⟩ := own_slice hown2
          go_wp2
          go_ret
          exact ⟨_, rfl, own_mono' hown2 hsz, below_then hb hsz hb2⟩
end Go.Proofs.YthcbchgdfldckaaGreatDoor

/- More walks of package span that the concrete run needs. -/
namespace Go.Proofs.YthcbchgdfldckaaGreatDoor
open Go.RowKit Go.Lib

set_option maxHeartbeats 1000000 in
set_option maxRecDepth 100000 in
theorem meet_none (A : Option Addr) (c0 b o c : Nat) (x y : Int) (w : World) (h1 : w.cell? ⟨b, o, none⟩ = some (.int .i64 x)) (h2 : w.cell? ⟨b, o + 1, none⟩ = some (.int .i64 y)) (hx : 0 ≤ x) (hy : 0 < y) (hs : x + y ≤ 65536) :
    Calls Tryz.prog 523 #[.slice A 0 c0, .slice (some ⟨b, o, none⟩) (1 : Nat) c] w fun e w' => e = .returned (.slice none 0 0) ∧ Below w.heap.size w w' := by
  go_enter Tryz.func523, Tryz.ntmps523
  go_wp2_with fail
  refine (norm_none A c0 w).mono ?_
  rintro e w1 ⟨rfl, rfl⟩
  go_wp2_with fail
  refine (norm_one b o c x y _ h1 h2 hx hy hs).mono ?_
  rintro e w2 ⟨v, rfl, hown, hb⟩
  obtain ⟨g, cp, rfl, hcells⟩ := own_form1 hown
  clear hown hcells
  go_wp2
  go_loop [5, 6] (fun s5 s => s5 = .slice none 0 0 ∧ s = .int .i64 0) (fun _ _ => 0)
  case atStart => exact ⟨rfl, rfl⟩
  case round =>
    obtain ⟨rfl, rfl⟩ := hrel
    go_wp2
    go_ret
    exact ⟨rfl, hb⟩

set_option maxHeartbeats 1000000 in
set_option maxRecDepth 100000 in
theorem glue_one (b o c : Nat) (x y : Int) (w : World) (h1 : w.cell? ⟨b, o, none⟩ = some (.int .i64 x)) (h2 : w.cell? ⟨b, o + 1, none⟩ = some (.int .i64 y)) (hx : 0 ≤ x) (hy : 0 < y) (hs : x + y ≤ 65536) :
    Calls Tryz.prog 250 #[.slice (some ⟨b, o, none⟩) (1 : Nat) c] w fun e w' => ∃ v, e = .returned v ∧ w'.ownsRow w.heap.size 59 2 v 1 [.int .i64 x, .int .i64 y] ∧ Below w.heap.size w w' := by
  go_enter Tryz.func250, Tryz.ntmps250
  go_wp2
  go_loopw [3, 9] (fun s3 s9 wr => ∃ k : Nat, k ≤ 1 ∧ s9 = .int .i64 k ∧ wr.ownsRow w.heap.size 59 2 s3 k (if k = 0 then [] else [.int .i64 x, .int .i64 y]) ∧ Below w.heap.size w wr) (fun _ s9 _ => 1 - (intOf s9).toNat)
  case atStart => exact ⟨0, by omega, rfl, World.ownsRow_nil _ _ _ _, Below.refl _ _⟩
  case round =>
    obtain ⟨k, hk, rfl, hown, hb⟩ := hrel
    obtain ⟨A3, c3, rfl⟩ := own_slice hown
    rcases (by omega : k = 0 ∨ k = 1) with rfl | rfl
    · have q1 : wr.cell? ⟨b, o, none⟩ = some (.int .i64 x) := kept_below hb _ _ h1
      have q2 : wr.cell? ⟨b, o + 1, none⟩ = some (.int .i64 y) := kept_below hb _ _ h2
      have hsz := hb.size
      go_wp2_with fail
      refine (span_good x y _ hx hy hs).mono ?_
      rintro e w2 ⟨rfl, hb2⟩
      have hb3 := hb.alloc hsz (.cells #[.int .i64 x, .int .i64 y] 59)
      have hb4 := below_then hb3 hb3.size hb2
      have z1 : w2.cell? ⟨wr.heap.size, 0, none⟩ = some (.int .i64 x) := by rw [hb2.cell (p := ⟨wr.heap.size, 0, none⟩) (by show wr.heap.size < _; simp)]; simp
      have z2 : w2.cell? ⟨wr.heap.size, 1, none⟩ = some (.int .i64 y) := by rw [hb2.cell (p := ⟨wr.heap.size, 1, none⟩) (by show wr.heap.size < _; simp)]; simp
      have hown2 := own_below (hown.alloc (.cells #[.int .i64 x, .int .i64 y] 59)) hb2
      clear hb2 hb3 hb hown q1 q2
      go_wp2
      go_region
      have hown3 : (w2.drew).ownsRow w.heap.size 59 2 (.slice A3 0 c3) 0 [] := hown2
      have hb3 : Below w.heap.size w (w2.drew) := hb4.drew
      have z3 : (w2.drew).cell? ⟨wr.heap.size, 0, none⟩ = some (.int .i64 x) := z1
      have z4 : (w2.drew).cell? ⟨wr.heap.size, 1, none⟩ = some (.int .i64 y) := z2
      generalize w2.drew = W at *
      have hsz3 := hb3.size
      clear hown2 hb4 z1 z2
      go_wp2_with (at_builtin; refine wpl_push _ rfl (.tmp 41) (.tmp 43) 53 rfl w.heap.size 59 _ 2 16 Tryz.underlying53 Tryz.info59 rfl (by decide) _ 0 _ rfl (hown3.alloc _) ⟨W.heap.size, 0, none⟩ 1 1 [.int .i64 x, .int .i64 y] (by simp [Act.eval]) rfl (news_new W #[.int .i64 x, .int .i64 y] 59) (by simp [Value.oneCell']) (by decide) (by omega) (by decide) (by simp; omega) ?_; intro g cap w1 hown1 hg1 hat1 hlt1)
      refine ⟨⟨1, by omega, by go_num, hown1, ?_⟩, by simp [intOf]⟩
      exact below_push (hb3.alloc hsz3 _) hg1 (by simp; omega) (own_base hown3)
    · rw [if_neg (by omega)] at hown
      go_wp2
      go_ret
      exact ⟨_, rfl, hown, hb⟩

set_option maxHeartbeats 1000000 in
set_option maxRecDepth 100000 in
theorem slice_one (b o c : Nat) (x y : Int) (w : World) (h1 : w.cell? ⟨b, o, none⟩ = some (.int .i64 x)) (h2 : w.cell? ⟨b, o + 1, none⟩ = some (.int .i64 y)) (hx : 0 ≤ x) (hy : 0 < y) (hs : x + y ≤ 65536) :
    Calls Tryz.prog 308 #[.slice (some ⟨b, o, none⟩) (1 : Nat) c, .int .i64 0, .int .i64 y] w fun e w' => ∃ v, e = .returned v ∧ w'.ownsRow w.heap.size 59 2 v 1 [.int .i64 x, .int .i64 y] ∧ Below w.heap.size w w' := by
  go_enter Tryz.func308, Tryz.ntmps308
  go_wp2
  go_loopw [1, 2, 7, 19] (fun s1 s2 s7 s19 wr => s1 = .int .i64 0 ∧ s2 = .int .i64 y ∧ s7 = .slice none 0 0 ∧ s19 = .int .i64 0 ∧ wr = w) (fun _ _ _ _ _ => 0)
  case atStart => exact ⟨rfl, rfl, rfl, rfl, rfl⟩
  case round =>
    obtain ⟨rfl, rfl, rfl, rfl, rfl⟩ := hrel
    go_wp2_with fail
    refine (span_good x y _ hx hy hs).mono ?_
    rintro e w2 ⟨rfl, hb2⟩
    have hb3 := (Below.refl wr.heap.size wr).alloc (Nat.le_refl _) (.cells #[.int .i64 x, .int .i64 y] 59)
    have hb4 := below_then hb3 hb3.size hb2
    have z1 : w2.cell? ⟨wr.heap.size, 0, none⟩ = some (.int .i64 x) := by rw [hb2.cell (p := ⟨wr.heap.size, 0, none⟩) (by show wr.heap.size < _; simp)]; simp
    have z2 : w2.cell? ⟨wr.heap.size, 1, none⟩ = some (.int .i64 y) := by rw [hb2.cell (p := ⟨wr.heap.size, 1, none⟩) (by show wr.heap.size < _; simp)]; simp
    have hsz4 := hb4.size
    clear hb2 hb3
    go_wp2_with (at_builtin; refine wpl_push _ rfl (.tmp 40) (.tmp 47) 53 rfl wr.heap.size 59 _ 2 16 Tryz.underlying53 Tryz.info59 rfl (by decide) (.slice none 0 0) 0 [] rfl (World.ownsRow_nil _ _ _ _) ⟨w2.heap.size, 0, none⟩ 1 1 [.int .i64 x, .int .i64 y] (by simp [Act.eval]) rfl (news_new w2 #[.int .i64 x, .int .i64 y] 59) (by simp [Value.oneCell']) (by decide) (by omega) (by decide) (by simp; omega) ?_; intro g cap w1 hown1 hg1 hat1 hlt1)
    obtain ⟨g', cp', e', hcells⟩ := own_form1 hown1
    cases e'
    have hb5 := below_push (hb4.alloc hsz4 (.cells #[.int .i64 x, .int .i64 y] 59)) hg1 (by simp; omega) (fun k hk => by simp [Value.ownBlock] at hk)
    have hsz5 := hb5.size
    refine (glue_one g 0 cap x y w1 (hcells 0 _ rfl) (hcells 1 _ rfl) hx hy hs).mono ?_
    rintro e w3 ⟨v, rfl, hown3, hb3⟩
    obtain ⟨A4, c4, rfl⟩ := own_slice hown3
    go_wp2
    go_ret
    exact ⟨_, rfl, own_mono' hown3 hsz5, below_then hb5 hsz5 hb3⟩
end Go.Proofs.YthcbchgdfldckaaGreatDoor
