/- Walks of package find that the concrete run needs. -/
import Derived.Test.YthcbchgdfldckaaGreatDoorReads
import Derived.Test.YthcbchgdfldckaaGreatDoorNamed
namespace Go.Proofs.YthcbchgdfldckaaGreatDoor
open Go.RowKit Go.Lib

/-- Not printable. -/
def odd (x : Nat) : Bool := decide (x < 32 ∨ 126 < x)
set_option maxRecDepth 100000 in
theorem odd_text (w : World) : PredGrows Tryz.prog 111 #[] odd w := by
  intro W x hx hb
  have h : Calls Tryz.prog 111 #[.int .i32 x] W fun e w' => e = .returned (.bool (odd x)) ∧ Below W.heap.size W w' := by
    by_cases h1 : (x : Int) < 32
    · have ho : odd x = true := by unfold odd; simp; omega
      go_enter Tryz.func111, Tryz.ntmps111
      go_wp2
      go_ret
      exact ⟨by first | rfl | (rw [ho]; rfl), Below.refl _ _⟩
    · by_cases h2 : (126 : Int) < x
      · have ho : odd x = true := by unfold odd; simp; omega
        go_enter Tryz.func111, Tryz.ntmps111
        go_wp2
        go_ret
        exact ⟨by first | rfl | (rw [ho]; rfl), Below.refl _ _⟩
      · have ho : odd x = false := by unfold odd; simp; omega
        go_enter Tryz.func111, Tryz.ntmps111
        go_wp2
        go_ret
        exact ⟨by first | rfl | (rw [ho]; rfl), Below.refl _ _⟩
  simpa [encR] using h
set_option maxRecDepth 100000 in
theorem text_none (w : World) :
    Calls Tryz.prog 66 #[.string ⟨#[]⟩] w fun e w' => e = .returned (.bool true) ∧ Below w.heap.size w w' := by
  go_enter Tryz.func66, Tryz.ntmps66
  go_wp2_with fail
  refine (Tryz.strings_ContainsFunc_grows 111 #[] (fun _ _ => rfl) odd _ w (odd_text w)).mono ?_
  rintro e w' ⟨rfl, hb⟩
  have h0 : decide (0 ≤ Lib.idxFunc odd true ⟨#[]⟩) = false := by rfl
  rw [h0]
  go_wp2
  go_ret
  exact ⟨rfl, hb⟩

/-- The finding that the concrete run makes: of kind 'text', of two bytes. -/
def kText : ByteArray := ⟨#[116, 101, 120, 116]⟩
def findCells (at_ bytes : Value) : Array Value := #[.string kText, .slice none 0 0, at_, bytes, .string ⟨#[]⟩, .int .i64 0, .int .i64 4294967295]
set_option maxHeartbeats 1000000 in
set_option maxRecDepth 100000 in
theorem form_any (A B : Option Addr) (n c m d : Nat) (w : World) (hn : n ≤ 4096) (hm : m ≤ 4096) :
    Calls Tryz.prog 34 #[.agg (findCells (.slice A n c) (.slice B m d))] w fun e w' => e = .returned (.int .i64 0) ∧ Below w.heap.size w w' := by
  unfold findCells
  go_enter Tryz.func34, Tryz.ntmps34
  go_wp2_with fail
  refine (named_any kText _ (by decide)).mono ?_
  rintro e w1 ⟨rfl, rfl⟩
  rw [show isName kText.data.toList = true from by decide]
  have hb0 : Below w.heap.size w (w.alloc (.cells #[.string kText, .slice none 0 0, .slice A n c, .slice B m d, .string ⟨#[]⟩, .int .i64 0, .int .i64 4294967295] 55)) := (Below.refl _ _).alloc (Nat.le_refl _) _
  go_wp2_with fail
  refine (text_none _).mono ?_
  rintro e w2 ⟨rfl, hb⟩
  have hb2 := below_then hb0 hb0.size hb
  have z5 : w2.cell? ⟨w.heap.size, 5, none⟩ = some (.int .i64 0) := by rw [hb.cell (p := ⟨w.heap.size, 5, none⟩) (by show w.heap.size < _; simp)]; simp
  have z6 : w2.cell? ⟨w.heap.size, 6, none⟩ = some (.int .i64 4294967295) := by rw [hb.cell (p := ⟨w.heap.size, 6, none⟩) (by show w.heap.size < _; simp)]; simp
  go_wp2
  go_ret
  exact ⟨rfl, hb2⟩
set_option maxHeartbeats 1000000 in
set_option maxRecDepth 100000 in
theorem checkVia_none (w : World) :
    Calls Tryz.prog 112 #[.slice none 0 0] w fun e w' => e = .returned (.int .i64 0) ∧ w' = w := by
  go_enter Tryz.func112, Tryz.ntmps112
  go_wp2
  go_loop [8] (fun s => s = .int .i64 0) (fun _ => 0)
  case atStart => rfl
  case round =>
    subst hrel
    go_wp2
    go_ret
    exact ⟨rfl, rfl⟩
set_option maxHeartbeats 1000000 in
set_option maxRecDepth 100000 in
theorem open_none (s : Value) (w : World) :
    Calls Tryz.prog 35 #[s, .slice none 0 0] w fun e w' => e = .returned (.tuple #[s, .int .i64 0]) ∧ w' = w := by
  go_enter Tryz.func35, Tryz.ntmps35
  go_wp2_with (first | (go_at_call 67; go_in))
  refine (checkVia_none w).mono ?_
  rintro e w' ⟨rfl, rfl⟩
  go_wp2
  go_loop [0, 20] (fun s0 s20 => s0 = s ∧ s20 = .int .i64 0) (fun _ _ => 0)
  case atStart => exact ⟨rfl, rfl⟩
  case round =>
    obtain ⟨rfl, rfl⟩ := hrel
    go_wp2
    go_ret2
    exact ⟨rfl, rfl⟩

theorem new_facts (w : World) (cs : Array Value) (t : TypeId) : (∀ (j : Nat) u, cs[j]? = some u → (w.alloc (.cells cs t)).cell? ⟨w.heap.size, j, none⟩ = some u) ∧ (∀ j, (w.alloc (.cells cs t)).frozen? ⟨w.heap.size, j, none⟩ = false) ∧ (w.alloc (.cells cs t)).heap.size = w.heap.size + 1 ∧ Below w.heap.size w (w.alloc (.cells cs t)) :=
  ⟨fun j u hu => by rw [cell_of_row _ _ j _ _ (0, 0) (heap_alloc_new _ _)]; exact hu, fun j => frozen_of_row _ _ j _ _ (heap_alloc_new _ _), by simp, (Below.refl _ _).alloc (Nat.le_refl _) _⟩
theorem cell_set_block {w : World} {a b j : Nat} (o : Nat) (v : Value) (h : b ≠ a) : (w.setCell ⟨a, o, none⟩ v).cell? ⟨b, j, none⟩ = w.cell? ⟨b, j, none⟩ := by
  have := heap_setCell_other w ⟨a, o, none⟩ b v h
  simp only [World.cell?, this]
/-- The finding made. -/
def FindIs (w : World) (fv : Value) (f : Nat → Int) (x y : Nat) : Prop := ∃ g c1 h c2, fv = .agg (findCells (.slice (some ⟨g, 0, none⟩) (1 : Nat) c1) (.slice (some ⟨h, 0, none⟩) y c2)) ∧ y ≤ c2 ∧
  w.cell? ⟨g, 0, none⟩ = some (.int .i64 x) ∧ w.cell? ⟨g, 1, none⟩ = some (.int .i64 y) ∧ ∀ j, j < y → w.cell? ⟨h, j, none⟩ = some (.int .u8 (f (x + j)))
theorem FindIs.kept {w w' : World} {fv : Value} {f : Nat → Int} {x y : Nat} (h : FindIs w fv f x y) (k : Kept w w') : FindIs w' fv f x y := by
  obtain ⟨g, c1, b, c2, e, h0, h1, h2, h3⟩ := h
  exact ⟨g, c1, b, c2, e, h0, k _ _ h1, k _ _ h2, fun j hj => k _ _ (h3 j hj)⟩
set_option maxHeartbeats 1000000 in
set_option maxRecDepth 100000 in
theorem make_any (B n b o c : Nat) (f : Nat → Int) (x y : Nat) (w : World) (hi : ImgAt w B n f) (h1 : w.cell? ⟨b, o, none⟩ = some (.int .i64 x)) (h2 : w.cell? ⟨b, o + 1, none⟩ = some (.int .i64 y)) (hxy : x + y ≤ n) (hy : 0 < y) (hy2 : y ≤ 4096) (hn : n ≤ 65536) :
    Calls Tryz.prog 19 #[.iface 125 (.pointer (some ⟨B, 0, none⟩)), .string kText, .slice none 0 0, .slice (some ⟨b, o, none⟩) (1 : Nat) c] w fun e w' => ∃ fv, e = .returned (.tuple #[fv, .int .i64 0]) ∧ FindIs w' fv f x y ∧ Below w.heap.size w w' := by
  go_enter Tryz.func19, Tryz.ntmps19
  go_wp2_with fail
  refine (Tryz.slices_Clone_string_nil _ _ _).mono ?_
  rintro e w1 ⟨rfl, rfl⟩
  have hb0 : Below w.heap.size w (w.alloc (.cells #[.string ⟨#[]⟩, .slice none 0 0, .slice none 0 0, .slice none 0 0, .string ⟨#[]⟩, .int .i64 0, .int .i64 0] 55)) := (Below.refl _ _).alloc (Nat.le_refl _) _
  have r0 : ∀ j u, (#[Value.string ⟨#[]⟩, .slice none 0 0, .slice none 0 0, .slice none 0 0, .string ⟨#[]⟩, .int .i64 0, .int .i64 0] : Array Value)[j]? = some u → (w.alloc (.cells #[.string ⟨#[]⟩, .slice none 0 0, .slice none 0 0, .slice none 0 0, .string ⟨#[]⟩, .int .i64 0, .int .i64 0] 55)).cell? ⟨w.heap.size, j, none⟩ = some u := fun j u hu => by
    rw [cell_of_row _ _ j _ _ (0, 0) (heap_alloc_new _ _)]; exact hu
  have f0 : ∀ j, (w.alloc (.cells #[.string ⟨#[]⟩, .slice none 0 0, .slice none 0 0, .slice none 0 0, .string ⟨#[]⟩, .int .i64 0, .int .i64 0] 55)).frozen? ⟨w.heap.size, j, none⟩ = false := fun j => frozen_of_row _ _ j _ _ (heap_alloc_new _ _)
  have hs0 : (w.alloc (.cells #[.string ⟨#[]⟩, .slice none 0 0, .slice none 0 0, .slice none 0 0, .string ⟨#[]⟩, .int .i64 0, .int .i64 0] 55)).heap.size = w.heap.size + 1 := by simp
  generalize w.alloc (.cells #[.string ⟨#[]⟩, .slice none 0 0, .slice none 0 0, .slice none 0 0, .string ⟨#[]⟩, .int .i64 0, .int .i64 0] 55) = W0 at *
  have i1 := hi.kept (kept_below hb0)
  have q1 := kept_below hb0 _ _ h1
  have q2 := kept_below hb0 _ _ h2
  generalize hr : w.heap.size = r at *
  go_wp2_with fail
  refine (clone_span b o c x y W0 q1 q2).mono ?_
  rintro e w2 ⟨v, rfl, hown, _, hb2⟩
  obtain ⟨g, c1, rfl, hc1, hg, hbg, hcells⟩ := own_formp hown (by omega)
  have x0 := hcells 0 _ rfl
  have y0 := hcells 1 _ rfl
  have hb02 := below_then hb0 (by omega) hb2
  have hsz2 := hb2.size
  have r2 := fun j u hu => kept_below hb2 _ _ (r0 j u hu)
  have f2 := fun j => (hb2.frozen (p := ⟨r, j, none⟩) (by show r < _; omega)).trans (f0 j)
  have i2 := i1.kept (kept_below hb2)
  clear hown hcells hb2 r0 f0 i1
  go_wp2_with fail
  refine (form_any (some ⟨g, 0, none⟩) none 1 c1 0 0 _ (by omega) (by omega)).mono ?_
  obtain ⟨n1, n2, n3, n4⟩ := new_facts w2 #[Value.string kText, Value.slice none 0 0, Value.slice (some ⟨g, 0, none⟩) (1 : Nat) c1, Value.slice none 0 0, Value.string ⟨#[]⟩, Value.int IntKind.i64 0, Value.int IntKind.i64 4294967295] 55
  generalize w2.alloc (.cells #[Value.string kText, Value.slice none 0 0, Value.slice (some ⟨g, 0, none⟩) (1 : Nat) c1, Value.slice none 0 0, Value.string ⟨#[]⟩, Value.int IntKind.i64 0, Value.int IntKind.i64 4294967295] 55) = W1 at *
  rintro e w3 ⟨rfl, hb3⟩
  have hb13 := below_then n4 (by omega) hb3
  have hb03 := below_then hb02 (by omega) hb13
  have hsz3 := hb3.size
  have r3 := fun j u hu => kept_below hb13 _ _ (r2 j u hu)
  have f3 := fun j => (hb13.frozen (p := ⟨r, j, none⟩) (by show r < _; omega)).trans (f2 j)
  have p3 := fun j u hu => kept_below hb3 _ _ (n1 j u hu)
  have fp3 := fun j => (hb3.frozen (p := ⟨w2.heap.size, j, none⟩) (by show w2.heap.size < _; omega)).trans (n2 j)
  have i3 := i2.kept (kept_below hb13)
  have x3 := kept_below hb13 _ _ x0
  have y3 := kept_below hb13 _ _ y0
  generalize hp : w2.heap.size = p at *
  clear hb3 hb13 n1 n2 r2 f2 i2 x0 y0 hb02
  go_wp2_with fail
  refine (open_none _ w3).mono ?_
  rintro e w' ⟨rfl, rfl⟩
  go_wp2_with fail
  refine (read_any B n b o c f x y w' i3 (by subst hr; exact kept_below hb03 _ _ h1) (by subst hr; exact kept_below hb03 _ _ h2) hxy hy hy2 hn).mono ?_
  rintro e w5 ⟨v, rfl, hown5, hb5⟩
  obtain ⟨k, c5, rfl, hc5, hk, hbk, hcells5⟩ := own_formp hown5 hy
  have hb05 := below_then hb03 (by omega) hb5
  have hsz5 := hb5.size
  have r5 := fun j u hu => kept_below hb5 _ _ (r3 j u hu)
  have f5 := fun j => (hb5.frozen (p := ⟨r, j, none⟩) (by show r < _; omega)).trans (f3 j)
  have p5 := fun j u hu => kept_below hb5 _ _ (p3 j u hu)
  have fp5 := fun j => (hb5.frozen (p := ⟨p, j, none⟩) (by show p < _; omega)).trans (fp3 j)
  have x5 := kept_below hb5 _ _ x3
  have y5 := kept_below hb5 _ _ y3
  clear hb5 hb03 r3 f3 p3 fp3 x3 y3 i3 hown5
  have pp0 := p5 0 _ rfl
  have pp1 := p5 1 _ rfl
  have pp2 := p5 2 _ rfl
  have pp3 := p5 3 _ rfl
  have pp4 := p5 4 _ rfl
  have pp5 := p5 5 _ rfl
  have pp6 := p5 6 _ rfl
  have rr0 := r5 0 _ rfl
  have rr1 := r5 1 _ rfl
  have rr2 := r5 2 _ rfl
  have rr3 := r5 3 _ rfl
  have rr4 := r5 4 _ rfl
  have rr5 := r5 5 _ rfl
  have rr6 := r5 6 _ rfl
  have fr0 := f5 0
  have fr1 := f5 1
  have fr2 := f5 2
  have fr3 := f5 3
  have fr4 := f5 4
  have fr5 := f5 5
  have fr6 := f5 6
  have fpp := fp5 3
  have hpr : p ≠ r := by omega
  have hgr : g ≠ r := by omega
  have hkr : k ≠ r := by omega
  have hkp : k ≠ p := by omega
  clear p5 r5 f5 fp5
  go_wp2
  refine bodyPost_ret (v := .tuple #[.agg (findCells (.slice (some ⟨g, 0, none⟩) (1 : Nat) c1) (.slice (some ⟨k, 0, none⟩) y c5)), .int .i64 0]) ?_ rfl ?_
  · rw [results_cell_tmp rfl]
    unfold findCells
    go_simp
  · refine ⟨_, rfl, ⟨g, c1, k, c5, rfl, hc5, ?_, ?_, fun j hj => ?_⟩, ?_⟩
    · rw [cell_set_block _ _ hgr, cell_set_block _ _ hgr, cell_set_block _ _ hgr, cell_set_block _ _ hgr, cell_set_block _ _ hgr, cell_set_block _ _ hgr, cell_set_block _ _ hgr, cell_set_block _ _ (by omega)]
      exact x5
    · rw [cell_set_block _ _ hgr, cell_set_block _ _ hgr, cell_set_block _ _ hgr, cell_set_block _ _ hgr, cell_set_block _ _ hgr, cell_set_block _ _ hgr, cell_set_block _ _ hgr, cell_set_block _ _ (by omega)]
      exact y5
    · rw [cell_set_block _ _ hkr, cell_set_block _ _ hkr, cell_set_block _ _ hkr, cell_set_block _ _ hkr, cell_set_block _ _ hkr, cell_set_block _ _ hkr, cell_set_block _ _ hkr, cell_set_block _ _ hkp]
      refine hcells5 j _ ?_
      unfold bytesAt
      rw [List.getElem?_map, List.getElem?_eq_getElem (by simpa using hj)]
      simp
    · rw [hr]
      refine Below.setCell ?_ (by show r ≤ r; omega) _
      refine Below.setCell ?_ (by show r ≤ r; omega) _
      refine Below.setCell ?_ (by show r ≤ r; omega) _
      refine Below.setCell ?_ (by show r ≤ r; omega) _
      refine Below.setCell ?_ (by show r ≤ r; omega) _
      refine Below.setCell ?_ (by show r ≤ r; omega) _
      refine Below.setCell ?_ (by show r ≤ r; omega) _
      refine Below.setCell ?_ (by show r ≤ p; omega) _
      exact hb05
end Go.Proofs.YthcbchgdfldckaaGreatDoor
