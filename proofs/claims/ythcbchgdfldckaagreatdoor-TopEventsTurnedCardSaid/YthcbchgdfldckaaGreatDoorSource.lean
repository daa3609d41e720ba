/- Walks of package source that the concrete run needs. -/
import Derived.Test.YthcbchgdfldckaaGreatDoorSpans
import Derived.Test.YthcbchgdfldckaaGreatDoorShelf3
import Derived.StillTailTactics
import Derived.Deep.RegionHeld3
namespace Go.Proofs.YthcbchgdfldckaaGreatDoor
open Go.RowKit Go.Lib

theorem within_any (a n s : Int) (w : World) (h1 : 0 ≤ a) (h2 : 0 ≤ n) (h3 : a + n ≤ s) (h4 : s ≤ 1000000) :
    Calls Tryz.prog 120 #[.int .i64 a, .int .i64 n, .int .i64 s] w fun e w' => e = .returned (.bool true) ∧ w' = w := by
  have h5 : a ≤ s - n := by omega
  go_enter Tryz.func120, Tryz.ntmps120
  go_wp2
  go_ret
  exact ⟨rfl, rfl⟩

/-- An image whose n bytes are f, at block B. -/
def ImgAt (w : World) (B n : Nat) (f : Nat → Int) : Prop := ∃ d c, n ≤ c ∧ w.cell? ⟨B, 0, none⟩ = some (.slice (some ⟨d, 0, none⟩) n c) ∧ w.cell? ⟨B, 1, none⟩ = some (.slice none 0 0) ∧ ∀ i, i < n → w.cell? ⟨d, i, none⟩ = some (.int .u8 (f i))
theorem ImgAt.kept {w w' : World} {B n : Nat} {f : Nat → Int} (h : ImgAt w B n f) (k : Kept w w') : ImgAt w' B n f := by
  obtain ⟨d, c, h0, h1, h2, h3⟩ := h
  exact ⟨d, c, h0, k _ _ h1, k _ _ h2, fun i hi => k _ _ (h3 i hi)⟩

theorem image_size (B n : Nat) (f : Nat → Int) (w : World) (h : ImgAt w B n f) :
    Calls Tryz.prog 522 #[.pointer (some ⟨B, 0, none⟩)] w fun e w' => e = .returned (.int .i64 n) ∧ w' = w := by
  obtain ⟨d, c, h0, h1, h2, h3⟩ := h
  go_enter Tryz.func522, Tryz.ntmps522
  go_wp2
  go_ret
  exact ⟨rfl, rfl⟩

/-- Bytes x, x+1, .. of f. -/
def bytesAt (f : Nat → Int) (x y : Nat) : List Value := (List.range y).map fun i => .int .u8 (f (x + i))
theorem bytesAt_length (f : Nat → Int) (x y : Nat) : (bytesAt f x y).length = y := by simp [bytesAt]
theorem bytesAt_get {f : Nat → Int} {x y j : Nat} {u : Value} (h : (bytesAt f x y)[j]? = some u) : j < y ∧ u = .int .u8 (f (x + j)) := by
  unfold bytesAt at h
  rw [List.getElem?_map] at h
  rcases Nat.lt_or_ge j y with hj | hj
  · rw [List.getElem?_eq_getElem (by simpa using hj)] at h
    simp at h
    exact ⟨hj, h.symm⟩
  · rw [List.getElem?_eq_none (by simpa using hj)] at h
    simp at h

theorem Tryz.info5 : (Tryz.prog.info? 5).map (fun i => (i.zero, i.size, i.bytes)) = some (some (.int .u8 0), 1, 1) := by kernel_rfl
theorem info_of {P : Program} {t : TypeId} {z : Value} {n b : Nat} (h : (P.info? t).map (fun i => (i.zero, i.size, i.bytes)) = some (some z, n, b)) : ∃ i0, P.info? t = some i0 ∧ i0.zero = some z ∧ i0.size = n ∧ i0.bytes = b := by
  obtain ⟨i, hi, e⟩ := Option.map_eq_some_iff.1 h
  simp only [Prod.mk.injEq] at e
  exact ⟨i, hi, e.1, e.2.1, e.2.2⟩
theorem clone_bytes (b o n c : Nat) (news : List Value) (w : World) (hl : news.length = n) (hn : n ≤ 1000000) (hc : ∀ (j : Nat) u, news[j]? = some u → w.cell? ⟨b, o + j, none⟩ = some u) (h1 : ∀ u ∈ news, u.oneCell' = true) :
    Calls Tryz.prog 64 #[.slice (some ⟨b, o, none⟩) n c] w fun e w' => ∃ v', e = .returned v' ∧ w'.ownsRow w.heap.size 5 1 v' n news ∧ v' ≠ .slice none 0 0 ∧ Below w.heap.size w w' := by
  obtain ⟨i0, hi, z0, z1, z2⟩ := info_of Tryz.info5
  exact Tryz.slices_Clone_byte i0 _ 1 1 hi z0 z1 z2 rfl (by omega) (fun w => Tryz.sizeOf5 w) b o n c news w (by omega) (by simp only [maxLen]; omega) (by omega) hc h1

set_option maxHeartbeats 1000000 in
set_option maxRecDepth 100000 in
theorem image_read (B n : Nat) (f : Nat → Int) (x y : Nat) (w : World) (h : ImgAt w B n f) (hxy : x + y ≤ n) (hy : 0 < y) (hn : n ≤ 65536) :
    Calls Tryz.prog 520 #[.pointer (some ⟨B, 0, none⟩), .int .i64 x, .int .i64 y] w fun e w' => ∃ v, e = .returned (.tuple #[v, .int .i64 0]) ∧ w'.ownsRow w.heap.size 5 1 v y (bytesAt f x y) ∧ Below w.heap.size w w' := by
  obtain ⟨d, c, h0, h1, h2, h3⟩ := h
  go_enter Tryz.func520, Tryz.ntmps520
  go_wp2_with fail
  refine (within_any x y n _ (by omega) (by omega) (by omega) (by omega)).mono ?_
  rintro e w' ⟨rfl, rfl⟩
  go_wp2_with fail
  refine (meet_none none 0 w'.heap.size 0 1 x y _ (by simp) (by simp) (by omega) (by omega) (by omega)).mono ?_
  rintro e w2 ⟨rfl, hb2⟩
  have hb3 := (Below.refl w'.heap.size w').alloc (Nat.le_refl _) (.cells #[.int .i64 x, .int .i64 y] 59)
  have hb4 := below_then hb3 hb3.size hb2
  have k1 := kept_below hb4 _ _ h1
  have k3 := fun i hi => kept_below hb4 _ _ (h3 i hi)
  clear hb2 hb3
  have hsz4 := hb4.size
  go_wp2_with fail
  refine (clone_bytes d x y _ (bytesAt f x y) w2 (bytesAt_length _ _ _) (by omega) (fun j u hu => by obtain ⟨hj, rfl⟩ := bytesAt_get hu; exact k3 _ (by omega)) (fun u hu => by unfold bytesAt at hu; obtain ⟨_, _, rfl⟩ := List.mem_map.1 hu; rfl)).mono ?_
  rintro e w5 ⟨v, rfl, hown, _, hb5⟩
  obtain ⟨A5, c5, rfl⟩ := own_slice hown
  go_wp2
  go_ret2
  exact ⟨_, rfl, own_mono' hown hsz4, below_then hb4 hsz4 hb5⟩

set_option maxHeartbeats 1000000 in
set_option maxRecDepth 100000 in
theorem of_any (b n c : Nat) (f : Nat → Int) (w : World) (hc : ∀ i, i < n → w.cell? ⟨b, i, none⟩ = some (.int .u8 (f i))) (hn : n ≤ 65536) (h0 : 0 < n) :
    Calls Tryz.prog 18 #[.slice (some ⟨b, 0, none⟩) n c] w fun e w' => ∃ B, e = .returned (.tuple #[.iface 125 (.pointer (some ⟨B, 0, none⟩)), .int .i64 0]) ∧ ImgAt w' B n f ∧ Below w.heap.size w w' := by
  go_enter Tryz.func18, Tryz.ntmps18
  go_wp2
  go_loop [13] (fun s => s = .int .i64 0) (fun _ => 0)
  case atStart => rfl
  case round =>
    subst hrel
    go_wp2_with fail
    refine (clone_bytes b 0 n c (bytesAt f 0 n) w (bytesAt_length _ _ _) (by omega) (fun j u hu => by obtain ⟨hj, rfl⟩ := bytesAt_get hu; rw [Nat.zero_add]; exact hc _ hj) (fun u hu => by unfold bytesAt at hu; obtain ⟨_, _, rfl⟩ := List.mem_map.1 hu; rfl)).mono ?_
    rintro e w5 ⟨v, rfl, hown, _, hb5⟩
    obtain ⟨k, rfl⟩ : ∃ k, n = k + 1 := ⟨n - 1, by omega⟩
    obtain ⟨g, cp, rfl, hcells⟩ := own_form1 hown
    go_wp2_with fail
    refine (norm_none none 0 _).mono ?_
    rintro e w6 ⟨rfl, rfl⟩
    go_wp2
    go_ret2
    have hsz := hb5.size
    refine ⟨w6.heap.size, rfl, ⟨g, cp, ?_, by simp, by simp, fun i hi => ?_⟩, hb5.alloc hsz _⟩
    · rcases hown.2 with ⟨e1, _⟩ | ⟨g', c', cur, e1, _, _, h4, _⟩
      · cases e1
      · cases e1; exact h4
    · have hlt := (hown.lt g rfl).2
      rw [World.cell?_alloc_old _ _ _ (by show g ≠ w6.heap.size; omega)]
      refine hcells i _ ?_
      unfold bytesAt
      rw [List.getElem?_map, List.getElem?_eq_getElem (by simpa using hi)]
      simp

/-- Pieces of a source: one span, whose bytes are f's. -/
def PcsAt (w : World) (P B : Nat) (_n : Nat) (x y : Nat) : Prop := ∃ d o c, w.cell? ⟨P, 0, none⟩ = some (.iface 125 (.pointer (some ⟨B, 0, none⟩))) ∧ w.cell? ⟨P, 1, none⟩ = some (.slice (some ⟨d, o, none⟩) (1 : Nat) c) ∧ w.cell? ⟨P, 2, none⟩ = some (.int .i64 y) ∧
  w.cell? ⟨d, o, none⟩ = some (.int .i64 x) ∧ w.cell? ⟨d, o + 1, none⟩ = some (.int .i64 y)
set_option maxHeartbeats 1000000 in
set_option maxRecDepth 100000 in
theorem pieces_read (Q B n : Nat) (f : Nat → Int) (x y : Nat) (w : World) (h : PcsAt w Q B n x y) (hi : ImgAt w B n f) (hxy : x + y ≤ n) (hy : 0 < y) (hn : n ≤ 65536) :
    Calls Tryz.prog 525 #[.pointer (some ⟨Q, 0, none⟩), .int .i64 0, .int .i64 y] w fun e w' => ∃ v, e = .returned (.tuple #[v, .int .i64 0]) ∧ w'.ownsRow w.heap.size 5 1 v y (bytesAt f x y) ∧ Below w.heap.size w w' := by
  obtain ⟨d, o, c, h0, h1, h2, h3, h4⟩ := h
  go_enter Tryz.func525, Tryz.ntmps525
  go_wp2_with fail
  refine (within_any 0 y y _ (by omega) (by omega) (by omega) (by omega)).mono ?_
  rintro e w' ⟨rfl, rfl⟩
  obtain ⟨i0, j1, j2, j3, j4⟩ := info_of Tryz.info5
  obtain ⟨wm, hrun, hownm, hgm⟩ := run_make_own (P := Tryz.prog) w' w'.heap.size 48 5 i0 _ 1 Tryz.underlying48 j1 j2 j3 .i64 .i64 y (by rw [j4]; omega) (by simp only [maxLen]; omega) (Nat.le_refl _)
  have hbm : Below w'.heap.size w' wm := (Below.refl _ _).grown hgm (Nat.le_refl _) (fun k hk => by cases hk)
  have h0 := kept_below hbm _ _ h0
  have h1 := kept_below hbm _ _ h1
  have h3 := kept_below hbm _ _ h3
  have h4 := kept_below hbm _ _ h4
  have hszm := hbm.size
  go_wp2_with fail
  refine (slice_one d o c x y wm h3 h4 (by omega) (by omega) (by omega)).mono ?_
  rintro e w2 ⟨v, rfl, hown2, hb2⟩
  obtain ⟨g, cp, rfl, hcells⟩ := own_form1 hown2
  have hb22 := below_then hbm hszm hb2
  have hownb := own_below hownm hb2
  have k0 := kept_below hb2 _ _ h0
  have c0 := hcells 0 _ rfl
  have c1 := hcells 1 _ rfl
  have him := hi.kept (kept_below hb22)
  have hsz2 := hb22.size
  clear hown2 hcells hownm hb2
  go_wp2
  go_loopw [8, 31] (fun s8 s31 wr => ∃ k : Nat, k ≤ 1 ∧ s31 = .int .i64 k ∧ wr.ownsRow w'.heap.size 5 1 s8 (if k = 0 then 0 else y) (if k = 0 then [] else bytesAt f x y) ∧ Below w'.heap.size w' wr ∧ (k = 0 → wr = w2)) (fun _ s31 _ => 1 - (intOf s31).toNat)
  case atStart => exact ⟨0, by omega, rfl, hownb, hb22, fun _ => rfl⟩
  case round =>
    obtain ⟨k, hk, rfl, hown, hb, he⟩ := hrel
    rcases (by omega : k = 0 ∨ k = 1) with rfl | rfl
    · obtain rfl := he rfl
      clear he hownb hb22
      go_wp2
      have hba := hb.alloc hb.size (.cells #[.int .i64 x, .int .i64 y] 59)
      have hbq : Below wr.heap.size wr (wr.alloc (.cells #[.int .i64 x, .int .i64 y] 59)) := (Below.refl _ _).alloc (Nat.le_refl _) _
      have z0 := kept_below hbq _ _ k0
      have z1 : (wr.alloc (.cells #[.int .i64 x, .int .i64 y] 59)).cell? ⟨wr.heap.size, 0, none⟩ = some (.int .i64 x) := by simp
      have z2 : (wr.alloc (.cells #[.int .i64 x, .int .i64 y] 59)).cell? ⟨wr.heap.size, 1, none⟩ = some (.int .i64 y) := by simp
      have him2 := him.kept (kept_below hbq)
      have hown2 := hown.alloc (.cells #[.int .i64 x, .int .i64 y] 59)
      generalize wr.alloc (.cells #[.int .i64 x, .int .i64 y] 59) = W at *
      generalize wr.heap.size = hh at *
      clear hbq hown k0 c0 c1 him hb
      rw [if_pos trivial, if_pos trivial] at hown2
      have himd : ImgAt W.drew B n f := him2
      have hm : ∀ u : World, (method 739 125 (Value.pointer (some ⟨B, 0, none⟩)) "Read").run Tryz.prog u = .ok (520, Value.pointer (some ⟨B, 0, none⟩)) u := fun u => by kernel_rfl
      go_region_held3 (fun w' => w'.cell? ⟨Q, 0, none⟩ = some (.iface 125 (.pointer (some ⟨B, 0, none⟩))) ∧ w'.cell? ⟨hh, 0, none⟩ = some (.int .i64 x) ∧ w'.cell? ⟨hh, 1, none⟩ = some (.int .i64 y)) (first | exact ⟨z0, z1, z2⟩ | exact ⟨kept_below hb3 _ _ z0, kept_below hb3 _ _ z1, kept_below hb3 _ _ z2⟩) (first | (go_at_call 520; refine (image_read B n f x y _ himd hxy hy hn).mono ?_; rintro e w3 ⟨v, rfl, hown3, hb3⟩))
      obtain ⟨g3, c3, rfl, hc3, hg3, hb3g, hcells3⟩ := own_formp hown3 hy
      have hown2' : w3.ownsRow w'.heap.size 5 1 u8 0 [] := own_below (show (W.drew).ownsRow w'.heap.size 5 1 u8 0 [] from hown2) hb3
      have hb5 := below_then (hba.drew) hba.drew.size hb3
      have hsz5 := hb5.size
      clear hown3 hm himd him2 z0 z1 z2 hown2 hb3 hba
      go_wp2_with (at_builtin; refine wpl_push _ rfl (.tmp 50) (.tmp 51) 48 rfl w'.heap.size 5 _ 1 1 Tryz.underlying48 Tryz.info5 rfl (by decide) u8 0 _ rfl hown2' ⟨g3, 0, none⟩ y c3 (bytesAt f x y) rfl (by rw [bytesAt_length]; omega) (fun j u hu => by rw [Go.WideShapes.add_plain, Nat.zero_add]; exact hcells3 j u hu) (fun u hu => by unfold bytesAt at hu; obtain ⟨_, _, rfl⟩ := List.mem_map.1 hu; rfl) hy (by omega) (by decide) hsz5 ?_; intro g4 cap4 w4 hown4 hg4 hat4 hlt4)
      refine ⟨⟨1, by omega, by go_num, ?_, ?_, fun h => absurd h (by omega)⟩, by simp [intOf]⟩
      · rw [if_neg (by omega), if_neg (by omega)]
        simpa using hown4
      · exact below_push hb5 hg4 hsz5 (own_base hown2')
    · rw [if_neg (by omega), if_neg (by omega)] at hown
      go_wp2
      go_ret2
      exact ⟨_, rfl, hown, hb⟩

theorem meth_size (B : Nat) (u : World) : (method (Tryz.prog.types.size + Made.depth) 125 (Value.pointer (some ⟨B, 0, none⟩)) "Size").run Tryz.prog u = .ok (522, Value.pointer (some ⟨B, 0, none⟩)) u := by kernel_rfl
theorem meth_psize (B : Nat) (u : World) : (method (Tryz.prog.types.size + Made.depth) 185 (Value.pointer (some ⟨B, 0, none⟩)) "Size").run Tryz.prog u = .ok (527, Value.pointer (some ⟨B, 0, none⟩)) u := by kernel_rfl
theorem meth_pread (B : Nat) (u : World) : (method (Tryz.prog.types.size + Made.depth) 185 (Value.pointer (some ⟨B, 0, none⟩)) "Read").run Tryz.prog u = .ok (525, Value.pointer (some ⟨B, 0, none⟩)) u := by kernel_rfl
theorem clone_span (b o c : Nat) (x y : Int) (w : World) (h1 : w.cell? ⟨b, o, none⟩ = some (.int .i64 x)) (h2 : w.cell? ⟨b, o + 1, none⟩ = some (.int .i64 y)) :
    Calls Tryz.prog 33 #[.slice (some ⟨b, o, none⟩) (1 : Nat) c] w fun e w' => ∃ v', e = .returned v' ∧ w'.ownsRow w.heap.size 59 2 v' 1 [.int .i64 x, .int .i64 y] ∧ v' ≠ .slice none 0 0 ∧ Below w.heap.size w w' := by
  obtain ⟨i0, hi, z0, z1, z2⟩ := info_of Tryz.info59
  refine Tryz.slices_Clone_span i0 _ 2 16 hi z0 z1 z2 rfl (by omega) (fun w => Tryz.sizeOf59 w) b o 1 c [.int .i64 x, .int .i64 y] w rfl (by simp only [maxLen]; omega) (by omega) (fun j u hu => ?_) (fun u hu => by simp at hu; rcases hu with rfl | rfl <;> rfl)
  rcases j with _ | _ | j
  · simp at hu; subst hu; exact h1
  · simp at hu; subst hu; exact h2
  · simp at hu

set_option maxHeartbeats 1000000 in
set_option maxRecDepth 100000 in
theorem pieces_any (B n b o c : Nat) (f : Nat → Int) (x y : Nat) (w : World) (hi : ImgAt w B n f) (h1 : w.cell? ⟨b, o, none⟩ = some (.int .i64 x)) (h2 : w.cell? ⟨b, o + 1, none⟩ = some (.int .i64 y)) (hxy : x + y ≤ n) (hy : 0 < y) (hn : n ≤ 65536) :
    Calls Tryz.prog 69 #[.iface 125 (.pointer (some ⟨B, 0, none⟩)), .slice (some ⟨b, o, none⟩) (1 : Nat) c] w fun e w' => ∃ Q, e = .returned (.tuple #[.iface 185 (.pointer (some ⟨Q, 0, none⟩)), .int .i64 0]) ∧ PcsAt w' Q B n x y ∧ Below w.heap.size w w' := by
  have hm := meth_size B
  rw [show Tryz.prog.types.size + Made.depth = 739 from by kernel_rfl] at hm
  go_enter Tryz.func69, Tryz.ntmps69
  go_wp2
  go_loopw [6, 14] (fun s6 s14 wr => ∃ k : Nat, k ≤ 1 ∧ s14 = .int .i64 k ∧ s6 = .int .i64 (if k = 0 then 0 else y) ∧ Below w.heap.size w wr) (fun _ s14 _ => 1 - (intOf s14).toNat)
  case atStart => exact ⟨0, by omega, rfl, rfl, Below.refl _ _⟩
  case round =>
    obtain ⟨k, hk, rfl, rfl, hb⟩ := hrel
    have q1 := kept_below hb _ _ h1
    have q2 := kept_below hb _ _ h2
    have hsz := hb.size
    have him := hi.kept (kept_below hb)
    rcases (by omega : k = 0 ∨ k = 1) with rfl | rfl
    · go_wp2
      have hba := hb.alloc hsz (.cells #[.int .i64 x, .int .i64 y] 59)
      have hbq : Below wr.heap.size wr (wr.alloc (.cells #[.int .i64 x, .int .i64 y] 59)) := (Below.refl _ _).alloc (Nat.le_refl _) _
      have z1 : (wr.alloc (.cells #[.int .i64 x, .int .i64 y] 59)).cell? ⟨wr.heap.size, 0, none⟩ = some (.int .i64 x) := by simp
      have z2 : (wr.alloc (.cells #[.int .i64 x, .int .i64 y] 59)).cell? ⟨wr.heap.size, 1, none⟩ = some (.int .i64 y) := by simp
      have him2 := him.kept (kept_below hbq)
      generalize wr.alloc (.cells #[.int .i64 x, .int .i64 y] 59) = W at *
      generalize wr.heap.size = hh at *
      have himd : ImgAt W.drew B n f := him2
      clear hbq him hb q1 q2
      go_region_held3 (fun w' => w' = W.drew ∧ w'.cell? ⟨hh, 0, none⟩ = some (.int .i64 x) ∧ w'.cell? ⟨hh, 1, none⟩ = some (.int .i64 y)) (exact ⟨rfl, z1, z2⟩) (first | (go_at_call 522; refine (image_size B n f _ himd).mono ?_; rintro e w3 ⟨rfl, rfl⟩) | (go_at_call 120; refine (within_any x y n _ (by omega) (by omega) (by omega) (by omega)).mono ?_; rintro e w3 ⟨rfl, rfl⟩))
      have z1' : W.drew.cell? ⟨hh, 0, none⟩ = some (.int .i64 x) := z1
      have z2' : W.drew.cell? ⟨hh, 1, none⟩ = some (.int .i64 y) := z2
      go_wp2
      refine ⟨⟨1, by omega, by go_num, by simp, hba.drew⟩, by simp [intOf]⟩
    · rw [if_neg (by omega)]
      go_wp2_with fail
      refine (clone_span b o c x y wr q1 q2).mono ?_
      rintro e w2 ⟨v, rfl, hown, _, hb2⟩
      obtain ⟨g3, c3, rfl, hc3, hg3, hb3g, hcells3⟩ := own_formp hown (by omega)
      have hb3 := below_then hb hsz hb2
      have hsz3 := hb3.size
      have p1 := hcells3 0 _ rfl
      have p2 := hcells3 1 _ rfl
      clear hown hcells3 hb2 him hm
      go_wp2
      go_ret2
      refine ⟨w2.heap.size, rfl, ⟨g3, 0, c3, by simp, by simp, by simp, ?_, ?_⟩, hb3.alloc hsz3 _⟩
      · rw [World.cell?_alloc_old _ _ _ (by show g3 ≠ w2.heap.size; omega)]; exact p1
      · rw [World.cell?_alloc_old _ _ _ (by show g3 ≠ w2.heap.size; omega)]; exact p2

theorem pieces_size (Q B n x y : Nat) (w : World) (h : PcsAt w Q B n x y) :
    Calls Tryz.prog 527 #[.pointer (some ⟨Q, 0, none⟩)] w fun e w' => e = .returned (.int .i64 y) ∧ w' = w := by
  obtain ⟨d, o, c, h0, h1, h2, h3, h4⟩ := h
  go_enter Tryz.func527, Tryz.ntmps527
  go_wp2
  go_ret
  exact ⟨rfl, rfl⟩

end Go.Proofs.YthcbchgdfldckaaGreatDoor
