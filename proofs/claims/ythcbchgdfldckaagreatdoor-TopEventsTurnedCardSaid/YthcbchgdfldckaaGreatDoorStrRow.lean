/- A row of strings that a function owns, and slices.Insert on it. -/
import Derived.Test.YthcbchgdfldckaaGreatDoorOwn
import Derived.Test.YthcbchgdfldckaaGreatDoorShelf2
namespace Go.Proofs.YthcbchgdfldckaaGreatDoor
open Go.RowKit Go.Lib

/-- A cell's object of plain memory. -/
def ObjOf (w : World) (g c : Nat) : Prop := ∃ cur e, w.heap[g]? = some (.cells cur e (0, 0)) ∧ cur.size = c
theorem ObjOf.below {B : Nat} {w w' : World} {g c : Nat} (h : ObjOf w g c) (hb : Below B w w') (hg : g < B) : ObjOf w' g c := by
  obtain ⟨cur, e, h1, h2⟩ := h
  exact ⟨cur, e, by rw [hb.block g hg]; exact h1, h2⟩
theorem ObjOf.set {w : World} {g c b o : Nat} (h : ObjOf w g c) (v : Value) : ObjOf (w.setCell ⟨b, o, none⟩ v) g c := by
  obtain ⟨cur, e, h1, h2⟩ := h
  by_cases hb : g = b
  · subst hb
    exact ⟨_, e, heap_setCell_same w g o cur e v h1, by simpa using h2⟩
  · exact ⟨cur, e, by rw [heap_setCell_other w ⟨b, o, none⟩ g v hb]; exact h1, h2⟩
theorem ObjOf.sets {g c b : Nat} : ∀ (vs : List Value) (o : Nat) (w : World), ObjOf w g c → ObjOf (w.setCells b o vs) g c
  | [], _, _, h => h
  | v :: r, o, _, h => ObjOf.sets r (o + 1) _ (h.set v)
theorem ObjOf.isSome {w : World} {g c : Nat} (h : ObjOf w g c) {j : Nat} (hj : j < c) : (w.cell? ⟨g, j, none⟩).isSome = true := by
  obtain ⟨cur, e, h1, h2⟩ := h
  rw [cell_of_row w g j cur e (0, 0) h1]
  simp [h2, hj]
theorem ObjOf.frozen {w : World} {g c : Nat} (h : ObjOf w g c) (j : Nat) : w.frozen? ⟨g, j, none⟩ = false := by
  obtain ⟨cur, e, h1, h2⟩ := h
  exact frozen_of_row w g j cur e h1
theorem ObjOf.shape {w : World} {g c : Nat} (h : ObjOf w g c) : ∃ e, w.shape? g = some (e, c) := by
  obtain ⟨cur, e, h1, h2⟩ := h
  exact ⟨e, by simp [World.shape?, h1, h2]⟩
theorem ObjOf.lt {w : World} {g c : Nat} (h : ObjOf w g c) : g < w.heap.size := by
  obtain ⟨cur, e, h1, h2⟩ := h
  exact (Array.getElem?_eq_some_iff.1 h1).1
theorem below_sets {B : Nat} {w0 : World} {b : Nat} (hb : B ≤ b) : ∀ (vs : List Value) (o : Nat) (w : World), Below B w0 w → Below B w0 (w.setCells b o vs)
  | [], _, _, h => h
  | v :: r, o, w, h => below_sets hb r (o + 1) _ (h.setCell (by exact hb) v)

/-- n strings, in a block of one's own. -/
def StrRow (w : World) (B : Nat) (v : Value) (n : Nat) : Prop :=
  (v = .slice none 0 0 ∧ n = 0) ∨ ∃ g c, v = .slice (some ⟨g, 0, none⟩) n c ∧ B ≤ g ∧ ObjOf w g c ∧ n ≤ c ∧ 0 < c ∧ c ≤ 9223372036854775807 ∧ ∀ j, j < n → ∃ s, w.cell? ⟨g, j, none⟩ = some (.string s)
theorem StrRow.below {w w' : World} {B : Nat} {v : Value} {n : Nat} (h : StrRow w B v n) (hb : Below w.heap.size w w') : StrRow w' B v n := by
  rcases h with h | ⟨g, c, h1, h2, h3, h4, h5, h6, h7⟩
  · exact .inl h
  · refine .inr ⟨g, c, h1, h2, h3.below hb h3.lt, h4, h5, h6, fun j hj => ?_⟩
    obtain ⟨s, hs⟩ := h7 j hj
    exact ⟨s, kept_below hb _ _ hs⟩
theorem grown_small (w : World) (need old : Nat) (e : TypeId) (h : need ≤ 1000) : grownCap w need old e ≤ 9223372036854775807 := grownCap_le_maxLen w need old e (by simp only [maxLen]; omega)
theorem StrRow.slice {w : World} {B : Nat} {v : Value} {n : Nat} (h : StrRow w B v n) : ∃ A c, v = .slice A n c := by
  rcases h with ⟨rfl, rfl⟩ | ⟨g, c, rfl, _⟩
  · exact ⟨_, _, rfl⟩
  · exact ⟨_, _, rfl⟩

theorem strings_of {w : World} {g n : Nat} (h : ∀ j, j < n → ∃ s, w.cell? ⟨g, j, none⟩ = some (.string s)) : ∃ cs : List Value, cs.length = n ∧ (∀ (j : Nat) v, cs[j]? = some v → w.cell? ⟨g, 0 + j, none⟩ = some v) ∧ ∀ v ∈ cs, ∃ s, v = .string s := by
  induction n with
  | zero => exact ⟨[], rfl, fun j v hv => by simp at hv, fun v hv => by simp at hv⟩
  | succ n ih =>
    obtain ⟨cs, h1, h2, h3⟩ := ih (fun j hj => h j (by omega))
    obtain ⟨s, hs⟩ := h n (by omega)
    refine ⟨cs ++ [.string s], by simp [h1], fun j v hv => ?_, fun v hv => ?_⟩
    · rcases Nat.lt_or_ge j cs.length with hj | hj
      · rw [List.getElem?_append_left hj] at hv; exact h2 j v hv
      · rw [List.getElem?_append_right hj] at hv
        obtain ⟨k, rfl⟩ := Nat.exists_eq_add_of_le hj
        rw [show cs.length + k - cs.length = k by omega] at hv
        cases k with
        | zero => simp at hv; subst hv; rw [h1, show 0 + (n + 0) = n by omega]; exact hs
        | succ k => simp at hv
    · rcases List.mem_append.1 hv with hv | hv
      · exact h3 v hv
      · simp at hv; exact ⟨s, hv⟩
/-- Strings written over a row of strings. -/
theorem strs_sets {w : World} {g c o : Nat} {vs : List Value} (h : ObjOf w g c) (hvs : ∀ v ∈ vs, ∃ s, v = .string s) (ho : o + vs.length ≤ c) {j : Nat} (hj : (j < o ∨ o + vs.length ≤ j) → ∃ s, w.cell? ⟨g, j, none⟩ = some (.string s)) :
    ∃ s, (w.setCells g o vs).cell? ⟨g, j, none⟩ = some (.string s) := by
  by_cases hin : o ≤ j ∧ j < o + vs.length
  · obtain ⟨k, rfl⟩ := Nat.exists_eq_add_of_le hin.1
    have hk : k < vs.length := by omega
    rw [World.cell?_setCells_in g vs o w (fun i hi => h.isSome (by omega)) k hk]
    obtain ⟨s, hs⟩ := hvs _ (List.getElem_mem hk)
    exact ⟨s, by rw [hs]⟩
  · rw [World.cell?_setCells_out g vs o w ⟨g, j, none⟩ (fun _ _ => by show j < o ∨ o + vs.length ≤ j; omega)]
    exact hj (by omega)
theorem oneCell_str {cs : List Value} (h : ∀ v ∈ cs, ∃ s, v = .string s) : ∀ v ∈ cs, v.oneCell' = true := fun v hv => by
  obtain ⟨s, rfl⟩ := h v hv
  rfl

theorem insert_str (B : Nat) (v : Value) (n i : Nat) (vb : Nat) (s : ByteArray) (w : World) (h : StrRow w B v n) (hi : i ≤ n) (hn : n ≤ 500) (hB : B ≤ w.heap.size) (ho : ObjOf w vb 1) (hs : w.cell? ⟨vb, 0, none⟩ = some (.string s))
    (hvb : ∀ g c, v = .slice (some ⟨g, 0, none⟩) n c → vb ≠ g) :
    Calls Tryz.prog 57 #[v, .int .i64 i, .slice (some ⟨vb, 0, none⟩) (1 : Nat) 1] w fun e w' => ∃ v', e = .returned v' ∧ StrRow w' B v' (n + 1) ∧ Below B w w' := by
  have hvs : ∀ (j : Nat) u, ([Value.string s] : List Value)[j]? = some u → w.cell? ⟨vb, 0 + j, none⟩ = some u := fun j u hu => by
    cases j with
    | zero => simp at hu; subst hu; exact hs
    | succ j => simp at hu
  have h1 : ∀ u ∈ ([Value.string s] : List Value), ∃ s, u = .string s := fun u hu => by simp at hu; exact ⟨s, hu⟩
  rcases h with ⟨rfl, rfl⟩ | ⟨g, c, rfl, hg, hob, hnc, hc0, hcm, hcells⟩
  · obtain rfl : i = 0 := by omega
    refine (Tryz.slices_Insert_string_end_grow none 0 0 vb 0 1 1 [] [.string s] w (by omega) (by omega) (by omega) (by omega) rfl rfl (fun _ => rfl) (fun a ha => by cases ha) hvs (oneCell_str h1)).mono ?_
    rintro e w' ⟨rfl, rfl⟩
    have hge := grownCap_ge w (0 + 1) 0 9
    have hle := grown_small w (0 + 1) 0 9 (by omega)
    generalize grownCap w (0 + 1) 0 9 = c at *
    refine ⟨_, rfl, .inr ⟨w.heap.size, c, rfl, hB, ⟨_, _, heap_alloc_new w.drew _, ?_⟩, by omega, by omega, hle, fun j hj => ⟨s, ?_⟩⟩, (Below.refl _ _ |>.drew).alloc hB _⟩
    · simp [size_zeroCells, Value.cells]; omega
    · obtain rfl : j = 0 := by omega
      have hnew := heap_alloc_new w.drew (.cells (([] ++ [Value.string s]).toArray ++ Builtin.zeroCells (Value.string ⟨#[]⟩).cells (c - (0 + 1))) 9)
      show World.cell? _ ⟨w.drew.heap.size, 0, none⟩ = _
      rw [cell_of_row _ _ 0 _ _ (0, 0) hnew, Array.getElem?_append_left (by simp)]
      rfl
  · obtain ⟨cs, hc1, hc2, hc3⟩ := strings_of hcells
    obtain ⟨eb, hsh⟩ := hob.shape
    obtain ⟨ev, hsv⟩ := ho.shape
    rcases Nat.lt_or_ge n c with hroom | hroom
    · rcases Nat.lt_or_ge i n with hin | hin
      · refine (Tryz.slices_Insert_string_shift g 0 n c i vb 0 1 1 cs [.string s] w hin (by omega) (by omega) hcm (hvb g c rfl) hc1 rfl hc2 (fun j hj => by rw [Nat.zero_add]; exact hob.isSome (by omega)) (fun j _ => hob.frozen _) hvs (oneCell_str hc3) (oneCell_str h1) ev eb 1 c hsv hsh (by omega) (ho.frozen 0) (ho.frozen 1)).mono ?_
        rintro e w' ⟨rfl, rfl⟩
        have hob1 : ObjOf w.drew g c := hob
        have hob2 := hob1.sets (b := g) (cs.drop i) (0 + (i + 1)) w.drew
        have hob3 := hob2.sets (b := g) [.string s] (0 + i) _
        refine ⟨_, rfl, .inr ⟨g, c, rfl, hg, hob3, by omega, hc0, hcm, fun j hj => ?_⟩, below_sets hg _ _ _ (below_sets hg _ _ _ ((Below.refl _ _).drew))⟩
        refine strs_sets hob2 h1 (by simp; omega) (fun hj2 => ?_)
        refine strs_sets hob1 (fun u hu => hc3 u (List.mem_of_mem_drop hu)) (by simp; omega) (fun hj3 => ?_)
        simp at hj2 hj3
        exact hcells j (by omega)
      · obtain rfl : n = i := by omega
        refine (Tryz.slices_Insert_string_end_room g 0 n c vb 0 1 1 [.string s] w (by omega) (by omega) hcm rfl (fun j hj => by rw [Nat.zero_add]; exact hob.isSome (by omega)) (fun j _ => hob.frozen _) hvs (oneCell_str h1)).mono ?_
        rintro e w' ⟨rfl, rfl⟩
        have hob3 := hob.sets (b := g) [.string s] (0 + n) _
        refine ⟨_, rfl, .inr ⟨g, c, rfl, hg, hob3, by omega, hc0, hcm, fun j hj => ?_⟩, below_sets hg _ _ _ (Below.refl _ _)⟩
        refine strs_sets hob h1 (by simp; omega) (fun hj2 => ?_)
        simp at hj2
        exact hcells j (by omega)
    · obtain rfl : n = c := by omega
      have hge := grownCap_ge w (n + 1) n 9
      have hle := grown_small w (n + 1) n 9 (by omega)
      rcases Nat.lt_or_ge i n with hin | hin
      · refine (Tryz.slices_Insert_string_grow g 0 n n i vb 0 1 1 cs [.string s] w hin (by omega) (by omega) (by omega) (by omega) hc1 rfl hc2 hvs (oneCell_str hc3) (oneCell_str h1)).mono ?_
        rintro e w' ⟨rfl, rfl⟩
        generalize grownCap w (n + 1) n 9 = c at *
        have hnew := heap_alloc_new w (.cells ((cs.take i).toArray ++ Builtin.zeroCells (Value.string ⟨#[]⟩).cells (n + 1 - i) ++ Builtin.zeroCells (Value.string ⟨#[]⟩).cells (c - (n + 1))) 9)
        have hcell0 : ∀ j, j < i → ∃ s, (w.alloc (.cells ((cs.take i).toArray ++ Builtin.zeroCells (Value.string ⟨#[]⟩).cells (n + 1 - i) ++ Builtin.zeroCells (Value.string ⟨#[]⟩).cells (c - (n + 1))) 9)).cell? ⟨w.heap.size, j, none⟩ = some (.string s) := fun j hj => by
          rw [cell_of_row _ _ j _ _ (0, 0) hnew]
          obtain ⟨s, hs⟩ := hc3 (cs[j]'(by omega)) (List.getElem_mem _)
          refine ⟨s, ?_⟩
          rw [Array.append_assoc, Array.getElem?_append_left (by simp; omega)]
          simp [hj, ← hs]
        have hob1 : ObjOf (w.alloc (.cells ((cs.take i).toArray ++ Builtin.zeroCells (Value.string ⟨#[]⟩).cells (n + 1 - i) ++ Builtin.zeroCells (Value.string ⟨#[]⟩).cells (c - (n + 1))) 9)) w.heap.size c := ⟨_, _, hnew, by simp [size_zeroCells, Value.cells]; omega⟩
        have hbl := (Below.refl B w).alloc hB (.cells ((cs.take i).toArray ++ Builtin.zeroCells (Value.string ⟨#[]⟩).cells (n + 1 - i) ++ Builtin.zeroCells (Value.string ⟨#[]⟩).cells (c - (n + 1))) 9)
        generalize w.alloc (.cells ((cs.take i).toArray ++ Builtin.zeroCells (Value.string ⟨#[]⟩).cells (n + 1 - i) ++ Builtin.zeroCells (Value.string ⟨#[]⟩).cells (c - (n + 1))) 9) = W at *
        have hob1' : ObjOf W.drew w.heap.size c := hob1
        have hob2 := hob1'.sets (b := w.heap.size) [.string s] i _
        have hob2' : ObjOf (W.drew.setCells w.heap.size i [.string s]).drew w.heap.size c := hob2
        have hob3 := hob2'.sets (b := w.heap.size) (cs.drop i) (i + 1) _
        refine ⟨_, rfl, .inr ⟨w.heap.size, c, rfl, hB, hob3, by omega, by omega, hle, fun j hj => ?_⟩, below_sets hB _ _ _ ((below_sets hB _ _ _ hbl.drew).drew)⟩
        refine strs_sets hob2' (fun u hu => hc3 u (List.mem_of_mem_drop hu)) (by simp; omega) (fun hj3 => ?_)
        refine strs_sets (w := W.drew) hob1' h1 (by simp; omega) (fun hj2 => ?_)
        simp at hj2 hj3
        exact hcell0 j (by omega)
      · obtain rfl : n = i := by omega
        refine (Tryz.slices_Insert_string_end_grow (some ⟨g, 0, none⟩) n n vb 0 1 1 cs [.string s] w (by omega) (by omega) (by omega) (by omega) hc1 rfl (fun h => by cases h) (fun a ha j u hu => by cases ha; rw [Addr.add_lit]; exact hc2 j u hu) hvs (oneCell_str h1)).mono ?_
        rintro e w' ⟨rfl, rfl⟩
        generalize grownCap w (n + 1) n 9 = c at *
        have hnew := heap_alloc_new w.drew (.cells ((cs ++ [Value.string s]).toArray ++ Builtin.zeroCells (Value.string ⟨#[]⟩).cells (c - (n + 1))) 9)
        refine ⟨_, rfl, .inr ⟨w.heap.size, c, rfl, hB, ⟨_, _, hnew, ?_⟩, by omega, by omega, hle, fun j hj => ?_⟩, (Below.refl _ _ |>.drew).alloc hB _⟩
        · simp [size_zeroCells, Value.cells, hc1]; omega
        · show ∃ s, World.cell? _ ⟨w.drew.heap.size, j, none⟩ = _
          rw [cell_of_row _ _ j _ _ (0, 0) hnew, Array.getElem?_append_left (by simp; omega)]
          have hm : (cs ++ [Value.string s])[j]'(by simp; omega) ∈ cs ++ [Value.string s] := List.getElem_mem _
          rcases List.mem_append.1 hm with hm | hm
          · obtain ⟨t, ht⟩ := hc3 _ hm
            exact ⟨t, by rw [List.getElem?_toArray, List.getElem?_eq_getElem (show j < (cs ++ [Value.string s]).length by simp; omega), ht]⟩
          · simp only [List.mem_singleton] at hm
            exact ⟨s, by rw [List.getElem?_toArray, List.getElem?_eq_getElem (show j < (cs ++ [Value.string s]).length by simp; omega), hm]⟩
end Go.Proofs.YthcbchgdfldckaaGreatDoor
