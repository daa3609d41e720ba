/- slices.Reverse over ties. -/
import Derived.Test.YthcbchgdfldckaaGreatDoorShelf5
import Derived.Test.YthcbchgdfldckaaGreatDoorRowFlat
import Derived.Lib.OwnBridge
import Derived.Test.YthcbchgdfldckaaGreatDoorG3
import Derived.Test.YthcbchgdfldckaaGreatDoorFault
import Derived.Test.YthcbchgdfldckaaGreatDoorSolved
import Derived.Test.YthcbchgdfldckaaGreatDoorTurn
import Derived.Test.YthcbchgdfldckaaGreatDoorPairEq
import Derived.Test.YthcbchgdfldckaaGreatDoorRaw
import Derived.Test.YthcbchgdfldckaaGreatDoorFinds
import Derived.Laws.MakeOwn
import Derived.Deep.DeepCutAuto
import Derived.RegionTactic
import Derived.BigRegion
import Derived.Deep.DrawnRows
import Derived.Deep.CutBlock
namespace Go.Proofs.YthcbchgdfldckaaGreatDoor
open Go.RowKit Go.Sort

instance instTiRev : Inhabited Ti := ⟨dTi⟩
theorem isAgg_tie (w : World) : (isAgg 28).run Tryz.prog w = .ok true w := by
  simp [isAgg, Sem.run_bind, run_underlying Tryz.underlying28, Result.andThen]
theorem arr_get (l : List Ti) {i : Nat} (h : i < l.length) : l.toArray[i]! = l.getD i dTi := by
  simp [List.getD_eq_getElem?_getD, h]
theorem holdsK_ties {w : World} {base g c : Nat} {l : List Ti} (h : w.ownsRow base 28 4 (.slice (some ⟨g, 0, none⟩) l.length c) l.length (flatN l.length fun i => (l.getD i dTi).cells)) : HoldsK Ti.cells 4 w g 0 l.toArray := fun j hj => by
  rw [size_flatK, List.size_toArray] at hj
  refine ⟨?_, h.frozenAt _⟩
  rw [get_flatK _ _ _ _ (by simpa using hj)]
  have e := h.cellAt j hj
  have hi : j / 4 < l.length := by omega
  have f := flatN_get (f := fun i => (l.getD i dTi).cells) (fun i => Ti.cells_length l i) l.length (j / 4) (j % 4) hi (by omega)
  rw [show j / 4 * 4 + j % 4 = j by omega] at f
  rw [Nat.zero_add, e, f, arr_get l hi]
  have hc : j % 4 < (l.getD (j / 4) dTi).cells.length := by rw [Ti.cells_length]; omega
  rw [List.getElem?_eq_getElem hc, getElem!_pos (l.getD (j / 4) dTi).cells (j % 4) hc]
  rfl
theorem reverse_ties {w : World} {base g c : Nat} {l : List Ti} (h : w.ownsRow base 28 4 (.slice (some ⟨g, 0, none⟩) l.length c) l.length (flatN l.length fun i => (l.getD i dTi).cells)) (hl : l.length * 32 ≤ 140737488351232) :
    Calls Tryz.prog 16 #[.slice (some ⟨g, 0, none⟩) l.length c] w fun e w' => e = .returned (.tuple #[]) ∧ TisAt w' (some ⟨g, 0, none⟩) l.reverse ∧ Below base w w' := by
  have hH := holdsK_ties h
  have hg : base ≤ g := (h.lt g rfl).1
  have hc : ∀ x : Ti, x.cells.length = 4 := fun x => rfl
  have hr := AnyQ.slices_Reverse Tryz.laysSlE035_tie 4 isAgg_tie (fun w => Tryz.sizeOf28 w) Ti.cells hc (fun x v hv => by simp [Ti.cells] at hv; rcases hv with rfl | rfl | rfl | rfl <;> rfl) g 0 c l.toArray w hH (by rw [List.size_toArray]; omega)
  rw [List.size_toArray] at hr
  refine Calls.mono hr ?_
  rintro e w' ⟨rfl, n, rfl⟩
  have hH' := holdsK_putRowK Ti.cells 4 (Sort.ahead w n) g 0 l.toArray l.toArray.reverse (holdsK_ahead Ti.cells 4 w n g 0 l.toArray hH) (by simp)
  refine ⟨rfl, fun h0 => ⟨g, 0, rfl, fun i j u hi hu => ?_⟩, Lib.below_putRow (Below.refl _ _) hg⟩
  have hs : l.toArray.reverse = l.reverse.toArray := by simp
  rw [hs] at hH' ⊢
  have := Go.Proofs.HoldsK.cells (enc := Ti.cells) (k := 4) hH' hc (i := i) (by simpa using hi) j u (by rw [arr_get _ hi]; exact hu)
  rw [Addr.add_lit] at this
  exact this
theorem reverse_none (a : Option Addr) (c : Nat) (w : World) : Calls Tryz.prog 16 #[.slice a 0 c] w fun e w' => e = .returned (.tuple #[]) ∧ w' = w := Tryz.slices_Reverse_tie_empty a c w
theorem reverse_own {w : World} {base : Nat} {v : Value} {l : List Ti} (h : w.ownsRow base 28 4 v l.length (flatN l.length fun i => (l.getD i dTi).cells)) (hl : l.length * 32 ≤ 140737488351232) :
    ∃ A c, v = .slice A l.length c ∧ Calls Tryz.prog 16 #[.slice A l.length c] w fun e w' => e = .returned (.tuple #[]) ∧ TisAt w' A l.reverse ∧ Below base w w' := by
  have h0 := h
  rcases h.2 with ⟨rfl, e⟩ | ⟨g, c, cur, rfl, _⟩
  · have hl0 : l.length = 0 := e
    refine ⟨none, 0, by rw [hl0], ?_⟩
    rw [hl0]
    refine (reverse_none none 0 w).mono ?_
    rintro e w' ⟨rfl, rfl⟩
    exact ⟨rfl, fun h1 => by rw [List.length_reverse] at h1; omega, Below.refl _ _⟩
  · exact ⟨_, c, rfl, reverse_ties h0 hl⟩
end Go.Proofs.YthcbchgdfldckaaGreatDoor

/- The walk of TopEventsTurned. -/
namespace Go.Proofs.YthcbchgdfldckaaGreatDoor
open Go.RowKit ClkM

/-- The rows made: the first a places are told, the first b events are set. -/
structure TurnRow (w : World) (g1 g2 : Nat) (l : List Ev) (f : Nat → Nat) (a b : Nat) : Prop where
  int : ∀ i, i < l.length → ∃ u : Int, w.cell? ⟨g1, i, none⟩ = some (.int .i64 u) ∧ (i < a → u = f i)
  intf : ∀ i, i < l.length → w.frozen? ⟨g1, i, none⟩ = false
  ev : ∀ j c, j < l.length → c < 3 → ∃ u, w.cell? ⟨g2, j * 3 + c, none⟩ = some u ∧ ∀ i, i < b → f i = j → (l.getD i dEv).cells[c]? = some u
  evf : ∀ j, j < l.length * 3 → w.frozen? ⟨g2, j, none⟩ = false
theorem TurnRow.kept {w w' : World} {g1 g2 : Nat} {l : List Ev} {f : Nat → Nat} {a b : Nat} (h : TurnRow w g1 g2 l f a b) (hb : Below w.heap.size w w') : TurnRow w' g1 g2 l f a b := by
  refine ⟨fun i hi => ?_, fun i hi => ?_, fun j c hj hc => ?_, fun j hj => ?_⟩
  · obtain ⟨u, e, p⟩ := h.int i hi
    exact ⟨u, kept_below hb _ _ e, p⟩
  · obtain ⟨u, e, p⟩ := h.int i hi
    exact (hb.frozen (p := ⟨g1, i, none⟩) (World.block_lt_of_cell? w _ e)).trans (h.intf i hi)
  · obtain ⟨u, e, p⟩ := h.ev j c hj hc
    exact ⟨u, kept_below hb _ _ e, p⟩
  · obtain ⟨u, e, p⟩ := h.ev (j / 3) (j % 3) (by omega) (by omega)
    have e2 : j / 3 * 3 + j % 3 = j := by omega
    rw [e2] at e
    exact (hb.frozen (p := ⟨g2, j, none⟩) (World.block_lt_of_cell? w _ e)).trans (h.evf j hj)
theorem cell_set_far {w : World} {p q : Addr} (v : Value) (h : p ≠ q) : (w.setCell p v).cell? q = w.cell? q := World.cell?_setCell_other _ _ _ _ h
theorem TurnRow.setInt {w : World} {g1 g2 : Nat} {l : List Ev} {f : Nat → Nat} {a b : Nat} (h : TurnRow w g1 g2 l f a b) (hg : g1 ≠ g2) (u : Int) (ha : a < l.length) : TurnRow (w.setCell ⟨g1, a, none⟩ (.int .i64 u)) g1 g2 l f a b := by
  refine ⟨fun i hi => ?_, fun i hi => (World.frozen?_setCell w _ _ _).trans (h.intf i hi), fun j c hj hc => ?_, fun j hj => (World.frozen?_setCell w _ _ _).trans (h.evf j hj)⟩
  · obtain ⟨v, e, p⟩ := h.int i hi
    by_cases hi' : i = a
    · subst hi'
      exact ⟨u, World.cell?_setCell_same _ _ _ e, fun hh => absurd hh (by omega)⟩
    · exact ⟨v, (cell_set_far _ (by intro e; simp only [Addr.mk.injEq] at e; omega)).trans e, p⟩
  · obtain ⟨v, e, p⟩ := h.ev j c hj hc
    exact ⟨v, (cell_set_far _ (by intro e; simp only [Addr.mk.injEq] at e; omega)).trans e, p⟩
theorem TurnRow.setLast {w : World} {g1 g2 : Nat} {l : List Ev} {f : Nat → Nat} {a b : Nat} (h : TurnRow w g1 g2 l f a b) (hg : g1 ≠ g2) (u : Int) (ha : a < l.length) (hu : u = f a) : TurnRow (w.setCell ⟨g1, a, none⟩ (.int .i64 u)) g1 g2 l f (a + 1) b := by
  have k := h.setInt hg u ha
  refine ⟨fun i hi => ?_, k.intf, k.ev, k.evf⟩
  by_cases hi' : i = a
  · subst hi'
    obtain ⟨v, e, _⟩ := h.int i hi
    exact ⟨u, World.cell?_setCell_same _ _ _ e, fun _ => hu⟩
  · obtain ⟨v, e, p⟩ := k.int i hi
    exact ⟨v, e, fun hh => p (by omega)⟩
theorem TurnRow.setEv {w : World} {g1 g2 : Nat} {l : List Ev} {f : Nat → Nat} {a b : Nat} (h : TurnRow w g1 g2 l f a b) (hg : g1 ≠ g2) (hb : b < l.length) (hf : f b < l.length) (hinj : ∀ i, i < b → f i ≠ f b) {x : Ev} (hx : l.getD b dEv = x) :
    TurnRow (((w.setCell ⟨g2, f b * 3, none⟩ (.string x.clock)).setCell ⟨g2, f b * 3 + 1, none⟩ (.int .i64 x.shown)).setCell ⟨g2, f b * 3 + 2, none⟩ (.int .i64 x.wide)) g1 g2 l f a (b + 1) := by
  have e0 : w.cell? ⟨g2, f b * 3, none⟩ ≠ none := by obtain ⟨v, e, _⟩ := h.ev (f b) 0 hf (by omega); rw [Nat.add_zero] at e; rw [e]; simp
  obtain ⟨w0, e0⟩ := Option.ne_none_iff_exists'.1 e0
  obtain ⟨w1, e1, _⟩ := h.ev (f b) 1 hf (by omega)
  obtain ⟨w2, e2, _⟩ := h.ev (f b) 2 hf (by omega)
  refine ⟨fun i hi => ?_, fun i hi => ?_, fun j c hj hc => ?_, fun j hj => ?_⟩
  · obtain ⟨v, e, p⟩ := h.int i hi
    refine ⟨v, ?_, p⟩
    rw [cell_set_far _ (by intro e; simp only [Addr.mk.injEq] at e; omega), cell_set_far _ (by intro e; simp only [Addr.mk.injEq] at e; omega), cell_set_far _ (by intro e; simp only [Addr.mk.injEq] at e; omega)]
    exact e
  · rw [World.frozen?_setCell, World.frozen?_setCell, World.frozen?_setCell]
    exact h.intf i hi
  · by_cases hj' : j = f b
    · subst hj'
      have q : ∀ v, (l.getD b dEv).cells[c]? = some v → ∃ u, some v = some u ∧ ∀ i, i < b + 1 → f i = f b → (l.getD i dEv).cells[c]? = some u := fun v hv => ⟨v, rfl, fun i hi e => by
        rcases Nat.lt_or_ge i b with h3 | h3
        · exact absurd e (hinj i h3)
        · obtain rfl : i = b := by omega
          exact hv⟩
      rw [hx] at q
      rcases c with _ | _ | _ | c
      · rw [show f b * 3 + 0 = f b * 3 from rfl, cell_set_far _ (by intro e; simp only [Addr.mk.injEq] at e; omega), cell_set_far _ (by intro e; simp only [Addr.mk.injEq] at e; omega), World.cell?_setCell_same _ _ _ e0]
        exact q _ rfl
      · rw [cell_set_far _ (by intro e; simp only [Addr.mk.injEq] at e; omega), World.cell?_setCell_same _ _ _ ((cell_set_far _ (by intro e; simp only [Addr.mk.injEq] at e; omega)).trans e1)]
        exact q _ rfl
      · rw [World.cell?_setCell_same _ _ _ ((cell_set_far _ (by intro e; simp only [Addr.mk.injEq] at e; omega)).trans ((cell_set_far _ (by intro e; simp only [Addr.mk.injEq] at e; omega)).trans e2))]
        exact q _ rfl
      · omega
    · obtain ⟨v, e, p⟩ := h.ev j c hj hc
      refine ⟨v, ?_, fun i hi hij => ?_⟩
      · rw [cell_set_far _ (by intro e; simp only [Addr.mk.injEq] at e; omega), cell_set_far _ (by intro e; simp only [Addr.mk.injEq] at e; omega), cell_set_far _ (by intro e; simp only [Addr.mk.injEq] at e; omega)]
        exact e
      · refine p i ?_ hij
        rcases Nat.lt_or_ge i b with h3 | h3
        · exact h3
        · obtain rfl : i = b := by omega
          exact absurd hij.symm hj'
  · rw [World.frozen?_setCell, World.frozen?_setCell, World.frozen?_setCell]
    exact h.evf j hj
/-- The events turned. -/
def turnEvs (l : List Ev) (g : Nat → Nat) : List Ev := (List.range l.length).map fun j => l.getD (g j) dEv
theorem turnEvs_length (l : List Ev) (g : Nat → Nat) : (turnEvs l g).length = l.length := by simp [turnEvs]
theorem turnEvs_get {l : List Ev} {g : Nat → Nat} {j : Nat} (h : j < l.length) : (turnEvs l g).getD j dEv = l.getD (g j) dEv := by
  simp [turnEvs, List.getD_eq_getElem?_getD, h]
theorem TurnRow.evs {w : World} {g1 g2 : Nat} {l : List Ev} {f g : Nat → Nat} {a : Nat} (h : TurnRow w g1 g2 l f a l.length) (hg : ∀ j, j < l.length → g j < l.length) (hfg : ∀ j, j < l.length → f (g j) = j) : EvsAt w (some ⟨g2, 0, none⟩) (turnEvs l g) := by
  intro h0
  refine ⟨g2, 0, rfl, fun i j u hi hu => ?_⟩
  rw [turnEvs_length] at hi
  have hu : ((turnEvs l g).getD i dEv).cells[j]? = some u := hu
  rw [turnEvs_get hi] at hu
  have hj : j < 3 := by
    have := (List.getElem?_eq_some_iff.1 hu).1
    exact this
  obtain ⟨v, e, p⟩ := h.ev i j hi hj
  have := p (g i) (hg i hi) (hfg i hi)
  rw [hu] at this
  rw [Nat.zero_add, e, ← this]
theorem TurnRow.read {w : World} {g1 g2 : Nat} {l : List Ev} {f : Nat → Nat} {b : Nat} (h : TurnRow w g1 g2 l f l.length b) (a : Int) :
    (a < 0 ∧ turnInt l.length f a = a) ∨ ((l.length : Int) ≤ a ∧ turnInt l.length f a = a) ∨ (0 ≤ a ∧ a < (l.length : Int) ∧ ∃ u : Int, w.cell? ⟨g1, a.toNat, none⟩ = some (.int .i64 u) ∧ turnInt l.length f a = u) := by
  unfold turnInt
  rcases Int.lt_or_le a 0 with h1 | h1
  · exact .inl ⟨h1, if_neg (by omega)⟩
  · rcases Int.lt_or_le a l.length with h2 | h2
    · obtain ⟨u, e, z⟩ := h.int a.toNat (by omega)
      exact .inr (.inr ⟨h1, h2, u, e, (if_pos ⟨h1, h2⟩).trans (z (by omega)).symm⟩)
    · exact .inr (.inl ⟨h2, if_neg (by omega)⟩)
theorem Tryz.infoTi : (Tryz.prog.info? 28).map (fun i => (i.zero, i.size, i.bytes)) = some (some (.agg #[.int .i64 0, .int .i64 0, .int .i64 0, .int .i64 0]), 4, 32) := by kernel_rfl
theorem turned_of {l : List Ev} {ties : List Ti} {K : Nat} {fl : Bool} (hK : K < l.length) : Turned l (turnEvs l (turnBack l.length K fl)) ties (ties.map (turnTie l.length (turnAt l.length K fl))).reverse (turnAt l.length K fl) (turnBack l.length K fl) :=
  ⟨turnEvs_length _ _, fun i hi => turnAt_lt hK hi, fun i hi => turnBack_lt hK hi, fun i hi => turn_back hK hi, fun i hi => turn_at hK hi, fun i hi => by rw [turnEvs_get (turnAt_lt hK hi), turn_back hK hi], fun z => by simp [List.mem_map, eq_comm], by simp⟩
theorem turn_ok {l : List Ev} {g : Nat → Nat} (h : EvOk l) (hg : ∀ j, j < l.length → g j < l.length) : EvOk (turnEvs l g) := fun i hi => by
  rw [turnEvs_length] at hi
  rw [turnEvs_get hi]
  exact h _ (hg i hi)
theorem flat_map (ties : List Ti) (φ : Ti → Ti) : flatN ties.length (fun i => (φ (ties.getD i dTi)).cells) = flatN (ties.map φ).length (fun i => ((ties.map φ).getD i dTi).cells) := by
  rw [List.length_map]
  refine flatN_congr fun i hi => ?_
  simp [List.getD_eq_getElem?_getD, hi]
theorem _root_.Go.Proofs.YthcbchgdfldckaaGreatDoor.Out.lenLe {l : List Ev} {ties : List Ti} {fs : List Q} {e : Int} {L : List (Int × Int)} (h : Out l ties fs e L) : L.length ≤ fs.length := by
  rcases h with ⟨_, _, rfl⟩ | ⟨_, ⟨_, rfl, _⟩ | ⟨_, _, h, _⟩⟩
  · simp
  · simp
  · omega
theorem made_get (z : Array Value) (n j : Nat) (h : j < n) : (madeCells z n)[j]? = some (z[j % z.size]!) := by
  have h2 : j < (madeCells z n).size := by rw [size_madeCells]; exact h
  rw [Array.getElem?_eq_getElem h2]
  simp [madeCells]
theorem turn_start (w : World) (l : List Ev) (f : Nat → Nat) : TurnRow ((w.alloc (.cells (madeCells #[.int .i64 0] l.length) 3)).alloc (.cells (madeCells #[.string ByteArray.empty, .int .i64 0, .int .i64 0] (l.length * 3)) 38)) w.heap.size (w.heap.size + 1) l f 0 0 := by
  obtain ⟨q1, q2, q3, q4⟩ := new_facts w (madeCells #[.int .i64 0] l.length) 3
  generalize w.alloc (.cells (madeCells #[.int .i64 0] l.length) 3) = W at *
  obtain ⟨r1, r2, r3, r4⟩ := new_facts W (madeCells #[.string ByteArray.empty, .int .i64 0, .int .i64 0] (l.length * 3)) 38
  rw [← q3]
  refine ⟨fun i hi => ⟨0, ?_, fun h => absurd h (by omega)⟩, fun i hi => ?_, fun j c hj hc => ⟨_, r1 _ _ (made_get _ _ _ (by omega)), fun i h => absurd h (by omega)⟩, fun j _ => r2 j⟩
  · refine kept_below r4 _ _ (q1 i _ ?_)
    rw [made_get _ _ _ hi]
    have : i % (#[Value.int .i64 0] : Array Value).size = 0 := by simp [Nat.mod_one]
    rw [this]; rfl
  · exact (r4.frozen (p := ⟨w.heap.size, i, none⟩) (show w.heap.size < W.heap.size by omega)).trans (q2 i)
set_option maxHeartbeats 4000000 in
set_option maxRecDepth 100000 in
theorem eventsTurned_any (A B : Option Addr) (ca cb : Nat) (l : List Ev) (ties : List Ti) (t p q m : Int) (w : World) (h : EvsAt w A l) (h2 : TisAt w B ties) (hcap : l.length ≤ ca) (hok : EvOk l)
    (hm : w.cell? ⟨0, 0, none⟩ = some (.int .i64 m)) (hz : w.cell? ⟨3, 15, none⟩ = some (.int .u8 4))
    (ht : -9223372036854775808 ≤ t ∧ t ≤ 9223372036854775807) (hp : -9223372036854775808 ≤ p ∧ p ≤ 9223372036854775807) (hq : -9223372036854775808 ≤ q ∧ q ≤ 9223372036854775807)
    (hlen : l.length * 32 ≤ 140737488351232) (hlen2 : ties.length * 32 ≤ 140737488351232) :
    Calls Tryz.prog 5 #[.slice A l.length ca, .slice B ties.length cb, .int .i64 t, .int .i64 p, .int .i64 q] w fun e w' => e = .returned (.bool true) ∧ Below w.heap.size w w' := by
  have Hh := Lib.hid h
  have Hh2 := Lib.hid h2
  have Hm := Lib.hid hm
  have Hz := Lib.hid hz
  have Hok := Lib.hid hok
  clear h h2 hm hz hok
  obtain ⟨i1, hi1, z10, z11, z12⟩ := info_of (show (Tryz.prog.info? 3).map (fun i => (i.zero, i.size, i.bytes)) = some (some (.int .i64 0), 1, 8) by kernel_rfl)
  obtain ⟨i2, hi2, z20, z21, z22⟩ := info_of (show (Tryz.prog.info? 38).map (fun i => (i.zero, i.size, i.bytes)) = some (some (.agg #[.string ByteArray.empty, .int .i64 0, .int .i64 0]), 3, 32) by kernel_rfl)
  have hmk1 : ∀ w, (Instr.makeSlice 44 (.int .i64 (l.length : Int)) (.int .i64 (l.length : Int))).run Tryz.prog w = .ok (.slice (some ⟨w.heap.size, 0, none⟩) l.length l.length) (w.alloc (.cells (madeCells #[.int .i64 0] l.length) 3)) := fun w => by
    have := run_make (P := Tryz.prog) w 44 3 i1 _ Tryz.underlying44 hi1 z10 .i64 .i64 l.length l.length (by omega) (by omega) (by rw [z12]; omega) (by omega)
    rw [z11] at this
    simp only [Int.toNat_natCast, Nat.mul_one] at this
    exact this
  have hmk2 : ∀ w, (Instr.makeSlice 22 (.int .i64 (l.length : Int)) (.int .i64 (l.length : Int))).run Tryz.prog w = .ok (.slice (some ⟨w.heap.size, 0, none⟩) l.length l.length) (w.alloc (.cells (madeCells #[.string ByteArray.empty, .int .i64 0, .int .i64 0] (l.length * 3)) 38)) := fun w => by
    have := run_make (P := Tryz.prog) w 22 38 i2 _ Tryz.underlying22 hi2 z20 .i64 .i64 l.length l.length (by omega) (by omega) (by rw [z22]; omega) (by omega)
    rw [z21] at this
    simp only [Int.toNat_natCast] at this
    exact this
  have Hb0 := Lib.hid (((Below.refl w.heap.size w).alloc (Nat.le_refl _) (.cells (madeCells #[.int .i64 0] l.length) 3)).alloc (by simp) (.cells (madeCells #[.string ByteArray.empty, .int .i64 0, .int .i64 0] (l.length * 3)) 38))
  have Hs0 := Lib.hid (show (((w.alloc (.cells (madeCells #[.int .i64 0] l.length) 3)).alloc (.cells (madeCells #[.string ByteArray.empty, .int .i64 0, .int .i64 0] (l.length * 3)) 38)).heap.size = w.heap.size + 1 + 1) by simp)
  obtain ⟨K, hK⟩ : ∃ K : Nat, (t % (l.length : Int)).toNat = K := ⟨_, rfl⟩
  obtain ⟨fl, hfl⟩ : ∃ fl : Bool, (t.tmod 2 == 0) = fl := ⟨_, rfl⟩
  have Ht0 := Lib.hid (turn_start w l (turnAt l.length K fl))
  have HK := Lib.hid hK
  clear hi1 hi2 z10 z11 z12 z20 z21 z22 hK
  go_enter Tryz.func5, Tryz.ntmps5
  go_wp2_with fail
  clear hmk1 hmk2
  generalize (w.alloc (.cells (madeCells #[.int .i64 0] l.length) 3)).alloc (.cells (madeCells #[.string ByteArray.empty, .int .i64 0, .int .i64 0] (l.length * 3)) 38) = W1 at *
  go_loopw [38] (fun s38 wr => ∃ k : Nat, k ≤ l.length ∧ s38 = .int .i64 k ∧ TurnRow wr w.heap.size (w.heap.size + 1) l (turnAt l.length K fl) k k ∧ Below w.heap.size w wr ∧ w.heap.size + 1 < wr.heap.size) (fun s38 _ => l.length - (intOf s38).toNat)
  case atStart => exact ⟨0, Nat.zero_le _, rfl, Ht0.out, Hb0.out, by have := Hs0.out; omega⟩
  case round =>
    obtain ⟨k, hk, rfl, hT, hb, hb1s⟩ := hrel
    by_cases hlt : k < l.length
    · obtain ⟨b, o, rfl, p1, p2, p3⟩ := EvsAt.cell (Hh.out.kept (kept_below hb)) hlt
      obtain ⟨x, hx⟩ : ∃ x, l.getD k dEv = x := ⟨_, rfl⟩
      rw [hx] at p1 p2 p3
      have HX := Lib.hid hx
      have hn0 : (0 : Int) < (l.length : Int) := by omega
      have he0 := Int.emod_nonneg t (by omega : (l.length : Int) ≠ 0)
      have he1 := Int.emod_lt_of_pos t hn0
      have HKe := Lib.hid (show t % (l.length : Int) = (K : Int) by have := HK.out; omega)
      have hKn : K < l.length := by have := HKe.out; omega
      have hmlt : (k + K) % l.length < l.length := Nat.mod_lt _ (by omega)
      have htm : ((k : Int) + (K : Int)) % (l.length : Int) = (((k + K) % l.length : Nat) : Int) := (Int.natCast_emod (k + K) l.length).symm
      have hf0 : ∀ i, i < k → turnAt l.length K fl i ≠ turnAt l.length K fl k := fun i hi e => by
        have e1 := turn_back (flip := fl) hKn (show i < l.length by omega)
        have e2 := turn_back (flip := fl) hKn hlt
        rw [e] at e1
        omega
      have hfe : ((turnAt l.length K fl k : Nat) : Int) = if fl then (l.length : Int) - 1 - (((k + K) % l.length : Nat) : Int) else (((k + K) % l.length : Nat) : Int) := by
        unfold turnAt
        cases fl <;> simp <;> omega
      have htm2 : ((k : Int) + (K : Int)).tmod (l.length : Int) = (((k + K) % l.length : Nat) : Int) := by
        rw [Int.tmod_eq_emod_of_nonneg (by omega)]
        exact htm
      obtain ⟨y, hy⟩ : ∃ y : Nat, (k + K) % l.length = y := ⟨_, rfl⟩
      rw [hy] at htm htm2 hmlt hfe
      clear hy
      have HF0 := Lib.hid hf0
      have HFe := Lib.hid hfe
      clear hf0 hfe
      have hfk := turnAt_lt (flip := fl) hKn hlt
      obtain ⟨q1, q2, q3, q4⟩ := new_facts wr #[Value.string x.clock, .int .i64 x.shown, .int .i64 x.wide] 38
      have hs1 : w.heap.size < wr.heap.size := by obtain ⟨u, e, _⟩ := hT.int k hlt; exact World.block_lt_of_cell? wr _ e
      have hs2 : w.heap.size + 1 < wr.heap.size := by obtain ⟨u, e, _⟩ := hT.ev k 0 hlt (by omega); exact World.block_lt_of_cell? wr _ e
      have hT2 := hT.kept q4
      have HT2 := Lib.hid hT2
      have hb2 := hb.alloc hb.size (.cells #[Value.string x.clock, .int .i64 x.shown, .int .i64 x.wide] 38)
      have Hb2 := Lib.hid hb2
      clear he0 he1 hx hT hb q4
      go_wp2_with fail
      generalize wr.alloc (.cells #[Value.string x.clock, .int .i64 x.shown, .int .i64 x.wide] 38) = W at *
      refine (below_any t l.length W ht (by omega) (by omega)).mono ?_
      rintro e w3 ⟨he, rfl⟩
      rw [HKe.out] at he
      subst he
      obtain ⟨u1, c1, _⟩ := hT2.int k hlt
      have f1 := hT2.intf k hlt
      have x0 := q1 0 _ rfl
      have x1 := q1 1 _ rfl
      have x2 := q1 2 _ rfl
      clear hT2 hb2 p1 p2 p3 q1 q2
      cases fl
      · have hT3 := HT2.out.setLast (by omega) (y : Int) hlt (by have := HFe.out; simpa using this.symm)
        go_wp2_with fail
        have hb3 : Below w.heap.size w (w3.setCell ⟨w.heap.size, k, none⟩ (.int .i64 (y : Int))) := Hb2.out.setCell (by show w.heap.size ≤ w.heap.size; omega) _
        have x0 := (cell_set_far (w := w3) (p := ⟨w.heap.size, k, none⟩) (q := ⟨wr.heap.size, 0, none⟩) (.int .i64 (y : Int)) (by intro e; simp only [Addr.mk.injEq] at e; omega)).trans x0
        have x1 := (cell_set_far (w := w3) (p := ⟨w.heap.size, k, none⟩) (q := ⟨wr.heap.size, 1, none⟩) (.int .i64 (y : Int)) (by intro e; simp only [Addr.mk.injEq] at e; omega)).trans x1
        have x2 := (cell_set_far (w := w3) (p := ⟨w.heap.size, k, none⟩) (q := ⟨wr.heap.size, 2, none⟩) (.int .i64 (y : Int)) (by intro e; simp only [Addr.mk.injEq] at e; omega)).trans x2
        generalize w3.setCell ⟨w.heap.size, k, none⟩ (.int .i64 (y : Int)) = W2 at *
        obtain ⟨u, z1, z2⟩ := hT3.int k hlt
        obtain rfl := z2 (by omega)
        obtain ⟨v0, y0, _⟩ := hT3.ev (turnAt l.length K false k) 0 hfk (by omega)
        obtain ⟨v1, y1, _⟩ := hT3.ev (turnAt l.length K false k) 1 hfk (by omega)
        obtain ⟨v2, y2, _⟩ := hT3.ev (turnAt l.length K false k) 2 hfk (by omega)
        have g0 := hT3.evf (turnAt l.length K false k * 3) (by omega)
        have g1 := hT3.evf (turnAt l.length K false k * 3 + 1) (by omega)
        have g2 := hT3.evf (turnAt l.length K false k * 3 + 2) (by omega)
        have y0 : W2.cell? ⟨w.heap.size + 1, turnAt l.length K false k * 3, none⟩ = some v0 := y0
        have HT4 := Lib.hid (hT3.setEv (by omega) hlt hfk HF0.out HX.out)
        have Hb3 := Lib.hid hb3
        have Hz3 := Lib.hid (show w.heap.size + 1 < W2.heap.size from World.block_lt_of_cell? W2 _ y0)
        clear hT3 hb3 c1 f1
        generalize turnAt l.length K false k = fk at *
        have hfk2 : (fk : Int) < (l.length : Int) := by omega
        go_region
        go_wp2_with fail
        exact ⟨⟨k + 1, by omega, by go_num, HT4.out.kept (Below.refl _ _).drew, (((Hb3.out.setCell (by show w.heap.size ≤ w.heap.size + 1; omega) _).setCell (by show w.heap.size ≤ w.heap.size + 1; omega) _).setCell (by show w.heap.size ≤ w.heap.size + 1; omega) _).drew, by simp; have := Hz3.out; omega⟩, by simp [intOf]; omega⟩
      · go_wp2_with fail
        have hT3 := (HT2.out.setInt (by omega) (y : Int) hlt).setLast (by omega) ((l.length : Int) - 1 - (y : Int)) hlt (by have := HFe.out; simpa using this.symm)
        have a0 := (cell_set_far (w := w3) (p := ⟨w.heap.size, k, none⟩) (q := ⟨wr.heap.size, 0, none⟩) (.int .i64 (y : Int)) (by intro e; simp only [Addr.mk.injEq] at e; omega)).trans x0
        have a1 := (cell_set_far (w := w3) (p := ⟨w.heap.size, k, none⟩) (q := ⟨wr.heap.size, 1, none⟩) (.int .i64 (y : Int)) (by intro e; simp only [Addr.mk.injEq] at e; omega)).trans x1
        have a2 := (cell_set_far (w := w3) (p := ⟨w.heap.size, k, none⟩) (q := ⟨wr.heap.size, 2, none⟩) (.int .i64 (y : Int)) (by intro e; simp only [Addr.mk.injEq] at e; omega)).trans x2
        have hb3 : Below w.heap.size w ((w3.setCell ⟨w.heap.size, k, none⟩ (.int .i64 (y : Int))).setCell ⟨w.heap.size, k, none⟩ (.int .i64 ((l.length : Int) - 1 - (y : Int)))) := (Hb2.out.setCell (by show w.heap.size ≤ w.heap.size; omega) _).setCell (by show w.heap.size ≤ w.heap.size; omega) _
        have x0 := (cell_set_far (w := w3.setCell ⟨w.heap.size, k, none⟩ (.int .i64 (y : Int))) (p := ⟨w.heap.size, k, none⟩) (q := ⟨wr.heap.size, 0, none⟩) (.int .i64 ((l.length : Int) - 1 - (y : Int))) (by intro e; simp only [Addr.mk.injEq] at e; omega)).trans a0
        have x1 := (cell_set_far (w := w3.setCell ⟨w.heap.size, k, none⟩ (.int .i64 (y : Int))) (p := ⟨w.heap.size, k, none⟩) (q := ⟨wr.heap.size, 1, none⟩) (.int .i64 ((l.length : Int) - 1 - (y : Int))) (by intro e; simp only [Addr.mk.injEq] at e; omega)).trans a1
        have x2 := (cell_set_far (w := w3.setCell ⟨w.heap.size, k, none⟩ (.int .i64 (y : Int))) (p := ⟨w.heap.size, k, none⟩) (q := ⟨wr.heap.size, 2, none⟩) (.int .i64 ((l.length : Int) - 1 - (y : Int))) (by intro e; simp only [Addr.mk.injEq] at e; omega)).trans a2
        generalize (w3.setCell ⟨w.heap.size, k, none⟩ (.int .i64 (y : Int))).setCell ⟨w.heap.size, k, none⟩ (.int .i64 ((l.length : Int) - 1 - (y : Int))) = W2 at *
        obtain ⟨u, z1, z2⟩ := hT3.int k hlt
        obtain rfl := z2 (by omega)
        obtain ⟨v0, y0, _⟩ := hT3.ev (turnAt l.length K true k) 0 hfk (by omega)
        obtain ⟨v1, y1, _⟩ := hT3.ev (turnAt l.length K true k) 1 hfk (by omega)
        obtain ⟨v2, y2, _⟩ := hT3.ev (turnAt l.length K true k) 2 hfk (by omega)
        have g0 := hT3.evf (turnAt l.length K true k * 3) (by omega)
        have g1 := hT3.evf (turnAt l.length K true k * 3 + 1) (by omega)
        have g2 := hT3.evf (turnAt l.length K true k * 3 + 2) (by omega)
        have y0 : W2.cell? ⟨w.heap.size + 1, turnAt l.length K true k * 3, none⟩ = some v0 := y0
        have HT4 := Lib.hid (hT3.setEv (by omega) hlt hfk HF0.out HX.out)
        have Hb3 := Lib.hid hb3
        have Hz3 := Lib.hid (show w.heap.size + 1 < W2.heap.size from World.block_lt_of_cell? W2 _ y0)
        clear hT3 hb3 c1 f1 a0 a1 a2
        generalize turnAt l.length K true k = fk at *
        have hfk2 : (fk : Int) < (l.length : Int) := by omega
        go_region
        go_wp2_with fail
        exact ⟨⟨k + 1, by omega, by go_num, HT4.out.kept (Below.refl _ _).drew, (((Hb3.out.setCell (by show w.heap.size ≤ w.heap.size + 1; omega) _).setCell (by show w.heap.size ≤ w.heap.size + 1; omega) _).setCell (by show w.heap.size ≤ w.heap.size + 1; omega) _).drew, by simp; have := Hz3.out; omega⟩, by simp [intOf]; omega⟩
    · obtain rfl : l.length = k := by omega
      generalize wr = w1 at *
      have HT := Lib.hid hT
      have Hb := Lib.hid hb
      have hs1 : w.heap.size ≤ w1.heap.size := hb.size
      have Hs1 := Lib.hid (show w.heap.size + 1 < w1.heap.size by have := hb1s; omega)
      clear hT hb
      go_wp2_with fail
      go_loopw [16, 76] (fun s16 s76 wr => ∃ k : Nat, k ≤ ties.length ∧ s76 = .int .i64 k ∧ wr.ownsRow w1.heap.size 28 4 s16 k (flatN k fun i => (turnTie l.length (turnAt l.length K fl) (ties.getD i dTi)).cells) ∧ Below w1.heap.size w1 wr) (fun _ s76 _ => ties.length - (intOf s76).toNat)
      case atStart => exact ⟨0, Nat.zero_le _, rfl, World.ownsRow_nil _ _ _ _, Below.refl _ _⟩
      case round =>
        obtain ⟨k, hk, rfl, hown, hbz⟩ := hrel
        by_cases hlt : k < ties.length
        · obtain ⟨b, o, rfl, p1, p2, p3, p4⟩ := TisAt.cell (Hh2.out.kept (kept_below (below_then Hb.out Hb.out.size hbz))) hlt
          have HF := Lib.hid (show flatN (k + 1) (fun i => (turnTie l.length (turnAt l.length K fl) (ties.getD i dTi)).cells) = flatN k (fun i => (turnTie l.length (turnAt l.length K fl) (ties.getD i dTi)).cells) ++ (turnTie l.length (turnAt l.length K fl) (ties.getD k dTi)).cells by rw [flatN_succ])
          have hTz := HT.out.kept hbz
          have hsz := hbz.size
          obtain ⟨A7, c7, rfl⟩ := own_slice hown
          generalize ties.getD k dTi = x at *
          obtain ⟨q1, q2, q3, q4⟩ := new_facts wr #[Value.int .i64 x.a, .int .i64 x.b, .int .i64 x.low, .int .i64 x.high] 28
          have hTq := hTz.kept q4
          have hg1 : w.heap.size < wr.heap.size := by have := Hs1.out; omega
          have ha := hTz.read x.a
          have hb := hTz.read x.b
          clear hTz hTq q1 q2 q3
          have HK4 := Lib.hid (fun a v (h : wr.cell? a = some v) => kept_below q4 a v h)
          have Hr := Lib.hid (show (turnTie l.length (turnAt l.length K fl) x).cells = [.int .i64 (turnInt l.length (turnAt l.length K fl) x.a), .int .i64 (turnInt l.length (turnAt l.length K fl) x.b), .int .i64 x.low, .int .i64 x.high] from rfl)
          have Hown := Lib.hid hown
          have Hbz := Lib.hid hbz
          clear q4 hown hbz
          rcases ha with ⟨ha1, ha⟩ | ⟨ha1, ha⟩ | ⟨ha0, ha1, u, e1, ha⟩ <;> rcases hb with ⟨hb1, hb⟩ | ⟨hb1, hb⟩ | ⟨hb0, hb1, v, e2, hb⟩
          all_goals
            rw [ha, hb] at Hr
            clear ha hb
            try (have a1 := HK4.out _ _ e1)
            try (have a2 := HK4.out _ _ e2)
            have ha3 : ∀ z : Int, z < 0 → ¬ (0 ≤ z) := fun z h => by omega
            go_wp2_with (at_builtin; refine wpl_push _ rfl (.tmp 110) (.tmp 112) 23 rfl w1.heap.size 28 _ 4 32 Tryz.underlying23 Tryz.infoTi rfl (by decide) (.slice A7 k c7) k _ rfl (by refine own_below Hown.out ?_; (repeat first | exact Below.refl _ _ | refine Below.alloc ?_ (by simp) _ | refine Below.setCell ?_ (by show wr.heap.size ≤ wr.heap.size; omega) _)) ⟨wr.heap.size + 1, 0, none⟩ 1 1 (turnTie l.length (turnAt l.length K fl) x).cells rfl rfl (by rw [Hr.out]; exact news_at (cs := #[_, _, _, _]) (by simp)) (by rw [Hr.out]; intro u hu; simp at hu; rcases hu with rfl | rfl | rfl | rfl <;> rfl) (by decide) (by omega) (by decide) (by simp; omega) ?_; intro g cp w4 hown4 hg4 hat4 hlt4)
            refine ⟨⟨k + 1, by omega, by go_num, ?_, below_push (below_then Hbz.out Hbz.out.size (by (repeat first | exact Below.refl _ _ | refine Below.alloc ?_ (by simp) _ | refine Below.setCell ?_ (by show wr.heap.size ≤ wr.heap.size; omega) _))) hg4 (by simp; omega) (own_base Hown.out)⟩, by simp [intOf]; omega⟩
            rw [HF.out]
            exact hown4
        · obtain rfl : ties.length = k := by omega
          generalize wr = w2 at *
          rw [flat_map] at hown
          have hml : (ties.map (turnTie l.length (turnAt l.length K fl))).length = ties.length := List.length_map _
          have hown' : w2.ownsRow w1.heap.size 28 4 u16 (ties.map (turnTie l.length (turnAt l.length K fl))).length (flatN (ties.map (turnTie l.length (turnAt l.length K fl))).length fun i => ((ties.map (turnTie l.length (turnAt l.length K fl))).getD i dTi).cells) := by
            rw [hml] at hown ⊢; exact hown
          obtain ⟨A5, c5, rfl, hrev⟩ := reverse_own hown' (by rw [hml]; exact hlen2)
          have HTn := Lib.hid (fun hK : K < l.length => turned_of (ties := ties) (fl := fl) hK)
          have HTR := Lib.hid (fun (w' : World) (h : Below w1.heap.size w1 w') => HT.out.kept h)
          have Hrev := Lib.hid hrev
          have Hbz := Lib.hid hbz
          have Hml := Lib.hid hml
          generalize ties.map (turnTie l.length (turnAt l.length K fl)) = T at *
          clear hown hown' hrev hbz hml
          go_wp2_with fail
          refine Hrev.out.mono ?_
          rintro e w3 ⟨rfl, hTT, hb3⟩
          have hb13 := Hbz.out.trans hb3
          have HTR3 := Lib.hid (HTR.out w3 hb13)
          have HTT3 := Lib.hid hTT
          have Hb3 := Lib.hid (below_then Hb.out Hb.out.size hb13)
          clear hTT hb3 hb13
          go_wp2_with fail
          refine (g3_any m w3 (kept_below Hb3.out _ _ Hm.out) (kept_below Hb3.out _ _ Hz.out)).mono ?_
          rintro e w4 ⟨rfl, hb4⟩
          have Hb4 := Lib.hid (below_then Hb3.out Hb3.out.size hb4)
          have HTR4 := Lib.hid (HTR3.out.kept hb4)
          have HTT4 := Lib.hid (HTT3.out.kept (kept_below hb4))
          clear hb4
          go_wp2_with fail
          refine (clockFault_any A B ca cb l ties w4 (Hh.out.kept (kept_below Hb4.out)) (Hh2.out.kept (kept_below Hb4.out)) hcap Hok.out).mono ?_
          rintro e w5 ⟨E, rfl, hb5, hR⟩
          have Hb5 := Lib.hid (below_then Hb4.out Hb4.out.size hb5)
          have HTR5 := Lib.hid (HTR4.out.kept hb5)
          have HTT5 := Lib.hid (HTT4.out.kept (kept_below hb5))
          have HR := Lib.hid hR
          clear hb5 hR
          by_cases hE : E = 0
          · subst hE
            by_cases hn0 : l.length = 0
            · have hn0' : ((l.length : Int) == 0) = true := by simp [hn0]
              have Hn0 := Lib.hid hn0
              clear hn0
              go_wp2_with fail
              refine (g3_any m w5 (kept_below Hb5.out _ _ Hm.out) (kept_below Hb5.out _ _ Hz.out)).mono ?_
              rintro e w6 ⟨rfl, hb6⟩
              have Hbe := Lib.hid (below_then Hb5.out Hb5.out.size hb6)
              clear hb6
              go_wp2
              go_ret
              exact ⟨rfl, Hbe.out⟩
            · have hn0' : ((l.length : Int) == 0) = false := by simpa using hn0
              have hpos : 0 < l.length := Nat.pos_of_ne_zero hn0
              clear hn0
              have Hright := Lib.hid (HR.out rfl)
              have hl40 := Hright.out.1
              have hK : K < l.length := by
                have he0 := Int.emod_nonneg t (by omega : (l.length : Int) ≠ 0)
                have he1 := Int.emod_lt_of_pos t (by omega : (0 : Int) < (l.length : Int))
                have := HK.out
                omega
              have HN := Lib.hid (HTn.out hK)
              have HM5 := Lib.hid (HTR5.out.evs (fun j hj => HN.out.gl j hj) (fun j hj => HN.out.fg j hj))
              have Hokm := Lib.hid (turn_ok Hok.out (fun j hj => HN.out.gl j hj))
              have Hlm := Lib.hid (turnEvs_length l (turnBack l.length K fl))
              have hfl' := fun i hi => turnAt_lt (n := l.length) (k := K) (flip := fl) (i := i) hK hi
              have Hfl := Lib.hid hfl'
              clear hfl' hfl
              generalize turnEvs l (turnBack l.length K fl) = M at *
              generalize turnAt l.length K fl = f at *
              generalize turnBack l.length K fl = fb at *
              go_wp2_with fail
              refine (solve_any A B ca cb l ties w5 (Hh.out.kept (kept_below Hb5.out)) (Hh2.out.kept (kept_below Hb5.out)) hcap Hok.out).mono ?_
              rintro e w6 ⟨v6, E1, L1, rfl, ho1, hp1, hb6⟩
              obtain ⟨A1, d1, rfl, hP1⟩ := pairs_own hp1
              have Hb6 := Lib.hid (below_then Hb5.out Hb5.out.size hb6)
              have HTR6 := Lib.hid (HTR5.out.kept hb6)
              have HTT6 := Lib.hid (HTT5.out.kept (kept_below hb6))
              have HM6 := Lib.hid (HM5.out.kept (kept_below hb6))
              have HP1 := Lib.hid hP1
              have Ho1 := Lib.hid ho1
              clear hb6 hp1 hP1 ho1
              go_wp2_with fail
              have hs7 := solve_any (some ⟨w.heap.size + 1, 0, none⟩) A5 l.length c5 M T.reverse w6 HM6.out HTT6.out (by rw [Hlm.out]; exact Nat.le_refl _) Hokm.out
              rw [Hlm.out, List.length_reverse] at hs7
              refine hs7.mono ?_
              rintro e w7 ⟨v7, E2, L2, rfl, ho2, hp2, hb7⟩
              obtain ⟨A2, d2, rfl, hP2⟩ := pairs_own hp2
              obtain ⟨rfl, hsol⟩ := turned_solve HN.out Hright.out Ho1.out ho2
              have Hb7 := Lib.hid (below_then Hb6.out Hb6.out.size hb7)
              have HTR7 := Lib.hid (HTR6.out.kept hb7)
              have HTT7 := Lib.hid (HTT6.out.kept (kept_below hb7))
              have HM7 := Lib.hid (HM6.out.kept (kept_below hb7))
              have HP17 := Lib.hid (HP1.out.kept (kept_below hb7))
              have HP2 := Lib.hid hP2
              have Hsol := Lib.hid hsol
              clear hs7 hb7 hp2 hP2 ho2 hsol
              by_cases hE1 : E1 = 0
              · subst hE1
                obtain ⟨hl1, hl2, hL⟩ := Hsol.out rfl
                have HL := Lib.hid hL
                have Hl1 := Lib.hid hl1
                have Hl2 := Lib.hid hl2
                have hl2' : ((L2.length : Int) != (l.length : Int)) = false := by simp; omega
                clear hL hl1 hl2
                go_wp2_with fail
                go_loopw [154] (fun s154 wr => ∃ i : Nat, i ≤ L1.length ∧ s154 = .int .i64 i ∧ Below w7.heap.size w7 wr) (fun s154 _ => L1.length - (intOf s154).toNat)
                case atStart => exact ⟨0, Nat.zero_le _, rfl, Below.refl _ _⟩
                case round =>
                  obtain ⟨i, hi, rfl, hb⟩ := hrel
                  by_cases hlt : i < L1.length
                  · have hl1 := Hl1.out
                    have hl2 := Hl2.out
                    have hil : i < l.length := by omega
                    have hfi := HN.out.fl i hil
                    have heq := HL.out i hil
                    obtain ⟨b1, rfl, h1⟩ := HP17.out (by omega)
                    obtain ⟨b2, rfl, h2⟩ := HP2.out (by omega)
                    have x1 := kept_below hb _ _ (h1 i hlt).1
                    have x2 := kept_below hb _ _ (h1 i hlt).2
                    have y1 := kept_below hb _ _ (h2 (f i) (by omega)).1
                    have y2 := kept_below hb _ _ (h2 (f i) (by omega)).2
                    rw [← heq] at y1 y2
                    obtain ⟨z, c1, hz⟩ := HTR7.out.int i hil
                    obtain rfl := hz hil
                    have c2 := kept_below hb _ _ c1
                    clear h1 h2 heq c1 hz
                    generalize (L1.getD i (0, 0)).1 = u at *
                    generalize (L1.getD i (0, 0)).2 = v at *
                    generalize f i = fi at *
                    have hi1 : (i : Int) < (L1.length : Int) := by omega
                    have hi2 : (fi : Int) < (L2.length : Int) := by omega
                    have hi3 : (i : Int) < (l.length : Int) := by omega
                    have hne := fun W => neq_pair W u v
                    clear hl1 hl2
                    go_wp2_with fail
                    go_quiet (fail)
                    go_wp2_with fail
                    exact ⟨⟨i + 1, by omega, by go_num, hb.trans ⟨rfl, rfl, rfl, Nat.le_refl _, fun _ _ => rfl⟩⟩, by simp [intOf]; omega⟩
                  · obtain rfl : L1.length = i := by omega
                    generalize wr = w8 at *
                    have Hb8 := Lib.hid (below_then Hb7.out Hb7.out.size hb)
                    have HTR8 := Lib.hid (HTR7.out.kept hb)
                    have HTT8 := Lib.hid (HTT7.out.kept (kept_below hb))
                    have HM8 := Lib.hid (HM7.out.kept (kept_below hb))
                    clear hb hl2'
                    go_wp2_with fail
                    refine (errors_any A B ca cb l ties w8 (Hh.out.kept (kept_below Hb8.out)) (Hh2.out.kept (kept_below Hb8.out)) hcap Hok.out).mono ?_
                    rintro e w9 ⟨v9, E3, L3, rfl, ho3, hp3, hb9⟩
                    obtain ⟨A3, d3, rfl, hP3⟩ := pairs_own hp3
                    have hE3 : E3 = 0 := (out_err Ho1.out ho3).symm
                    subst hE3
                    have Hb9 := Lib.hid (below_then Hb8.out Hb8.out.size hb9)
                    have HTR9 := Lib.hid (HTR8.out.kept hb9)
                    have HTT9 := Lib.hid (HTT8.out.kept (kept_below hb9))
                    have HM9 := Lib.hid (HM8.out.kept (kept_below hb9))
                    have HP3 := Lib.hid hP3
                    have Ho3 := Lib.hid ho3
                    clear hb9 hp3 hP3 ho3
                    go_wp2_with fail
                    have hs10 := errors_any (some ⟨w.heap.size + 1, 0, none⟩) A5 l.length c5 M T.reverse w9 HM9.out HTT9.out (by rw [Hlm.out]; exact Nat.le_refl _) Hokm.out
                    rw [Hlm.out, List.length_reverse] at hs10
                    refine hs10.mono ?_
                    rintro e w10 ⟨v10, E4, L4, rfl, ho4, hp4, hb10⟩
                    obtain ⟨A4, d4, rfl, hP4⟩ := pairs_own hp4
                    obtain ⟨rfl, rfl⟩ := turned_errs HN.out Hright.out Ho3.out ho4
                    have Hb10 := Lib.hid (below_then Hb9.out Hb9.out.size hb10)
                    have HTR10 := Lib.hid (HTR9.out.kept hb10)
                    have HTT10 := Lib.hid (HTT9.out.kept (kept_below hb10))
                    have HM10 := Lib.hid (HM9.out.kept (kept_below hb10))
                    have HP310 := Lib.hid (HP3.out.kept (kept_below hb10))
                    have HP4 := Lib.hid hP4
                    clear hs10 hb10 hp4 hP4 ho4
                    have hn0 : (0 : Int) < (l.length : Int) := by omega
                    obtain ⟨a, ha⟩ : ∃ a : Nat, p % (l.length : Int) = a := ⟨(p % (l.length : Int)).toNat, (Int.toNat_of_nonneg (Int.emod_nonneg _ (by omega))).symm⟩
                    obtain ⟨b, hbq⟩ : ∃ b : Nat, q % (l.length : Int) = b := ⟨(q % (l.length : Int)).toNat, (Int.toNat_of_nonneg (Int.emod_nonneg _ (by omega))).symm⟩
                    have han : a < l.length := by have := Int.emod_lt_of_pos p hn0; omega
                    have hbn : b < l.length := by have := Int.emod_lt_of_pos q hn0; omega
                    have Ha := Lib.hid ha
                    have HB := Lib.hid hbq
                    clear ha hbq
                    go_wp2_with fail
                    refine (below_any p l.length w10 hp (by omega) (by omega)).mono ?_
                    rintro e w11 ⟨he, rfl⟩
                    rw [Ha.out] at he
                    subst he
                    go_wp2_with fail
                    refine (below_any q l.length w11 hq (by omega) (by omega)).mono ?_
                    rintro e w12 ⟨he, rfl⟩
                    rw [HB.out] at he
                    subst he
                    go_wp2_with fail
                    refine (before_any A B ca cb l ties a b w12 (Hh.out.kept (kept_below Hb10.out)) (Hh2.out.kept (kept_below Hb10.out)) hcap Hok.out (by omega) (by omega)).mono ?_
                    rintro e w13 ⟨r, E5, rfl, hbf, hb13⟩
                    have Hb13 := Lib.hid (below_then Hb10.out Hb10.out.size hb13)
                    have HTR13 := Lib.hid (HTR10.out.kept hb13)
                    have HTT13 := Lib.hid (HTT10.out.kept (kept_below hb13))
                    have HM13 := Lib.hid (HM10.out.kept (kept_below hb13))
                    have HP313 := Lib.hid (HP310.out.kept (kept_below hb13))
                    have HP413 := Lib.hid (HP4.out.kept (kept_below hb13))
                    have Hbf := Lib.hid hbf
                    obtain ⟨z, c1, hz⟩ := HTR13.out.int a han
                    obtain rfl := hz han
                    obtain ⟨z, c2, hz⟩ := HTR13.out.int b hbn
                    obtain rfl := hz hbn
                    have han2 : (a : Int) < (l.length : Int) := by omega
                    have hbn2 : (b : Int) < (l.length : Int) := by omega
                    clear hb13 hbf hz
                    have hsb := before_any (some ⟨w.heap.size + 1, 0, none⟩) A5 l.length c5 M T.reverse (f a : Nat) (f b : Nat) w13.drew (HM13.out.kept (fun _ _ e => e)) (HTT13.out.kept (fun _ _ e => e)) (by rw [Hlm.out]; exact Nat.le_refl _) Hokm.out (by have := HN.out.fl a han; omega) (by have := HN.out.fl b hbn; omega)
                    rw [Hlm.out, List.length_reverse] at hsb
                    have Hsb := Lib.hid hsb
                    have Hbef := Lib.hid (fun (r' : Bool) (e' : Int) (h : Bef M T.reverse (f a : Nat) (f b : Nat) r' e') => turned_bef HN.out Hright.out han hbn Ho3.out rfl Hbf.out h)
                    clear hsb
                    generalize f a = fa at *
                    generalize f b = fb2 at *
                    go_wp2_with fail
                    go_region_with (go_at_call 17; refine Hsb.out.mono ?_; rintro e w14 ⟨r2, E6, rfl, hbf2, hb14⟩)
                    all_goals
                      obtain ⟨rfl, rfl, rfl⟩ := Hbef.out _ _ hbf2
                      have Hb14 := Lib.hid (below_then Hb13.out.drew Hb13.out.size hb14)
                      have HP314 := Lib.hid ((HP313.out.kept (w' := w13.drew) (fun _ _ e => e)).kept (kept_below hb14))
                      have HP414 := Lib.hid ((HP413.out.kept (w' := w13.drew) (fun _ _ e => e)).kept (kept_below hb14))
                      have hL3 : L3.length ≤ 1000 := by have := Ho3.out.lenLe; have := names_length l; simp [errs] at *; omega
                      clear hb14 hbf2 c1 c2
                      go_wp2_with fail
                      refine (equal_pairs A3 A4 d3 d4 L3 w14 HP314.out HP414.out hL3).mono ?_
                      rintro e w15 ⟨rfl, hb15⟩
                      have Hb15 := Lib.hid (below_then Hb14.out Hb14.out.size hb15)
                      clear hb15
                      go_wp2
                      go_ret
                      exact ⟨rfl, Hb15.out⟩
              · have hE1' : (E1 != 0) = true := by simpa using hE1
                clear hE1
                go_wp2
                go_ret
                exact ⟨rfl, Hb7.out⟩
          · have hE' : (E != 0) = true := by simpa using hE
            have HE := Lib.hid hE
            clear hE
            go_wp2_with fail
            refine (g3_any m w5 (kept_below Hb5.out _ _ Hm.out) (kept_below Hb5.out _ _ Hz.out)).mono ?_
            rintro e w6 ⟨rfl, hb6⟩
            have Hbe := Lib.hid (below_then Hb5.out Hb5.out.size hb6)
            clear hb6
            go_wp2
            go_ret
            exact ⟨rfl, Hbe.out⟩
end Go.Proofs.YthcbchgdfldckaaGreatDoor
