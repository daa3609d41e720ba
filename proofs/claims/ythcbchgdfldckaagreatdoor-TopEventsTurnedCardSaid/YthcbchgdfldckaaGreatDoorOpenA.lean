/- The arguments opened: events and ties, as they lie in memory; the last step of a row. -/
import Derived.Test.YthcbchgdfldckaaGreatDoorEv
import Derived.Deep.Slices
import Derived.Deep.Fields
import Derived.ChangeSame
import Derived.ProofKit
import Derived.OpenShut
import Derived.Below
import Derived.SizedLaws
namespace Go.Proofs.YthcbchgdfldckaaGreatDoor
open Go.ChangeShapes Go.WideShapes Go.Deep Go.RowKit

section
variable {H : Type} {enc : TypeId × Value → H} {P : Program} {w : World} {base : Nat} {spare : Nat → Bool} {held : Bool}
theorem open_fields {t e : TypeId} {fs : Array Field} {fuel : Nat} {cs : List Value} {x : DataW H × List MemPlace} (ht : P.underlying t = some (.slice e)) (he : P.underlying e = some (.struct fs))
    (hone : oneCellFields P fs = true) (hC : P.cellsOf e = fs.size) (h : DataW.trod enc P w base spare held fuel t cs = some x) :
    (cs = [.slice none 0 0] ∧ x = (.nil, [])) ∨
    ∃ (a : Addr) (len cap m : Nat) (D : Nat → DataW H) (Pl : Nat → List MemPlace), cs = [.slice (some a) len cap] ∧ base ≤ a.block ∧ len ≤ cap ∧ cap ≤ maxLen ∧ m = (if spare a.block then cap else len) ∧
      x = (.slice ((List.range len).map D) ((List.range (m - len)).map fun j => D (len + j)), MemPlace.row a (m * fs.size) ++ (List.range m).flatMap Pl) ∧
      ∀ i, i < m → ∃ (ys : List (DataW H × List MemPlace)) (n : Nat), D i = .agg (ys.map (·.1)) ∧ ys.length = fs.size ∧
        ∀ (j : Nat) (f : Field), fs[j]? = some f → ∃ (v : Value) (y : DataW H × List MemPlace), w.cell? (a.add (i * fs.size + j)) = some v ∧ ys[j]? = some y ∧ DataW.trod enc P w base spare held n f.type [v] = some y := by
  rcases open_slice ht h with h0 | ⟨a, len, cap, m, n, D, Pl, hcs, hb, hl, hm, hmm, hx, hi⟩
  · exact .inl h0
  · refine .inr ⟨a, len, cap, m, D, Pl, hcs, hb, hl, hm, hmm, by rw [hC] at hx; exact hx, fun i him => ?_⟩
    obtain ⟨cs', hc, ht'⟩ := hi i him
    rw [hC] at hc
    obtain ⟨ys, n', hn', hy, hlen, hyl, hf⟩ := DataW.trod_struct he ht'
    obtain ⟨_, hcl, hat⟩ := World.cells?_some hc
    simp only [Prod.mk.injEq] at hy
    refine ⟨ys, n', hy.1, hyl, fun j f hj => ?_⟩
    obtain ⟨ho, hk⟩ := hone_of hone j f hj
    have hjl : j < fs.size := (Array.getElem?_eq_some_iff.1 hj).1
    have hcell := hat j hjl
    have hv : cs'[j]? = some (cs'[j]'(by omega)) := List.getElem?_eq_getElem (by omega)
    have h1 := hf j f hj
    rw [ho, hk] at h1
    have hone' : (cs'.drop j).take 1 = [cs'[j]'(by omega)] := by
      rw [List.drop_eq_getElem_cons (by omega)]
      rfl
    rw [hone'] at h1
    have hys : ys[j]? = some (ys[j]'(by omega)) := List.getElem?_eq_getElem (by omega)
    refine ⟨_, _, ?_, hys, h1.trans hys⟩
    rw [← Go.Deep.add_add, hcell, hv]
theorem post_of_below {f : Func} {s : ChangeSpec} {apart fresh handsOn again : Bool} {W W' : World} {args : Array Value} {v : Value} {ds gs : List (DataW H)} {before pa pv : List MemPlace}
    (hW : DataW.Whole enc P f.params.toList s.vars apart W args.toList ds gs before)
    (hres : ∀ (b : Nat) (sp : Nat → Bool) (hd : Bool), DataW.TrodAll enc P W' b sp hd f.resultTypes.toList (v.resultList f.resultTypes.size) (s.fn H (ds ++ gs)).results [])
    (hargs : ∀ sp : Nat → Bool, (∀ p ∈ before, sp p.block = true) → DataW.TrodAll enc P W' 0 sp true f.params.toList args.toList (s.fn H (ds ++ gs)).args pa)
    (hvars : ∀ sp : Nat → Bool, (∀ p ∈ before, sp p.block = true) → DataW.TrodVars enc P W' sp s.vars (s.fn H (ds ++ gs)).vars pv)
    (hps : before = pa ++ pv) (hb : Below W.heap.size W W')
    (hok : ∀ (j : Nat) (t : TypeId) (r : Value), f.resultTypes[j]? = some t → (v.resultList f.resultTypes.size)[j]? = some r → Value.okWide P W' .any 0 t r) :
    s.post enc P f apart fresh handsOn again W args v W' := by
  have hlt : ∀ p ∈ before, p.block < W.heap.size := fun p hp => hW.lt p hp
  have hold : ∀ p ∈ before, (fun b => decide (b < W.heap.size)) p.block = true := fun p hp => by simpa using hlt p hp
  refine ⟨ds, gs, before, [], pa, pv, hW, hres _ _ _, hargs _ hold, hvars _ hold, World.keptBut_mono (fun p hp => ⟨hp, ?_⟩) (hb.frame (· ∈ before)), fun _ => ?_⟩
  · rw [hps, List.mem_append] at hp
    exact Or.inr hp
  · obtain ⟨_, _, _, _, _, hz, hn⟩ := hW
    refine ⟨hok, _, _, ([] ++ pa) ++ pv, ⟨[] ++ pa, pv, trodAll_append (hargs _ (fun _ _ => rfl)) (hres _ _ _), hvars _ (fun _ _ => rfl), rfl, ?_, ?_⟩, ?_⟩
    · intro b off hp
      have hin : MemPlace.cell b off ∈ before := by rw [hps]; simpa using hp
      rw [hb.frozen (hlt _ hin)]
      exact hz b off hin
    · intro ha
      have := hn ha
      rw [hps] at this
      simpa using this
    · intro p hp _
      rw [hps]
      simpa using hp
end

theorem addr_plain {w : World} {a : Addr} {v : Value} (h : w.cell? (a.add 0) = some v) : a = ⟨a.block, a.off, none⟩ := by
  have h' : w.cell? a = some v := h
  obtain ⟨b, o, s⟩ := a
  cases s with
  | none => rfl
  | some s =>
    unfold World.cell? at h'
    split at h'
    · simp at h'
    · cases h'
theorem weights_all {H : Type} {P : Program} {e : TypeId} {n : Nat} : ∀ {l : List (DataW H)} {d : DataW H}, d ∈ l → n ∈ d.weights P e → n ∈ DataW.weightsAll P e l
  | [], _, h, _ => by cases h
  | a :: r, d, h, hn => by
    unfold DataW.weightsAll
    rw [List.mem_append]
    rcases List.mem_cons.1 h with rfl | h
    · exact .inl hn
    · exact .inr (weights_all h hn)
instance : Inhabited Ev := ⟨dEv⟩
instance : Inhabited Ti := ⟨dTi⟩

set_option maxRecDepth 100000 in
theorem open_evs {H : Type} {enc : TypeId × Value → H} {W : World} {base : Nat} {v : Value} {d : DataW H} {p : List MemPlace} (hok : Value.okWide Tryz.prog W .any base 22 v) (h : DataW.Trod enc Tryz.prog W 0 (fun _ => true) true 22 v d p)
    (hr : ∀ n ∈ d.weights Tryz.prog 22, n ≤ reachBytes) : ∃ (A : Option Addr) (cap : Nat) (l : List Ev), v = .slice A l.length cap ∧ EvsAt W A l ∧ l.length ≤ cap ∧ EvOk l ∧ l.length * 32 ≤ 140737488351232 ∧ (l.length = 0 → A = none ∨ 0 < cap ∨ cap = 0) := by
  obtain ⟨a0, len0, cap0, rfl⟩ := okWide_slice Tryz.underlying22 hok
  obtain ⟨fuel, hf⟩ := h
  rcases open_fields Tryz.underlying22 Tryz.underlying38 (by kernel_rfl) (by kernel_rfl) hf with ⟨hc, hx⟩ | ⟨a, len, cap, m, D, Pl, hc, _, hl, hm, hmm, hx, hi⟩
  · have e : a0 = none ∧ len0 = 0 ∧ cap0 = 0 := by simpa [Value.cells] using hc
    obtain ⟨rfl, rfl, rfl⟩ := e
    exact ⟨none, 0, [], rfl, fun h => absurd h (by simp), by simp, fun i hi => absurd hi (by simp), by simp, fun _ => .inl rfl⟩
  · have e : a0 = some a ∧ len0 = len ∧ cap0 = cap := by simpa [Value.cells] using hc
    obtain ⟨rfl, rfl, rfl⟩ := e
    have hmm' : m = cap0 := by simpa using hmm
    subst hmm'
    simp only [Prod.mk.injEq] at hx
    obtain ⟨rfl, _⟩ := hx
    have hb : Tryz.prog.bytesOf 38 = 32 := by kernel_rfl
    have hw := fun n (hn : n ∈ (DataW.slice ((List.range len0).map D) ((List.range (m - len0)).map fun j => D (len0 + j))).weights Tryz.prog 22) => hr n hn
    simp only [DataW.weights, Tryz.underlying22, hb] at hw
    have hreach : (len0 + (m - len0)) * 32 ≤ reachBytes := by
      have := hw _ (List.mem_cons_self ..)
      simpa using this
    have hstr : ∀ i, i < len0 → ∀ n ∈ (D i).weights Tryz.prog 38, n ≤ reachBytes := fun i hi n hn =>
      hw n (List.mem_cons_of_mem _ (List.mem_append_left _ (weights_all (List.mem_map.2 ⟨i, List.mem_range.2 hi, rfl⟩) hn)))
    have key : ∀ i, i < len0 → ∃ x : Ev, W.cell? (a.add (i * 3 + 0)) = some (.string x.clock) ∧ W.cell? (a.add (i * 3 + 1)) = some (.int .i64 x.shown) ∧ W.cell? (a.add (i * 3 + 2)) = some (.int .i64 x.wide) ∧ x.clock.size ≤ 140737488351232 := fun i hi0 => by
      obtain ⟨ys, n, hD, hyl, hfs⟩ := hi i (by omega)
      obtain ⟨v0, y0, c0, e0, t0⟩ := hfs 0 _ rfl
      obtain ⟨v1, y1, c1, e1, t1⟩ := hfs 1 _ rfl
      obtain ⟨v2, y2, c2, e2, t2⟩ := hfs 2 _ rfl
      obtain ⟨s, hs, rfl, _⟩ := DataW.trod_string Tryz.underlying9 t0
      obtain ⟨k1, hk1, rfl, _⟩ := DataW.trod_int Tryz.underlying3 t1
      obtain ⟨k2, hk2, rfl, _⟩ := DataW.trod_int Tryz.underlying3 t2
      simp only [List.cons.injEq, and_true] at hs hk1 hk2
      subst hs hk1 hk2
      refine ⟨⟨s, k1, k2⟩, c0, c1, c2, ?_⟩
      have hyy : ys = [(.lit (.string s.data.toList), []), (.lit (.int .i64 k1), []), (.lit (.int .i64 k2), [])] := by
        match ys, hyl, e0, e1, e2 with
        | [z0, z1, z2], _, e0, e1, e2 =>
          simp at e0 e1 e2
          rw [e0, e1, e2]
      have := hstr i hi0 s.data.toList.length (by
        rw [hD, hyy]
        simp only [DataW.weights, Tryz.underlying38, List.map_cons, List.map_nil, DataW.weightsEach]
        simp)
      have e3 : s.data.toList.length = s.size := by simp
      rw [e3] at this
      exact this
    obtain ⟨f, hfv⟩ := choose_lt key
    have hget : ∀ i, i < len0 → (((List.range len0).map f).getD i dEv) = f i := fun i hi => by simp [List.getD_eq_getElem?_getD, hi]
    refine ⟨some a, m, (List.range len0).map f, by simp, fun h0 => ?_, by simpa using hl, fun i hi => ?_, ?_, fun _ => by omega⟩
    · have h0' : 0 < len0 := by simpa using h0
      have hpl := addr_plain (hfv 0 h0').1
      refine ⟨a.block, a.off, by rw [← hpl], fun i j u hi hu => ?_⟩
      have hi' : i < len0 := by simpa using hi
      obtain ⟨c0, c1, c2, _⟩ := hfv i hi'
      have hu : (((List.range len0).map f).getD i dEv).cells[j]? = some u := hu
      rw [hget i hi'] at hu
      have key2 : ∀ k, (⟨a.block, a.off + k, none⟩ : Addr) = a.add k := fun k => by rw [hpl]; exact (Go.WideShapes.add_plain _ _ _).symm
      rw [Nat.add_assoc, key2]
      rcases j with _ | _ | _ | j
      · simp [Ev.cells] at hu; subst hu; exact c0
      · simp [Ev.cells] at hu; subst hu; exact c1
      · simp [Ev.cells] at hu; subst hu; exact c2
      · simp [Ev.cells] at hu
    · have hi' : i < len0 := by simpa using hi
      rw [hget i hi']
      exact (hfv i hi').2.2.2
    · unfold reachBytes at hreach
      simp
      omega
set_option maxRecDepth 100000 in
theorem open_tis {H : Type} {enc : TypeId × Value → H} {W : World} {base : Nat} {v : Value} {d : DataW H} {p : List MemPlace} (hok : Value.okWide Tryz.prog W .any base 23 v) (h : DataW.Trod enc Tryz.prog W 0 (fun _ => true) true 23 v d p)
    (hr : ∀ n ∈ d.weights Tryz.prog 23, n ≤ reachBytes) : ∃ (A : Option Addr) (cap : Nat) (l : List Ti), v = .slice A l.length cap ∧ TisAt W A l ∧ l.length ≤ cap ∧ l.length * 32 ≤ 140737488351232 ∧ (l.length = 0 → A = none ∨ 0 < cap ∨ cap = 0) := by
  obtain ⟨a0, len0, cap0, rfl⟩ := okWide_slice Tryz.underlying23 hok
  obtain ⟨fuel, hf⟩ := h
  rcases open_fields Tryz.underlying23 Tryz.underlying28 (by kernel_rfl) (by kernel_rfl) hf with ⟨hc, hx⟩ | ⟨a, len, cap, m, D, Pl, hc, _, hl, hm, hmm, hx, hi⟩
  · have e : a0 = none ∧ len0 = 0 ∧ cap0 = 0 := by simpa [Value.cells] using hc
    obtain ⟨rfl, rfl, rfl⟩ := e
    exact ⟨none, 0, [], rfl, fun h => absurd h (by simp), by simp, by simp, fun _ => .inl rfl⟩
  · have e : a0 = some a ∧ len0 = len ∧ cap0 = cap := by simpa [Value.cells] using hc
    obtain ⟨rfl, rfl, rfl⟩ := e
    have hmm' : m = cap0 := by simpa using hmm
    subst hmm'
    simp only [Prod.mk.injEq] at hx
    obtain ⟨rfl, _⟩ := hx
    have hb : Tryz.prog.bytesOf 28 = 32 := by kernel_rfl
    have hw := fun n (hn : n ∈ (DataW.slice ((List.range len0).map D) ((List.range (m - len0)).map fun j => D (len0 + j))).weights Tryz.prog 23) => hr n hn
    simp only [DataW.weights, Tryz.underlying23, hb] at hw
    have hreach : (len0 + (m - len0)) * 32 ≤ reachBytes := by
      have := hw _ (List.mem_cons_self ..)
      simpa using this
    have key : ∀ i, i < len0 → ∃ x : Ti, W.cell? (a.add (i * 4 + 0)) = some (.int .i64 x.a) ∧ W.cell? (a.add (i * 4 + 1)) = some (.int .i64 x.b) ∧ W.cell? (a.add (i * 4 + 2)) = some (.int .i64 x.low) ∧ W.cell? (a.add (i * 4 + 3)) = some (.int .i64 x.high) := fun i hi0 => by
      obtain ⟨ys, n, hD, hyl, hfs⟩ := hi i (by omega)
      obtain ⟨v0, y0, c0, e0, t0⟩ := hfs 0 _ rfl
      obtain ⟨v1, y1, c1, e1, t1⟩ := hfs 1 _ rfl
      obtain ⟨v2, y2, c2, e2, t2⟩ := hfs 2 _ rfl
      obtain ⟨v3, y3, c3, e3, t3⟩ := hfs 3 _ rfl
      obtain ⟨k0, hk0, rfl, _⟩ := DataW.trod_int Tryz.underlying3 t0
      obtain ⟨k1, hk1, rfl, _⟩ := DataW.trod_int Tryz.underlying3 t1
      obtain ⟨k2, hk2, rfl, _⟩ := DataW.trod_int Tryz.underlying3 t2
      obtain ⟨k3, hk3, rfl, _⟩ := DataW.trod_int Tryz.underlying3 t3
      simp only [List.cons.injEq, and_true] at hk0 hk1 hk2 hk3
      subst hk0 hk1 hk2 hk3
      exact ⟨⟨k0, k1, k2, k3⟩, c0, c1, c2, c3⟩
    obtain ⟨f, hfv⟩ := choose_lt key
    have hget : ∀ i, i < len0 → (((List.range len0).map f).getD i dTi) = f i := fun i hi => by simp [List.getD_eq_getElem?_getD, hi]
    refine ⟨some a, m, (List.range len0).map f, by simp, fun h0 => ?_, by simpa using hl, ?_, fun _ => by omega⟩
    · have h0' : 0 < len0 := by simpa using h0
      have hpl := addr_plain (hfv 0 h0').1
      refine ⟨a.block, a.off, by rw [← hpl], fun i j u hi hu => ?_⟩
      have hi' : i < len0 := by simpa using hi
      obtain ⟨c0, c1, c2, c3⟩ := hfv i hi'
      have hu : (((List.range len0).map f).getD i dTi).cells[j]? = some u := hu
      rw [hget i hi'] at hu
      have key2 : ∀ k, (⟨a.block, a.off + k, none⟩ : Addr) = a.add k := fun k => by rw [hpl]; exact (Go.WideShapes.add_plain _ _ _).symm
      rw [Nat.add_assoc, key2]
      rcases j with _ | _ | _ | _ | j
      · simp [Ti.cells] at hu; subst hu; exact c0
      · simp [Ti.cells] at hu; subst hu; exact c1
      · simp [Ti.cells] at hu; subst hu; exact c2
      · simp [Ti.cells] at hu; subst hu; exact c3
      · simp [Ti.cells] at hu
    · unfold reachBytes at hreach
      simp
      omega
end Go.Proofs.YthcbchgdfldckaaGreatDoor
