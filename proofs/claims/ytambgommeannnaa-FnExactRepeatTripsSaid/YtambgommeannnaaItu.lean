/- A trip more or less in a slice of the call's own. -/
import Derived.Test.YtambgommeannnaaIto
import Derived.Test.YtambgommeannnaaTte
namespace Go.Proofs.Ytambgommeannnaa
open Go.ChangeShapes Go.WideShapes Go.ChangeAt Go.RowKit Go.PlainAid
set_option linter.unusedVariables false
set_option linter.unusedSimpArgs false

theorem bel_setCellsT {B b : Nat} (hB : B ≤ b) : ∀ (vs : List Value) (o : Nat) {a w : World}, Below B a w → Below B a (w.setCells b o vs)
  | [], _, _, _, h => h
  | v :: vs, o, _, _, h => bel_setCellsT hB vs (o + 1) (h.setCell (p := ⟨b, o, none⟩) hB v)
theorem heap_setCells {b X : Nat} (hX : X ≠ b) : ∀ (vs : List Value) (o : Nat) (w : World), (w.setCells b o vs).heap[X]? = w.heap[X]?
  | [], _, _ => rfl
  | v :: vs, o, w => (heap_setCells hX vs (o + 1) _).trans (Below.heap_setCell w ⟨b, o, none⟩ v X hX)
theorem size_setCells (b : Nat) : ∀ (vs : List Value) (o : Nat) (w : World), (w.setCells b o vs).heap.size = w.heap.size
  | [], _, _ => rfl
  | v :: vs, o, w => (size_setCells b vs (o + 1) _).trans (by rw [size_set])
theorem cells_in {b o k : Nat} {vs : List Value} {w : World} {v : Value} (hs : ∀ j, j < vs.length → (w.cell? ⟨b, o + j, none⟩).isSome = true) (hk : o ≤ k) (hv : vs[k - o]? = some v) : (w.setCells b o vs).cell? ⟨b, k, none⟩ = some v := by
  obtain ⟨hl, he⟩ := List.getElem?_eq_some_iff.1 hv
  have := World.cell?_setCells_in b vs o w hs (k - o) hl
  rw [show o + (k - o) = k by omega] at this
  rw [this, he]
theorem cells_out {b o k : Nat} {vs : List Value} {w : World} (hk : k < o ∨ o + vs.length ≤ k) : (w.setCells b o vs).cell? ⟨b, k, none⟩ = w.cell? ⟨b, k, none⟩ := World.cell?_setCells_out b vs o w _ (fun _ _ => hk)
/-- The row of a slice of the call's own. -/
structure RowT (w : World) (B g n c : Nat) (cs : List Value) : Prop where
  lt : g < w.heap.size
  ge : B ≤ g
  nc : n ≤ c
  c63 : c ≤ 9223372036854775807
  len : cs.length = n * 3
  cell : ∀ j v, cs[j]? = some v → w.cell? ⟨g, j, none⟩ = some v
  there : ∀ j, j < c * 3 → (w.cell? ⟨g, j, none⟩).isSome = true
  free : ∀ j, w.frozen? ⟨g, j, none⟩ = false
  one : ∀ v ∈ cs, v.oneCell' = true
  shape : w.shape? g = some (94, c * 3)
theorem OwnT.row {w : World} {B g c : Nat} {xs : List I3} (h : OwnT w B (.slice (some ⟨g, 0, none⟩) xs.length c) xs) : RowT w B g xs.length c (xs.flatMap encI3) := by
  have h0 : w.ownsRow B 94 3 (.slice (some ⟨g, 0, none⟩) xs.length c) xs.length (xs.flatMap encI3) := h
  obtain ⟨hl, hq | ⟨g', cap, cur, hv, hg, hh, hle, hcap, hsz, htk⟩⟩ := h
  · simp at hq
  · simp only [Value.slice.injEq, Option.some.injEq, Addr.mk.injEq, and_true, true_and] at hv
    obtain ⟨rfl, rfl⟩ := hv
    have hlt : g < w.heap.size := (Array.getElem?_eq_some_iff.1 hh).1
    refine ⟨hlt, hg, hle, by unfold maxLen at hcap; exact hcap, flat_len (m := 3) (enc := encI3) (fun _ => rfl) xs, fun j v hj => ?_, fun j hj => ?_, fun j => World.ownsRow.frozenAt h0 j, fun v hv => ?_, ?_⟩
    · have hj' : j < xs.length * 3 := by
        have := (List.getElem?_eq_some_iff.1 hj).1
        rw [flat_len (m := 3) (enc := encI3) (fun _ => rfl) xs] at this
        exact this
      rw [World.ownsRow.cellAt h0 _ hj']
      exact hj
    · have hc : w.cell? ⟨g, j, none⟩ = cur[j]? := by simp [World.cell?, hh]
      rw [hc, Array.getElem?_eq_getElem (by omega)]
      rfl
    · obtain ⟨y, _, hy⟩ := List.mem_flatMap.1 hv
      exact encI3_cell y v hy
    · simp [World.shape?, hh, hsz]
theorem i3_of_row {w : World} {g : Nat} {xs : List I3} (h : ∀ j v, (xs.flatMap encI3)[j]? = some v → w.cell? ⟨g, j, none⟩ = some v) (hf : ∀ j, w.frozen? ⟨g, j, none⟩ = false) : I3sIn w (Zone.one g) (some ⟨g, 0, none⟩) xs := fun _ =>
  ⟨g, 0, rfl, ⟨Nat.le_refl _, Nat.lt_succ_self _⟩, fun _ => hf, fun j hj => by
    have hg := fun i (hi : i < 3) => flat_get (m := 3) (enc := encI3) (fun _ => rfl) xs j i hj hi
    refine ⟨?_, ?_, ?_⟩
    · show w.cell? ⟨g, 0 + j * 3, none⟩ = _
      rw [Nat.zero_add]
      exact h _ _ (hg 0 (by omega))
    · show w.cell? ⟨g, 0 + j * 3 + 1, none⟩ = _
      rw [Nat.zero_add]
      exact h _ _ (hg 1 (by omega))
    · show w.cell? ⟨g, 0 + j * 3 + 2, none⟩ = _
      rw [Nat.zero_add]
      exact h _ _ (hg 2 (by omega))⟩
theorem flat3_take : ∀ (xs : List I3) (i : Nat), (xs.take i).flatMap encI3 = (xs.flatMap encI3).take (i * 3)
  | [], i => by simp
  | x :: xs, 0 => by simp
  | x :: xs, i + 1 => by
    rw [List.take_succ_cons, List.flatMap_cons, List.flatMap_cons, flat3_take xs i, show (i + 1) * 3 = i * 3 + 1 + 1 + 1 by omega]
    rfl
theorem flat3_drop : ∀ (xs : List I3) (i : Nat), (xs.drop i).flatMap encI3 = (xs.flatMap encI3).drop (i * 3)
  | [], i => by simp
  | x :: xs, 0 => by simp
  | x :: xs, i + 1 => by
    rw [List.drop_succ_cons, List.flatMap_cons, flat3_drop xs i, show (i + 1) * 3 = i * 3 + 1 + 1 + 1 by omega]
    rfl
set_option maxHeartbeats 1000000 in
theorem deleteT_any (g c i B : Nat) (xs : List I3) (w : World) (h : OwnT w B (.slice (some ⟨g, 0, none⟩) xs.length c) xs) (hi : i < xs.length) (hn : xs.length ≤ 1048576) :
    Calls Try.prog 174 #[.slice (some ⟨g, 0, none⟩) xs.length c, .int .i64 i, .int .i64 ((i : Int) + 1)] w fun e w' =>
      e = .returned (.slice (some ⟨g, 0, none⟩) (rmL xs i).length c) ∧ I3sIn w' (Zone.one g) (some ⟨g, 0, none⟩) (rmL xs i) ∧ w'.heap.size = w.heap.size ∧ (∀ X, X ≠ g → w'.heap[X]? = w.heap[X]?) ∧ Below g w w' := by
  have r := h.row
  have hcl := r.len
  obtain ⟨cs, hcs⟩ : ∃ cs, cs = xs.flatMap encI3 := ⟨_, rfl⟩
  rw [← hcs] at r hcl
  refine (delT g xs.length c i cs w hi r.nc r.c63 hn hcl r.cell r.free r.one).mono ?_
  rintro e w' ⟨rfl, rfl⟩
  have hdl : (cs.drop ((i + 1) * 3)).length = (xs.length - (i + 1)) * 3 := by rw [List.length_drop, hcl]; omega
  have hsm : ∀ j, j < xs.length * 3 → (w.drew.cell? ⟨g, j, none⟩).isSome = true := fun j hj => r.there j (by have := r.nc; omega)
  refine ⟨by rw [rmL_len hi], i3_of_row (fun j v hj => ?_) (fun j => ?_), ?_, fun X hX => ?_, ?_⟩
  · unfold rmL at hj
    rw [List.flatMap_append, flat3_take, flat3_drop, ← hcs] at hj
    have htl : (cs.take (i * 3)).length = i * 3 := by rw [List.length_take]; omega
    have hjl : j < (xs.length - 1) * 3 := by
      have := (List.getElem?_eq_some_iff.1 hj).1
      rw [List.length_append, htl, hdl] at this
      omega
    rw [cells_out (.inl hjl)]
    rw [List.getElem?_append] at hj
    split at hj
    · rename_i hlt
      rw [htl] at hlt
      rw [cells_out (.inl hlt)]
      rw [List.getElem?_take, if_pos hlt] at hj
      exact r.cell j v hj
    · rename_i hlt
      rw [htl] at hlt hj
      exact cells_in (fun q hq => hsm _ (by rw [hdl] at hq; omega)) (by omega) hj
  · rw [World.frozen?_setCells, World.frozen?_setCells]
    exact r.free j
  · rw [size_setCells, size_setCells]
    rfl
  · rw [heap_setCells hX, heap_setCells hX]
    rfl
  · exact bel_setCellsT (Nat.le_refl _) _ _ (bel_setCellsT (Nat.le_refl _) _ _ (Below.refl g w).drew)
/-- What slices.Insert of a trip gives. -/
def InsT (w : World) (B g : Nat) (ys : List I3) (e : Ending) (w' : World) : Prop :=
  ∃ g' c', e = .returned (.slice (some ⟨g', 0, none⟩) ys.length c') ∧ I3sIn w' (Zone.one g') (some ⟨g', 0, none⟩) ys ∧ (g' = g ∨ w.heap.size < g') ∧ g' < w'.heap.size ∧ w.heap.size ≤ w'.heap.size ∧ (∀ X, X < w.heap.size → X ≠ g → w'.heap[X]? = w.heap[X]?) ∧ Below B w w'
set_option maxHeartbeats 4000000 in
theorem insertT_any (g c i B : Nat) (xs : List I3) (t : I3) (w : World) (h : OwnT w B (.slice (some ⟨g, 0, none⟩) xs.length c) xs) (hB : B ≤ w.heap.size) (hi : i ≤ xs.length) (hn : xs.length ≤ 1048576) :
    Calls Try.prog 177 #[.slice (some ⟨g, 0, none⟩) xs.length c, .int .i64 i, .slice (some ⟨w.heap.size, 0, none⟩) 1 1] (w.alloc (.cells #[.int .i64 t.a, .int .i64 t.b, .int .i64 t.c] 94)) (InsT w B g (xs.take i ++ t :: xs.drop i)) := by
  obtain ⟨W, hW⟩ : ∃ W, W = w.alloc (.cells #[.int .i64 t.a, .int .i64 t.b, .int .i64 t.c] 94) := ⟨_, rfl⟩
  have hbW : Below w.heap.size w W := by rw [hW]; exact (Below.refl _ _).alloc (Nat.le_refl _) _
  have hoW : OwnT W B (.slice (some ⟨g, 0, none⟩) xs.length c) xs := by rw [hW]; exact OwnE.alloc h _
  have r := hoW.row
  have hgw : g < w.heap.size := (OwnT.row h).lt
  have hcl := r.len
  have hzW : w.heap.size < W.heap.size := by rw [hW]; simp
  have hvs : ∀ j v, (encI3 t)[j]? = some v → W.cell? ⟨w.heap.size, j, none⟩ = some v := fun j v hj => by
    rw [hW, World.cell?_alloc_mark]
    rw [← Array.getElem?_toList]
    exact hj
  have hfv : ∀ j, W.frozen? ⟨w.heap.size, j, none⟩ = false := fun j => by rw [hW]; exact World.frozen?_alloc_at (w := w) _ _ w.heap.size j rfl
  have hsv : W.shape? w.heap.size = some (94, 3) := by rw [hW]; simp [World.shape?, World.alloc, -World.alloc_eq]
  have h1v : ∀ v ∈ encI3 t, v.oneCell' = true := fun v hv => encI3_cell t v hv
  have hLl : (xs.take i ++ t :: xs.drop i).length = xs.length + 1 := by
    rw [List.length_append, List.length_take, List.length_cons, List.length_drop]
    omega
  rw [← hW]
  clear hW
  obtain ⟨cs, hcs⟩ : ∃ cs, cs = xs.flatMap encI3 := ⟨_, rfl⟩
  rw [← hcs] at r hcl
  have hL : (xs.take i ++ t :: xs.drop i).flatMap encI3 = cs.take (i * 3) ++ (encI3 t ++ cs.drop (i * 3)) := by
    rw [List.flatMap_append, List.flatMap_cons, flat3_take, flat3_drop, ← hcs]
  have hvl : (encI3 t).length = 3 := rfl
  have htl : (cs.take (i * 3)).length = i * 3 := by rw [List.length_take]; omega
  have hdl : (cs.drop (i * 3)).length = (xs.length - i) * 3 := by rw [List.length_drop, hcl]; omega
  by_cases hroom : xs.length + 1 ≤ c
  · by_cases hin : i < xs.length
    · refine (insT_shift g xs.length c i w.heap.size cs (encI3 t) W hin hroom r.c63 hn (by omega) hcl hvl r.cell (fun j hj => r.there j (by omega)) r.free hvs r.one h1v _ _ 3 (c * 3) hsv r.shape (by omega) (hfv 0) (hfv 3)).mono ?_
      rintro e w' ⟨rfl, rfl⟩
      have hs1 : ∀ k, k < (xs.length + 1) * 3 → ((W.drew.setCells g ((i + 1) * 3) (cs.drop (i * 3))).cell? ⟨g, k, none⟩).isSome = true := fun k hk =>
        World.isSome_setCells g _ _ _ _ (r.there k (by omega))
      refine ⟨g, c, by rw [hLl], i3_of_row (fun j v hj => ?_) (fun j => ?_), .inl rfl, ?_, ?_, fun X hX hne => ?_, ?_⟩
      · rw [hL, List.getElem?_append] at hj
        split at hj
        · rename_i hlt
          rw [htl] at hlt
          rw [cells_out (.inl (by omega)), cells_out (.inl (by omega))]
          rw [List.getElem?_take, if_pos hlt] at hj
          exact r.cell j v hj
        · rename_i hlt
          rw [htl] at hlt hj
          rw [List.getElem?_append] at hj
          split at hj
          · rename_i h2
            rw [hvl] at h2
            exact cells_in (fun q hq => hs1 _ (by rw [hvl] at hq; omega)) (by omega) hj
          · rename_i h2
            rw [hvl] at h2 hj
            rw [cells_out (.inr (by rw [hvl]; omega))]
            refine cells_in (fun q hq => r.there _ (by rw [hdl] at hq; omega)) (by omega) ?_
            rw [show j - (i + 1) * 3 = j - i * 3 - 3 by omega]
            exact hj
      · rw [World.frozen?_setCells, World.frozen?_setCells]
        exact r.free j
      · rw [size_setCells, size_setCells]
        exact r.lt
      · rw [size_setCells, size_setCells]
        exact hbW.size
      · rw [heap_setCells hne, heap_setCells hne]
        exact hbW.block X hX
      · exact bel_setCellsT r.ge _ _ (bel_setCellsT r.ge _ _ (hbW.mono hB).drew)
    · obtain rfl : i = xs.length := by omega
      refine (insT_end_room g xs.length c w.heap.size (encI3 t) W hroom r.c63 hn hvl (fun j hj => r.there _ (by omega)) r.free hvs h1v).mono ?_
      rintro e w' ⟨rfl, rfl⟩
      refine ⟨g, c, by rw [hLl], i3_of_row (fun j v hj => ?_) (fun j => ?_), .inl rfl, ?_, ?_, fun X hX hne => ?_, ?_⟩
      · rw [hL, List.getElem?_append] at hj
        split at hj
        · rename_i hlt
          rw [htl] at hlt
          rw [cells_out (.inl (by omega))]
          rw [List.getElem?_take, if_pos hlt] at hj
          exact r.cell j v hj
        · rename_i hlt
          rw [htl] at hlt hj
          rw [List.getElem?_append] at hj
          split at hj
          · rename_i h2
            rw [hvl] at h2
            exact cells_in (fun q hq => r.there _ (by rw [hvl] at hq; omega)) (by omega) hj
          · have := (List.getElem?_eq_some_iff.1 hj).1
            rw [hdl] at this
            omega
      · rw [World.frozen?_setCells]
        exact r.free j
      · rw [size_setCells]
        exact r.lt
      · rw [size_setCells]
        exact hbW.size
      · rw [heap_setCells hne]
        exact hbW.block X hX
      · exact bel_setCellsT r.ge _ _ (hbW.mono hB)
  · by_cases hin : i < xs.length
    · refine (insT_grow g xs.length c i w.heap.size cs (encI3 t) W hin r.nc (by omega) hn hcl hvl r.cell hvs r.one h1v).mono ?_
      rintro e w' ⟨ROW, G, hR1, hR2, rfl, rfl⟩
      have hN : ∀ k, k < (xs.length + 1) * 3 → ((W.alloc (.cells ROW 94)).cell? ⟨W.heap.size, k, none⟩).isSome = true := fun k hk => by
        rw [World.cell?_alloc_mark, Array.getElem?_eq_getElem (by omega)]; rfl
      have hs1 : ∀ k, k < (xs.length + 1) * 3 → (((W.alloc (.cells ROW 94)).drew.setCells W.heap.size (i * 3) (encI3 t)).cell? ⟨W.heap.size, k, none⟩).isSome = true := fun k hk =>
        World.isSome_setCells _ _ _ _ _ (hN k hk)
      refine ⟨W.heap.size, G, by rw [hLl], i3_of_row (fun j v hj => ?_) (fun j => ?_), .inr hzW, ?_, ?_, fun X hX hne => ?_, ?_⟩
      · rw [hL, List.getElem?_append] at hj
        split at hj
        · rename_i hlt
          rw [htl] at hlt
          rw [cells_out (.inl (by omega))]
          show ((W.alloc (.cells ROW 94)).drew.setCells W.heap.size (i * 3) (encI3 t)).cell? _ = _
          rw [cells_out (.inl (by omega))]
          show (W.alloc (.cells ROW 94)).cell? _ = _
          rw [World.cell?_alloc_mark, hR2 j hlt]
          rw [List.getElem?_take, if_pos hlt] at hj
          exact hj
        · rename_i hlt
          rw [htl] at hlt hj
          rw [List.getElem?_append] at hj
          split at hj
          · rename_i h2
            rw [hvl] at h2
            rw [cells_out (.inl (by omega))]
            show ((W.alloc (.cells ROW 94)).drew.setCells W.heap.size (i * 3) (encI3 t)).cell? _ = _
            exact cells_in (fun q hq => hN _ (by rw [hvl] at hq; omega)) (by omega) hj
          · rename_i h2
            rw [hvl] at h2 hj
            refine cells_in (fun q hq => hs1 _ (by rw [hdl] at hq; omega)) (by omega) ?_
            rw [show j - (i + 1) * 3 = j - i * 3 - 3 by omega]
            exact hj
      · rw [World.frozen?_setCells]
        show ((W.alloc (.cells ROW 94)).drew.setCells W.heap.size (i * 3) (encI3 t)).frozen? _ = _
        rw [World.frozen?_setCells]
        exact World.frozen?_alloc_at (w := W) ROW _ W.heap.size j rfl
      · rw [size_setCells]
        show W.heap.size < ((W.alloc (.cells ROW 94)).drew.setCells W.heap.size (i * 3) (encI3 t)).heap.size
        rw [size_setCells]
        show W.heap.size < (W.alloc (.cells ROW 94)).heap.size
        simp
      · rw [size_setCells]
        show w.heap.size ≤ ((W.alloc (.cells ROW 94)).drew.setCells W.heap.size (i * 3) (encI3 t)).heap.size
        rw [size_setCells]
        show w.heap.size ≤ (W.alloc (.cells ROW 94)).heap.size
        simp
        omega
      · rw [heap_setCells (by omega)]
        show ((W.alloc (.cells ROW 94)).drew.setCells W.heap.size (i * 3) (encI3 t)).heap[X]? = _
        rw [heap_setCells (by omega)]
        show (W.alloc (.cells ROW 94)).heap[X]? = _
        rw [Below.heap_alloc _ _ _ (by omega)]
        exact hbW.block X hX
      · exact bel_setCellsT (by omega) _ _ (bel_setCellsT (by omega) _ _ ((hbW.mono hB).alloc (by omega) _).drew).drew
    · obtain rfl : i = xs.length := by omega
      refine (insT_end_grow g xs.length c w.heap.size cs (encI3 t) W r.nc (by omega) hn hcl hvl r.cell hvs h1v).mono ?_
      rintro e w' ⟨z, rfl, rfl⟩
      refine ⟨W.heap.size, _, by rw [hLl], i3_of_row (fun j v hj => ?_) (fun j => ?_), .inr hzW, ?_, ?_, fun X hX hne => ?_, ?_⟩
      · have hd0 : cs.drop (xs.length * 3) = [] := List.drop_eq_nil_of_le (by omega)
        have ht0 : cs.take (xs.length * 3) = cs := List.take_of_length_le (by omega)
        rw [hL, hd0, ht0, List.append_nil] at hj
        rw [World.cell?_alloc_at (w := W.drew) _ _ W.heap.size j rfl, Array.getElem?_append_left (by have := (List.getElem?_eq_some_iff.1 hj).1; simpa using this), List.getElem?_toArray]
        exact hj
      · exact World.frozen?_alloc_at (w := W.drew) _ _ W.heap.size j rfl
      · show W.heap.size < (W.drew.alloc _).heap.size
        simp
      · show w.heap.size ≤ (W.drew.alloc _).heap.size
        simp
        omega
      · rw [Below.heap_alloc _ _ _ (by show X < W.heap.size; omega)]
        exact hbW.block X hX
      · exact (hbW.mono hB).drew.alloc (by show B ≤ W.heap.size; omega) _
end Go.Proofs.Ytambgommeannnaa
