/- Copies of lines and networks. -/
import Derived.Test.YtambgommeannnaaNwa
import Derived.Test.YtambgommeannnaaCli
import Derived.Deep.RegionHeld3
import Derived.Deep.DrawnRows
import Derived.Test.YtambgommeannnaaNetC
import Derived.Deep.DeepCutAuto
import Derived.Test.YtambgommeannnaaApg
import Derived.Maps.AppendAt
namespace Go.Proofs.Ytambgommeannnaa

/-! ### Copies of lines and networks. -/
section
open Go.ChangeShapes Go.WideShapes Go.ChangeAt Go.RowKit Go.PlainAid
set_option linter.unusedVariables false
set_option linter.unusedSimpArgs false

/-- A block of n cells that can be written. -/
def HasC (w : World) (g n : Nat) : Prop := g < w.heap.size ∧ ∀ j, (j < n → (w.cell? ⟨g, j, none⟩).isSome = true) ∧ w.frozen? ⟨g, j, none⟩ = false
def getC (w : World) (g j : Nat) : Value := (w.cell? ⟨g, j, none⟩).getD undef
theorem HasC.get {w : World} {g n j : Nat} (h : HasC w g n) (hj : j < n) : w.cell? ⟨g, j, none⟩ = some (getC w g j) ∧ w.frozen? ⟨g, j, none⟩ = false := by
  refine ⟨?_, (h.2 j).2⟩
  unfold getC
  obtain ⟨v, hv⟩ := Option.isSome_iff_exists.1 ((h.2 j).1 hj)
  rw [hv]; rfl
/-- Everything below block g is as it was; block g can be written. -/
structure SLn (W0 : World) (g n : Nat) (w' : World) : Prop where
  bel : Below g W0 w'
  has : HasC w' g n
section
variable {W0 w' w'' : World} {g n : Nat}
theorem SLn.drew (h : SLn W0 g n w') : SLn W0 g n w'.drew := ⟨h.bel.drew, h.has⟩
theorem SLn.call (h : SLn W0 g n w') (hb : Below w'.heap.size w' w'') : SLn W0 g n w'' :=
  ⟨h.bel.trans (hb.mono (Nat.le_of_lt h.has.1)), Nat.lt_of_lt_of_le h.has.1 hb.size, fun j => by
    rw [hb.cell (p := ⟨g, j, none⟩) h.has.1, hb.frozen (p := ⟨g, j, none⟩) h.has.1]; exact h.has.2 j⟩
theorem SLn.alloc (h : SLn W0 g n w') (o : Obj) : SLn W0 g n (w'.alloc o) := h.call ((Below.refl _ _).alloc (Nat.le_refl _) _)
theorem SLn.set (h : SLn W0 g n w') {p : Addr} (hp : g ≤ p.block) (u : Value) : SLn W0 g n (w'.setCell p u) :=
  ⟨h.bel.setCell hp u, by rw [size_set]; exact h.has.1, fun j => by
    rw [World.frozen?_setCell]
    refine ⟨fun hj => ?_, (h.has.2 j).2⟩
    by_cases e : p = ⟨g, j, none⟩
    · subst e
      obtain ⟨v, hv⟩ := Option.isSome_iff_exists.1 ((h.has.2 j).1 hj)
      rw [World.cell?_setCell_same _ _ _ hv]; rfl
    · rw [World.cell?_setCell_other _ _ _ _ e]; exact (h.has.2 j).1 hj⟩
theorem SLn.ints {B : Nat} {A : Option Addr} {xs : List Int} (h : SLn W0 g n w') (hi : IntsIn W0 (Zone.below B) A xs) (hB : B ≤ g) : IntsIn w' (Zone.below w'.heap.size) A xs :=
  (hi.at_below (h.bel.mono hB)).mono (Zone.below_le (Nat.le_trans hB (Nat.le_of_lt h.has.1)))
end
/-- A line that a call makes, its slices in blocks of their own. -/
def RetLn (x : LineD) (w : World) (e : Ending) (w' : World) : Prop :=
  ∃ gs ks gr kr, e = .returned (.agg #[.string x.name, .slice (some ⟨gs, 0, none⟩) x.stops.length ks, .slice (some ⟨gr, 0, none⟩) x.runs.length kr]) ∧ IntsIn w' (Zone.one gs) (some ⟨gs, 0, none⟩) x.stops ∧ IntsIn w' (Zone.one gr) (some ⟨gr, 0, none⟩) x.runs ∧ gs ≠ gr ∧
    (w.heap.size ≤ gs ∧ gs < w'.heap.size) ∧ (w.heap.size ≤ gr ∧ gr < w'.heap.size) ∧ CapOk x.stops.length ks ∧ CapOk x.runs.length kr ∧ Below w.heap.size w w'
theorem OwnE.lower {α : Type} {e : TypeId} {m : Nat} {enc : α → List Value} {w : World} {B B' : Nat} {v : Value} {xs : List α} (h : OwnE e m enc w B v xs) (hB : B' ≤ B) : OwnE e m enc w B' v xs := by
  obtain ⟨h1, h2⟩ := h
  refine ⟨h1, ?_⟩
  rcases h2 with h2 | ⟨g, cap, cur, hv, hg, r⟩
  · exact Or.inl h2
  · exact Or.inr ⟨g, cap, cur, hv, Nat.le_trans hB hg, r⟩
theorem own_one {w : World} {B g cap : Nat} {xs : List Int} (h : OwnI w B (.slice (some ⟨g, 0, none⟩) xs.length cap) xs) (h0 : 0 < xs.length) : IntsIn w (Zone.one g) (some ⟨g, 0, none⟩) xs ∧ B ≤ g ∧ g < w.heap.size ∧ CapOk xs.length cap := by
  obtain ⟨a, h1, h2⟩ := own_onlyC h rfl
  obtain ⟨h3, h4, h5⟩ := h2 h0
  simp [Value.ownBlock] at h5
  subst h5
  obtain ⟨A', c', e, h6, h7, _⟩ := h.ints
  simp only [Value.slice.injEq] at e
  obtain ⟨_, _, rfl⟩ := e
  exact ⟨h1, h3, h4, h6, h7⟩
theorem retLine {x : LineD} {w0 w : World} {gs ks gr kr : Nat} (hs : OwnI w w0.heap.size (.slice (some ⟨gs, 0, none⟩) x.stops.length ks) x.stops) (hr : OwnI w w0.heap.size (.slice (some ⟨gr, 0, none⟩) x.runs.length kr) x.runs) (h1 : 0 < x.stops.length) (h2 : 0 < x.runs.length) (hne : gs ≠ gr) (hb : Below w0.heap.size w0 w) :
    RetLn x w0 (.returned (.agg #[.string x.name, .slice (some ⟨gs, 0, none⟩) x.stops.length ks, .slice (some ⟨gr, 0, none⟩) x.runs.length kr])) w := by
  obtain ⟨a1, a2, a3, a4⟩ := own_one hs h1
  obtain ⟨b1, b2, b3, b4⟩ := own_one hr h2
  exact ⟨gs, ks, gr, kr, rfl, a1, b1, hne, ⟨a2, a3⟩, ⟨b2, b3⟩, a4, b4, hb⟩
set_option maxRecDepth 100000 in
set_option maxHeartbeats 4000000 in
theorem copyLine_any (x : LineD) (bs os cs br or cr : Nat) (w : World) (hS : IntsIn w (Zone.below w.heap.size) (some ⟨bs, os, none⟩) x.stops) (hR : IntsIn w (Zone.below w.heap.size) (some ⟨br, or, none⟩) x.runs) (h1 : 0 < x.stops.length) (h2 : 0 < x.runs.length) (l1 : x.stops.length ≤ 1048576) (l2 : x.runs.length ≤ 1048576) :
    Calls Try.prog 112 #[.agg #[.string x.name, .slice (some ⟨bs, os, none⟩) x.stops.length cs, .slice (some ⟨br, or, none⟩) x.runs.length cr]] w (RetLn x w) := by
  obtain ⟨W0, hW0⟩ : ∃ W0, W0 = ((w.alloc (.cells #[.string x.name, .slice (some ⟨bs, os, none⟩) x.stops.length cs, .slice (some ⟨br, or, none⟩) x.runs.length cr] 113)).alloc (.cells #[.string { data := #[] }, .slice none 0 0, .slice none 0 0] 113)) := ⟨_, rfl⟩
  have hb0 : Below w.heap.size w W0 := by rw [hW0]; go_grown
  have HB0 := Lib.hid hb0
  have HS := Lib.hid (hS.at_below hb0)
  have HR := Lib.hid (hR.at_below hb0)
  have hSL : SLn W0 (w.heap.size + 1) 3 W0 := ⟨Below.refl _ _, by rw [hW0]; simp, fun j => by
    rw [hW0]
    refine ⟨fun hj => ?_, by go_simp⟩
    have : j = 0 ∨ j = 1 ∨ j = 2 := by omega
    rcases this with rfl | rfl | rfl <;> go_simp⟩
  have HC : Hid (W0.cell? ⟨w.heap.size, 0, none⟩ = some (.string x.name) ∧ W0.cell? ⟨w.heap.size, 1, none⟩ = some (.slice (some ⟨bs, os, none⟩) x.stops.length cs) ∧ W0.cell? ⟨w.heap.size, 2, none⟩ = some (.slice (some ⟨br, or, none⟩) x.runs.length cr)) := Lib.hid (by rw [hW0]; exact ⟨by go_simp, by go_simp, by go_simp⟩)
  have hC : ∀ w', SLn W0 (w.heap.size + 1) 3 w' → w'.cell? ⟨w.heap.size, 0, none⟩ = some (.string x.name) ∧ w'.cell? ⟨w.heap.size, 1, none⟩ = some (.slice (some ⟨bs, os, none⟩) x.stops.length cs) ∧ w'.cell? ⟨w.heap.size, 2, none⟩ = some (.slice (some ⟨br, or, none⟩) x.runs.length cr) :=
    fun w' h => ⟨(h.bel.cell (p := ⟨w.heap.size, 0, none⟩) (Nat.lt_succ_self _)).trans HC.out.1, (h.bel.cell (p := ⟨w.heap.size, 1, none⟩) (Nat.lt_succ_self _)).trans HC.out.2.1, (h.bel.cell (p := ⟨w.heap.size, 2, none⟩) (Nat.lt_succ_self _)).trans HC.out.2.2⟩
  have hT : ∀ w', SLn W0 (w.heap.size + 1) 3 w' → (w'.cell? ⟨w.heap.size + 1, 0, none⟩ = some (getC w' (w.heap.size + 1) 0) ∧ w'.frozen? ⟨w.heap.size + 1, 0, none⟩ = false) ∧ (w'.cell? ⟨w.heap.size + 1, 1, none⟩ = some (getC w' (w.heap.size + 1) 1) ∧ w'.frozen? ⟨w.heap.size + 1, 1, none⟩ = false) ∧ (w'.cell? ⟨w.heap.size + 1, 2, none⟩ = some (getC w' (w.heap.size + 1) 2) ∧ w'.frozen? ⟨w.heap.size + 1, 2, none⟩ = false) := fun w' h =>
    ⟨h.has.get (by omega), h.has.get (by omega), h.has.get (by omega)⟩
  have hz0 : w.heap.size ≤ W0.heap.size := hb0.size
  clear hS hR hb0
  go_enter Try.func112, Try.ntmps112
  go_wp2_with fail
  rw [← hW0]
  clear hW0
  go_region_held3 (fun w' => SLn W0 (w.heap.size + 1) 3 w') (repeat' first | assumption | exact Nat.le_refl _ | (refine SLn.drew ?_) | (refine SLn.alloc ?_ _) | (refine SLn.set ?_ ?_ _))
    (first
      | (go_at_call 152; go_loud ((with_reducible refine (cloneI_own bs os cs x.stops _ (SLn.ints ‹SLn W0 (w.heap.size + 1) 3 _› HS.out (Nat.le_succ _)) l1).mono ?_); rintro e w5 ⟨gs, ks, rfl, hos, hb5⟩; have hS5 := SLn.call ‹SLn W0 (w.heap.size + 1) 3 _› hb5; (try have hor2 := OwnE.call hor hb5); (try have hne := hb5)))
      | (go_at_call 152; go_loud ((with_reducible refine (cloneI_own br or cr x.runs _ (SLn.ints ‹SLn W0 (w.heap.size + 1) 3 _› HR.out (Nat.le_succ _)) l2).mono ?_); rintro e w6 ⟨gr, kr, rfl, hor, hb6⟩; have hS6 := SLn.call ‹SLn W0 (w.heap.size + 1) 3 _› hb6; (try have hos2 := OwnE.call hos hb6)))
      | fail)
  all_goals
    have HS6 := Lib.hid hS6
    obtain ⟨⟨t0, f0⟩, ⟨t1, f1⟩, ⟨t2, f2⟩⟩ := hT _ hS6
    have hgs := (World.ownsRow.lt hos) gs rfl
    have hgr := (World.ownsRow.lt hor) gr rfl
    have hz5 : W0.heap.size ≤ w5.heap.size := hb5.size
    have hz6 := hb6.size
    have hW2 : w.heap.size + 1 < W0.heap.size := hSL.has.1
    have hgs0 : W0.heap.size ≤ gs := hgs.1
    have HBx : Hid (Below w.heap.size w w6) := Lib.hid (HB0.out.trans (HS6.out.bel.mono (Nat.le_succ _)))
    have HO1 := Lib.hid (OwnE.lower (B' := w.heap.size) hos2 hz0)
    have HO2 := Lib.hid (OwnE.lower (B' := w.heap.size) hor (by omega))
    clear hC hT hS5 hS6 hos hor hos2 hb5 hb6 hne hSL
    go_wp2_with fail
    refine bodyPost_ret (v := .agg #[.string x.name, .slice (some ⟨gs, 0, none⟩) x.stops.length ks, .slice (some ⟨gr, 0, none⟩) x.runs.length kr]) (by simp [results, Try.results112, go_sem, t0, t1, t2]) rfl ?_
    refine retLine ?_ ?_ h1 h2 (by omega) ?_
    · repeat' (refine OwnE.offC ?_ (by simp [Value.ownBlock]; omega) _)
      exact HO1.out
    · repeat' (refine OwnE.offC ?_ (by simp [Value.ownBlock]; omega) _)
      exact HO2.out
    · repeat' (refine Below.setCell ?_ (by simp) _)
      exact HBx.out
end

/-! ### Copies of networks: the program's. -/
section
open Go.ChangeShapes Go.WideShapes Go.ChangeAt Go.RowKit Go.PlainAid
set_option linter.unusedVariables false
set_option linter.unusedSimpArgs false

theorem bel_reads {α : Type} [Inhabited α] {E : Rd α} [RdOk E] {st : Nat → Nat} {W0 w' : World} {n : Nat} {A : Option Addr} {xs : List α} (hb : Below W0.heap.size W0 w') (hi : Sl E st W0 (Zone.below n) A xs) (hn : n ≤ W0.heap.size) : Sl E st w' (Zone.below w'.heap.size) A xs :=
  (hi.at_below (hb.mono hn)).mono (Zone.below_le (Nat.le_trans hn hb.size))
theorem flat_one {α : Type} (f : α → Value) (xs : List α) : xs.flatMap (fun y => [f y]) = xs.map f := by
  induction xs with
  | nil => rfl
  | cons x xs ih => rw [List.flatMap_cons, ih]; rfl
theorem Try.infoStrC : (Try.prog.info? 9).map (fun i => (i.zero, i.size, i.bytes)) = some (some (.string { data := #[] }), 1, 16) := by kernel_rfl
theorem Try.infoLineC : (Try.prog.info? 113).map (fun i => (i.zero, i.size, i.bytes)) = some (some (.agg #[.string { data := #[] }, .slice none 0 0, .slice none 0 0]), 3, 64) := by kernel_rfl
theorem cloneS_any (b o c : Nat) (xs : List ByteArray) (w : World) (h : StrsIn w (Zone.below w.heap.size) (some ⟨b, o, none⟩) xs) (h0 : 0 < xs.length) (hn : xs.length ≤ 1048576) :
    Calls Try.prog 165 #[.slice (some ⟨b, o, none⟩) xs.length c] w fun e w' => ∃ g cap, e = .returned (.slice (some ⟨g, 0, none⟩) xs.length cap) ∧ StrsIn w' (Zone.one g) (some ⟨g, 0, none⟩) xs ∧ w.heap.size ≤ g ∧ g < w'.heap.size ∧ CapOk xs.length cap ∧ Below w.heap.size w w' := by
  obtain ⟨i0, hi, hz0, hz1, hz2⟩ := info_parts Try.infoStrC
  have hfl : xs.flatMap (fun y => [Value.string y]) = xs.map Value.string := flat_one _ _
  have hc := AnyE.slices_Clone Try.laysCloneString i0 _ 1 16 hi hz0 hz1 hz2 rfl (by omega) Try.sizeOf9 b o xs.length c (xs.map Value.string) w (by simp) (by unfold maxLen; omega) (by omega)
    (fun j u hj => by
      have hl : j < xs.length := by have := (List.getElem?_eq_some_iff.1 hj).1; simpa using this
      rw [List.getElem?_map, List.getElem?_eq_getElem hl] at hj
      obtain ⟨b', o', e, _, _, hc⟩ := h (by omega)
      simp only [Option.some.injEq, Addr.mk.injEq, and_true] at e
      obtain ⟨rfl, rfl⟩ := e
      have h1 : w.cell? ⟨b, o + j, none⟩ = some (.string (nthS xs j)) := hc j hl
      rw [h1]
      simp at hj
      rw [← hj]
      unfold nthS
      rw [List.getD_eq_getElem?_getD, List.getElem?_eq_getElem hl]
      rfl)
    (fun u hu => by
      obtain ⟨y, _, hy⟩ := List.mem_map.1 hu
      subst hy
      rfl)
  change Calls Try.prog 165 _ _ _ at hc
  refine hc.mono ?_
  rintro e w' ⟨v, rfl, ho, hne, hb⟩
  have ho' := ho
  obtain ⟨_, hq | ⟨g, cap, cur, hv, hg, hh, hle, hcap, hsz, htk⟩⟩ := ho'
  · exact absurd hq.1 hne
  · subst hv
    have hlt : g < w'.heap.size := (Array.getElem?_eq_some_iff.1 hh).1
    unfold maxLen at hcap
    refine ⟨g, cap, rfl, fun _ => ⟨g, 0, rfl, ⟨Nat.le_refl _, Nat.lt_succ_self _⟩, fun _ j => World.ownsRow.frozenAt ho j, fun j hj => ?_⟩, hg, hlt, ⟨hle, by omega⟩, hb⟩
    show w'.cell? ⟨g, 0 + j, none⟩ = some (.string (nthS xs j))
    rw [Nat.zero_add, World.ownsRow.cellAt ho j (by omega), List.getElem?_map, List.getElem?_eq_getElem hj]
    unfold nthS
    rw [List.getD_eq_getElem?_getD, List.getElem?_eq_getElem hj]
    rfl
theorem zeroNet {W w5 : World} (hb : Below ((W.alloc (.cells #[.slice none 0 0, .slice none 0 0] 46)).drew).heap.size ((W.alloc (.cells #[.slice none 0 0, .slice none 0 0] 46)).drew) w5) :
    (w5.cell? ⟨W.heap.size, 0, none⟩ = some (.slice none 0 0) ∧ w5.frozen? ⟨W.heap.size, 0, none⟩ = false) ∧ (w5.cell? ⟨W.heap.size, 1, none⟩ = some (.slice none 0 0) ∧ w5.frozen? ⟨W.heap.size, 1, none⟩ = false) ∧ W.heap.size < w5.heap.size := by
  have hl : W.heap.size < ((W.alloc (.cells #[.slice none 0 0, .slice none 0 0] 46)).drew).heap.size := by simp
  refine ⟨⟨(hb.cell (p := ⟨W.heap.size, 0, none⟩) hl).trans ?_, (hb.frozen (p := ⟨W.heap.size, 0, none⟩) hl).trans ?_⟩, ⟨(hb.cell (p := ⟨W.heap.size, 1, none⟩) hl).trans ?_, (hb.frozen (p := ⟨W.heap.size, 1, none⟩) hl).trans ?_⟩, Nat.lt_of_lt_of_le hl hb.size⟩
  all_goals go_simp
theorem zeroNet2 {W w5 : World} {o : Obj} (hb : Below (((W.alloc (.cells #[.slice none 0 0, .slice none 0 0] 46)).alloc o).drew).heap.size (((W.alloc (.cells #[.slice none 0 0, .slice none 0 0] 46)).alloc o).drew) w5) :
    (w5.cell? ⟨W.heap.size, 0, none⟩ = some (.slice none 0 0) ∧ w5.frozen? ⟨W.heap.size, 0, none⟩ = false) ∧ (w5.cell? ⟨W.heap.size, 1, none⟩ = some (.slice none 0 0) ∧ w5.frozen? ⟨W.heap.size, 1, none⟩ = false) ∧ W.heap.size < w5.heap.size := by
  have hl : W.heap.size < (((W.alloc (.cells #[.slice none 0 0, .slice none 0 0] 46)).alloc o).drew).heap.size := by simp <;> omega
  refine ⟨⟨(hb.cell (p := ⟨W.heap.size, 0, none⟩) hl).trans ?_, (hb.frozen (p := ⟨W.heap.size, 0, none⟩) hl).trans ?_⟩, ⟨(hb.cell (p := ⟨W.heap.size, 1, none⟩) hl).trans ?_, (hb.frozen (p := ⟨W.heap.size, 1, none⟩) hl).trans ?_⟩, Nat.lt_of_lt_of_le hl hb.size⟩
  all_goals go_simp
/-- The row of lines, as a block of the call's own. -/
def RawL (w : World) (g m : Nat) : Prop := m ≤ maxLen → ∃ cells, w.ownsRow 0 113 3 (.slice (some ⟨g, 0, none⟩) m m) m cells
theorem RawL.keep {w w' : World} {g m : Nat} (h : RawL w g m) (hb : g < w.heap.size → w'.heap[g]? = w.heap[g]?) : RawL w' g m := fun hm => by
  obtain ⟨cells, h1, h2⟩ := h hm
  refine ⟨cells, h1, ?_⟩
  rcases h2 with h2 | ⟨g', cap, cur, hv, hg, hh, r⟩
  · exact Or.inl h2
  · have hv' := hv
    simp only [Value.slice.injEq, Option.some.injEq, Addr.mk.injEq, and_true, true_and] at hv'
    obtain ⟨rfl, rfl⟩ := hv'
    exact Or.inr ⟨g, m, cur, hv, hg, by rw [hb (Array.getElem?_eq_some_iff.1 hh).1]; exact hh, r⟩
theorem RawL.set {w : World} {g m : Nat} (h : RawL w g m) (j : Nat) (u : Value) : RawL (w.setCell ⟨g, j, none⟩ u) g m := fun hm => by
  obtain ⟨cells, h⟩ := h hm
  exact ⟨_, (World.ownsRow.stored h j u).1⟩
theorem raw_made (W : World) (z : Array Value) (m : Nat) : RawL (W.alloc (.cells (madeCells z (m * 3)) 113)) W.heap.size m := fun hm => ⟨_, World.ownsRow_lit W _ m (Nat.zero_le _) hm (size_madeCells _ _)⟩
def HasL (w : World) (g m : Nat) : Prop := HasC w g (m * 3) ∧ RawL w g m
/-- Behind the first statement of copyNetwork. -/
structure CpS (w W0 wx : World) (x : NetD) (gn gl gs ks : Nat) : Prop where
  bel : Below W0.heap.size W0 wx
  n0 : wx.cell? ⟨gn, 0, none⟩ = some (.slice (some ⟨gs, 0, none⟩) x.stops.length ks)
  n1 : wx.cell? ⟨gn, 1, none⟩ = some (.slice (some ⟨gl, 0, none⟩) x.lines.length x.lines.length)
  st : StrsIn wx (Zone.one gs) (some ⟨gs, 0, none⟩) x.stops
  has : HasL wx gl x.lines.length
  cap : CapOk x.stops.length ks
  b : W0.heap.size ≤ gn ∧ W0.heap.size ≤ gl ∧ W0.heap.size ≤ gs
  l : gn < wx.heap.size ∧ gl < wx.heap.size ∧ gs < wx.heap.size
  ne : gn ≠ gl ∧ gn ≠ gs ∧ gl ≠ gs
theorem has_made (W : World) (z : Array Value) (T : TypeId) (n : Nat) : HasC (W.alloc (.cells (madeCells z n) T)) W.heap.size n :=
  ⟨by simp, fun j => ⟨fun hj => by obtain ⟨v, hv⟩ := (Fill.made W z n T (fun _ => .bool true)).there j (Nat.zero_le _) hj; rw [hv]; rfl, frozen_freshC _ _ _ _⟩⟩
theorem HasC.call {w w' : World} {g n : Nat} (h : HasC w g n) (hb : Below w.heap.size w w') : HasC w' g n :=
  ⟨Nat.lt_of_lt_of_le h.1 hb.size, fun j => by rw [hb.cell (p := ⟨g, j, none⟩) h.1, hb.frozen (p := ⟨g, j, none⟩) h.1]; exact h.2 j⟩
theorem HasC.off {w : World} {g n : Nat} (h : HasC w g n) {p : Addr} (hp : g ≠ p.block) (u : Value) : HasC (w.setCell p u) g n :=
  have s := Same.of_blk (Below.heap_setCell w p u g hp)
  ⟨by rw [size_set]; exact h.1, fun j => by rw [(s j).1, (s j).2]; exact h.2 j⟩
theorem HasC.set {w : World} {g n : Nat} (h : HasC w g n) (p : Addr) (u : Value) : HasC (w.setCell p u) g n :=
  ⟨by rw [size_set]; exact h.1, fun j => by
    rw [World.frozen?_setCell]
    refine ⟨fun hj => ?_, (h.2 j).2⟩
    by_cases e : p = ⟨g, j, none⟩
    · subst e
      obtain ⟨v, hv⟩ := Option.isSome_iff_exists.1 ((h.2 j).1 hj)
      rw [World.cell?_setCell_same _ _ _ hv]; rfl
    · rw [World.cell?_setCell_other _ _ _ _ e]; exact (h.2 j).1 hj⟩
theorem HasL.call {w w' : World} {g m : Nat} (h : HasL w g m) (hb : Below w.heap.size w w') : HasL w' g m := ⟨h.1.call hb, h.2.keep fun hg => hb.block g hg⟩
theorem HasL.off {w : World} {g m : Nat} (h : HasL w g m) {p : Addr} (hp : g ≠ p.block) (u : Value) : HasL (w.setCell p u) g m := ⟨h.1.off hp u, h.2.keep fun _ => Below.heap_setCell w p u g hp⟩
theorem HasL.set {w : World} {g m : Nat} (h : HasL w g m) (j : Nat) (u : Value) : HasL (w.setCell ⟨g, j, none⟩ u) g m := ⟨h.1.set _ u, h.2.set j u⟩
theorem hasl_made (W : World) (z : Array Value) (m : Nat) : HasL (W.alloc (.cells (madeCells z (m * 3)) 113)) W.heap.size m := ⟨has_made W z _ _, raw_made W z m⟩
theorem hasL1 {W w5 : World} {z : Array Value} {m : Nat} (hb : Below ((W.alloc (.cells (madeCells z (m * 3)) 113)).drew).heap.size ((W.alloc (.cells (madeCells z (m * 3)) 113)).drew) w5) : HasL w5 W.heap.size m :=
  HasL.call (w := (W.alloc (.cells (madeCells z (m * 3)) 113)).drew) (hasl_made W z m) hb
theorem hasL2 {W w5 : World} {z : Array Value} {m : Nat} {o : Obj} (hb : Below (((W.alloc (.cells (madeCells z (m * 3)) 113)).alloc o).drew).heap.size (((W.alloc (.cells (madeCells z (m * 3)) 113)).alloc o).drew) w5) : HasL w5 W.heap.size m :=
  HasL.call (w := ((W.alloc (.cells (madeCells z (m * 3)) 113)).alloc o).drew) ((hasl_made W z m).call (w' := ((W.alloc (.cells (madeCells z (m * 3)) 113)).alloc o).drew) (Below.drew ((Below.refl _ _).alloc (Nat.le_refl _) _))) hb
theorem one_call {w w' : World} {g : Nat} {A : Option Addr} {xs : List ByteArray} (h : StrsIn w (Zone.one g) A xs) (hg : g < w.heap.size) (hb : Below w.heap.size w w') : StrsIn w' (Zone.one g) A xs := h.new_call hb (by omega)
theorem one_off {w : World} {g : Nat} {A : Option Addr} {xs : List ByteArray} (h : StrsIn w (Zone.one g) A xs) {p : Addr} (hp : g ≠ p.block) (u : Value) : StrsIn (w.setCell p u) (Zone.one g) A xs := h.keep fun c hc => by rw [Zone.one_ok hc]; exact Same.set w hp u
theorem cpA {w W0 w5 : World} {x : NetD} {gs ks : Nat} {T2 : TypeId} {z : Array Value} (hb : Below W0.heap.size W0 w5) (hs : StrsIn w5 (Zone.one gs) (some ⟨gs, 0, none⟩) x.stops) (h1 : W0.heap.size ≤ gs) (h2 : gs < w5.heap.size) (hk : CapOk x.stops.length ks) : CpS w W0 ((w5.alloc (.cells (madeCells z (x.lines.length * 3)) 113)).alloc (.cells #[.slice (some ⟨gs, 0, none⟩) x.stops.length ks, .slice (some ⟨w5.heap.size, 0, none⟩) x.lines.length x.lines.length] T2)) x (w5.heap.size + 1) w5.heap.size gs ks := by
  have hz := hb.size
  exact ⟨(hb.alloc hz _).alloc (by simp; omega) _, by go_simp, by go_simp, one_call (one_call hs h2 ((Below.refl _ _).alloc (Nat.le_refl _) _)) (by simp; omega) ((Below.refl _ _).alloc (Nat.le_refl _) _),
    (hasl_made _ _ _).call ((Below.refl _ _).alloc (Nat.le_refl _) _), hk, ⟨by omega, hz, h1⟩, ⟨by simp, by simp; omega, by simp; omega⟩, ⟨by omega, by omega, by omega⟩⟩
theorem cpB {w W0 w5 : World} {x : NetD} {gs ks : Nat} {T2 : TypeId} {z : Array Value} (hb : Below W0.heap.size W0 w5) (hs : StrsIn w5 (Zone.one gs) (some ⟨gs, 0, none⟩) x.stops) (h1 : W0.heap.size ≤ gs) (h2 : gs < w5.heap.size) (hk : CapOk x.stops.length ks) : CpS w W0 ((w5.alloc (.cells #[.slice (some ⟨gs, 0, none⟩) x.stops.length ks, .slice (some ⟨(w5.heap.size + 1), 0, none⟩) x.lines.length x.lines.length] T2)).alloc (.cells (madeCells z (x.lines.length * 3)) 113)) x w5.heap.size (w5.heap.size + 1) gs ks := by
  have hz := hb.size
  have hm := hasl_made (w5.alloc (.cells #[.slice (some ⟨gs, 0, none⟩) x.stops.length ks, .slice (some ⟨(w5.heap.size + 1), 0, none⟩) x.lines.length x.lines.length] T2)) z x.lines.length
  rw [World.size_alloc] at hm
  exact ⟨(hb.alloc hz _).alloc (by simp; omega) _, by go_simp, by go_simp, one_call (one_call hs h2 ((Below.refl _ _).alloc (Nat.le_refl _) _)) (by simp; omega) ((Below.refl _ _).alloc (Nat.le_refl _) _),
    hm, hk, ⟨hz, by omega, h1⟩, ⟨by simp <;> omega, by simp, by simp; omega⟩, ⟨by omega, by omega, by omega⟩⟩
theorem cpC {w W0 w5 : World} {x : NetD} {gs ks : Nat} {T2 : TypeId} {l : Nat} (hb : Below W0.heap.size W0 w5) (hs : StrsIn w5 (Zone.one gs) (some ⟨gs, 0, none⟩) x.stops) (h1 : W0.heap.size ≤ gs) (h2 : gs < w5.heap.size) (hk : CapOk x.stops.length ks) (hl : HasL w5 l x.lines.length) (hl0 : W0.heap.size ≤ l) (hl1 : l ≠ gs) : CpS w W0 (w5.alloc (.cells #[.slice (some ⟨gs, 0, none⟩) x.stops.length ks, .slice (some ⟨l, 0, none⟩) x.lines.length x.lines.length] T2)) x w5.heap.size l gs ks := by
  have hz := hb.size
  have hll := hl.1.1
  exact ⟨hb.alloc hz _, by go_simp, by go_simp, one_call hs h2 ((Below.refl _ _).alloc (Nat.le_refl _) _), hl.call ((Below.refl _ _).alloc (Nat.le_refl _) _), hk, ⟨hz, hl0, h1⟩, ⟨by simp, by simp; omega, by simp; omega⟩, ⟨by omega, by omega, hl1⟩⟩
theorem cpSet {w5 : World} {n : Nat} {u v : Value} (h0 : w5.cell? ⟨n, 0, none⟩ = some (.slice none 0 0)) (h1 : w5.cell? ⟨n, 1, none⟩ = some (.slice none 0 0)) : ((w5.setCell ⟨n, 0, none⟩ u).setCell ⟨n, 1, none⟩ v).cell? ⟨n, 0, none⟩ = some u ∧ ((w5.setCell ⟨n, 0, none⟩ u).setCell ⟨n, 1, none⟩ v).cell? ⟨n, 1, none⟩ = some v :=
  ⟨by rw [World.cell?_setCell_other _ _ _ _ (addr_ne (by omega))]; exact World.cell?_setCell_same _ _ _ h0, World.cell?_setCell_same _ _ _ ((World.cell?_setCell_other _ _ _ _ (addr_ne (by omega))).trans h1)⟩
theorem cpD {w W0 w5 : World} {x : NetD} {gs ks : Nat} {l n : Nat} (hb : Below W0.heap.size W0 w5) (hs : StrsIn w5 (Zone.one gs) (some ⟨gs, 0, none⟩) x.stops) (h1 : W0.heap.size ≤ gs) (h2 : gs < w5.heap.size) (hk : CapOk x.stops.length ks) (hl : HasL w5 l x.lines.length) (hl0 : W0.heap.size ≤ l) (hl1 : l ≠ gs) (hn0 : W0.heap.size ≤ n) (hn1 : n < w5.heap.size) (hnl : n ≠ l) (hng : n ≠ gs) (q0 : w5.cell? ⟨n, 0, none⟩ = some (.slice none 0 0)) (q1 : w5.cell? ⟨n, 1, none⟩ = some (.slice none 0 0)) : CpS w W0 ((w5.setCell ⟨n, 0, none⟩ (.slice (some ⟨gs, 0, none⟩) x.stops.length ks)).setCell ⟨n, 1, none⟩ (.slice (some ⟨l, 0, none⟩) x.lines.length x.lines.length)) x n l gs ks := by
  have hz := hb.size
  have hll := hl.1.1
  have hq := cpSet (u := .slice (some ⟨gs, 0, none⟩) x.stops.length ks) (v := .slice (some ⟨l, 0, none⟩) x.lines.length x.lines.length) q0 q1
  exact ⟨(hb.setCell (p := ⟨n, 0, none⟩) hn0 _).setCell (p := ⟨n, 1, none⟩) hn0 _, hq.1, hq.2, one_off (p := ⟨n, 1, none⟩) (one_off (p := ⟨n, 0, none⟩) hs (Ne.symm hng) _) (Ne.symm hng) _, (hl.off (p := ⟨n, 0, none⟩) (Ne.symm hnl) _).off (p := ⟨n, 1, none⟩) (Ne.symm hnl) _, hk, ⟨hn0, hl0, h1⟩, ⟨by simpa using hn1, by simpa using hll, by simpa using h2⟩, ⟨hnl, hng, hl1⟩⟩
theorem cpE {w W0 w5 : World} {x : NetD} {gs ks : Nat} {z : Array Value} {n : Nat} (hb : Below W0.heap.size W0 w5) (hs : StrsIn w5 (Zone.one gs) (some ⟨gs, 0, none⟩) x.stops) (h1 : W0.heap.size ≤ gs) (h2 : gs < w5.heap.size) (hk : CapOk x.stops.length ks) (hn0 : W0.heap.size ≤ n) (hn1 : n < w5.heap.size) (hng : n ≠ gs) (q0 : w5.cell? ⟨n, 0, none⟩ = some (.slice none 0 0)) (q1 : w5.cell? ⟨n, 1, none⟩ = some (.slice none 0 0)) : CpS w W0 (((w5.setCell ⟨n, 0, none⟩ (.slice (some ⟨gs, 0, none⟩) x.stops.length ks)).setCell ⟨n, 1, none⟩ (.slice (some ⟨w5.heap.size, 0, none⟩) x.lines.length x.lines.length)).alloc (.cells (madeCells z (x.lines.length * 3)) 113)) x n w5.heap.size gs ks := by
  have hz := hb.size
  have hq := cpSet (u := .slice (some ⟨gs, 0, none⟩) x.stops.length ks) (v := .slice (some ⟨w5.heap.size, 0, none⟩) x.lines.length x.lines.length) q0 q1
  have hm := hasl_made ((w5.setCell ⟨n, 0, none⟩ (.slice (some ⟨gs, 0, none⟩) x.stops.length ks)).setCell ⟨n, 1, none⟩ (.slice (some ⟨w5.heap.size, 0, none⟩) x.lines.length x.lines.length)) z x.lines.length
  rw [size_set, size_set] at hm
  have hbs : Below ((w5.setCell ⟨n, 0, none⟩ (.slice (some ⟨gs, 0, none⟩) x.stops.length ks)).setCell ⟨n, 1, none⟩ (.slice (some ⟨w5.heap.size, 0, none⟩) x.lines.length x.lines.length)).heap.size ((w5.setCell ⟨n, 0, none⟩ (.slice (some ⟨gs, 0, none⟩) x.stops.length ks)).setCell ⟨n, 1, none⟩ (.slice (some ⟨w5.heap.size, 0, none⟩) x.lines.length x.lines.length)) (((w5.setCell ⟨n, 0, none⟩ (.slice (some ⟨gs, 0, none⟩) x.stops.length ks)).setCell ⟨n, 1, none⟩ (.slice (some ⟨w5.heap.size, 0, none⟩) x.lines.length x.lines.length)).alloc (.cells (madeCells z (x.lines.length * 3)) 113)) := (Below.refl _ _).alloc (Nat.le_refl _) _
  exact ⟨((hb.setCell (p := ⟨n, 0, none⟩) hn0 _).setCell (p := ⟨n, 1, none⟩) hn0 _).alloc (by rw [size_set, size_set]; exact hz) _, (hbs.cell (p := ⟨n, 0, none⟩) (by rw [size_set, size_set]; exact hn1)).trans hq.1, (hbs.cell (p := ⟨n, 1, none⟩) (by rw [size_set, size_set]; exact hn1)).trans hq.2,
    one_call (one_off (p := ⟨n, 1, none⟩) (one_off (p := ⟨n, 0, none⟩) hs (Ne.symm hng) _) (Ne.symm hng) _) (by rw [size_set, size_set]; exact h2) hbs, hm, hk, ⟨hn0, hz, h1⟩, ⟨by simp; omega, by simp, by simp; omega⟩, ⟨by omega, hng, by omega⟩⟩
/-- All blocks but g are as they were. -/
structure SX (B : Nat) (Wr : World) (g n : Nat) (w' : World) : Prop where
  bel : Below B Wr w'
  kept : ∀ X, X < Wr.heap.size → X ≠ g → w'.heap[X]? = Wr.heap[X]?
  has : HasC w' g n
  ge : B ≤ g
section
variable {B : Nat} {Wr w' w'' : World} {g n : Nat}
theorem SX.start (h : HasC Wr g n) (hB : B ≤ g) : SX B Wr g n Wr := ⟨Below.refl _ _, fun _ _ _ => rfl, h, hB⟩
theorem SX.call (h : SX B Wr g n w') (hb : Below w'.heap.size w' w'') : SX B Wr g n w'' :=
  ⟨h.bel.trans (hb.mono (by have := h.ge; have := h.has.1; omega)), fun X hX hne => (hb.block X (Nat.lt_of_lt_of_le hX h.bel.size)).trans (h.kept X hX hne), h.has.call hb, h.ge⟩
theorem SX.drew (h : SX B Wr g n w') : SX B Wr g n w'.drew := ⟨h.bel.drew, h.kept, h.has, h.ge⟩
theorem SX.alloc (h : SX B Wr g n w') (o : Obj) : SX B Wr g n (w'.alloc o) := h.call ((Below.refl _ _).alloc (Nat.le_refl _) _)
theorem SX.set (h : SX B Wr g n w') (j : Nat) (u : Value) : SX B Wr g n (w'.setCell ⟨g, j, none⟩ u) :=
  ⟨h.bel.setCell (p := ⟨g, j, none⟩) h.ge u, fun X hX hne => (Below.heap_setCell _ ⟨g, j, none⟩ _ _ hne).trans (h.kept X hX hne), h.has.set _ _, h.ge⟩
end
/-- Some lines are copied. -/
structure NUp (w w1 wr : World) (x : NetD) (gl k : Nat) (p r : Nat → Nat) : Prop where
  bel : Below w.heap.size w wr
  kept : ∀ X, X < w1.heap.size → X ≠ gl → wr.heap[X]? = w1.heap[X]?
  sz : w1.heap.size ≤ wr.heap.size
  has : HasL wr gl x.lines.length
  adr : ∀ j, j < k → ∃ cs cr, wr.cell? ⟨gl, j * 3 + 1, none⟩ = some (.slice (some ⟨p j, 0, none⟩) (nthL x.lines j).stops.length cs) ∧ wr.cell? ⟨gl, j * 3 + 2, none⟩ = some (.slice (some ⟨r j, 0, none⟩) (nthL x.lines j).runs.length cr)
  each : ∀ j, j < k → LnAt wr gl j (nthL x.lines j) (p j) (r j)
  blk : ∀ j, j < k → (w1.heap.size ≤ p j ∧ p j < wr.heap.size) ∧ (w1.heap.size ≤ r j ∧ r j < wr.heap.size)
  pp : ∀ i j, i < k → j < k → i ≠ j → p i ≠ p j
  rr : ∀ i j, i < k → j < k → i ≠ j → r i ≠ r j
  pr : ∀ i j, i < k → j < k → p i ≠ r j
theorem NUp.step {w w1 wr w5 : World} {x : NetD} {gl k : Nat} {p r : Nat → Nat} {gs ks gr kr : Nat} (h : NUp w w1 wr x gl k p r) (hk : k < x.lines.length) (hgl : gl < w1.heap.size) (hw : w.heap.size ≤ gl) (hb : Below wr.heap.size wr w5)
    (i1 : IntsIn w5 (Zone.one gs) (some ⟨gs, 0, none⟩) (nthL x.lines k).stops) (i2 : IntsIn w5 (Zone.one gr) (some ⟨gr, 0, none⟩) (nthL x.lines k).runs) (hne : gs ≠ gr) (b1 : wr.heap.size ≤ gs ∧ gs < w5.heap.size) (b2 : wr.heap.size ≤ gr ∧ gr < w5.heap.size) (c1 : CapOk (nthL x.lines k).stops.length ks) (c2 : CapOk (nthL x.lines k).runs.length kr) :
    NUp w w1 (((w5.setCell ⟨gl, k * 3, none⟩ (.string (nthL x.lines k).name)).setCell ⟨gl, k * 3 + 1, none⟩ (.slice (some ⟨gs, 0, none⟩) (nthL x.lines k).stops.length ks)).setCell ⟨gl, k * 3 + 2, none⟩ (.slice (some ⟨gr, 0, none⟩) (nthL x.lines k).runs.length kr)) x gl (k + 1) (fun j => if j = k then gs else p j) (fun j => if j = k then gr else r j) := by
  have hz := hb.size
  have hsz := h.sz
  have h5 := h.has.call hb
  have hs : ∀ c, c ≠ gl → Same w5 (((w5.setCell ⟨gl, k * 3, none⟩ (.string (nthL x.lines k).name)).setCell ⟨gl, k * 3 + 1, none⟩ (.slice (some ⟨gs, 0, none⟩) (nthL x.lines k).stops.length ks)).setCell ⟨gl, k * 3 + 2, none⟩ (.slice (some ⟨gr, 0, none⟩) (nthL x.lines k).runs.length kr)) c := fun c hc =>
    ((Same.set _ hc _).trans (Same.set _ hc _)).trans (Same.set _ hc _)
  obtain ⟨v0, hv0⟩ := Option.isSome_iff_exists.1 ((h5.1.2 (k * 3)).1 (by omega))
  obtain ⟨v1, hv1⟩ := Option.isSome_iff_exists.1 ((h5.1.2 (k * 3 + 1)).1 (by omega))
  obtain ⟨v2, hv2⟩ := Option.isSome_iff_exists.1 ((h5.1.2 (k * 3 + 2)).1 (by omega))
  have hbk : ∀ j, j < k → (p j < wr.heap.size ∧ r j < wr.heap.size) := fun j hj => by have := h.blk j hj; omega
  refine ⟨?_, fun X hX hne => ?_, by simp only [size_set]; omega, ((h5.set _ _).set _ _).set _ _, fun j hj => ?_, fun j hj => ?_, fun j hj => ?_, fun i j hi hj hij => ?_, fun i j hi hj hij => ?_, fun i j hi hj => ?_⟩
  · exact (((h.bel.trans (hb.mono (by omega))).setCell (p := ⟨gl, _, none⟩) hw _).setCell (p := ⟨gl, _, none⟩) hw _).setCell (p := ⟨gl, _, none⟩) hw _
  · rw [Below.heap_setCell _ _ _ _ hne, Below.heap_setCell _ _ _ _ hne, Below.heap_setCell _ _ _ _ hne, hb.block X (by omega)]
    exact h.kept X hX hne
  · by_cases e : j = k
    · subst e
      rw [if_pos rfl, if_pos rfl]
      refine ⟨ks, kr, ?_, ?_⟩
      · rw [cell_set_off _ _ (by omega)]; exact World.cell?_setCell_same _ _ _ ((cell_set_off _ _ (by omega) _).trans hv1)
      · exact World.cell?_setCell_same _ _ _ ((cell_set_off _ _ (by omega) _).trans ((cell_set_off _ _ (by omega) _).trans hv2))
    · rw [if_neg e, if_neg e]
      obtain ⟨cs, cr, q1, q2⟩ := h.adr j (by omega)
      refine ⟨cs, cr, ?_, ?_⟩
      · rw [cell_set_off _ _ (by omega), cell_set_off _ _ (by omega), cell_set_off _ _ (by omega)]
        exact (hb.cell (p := ⟨gl, _, none⟩) (by show gl < wr.heap.size; omega)).trans q1
      · rw [cell_set_off _ _ (by omega), cell_set_off _ _ (by omega), cell_set_off _ _ (by omega)]
        exact (hb.cell (p := ⟨gl, _, none⟩) (by show gl < wr.heap.size; omega)).trans q2
  · by_cases e : j = k
    · subst e
      rw [if_pos rfl, if_pos rfl]
      refine ⟨_, ks, _, kr, ?_, ?_, ?_, i1.keep (fun c hc => by rw [Zone.one_ok hc]; exact hs gs (by omega)), i2.keep (fun c hc => by rw [Zone.one_ok hc]; exact hs gr (by omega)), c1, c2⟩
      · rw [cell_set_off _ _ (by omega), cell_set_off _ _ (by omega)]; exact World.cell?_setCell_same _ _ _ hv0
      · rw [cell_set_off _ _ (by omega)]; exact World.cell?_setCell_same _ _ _ ((cell_set_off _ _ (by omega) _).trans hv1)
      · exact World.cell?_setCell_same _ _ _ ((cell_set_off _ _ (by omega) _).trans ((cell_set_off _ _ (by omega) _).trans hv2))
    · rw [if_neg e, if_neg e]
      have hj' : j < k := by omega
      have hp := hbk j hj'
      have hbj := h.blk j hj'
      refine (h.each j hj').keep (fun i hi => ?_) ((Same.of_below hb hp.1).trans (hs _ (by omega))) ((Same.of_below hb hp.2).trans (hs _ (by omega)))
      rw [cell_set_off _ _ (by omega), cell_set_off _ _ (by omega), cell_set_off _ _ (by omega)]
      exact hb.cell (p := ⟨gl, _, none⟩) (by show gl < wr.heap.size; omega)
  · simp only [size_set]
    by_cases e : j = k
    · rw [if_pos e, if_pos e]; omega
    · rw [if_neg e, if_neg e]; have := h.blk j (by omega); omega
  · by_cases ei : i = k
    · rw [if_pos ei, if_neg (by omega)]; have := hbk j (by omega); omega
    · rw [if_neg ei]
      by_cases ej : j = k
      · rw [if_pos ej]; have := hbk i (by omega); omega
      · rw [if_neg ej]; exact h.pp i j (by omega) (by omega) hij
  · by_cases ei : i = k
    · rw [if_pos ei, if_neg (by omega)]; have := hbk j (by omega); omega
    · rw [if_neg ei]
      by_cases ej : j = k
      · rw [if_pos ej]; have := hbk i (by omega); omega
      · rw [if_neg ej]; exact h.rr i j (by omega) (by omega) hij
  · by_cases ei : i = k
    · rw [if_pos ei]
      by_cases ej : j = k
      · rw [if_pos ej]; exact hne
      · rw [if_neg ej]; have := hbk j (by omega); omega
    · rw [if_neg ei]
      by_cases ej : j = k
      · rw [if_pos ej]; have := hbk i (by omega); omega
      · rw [if_neg ej]; exact h.pr i j (by omega) (by omega)
theorem NUp.nown {w W0 w1 wr : World} {x : NetD} {gn gl gs ks : Nat} {p r : Nat → Nat} (h : NUp w w1 wr x gl x.lines.length p r) (hc : CpS w W0 w1 x gn gl gs ks) : NOwn wr W0.heap.size wr.heap.size x (some ⟨gs, 0, none⟩) (some ⟨gl, 0, none⟩) gs gl p r := by
  have b := hc.b
  have l := hc.l
  have ne := hc.ne
  have sz := h.sz
  have hz := hc.bel.size
  refine ⟨rfl, hc.st.keep (fun c hcc => by rw [Zone.one_ok hcc]; exact Same.of_blk (h.kept gs l.2.2 (Ne.symm ne.2.2))), ⟨fun j => (h.has.1.2 j).2, h.each⟩, ⟨b.2.1, by omega, fun k hk => ?_, fun k hk => ?_, h.pp, h.rr, h.pr⟩, b.2.2, by omega, ⟨Ne.symm ne.2.2, fun k hk => ?_⟩⟩
  · have := h.blk k hk; omega
  · have := h.blk k hk; omega
  · have := h.blk k hk; omega
/-- Where the lines' slices lie, and the row of lines. -/
structure NAdr (w : World) (x : NetD) (g : Nat) (p r : Nat → Nat) : Prop where
  adr : ∀ j, j < x.lines.length → ∃ cs cr, w.cell? ⟨g, j * 3 + 1, none⟩ = some (.slice (some ⟨p j, 0, none⟩) (nthL x.lines j).stops.length cs) ∧ w.cell? ⟨g, j * 3 + 2, none⟩ = some (.slice (some ⟨r j, 0, none⟩) (nthL x.lines j).runs.length cr)
  raw : RawL w g x.lines.length
theorem NAdr.off {w : World} {x : NetD} {g : Nat} {p r : Nat → Nat} (h : NAdr w x g p r) {q : Addr} (hq : g ≠ q.block) (u : Value) : NAdr (w.setCell q u) x g p r :=
  have s := Same.of_blk (Below.heap_setCell w q u g hq)
  ⟨fun j hj => by
    obtain ⟨cs, cr, h1, h2⟩ := h.adr j hj
    exact ⟨cs, cr, (s _).1.trans h1, (s _).1.trans h2⟩, h.raw.keep fun _ => Below.heap_setCell w q u g hq⟩
/-- A network that a call makes: its own, and where its parts lie. -/
def RetNetA (x : NetD) (w : World) (e : Ending) (w' : World) : Prop :=
  ∃ gs ks g p r, e = .returned (.agg #[.slice (some ⟨gs, 0, none⟩) x.stops.length ks, .slice (some ⟨g, 0, none⟩) x.lines.length x.lines.length]) ∧ NOwn w' w.heap.size w'.heap.size x (some ⟨gs, 0, none⟩) (some ⟨g, 0, none⟩) gs g p r ∧ NAdr w' x g p r ∧ Below w.heap.size w w'
theorem NOwn.set {w : World} {lo hi s g : Nat} {x : NetD} {A L : Option Addr} {p r : Nat → Nat} (h : NOwn w lo hi x A L s g p r) {q : Addr} (hq : q.block < lo) (u : Value) : NOwn (w.setCell q u) lo hi x A L s g p r :=
  h.keep fun c hc => Same.set w (by omega) u
set_option maxRecDepth 100000 in
set_option maxHeartbeats 4000000 in
theorem copyNet_any (x : NetD) (b o ca bl ol cl : Nat) (w : World) (hA : StrsIn w (Zone.below w.heap.size) (some ⟨b, o, none⟩) x.stops) (hL : LinesIn w (Zone.below w.heap.size) (some ⟨bl, ol, none⟩) x.lines) (hx : Fits x) (h0 : 0 < x.stops.length) (hp : ∀ k, k < x.lines.length → 0 < (nthL x.lines k).stops.length ∧ 0 < (nthL x.lines k).runs.length) :
    Calls Try.prog 114 #[.agg #[.slice (some ⟨b, o, none⟩) x.stops.length ca, .slice (some ⟨bl, ol, none⟩) x.lines.length cl]] w (RetNetA x w) := by
  obtain ⟨W0, hW0⟩ : ∃ W0, W0 = ((w.alloc (.cells #[.slice (some ⟨b, o, none⟩) x.stops.length ca, .slice (some ⟨bl, ol, none⟩) x.lines.length cl] 46)).alloc (.cells #[.slice none 0 0, .slice none 0 0] 46)) := ⟨_, rfl⟩
  have hb0 : Below w.heap.size w W0 := by rw [hW0]; go_grown
  have HB0 := Lib.hid hb0
  have HA := Lib.hid (hA.at_below hb0)
  have HLN := Lib.hid (hL.at_below hb0)
  have hz0 : w.heap.size + 1 < W0.heap.size := by rw [hW0]; simp
  have hC0 : W0.cell? ⟨w.heap.size, 0, none⟩ = some (.slice (some ⟨b, o, none⟩) x.stops.length ca) ∧ W0.cell? ⟨w.heap.size, 1, none⟩ = some (.slice (some ⟨bl, ol, none⟩) x.lines.length cl) := by rw [hW0]; exact ⟨by go_simp, by go_simp⟩
  have HC0 := Lib.hid hC0
  have hC : ∀ w', Below W0.heap.size W0 w' → w'.cell? ⟨w.heap.size, 0, none⟩ = some (.slice (some ⟨b, o, none⟩) x.stops.length ca) ∧ w'.cell? ⟨w.heap.size, 1, none⟩ = some (.slice (some ⟨bl, ol, none⟩) x.lines.length cl) :=
    fun w' h => ⟨(h.cell (p := ⟨w.heap.size, 0, none⟩) (by show w.heap.size < W0.heap.size; omega)).trans HC0.out.1, (h.cell (p := ⟨w.heap.size, 1, none⟩) (by show w.heap.size < W0.heap.size; omega)).trans HC0.out.2⟩
  have hT0 : W0.cell? ⟨w.heap.size + 1, 0, none⟩ = some (.slice none 0 0) ∧ W0.cell? ⟨w.heap.size + 1, 1, none⟩ = some (.slice none 0 0) ∧ ∀ j, W0.frozen? ⟨w.heap.size + 1, j, none⟩ = false := by rw [hW0]; exact ⟨by go_simp, by go_simp, fun j => by go_simp⟩
  have HT0 := Lib.hid hT0
  have hwW : w.heap.size ≤ W0.heap.size := hb0.size
  have hn := hx.stops
  have hm := hx.lines
  obtain ⟨i0, hi, hiz0, hiz1, hiz2⟩ := info_parts Try.infoLineC
  have hmk := fun W => run_make_n (P := Try.prog) 44 113 i0 _ Try.underlying44 hi hiz0 x.lines.length 3 64 hiz1 hiz2 (by omega) (by omega) W
  have HL0 := Lib.hid hL
  have HXE := Lib.hid hx.each
  have HP0 := Lib.hid hp
  clear hA hL hb0 hC0 hT0 hp
  go_enter Try.func114, Try.ntmps114
  go_wp2_with fail
  rw [← hW0]
  clear hW0
  go_cut [3] (fun s wx => ∃ gn gl gs ks : Nat, s = .pointer (some ⟨gn, 0, none⟩) ∧ CpS w W0 wx x gn gl gs ks)
  case first =>
   go_region_held3 (fun w' => Below W0.heap.size W0 w') (repeat' first | assumption | exact Nat.le_refl _ | exact Nat.le_succ _ | exact Below.refl _ _ | (refine bel_drew ?_) | (refine bel_alloc ?_ _) | (refine bel_set ?_ ?_ _))
    (first
      | (go_at_call 165; go_loud ((with_reducible refine (cloneS_any b o ca x.stops _ (bel_reads ‹Below W0.heap.size W0 _› HA.out hwW) h0 hn).mono ?_); rintro e w5 ⟨gs, ks, rfl, hi5, hgs1, hgs2, hk5, hb5⟩; have hB5 := bel_call ‹Below W0.heap.size W0 _› hb5; (first | ((first | (have e5 := zeroNet hb5) | (have e5 := zeroNet2 hb5)); (try simp only [World.size_alloc] at e5); obtain ⟨⟨e50, e51⟩, ⟨e52, e53⟩, e54⟩ := e5) | skip); (first | ((first | (have e6 := hasL1 hb5) | (have e6 := hasL2 hb5)); (try simp only [World.size_alloc] at e6)) | skip); (try simp only [World.size_alloc] at hgs1)))
      | fail)
   all_goals
    (try simp at hgs1)
    have hgs3 : W0.heap.size ≤ gs := by omega
    have hB5' := Lib.hid hB5
    go_wp2_with fail
    go_meet
    first
      | exact ⟨_, _, gs, ks, rfl, cpA hB5'.out hi5 hgs3 hgs2 hk5⟩
      | exact ⟨_, _, gs, ks, rfl, cpB hB5'.out hi5 hgs3 hgs2 hk5⟩
      | (refine ⟨_, _, gs, ks, rfl, cpC hB5'.out hi5 hgs3 hgs2 hk5 e6 ?_ ?_⟩ <;> omega)
      | (refine ⟨_, _, gs, ks, rfl, cpD hB5'.out hi5 hgs3 hgs2 hk5 e6 ?_ ?_ ?_ e54 ?_ ?_ e50 e52⟩ <;> omega)
      | (refine ⟨_, _, gs, ks, rfl, cpE hB5'.out hi5 hgs3 hgs2 hk5 ?_ e54 ?_ e50 e52⟩ <;> omega)
  case rest =>
    obtain ⟨gn, gl, gs, ks, rfl, hcp⟩ := hcut
    have HCP := Lib.hid hcp
    clear hC
    have hbz := hcp.bel.size
    have hl3 := hcp.l
    have hne3 := hcp.ne
    have hb3 := hcp.b
    clear hcp
    obtain ⟨w1, rfl⟩ : ∃ w1 : World, w1 = wc := ⟨_, rfl⟩
    obtain ⟨q0, q1⟩ : w1.cell? ⟨w.heap.size, 0, none⟩ = some (.slice (some ⟨b, o, none⟩) x.stops.length ca) ∧ w1.cell? ⟨w.heap.size, 1, none⟩ = some (.slice (some ⟨bl, ol, none⟩) x.lines.length cl) := ⟨(HCP.out.bel.cell (p := ⟨w.heap.size, 0, none⟩) (by show w.heap.size < W0.heap.size; omega)).trans HC0.out.1, (HCP.out.bel.cell (p := ⟨w.heap.size, 1, none⟩) (by show w.heap.size < W0.heap.size; omega)).trans HC0.out.2⟩
    have HIb : Hid (Below w.heap.size w w1) := Lib.hid (HB0.out.trans (HCP.out.bel.mono hwW))
    have hNU0 : NUp w w1 w1 x gl 0 (fun _ => 0) (fun _ => 0) := ⟨HIb.out, fun _ _ _ => rfl, Nat.le_refl _, HCP.out.has, fun j hj => by omega, fun j hj => by omega, fun j hj => by omega, fun i j hi => by omega, fun i j hi => by omega, fun i j hi => by omega⟩
    have hgl : gl < w1.heap.size := hl3.2.1
    have hwgl : w.heap.size ≤ gl := by omega
    go_wp2_with fail
    clear q0 q1
    go_loopw [17] (fun i wr => ∃ k : Nat, k ≤ x.lines.length ∧ i = .int .i64 k ∧ ∃ p r, NUp w w1 wr x gl k p r) (fun i _ => x.lines.length - (intOf i).toNat)
    case atStart => exact ⟨0, Nat.zero_le _, rfl, _, _, hNU0⟩
    case round =>
      obtain ⟨k, hk, rfl, p, r, hnu⟩ := hrel
      have HNU := Lib.hid hnu
      have hsz := hnu.sz
      by_cases hlt : k < x.lines.length
      · have hik : (k : Int) < (x.lines.length : Int) := by omega
        obtain ⟨b', o', e, hbl, S, cs, R, cr, d0, d1, d2, i1, i2⟩ := LinesIn.line (HL0.out.at_below hnu.bel) hlt
        simp only [Option.some.injEq, Addr.mk.injEq, and_true] at e
        obtain ⟨rfl, rfl⟩ := e
        obtain ⟨lp1, lp2⟩ := HP0.out k hlt
        obtain ⟨_, lf1, lf2⟩ := HXE.out k hlt
        obtain ⟨bs, os, rfl, _⟩ := i1 lp1
        obtain ⟨br, or, rfl, _⟩ := i2 lp2
        have hblw : bl < wr.heap.size := by have : bl < w.heap.size := hbl; have := hnu.bel.size; omega
        have HI1 := Lib.hid i1
        have HI2 := Lib.hid i2
        obtain ⟨Wr, hWr⟩ : ∃ Wr, Wr = wr.alloc (.cells #[.string (nthL x.lines k).name, .slice (some ⟨bs, os, none⟩) (nthL x.lines k).stops.length cs, .slice (some ⟨br, or, none⟩) (nthL x.lines k).runs.length cr] 113) := ⟨_, rfl⟩
        have hbW : Below wr.heap.size wr Wr := by rw [hWr]; exact (Below.refl _ _).alloc (Nat.le_refl _) _
        have HBW := Lib.hid hbW
        have hzW : wr.heap.size < Wr.heap.size := by rw [hWr]; simp
        have hc5 : Wr.cell? ⟨wr.heap.size, 0, none⟩ = some (.string (nthL x.lines k).name) ∧ Wr.cell? ⟨wr.heap.size, 1, none⟩ = some (.slice (some ⟨bs, os, none⟩) (nthL x.lines k).stops.length cs) ∧ Wr.cell? ⟨wr.heap.size, 2, none⟩ = some (.slice (some ⟨br, or, none⟩) (nthL x.lines k).runs.length cr) := by rw [hWr]; exact ⟨by go_simp, by go_simp, by go_simp⟩
        have hn1 : Wr.cell? ⟨gn, 1, none⟩ = some (.slice (some ⟨gl, 0, none⟩) x.lines.length x.lines.length) := (hbW.cell (p := ⟨gn, 1, none⟩) (by show gn < wr.heap.size; omega)).trans (((Same.of_blk (hnu.kept gn hl3.1 hne3.1)) 1).1.trans HCP.out.n1)
        have HC5 := Lib.hid (And.intro hn1 hc5)
        have hSX : SX w.heap.size Wr gl (x.lines.length * 3) Wr := SX.start (hnu.has.1.call hbW) hwgl
        have hC : ∀ w', SX w.heap.size Wr gl (x.lines.length * 3) w' → w'.cell? ⟨gn, 1, none⟩ = some (.slice (some ⟨gl, 0, none⟩) x.lines.length x.lines.length) ∧ w'.cell? ⟨wr.heap.size, 0, none⟩ = some (.string (nthL x.lines k).name) ∧ w'.cell? ⟨wr.heap.size, 1, none⟩ = some (.slice (some ⟨bs, os, none⟩) (nthL x.lines k).stops.length cs) ∧ w'.cell? ⟨wr.heap.size, 2, none⟩ = some (.slice (some ⟨br, or, none⟩) (nthL x.lines k).runs.length cr) := fun w' h => by
          have s1 := Same.of_blk (h.kept gn (by omega) hne3.1)
          have s2 := Same.of_blk (h.kept wr.heap.size hzW (by omega))
          exact ⟨(s1 1).1.trans HC5.out.1, (s2 0).1.trans HC5.out.2.1, (s2 1).1.trans HC5.out.2.2.1, (s2 2).1.trans HC5.out.2.2.2⟩
        have hT : ∀ w', SX w.heap.size Wr gl (x.lines.length * 3) w' → (w'.cell? ⟨gl, k * 3, none⟩ = some (getC w' gl (k * 3)) ∧ w'.frozen? ⟨gl, k * 3, none⟩ = false) ∧ (w'.cell? ⟨gl, k * 3 + 1, none⟩ = some (getC w' gl (k * 3 + 1)) ∧ w'.frozen? ⟨gl, k * 3 + 1, none⟩ = false) ∧ (w'.cell? ⟨gl, k * 3 + 2, none⟩ = some (getC w' gl (k * 3 + 2)) ∧ w'.frozen? ⟨gl, k * 3 + 2, none⟩ = false) := fun w' h =>
          ⟨h.has.get (by omega), h.has.get (by omega), h.has.get (by omega)⟩
        have HIs : Hid (∀ w', SX w.heap.size Wr gl (x.lines.length * 3) w' → IntsIn w' (Zone.below w'.heap.size) (some ⟨bs, os, none⟩) (nthL x.lines k).stops ∧ IntsIn w' (Zone.below w'.heap.size) (some ⟨br, or, none⟩) (nthL x.lines k).runs) := Lib.hid (fun w' h => by
          have hb := (HBW.out.mono (by omega : w.heap.size ≤ wr.heap.size)).trans h.bel
          have hz := hb.size
          exact ⟨(HI1.out.at_below hb).mono (Zone.below_le (by omega)), (HI2.out.at_below hb).mono (Zone.below_le (by omega))⟩)
        clear hbW hc5 hn1 i1 i2 hnu hbl
        go_wp2_with fail
        rw [← hWr]
        clear hWr d0 d1 d2
        go_region_held3 (fun w' => SX w.heap.size Wr gl (x.lines.length * 3) w') (repeat' first | assumption | (refine SX.drew ?_) | (refine SX.alloc ?_ _) | (refine SX.set ?_ _ _))
          (first
            | (go_at_call 112; go_loud (refine (copyLine_any (nthL x.lines k) bs os cs br or cr _ (HIs.out _ ‹SX w.heap.size Wr gl (x.lines.length * 3) _›).1 (HIs.out _ ‹SX w.heap.size Wr gl (x.lines.length * 3) _›).2 lp1 lp2 lf1 lf2).mono ?_; rintro e w5 ⟨gs5, ks5, gr5, kr5, rfl, j1, j2, j3, j4, j5, j6, j7, hb5⟩; have hS5 := SX.call ‹SX w.heap.size Wr gl (x.lines.length * 3) _› hb5))
            | fail)
        all_goals
          have hbx : Below wr.heap.size wr w5 := by first | exact HBW.out.drew.trans (hb5.mono (Nat.le_of_lt hzW)) | exact HBW.out.trans (hb5.mono (Nat.le_of_lt hzW))
          have j4' : wr.heap.size ≤ gs5 ∧ gs5 < w5.heap.size := ⟨Nat.le_trans (Nat.le_of_lt hzW) j4.1, j4.2⟩
          have j5' : wr.heap.size ≤ gr5 ∧ gr5 < w5.heap.size := ⟨Nat.le_trans (Nat.le_of_lt hzW) j5.1, j5.2⟩
          have HST := Lib.hid (NUp.step HNU.out hlt hgl hwgl hbx j1 j2 j3 j4' j5' j6 j7)
          clear hC hT hS5 hb5 j1 j2 j4 j5 hbx hSX
          go_wp2_with fail
          go_roundw
          case rel => exact ⟨k + 1, by omega, by go_num, _, _, HST.out⟩
          case measure => simp [intOf]; omega
      · obtain rfl : k = x.lines.length := by omega
        have n0 := ((Same.of_blk (hnu.kept gn hl3.1 hne3.1)) 0).1.trans HCP.out.n0
        have n1 := ((Same.of_blk (hnu.kept gn hl3.1 hne3.1)) 1).1.trans HCP.out.n1
        have hr0 : w.heap.size + 1 < w1.heap.size := by omega
        have s0 := Same.of_blk (hnu.kept (w.heap.size + 1) hr0 (by omega))
        have s1 : Same W0 w1 (w.heap.size + 1) := Same.of_below HCP.out.bel hz0
        have t0 := (s0 0).1.trans ((s1 0).1.trans HT0.out.1)
        have t1 := (s0 1).1.trans ((s1 1).1.trans HT0.out.2.1)
        have f0 := (s0 0).2.trans ((s1 0).2.trans (HT0.out.2.2 0))
        have f1 := (s0 1).2.trans ((s1 1).2.trans (HT0.out.2.2 1))
        have HNO := Lib.hid (hnu.nown HCP.out)
        have HNA : Hid (NAdr wr x gl p r) := Lib.hid ⟨hnu.adr, hnu.has.2⟩
        have HBE := Lib.hid hnu.bel
        clear hnu s0 s1
        go_wp2_with fail
        refine bodyPost_ret (v := .agg #[.slice (some ⟨gs, 0, none⟩) x.stops.length ks, .slice (some ⟨gl, 0, none⟩) x.lines.length x.lines.length]) (by simp [results, Try.results114, go_sem, t0, t1]) rfl ?_
        refine ⟨gs, ks, gl, p, r, rfl, ?_, ?_, ?_⟩
        · simp only [size_set]
          refine NOwn.wide (lo := W0.heap.size) (hi := wr.heap.size) ?_ hwW (Nat.le_refl _)
          repeat' (refine NOwn.set ?_ (by simpa using hz0) _)
          exact HNO.out
        · have hgo : gl ≠ w.heap.size + 1 := by omega
          repeat' (refine NAdr.off ?_ (by simpa using hgo) _)
          exact HNA.out
        · repeat' (refine Below.setCell ?_ (by simp) _)
          exact HBE.out
end

/-! ### Copies of networks: the reference's lists. -/
section
open Go.ChangeShapes Go.WideShapes Go.ChangeAt Go.RowKit Go.PlainAid
set_option linter.unusedVariables false
set_option linter.unusedSimpArgs false

/-- append(v, ys...) . -/
theorem wp_apps {α : Type} {e : TypeId} {m : Nat} {enc : α → List Value} {P : Program} {ops : Array Oper} {rest : List Oper} {o : Oper} {a : Act} {Q : Exit → Act → World → Prop} (hgd : o.guard = none) (s x : Operand) (t : TypeId)
    (ho : o.op = .call { callee := .builtin .append, args := #[s, x], argTypes := #[t, t] }) (bytes : Nat) {z : Value} {i0 : TypeInfo} (ht : P.underlying t = some (.slice e)) (hi : P.info? e = some i0) (hz : i0.zero = some z) (hsize : i0.size = m) (hby : i0.bytes = bytes) (hzs : z.cells.size = m) (hsz : 0 < m)
    (hm : ∀ y, (enc y).length = m) (h1 : ∀ y, ∀ u ∈ enc y, u.oneCell' = true) (hb16 : bytes ≤ 1024)
    (B : Nat) (v : Value) (xs ys : List α) (w : World) (hown : OwnE e m enc w B v xs) (hs : a.eval s = v) (b i c n : Nat) (hx : a.eval x = .slice (some ⟨b, i, none⟩) n c) (hn : ys.length = n)
    (hc : ∀ j u, (ys.flatMap enc)[j]? = some u → w.cell? ⟨b, i + j, none⟩ = some u) (hl : xs.length + ys.length ≤ 16777216) (hB : B ≤ w.heap.size)
    (h : ∀ v' w', OwnE e m enc w' B v' (xs ++ ys) → Below B w w' → w.grownBy w' v.ownBlock → wpList P ops Q rest (a.put o.dst v') w') : wpList P ops Q (o :: rest) a w := by
  subst hn
  refine wpList_append_own _ hgd s x t ho B e i0 z m bytes ht hi hz hsize hby hzs hsz v xs.length (xs.flatMap enc) hs hown ⟨b, i, none⟩ ys.length c (ys.flatMap enc) hx (flat_len hm ys) (fun j u hj => ?_) (fun u hu => ?_) (by unfold maxLen; omega) ?_ hB (fun v' w' ho' hg _ => ?_)
  · rw [show (⟨b, i, none⟩ : Addr).add j = ⟨b, i + j, none⟩ by unfold Addr.add; split <;> simp_all]
    exact hc j u hj
  · obtain ⟨y, _, hu⟩ := List.mem_flatMap.1 hu
    exact h1 y u hu
  · have : (xs.length + ys.length) * bytes ≤ 16777216 * 1024 := Nat.mul_le_mul hl hb16
    omega
  · refine h v' w' ?_ ((Below.refl B w).grown hg hB (fun k hk => ((World.ownsRow.lt hown) k hk).1)) hg
    show w'.ownsRow B e m v' (xs ++ ys).length ((xs ++ ys).flatMap enc)
    rw [List.length_append, List.flatMap_append]
    exact ho'
theorem own_some {α : Type} {e : TypeId} {m : Nat} {enc : α → List Value} {w : World} {B : Nat} {v : Value} {xs : List α} (h : OwnE e m enc w B v xs) (h0 : 0 < xs.length) : ∃ g cap, v = .slice (some ⟨g, 0, none⟩) xs.length cap := by
  obtain ⟨_, hq | ⟨g, cap, cur, hv, _⟩⟩ := h
  · omega
  · exact ⟨g, cap, hv⟩
set_option maxHeartbeats 1000000 in
theorem l1Own_any (b o c : Nat) (xs : List Int) (w : World) (h : IntsIn w (Zone.below w.heap.size) (some ⟨b, o, none⟩) xs) (h0 : 0 < xs.length) (hn : xs.length ≤ 1048576) :
    Calls Try.prog 160 #[.slice (some ⟨b, o, none⟩) xs.length c] w fun e w' => ∃ g cap, e = .returned (.slice (some ⟨g, 0, none⟩) xs.length cap) ∧ OwnI w' w.heap.size (.slice (some ⟨g, 0, none⟩) xs.length cap) xs ∧ Below w.heap.size w w' := by
  obtain ⟨i0, hi, hz0, hz1, hz2⟩ := info_parts Try.infoI
  have hc : ∀ j u, (xs.flatMap encI)[j]? = some u → (w.alloc (.cells #[] 3)).cell? ⟨b, o + j, none⟩ = some u := fun j u hj => by
    obtain ⟨hl, rfl⟩ := flat_int _ _ _ hj
    obtain ⟨b', o', e, hb, _, hc⟩ := h (by omega)
    simp only [Option.some.injEq, Addr.mk.injEq, and_true] at e
    obtain ⟨rfl, rfl⟩ := e
    exact (((Below.refl w.heap.size w).alloc (Nat.le_refl _) _).cell (p := ⟨b, _, none⟩) hb).trans (hc j hl)
  have HC := Lib.hid hc
  have HO : Hid (OwnI (w.alloc (.cells #[] 3)) w.heap.size (.slice (some ⟨w.heap.size, 0, none⟩) 0 0) []) := Lib.hid (by simpa using OwnE.empty (e := 3) (m := 1) (enc := encI) (w := w) (Nat.le_refl _))
  have hzw : w.heap.size ≤ (w.alloc (.cells #[] 3)).heap.size := by simp
  have hll : ([] : List Int).length + xs.length ≤ 16777216 := by simp; omega
  clear hc h
  go_enter Try.func160, Try.ntmps160
  go_wp2_with (at_builtin; go_loud (refine wp_apps rfl _ _ 22 rfl 8 Try.underlying22 hi hz0 hz1 hz2 rfl (by omega) (fun _ => rfl) (fun y u hu => by simp [encI] at hu; subst hu; rfl) (by omega) w.heap.size _ [] xs _ HO.out rfl b o c xs.length rfl rfl HC.out hll hzw ?_; intro v' w' ho' hb' hg'; obtain ⟨g, cap, rfl⟩ := own_some ho' (by simpa using h0); have HO' := Lib.hid ho'; have HB' := Lib.hid (((Below.refl w.heap.size w).alloc (Nat.le_refl _) (.cells #[] 3)).trans hb'); clear ho' hb' hg'))
  go_ret
  exact ⟨g, cap, by simp, by simpa using HO'.out, HB'.out⟩
end

/-! ### The reference's own network: what its loop keeps. -/
section
open Go.ChangeShapes Go.WideShapes Go.ChangeAt Go.RowKit Go.PlainAid
set_option linter.unusedVariables false
set_option linter.unusedSimpArgs false

/-- step_apps, and which block is the slice's then. -/
theorem step_appsG {α : Type} {e : TypeId} {m : Nat} {enc : α → List Value} {P : Program} {ops : Array Oper} {o : Oper} {a : Act} {K : Act → World → Prop} {Q : Exit → Act → World → Prop} {E : Prop} (hgd : o.guard = none) (s x : Operand) (t : TypeId)
    (ho : o.op = .call { callee := .builtin .append, args := #[s, x], argTypes := #[t, t] }) (bytes : Nat) {z : Value} {i0 : TypeInfo} (ht : P.underlying t = some (.slice e)) (hi : P.info? e = some i0) (hz : i0.zero = some z) (hsize : i0.size = m) (hby : i0.bytes = bytes) (hzs : z.cells.size = m) (hsz : 0 < m)
    (hm : ∀ y, (enc y).length = m) (h1 : ∀ y, ∀ u ∈ enc y, u.oneCell' = true) (hb16 : bytes ≤ 1024)
    (B : Nat) (v : Value) (xs ys : List α) (w : World) (hown : OwnE e m enc w B v xs) (hs : a.eval s = v) (b i c n : Nat) (hx : a.eval x = .slice (some ⟨b, i, none⟩) n c) (hn : ys.length = n)
    (hc : ∀ j u, (ys.flatMap enc)[j]? = some u → w.cell? ⟨b, i + j, none⟩ = some u) (hl : xs.length + ys.length ≤ 16777216) (hB : B ≤ w.heap.size)
    (h : ∀ v' w', OwnE e m enc w' B v' (xs ++ ys) → Below B w w' → w.grownBy w' v.ownBlock → (v'.ownBlock = v.ownBlock ∨ v'.ownBlock = some w.heap.size) → K (a.put o.dst v') w') :
    if Region.wanted o (yielded ops a.tmps) = true then Oper.wp P o a w K Q else E := by
  have hw : Region.wanted o (yielded ops a.tmps) = true := by simp [Region.wanted, hgd]
  rw [if_pos hw]
  subst hn
  have hc' : ∀ j u, (ys.flatMap enc)[j]? = some u → w.cell? ((⟨b, i, none⟩ : Addr).add j) = some u := fun j u hj => by
    rw [show (⟨b, i, none⟩ : Addr).add j = ⟨b, i + j, none⟩ by unfold Addr.add; split <;> simp_all]
    exact hc j u hj
  have ho1 : ∀ u ∈ ys.flatMap enc, u.oneCell' = true := fun u hu => by
    obtain ⟨y, _, hu⟩ := List.mem_flatMap.1 hu
    exact h1 y u hu
  have hby' : (xs.length + ys.length) * bytes ≤ 140737488355328 := by
    have : (xs.length + ys.length) * bytes ≤ 16777216 * 1024 := Nat.mul_le_mul hl hb16
    omega
  obtain ⟨v', w', hr, h2, h3, h4, h5⟩ := run_append_own_at (P := P) w B t o.type e i0 z m bytes ht hi hz hsize hby hzs hsz v xs.length (xs.flatMap enc) hown ⟨b, i, none⟩ ys.length c (ys.flatMap enc) (flat_len hm ys) hc' ho1 (by unfold maxLen; omega) hby' hB
  unfold Oper.wp execOp
  simp only [ho, resolve, invoke, builtin, Sem.run_bind, Sem.run_pure, Result.andThen_ok, List.map_toArray, List.map_cons, List.map_nil, hs, hx, hr]
  refine h v' w' ?_ ((Below.refl B w).grown h3 hB (fun k hk => ((World.ownsRow.lt hown) k hk).1)) h3 h5
  show w'.ownsRow B e m v' (xs ++ ys).length ((xs ++ ys).flatMap enc)
  rw [List.length_append, List.flatMap_append]
  exact h2
theorem own_oneS {w : World} {B g cap : Nat} {xs : List ByteArray} (h : OwnE 9 1 (fun y => [Value.string y]) w B (.slice (some ⟨g, 0, none⟩) xs.length cap) xs) (h0 : 0 < xs.length) : StrsIn w (Zone.one g) (some ⟨g, 0, none⟩) xs ∧ B ≤ g ∧ g < w.heap.size ∧ CapOk xs.length cap := by
  have ho := h
  unfold OwnE at ho
  have hlt := (World.ownsRow.lt ho) g rfl
  obtain ⟨A, c, e, h6, h7, _⟩ := h.reads (E := eStr) (st := fun j => j) (fun _ => rfl) (fun j => by omega) (fun w Z b o y hc => hc 0 (by omega))
  simp only [Value.slice.injEq] at e
  obtain ⟨_, _, rfl⟩ := e
  refine ⟨fun _ => ⟨g, 0, rfl, ⟨Nat.le_refl _, Nat.lt_succ_self _⟩, fun _ j => World.ownsRow.frozenAt ho j, fun j hj => ?_⟩, hlt.1, hlt.2, h6, h7⟩
  show w.cell? ⟨g, 0 + j, none⟩ = some (.string (nthS xs j))
  rw [Nat.zero_add, World.ownsRow.cellAt ho j (by omega), flat_one, List.getElem?_map, List.getElem?_eq_getElem hj]
  unfold nthS
  rw [List.getD_eq_getElem?_getD, List.getElem?_eq_getElem hj]
  rfl

/-- A line as its cells. -/
structure LV where
  nm : ByteArray
  gs : Nat
  ns : Nat
  ks : Nat
  gr : Nat
  nr : Nat
  kr : Nat
instance : Inhabited LV := ⟨⟨ByteArray.empty, 0, 0, 0, 0, 0, 0⟩⟩
def encLV (y : LV) : List Value := [.string y.nm, .slice (some ⟨y.gs, 0, none⟩) y.ns y.ks, .slice (some ⟨y.gr, 0, none⟩) y.nr y.kr]
theorem encLV_cell : ∀ y, ∀ u ∈ encLV y, u.oneCell' = true := fun y u hu => by
  simp [encLV] at hu
  rcases hu with rfl | rfl | rfl <;> rfl
def atV (ys : List LV) (j : Nat) : LV := ys.getD j default
theorem atV_old {ys : List LV} {y : LV} {j : Nat} (hj : j < ys.length) : atV (ys ++ [y]) j = atV ys j := by
  unfold atV
  rw [List.getD_eq_getElem?_getD, List.getD_eq_getElem?_getD, List.getElem?_append_left hj]
theorem atV_new {ys : List LV} {y : LV} : atV (ys ++ [y]) ys.length = y := by
  unfold atV
  rw [List.getD_eq_getElem?_getD, List.getElem?_append_right (Nat.le_refl _)]
  simp
structure LvAt (w : World) (y : LV) (x : LineD) : Prop where
  nm : y.nm = x.name
  ns : y.ns = x.stops.length
  nr : y.nr = x.runs.length
  i1 : IntsIn w (Zone.one y.gs) (some ⟨y.gs, 0, none⟩) x.stops
  i2 : IntsIn w (Zone.one y.gr) (some ⟨y.gr, 0, none⟩) x.runs
  c1 : CapOk x.stops.length y.ks
  c2 : CapOk x.runs.length y.kr
theorem LvAt.keep {w w' : World} {y : LV} {x : LineD} (h : LvAt w y x) (h1 : Same w w' y.gs) (h2 : Same w w' y.gr) : LvAt w' y x :=
  ⟨h.nm, h.ns, h.nr, h.i1.keep fun c hc => by rw [Zone.one_ok hc]; exact h1, h.i2.keep fun c hc => by rw [Zone.one_ok hc]; exact h2, h.c1, h.c2⟩
/-- Lines of the call's own in a slice value v, from block B on. -/
structure LvOwn (w : World) (B : Nat) (v : Value) (xs : List LineD) (ys : List LV) (k : Nat) : Prop where
  own : OwnE 113 3 encLV w B v ys
  len : ys.length = k
  each : ∀ j, j < k → LvAt w (atV ys j) (nthL xs j)
  blk : ∀ j, j < k → (B ≤ (atV ys j).gs ∧ (atV ys j).gs < w.heap.size ∧ v.ownBlock ≠ some (atV ys j).gs) ∧ (B ≤ (atV ys j).gr ∧ (atV ys j).gr < w.heap.size ∧ v.ownBlock ≠ some (atV ys j).gr)
  pp : ∀ i j, i < k → j < k → i ≠ j → (atV ys i).gs ≠ (atV ys j).gs
  rr : ∀ i j, i < k → j < k → i ≠ j → (atV ys i).gr ≠ (atV ys j).gr
  pr : ∀ i j, i < k → j < k → (atV ys i).gs ≠ (atV ys j).gr
theorem LvOwn.nil {w : World} {B : Nat} {xs : List LineD} : LvOwn w B (.slice none 0 0) xs [] 0 :=
  ⟨OwnE.nil, rfl, fun j hj => by omega, fun j hj => by omega, fun i j hi => by omega, fun i j hi => by omega, fun i j hi => by omega⟩
theorem LvOwn.keep {w w' : World} {B : Nat} {v : Value} {xs : List LineD} {ys : List LV} {k : Nat} (h : LvOwn w B v xs ys k) (hs : ∀ X, B ≤ X → X < w.heap.size → w'.heap[X]? = w.heap[X]?) (hz : w.heap.size ≤ w'.heap.size) : LvOwn w' B v xs ys k :=
  ⟨h.own.kept fun X hX => by have := (World.ownsRow.lt h.own) X hX; exact hs X this.1 this.2, h.len, fun j hj => by
    obtain ⟨b1, b2⟩ := h.blk j hj
    exact (h.each j hj).keep (Same.of_blk (hs _ b1.1 b1.2.1)) (Same.of_blk (hs _ b2.1 b2.2.1)), fun j hj => by
    obtain ⟨b1, b2⟩ := h.blk j hj
    exact ⟨⟨b1.1, by omega, b1.2.2⟩, b2.1, by omega, b2.2.2⟩, h.pp, h.rr, h.pr⟩
theorem LvOwn.call {w w' : World} {B : Nat} {v : Value} {xs : List LineD} {ys : List LV} {k : Nat} (h : LvOwn w B v xs ys k) (hb : Below w.heap.size w w') : LvOwn w' B v xs ys k := h.keep (fun X _ hX => hb.block X hX) hb.size
/-- One more line, made since. -/
theorem LvOwn.step {wr wA w8 : World} {B : Nat} {v v8 : Value} {xs : List LineD} {ys : List LV} {k : Nat} {y : LV} (h : LvOwn wr B v xs ys k) (hBr : B ≤ wr.heap.size) (hb : Below wr.heap.size wr wA) (hy : LvAt wA y (nthL xs k)) (hne : y.gs ≠ y.gr) (b1 : wr.heap.size ≤ y.gs ∧ y.gs < wA.heap.size) (b2 : wr.heap.size ≤ y.gr ∧ y.gr < wA.heap.size)
    (ho : OwnE 113 3 encLV w8 B v8 (ys ++ [y])) (hg : wA.grownBy w8 v.ownBlock) (hat : v8.ownBlock = v.ownBlock ∨ v8.ownBlock = some wA.heap.size) : LvOwn w8 B v8 xs (ys ++ [y]) (k + 1) := by
  have hz := hb.size
  have hz8 := hg.size
  have hl := h.len
  have hlt := World.ownsRow.lt h.own
  have hkp : ∀ X, X < wA.heap.size → v.ownBlock ≠ some X → Same wA w8 X := fun X hX hne => Same.of_blk (hg.block X hX (fun e => hne e.symm))
  have hv8 : ∀ X, X < wA.heap.size → v.ownBlock ≠ some X → v8.ownBlock ≠ some X := fun X hX hne e => by
    rcases hat with q | q
    · rw [q] at e; exact hne e
    · rw [q] at e; simp at e; omega
  have n1 : v.ownBlock ≠ some y.gs := fun e => by have := hlt _ e; omega
  have n2 : v.ownBlock ≠ some y.gr := fun e => by have := hlt _ e; omega
  have hold : ∀ j, j < k → atV (ys ++ [y]) j = atV ys j := fun j hj => atV_old (by omega)
  have hnew : atV (ys ++ [y]) k = y := by rw [← hl]; exact atV_new
  refine ⟨ho, by simp [hl], fun j hj => ?_, fun j hj => ?_, fun i j hi hj hij => ?_, fun i j hi hj hij => ?_, fun i j hi hj => ?_⟩
  · by_cases e : j = k
    · subst e; rw [hnew]; exact hy.keep (hkp _ b1.2 n1) (hkp _ b2.2 n2)
    · have hj' : j < k := by omega
      rw [hold j hj']
      obtain ⟨c1, c2⟩ := h.blk j hj'
      exact (h.each j hj').keep ((Same.of_below hb c1.2.1).trans (hkp _ (by omega) c1.2.2)) ((Same.of_below hb c2.2.1).trans (hkp _ (by omega) c2.2.2))
  · by_cases e : j = k
    · subst e; rw [hnew]; exact ⟨⟨by omega, by omega, hv8 _ b1.2 n1⟩, by omega, by omega, hv8 _ b2.2 n2⟩
    · have hj' : j < k := by omega
      rw [hold j hj']
      obtain ⟨c1, c2⟩ := h.blk j hj'
      exact ⟨⟨c1.1, by omega, hv8 _ (by omega) c1.2.2⟩, c2.1, by omega, hv8 _ (by omega) c2.2.2⟩
  · by_cases ei : i = k
    · have hj' : j < k := by omega
      subst ei; rw [hnew, hold j hj']; have := h.blk j hj'; omega
    · have hi' : i < k := by omega
      rw [hold i hi']
      by_cases ej : j = k
      · subst ej; rw [hnew]; have := h.blk i hi'; omega
      · rw [hold j (by omega)]; exact h.pp i j hi' (by omega) hij
  · by_cases ei : i = k
    · have hj' : j < k := by omega
      subst ei; rw [hnew, hold j hj']; have := h.blk j hj'; omega
    · have hi' : i < k := by omega
      rw [hold i hi']
      by_cases ej : j = k
      · subst ej; rw [hnew]; have := h.blk i hi'; omega
      · rw [hold j (by omega)]; exact h.rr i j hi' (by omega) hij
  · by_cases ei : i = k
    · subst ei; rw [hnew]
      by_cases ej : j = i
      · subst ej; rw [hnew]; exact hne
      · have hj' : j < i := by omega
        rw [hold j hj']; have := h.blk j hj'; omega
    · have hi' : i < k := by omega
      rw [hold i hi']
      by_cases ej : j = k
      · subst ej; rw [hnew]; have := h.blk i hi'; omega
      · rw [hold j (by omega)]; exact h.pr i j hi' (by omega)
/-- A store to a block that is none of them. -/
theorem LvOwn.set {w : World} {B : Nat} {v : Value} {xs : List LineD} {ys : List LV} {k : Nat} (h : LvOwn w B v xs ys k) {p : Addr} (hp : p.block < B) (u : Value) : LvOwn (w.setCell p u) B v xs ys k :=
  h.keep (fun X hX _ => Below.heap_setCell _ _ _ _ (by omega)) (by rw [size_set]; exact Nat.le_refl _)
theorem LvOwn.lown {w : World} {B : Nat} {v : Value} {xs : List LineD} {ys : List LV} (h : LvOwn w B v xs ys xs.length) (h0 : 0 < xs.length) : ∃ g cap, v = .slice (some ⟨g, 0, none⟩) xs.length cap ∧ xs.length ≤ cap ∧ B ≤ g ∧ g < w.heap.size ∧ LOwn w g xs (fun j => (atV ys j).gs) (fun j => (atV ys j).gr) ∧ Apart B w.heap.size g xs.length (fun j => (atV ys j).gs) (fun j => (atV ys j).gr) := by
  have ho := h.own
  have hl := h.len
  obtain ⟨g, cap, rfl⟩ := own_some h.own (by omega)
  unfold OwnE at ho
  have hlt := (World.ownsRow.lt ho) g rfl
  obtain ⟨_, hq | ⟨g', cap', cur, hv, hg, hh, hle, hcap, hsz, htk⟩⟩ := h.own
  · omega
  simp only [Value.slice.injEq, Option.some.injEq, Addr.mk.injEq, and_true, true_and] at hv
  obtain ⟨rfl, rfl⟩ := hv
  rw [hl] at hle
  refine ⟨g, cap, by rw [hl], hle, hlt.1, hlt.2, ⟨fun j => World.ownsRow.frozenAt ho j, fun k hk => ?_⟩, ⟨hlt.1, hlt.2, fun k hk => ?_, fun k hk => ?_, h.pp, h.rr, h.pr⟩⟩
  · have e := h.each k hk
    have hc : ∀ i, i < 3 → w.cell? ⟨g, k * 3 + i, none⟩ = (encLV (atV ys k))[i]? := fun i hi => by
      rw [World.ownsRow.cellAt ho (k * 3 + i) (by omega), flat_get (enc := encLV) (m := 3) (fun _ => rfl) ys k i (by omega) hi]
      rfl
    have q0 := hc 0 (by omega)
    have q1 := hc 1 (by omega)
    have q2 := hc 2 (by omega)
    refine ⟨some ⟨(atV ys k).gs, 0, none⟩, (atV ys k).ks, some ⟨(atV ys k).gr, 0, none⟩, (atV ys k).kr, ?_, ?_, ?_, e.i1, e.i2, e.c1, e.c2⟩
    · rw [← e.nm]; exact q0
    · rw [← e.ns]; exact q1
    · rw [← e.nr]; exact q2
  · have := (h.blk k hk).1
    refine ⟨this.1, this.2.1, fun e => this.2.2 ?_⟩
    show some g = _
    rw [← e]
  · have := (h.blk k hk).2
    refine ⟨this.1, this.2.1, fun e => this.2.2 ?_⟩
    show some g = _
    rw [← e]
end
end Go.Proofs.Ytambgommeannnaa
