/- Copies of lines and networks. -/
import Derived.Test.YtambgommeannnaaNor
import Derived.Test.YtambgommeannnaaCli
import Derived.Deep.RegionHeld3
import Derived.Deep.DrawnRows
namespace Go.Proofs.Ytambgommeannnaa
open Go.ChangeShapes Go.WideShapes Go.ChangeAt Go.RowKit Go.PlainAid
set_option linter.unusedVariables false
set_option linter.unusedSimpArgs false

/-- A block of n cells that can be written. -/
def HasC (w : World) (g n : Nat) : Prop := g < w.heap.size ∧ ∀ j, (j < n → (w.cell? ⟨g, j, none⟩).isSome = true) ∧ w.frozen? ⟨g, j, none⟩ = false
def getC (w : World) (g j : Nat) : Value := (w.cell? ⟨g, j, none⟩).getD undef
theorem HasC.get {w : World} {g n j : Nat} (h : HasC w g n) (hj : j < n) : w.cell? ⟨g, j, none⟩ = some (getC w g j) ∧ w.frozen? ⟨g, j, none⟩ = false := by
  refine ⟨?_, (h.2 j).2⟩
  unfold getC
  obtain ⟨v, hv⟩ := Option.isSome_iff_exists.1 ((h.2 j).1 hj)
  rw [hv]; rfl
/-- Everything below block g is as it was; block g can be written. -/
structure SLn (W0 : World) (g n : Nat) (w' : World) : Prop where
  bel : Below g W0 w'
  has : HasC w' g n
section
variable {W0 w' w'' : World} {g n : Nat}
theorem SLn.drew (h : SLn W0 g n w') : SLn W0 g n w'.drew := ⟨h.bel.drew, h.has⟩
theorem SLn.call (h : SLn W0 g n w') (hb : Below w'.heap.size w' w'') : SLn W0 g n w'' :=
  ⟨h.bel.trans (hb.mono (Nat.le_of_lt h.has.1)), Nat.lt_of_lt_of_le h.has.1 hb.size, fun j => by
    rw [hb.cell (p := ⟨g, j, none⟩) h.has.1, hb.frozen (p := ⟨g, j, none⟩) h.has.1]; exact h.has.2 j⟩
theorem SLn.alloc (h : SLn W0 g n w') (o : Obj) : SLn W0 g n (w'.alloc o) := h.call ((Below.refl _ _).alloc (Nat.le_refl _) _)
theorem SLn.set (h : SLn W0 g n w') {p : Addr} (hp : g ≤ p.block) (u : Value) : SLn W0 g n (w'.setCell p u) :=
  ⟨h.bel.setCell hp u, by rw [size_set]; exact h.has.1, fun j => by
    rw [World.frozen?_setCell]
    refine ⟨fun hj => ?_, (h.has.2 j).2⟩
    by_cases e : p = ⟨g, j, none⟩
    · subst e
      obtain ⟨v, hv⟩ := Option.isSome_iff_exists.1 ((h.has.2 j).1 hj)
      rw [World.cell?_setCell_same _ _ _ hv]; rfl
    · rw [World.cell?_setCell_other _ _ _ _ e]; exact (h.has.2 j).1 hj⟩
theorem SLn.ints {B : Nat} {A : Option Addr} {xs : List Int} (h : SLn W0 g n w') (hi : IntsIn W0 (Zone.below B) A xs) (hB : B ≤ g) : IntsIn w' (Zone.below w'.heap.size) A xs :=
  (hi.at_below (h.bel.mono hB)).mono (Zone.below_le (Nat.le_trans hB (Nat.le_of_lt h.has.1)))
end
/-- A line that a call makes, its slices in blocks of their own. -/
def RetLn (x : LineD) (w : World) (e : Ending) (w' : World) : Prop :=
  ∃ gs ks gr kr, e = .returned (.agg #[.string x.name, .slice (some ⟨gs, 0, none⟩) x.stops.length ks, .slice (some ⟨gr, 0, none⟩) x.runs.length kr]) ∧ IntsIn w' (Zone.one gs) (some ⟨gs, 0, none⟩) x.stops ∧ IntsIn w' (Zone.one gr) (some ⟨gr, 0, none⟩) x.runs ∧ gs ≠ gr ∧
    (w.heap.size ≤ gs ∧ gs < w'.heap.size) ∧ (w.heap.size ≤ gr ∧ gr < w'.heap.size) ∧ CapOk x.stops.length ks ∧ CapOk x.runs.length kr ∧ Below w.heap.size w w'
theorem OwnE.lower {α : Type} {e : TypeId} {m : Nat} {enc : α → List Value} {w : World} {B B' : Nat} {v : Value} {xs : List α} (h : OwnE e m enc w B v xs) (hB : B' ≤ B) : OwnE e m enc w B' v xs := by
  obtain ⟨h1, h2⟩ := h
  refine ⟨h1, ?_⟩
  rcases h2 with h2 | ⟨g, cap, cur, hv, hg, r⟩
  · exact Or.inl h2
  · exact Or.inr ⟨g, cap, cur, hv, Nat.le_trans hB hg, r⟩
theorem own_one {w : World} {B g cap : Nat} {xs : List Int} (h : OwnI w B (.slice (some ⟨g, 0, none⟩) xs.length cap) xs) (h0 : 0 < xs.length) : IntsIn w (Zone.one g) (some ⟨g, 0, none⟩) xs ∧ B ≤ g ∧ g < w.heap.size ∧ CapOk xs.length cap := by
  obtain ⟨a, h1, h2⟩ := own_onlyC h rfl
  obtain ⟨h3, h4, h5⟩ := h2 h0
  simp [Value.ownBlock] at h5
  subst h5
  obtain ⟨A', c', e, h6, h7, _⟩ := h.ints
  simp only [Value.slice.injEq] at e
  obtain ⟨_, _, rfl⟩ := e
  exact ⟨h1, h3, h4, h6, h7⟩
theorem retLine {x : LineD} {w0 w : World} {gs ks gr kr : Nat} (hs : OwnI w w0.heap.size (.slice (some ⟨gs, 0, none⟩) x.stops.length ks) x.stops) (hr : OwnI w w0.heap.size (.slice (some ⟨gr, 0, none⟩) x.runs.length kr) x.runs) (h1 : 0 < x.stops.length) (h2 : 0 < x.runs.length) (hne : gs ≠ gr) (hb : Below w0.heap.size w0 w) :
    RetLn x w0 (.returned (.agg #[.string x.name, .slice (some ⟨gs, 0, none⟩) x.stops.length ks, .slice (some ⟨gr, 0, none⟩) x.runs.length kr])) w := by
  obtain ⟨a1, a2, a3, a4⟩ := own_one hs h1
  obtain ⟨b1, b2, b3, b4⟩ := own_one hr h2
  exact ⟨gs, ks, gr, kr, rfl, a1, b1, hne, ⟨a2, a3⟩, ⟨b2, b3⟩, a4, b4, hb⟩
set_option maxRecDepth 100000 in
set_option maxHeartbeats 4000000 in
theorem copyLine_any (x : LineD) (bs os cs br or cr : Nat) (w : World) (hS : IntsIn w (Zone.below w.heap.size) (some ⟨bs, os, none⟩) x.stops) (hR : IntsIn w (Zone.below w.heap.size) (some ⟨br, or, none⟩) x.runs) (h1 : 0 < x.stops.length) (h2 : 0 < x.runs.length) (l1 : x.stops.length ≤ 1048576) (l2 : x.runs.length ≤ 1048576) :
    Calls Try.prog 112 #[.agg #[.string x.name, .slice (some ⟨bs, os, none⟩) x.stops.length cs, .slice (some ⟨br, or, none⟩) x.runs.length cr]] w (RetLn x w) := by
  obtain ⟨W0, hW0⟩ : ∃ W0, W0 = ((w.alloc (.cells #[.string x.name, .slice (some ⟨bs, os, none⟩) x.stops.length cs, .slice (some ⟨br, or, none⟩) x.runs.length cr] 113)).alloc (.cells #[.string { data := #[] }, .slice none 0 0, .slice none 0 0] 113)) := ⟨_, rfl⟩
  have hb0 : Below w.heap.size w W0 := by rw [hW0]; go_grown
  have HB0 := Lib.hid hb0
  have HS := Lib.hid (hS.at_below hb0)
  have HR := Lib.hid (hR.at_below hb0)
  have hSL : SLn W0 (w.heap.size + 1) 3 W0 := ⟨Below.refl _ _, by rw [hW0]; simp, fun j => by
    rw [hW0]
    refine ⟨fun hj => ?_, by go_simp⟩
    have : j = 0 ∨ j = 1 ∨ j = 2 := by omega
    rcases this with rfl | rfl | rfl <;> go_simp⟩
  have HC : Hid (W0.cell? ⟨w.heap.size, 0, none⟩ = some (.string x.name) ∧ W0.cell? ⟨w.heap.size, 1, none⟩ = some (.slice (some ⟨bs, os, none⟩) x.stops.length cs) ∧ W0.cell? ⟨w.heap.size, 2, none⟩ = some (.slice (some ⟨br, or, none⟩) x.runs.length cr)) := Lib.hid (by rw [hW0]; exact ⟨by go_simp, by go_simp, by go_simp⟩)
  have hC : ∀ w', SLn W0 (w.heap.size + 1) 3 w' → w'.cell? ⟨w.heap.size, 0, none⟩ = some (.string x.name) ∧ w'.cell? ⟨w.heap.size, 1, none⟩ = some (.slice (some ⟨bs, os, none⟩) x.stops.length cs) ∧ w'.cell? ⟨w.heap.size, 2, none⟩ = some (.slice (some ⟨br, or, none⟩) x.runs.length cr) :=
    fun w' h => ⟨(h.bel.cell (p := ⟨w.heap.size, 0, none⟩) (Nat.lt_succ_self _)).trans HC.out.1, (h.bel.cell (p := ⟨w.heap.size, 1, none⟩) (Nat.lt_succ_self _)).trans HC.out.2.1, (h.bel.cell (p := ⟨w.heap.size, 2, none⟩) (Nat.lt_succ_self _)).trans HC.out.2.2⟩
  have hT : ∀ w', SLn W0 (w.heap.size + 1) 3 w' → (w'.cell? ⟨w.heap.size + 1, 0, none⟩ = some (getC w' (w.heap.size + 1) 0) ∧ w'.frozen? ⟨w.heap.size + 1, 0, none⟩ = false) ∧ (w'.cell? ⟨w.heap.size + 1, 1, none⟩ = some (getC w' (w.heap.size + 1) 1) ∧ w'.frozen? ⟨w.heap.size + 1, 1, none⟩ = false) ∧ (w'.cell? ⟨w.heap.size + 1, 2, none⟩ = some (getC w' (w.heap.size + 1) 2) ∧ w'.frozen? ⟨w.heap.size + 1, 2, none⟩ = false) := fun w' h =>
    ⟨h.has.get (by omega), h.has.get (by omega), h.has.get (by omega)⟩
  have hz0 : w.heap.size ≤ W0.heap.size := hb0.size
  clear hS hR hb0
  go_enter Try.func112, Try.ntmps112
  go_wp2_with fail
  rw [← hW0]
  clear hW0
  go_region_held3 (fun w' => SLn W0 (w.heap.size + 1) 3 w') (repeat' first | assumption | exact Nat.le_refl _ | (refine SLn.drew ?_) | (refine SLn.alloc ?_ _) | (refine SLn.set ?_ ?_ _))
    (first
      | (go_at_call 152; go_loud ((with_reducible refine (cloneI_own bs os cs x.stops _ (SLn.ints ‹SLn W0 (w.heap.size + 1) 3 _› HS.out (Nat.le_succ _)) l1).mono ?_); rintro e w5 ⟨gs, ks, rfl, hos, hb5⟩; have hS5 := SLn.call ‹SLn W0 (w.heap.size + 1) 3 _› hb5; (try have hor2 := OwnE.call hor hb5); (try have hne := hb5)))
      | (go_at_call 152; go_loud ((with_reducible refine (cloneI_own br or cr x.runs _ (SLn.ints ‹SLn W0 (w.heap.size + 1) 3 _› HR.out (Nat.le_succ _)) l2).mono ?_); rintro e w6 ⟨gr, kr, rfl, hor, hb6⟩; have hS6 := SLn.call ‹SLn W0 (w.heap.size + 1) 3 _› hb6; (try have hos2 := OwnE.call hos hb6)))
      | fail)
  all_goals
    have HS6 := Lib.hid hS6
    obtain ⟨⟨t0, f0⟩, ⟨t1, f1⟩, ⟨t2, f2⟩⟩ := hT _ hS6
    have hgs := (World.ownsRow.lt hos) gs rfl
    have hgr := (World.ownsRow.lt hor) gr rfl
    have hz5 : W0.heap.size ≤ w5.heap.size := hb5.size
    have hz6 := hb6.size
    have hW2 : w.heap.size + 1 < W0.heap.size := hSL.has.1
    have hgs0 : W0.heap.size ≤ gs := hgs.1
    have HBx : Hid (Below w.heap.size w w6) := Lib.hid (HB0.out.trans (HS6.out.bel.mono (Nat.le_succ _)))
    have HO1 := Lib.hid (OwnE.lower (B' := w.heap.size) hos2 hz0)
    have HO2 := Lib.hid (OwnE.lower (B' := w.heap.size) hor (by omega))
    clear hC hT hS5 hS6 hos hor hos2 hb5 hb6 hne hSL
    go_wp2_with fail
    refine bodyPost_ret (v := .agg #[.string x.name, .slice (some ⟨gs, 0, none⟩) x.stops.length ks, .slice (some ⟨gr, 0, none⟩) x.runs.length kr]) (by simp [results, Try.results112, go_sem, t0, t1, t2]) rfl ?_
    refine retLine ?_ ?_ h1 h2 (by omega) ?_
    · repeat' (refine OwnE.offC ?_ (by simp [Value.ownBlock]; omega) _)
      exact HO1.out
    · repeat' (refine OwnE.offC ?_ (by simp [Value.ownBlock]; omega) _)
      exact HO2.out
    · repeat' (refine Below.setCell ?_ (by simp) _)
      exact HBx.out
end Go.Proofs.Ytambgommeannnaa
