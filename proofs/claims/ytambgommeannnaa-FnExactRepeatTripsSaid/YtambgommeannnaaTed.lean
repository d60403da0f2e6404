/- Edits of timetables: words for both sides. -/
import Derived.Test.YtambgommeannnaaTte
import Derived.Test.YtambgommeannnaaItu
namespace Go.Proofs.Ytambgommeannnaa
open Go.ChangeShapes Go.WideShapes Go.ChangeAt Go.RowKit Go.PlainAid
set_option linter.unusedVariables false
set_option linter.unusedSimpArgs false

theorem RetTtS.n {x : TTD} {w w' : World} {e : Ending} (h : RetTtS x w e w') : ∃ gs ks g cl p r gt ct, e = .returned (.agg #[.slice (some ⟨gs, 0, none⟩) x.net.stops.length ks, .slice (some ⟨g, 0, none⟩) x.net.lines.length cl, .slice (some ⟨gt, 0, none⟩) x.trips.length ct]) ∧ TtN w' w.heap.size x gs g gt p r ∧ OwnT w' w.heap.size (.slice (some ⟨gt, 0, none⟩) x.trips.length ct) x.trips ∧ Below w.heap.size w w' := by
  obtain ⟨gs, ks, g, cl, p, r, gt, ct, h1, h2, h3, h4, h5, h6⟩ := h
  have hr := h3.row
  exact ⟨gs, ks, g, cl, p, r, gt, ct, h1, ⟨h2, i3_of_row hr.cell hr.free, hr.ge, hr.lt, h4, h5⟩, h3, h6⟩
theorem i3_free {w : World} {b : Nat} {xs : List I3} (h : I3sIn w (Zone.one b) (some ⟨b, 0, none⟩) xs) (h0 : 0 < xs.length) : ∀ j, w.frozen? ⟨b, j, none⟩ = false := by
  obtain ⟨b', o', e, _, hf, _⟩ := h h0
  simp only [Option.some.injEq, Addr.mk.injEq, and_true] at e
  obtain ⟨rfl, _⟩ := e
  exact hf trivial
theorem trip_start {x : TTD} (h : ttB x = true) {k : Nat} (hk : k < x.trips.length) : 0 ≤ (nth3 x.trips k).c ∧ (nth3 x.trips k).c ≤ 1799 := by
  have h1 := (((ttB_ok h).2.2 k hk).1).2.2.2.2.1
  unfold tmB at h1
  simpa using h1
theorem shL_in {w : World} {gt k : Nat} {xs : List I3} {m : Int} (h : I3sIn w (Zone.one gt) (some ⟨gt, 0, none⟩) xs) (hk : k < xs.length) : I3sIn (w.setCell ⟨gt, k * 3 + 2, none⟩ (.int .i64 ((nth3 xs k).c + m))) (Zone.one gt) (some ⟨gt, 0, none⟩) (shL xs k m) := fun _ =>
  ⟨gt, 0, rfl, ⟨Nat.le_refl _, Nat.lt_succ_self _⟩, fun _ j => by rw [World.frozen?_setCell]; exact i3_free h (by omega) j, fun j hj => by
    rw [shL_len] at hj
    obtain ⟨_, d0, d1, d2⟩ := h.addr hj
    obtain ⟨_, _, _, e2⟩ := h.addr hk
    have hs : (shL xs k m).getD j default = if k = j then ⟨(nth3 xs k).a, (nth3 xs k).b, (nth3 xs k).c + m⟩ else nth3 xs j := by
      unfold shL
      rw [List.getD_eq_getElem?_getD, List.getElem?_set]
      by_cases e : k = j
      · subst e; simp [hk]
      · rw [if_neg e, if_neg e]; rfl
    rw [hs]
    have hp : 0 + at3 j = 0 + j * 3 := rfl
    rw [hp]
    by_cases e : k = j
    · subst e
      rw [if_pos rfl]
      refine ⟨?_, ?_, ?_⟩
      · rw [World.cell?_setCell_other _ _ _ _ (addr_ne (by omega))]; exact d0
      · rw [World.cell?_setCell_other _ _ _ _ (addr_ne (by omega))]; exact d1
      · rw [Nat.zero_add] at e2 ⊢
        exact World.cell?_setCell_same _ _ _ e2
    · rw [if_neg e]
      refine ⟨?_, ?_, ?_⟩
      · rw [World.cell?_setCell_other _ _ _ _ (addr_ne (by omega))]; exact d0
      · rw [World.cell?_setCell_other _ _ _ _ (addr_ne (by omega))]; exact d1
      · rw [World.cell?_setCell_other _ _ _ _ (addr_ne (by omega))]; exact d2⟩
theorem set3_in {w : World} {gt k : Nat} {xs : List I3} {t : I3} (h : I3sIn w (Zone.one gt) (some ⟨gt, 0, none⟩) xs) (hk : k < xs.length) : I3sIn (((w.setCell ⟨gt, k * 3, none⟩ (.int .i64 t.a)).setCell ⟨gt, k * 3 + 1, none⟩ (.int .i64 t.b)).setCell ⟨gt, k * 3 + 2, none⟩ (.int .i64 t.c)) (Zone.one gt) (some ⟨gt, 0, none⟩) (xs.set k t) := fun _ =>
  ⟨gt, 0, rfl, ⟨Nat.le_refl _, Nat.lt_succ_self _⟩, fun _ j => by rw [World.frozen?_setCell, World.frozen?_setCell, World.frozen?_setCell]; exact i3_free h (by omega) j, fun j hj => by
    rw [List.length_set] at hj
    obtain ⟨_, d0, d1, d2⟩ := h.addr hj
    obtain ⟨_, e0, e1, e2⟩ := h.addr hk
    have hs : (xs.set k t).getD j default = if k = j then t else nth3 xs j := by
      rw [List.getD_eq_getElem?_getD, List.getElem?_set]
      by_cases e : k = j
      · subst e; simp [hk]
      · rw [if_neg e, if_neg e]; rfl
    rw [hs]
    have hp : 0 + at3 j = 0 + j * 3 := rfl
    rw [hp]
    by_cases e : k = j
    · subst e
      rw [if_pos rfl]
      rw [Nat.zero_add] at e0 e1 e2 ⊢
      have e1' : (w.setCell ⟨gt, k * 3, none⟩ (.int .i64 t.a)).cell? ⟨gt, k * 3 + 1, none⟩ = some (.int .i64 (nth3 xs k).b) := by rw [World.cell?_setCell_other _ _ _ _ (addr_ne (by omega))]; exact e1
      have e2' : ((w.setCell ⟨gt, k * 3, none⟩ (.int .i64 t.a)).setCell ⟨gt, k * 3 + 1, none⟩ (.int .i64 t.b)).cell? ⟨gt, k * 3 + 2, none⟩ = some (.int .i64 (nth3 xs k).c) := by rw [World.cell?_setCell_other _ _ _ _ (addr_ne (by omega)), World.cell?_setCell_other _ _ _ _ (addr_ne (by omega))]; exact e2
      refine ⟨?_, ?_, ?_⟩
      · rw [World.cell?_setCell_other _ _ _ _ (addr_ne (by omega)), World.cell?_setCell_other _ _ _ _ (addr_ne (by omega))]
        exact World.cell?_setCell_same _ _ _ e0
      · rw [World.cell?_setCell_other _ _ _ _ (addr_ne (by omega))]
        exact World.cell?_setCell_same _ _ _ e1'
      · exact World.cell?_setCell_same _ _ _ e2'
    · rw [if_neg e]
      refine ⟨?_, ?_, ?_⟩
      all_goals
        rw [World.cell?_setCell_other _ _ _ _ (addr_ne (by omega)), World.cell?_setCell_other _ _ _ _ (addr_ne (by omega)), World.cell?_setCell_other _ _ _ _ (addr_ne (by omega))]
        assumption⟩
/-- A timetable that a call makes: its own. -/
def RetTtN (x : TTD) (w : World) (e : Ending) (w' : World) : Prop :=
  ∃ gs ks g cl p r gt ct, e = .returned (.agg #[.slice (some ⟨gs, 0, none⟩) x.net.stops.length ks, .slice (some ⟨g, 0, none⟩) x.net.lines.length cl, .slice (some ⟨gt, 0, none⟩) x.trips.length ct]) ∧ TtN w' w.heap.size x gs g gt p r ∧ Below w.heap.size w w'
theorem TW.has {w wr : World} {x : TTD} {A L T : Option Addr} {ca cl ct : Nat} (h : TW w wr x A ca L cl T ct) : HasC wr (w.heap.size + 1) 3 :=
  ⟨h.lt, fun j => ⟨fun hj => by
    have : j = 0 ∨ j = 1 ∨ j = 2 := by omega
    rcases this with rfl | rfl | rfl
    · rw [h.res.1]; rfl
    · rw [h.res.2.1]; rfl
    · rw [h.res.2.2]; rfl, h.free j⟩⟩
/-- A block behind a timetable is none of its blocks. -/
theorem TtN.offEnd {w : World} {lo : Nat} {x : TTD} {gs g gt : Nat} {p r : Nat → Nat} (h : TtN w lo x gs g gt p r) : w.heap.size ≠ gs ∧ Off g x.net.lines.length p r w.heap.size ∧ w.heap.size ≠ gt :=
  ⟨by have := h.net.s1; omega, Off.of h.net.apart (.inr (Nat.le_refl _)), by have := h.gt1; omega⟩
theorem i3_take {w : World} {b o : Nat} {xs : List I3} (h : ∀ j u, (xs.flatMap encI3)[j]? = some u → w.cell? ⟨b, o + j, none⟩ = some u) (i : Nat) : ∀ j u, ((xs.take i).flatMap encI3)[j]? = some u → w.cell? ⟨b, o + j, none⟩ = some u := fun j u hj => by
  rw [flat3_take, List.getElem?_take] at hj
  split at hj
  · exact h j u hj
  · cases hj
theorem i3_drop {w : World} {b o o2 : Nat} {xs : List I3} (h : ∀ j u, (xs.flatMap encI3)[j]? = some u → w.cell? ⟨b, o + j, none⟩ = some u) (i : Nat) (ho : i < xs.length → o2 = o + i * 3) : ∀ j u, ((xs.drop i).flatMap encI3)[j]? = some u → w.cell? ⟨b, o2 + j, none⟩ = some u := fun j u hj => by
  by_cases hi : i < xs.length
  · rw [flat3_drop, List.getElem?_drop] at hj
    rw [ho hi, Nat.add_assoc]
    exact h _ _ hj
  · rw [List.drop_eq_nil_of_le (by omega)] at hj
    simp at hj
/-- The same, and its trips' room. -/
def RetTtC (x : TTD) (w : World) (e : Ending) (w' : World) : Prop :=
  ∃ gs ks g cl p r gt ct, e = .returned (.agg #[.slice (some ⟨gs, 0, none⟩) x.net.stops.length ks, .slice (some ⟨g, 0, none⟩) x.net.lines.length cl, .slice (some ⟨gt, 0, none⟩) x.trips.length ct]) ∧ x.trips.length ≤ ct ∧ TtN w' w.heap.size x gs g gt p r ∧ Below w.heap.size w w'
end Go.Proofs.Ytambgommeannnaa
