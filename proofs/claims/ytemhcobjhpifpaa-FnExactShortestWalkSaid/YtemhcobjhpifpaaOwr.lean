/- The last element of a slice of the call's own. -/
import Derived.Test.YtemhcobjhpifpaaApp
import Derived.Laws.OwnMore
namespace Go.Proofs.Ytemhcobjhpifpaa
open Go.ChangeShapes Go.WideShapes Go.ChangeAt Go.RowKit Go.PlainAid
set_option linter.unusedVariables false

theorem flat_len {α : Type} {m : Nat} {enc : α → List Value} (hm : ∀ y, (enc y).length = m) : ∀ xs : List α, (xs.flatMap enc).length = xs.length * m := by
  intro xs
  induction xs with
  | nil => simp
  | cons x r ih => rw [List.flatMap_cons, List.length_append, hm, ih, List.length_cons, Nat.succ_mul]; omega
theorem OwnE.last {α : Type} [Inhabited α] {e : TypeId} {m : Nat} {enc : α → List Value} {w : World} {B : Nat} {v : Value} {ys : List α} {s : α} (h : OwnE e m enc w B v (ys ++ [s])) (hm : ∀ y, (enc y).length = m) :
    ∃ g cap, v = .slice (some ⟨g, 0, none⟩) (ys.length + 1) cap ∧ B ≤ g ∧ g < w.heap.size ∧ ys.length + 1 ≤ cap ∧ cap ≤ 9223372036854775807 ∧ (∀ j, w.frozen? ⟨g, j, none⟩ = false) ∧ (∀ i, i < m → w.cell? ⟨g, ys.length * m + i, none⟩ = (enc s)[i]?) ∧
      ∀ i u s', enc s' = (enc s).set i u → OwnE e m enc (w.setCell ⟨g, ys.length * m + i, none⟩ u) B v (ys ++ [s']) := by
  have hlen : (ys ++ [s]).length = ys.length + 1 := by simp
  have h' : w.ownsRow B e m v (ys.length + 1) ((ys ++ [s]).flatMap enc) := by
    have := h
    unfold OwnE at this
    rw [hlen] at this
    exact this
  have hlt := World.ownsRow.lt h'
  rcases h'.2 with ⟨_, h3⟩ | ⟨g, cap, cur, rfl, hB, hh, hc1, hc2, hc3, hc4⟩
  · omega
  · refine ⟨g, cap, rfl, hB, (hlt g rfl).2, hc1, by unfold maxLen at hc2; exact hc2, fun j => World.ownsRow.frozenAt h' j, fun i hi => ?_, fun i u s' he => ?_⟩
    · have hj : ys.length * m + i < (ys.length + 1) * m := by rw [Nat.succ_mul]; omega
      rw [World.ownsRow.cellAt h' _ hj, flat_get hm (ys ++ [s]) ys.length i (by rw [hlen]; omega) hi]
      simp [List.getD_eq_getElem?_getD]
    · have hst := (World.ownsRow.stored h' (ys.length * m + i) u).1
      have e2 : ((ys ++ [s]).flatMap enc).set (ys.length * m + i) u = (ys ++ [s']).flatMap enc := by
        rw [List.flatMap_append, List.flatMap_append, List.set_append_right _ _ (by rw [flat_len hm]; omega), flat_len hm]
        have e3 : ys.length * m + i - ys.length * m = i := by omega
        rw [e3]
        simp only [List.flatMap_cons, List.flatMap_nil, List.append_nil]
        rw [he]
      rw [e2] at hst
      have hlen' : (ys ++ [s']).length = ys.length + 1 := by simp
      unfold OwnE
      rw [hlen']
      exact hst
theorem OwnE.put {α : Type} [Inhabited α] {e : TypeId} {m : Nat} {enc : α → List Value} {w : World} {B g k n cap : Nat} {ys : List α} {s : α} (h : OwnE e m enc w B (.slice (some ⟨g, 0, none⟩) n cap) (ys ++ [s])) (hm : ∀ y, (enc y).length = m)
    (i : Nat) (u : Value) (s' : α) (he : enc s' = (enc s).set i u) (hk : k = ys.length) : OwnE e m enc (w.setCell ⟨g, k * m + i, none⟩ u) B (.slice (some ⟨g, 0, none⟩) n cap) (ys ++ [s']) := by
  obtain ⟨g', cap', e', _, _, _, _, _, _, hset⟩ := h.last hm
  simp only [Value.slice.injEq, Option.some.injEq, Addr.mk.injEq, and_true] at e'
  obtain ⟨rfl, rfl, rfl⟩ := e'
  subst hk
  exact hset i u s' he
end Go.Proofs.Ytemhcobjhpifpaa
