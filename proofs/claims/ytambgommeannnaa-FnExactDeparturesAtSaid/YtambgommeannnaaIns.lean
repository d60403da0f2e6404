/- Insertion at the place from behind: plain. -/
import Derived.Test.YtambgommeannnaaMem
namespace Go.Proofs.Ytambgommeannnaa
set_option linter.unusedVariables false
section
variable {α : Type} [Inhabited α]
/-- Where v goes among the first m, seen from behind. -/
def posG (gt : α → α → Bool) (xs : List α) (v : α) : Nat → Nat
  | 0 => 0
  | m + 1 => if gt (xs.getD m default) v = true then posG gt xs v m else m + 1
theorem posG_yes {gt : α → α → Bool} {xs : List α} {v : α} {m : Nat} (h : gt (xs.getD m default) v = true) : posG gt xs v (m + 1) = posG gt xs v m := by rw [posG, if_pos h]
theorem posG_no {gt : α → α → Bool} {xs : List α} {v : α} {m : Nat} (h : gt (xs.getD m default) v = false) : posG gt xs v (m + 1) = m + 1 := by rw [posG, h]; rfl
theorem posG_le (gt : α → α → Bool) (xs : List α) (v : α) (m : Nat) : posG gt xs v m ≤ m := by
  induction m with
  | zero => exact Nat.le_refl _
  | succ m ih => rw [posG]; split <;> omega
theorem posG_after (gt : α → α → Bool) (xs : List α) (v : α) (m : Nat) : ∀ j, posG gt xs v m ≤ j → j < m → gt (xs.getD j default) v = true := by
  induction m with
  | zero => intro j _ h; omega
  | succ m ih =>
    intro j h1 h2
    by_cases hg : gt (xs.getD m default) v = true
    · rw [posG_yes hg] at h1
      by_cases e : j = m
      · subst e; exact hg
      · exact ih j h1 (by omega)
    · rw [posG_no (by simpa using hg)] at h1
      omega
theorem posG_before (gt : α → α → Bool) (xs : List α) (v : α) (m : Nat) : 0 < posG gt xs v m → gt (xs.getD (posG gt xs v m - 1) default) v = false := by
  induction m with
  | zero => intro h; simp [posG] at h
  | succ m ih =>
    intro h
    by_cases hg : gt (xs.getD m default) v = true
    · rw [posG_yes hg] at h ⊢
      exact ih h
    · have hg' : gt (xs.getD m default) v = false := by simpa using hg
      rw [posG_no hg']
      exact hg'
/-- v at its place. -/
def insG (gt : α → α → Bool) (xs : List α) (v : α) : List α := xs.take (posG gt xs v xs.length) ++ [v] ++ xs.drop (posG gt xs v xs.length)
theorem insG_len (gt : α → α → Bool) (xs : List α) (v : α) : (insG gt xs v).length = xs.length + 1 := by
  have := posG_le gt xs v xs.length
  simp [insG]
  omega
theorem insG_perm (gt : α → α → Bool) (xs : List α) (v : α) : (insG gt xs v).Perm (v :: xs) := by
  unfold insG
  have h1 : (xs.take (posG gt xs v xs.length) ++ [v]).Perm ([v] ++ xs.take (posG gt xs v xs.length)) := List.perm_append_comm
  have h2 := h1.append_right (xs.drop (posG gt xs v xs.length))
  refine h2.trans ?_
  rw [List.append_assoc, List.take_append_drop]
  exact List.Perm.refl _
theorem getD_mem {xs : List α} {k : Nat} (h : k < xs.length) : xs.getD k default ∈ xs := by
  rw [List.getD_eq_getElem?_getD, List.getElem?_eq_getElem h]
  exact List.getElem_mem h
theorem mem_getD {xs : List α} {x : α} (h : x ∈ xs) : ∃ k, k < xs.length ∧ xs.getD k default = x := by
  obtain ⟨k, hk, e⟩ := List.getElem_of_mem h
  refine ⟨k, hk, ?_⟩
  rw [List.getD_eq_getElem?_getD, List.getElem?_eq_getElem hk]
  exact e
theorem insG_sorted {gt : α → α → Bool} {le : α → α → Prop} (h1 : ∀ a b, gt a b = true → le b a) (h2 : ∀ a b, gt a b = false → le a b) (ht : ∀ a b c, le a b → le b c → le a c) {xs : List α} (v : α) (h : xs.Pairwise le) : (insG gt xs v).Pairwise le := by
  have hp := posG_le gt xs v xs.length
  have hat : ∀ i j, i < j → j < xs.length → le (xs.getD i default) (xs.getD j default) := fun i j hij hj => by
    have := List.pairwise_iff_getElem.1 h i j (by omega) hj hij
    rw [List.getD_eq_getElem?_getD, List.getElem?_eq_getElem (by omega), List.getD_eq_getElem?_getD, List.getElem?_eq_getElem hj]
    exact this
  have hbe : ∀ a, a ∈ xs.take (posG gt xs v xs.length) → le a v := fun a ha => by
    obtain ⟨i, hi, e⟩ := List.getElem_of_mem ha
    rw [List.length_take] at hi
    have hi2 : i < posG gt xs v xs.length := by omega
    have e2 : a = xs.getD i default := by
      rw [← e, List.getElem_take, List.getD_eq_getElem?_getD, List.getElem?_eq_getElem (by omega)]
      rfl
    have hb := h2 _ _ (posG_before gt xs v xs.length (by omega))
    by_cases e3 : i = posG gt xs v xs.length - 1
    · rw [e2, e3]; exact hb
    · rw [e2]; exact ht _ _ _ (hat i _ (by omega) (by omega)) hb
  have haf : ∀ a, a ∈ xs.drop (posG gt xs v xs.length) → le v a := fun a ha => by
    obtain ⟨i, hi, e⟩ := List.getElem_of_mem ha
    rw [List.length_drop] at hi
    have e2 : a = xs.getD (posG gt xs v xs.length + i) default := by
      rw [← e, List.getElem_drop, List.getD_eq_getElem?_getD, List.getElem?_eq_getElem (by omega)]
      rfl
    rw [e2]
    exact h1 _ _ (posG_after gt xs v xs.length _ (by omega) (by omega))
  unfold insG
  rw [List.pairwise_append, List.pairwise_append]
  have hsplit : (xs.take (posG gt xs v xs.length) ++ xs.drop (posG gt xs v xs.length)).Pairwise le := by rw [List.take_append_drop]; exact h
  obtain ⟨p1, p2, p3⟩ := List.pairwise_append.1 hsplit
  refine ⟨⟨p1, List.pairwise_singleton _ _, fun a ha b hb => ?_⟩, p2, fun a ha b hb => ?_⟩
  · simp at hb; subst hb; exact hbe a ha
  · rcases List.mem_append.1 ha with ha | ha
    · exact p3 a ha b hb
    · simp at ha; subst ha; exact haf b hb
/-- Insertion and a map that keeps the order. -/
theorem posG_map {β : Type} [Inhabited β] {gt : α → α → Bool} {gt' : β → β → Bool} {f : α → β} (hf : ∀ a b, gt a b = gt' (f a) (f b)) (xs : List α) (v : α) : ∀ m, m ≤ xs.length → posG gt xs v m = posG gt' (xs.map f) (f v) m := by
  intro m
  induction m with
  | zero => intro _; rfl
  | succ m ih =>
    intro hm
    have e : (xs.map f).getD m default = f (xs.getD m default) := by
      rw [List.getD_eq_getElem?_getD, List.getElem?_map, List.getElem?_eq_getElem (by omega), List.getD_eq_getElem?_getD, List.getElem?_eq_getElem (by omega)]
      rfl
    rw [posG, posG, e, ← hf, ih (by omega)]
theorem insG_map {β : Type} [Inhabited β] {gt : α → α → Bool} {gt' : β → β → Bool} {f : α → β} (hf : ∀ a b, gt a b = gt' (f a) (f b)) (xs : List α) (v : α) : (insG gt xs v).map f = insG gt' (xs.map f) (f v) := by
  unfold insG
  rw [posG_map hf xs v _ (Nat.le_refl _), List.map_append, List.map_append, List.map_take, List.map_drop, List.length_map]
  rfl
end
end Go.Proofs.Ytambgommeannnaa
