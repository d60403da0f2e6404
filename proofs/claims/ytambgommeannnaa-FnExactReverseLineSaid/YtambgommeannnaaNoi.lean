/- slices.Reverse of integers in a block of the call's own. -/
import Derived.Test.YtambgommeannnaaNoh
import Derived.Shelf.SlicesE.Reverse
import Derived.Test.YtambgommeannnaaShelh
namespace Go.Proofs.Ytambgommeannnaa
open Go.ChangeShapes Go.WideShapes Go.ChangeAt Go.RowKit Go.PlainAid
set_option linter.unusedVariables false
set_option linter.unusedSimpArgs false

theorem getBangI {α : Type} [Inhabited α] {xs : List α} {i : Nat} (h : i < xs.length) : xs.toArray[i]! = xs.getD i default := by
  rw [getElem!_pos xs.toArray i (by simpa using h), List.getElem_toArray, List.getD_eq_getElem?_getD, List.getElem?_eq_getElem h]
  rfl
theorem holds_ints {w : World} {g : Nat} {xs : List Int} (h : IntsIn w (Zone.one g) (some ⟨g, 0, none⟩) xs) (h0 : 0 < xs.length) : Go.Sort.Holds (Value.int .i64) w g 0 xs.toArray := fun j hj => by
  obtain ⟨b, o, e, hz, hf, hc⟩ := h h0
  simp only [Option.some.injEq, Addr.mk.injEq, and_true] at e
  obtain ⟨rfl, rfl⟩ := e
  have hj' : j < xs.length := by simpa using hj
  refine ⟨(hc j hj').trans ?_, hf trivial _⟩
  rw [show (xs.toArray)[j]! = xs.getD j default by rw [← getBangI hj']]
theorem reverseI_any (g cap : Nat) (xs : List Int) (w : World) (h : IntsIn w (Zone.one g) (some ⟨g, 0, none⟩) xs) (h0 : 0 < xs.length) (hn : xs.length ≤ 1048576) (hg : g < w.heap.size) :
    Calls Try.prog 113 #[.slice (some ⟨g, 0, none⟩) xs.length cap] w fun e w' => e = .returned (.tuple #[]) ∧ IntsIn w' (Zone.one g) (some ⟨g, 0, none⟩) xs.reverse ∧ (∀ X, X ≠ g → w'.heap[X]? = w.heap[X]?) ∧ w'.heap.size = w.heap.size ∧ Below g w w' := by
  have hH := holds_ints h h0
  have hc := AnyE.slices_Reverse Try.laysReverseIntE (Value.int .i64) (fun _ => rfl) g 0 cap xs w hH (by omega)
  change Calls Try.prog 113 _ _ _ at hc
  refine hc.mono ?_
  rintro e w' ⟨rfl, n, rfl⟩
  have hb : ∀ X, X ≠ g → (Go.Sort.putRow (Value.int .i64) (Go.Sort.ahead w n) g 0 xs.reverse.toArray).heap[X]? = w.heap[X]? := fun X hX => by
    unfold Go.Sort.putRow Go.Sort.mapBlock
    simp only [Array.getElem?_modify]
    rw [if_neg (fun e => hX e.symm)]
    rfl
  have hs : (Go.Sort.putRow (Value.int .i64) (Go.Sort.ahead w n) g 0 xs.reverse.toArray).heap.size = w.heap.size := by
    unfold Go.Sort.putRow Go.Sort.mapBlock
    simp [Go.Sort.ahead]
  refine ⟨rfl, fun _ => ⟨g, 0, rfl, ⟨Nat.le_refl _, Nat.lt_succ_self _⟩, fun _ j => ?_, fun j hj => ?_⟩, hb, hs, ⟨rfl, rfl, rfl, by rw [hs]; exact Nat.le_refl _, fun j hj => hb j (by omega)⟩⟩
  · obtain ⟨b, o, e, hz, hf, _⟩ := h h0
    simp only [Option.some.injEq, Addr.mk.injEq, and_true] at e
    obtain ⟨rfl, rfl⟩ := e
    rw [Go.Sort.frozen?_putRow, Go.Sort.frozen?_ahead]
    exact hf trivial _
  · have hj' : j < xs.reverse.toArray.size := by simpa using hj
    have := Go.Sort.cell?_putRow (Value.int .i64) (Go.Sort.ahead w n) g 0 xs.toArray xs.reverse.toArray (Go.Sort.holds_ahead _ _ _ _ _ _ hH) (by simp) j hj'
    refine this.trans ?_
    rw [show (xs.reverse.toArray)[j]! = xs.reverse.getD j default by rw [← getBangI (by simpa using hj)]]
end Go.Proofs.Ytambgommeannnaa
