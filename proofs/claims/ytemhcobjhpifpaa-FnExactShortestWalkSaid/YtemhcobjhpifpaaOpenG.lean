/- How an argument that came in is opened: lists of integers. -/
import Derived.Test.YtemhcobjhpifpaaInA
import Derived.ProofKit
import Derived.Deep.Fields
import Derived.Lib.SmallJoins
namespace Go.Proofs.Ytemhcobjhpifpaa
open Go.ChangeShapes Go.WideShapes Go.ChangeAt Go.RowKit Go.Deep
set_option linter.unusedVariables false

section
variable {H : Type} {enc : TypeId × Value → H} {P : Program} {W : World} {base : Nat} {sp : Nat → Bool} {held : Bool}

theorem add_none {a : Addr} {i : Nat} (hs : a.spot = none) : a.add i = ⟨a.block, a.off + i, none⟩ := by
  obtain ⟨b, o, s⟩ := a
  simp at hs
  subst hs
  unfold Addr.add
  split <;> simp_all

theorem ints_open {t e : TypeId} {fuel : Nat} {cs : List Value} {x : DataW H × List MemPlace} (ht : P.underlying t = some (.slice e)) (he : P.underlying e = some (.int .i64)) (hc : P.cellsOf e = 1)
    (h : DataW.trod enc P W base sp held fuel t cs = some x) :
    ∃ A xs cap, cs = [.slice A (List.length xs) cap] ∧ IntsAt W W.heap.size A xs ∧ xs.length ≤ 9223372036854775807 ∧ xs.length ≤ cap ∧ cap ≤ 9223372036854775807 := by
  rcases open_ints ht he hc h with ⟨hcs, _⟩ | ⟨a, len, cap, zs, hcs, _, hl, hm, hz, _, hcell, _⟩
  · exact ⟨none, [], 0, hcs, fun h => absurd h (by simp), by simp, by simp, by simp⟩
  · have hle : len ≤ zs.length := by rw [hz]; split <;> omega
    have hlen : (zs.take len).length = len := by rw [List.length_take]; omega
    unfold maxLen at hm
    refine ⟨some a, zs.take len, cap, by rw [hlen]; exact hcs, fun h => ?_, by omega, by omega, by omega⟩
    rw [hlen] at h
    have h0 := hcell 0 (by omega)
    have hs : a.spot = none := by
      have := World.cell?_spot h0
      have e0 : a.add 0 = a := by unfold Addr.add; rw [if_pos rfl]
      rwa [e0] at this
    refine ⟨a.block, a.off, by rw [← hs], ?_, fun j hj => ?_⟩
    · have e0 : a.add 0 = a := by unfold Addr.add; rw [if_pos rfl]
      rw [e0] at h0
      exact World.block_lt_of_cell? _ _ h0
    · rw [hlen] at hj
      have := hcell j (by omega)
      rw [add_none hs] at this
      rw [this]
      unfold nth
      congr 2
      rw [List.getD_eq_getElem?_getD, List.getD_eq_getElem?_getD, List.getElem?_take, if_pos hj]
end
end Go.Proofs.Ytemhcobjhpifpaa
