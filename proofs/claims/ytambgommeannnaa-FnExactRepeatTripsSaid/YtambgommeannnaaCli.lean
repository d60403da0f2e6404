/- Clones of integers. -/
import Derived.Test.YtambgommeannnaaPut
import Derived.Test.YtambgommeannnaaKpt
import Derived.Test.YtambgommeannnaaNwa
import Derived.Test.YtambgommeannnaaShelf
import Derived.Shelf.SlicesE.Clone
namespace Go.Proofs.Ytambgommeannnaa
open Go.ChangeShapes Go.WideShapes Go.ChangeAt Go.RowKit Go.PlainAid
set_option linter.unusedVariables false
set_option linter.unusedSimpArgs false

theorem OwnE.offC {w : World} {B : Nat} {α : Type} {e : TypeId} {m : Nat} {enc : α → List Value} {v : Value} {xs : List α} (h : OwnE e m enc w B v xs) {p : Addr} (hp : v.ownBlock ≠ some p.block) (u : Value) : OwnE e m enc (w.setCell p u) B v xs :=
  h.kept fun X hX => Below.heap_setCell _ _ _ _ (fun e => hp (by rw [← e]; exact hX))
theorem frozen_freshC (w : World) (c : Array Value) (t : TypeId) (j : Nat) : (w.alloc (.cells c t)).frozen? ⟨w.heap.size, j, none⟩ = false := by
  unfold World.frozen?
  rw [show (w.alloc (.cells c t)).heap = w.heap.push (.cells c t) from rfl]
  simp
theorem own_onlyC {w : World} {B : Nat} {v : Value} {xs : List Int} {A : Option Addr} {c : Nat} (h : OwnI w B v xs) (e : v = .slice A xs.length c) : ∃ a, IntsIn w (Zone.one a) A xs ∧ (0 < xs.length → B ≤ a ∧ a < w.heap.size ∧ v.ownBlock = some a) := by
  by_cases h0 : 0 < xs.length
  · obtain ⟨A', c', e', _, _, hi⟩ := h.ints
    obtain ⟨b, o, e2, hz, hf, hc⟩ := hi h0
    have hAA : A = A' := by rw [e] at e'; simp at e'; exact e'.1
    subst hAA
    refine ⟨b, fun _ => ⟨b, o, e2, ⟨Nat.le_refl _, Nat.lt_succ_self _⟩, hf, hc⟩, fun _ => ⟨hz.1, hz.2, by rw [e, e2]; rfl⟩⟩
  · exact ⟨0, fun h => absurd h h0, fun h => absurd h h0⟩
theorem cloneI_own (b o c : Nat) (xs : List Int) (w : World) (h : IntsIn w (Zone.below w.heap.size) (some ⟨b, o, none⟩) xs) (hn : xs.length ≤ 1048576) :
    Calls Try.prog 152 #[.slice (some ⟨b, o, none⟩) xs.length c] w fun e w' => ∃ g cap, e = .returned (.slice (some ⟨g, 0, none⟩) xs.length cap) ∧ OwnI w' w.heap.size (.slice (some ⟨g, 0, none⟩) xs.length cap) xs ∧ Below w.heap.size w w' := by
  obtain ⟨i0, hi, hz0, hz1, hz2⟩ := info_parts Try.infoI
  have hc := AnyE.slices_Clone Try.laysCloneInt i0 _ 1 8 hi hz0 hz1 hz2 rfl (by omega) Try.sizeOf3 b o xs.length c (xs.flatMap encI) w (by rw [flat_int_len, Nat.mul_one]) (by unfold maxLen; omega) (by omega)
    (fun j u hj => by
      obtain ⟨hl, rfl⟩ := flat_int _ _ _ hj
      obtain ⟨b', o', e, _, _, hc⟩ := h (by omega)
      simp only [Option.some.injEq, Addr.mk.injEq, and_true] at e
      obtain ⟨rfl, rfl⟩ := e
      exact hc j hl)
    (fun u hu => by
      obtain ⟨y, _, hy⟩ := List.mem_flatMap.1 hu
      simp [encI] at hy
      subst hy
      rfl)
  change Calls Try.prog 152 _ _ _ at hc
  refine hc.mono ?_
  rintro e w' ⟨v, rfl, ho, hne, hb⟩
  have ho' := ho
  obtain ⟨_, hq | ⟨g, cap, cur, hv, _⟩⟩ := ho'
  · exact absurd hq.1 hne
  · subst hv
    exact ⟨g, cap, rfl, ho, hb⟩
end Go.Proofs.Ytambgommeannnaa
