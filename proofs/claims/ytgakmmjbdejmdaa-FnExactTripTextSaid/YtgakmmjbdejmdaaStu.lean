/- StopTimes: contracts. -/
import Derived.Test.YtgakmmjbdejmdaaStt
namespace Go.Proofs.Ytgakmmjbdejmdaa
open Go.ChangeShapes Go.WideShapes Go.ChangeAt Go.RowKit Go.PlainAid
set_option linter.unusedVariables false
set_option linter.unusedSimpArgs false

/-- The answer of StopTimes. -/
def stB (x : TTD) (id : Int) : Bool := numB (ttB x) (idI x.trips id)
def stI (x : TTD) (id : Int) : List Int := if stB x id = true then pickI (atI x (idI x.trips id).toNat) yesN (lnI x (idI x.trips id).toNat).stops.length else []
theorem stI_no {x : TTD} {id : Int} (h : stB x id = false) : stI x id = [] := by unfold stI; rw [h]; rfl
theorem stI_yes {x : TTD} {id : Int} (h : stB x id = true) : stI x id = pickI (atI x (idI x.trips id).toNat) yesN (lnI x (idI x.trips id).toNat).stops.length := by unfold stI; rw [h]; rfl
theorem stI_len (x : TTD) (id : Int) (hx : FitsT x) : (stI x id).length ≤ 1048576 := by
  cases h : stB x id
  · rw [stI_no h]; simp
  · rw [stI_yes h, all_len]
    have hg : ttB x = true := by cases g : ttB x; · unfold stB numB at h; rw [g] at h; exact absurd h (by simp)
                                 · rfl
    have h0 : ¬ idI x.trips id < 0 := fun hn => by unfold stB at h; rw [(num_no (.inr hn)).2] at h; exact absurd h (by simp)
    have hd := (ti_of hg (k := (idI x.trips id).toNat) (by have := (idI_bd x.trips id).2; omega)).hd.1
    unfold LineHd at hd
    omega
theorem RetI1.out {xs : List Int} {w w0 w' : World} {e : Ending} (h : RetI1 xs w0 e w') (hb : Below w.heap.size w w0) : ∃ A c, e = .returned (.slice A xs.length c) ∧ IntsIn w' (Zone.new w.heap.size w'.heap.size) A xs ∧ Below w.heap.size w w' := by
  obtain ⟨A, c, e, h1, h2⟩ := h
  exact ⟨A, c, e, h1.mono (Zone.new_le hb.size (Nat.le_refl _)), hb.trans (h2.mono hb.size)⟩

end Go.Proofs.Ytgakmmjbdejmdaa
