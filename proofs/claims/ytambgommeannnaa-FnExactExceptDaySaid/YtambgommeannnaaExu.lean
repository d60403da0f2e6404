/- ExceptDay: what it hands back. -/
import Derived.Test.YtambgommeannnaaExd
namespace Go.Proofs.Ytambgommeannnaa
open Go.ChangeShapes Go.WideShapes Go.ChangeAt Go.RowKit Go.PlainAid
set_option linter.unusedVariables false
set_option linter.unusedSimpArgs false

/-- What ExceptDay hands back where it says no. -/
theorem retExN {f t d : Int} {us vs : List Int} {day : Int} {r : Bool} {w0 w : World} (h : exB f t d us vs day r = false) (hb : Below w0.heap.size w0 w) :
    RetCal (exI f t d us vs day r f) (exI f t d us vs day r t) (exI f t d us vs day r d) (exX f t d us vs day r (exU d us day r)) (exX f t d us vs day r (exV d vs day r)) (exB f t d us vs day r) w0 (.returned (.tuple #[.agg #[.int .i64 0, .int .i64 0, .int .i64 0, .slice none 0 0, .slice none 0 0], .bool false])) w := by
  have e1 : ∀ v, exI f t d us vs day r v = 0 := fun v => by unfold exI; rw [h]; rfl
  have e2 : ∀ xs, exX f t d us vs day r xs = [] := fun xs => by unfold exX; rw [h]; rfl
  rw [e1, e1, e1, e2, e2, h]
  exact ⟨none, 0, none, 0, rfl, CalO.nil, hb⟩
theorem retExY {f t d : Int} {us vs : List Int} {day : Int} {r : Bool} {U V : List Int} {lo : Nat} {A R : Option Addr} {ca cr : Nat} {w0 w : World} (h : exB f t d us vs day r = true) (hU : U = exU d us day r) (hV : V = exV d vs day r) (hc : CalO w lo w.heap.size A R U V) (hl : w0.heap.size ≤ lo) (hb : Below w0.heap.size w0 w) :
    RetCal (exI f t d us vs day r f) (exI f t d us vs day r t) (exI f t d us vs day r d) (exX f t d us vs day r (exU d us day r)) (exX f t d us vs day r (exV d vs day r)) (exB f t d us vs day r) w0 (.returned (.tuple #[.agg #[.int .i64 f, .int .i64 t, .int .i64 d, .slice A U.length ca, .slice R V.length cr], .bool true])) w := by
  have e1 : ∀ v, exI f t d us vs day r v = v := fun v => by unfold exI; rw [h]; rfl
  have e2 : ∀ xs, exX f t d us vs day r xs = xs := fun xs => by unfold exX; rw [h]; rfl
  rw [e1, e1, e1, e2, e2, h, ← hU, ← hV]
  exact ⟨A, ca, R, cr, rfl, hc.wide hl (Nat.le_refl _), hb⟩
theorem calO_two {w : World} {lo : Nat} {A R : Option Addr} {U V : List Int} {a b : Nat} (h1 : IntsIn w (Zone.only a) A U) (h2 : IntsIn w (Zone.only b) R V) (ha : 0 < U.length → lo ≤ a ∧ a < w.heap.size) (hb : 0 < V.length → lo ≤ b ∧ b < w.heap.size) (ne : 0 < U.length → 0 < V.length → a ≠ b) : CalO w lo w.heap.size A R U V := ⟨a, b, h1, h2, ha, hb, ne⟩
theorem wo_ne (xs : List Int) (d : Int) : ∀ j, j < (woL xs d).length → nth (woL xs d) j ≠ d := fun j hj e => by
  have h := nth_mem hj
  unfold woL at h
  have h2 := (List.mem_filter.1 h).2
  unfold woL at e
  rw [e] at h2
  simp at h2
theorem ints_blk {w : World} {lo hi b o : Nat} {xs : List Int} (h : IntsIn w (Zone.new lo hi) (some ⟨b, o, none⟩) xs) : IntsIn w (Zone.only b) (some ⟨b, o, none⟩) xs ∧ (0 < xs.length → lo ≤ b ∧ b < hi) := by
  refine ⟨fun hx => ?_, fun hx => ?_⟩
  · obtain ⟨b', o', e, hz, hf, hc⟩ := h hx
    simp only [Option.some.injEq, Addr.mk.injEq, and_true] at e
    obtain ⟨rfl, rfl⟩ := e
    exact ⟨b, o, rfl, ⟨Nat.le_refl _, Nat.lt_succ_self _⟩, hf, hc⟩
  · obtain ⟨b', o', e, hz, _⟩ := h hx
    simp only [Option.some.injEq, Addr.mk.injEq, and_true] at e
    obtain ⟨rfl, rfl⟩ := e
    exact hz
end Go.Proofs.Ytambgommeannnaa
