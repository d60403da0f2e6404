/- Arrays of the call's own whose numbers are a list. -/
import Derived.Test.YtemhcobjhpifpaaArr
import Derived.Test.YtemhcobjhpifpaaApp
import Derived.Test.YtemhcobjhpifpaaLst
namespace Go.Proofs.Ytemhcobjhpifpaa
open Go.ChangeShapes Go.WideShapes Go.ChangeAt Go.RowKit Go.PlainAid
set_option linter.unusedVariables false

theorem ArrI.put {w : World} {g n : Nat} {o : List Int} (h : ArrI w g n (nth o)) (hl : o.length = n) {i : Nat} (hi : i < n) (v : Int) : ArrI (w.setCell ⟨g, i, none⟩ (.int .i64 v)) g n (nth (o.set i v)) :=
  (h.set hi v).congr fun j hj => by
    by_cases e : j = i
    · subst e; simp only [if_true]; rw [nth_set_same _ (by omega)]
    · simp only [if_neg e]; rw [nth_set_ne _ (fun g => e g.symm)]
/-- What has been appended to, as an array. -/
theorem OwnE.arr {w : World} {B : Nat} {v : Value} {xs : List Int} (h : OwnI w B v xs) (h0 : 0 < xs.length) : ∃ g c, v = .slice (some ⟨g, 0, none⟩) xs.length c ∧ ArrI w g xs.length (nth xs) ∧ B ≤ g ∧ xs.length ≤ c ∧ c ≤ 9223372036854775807 := by
  have h1 := h
  obtain ⟨A, c, rfl, hc, hm, hi⟩ := OwnE.ints h
  obtain ⟨b, o, rfl, hz, hf, hcell⟩ := hi h0
  obtain ⟨_, h2⟩ := h1
  rcases h2 with ⟨e, _⟩ | ⟨g, cap, cur, e, hg, hh, _⟩
  · cases e
  · injection e with e1 e2 e3
    injection e1 with e1
    injection e1 with e1 e4
    subst e1 e4 e3
    exact ⟨b, c, rfl, ⟨fun j hj => by have := hcell j hj; rw [Nat.zero_add] at this; exact this, fun j => hf trivial j, (Array.getElem?_eq_some_iff.1 hh).1⟩, hg, hc, hm⟩
theorem nth_replicate {n t : Nat} (v : Int) (h : t < n) : nth (List.replicate n v) t = v := by
  unfold nth
  rw [List.getD_eq_getElem?_getD, List.getElem?_replicate, if_pos h]
  rfl
end Go.Proofs.Ytemhcobjhpifpaa
