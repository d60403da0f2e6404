/- A slice of integers that came in as an argument. -/
import Derived.Test.YtambgommeannnaaOpenG
import Derived.Test.YtambgommeannnaaFiu
import Derived.OpenShut
namespace Go.Proofs.Ytambgommeannnaa
open Go.ChangeShapes Go.WideShapes Go.ChangeAt Go.RowKit Go.PlainAid
set_option linter.unusedVariables false

def LInts (W : World) (v : Value) (xs : List Int) : Prop := ∃ A c, v = .slice A xs.length c ∧ IntsIn W (Zone.below W.heap.size) A xs ∧ xs.length ≤ 9223372036854775807
set_option maxRecDepth 100000 in
theorem open_lints {H : Type} {enc : TypeId × Value → H} {W : World} {base : Nat} {v : Value} {d : DataW H} {p : List MemPlace} (hv : Value.okWide Try.prog W .any base 22 v)
    (h : DataW.Trod enc Try.prog W 0 (fun _ => true) true 22 v d p) : ∃ xs, LInts W v xs := by
  obtain ⟨a0, len, cap, rfl⟩ := okWide_slice Try.underlying22 hv
  obtain ⟨m, hm⟩ := h
  obtain ⟨A, xs, c, e, hA, hl, _⟩ := ints_open Try.underlying22 Try.underlying3 (by kernel_rfl) hm
  have e' : Value.slice a0 len cap = .slice A xs.length c := by simpa [Value.cells] using e
  exact ⟨xs, A, c, e', IntsAt.in hA, hl⟩
end Go.Proofs.Ytambgommeannnaa
