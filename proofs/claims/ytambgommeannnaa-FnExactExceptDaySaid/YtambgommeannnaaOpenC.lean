/- How an argument that came in is opened: a calendar. -/
import Derived.Test.YtambgommeannnaaCalM
import Derived.Test.YtambgommeannnaaOpenG
namespace Go.Proofs.Ytambgommeannnaa
open Go.ChangeShapes Go.WideShapes Go.ChangeAt Go.RowKit Go.Deep
set_option linter.unusedVariables false

section
variable {H : Type} {enc : TypeId × Value → H} {P : Program} {W : World} {base : Nat} {sp : Nat → Bool} {held : Bool}

theorem open5 {r : Reach} {b0 : Nat} {t : TypeId} {f0 f1 f2 f3 f4 : Field} {v : Value} {d : DataW H} {p : List MemPlace} (hs : P.underlying t = some (.struct #[f0, f1, f2, f3, f4])) (hone : oneCellFields P #[f0, f1, f2, f3, f4] = true) (hC : P.cellsOf t = 5)
    (hv : Value.okWide P W r b0 t v) (h : DataW.Trod enc P W base sp held t v d p) :
    ∃ v0 v1 v2 v3 v4 n, v = .agg #[v0, v1, v2, v3, v4] ∧ (∃ y, DataW.trod enc P W base sp held n f0.type [v0] = some y) ∧ (∃ y, DataW.trod enc P W base sp held n f1.type [v1] = some y) ∧
      (∃ y, DataW.trod enc P W base sp held n f2.type [v2] = some y) ∧ (∃ y, DataW.trod enc P W base sp held n f3.type [v3] = some y) ∧ (∃ y, DataW.trod enc P W base sp held n f4.type [v4] = some y) := by
  obtain ⟨cs, rfl, hsz⟩ := okWide_struct hs hv
  obtain ⟨l⟩ := cs
  match l, hsz.trans hC with
  | [c0, c1, c2, c3, c4], _ =>
    obtain ⟨fuel, hf⟩ := h
    obtain ⟨xs, n, _, _, _, hlen, hg⟩ := DataW.trod_struct hs hf
    have key : ∀ (i : Nat) (f : Field) (c : Value), #[f0, f1, f2, f3, f4][i]? = some f → [c0, c1, c2, c3, c4][i]? = some c → ∃ y, DataW.trod enc P W base sp held n f.type [c] = some y := by
      intro i f c hi hci
      obtain ⟨o, k⟩ := hone_of hone i f hi
      have h1 := hg i f hi
      rw [o, k] at h1
      have hi5 : i < xs.length := by
        have := (Array.getElem?_eq_some_iff.1 hi).1
        omega
      have hd : ((Value.agg #[c0, c1, c2, c3, c4]).cells.toList.drop i).take 1 = [c] := by
        show (List.drop i [c0, c1, c2, c3, c4]).take 1 = [c]
        have hil := (List.getElem?_eq_some_iff.1 hci)
        rw [List.drop_eq_getElem_cons hil.1, hil.2]
        rfl
      rw [hd, List.getElem?_eq_getElem hi5] at h1
      exact ⟨_, h1⟩
    exact ⟨c0, c1, c2, c3, c4, n, rfl, key 0 _ _ rfl rfl, key 1 _ _ rfl rfl, key 2 _ _ rfl rfl, key 3 _ _ rfl rfl, key 4 _ _ rfl rfl⟩
end

set_option maxRecDepth 100000 in
theorem open_lcal {H : Type} {enc : TypeId × Value → H} {W : World} {base : Nat} {v : Value} {d : DataW H} {p : List MemPlace} (hv : Value.okWide Try.prog W .any base 56 v)
    (h : DataW.Trod enc Try.prog W 0 (fun _ => true) true 56 v d p) : ∃ x, LCal W v x := by
  obtain ⟨v0, v1, v2, v3, v4, n, rfl, ⟨y0, h0⟩, ⟨y1, h1⟩, ⟨y2, h2⟩, ⟨y3, h3⟩, ⟨y4, h4⟩⟩ := open5 Try.underlying56 (by kernel_rfl) (by kernel_rfl) hv h
  obtain ⟨f, e0, _, _⟩ := DataW.trod_int Try.underlying3 h0
  obtain ⟨t, e1, _, _⟩ := DataW.trod_int Try.underlying3 h1
  obtain ⟨dd, e2, _, _⟩ := DataW.trod_int Try.underlying3 h2
  obtain ⟨A, us, ca, e3, hA, hla, _⟩ := ints_open Try.underlying22 Try.underlying3 (by kernel_rfl) h3
  obtain ⟨R, vs, cr, e4, hR, hlr, _⟩ := ints_open Try.underlying22 Try.underlying3 (by kernel_rfl) h4
  simp at e0 e1 e2 e3 e4
  subst e0 e1 e2 e3 e4
  exact ⟨((f, t, dd), (us, vs)), A, ca, R, cr, rfl, hA, hR, hla, hlr⟩
end Go.Proofs.Ytambgommeannnaa
