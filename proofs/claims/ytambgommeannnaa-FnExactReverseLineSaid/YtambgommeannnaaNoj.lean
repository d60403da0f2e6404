/- A copied network, open to appends. -/
import Derived.Test.YtambgommeannnaaNoi
namespace Go.Proofs.Ytambgommeannnaa
open Go.ChangeShapes Go.WideShapes Go.ChangeAt Go.RowKit Go.PlainAid
set_option linter.unusedVariables false
set_option linter.unusedSimpArgs false

/-- The line j of x as cells. -/
def lvR (x : NetD) (p r : Nat → Nat) (f : Nat → Nat × Nat) (j : Nat) : LV := ⟨(nthL x.lines j).name, p j, (nthL x.lines j).stops.length, (f j).1, r j, (nthL x.lines j).runs.length, (f j).2⟩
def lvs (x : NetD) (p r : Nat → Nat) (f : Nat → Nat × Nat) : List LV := (List.range x.lines.length).map (lvR x p r f)
theorem lvs_length (x : NetD) (p r : Nat → Nat) (f : Nat → Nat × Nat) : (lvs x p r f).length = x.lines.length := by simp [lvs]
theorem lvs_at {x : NetD} {p r : Nat → Nat} {f : Nat → Nat × Nat} {j : Nat} (hj : j < x.lines.length) : atV (lvs x p r f) j = lvR x p r f j := by
  unfold atV lvs
  rw [List.getD_eq_getElem?_getD, List.getElem?_map, List.getElem?_range hj]
  rfl
theorem nval_of {x : NetD} {w : World} {B gs g : Nat} {p r : Nat → Nat} (h : NOwn w B w.heap.size x (some ⟨gs, 0, none⟩) (some ⟨g, 0, none⟩) gs g p r) (ha : NAdr w x g p r) (hl : x.lines.length ≤ maxLen) : ∃ ys, NVal w B x gs (.slice (some ⟨g, 0, none⟩) x.lines.length x.lines.length) ys := by
  obtain ⟨f, hf⟩ : ∃ f : Nat → Nat × Nat, ∀ j, j < x.lines.length → w.cell? ⟨g, j * 3 + 1, none⟩ = some (.slice (some ⟨p j, 0, none⟩) (nthL x.lines j).stops.length (f j).1) ∧ w.cell? ⟨g, j * 3 + 2, none⟩ = some (.slice (some ⟨r j, 0, none⟩) (nthL x.lines j).runs.length (f j).2) :=
    ⟨fun j => if hj : j < x.lines.length then ((ha.adr j hj).choose, (ha.adr j hj).choose_spec.choose) else (0, 0), fun j hj => by
      simp only [hj, dif_pos]
      exact (ha.adr j hj).choose_spec.choose_spec⟩
  obtain ⟨cells, hr⟩ := ha.raw hl
  have hlen := hr.1
  have hce : cells = (lvs x p r f).flatMap encLV := by
    apply List.ext_getElem?
    intro i
    by_cases hi : i < x.lines.length * 3
    · have h3 : i / 3 < x.lines.length := by omega
      have e : i = i / 3 * 3 + i % 3 := by omega
      have hm3 : i % 3 < 3 := by omega
      rw [← World.ownsRow.cellAt hr i hi]
      generalize hq : i / 3 = q at *
      generalize hs : i % 3 = s at *
      subst e
      rw [flat_get (enc := encLV) (m := 3) (fun _ => rfl) (lvs x p r f) q s (by rw [lvs_length]; exact h3) hm3]
      have hat : (lvs x p r f).getD q default = lvR x p r f q := lvs_at h3
      rw [hat]
      obtain ⟨S, cs, R, cr, n0, n1, n2, _⟩ := h.lines.each q h3
      have : s = 0 ∨ s = 1 ∨ s = 2 := by omega
      rcases this with rfl | rfl | rfl
      · exact n0
      · exact (hf q h3).1
      · exact (hf q h3).2
    · rw [List.getElem?_eq_none (by omega), List.getElem?_eq_none (by rw [flat_len (m := 3) (fun _ => rfl), lvs_length]; omega)]
  have hap := h.apart
  have hof := h.off
  refine ⟨lvs x p r f, h.stops, h.s0, h.s1, ⟨?_, lvs_length x p r f, fun j hj => ?_, fun j hj => ?_, fun i j hi hj hij => ?_, fun i j hi hj hij => ?_, fun i j hi hj => ?_⟩, fun e => ?_, fun j hj => ?_⟩
  · unfold OwnE
    rw [lvs_length, ← hce]
    obtain ⟨h1, h2⟩ := hr
    refine ⟨h1, ?_⟩
    rcases h2 with h2 | ⟨g', cap, cur, hv, hg, hh, rr⟩
    · exact Or.inl h2
    · have hv' := hv
      simp only [Value.slice.injEq, Option.some.injEq, Addr.mk.injEq, and_true, true_and] at hv'
      obtain ⟨rfl, rfl⟩ := hv'
      exact Or.inr ⟨g, _, cur, hv, hap.g0, hh, rr⟩
  · rw [lvs_at hj]
    obtain ⟨S, cs, R, cr, n0, n1, n2, i1, i2, c1, c2⟩ := h.lines.each j hj
    have e1 := n1.symm.trans (hf j hj).1
    have e2 := n2.symm.trans (hf j hj).2
    simp only [Option.some.injEq, Value.slice.injEq] at e1 e2
    obtain ⟨rfl, _, rfl⟩ := e1
    obtain ⟨rfl, _, rfl⟩ := e2
    exact ⟨rfl, rfl, rfl, i1, i2, c1, c2⟩
  · rw [lvs_at hj]
    have a := hap.p0 j hj
    have b := hap.r0 j hj
    refine ⟨⟨a.1, a.2.1, fun e => a.2.2 ?_⟩, b.1, b.2.1, fun e => b.2.2 ?_⟩
    · exact (Option.some.inj e).symm
    · exact (Option.some.inj e).symm
  · rw [lvs_at hi, lvs_at hj]; exact hap.pp i j hi hj hij
  · rw [lvs_at hi, lvs_at hj]; exact hap.rr i j hi hj hij
  · rw [lvs_at hi, lvs_at hj]; exact hap.pr i j hi hj
  · exact hof.1 (Option.some.inj e).symm
  · rw [lvs_at hj]
    exact ⟨Ne.symm (hof.2 j hj).1, Ne.symm (hof.2 j hj).2⟩
theorem RetNetA.v {x : NetD} {w w' : World} {e : Ending} (h : RetNetA x w e w') (hl : x.lines.length ≤ 1048576) : RetNetV x w e w' := by
  obtain ⟨gs, ks, g, p, r, rfl, h1, h2, h3⟩ := h
  obtain ⟨ys, hv⟩ := nval_of h1 h2 (by unfold maxLen; omega)
  exact ⟨gs, ks, g, _, ys, rfl, hv, h3⟩
end Go.Proofs.Ytambgommeannnaa
