/- One more line to a network of the call's own. -/
import Derived.Test.YtambgommeannnaaNoj
namespace Go.Proofs.Ytambgommeannnaa
open Go.ChangeShapes Go.WideShapes Go.ChangeAt Go.RowKit Go.PlainAid
set_option linter.unusedVariables false
set_option linter.unusedSimpArgs false

theorem LvOwn.cast {w : World} {B : Nat} {v : Value} {xs xs' : List LineD} {ys : List LV} {k : Nat} (h : LvOwn w B v xs ys k) (he : ∀ j, j < k → nthL xs' j = nthL xs j) : LvOwn w B v xs' ys k :=
  ⟨h.own, h.len, fun j hj => by rw [he j hj]; exact h.each j hj, h.blk, h.pp, h.rr, h.pr⟩
/-- Block b is none of the slice's, nor its lines'. -/
def OffV (v : Value) (ys : List LV) (k b : Nat) : Prop := v.ownBlock ≠ some b ∧ ∀ j, j < k → (atV ys j).gs ≠ b ∧ (atV ys j).gr ≠ b
theorem LvOwn.off_below {w : World} {B : Nat} {v : Value} {xs : List LineD} {ys : List LV} {k b : Nat} (h : LvOwn w B v xs ys k) (hb : b < B) : OffV v ys k b :=
  ⟨fun e => by have := (World.ownsRow.lt h.own) _ e; omega, fun j hj => by have := h.blk j hj; omega⟩
theorem LvOwn.off_above {w : World} {B : Nat} {v : Value} {xs : List LineD} {ys : List LV} {k b : Nat} (h : LvOwn w B v xs ys k) (hb : w.heap.size ≤ b) : OffV v ys k b :=
  ⟨fun e => by have := (World.ownsRow.lt h.own) _ e; omega, fun j hj => by have := h.blk j hj; omega⟩
theorem LvOwn.stepG {wr wA w8 : World} {B : Nat} {v v8 : Value} {xs : List LineD} {ys : List LV} {k : Nat} {y : LV} (h : LvOwn wr B v xs ys k) (hBr : B ≤ wr.heap.size) (hb : Below wr.heap.size wr wA) (hy : LvAt wA y (nthL xs k)) (hne : y.gs ≠ y.gr) (b1 : B ≤ y.gs ∧ y.gs < wA.heap.size) (b2 : B ≤ y.gr ∧ y.gr < wA.heap.size) (o1 : OffV v ys k y.gs) (o2 : OffV v ys k y.gr)
    (ho : OwnE 113 3 encLV w8 B v8 (ys ++ [y])) (hg : wA.grownBy w8 v.ownBlock) (hat : v8.ownBlock = v.ownBlock ∨ v8.ownBlock = some wA.heap.size) : LvOwn w8 B v8 xs (ys ++ [y]) (k + 1) := by
  have hz := hb.size
  have hz8 := hg.size
  have hl := h.len
  have hkp : ∀ X, X < wA.heap.size → v.ownBlock ≠ some X → Same wA w8 X := fun X hX hne => Same.of_blk (hg.block X hX (fun e => hne e.symm))
  have hv8 : ∀ X, X < wA.heap.size → v.ownBlock ≠ some X → v8.ownBlock ≠ some X := fun X hX hne e => by
    rcases hat with q | q
    · rw [q] at e; exact hne e
    · rw [q] at e; simp at e; omega
  have n1 := o1.1
  have n2 := o2.1
  have hold : ∀ j, j < k → atV (ys ++ [y]) j = atV ys j := fun j hj => atV_old (by omega)
  have hnew : atV (ys ++ [y]) k = y := by rw [← hl]; exact atV_new
  refine ⟨ho, by simp [hl], fun j hj => ?_, fun j hj => ?_, fun i j hi hj hij => ?_, fun i j hi hj hij => ?_, fun i j hi hj => ?_⟩
  · by_cases e : j = k
    · subst e; rw [hnew]; exact hy.keep (hkp _ b1.2 n1) (hkp _ b2.2 n2)
    · have hj' : j < k := by omega
      rw [hold j hj']
      obtain ⟨c1, c2⟩ := h.blk j hj'
      exact (h.each j hj').keep ((Same.of_below hb c1.2.1).trans (hkp _ (by omega) c1.2.2)) ((Same.of_below hb c2.2.1).trans (hkp _ (by omega) c2.2.2))
  · by_cases e : j = k
    · subst e; rw [hnew]; exact ⟨⟨by omega, by omega, hv8 _ b1.2 n1⟩, by omega, by omega, hv8 _ b2.2 n2⟩
    · have hj' : j < k := by omega
      rw [hold j hj']
      obtain ⟨c1, c2⟩ := h.blk j hj'
      exact ⟨⟨c1.1, by omega, hv8 _ (by omega) c1.2.2⟩, c2.1, by omega, hv8 _ (by omega) c2.2.2⟩
  · by_cases ei : i = k
    · have hj' : j < k := by omega
      subst ei; rw [hnew, hold j hj']; exact Ne.symm (o1.2 j hj').1
    · have hi' : i < k := by omega
      rw [hold i hi']
      by_cases ej : j = k
      · subst ej; rw [hnew]; exact (o1.2 i hi').1
      · rw [hold j (by omega)]; exact h.pp i j hi' (by omega) hij
  · by_cases ei : i = k
    · have hj' : j < k := by omega
      subst ei; rw [hnew, hold j hj']; exact Ne.symm (o2.2 j hj').2
    · have hi' : i < k := by omega
      rw [hold i hi']
      by_cases ej : j = k
      · subst ej; rw [hnew]; exact (o2.2 i hi').2
      · rw [hold j (by omega)]; exact h.rr i j hi' (by omega) hij
  · by_cases ei : i = k
    · subst ei; rw [hnew]
      by_cases ej : j = i
      · subst ej; rw [hnew]; exact hne
      · have hj' : j < i := by omega
        rw [hold j hj']; exact Ne.symm (o1.2 j hj').2
    · have hi' : i < k := by omega
      rw [hold i hi']
      by_cases ej : j = k
      · subst ej; rw [hnew]; exact (o2.2 i hi').1
      · rw [hold j (by omega)]; exact h.pr i j hi' (by omega)
theorem nthL_app {xs : List LineD} {l : LineD} {j : Nat} (hj : j < xs.length) : nthL (xs ++ [l]) j = nthL xs j := by
  unfold nthL
  rw [List.getD_eq_getElem?_getD, List.getD_eq_getElem?_getD, List.getElem?_append_left hj]
theorem nthL_new {xs : List LineD} {l : LineD} : nthL (xs ++ [l]) xs.length = l := by
  unfold nthL
  rw [List.getD_eq_getElem?_getD, List.getElem?_append_right (Nat.le_refl _)]
  simp
/-- .. and so is a network with one more line. -/
theorem NVal.add {wr wA w8 : World} {B : Nat} {x : NetD} {gs : Nat} {v v8 : Value} {ys : List LV} {y : LV} {l : LineD} (h : NVal wr B x gs v ys) (hBr : B ≤ wr.heap.size) (hb : Below wr.heap.size wr wA) (hy : LvAt wA y l) (hne : y.gs ≠ y.gr) (b1 : B ≤ y.gs ∧ y.gs < wA.heap.size) (b2 : B ≤ y.gr ∧ y.gr < wA.heap.size) (o1 : OffV v ys x.lines.length y.gs) (o2 : OffV v ys x.lines.length y.gr) (g1 : y.gs ≠ gs) (g2 : y.gr ≠ gs)
    (ho : OwnE 113 3 encLV w8 B v8 (ys ++ [y])) (hg : wA.grownBy w8 v.ownBlock) (hat : v8.ownBlock = v.ownBlock ∨ v8.ownBlock = some wA.heap.size) : NVal w8 B ⟨x.stops, x.lines ++ [l]⟩ gs v8 (ys ++ [y]) := by
  have hz := hb.size
  have hz8 := hg.size
  have hs1 := h.s1
  have hl := h.lv.len
  have hl2 : (x.lines ++ [l]).length = x.lines.length + 1 := by simp
  have hstep := (h.lv.cast (xs' := x.lines ++ [l]) (fun j hj => nthL_app hj)).stepG hBr hb (by rw [nthL_new]; exact hy) hne b1 b2 o1 o2 ho hg hat
  have hkp : Same wA w8 gs := Same.of_blk (hg.block gs (by omega) (fun e => h.offv e.symm))
  refine ⟨h.st.keep fun c hc => by rw [Zone.one_ok hc]; exact (Same.of_below hb hs1).trans hkp, h.s0, by omega, by rw [hl2]; exact hstep, fun e => ?_, fun j hj => ?_⟩
  · rcases hat with q | q
    · rw [q] at e; exact h.offv e
    · rw [q] at e; simp at e; omega
  · rw [hl2] at hj
    by_cases e : j = x.lines.length
    · subst e
      rw [← hl, atV_new]
      exact ⟨g1, g2⟩
    · rw [atV_old (by omega)]
      exact h.off j (by omega)
end Go.Proofs.Ytambgommeannnaa
