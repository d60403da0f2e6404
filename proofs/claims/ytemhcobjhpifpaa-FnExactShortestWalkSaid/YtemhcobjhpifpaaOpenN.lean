/- How an argument that came in is opened: slices of anything; networks. -/
import Derived.Test.YtemhcobjhpifpaaOpenG
import Derived.Test.YtemhcobjhpifpaaNetB
import Derived.Deep.Slices
import Derived.Deep.Strs
namespace Go.Proofs.Ytemhcobjhpifpaa
open Go.ChangeShapes Go.WideShapes Go.ChangeAt Go.RowKit Go.Deep
set_option linter.unusedVariables false

section
variable {H : Type} {enc : TypeId × Value → H} {P : Program} {W : World} {base : Nat} {sp : Nat → Bool} {held : Bool}

theorem sl_open {α : Type} [Inhabited α] {E : Rd α} {st : Nat → Nat} {Pr : α → Prop} {t e : TypeId} {fuel : Nat} {cs : List Value} {x : DataW H × List MemPlace} (ht : P.underlying t = some (.slice e)) (hc : 0 < P.cellsOf e) (hst : ∀ i, st i = i * P.cellsOf e)
    (he : ∀ (n b o : Nat) (cs' : List Value) (y : DataW H × List MemPlace), b < W.heap.size → W.cells? base ⟨b, o, none⟩ (P.cellsOf e) = some cs' → DataW.trod enc P W base sp held n e cs' = some y → ∃ z, E W (Zone.below W.heap.size) b o z ∧ Pr z)
    (h : DataW.trod enc P W base sp held fuel t cs = some x) :
    ∃ A xs cap, cs = [.slice A (List.length xs) cap] ∧ Sl E st W (Zone.below W.heap.size) A xs ∧ xs.length ≤ 9223372036854775807 ∧ ∀ k, k < xs.length → Pr (xs.getD k default) := by
  rcases open_slice ht h with ⟨hcs, _⟩ | ⟨a, len, cap, m, n, D, Pl, hcs, _, hl, hm, hmm, _, hx⟩
  · exact ⟨none, [], 0, hcs, fun h => absurd h (by simp), by simp, fun k hk => absurd hk (by simp)⟩
  · have hle : len ≤ m := by rw [hmm]; split <;> omega
    unfold maxLen at hm
    by_cases h0 : len = 0
    · subst h0
      exact ⟨some a, [], cap, hcs, fun h => absurd h (by simp), by simp, fun k hk => absurd hk (by simp)⟩
    · obtain ⟨cs0, hc0, _⟩ := hx 0 (by omega)
      have hcell0 : ∃ v, W.cell? a = some v := by
        obtain ⟨_, hlen, hcell⟩ := World.cells?_some hc0
        have e0 : a.add 0 = a := by unfold Addr.add; rw [if_pos rfl]
        have := hcell 0 (by omega)
        rw [Nat.zero_mul, e0, e0, List.getElem?_eq_getElem (by omega)] at this
        exact ⟨_, this⟩
      obtain ⟨v0, hv0⟩ := hcell0
      have hs : a.spot = none := World.cell?_spot hv0
      have hb : a.block < W.heap.size := World.block_lt_of_cell? _ _ hv0
      have each : ∀ i, i < len → ∃ z, E W (Zone.below W.heap.size) a.block (a.off + st i) z ∧ Pr z := fun i hi => by
        obtain ⟨cs', h1, h2⟩ := hx i (by omega)
        rw [add_none hs, ← hst] at h1
        exact he n _ _ _ _ hb h1 h2
      have hz : ∃ f : Nat → α, ∀ i, i < len → E W (Zone.below W.heap.size) a.block (a.off + st i) (f i) ∧ Pr (f i) :=
        ⟨fun i => if h : i < len then (each i h).choose else default, fun i hi => by
          simp only [hi, dif_pos]
          exact (each i hi).choose_spec⟩
      obtain ⟨f, hf⟩ := hz
      have hget : ∀ j, j < len → ((List.range len).map f).getD j default = f j := fun j hj => by
        rw [List.getD_eq_getElem?_getD, List.getElem?_map, List.getElem?_range hj]
        rfl
      refine ⟨some a, (List.range len).map f, cap, by simpa using hcs, fun hn => ⟨a.block, a.off, by rw [← hs], hb, fun h => h.elim, fun j hj => ?_⟩, by simp; omega, fun k hk => ?_⟩
      · have hj' : j < len := by simpa using hj
        rw [hget j hj']
        exact (hf j hj').1
      · have hk' : k < len := by simpa using hk
        rw [hget k hk']
        exact (hf k hk').2
theorem strs_open {t e : TypeId} {fuel : Nat} {cs : List Value} {x : DataW H × List MemPlace} (ht : P.underlying t = some (.slice e)) (he : P.underlying e = some .string) (hc : P.cellsOf e = 1)
    (h : DataW.trod enc P W base sp held fuel t cs = some x) :
    ∃ A xs cap, cs = [.slice A (List.length xs) cap] ∧ StrsIn W (Zone.below W.heap.size) A xs ∧ xs.length ≤ 9223372036854775807 ∧ ∀ k, k < xs.length → (xs.getD k default).size ≤ 9223372036854775807 :=
  sl_open (E := eStr) (st := fun j => j) (Pr := fun s : ByteArray => s.size ≤ 9223372036854775807) ht (by omega) (fun i => by rw [hc, Nat.mul_one]) (fun n b o cs' y hb h1 h2 => by
    obtain ⟨s, e1, _, hs⟩ := DataW.trod_string he h2
    obtain ⟨_, hlen, hcell⟩ := World.cells?_some h1
    have e0 : (⟨b, o, none⟩ : Addr).add 0 = ⟨b, o, none⟩ := by unfold Addr.add; rw [if_pos rfl]
    have := hcell 0 (by omega)
    rw [e0, e1] at this
    exact ⟨s, this, hs⟩) h
theorem lines_open {t e i1 i2 : TypeId} {f0 f1 f2 : Field} {fuel : Nat} {cs : List Value} {x : DataW H × List MemPlace} (ht : P.underlying t = some (.slice e)) (he : P.underlying e = some (.struct #[f0, f1, f2])) (hone : oneCellFields P #[f0, f1, f2] = true) (hc : P.cellsOf e = 3)
    (t0 : P.underlying f0.type = some .string) (t1 : P.underlying f1.type = some (.slice i1)) (u1 : P.underlying i1 = some (.int .i64)) (c1 : P.cellsOf i1 = 1) (t2 : P.underlying f2.type = some (.slice i2)) (u2 : P.underlying i2 = some (.int .i64)) (c2 : P.cellsOf i2 = 1)
    (h : DataW.trod enc P W base sp held fuel t cs = some x) :
    ∃ A xs cap, cs = [.slice A (List.length xs) cap] ∧ LinesIn W (Zone.below W.heap.size) A xs ∧ xs.length ≤ 9223372036854775807 ∧ ∀ k, k < xs.length → lenLn (xs.getD k default) :=
  sl_open (E := eLine) (st := at3) (Pr := lenLn) ht (by omega) (fun i => by rw [hc]; rfl) (fun n b o cs' y hb h1 h2 => by
    obtain ⟨y0, y1, y2, k, _, _, g0, g1, g2⟩ := trod_struct3 he h2
    obtain ⟨o0, k0⟩ := hone_of hone 0 f0 rfl
    obtain ⟨o1, k1⟩ := hone_of hone 1 f1 rfl
    obtain ⟨o2, k2⟩ := hone_of hone 2 f2 rfl
    rw [hc] at h1
    obtain ⟨_, hlen, hcell⟩ := World.cells?_some h1
    match cs', hlen with
    | [v0, v1, v2], _ =>
      rw [o0, k0] at g0
      rw [o1, k1] at g1
      rw [o2, k2] at g2
      obtain ⟨s, e0, _, hs⟩ := DataW.trod_string t0 g0
      obtain ⟨A, xs, ca, e1, hA, hla, hca⟩ := ints_open t1 u1 c1 g1
      obtain ⟨R, ys, cr, e2, hR, hlr, hcr⟩ := ints_open t2 u2 c2 g2
      simp at e0 e1 e2
      subst e0 e1 e2
      have q0 := hcell 0 (by omega)
      have q1 := hcell 1 (by omega)
      have q2 := hcell 2 (by omega)
      rw [add_none rfl] at q0 q1 q2
      have hle : (Zone.below W.heap.size).le ((Zone.below W.heap.size).sub b) := ⟨fun c hc => ⟨hc, fun h => h.elim⟩, fun h => h⟩
      exact ⟨⟨s, xs, ys⟩, ⟨A, ca, R, cr, q0, q1, q2, (IntsAt.in hA).mono hle, (IntsAt.in hR).mono hle, hca, hcr⟩, hs, hla, hlr⟩) h
end

/-- What the laws know of a network that came in. -/
def LNet (W : World) (v : Value) (x : NetD) : Prop :=
  ∃ A ca L cl, v = .agg #[.slice A x.stops.length ca, .slice L x.lines.length cl] ∧ StrsIn W (Zone.below W.heap.size) A x.stops ∧ LinesIn W (Zone.below W.heap.size) L x.lines ∧ x.stops.length ≤ 9223372036854775807 ∧ x.lines.length ≤ 9223372036854775807 ∧
    (∀ k, k < x.stops.length → (nthS x.stops k).size ≤ 9223372036854775807) ∧ ∀ k, k < x.lines.length → lenLn (nthL x.lines k)

set_option maxRecDepth 100000 in
theorem open_lnet {H : Type} {enc : TypeId × Value → H} {W : World} {base : Nat} {v : Value} {d : DataW H} {p : List MemPlace} (hv : Value.okWide Try.prog W .any base 25 v)
    (h : DataW.Trod enc Try.prog W 0 (fun _ => true) true 25 v d p) : ∃ x, LNet W v x := by
  obtain ⟨v0, v1, y0, y1, n, rfl, _, _, h0, h1⟩ := Joins.open_agg2 Try.underlying25 (by kernel_rfl) (by kernel_rfl) hv h
  obtain ⟨A, ss, ca, e0, hA, hl0, hs⟩ := strs_open Try.underlying22 Try.underlying9 (by kernel_rfl) h0
  obtain ⟨L, xs, cl, e1, hL, hl1, hx⟩ := lines_open Try.underlying23 Try.underlying68 (by kernel_rfl) (by kernel_rfl) Try.underlying9 Try.underlying29 Try.underlying3 (by kernel_rfl) Try.underlying29 Try.underlying3 (by kernel_rfl) h1
  simp at e0 e1
  subst e0 e1
  exact ⟨⟨ss, xs⟩, A, ca, L, cl, rfl, hA, hL, hl0, hl1, hs, hx⟩
end Go.Proofs.Ytemhcobjhpifpaa
