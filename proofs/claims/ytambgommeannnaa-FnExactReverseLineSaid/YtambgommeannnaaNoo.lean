/- What stays in a region that appends to an own slice held in a box. -/
import Derived.Test.YtambgommeannnaaNon
namespace Go.Proofs.Ytambgommeannnaa
open Go.ChangeShapes Go.WideShapes Go.ChangeAt Go.RowKit Go.PlainAid
set_option linter.unusedVariables false
set_option linter.unusedSimpArgs false

/-- All blocks but the box g and the own block og are as they were. -/
structure SY (B : Nat) (Wr : World) (g n og : Nat) (w' : World) : Prop where
  bel : Below B Wr w'
  kept : ∀ X, X < Wr.heap.size → X ≠ g → X ≠ og → w'.heap[X]? = Wr.heap[X]?
  has : HasC w' g n
  ge : B ≤ g
  go : B ≤ og
section
variable {B : Nat} {Wr w' w'' : World} {g n og : Nat}
theorem SY.start (h : HasC Wr g n) (hB : B ≤ g) (hO : B ≤ og) : SY B Wr g n og Wr := ⟨Below.refl _ _, fun _ _ _ _ => rfl, h, hB, hO⟩
theorem SY.lt (h : SY B Wr g n og w') : g < w'.heap.size := h.has.1
theorem SY.call (h : SY B Wr g n og w') (hb : Below w'.heap.size w' w'') : SY B Wr g n og w'' :=
  ⟨h.bel.trans (hb.mono (by have := h.ge; have := h.has.1; omega)), fun X hX h1 h2 => (hb.block X (Nat.lt_of_lt_of_le hX h.bel.size)).trans (h.kept X hX h1 h2), h.has.call hb, h.ge, h.go⟩
theorem SY.drew (h : SY B Wr g n og w') : SY B Wr g n og w'.drew := ⟨h.bel.drew, h.kept, h.has, h.ge, h.go⟩
theorem SY.alloc (h : SY B Wr g n og w') (o : Obj) : SY B Wr g n og (w'.alloc o) := h.call ((Below.refl _ _).alloc (Nat.le_refl _) _)
theorem SY.set (h : SY B Wr g n og w') (j : Nat) (u : Value) : SY B Wr g n og (w'.setCell ⟨g, j, none⟩ u) :=
  ⟨h.bel.setCell (p := ⟨g, j, none⟩) h.ge u, fun X hX h1 h2 => (Below.heap_setCell _ ⟨g, j, none⟩ _ _ h1).trans (h.kept X hX h1 h2), h.has.set _ _, h.ge, h.go⟩
/-- An append to the own slice. -/
theorem SY.grown {v : Value} (h : SY B Wr g n og w') (hg : w'.grownBy w'' v.ownBlock) (hv : v.ownBlock = some og) (hne : g ≠ og) (hb : Below B w' w'') : SY B Wr g n og w'' :=
  ⟨h.bel.trans hb, fun X hX h1 h2 => (hg.block X (Nat.lt_of_lt_of_le hX h.bel.size) (by rw [hv]; simpa using h2)).trans (h.kept X hX h1 h2),
    have s : Same w' w'' g := Same.of_blk (hg.block g h.lt (by rw [hv]; simpa using hne))
    ⟨Nat.lt_of_lt_of_le h.lt hg.size, fun j => by rw [(s j).1, (s j).2]; exact h.has.2 j⟩, h.ge, h.go⟩
theorem SY.same (h : SY B Wr g n og w') {X : Nat} (hX : X < Wr.heap.size) (h1 : X ≠ g) (h2 : X ≠ og) : Same Wr w' X := Same.of_blk (h.kept X hX h1 h2)
theorem SY.ints {C : Nat} {A : Option Addr} {xs : List Int} (h : SY B Wr g n og w') (hi : IntsIn Wr (Zone.below C) A xs) (hC : C ≤ B) : IntsIn w' (Zone.below w'.heap.size) A xs :=
  (hi.at_below (h.bel.mono hC)).mono (Zone.below_le (by have := h.ge; have := h.lt; omega))
end
theorem LvOwn.off_box {w2 : World} {B n : Nat} {v v8 : Value} {xs : List LineD} {ys : List LV} {k : Nat} {y : LV} (h : LvOwn w2 B v xs ys k) (hat : v8.ownBlock = v.ownBlock ∨ v8.ownBlock = some n) (hn : w2.heap.size < n) (h5 : w2.heap.size < y.gs) (h6 : w2.heap.size < y.gr) : OffV v8 (ys ++ [y]) (k + 1) w2.heap.size := by
  refine ⟨fun e => ?_, fun j hj => ?_⟩
  · rcases hat with q | q
    · rw [q] at e
      have := (World.ownsRow.lt h.own) _ e
      omega
    · rw [q] at e; simp at e; omega
  · by_cases e : j = k
    · rw [e, ← h.len, atV_new]; omega
    · rw [atV_old (by have := h.len; omega)]
      have := h.blk j (by omega)
      omega
theorem LvOwn.setOff {w : World} {B : Nat} {v : Value} {xs : List LineD} {ys : List LV} {k : Nat} (h : LvOwn w B v xs ys k) {p : Addr} (hp : OffV v ys k p.block) (u : Value) : LvOwn (w.setCell p u) B v xs ys k :=
  have hs : ∀ X, X ≠ p.block → (w.setCell p u).heap[X]? = w.heap[X]? := fun X hX => Below.heap_setCell w p u X hX
  ⟨h.own.kept fun X hX => hs X (fun e => hp.1 (by rw [hX, e])), h.len, fun j hj =>
    (h.each j hj).keep (Same.of_blk (hs _ (hp.2 j hj).1)) (Same.of_blk (hs _ (hp.2 j hj).2)), fun j hj => by rw [size_set]; exact h.blk j hj, h.pp, h.rr, h.pr⟩
theorem NVal.setOff {w : World} {B : Nat} {x : NetD} {gs : Nat} {v : Value} {ys : List LV} (h : NVal w B x gs v ys) {p : Addr} (hp : OffV v ys x.lines.length p.block) (hg : gs ≠ p.block) (u : Value) : NVal (w.setCell p u) B x gs v ys :=
  ⟨h.st.keep fun c hc => by rw [Zone.one_ok hc]; exact Same.of_blk (Below.heap_setCell w p u gs hg), h.s0, by rw [size_set]; exact h.s1, h.lv.setOff hp u, h.offv, h.off⟩
end Go.Proofs.Ytambgommeannnaa
