/- Arrays of integers that a call makes itself. -/
import Derived.Test.YtemhcobjhpifpaaZon
namespace Go.Proofs.Ytemhcobjhpifpaa
open Go.ChangeShapes Go.WideShapes Go.ChangeAt Go.RowKit Go.PlainAid
set_option linter.unusedVariables false

/-- Block g holds n integers, the j-th is F j. -/
structure ArrI (w : World) (g n : Nat) (F : Nat → Int) : Prop where
  cells : ∀ j, j < n → w.cell? ⟨g, j, none⟩ = some (.int .i64 (F j))
  free : ∀ j, w.frozen? ⟨g, j, none⟩ = false
  lt : g < w.heap.size
section
variable {w w' : World} {g n B : Nat} {F G : Nat → Int}
theorem ArrI.congr (h : ArrI w g n F) (e : ∀ j, j < n → F j = G j) : ArrI w g n G := ⟨fun j hj => by rw [← e j hj]; exact h.cells j hj, h.free, h.lt⟩
theorem ArrI.keep (h : ArrI w g n F) (hb : Below B w w') (hg : g < B) : ArrI w' g n F :=
  ⟨fun j hj => (hb.cell (p := ⟨g, j, none⟩) hg).trans (h.cells j hj), fun j => (hb.frozen (p := ⟨g, j, none⟩) hg).trans (h.free j), Nat.lt_of_lt_of_le h.lt hb.size⟩
theorem ArrI.call (h : ArrI w g n F) (hb : Below w.heap.size w w') : ArrI w' g n F := h.keep hb h.lt
theorem ArrI.drewN (h : ArrI w g n F) (k : Nat) : ArrI (w.drewN k) g n F := ⟨h.cells, h.free, h.lt⟩
theorem ArrI.set (h : ArrI w g n F) {i : Nat} (hi : i < n) (v : Int) : ArrI (w.setCell ⟨g, i, none⟩ (.int .i64 v)) g n (fun j => if j = i then v else F j) where
  cells := fun j hj => by
    by_cases e : j = i
    · subst e; simp only [if_true]; exact World.cell?_setCell_same _ _ _ (h.cells j hj)
    · simp only [if_neg e]; rw [World.cell?_setCell_other _ _ _ _ (addr_ne (Ne.symm e))]; exact h.cells j hj
  free := fun j => by rw [World.frozen?_setCell]; exact h.free j
  lt := by simpa [World.setCell] using h.lt
theorem ArrI.ints (h : ArrI w g n F) {xs : List Int} (hn : xs.length = n) (e : ∀ j, j < n → F j = nth xs j) {lo hi : Nat} (hl : lo ≤ g) (hh : g < hi) : IntsIn w (Zone.new lo hi) (some ⟨g, 0, none⟩) xs := fun _ =>
  ⟨g, 0, rfl, ⟨hl, hh⟩, fun _ => h.free, fun j hj => by
    rw [Nat.zero_add]
    have := h.cells j (by omega)
    rw [e j (by omega)] at this
    exact this⟩
theorem ArrI.made (w : World) (n : Nat) (e : TypeId) : ArrI (w.alloc (.cells (madeCells #[.int .i64 0] n) e)) w.heap.size n (fun _ => 0) where
  cells := fun j hj => by
    rw [World.cell?_alloc_mark]
    have h1 : j < (madeCells #[Value.int .i64 0] n).size := by rw [size_madeCells]; exact hj
    rw [Array.getElem?_eq_getElem h1]
    simp [madeCells, Nat.mod_one]
  free := (Fill.made w #[.int .i64 0] n e (fun _ => .bool true)).free
  lt := by simp
end
/-- The numbers below n through a function. -/
def listOf (n : Nat) (F : Nat → Int) : List Int := (List.range n).map F
theorem listOf_length (n : Nat) (F : Nat → Int) : (listOf n F).length = n := by simp [listOf]
theorem nth_listOf {n : Nat} {F : Nat → Int} {j : Nat} (h : j < n) : nth (listOf n F) j = F j := by
  unfold nth listOf
  rw [List.getD_eq_getElem?_getD, List.getElem?_map, List.getElem?_range h]
  rfl
end Go.Proofs.Ytemhcobjhpifpaa
