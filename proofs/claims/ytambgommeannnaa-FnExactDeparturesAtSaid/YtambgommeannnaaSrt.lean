/- What a sort by the library leaves: helpers for slices of records. -/
import Derived.Test.YtambgommeannnaaApp
import Derived.Test.YtambgommeannnaaNetA
import Derived.Shelf.SlSortCmp.WholeK
namespace Go.Proofs.Ytambgommeannnaa
open Go.ChangeShapes Go.WideShapes Go.ChangeAt Go.RowKit Go.PlainAid
open Go.Sort (HoldsK putRowK Holds putRow flatK grow SWO PermIn SortedIn mapBlock)
set_option linter.unusedVariables false

/-- How a record of k cells reads. -/
def eK {α : Type} (enc : α → List Value) (k : Nat) : Rd α := fun w _ b o y => ∀ i, i < k → w.cell? ⟨b, o + i, none⟩ = (enc y)[i]?
section
variable {α : Type} [Inhabited α] {enc : α → List Value} {k : Nat}
theorem getBang {xs : List α} {i : Nat} (h : i < xs.length) : xs.toArray[i]! = xs.getD i default := by
  rw [getElem!_pos xs.toArray i (by simpa using h), List.getElem_toArray, List.getD_eq_getElem?_getD, List.getElem?_eq_getElem h]
  rfl
theorem OwnE.holds {e : TypeId} {w : World} {B : Nat} {v : Value} {xs : List α} (h : OwnE e k enc w B v xs) (hk : ∀ y, (enc y).length = k) (h0 : 0 < xs.length) :
    ∃ g o cap, v = .slice (some ⟨g, o, none⟩) xs.length cap ∧ B ≤ g ∧ g < w.heap.size ∧ xs.length ≤ cap ∧ cap ≤ 9223372036854775807 ∧ HoldsK enc k w g o xs.toArray ∧ ∀ j, w.frozen? ⟨g, j, none⟩ = false := by
  obtain ⟨A, c, rfl, hc1, hc2, hs⟩ := h.reads (E := eK enc k) (st := fun j => j * k) hk (fun _ => rfl) (fun w Z b o y hc => hc)
  obtain ⟨b, o, rfl, hz, hf, hcell⟩ := hs h0
  refine ⟨b, o, c, rfl, hz.1, hz.2, hc1, hc2, ?_, hf trivial⟩
  intro j hj
  rw [Go.Sort.size_flatK] at hj
  refine ⟨?_, hf trivial _⟩
  rw [Go.Sort.get_flatK _ _ _ _ hj]
  have hk0 : 0 < k := by
    rcases Nat.eq_zero_or_pos k with h | h
    · rw [h] at hj; simp at hj
    · exact h
  have hx : j / k < xs.length := by
    rw [Nat.div_lt_iff_lt_mul hk0]
    simpa using hj
  have hc := hcell (j / k) hx (j % k) (Nat.mod_lt _ hk0)
  have e : o + j / k * k + j % k = o + j := by have := Nat.div_add_mod j k; rw [Nat.mul_comm] at this; omega
  rw [getBang hx]
  simp only [e] at hc
  rw [hc]
  have hlen : j % k < (enc (xs.getD (j / k) default)).length := by rw [hk]; exact Nat.mod_lt _ hk0
  rw [List.getElem?_eq_getElem hlen, getElem!_pos (enc (xs.getD (j / k) default)) (j % k) hlen]
  rfl
/-- What a row holds, read as a slice. -/
theorem HoldsK.sl {E : Rd α} {st : Nat → Nat} {w : World} {g o : Nat} {d : Array α} {Z : Zone} (h : HoldsK enc k w g o d) (hz : Z.ok g) (hf : ∀ j, w.frozen? ⟨g, j, none⟩ = false) (hst : ∀ j, st j = j * k) (hk : ∀ y, (enc y).length = k)
    (hE : ∀ (w : World) (Z : Zone) (b o : Nat) (y : α), (∀ i, i < k → w.cell? ⟨b, o + i, none⟩ = (enc y)[i]?) → E w Z b o y) : Sl E st w Z (some ⟨g, o, none⟩) d.toList := fun h0 =>
  ⟨g, o, rfl, hz, fun _ => hf, fun j hj => by
    have hj' : j < d.size := by simpa using hj
    rw [hst]
    refine hE w Z g (o + j * k) _ (fun i hi => ?_)
    rw [(Go.Sort.HoldsK.cell h hj' hi).1]
    have e : d[j]! = d.toList.getD j default := by rw [← getBang hj]
    rw [e]
    have hl : i < (enc (d.toList.getD j default)).length := by rw [hk]; exact hi
    rw [List.getElem?_eq_getElem hl, getElem!_pos (enc (d.toList.getD j default)) i hl]⟩
theorem sw_heap (w : World) (blk off n : Nat) (d : Array α) (os : Array Obj) {j : Nat} (hj : j < w.heap.size) (hne : j ≠ blk) : (sortWorldK enc k w blk off n d os).heap[j]? = w.heap[j]? := by
  unfold sortWorldK
  have h1 : j < (putRowK enc k (Go.Sort.ahead w n) blk off d).heap.size := by rw [Go.Sort.size_putRowK]; exact hj
  rw [Go.Sort.heap_grow_old _ _ h1]
  unfold putRowK putRow mapBlock
  simp only [Array.getElem?_modify]
  rw [if_neg (fun e => hne e.symm)]
  rfl
theorem sw_size (w : World) (blk off n : Nat) (d : Array α) (os : Array Obj) : w.heap.size ≤ (sortWorldK enc k w blk off n d os).heap.size := size_sortWorldK_c enc k w blk off n d os
theorem sw_below (w : World) (blk off n : Nat) (d : Array α) (os : Array Obj) {B : Nat} (hB : B ≤ blk) (hw : B ≤ w.heap.size) : Below B w (sortWorldK enc k w blk off n d os) :=
  ⟨rfl, rfl, rfl, sw_size w blk off n d os, fun j hj => sw_heap w blk off n d os (by omega) (by omega)⟩
theorem sw_frozen (w : World) (blk off n : Nat) (d : Array α) (os : Array Obj) (a : Addr) (h : a.block < w.heap.size) : (sortWorldK enc k w blk off n d os).frozen? a = w.frozen? a := by
  unfold sortWorldK
  rw [Go.Sort.frozen?_grow _ _ _ (by rw [Go.Sort.size_putRowK]; exact h)]
  unfold putRowK
  rw [Go.Sort.frozen?_putRow, Go.Sort.frozen?_ahead]
theorem permIn_perm {d d' : Array α} (h : PermIn 0 d.size d d') : d'.toList.Perm d.toList := by
  obtain ⟨h1, _, h3⟩ := h
  have e1 : d.extract 0 d.size = d := Array.extract_size
  have e2 : d'.extract 0 d.size = d' := by rw [← h1]; exact Array.extract_size
  rw [e1, e2] at h3
  exact h3
theorem sortedIn_at {lt : α → α → Bool} {n : Nat} {d : Array α} (h : SortedIn lt 0 n d) {i j : Nat} (hij : i < j) (hj : j < n) (hn : n ≤ d.size) : lt (d.toList.getD j default) (d.toList.getD i default) = false := by
  have := h i j (Nat.zero_le _) hij hj
  have e1 : d[j]! = d.toList.getD j default := by rw [← getBang (by simp; omega)]
  have e2 : d[i]! = d.toList.getD i default := by rw [← getBang (by simp; omega)]
  rw [e1, e2] at this
  exact this
end
end Go.Proofs.Ytambgommeannnaa
