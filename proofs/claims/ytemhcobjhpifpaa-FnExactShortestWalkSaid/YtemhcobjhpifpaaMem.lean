/- Words for memory: what a world keeps, slices that read as lists, blocks that are being filled. -/
import Derived.Test.YtemhcobjhpifpaaBas
import Derived.WalkKit
import Derived.ProofKit
import Derived.WalkSpells
import Derived.WalkLawsBesides
import Derived.Below
import Derived.Outline
import Derived.Deep.QuietTactic
import Derived.BigQuiet
import Derived.Lib.Hide
import Derived.Handy
import Derived.PlainAid
import Derived.Deep.RegionHeld3
import Derived.Deep.DeepCutAuto
import Derived.StillTailTactics
import Derived.Laws.MakeOwn
import Derived.OwnWalk
namespace Go.Proofs.Ytemhcobjhpifpaa
open Go.ChangeShapes Go.WideShapes Go.ChangeAt Go.RowKit Go.PlainAid
set_option linter.unusedVariables false

theorem retB {a b : Bool} (h : a = b) : Ending.returned (.bool a) = .returned (.bool b) := by rw [h]
theorem retI {a b : Int} (h : a = b) : Ending.returned (.int .i64 a) = .returned (.int .i64 b) := by rw [h]

/-! ### What a world keeps -/
theorem bel_drewN {B : Nat} {a w : World} (h : Below B a w) (n : Nat) : Below B a (w.drewN n) := ⟨h.os, h.tape, h.output, h.size, h.block⟩
theorem bel_alloc {W w : World} (h : Below W.heap.size W w) (o : Obj) : Below W.heap.size W (w.alloc o) := h.alloc h.size o
theorem bel_call {W w w1 : World} (h : Below W.heap.size W w) (hb : Below w.heap.size w w1) : Below W.heap.size W w1 := h.trans (hb.mono h.size)
theorem bel_drew {W w : World} (h : Below W.heap.size W w) : Below W.heap.size W w.drew := h.drew
theorem bel_set {W w : World} (h : Below W.heap.size W w) {p : Addr} (hp : W.heap.size ≤ p.block) (u : Value) : Below W.heap.size W (w.setCell p u) := h.setCell hp u
theorem bel_of {B : Nat} {W w w1 : World} (h : Below B W w) (hB : B ≤ w.heap.size) (hb : Below w.heap.size w w1) : Below B W w1 := h.trans (hb.mono hB)
/-- What the walk wants of a world that is as another one below its end: cells, marks, sizes. -/
theorem bcell3 {W w1 : World} (hb : Below W.heap.size W w1) : (∀ b o, b < W.heap.size → w1.cell? ⟨b, o, none⟩ = W.cell? ⟨b, o, none⟩) ∧ (∀ b o, b < W.heap.size → w1.frozen? ⟨b, o, none⟩ = W.frozen? ⟨b, o, none⟩) ∧ (∀ k, k < W.heap.size → k < w1.heap.size) :=
  ⟨fun b o h => hb.cell (p := ⟨b, o, none⟩) h, fun b o h => hb.frozen (p := ⟨b, o, none⟩) h, fun k h => Nat.lt_of_lt_of_le h hb.size⟩

/-! ### Slices of integers -/
/-- The k-th number. -/
def nth (xs : List Int) (k : Nat) : Int := xs.getD k 0
/-- A slice's address and its numbers, below block B. -/
def IntsAt (w : World) (B : Nat) (A : Option Addr) (xs : List Int) : Prop :=
  0 < xs.length → ∃ b o, A = some ⟨b, o, none⟩ ∧ b < B ∧ ∀ j, j < xs.length → w.cell? ⟨b, o + j, none⟩ = some (.int .i64 (nth xs j))
section
variable {w w' : World} {B B' : Nat} {A : Option Addr} {xs : List Int}
theorem IntsAt.get (h : IntsAt w B A xs) {k : Nat} (hk : k < xs.length) : ∃ b o, A = some ⟨b, o, none⟩ ∧ b < B ∧ w.cell? ⟨b, o + k, none⟩ = some (.int .i64 (nth xs k)) := by
  obtain ⟨b, o, e, hb, hc⟩ := h (by omega)
  exact ⟨b, o, e, hb, hc k hk⟩
theorem IntsAt.below (h : IntsAt w B A xs) (hb : Below B w w') : IntsAt w' B A xs := fun hn => by
  obtain ⟨b, o, e, hlt, hc⟩ := h hn
  exact ⟨b, o, e, hlt, fun j hj => (hb.cell (p := ⟨b, o + j, none⟩) hlt).trans (hc j hj)⟩
theorem IntsAt.more (h : IntsAt w B A xs) (hB : B ≤ B') : IntsAt w B' A xs := fun hn => by
  obtain ⟨b, o, e, hlt, hc⟩ := h hn
  exact ⟨b, o, e, by omega, hc⟩
theorem IntsAt.call (h : IntsAt w w.heap.size A xs) (hb : Below w.heap.size w w') : IntsAt w' w'.heap.size A xs := (h.below hb).more hb.size
theorem IntsAt.alloc (h : IntsAt w w.heap.size A xs) (o : Obj) : IntsAt (w.alloc o) (w.alloc o).heap.size A xs := h.call ((Below.refl _ _).alloc (Nat.le_refl _) o)
theorem IntsAt.set {b o : Nat} (h : IntsAt w B (some ⟨b, o, none⟩) xs) {p : Addr} (hp : b ≠ p.block) (u : Value) : IntsAt (w.setCell p u) B (some ⟨b, o, none⟩) xs := fun hn => by
  obtain ⟨b', o', e, hlt, hc⟩ := h hn
  injection e with e
  injection e with e1 e2
  subst e1 e2
  exact ⟨b, o, rfl, hlt, fun j hj => (World.cell?_setCell_other _ _ _ _ (fun e => hp (by rw [e]))).trans (hc j hj)⟩
theorem size_set (w : World) (p : Addr) (u : Value) : (w.setCell p u).heap.size = w.heap.size := by simp
theorem IntsAt.drewN (h : IntsAt w B A xs) (n : Nat) : IntsAt (w.drewN n) B A xs := h
end
theorem nth_mem {xs : List Int} {k : Nat} (h : k < xs.length) : nth xs k ∈ xs := by
  unfold nth
  rw [List.getD_eq_getElem?_getD, List.getElem?_eq_getElem h]
  exact List.getElem_mem h
theorem mem_nth {xs : List Int} {x : Int} (h : x ∈ xs) : ∃ k, k < xs.length ∧ nth xs k = x := by
  obtain ⟨k, hk, e⟩ := List.mem_iff_getElem.1 h
  refine ⟨k, hk, ?_⟩
  unfold nth
  rw [List.getD_eq_getElem?_getD, List.getElem?_eq_getElem hk]
  exact e
theorem nth_ext {xs ys : List Int} (hl : xs.length = ys.length) (h : ∀ k, k < xs.length → nth xs k = nth ys k) : xs = ys := by
  apply List.ext_getElem hl
  intro k h1 h2
  have := h k h1
  unfold nth at this
  rw [List.getD_eq_getElem?_getD, List.getD_eq_getElem?_getD, List.getElem?_eq_getElem h1, List.getElem?_eq_getElem h2] at this
  exact this

/-! ### A block that is being filled -/
theorem addr_ne {g i j : Nat} (h : i ≠ j) : (⟨g, i, none⟩ : Addr) ≠ ⟨g, j, none⟩ := fun e => h (by injection e)
/-- Of block g, n cells large, the first k hold what f says; the others hold something; none is frozen. -/
structure Fill (w : World) (g n k : Nat) (f : Nat → Value) : Prop where
  done : ∀ j, j < k → w.cell? ⟨g, j, none⟩ = some (f j)
  there : ∀ j, k ≤ j → j < n → ∃ v, w.cell? ⟨g, j, none⟩ = some v
  free : ∀ j, w.frozen? ⟨g, j, none⟩ = false
  lt : g < w.heap.size
theorem Fill.made (w : World) (z : Array Value) (n : Nat) (e : TypeId) (f : Nat → Value) : Fill (w.alloc (.cells (madeCells z n) e)) w.heap.size n 0 f where
  done := fun j hj => by omega
  there := fun j _ hj => by
    rw [World.cell?_alloc_mark]
    have : j < (madeCells z n).size := by rw [size_madeCells]; exact hj
    exact ⟨_, Array.getElem?_eq_getElem this⟩
  free := fun j => by
    have e1 : (w.alloc (.cells (madeCells z n) e)).heap[w.heap.size]? = some (.cells (madeCells z n) e) := heap_alloc_new w _
    unfold World.frozen?
    simp only [e1]
    simp
  lt := by simp
theorem Fill.keep {w w' : World} {g n k : Nat} {f : Nat → Value} {B : Nat} (h : Fill w g n k f) (hb : Below B w w') (hg : g < B) : Fill w' g n k f where
  done := fun j hj => (hb.cell (p := ⟨g, j, none⟩) hg).trans (h.done j hj)
  there := fun j h1 h2 => by
    obtain ⟨v, hv⟩ := h.there j h1 h2
    exact ⟨v, (hb.cell (p := ⟨g, j, none⟩) hg).trans hv⟩
  free := fun j => (hb.frozen (p := ⟨g, j, none⟩) hg).trans (h.free j)
  lt := Nat.lt_of_lt_of_le h.lt hb.size
theorem Fill.step {w : World} {g n k : Nat} {f : Nat → Value} (h : Fill w g n k f) (hk : k < n) : Fill (w.setCell ⟨g, k, none⟩ (f k)) g n (k + 1) f where
  done := fun j hj => by
    by_cases e : j = k
    · subst e
      obtain ⟨v, hv⟩ := h.there j (Nat.le_refl _) hk
      exact World.cell?_setCell_same _ _ _ hv
    · rw [World.cell?_setCell_other _ _ _ _ (addr_ne (by omega))]
      exact h.done j (by omega)
  there := fun j h1 h2 => by
    rw [World.cell?_setCell_other _ _ _ _ (addr_ne (by omega))]
    exact h.there j (by omega) h2
  free := fun j => by rw [World.frozen?_setCell]; exact h.free j
  lt := by simpa [World.setCell] using h.lt
theorem IntsAt.of_fill {w : World} {g n B : Nat} {xs : List Int} (h : Fill w g n n (fun j => .int .i64 (nth xs j))) (hn : xs.length = n) (hB : w.heap.size ≤ B) : IntsAt w B (some ⟨g, 0, none⟩) xs := fun _ =>
  ⟨g, 0, rfl, Nat.lt_of_lt_of_le h.lt hB, fun j hj => by rw [Nat.zero_add]; exact h.done j (by omega)⟩

/-- make([]T, n) of whatever element. -/
theorem run_make_n {P : Program} (t e : TypeId) (i : TypeInfo) (z : Value) (ht : P.underlying t = some (.slice e)) (hi : P.info? e = some i) (hz : i.zero = some z)
    (n size bytes : Nat) (hs : i.size = size) (hy : i.bytes = bytes) (hb : n * bytes ≤ 281474976710656) (hn : n ≤ 9223372036854775807) (W : World) :
    (Instr.makeSlice t (.int .i64 (n : Int)) (.int .i64 (n : Int))).run P W = .ok (.slice (some ⟨W.heap.size, 0, none⟩) n n) (W.alloc (.cells (madeCells z.cells (n * size)) e)) := by
  subst hs hy
  have hb' : (i.bytes : Int) * (n : Int) ≤ 281474976710656 := by
    have h : ((n * i.bytes : Nat) : Int) ≤ 281474976710656 := by omega
    rw [Int.natCast_mul, Int.mul_comm] at h
    exact h
  have hr := run_make (P := P) W t e i z ht hi hz .i64 .i64 n n (by omega) (Int.le_refl _) hb' (by omega)
  simpa using hr

/-! ### Worlds that differ by draws alone -/
def Dr (w w' : World) : Prop := ∃ q : Nat, w' = w.drewN q
section
variable {w w' w'' : World} {B : Nat} {A : Option Addr} {xs : List Int}
theorem Dr.refl (w : World) : Dr w w := ⟨0, rfl⟩
theorem Dr.drewN (h : Dr w w') (n : Nat) : Dr w (w'.drewN n) := by
  obtain ⟨q, rfl⟩ := h
  exact ⟨q + n, by rw [World.drewN_drewN]⟩
theorem Dr.drew (h : Dr w w') : Dr w w'.drew := h.drewN 1
theorem Dr.trans (h : Dr w w') (k : Dr w' w'') : Dr w w'' := by
  obtain ⟨q, rfl⟩ := k
  exact h.drewN q
theorem Dr.below (h : Dr w w') (B : Nat) : Below B w w' := by
  obtain ⟨q, rfl⟩ := h
  exact bel_drewN (Below.refl _ _) q
theorem Dr.ints (h : Dr w w') (hi : IntsAt w B A xs) : IntsAt w' B A xs := hi.below (h.below B)
/-- A callee that leaves the world as it was, in a quiet region. -/
theorem quietS {P : Program} {f : FuncId} {args : Array Value} {w : World} {n : Nat} {v : Value}
    (h : Calls P f args (w.drewN n) fun e w' => e = .returned v ∧ w.drewN n = w') : Calls P f args (w.drewN n) fun e w'' => e = .returned v ∧ ∃ m, w'' = w.drewN m :=
  h.mono fun _ _ ⟨he, hm⟩ => ⟨he, n, hm.symm⟩
/-- A callee that draws, in a quiet region. -/
theorem quietD {P : Program} {f : FuncId} {args : Array Value} {w : World} {n : Nat} {v : Value}
    (h : Calls P f args (w.drewN n) fun e w' => e = .returned v ∧ Dr (w.drewN n) w') : Calls P f args (w.drewN n) fun e w'' => e = .returned v ∧ ∃ m, w'' = w.drewN m :=
  h.mono fun _ _ ⟨he, m, hm⟩ => ⟨he, n + m, by rw [hm, World.drewN_drewN]⟩
end
end Go.Proofs.Ytemhcobjhpifpaa
