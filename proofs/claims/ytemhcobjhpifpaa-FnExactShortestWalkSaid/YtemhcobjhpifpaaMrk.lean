/- What the laws' marks do to memory: worlds that differ by marks; marks of integers, strings, lines, networks. -/
import Derived.Test.YtemhcobjhpifpaaZon
namespace Go.Proofs.Ytemhcobjhpifpaa
open Go.ChangeShapes Go.WideShapes Go.ChangeAt Go.RowKit Go.PlainAid
set_option linter.unusedVariables false

/-- A cell that is the same, or an integer or a string and is one still. -/
def MkCell (v v' : Option Value) : Prop := v' = v ∨ (∃ i j : Int, v = some (.int .i64 i) ∧ v' = some (.int .i64 j)) ∨ ∃ s t : ByteArray, v = some (.string s) ∧ v' = some (.string t)
theorem MkCell.refl (v : Option Value) : MkCell v v := Or.inl rfl
theorem MkCell.trans {a b c : Option Value} (h : MkCell a b) (k : MkCell b c) : MkCell a c := by
  rcases h with rfl | ⟨i, j, rfl, rfl⟩ | ⟨s, t, rfl, rfl⟩
  · exact k
  · rcases k with rfl | ⟨i', j', e, rfl⟩ | ⟨s', t', e, rfl⟩
    · exact Or.inr (Or.inl ⟨_, _, rfl, rfl⟩)
    · exact Or.inr (Or.inl ⟨_, _, rfl, rfl⟩)
    · cases e
  · rcases k with rfl | ⟨i', j', e, rfl⟩ | ⟨s', t', e, rfl⟩
    · exact Or.inr (Or.inr ⟨_, _, rfl, rfl⟩)
    · cases e
    · exact Or.inr (Or.inr ⟨_, _, rfl, rfl⟩)

/-- The blocks lo .. hi have been marked; the others are as they were. -/
structure Mk (lo hi : Nat) (w w' : World) : Prop where
  os : w'.os = w.os
  tape : w'.tape = w.tape
  output : w'.output = w.output
  size : w.heap.size ≤ w'.heap.size
  out : ∀ b, (b < lo ∨ hi ≤ b) → b < w.heap.size → w'.heap[b]? = w.heap[b]?
  ins : ∀ b, lo ≤ b → b < hi → ∀ o, w'.frozen? ⟨b, o, none⟩ = w.frozen? ⟨b, o, none⟩ ∧ MkCell (w.cell? ⟨b, o, none⟩) (w'.cell? ⟨b, o, none⟩)
section
variable {lo hi : Nat} {w w' w'' : World}
theorem Mk.refl (lo hi : Nat) (w : World) : Mk lo hi w w := ⟨rfl, rfl, rfl, Nat.le_refl _, fun _ _ _ => rfl, fun _ _ _ _ => ⟨rfl, .refl _⟩⟩
theorem Mk.trans (h : Mk lo hi w w') (k : Mk lo hi w' w'') : Mk lo hi w w'' :=
  ⟨k.os.trans h.os, k.tape.trans h.tape, k.output.trans h.output, Nat.le_trans h.size k.size, fun b hb hs => (k.out b hb (Nat.lt_of_lt_of_le hs h.size)).trans (h.out b hb hs),
    fun b h1 h2 o => ⟨(k.ins b h1 h2 o).1.trans (h.ins b h1 h2 o).1, (h.ins b h1 h2 o).2.trans (k.ins b h1 h2 o).2⟩⟩
theorem Mk.of_below (h : Below w.heap.size w w') (hh : hi ≤ w.heap.size) : Mk lo hi w w' :=
  ⟨h.os, h.tape, h.output, h.size, fun b _ hs => h.block b hs, fun b _ h2 o => by
    have hs := Same.of_below h (b := b) (Nat.lt_of_lt_of_le h2 hh)
    exact ⟨(hs o).2, Or.inl (hs o).1⟩⟩
theorem Mk.below (h : Mk lo hi w w') (hl : lo ≤ w.heap.size) : Below lo w w' := ⟨h.os, h.tape, h.output, h.size, fun b hb => h.out b (.inl hb) (Nat.lt_of_lt_of_le hb hl)⟩
theorem Mk.same (h : Mk lo hi w w') {b : Nat} (hb : b < lo ∨ hi ≤ b) (hs : b < w.heap.size) : Same w w' b := fun o =>
  ⟨World.cell?_of_block (w := w) (a := ⟨b, o, none⟩) (h.out b hb hs), World.frozen?_of_block (w := w) (a := ⟨b, o, none⟩) (h.out b hb hs)⟩
theorem Mk.set {b o : Nat} {u : Value} (h1 : lo ≤ b) (h2 : b < hi) (hc : MkCell (w.cell? ⟨b, o, none⟩) (some u)) (hv : ∃ v, w.cell? ⟨b, o, none⟩ = some v) : Mk lo hi w (w.setCell ⟨b, o, none⟩ u) := by
  refine ⟨rfl, rfl, rfl, by simp, fun c hc hs => Below.heap_setCell _ _ _ _ (by simp; omega), fun c h3 h4 i => ⟨World.frozen?_setCell _ _ _ _, ?_⟩⟩
  by_cases e : (⟨c, i, none⟩ : Addr) = ⟨b, o, none⟩
  · obtain ⟨v, hv⟩ := hv
    rw [e, World.cell?_setCell_same _ _ _ hv]
    exact hc
  · rw [World.cell?_setCell_other _ _ _ _ (fun h => e h.symm)]
    exact .refl _
theorem Mk.set_int {b o : Nat} {i j : Int} (h1 : lo ≤ b) (h2 : b < hi) (hc : w.cell? ⟨b, o, none⟩ = some (.int .i64 i)) : Mk lo hi w (w.setCell ⟨b, o, none⟩ (.int .i64 j)) :=
  Mk.set h1 h2 (by rw [hc]; exact Or.inr (Or.inl ⟨_, _, rfl, rfl⟩)) ⟨_, hc⟩
theorem Mk.set_str {b o : Nat} {s t : ByteArray} (h1 : lo ≤ b) (h2 : b < hi) (hc : w.cell? ⟨b, o, none⟩ = some (.string s)) : Mk lo hi w (w.setCell ⟨b, o, none⟩ (.string t)) :=
  Mk.set h1 h2 (by rw [hc]; exact Or.inr (Or.inr ⟨_, _, rfl, rfl⟩)) ⟨_, hc⟩
theorem Mk.int (h : Mk lo hi w w') {b o : Nat} {i : Int} (hc : w.cell? ⟨b, o, none⟩ = some (.int .i64 i)) : ∃ j, w'.cell? ⟨b, o, none⟩ = some (.int .i64 j) := by
  by_cases hb : b < lo ∨ hi ≤ b
  · exact ⟨i, (((h.same hb (World.block_lt_of_cell? _ _ hc)) o).1).trans hc⟩
  · have := (h.ins b (by omega) (by omega) o).2
    rw [hc] at this
    rcases this with e | ⟨_, j, _, e⟩ | ⟨s, t, e, _⟩
    · exact ⟨i, e⟩
    · exact ⟨j, e⟩
    · cases e
theorem Mk.str (h : Mk lo hi w w') {b o : Nat} {s : ByteArray} (hc : w.cell? ⟨b, o, none⟩ = some (.string s)) : ∃ t, w'.cell? ⟨b, o, none⟩ = some (.string t) := by
  by_cases hb : b < lo ∨ hi ≤ b
  · exact ⟨s, (((h.same hb (World.block_lt_of_cell? _ _ hc)) o).1).trans hc⟩
  · have := (h.ins b (by omega) (by omega) o).2
    rw [hc] at this
    rcases this with e | ⟨i, j, e, _⟩ | ⟨_, t, _, e⟩
    · exact ⟨s, e⟩
    · cases e
    · exact ⟨t, e⟩
theorem Mk.sl (h : Mk lo hi w w') {b o : Nat} {A : Option Addr} {n c : Nat} (hc : w.cell? ⟨b, o, none⟩ = some (.slice A n c)) : w'.cell? ⟨b, o, none⟩ = some (.slice A n c) := by
  by_cases hb : b < lo ∨ hi ≤ b
  · exact (((h.same hb (World.block_lt_of_cell? _ _ hc)) o).1).trans hc
  · have := (h.ins b (by omega) (by omega) o).2
    rw [hc] at this
    rcases this with e | ⟨i, j, e, _⟩ | ⟨_, t, e, _⟩
    · exact e
    · cases e
    · cases e
theorem Mk.free (h : Mk lo hi w w') {b o : Nat} (h1 : lo ≤ b) (h2 : b < hi) : w'.frozen? ⟨b, o, none⟩ = w.frozen? ⟨b, o, none⟩ := (h.ins b h1 h2 o).1
/-- What is read elsewhere is read as before. -/
theorem Mk.sl_keep {α : Type} [Inhabited α] {E : Rd α} [RdOk E] {st : Nat → Nat} {Z : Zone} {A : Option Addr} {xs : List α} (h : Mk lo hi w w') (hs : Sl E st w Z A xs) (hz : ∀ b, Z.ok b → (b < lo ∨ hi ≤ b) ∧ b < w.heap.size) : Sl E st w' Z A xs :=
  hs.keep fun c hc => h.same (hz c hc).1 (hz c hc).2
end

/-- The marks from K on. -/
def marks (K n : Nat) : List Int := (List.range n).map fun j => ((K + j : Nat) : Int)
theorem marks_length (K n : Nat) : (marks K n).length = n := by simp [marks]
theorem nth_marks {K n j : Nat} (h : j < n) : nth (marks K n) j = ((K + j : Nat) : Int) := by
  unfold nth marks
  rw [List.getD_eq_getElem?_getD, List.getElem?_map, List.getElem?_range h]
  rfl

/-- Integers behind marks. -/
theorem IntsIn.mk {lo hi : Nat} {w w' : World} {Z : Zone} {A : Option Addr} {xs : List Int} (h : IntsIn w Z A xs) (hm : Mk lo hi w w') (hz : Z.soft → ∀ b, Z.ok b → lo ≤ b ∧ b < hi) : ∃ ys : List Int, ys.length = xs.length ∧ IntsIn w' Z A ys := by
  by_cases h0 : 0 < xs.length
  · obtain ⟨b, o, e, hb, hf, hc⟩ := h h0
    have each : ∀ j, j < xs.length → ∃ i, w'.cell? ⟨b, o + j, none⟩ = some (.int .i64 i) := fun j hj => hm.int (hc j hj)
    have hz2 : ∃ f : Nat → Int, ∀ j, j < xs.length → w'.cell? ⟨b, o + j, none⟩ = some (.int .i64 (f j)) :=
      ⟨fun j => if h : j < xs.length then (each j h).choose else 0, fun j hj => by
        simp only [hj, dif_pos]
        exact (each j hj).choose_spec⟩
    obtain ⟨f, hf2⟩ := hz2
    refine ⟨(List.range xs.length).map f, by simp, fun _ => ⟨b, o, e, hb, fun hs j => ?_, fun j hj => ?_⟩⟩
    · rw [hm.free (hz hs b hb).1 (hz hs b hb).2]
      exact hf hs j
    · have hj' : j < xs.length := by simpa using hj
      have e2 : ((List.range xs.length).map f).getD j default = f j := by
        rw [List.getD_eq_getElem?_getD, List.getElem?_map, List.getElem?_range hj']
        rfl
      show w'.cell? ⟨b, o + j, none⟩ = some (.int .i64 (((List.range xs.length).map f).getD j default))
      rw [e2]
      exact hf2 j hj'
  · exact ⟨xs, rfl, fun hn => absurd hn h0⟩

set_option maxHeartbeats 400000 in
theorem markIntS_any (lo hi : Nat) (A : Option Addr) (c : Nat) (xs : List Int) (K : Nat) (w : World) (h : IntsIn w (Zone.new lo hi) A xs) (hn : xs.length ≤ 1048576) (hK : K ≤ 1099511627776) :
    Calls Try.prog 15 #[.slice A xs.length c, .int .i64 (K : Nat)] w fun e w' => e = .returned (.int .i64 ((K + xs.length : Nat) : Int)) ∧ Mk lo hi w w' ∧ IntsIn w' (Zone.new lo hi) A (marks K xs.length) := by
  have HX := Lib.hid h
  clear h
  go_enter Try.func15, Try.ntmps15
  go_wp2
  go_loopw [1, 5] (fun s i wr => ∃ j : Nat, j ≤ xs.length ∧ i = .int .i64 j ∧ s = .int .i64 ((K + j : Nat) : Int) ∧ Mk lo hi w wr ∧ ∀ b o, A = some ⟨b, o, none⟩ → ∀ i, i < j → wr.cell? ⟨b, o + i, none⟩ = some (.int .i64 ((K + i : Nat) : Int))) (fun _ i _ => xs.length - (intOf i).toNat)
  case atStart => exact ⟨0, Nat.zero_le _, rfl, rfl, Mk.refl _ _ _, fun _ _ _ i hi => by omega⟩
  case round =>
    obtain ⟨k, hk, rfl, rfl, hm, hp⟩ := hrel
    have HM := Lib.hid hm
    have HP := Lib.hid hp
    clear hp
    by_cases hlt : k < xs.length
    · obtain ⟨b, o, rfl, hz, hf, hc⟩ := HX.out (by omega)
      obtain ⟨v, hv⟩ := hm.int (hc k hlt)
      have hfr : wr.frozen? ⟨b, o + k, none⟩ = false := by rw [hm.free hz.1 hz.2]; exact hf trivial _
      have HS : Hid (∀ b' o', (some ⟨b, o, none⟩ : Option Addr) = some ⟨b', o', none⟩ → ∀ i, i < k + 1 → (wr.setCell ⟨b, o + k, none⟩ (.int .i64 ((K + k : Nat) : Int))).cell? ⟨b', o' + i, none⟩ = some (.int .i64 ((K + i : Nat) : Int))) := Lib.hid (fun b' o' e i hi => by
        injection e with e
        injection e with e1 e2
        subst e1 e2
        by_cases e : i = k
        · subst e; exact World.cell?_setCell_same _ _ _ hv
        · rw [World.cell?_setCell_other _ _ _ _ (addr_ne (by omega))]; exact HP.out _ _ rfl i (by omega))
      have HM2 := Lib.hid (HM.out.trans (Mk.set_int (j := ((K + k : Nat) : Int)) hz.1 hz.2 hv))
      clear hm hc hf hz
      go_wp2
      go_roundw
      case rel => exact ⟨k + 1, by omega, by go_num, by go_num, HM2.out, HS.out⟩
      case measure => simp [intOf]; omega
    · obtain rfl : k = xs.length := by omega
      clear hm
      go_wp2
      go_ret
      refine ⟨rfl, HM.out, fun hn0 => ?_⟩
      rw [marks_length] at hn0
      obtain ⟨b, o, e, hz, hf, hc⟩ := HX.out hn0
      refine ⟨b, o, e, hz, fun hs j => by rw [HM.out.free hz.1 hz.2]; exact hf hs j, fun j hj => ?_⟩
      rw [marks_length] at hj
      show wr.cell? ⟨b, o + j, none⟩ = some (.int .i64 (nth (marks K xs.length) j))
      rw [nth_marks hj]
      exact HP.out b o e j hj

set_option maxHeartbeats 400000 in
theorem heldIntS_any (A : Option Addr) (c n K : Nat) (w : World) (Z : Zone) (h : IntsIn w Z A (marks K n)) (hn : n ≤ 1048576) (hK : K ≤ 1099511627776) :
    Calls Try.prog 16 #[.slice A n c, .int .i64 (K : Nat)] w fun e w' => e = .returned (.int .i64 ((K + n : Nat) : Int)) ∧ w = w' := by
  have HX := Lib.hid h
  clear h
  go_enter Try.func16, Try.ntmps16
  go_wp2
  go_loopw [1, 5] (fun s i wr => ∃ j : Nat, j ≤ n ∧ i = .int .i64 j ∧ s = .int .i64 ((K + j : Nat) : Int) ∧ w = wr) (fun _ i _ => n - (intOf i).toNat)
  case atStart => exact ⟨0, Nat.zero_le _, rfl, rfl, rfl⟩
  case round =>
    obtain ⟨k, hk, rfl, rfl, rfl⟩ := hrel
    by_cases hlt : k < n
    · obtain ⟨b, o, rfl, _, hc0⟩ := HX.out.get (k := k) (by rw [marks_length]; exact hlt)
      have hc : w.cell? ⟨b, o + k, none⟩ = some (.int .i64 ((K + k : Nat) : Int)) := by rw [← nth_marks hlt]; exact hc0
      clear hc0
      go_wp2
      go_roundw
      case rel => exact ⟨k + 1, by omega, by go_num, by go_num, trivial⟩
      case measure => simp [intOf]; omega
    · obtain rfl : k = n := by omega
      go_wp2
      go_ret
      exact ⟨rfl, rfl⟩
end Go.Proofs.Ytemhcobjhpifpaa
