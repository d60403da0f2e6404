/- A queue of the call's own. -/
import Derived.Test.YtemhcobjhpifpaaSwa
import Derived.Test.YtemhcobjhpifpaaArr
import Derived.Test.YtemhcobjhpifpaaAr2
import Derived.Test.YtemhcobjhpifpaaApp
import Derived.ArgAppend
namespace Go.Proofs.Ytemhcobjhpifpaa
open Go.ChangeShapes Go.WideShapes Go.ChangeAt Go.RowKit Go.PlainAid
set_option linter.unusedVariables false

/-! ### A queue of the call's own: a slice that is cut at its head and appended to -/
/-- From place o of block g on lie n numbers, the queue q; c cells are there. -/
structure QueI (w : World) (B X g o n c : Nat) (q : List Nat) : Prop where
  num : n = q.length
  lo : B ≤ g
  lt : g < w.heap.size
  ne : g ≠ X
  cap : n ≤ c
  fit : c ≤ 9223372036854775807
  there : ∀ j, j < c → (w.cell? ⟨g, o + j, none⟩).isSome = true
  free : ∀ j, w.frozen? ⟨g, j, none⟩ = false
  at' : ∀ j, j < n → w.cell? ⟨g, o + j, none⟩ = some (.int .i64 (q.getD j 0 : Nat))
section
variable {w w' : World} {B X g o n c : Nat} {q : List Nat}
theorem QueI.same (h : QueI w B X g o n c q) (hs : Same w w' g) (hz : w.heap.size ≤ w'.heap.size) : QueI w' B X g o n c q :=
  ⟨h.num, h.lo, Nat.lt_of_lt_of_le h.lt hz, h.ne, h.cap, h.fit, fun j hj => by rw [(hs _).1]; exact h.there j hj, fun j => (hs j).2.trans (h.free j), fun j hj => (hs _).1.trans (h.at' j hj)⟩
theorem QueI.call (h : QueI w B X g o n c q) (hb : Below w.heap.size w w') : QueI w' B X g o n c q := h.same (Same.of_below hb h.lt) hb.size
theorem QueI.setX (h : QueI w B X g o n c q) (i : Nat) (u : Value) : QueI (w.setCell ⟨X, i, none⟩ u) B X g o n c q := h.same (Same.set w h.ne u) (by simp)
theorem QueI.start {T : TypeId} (f : Nat) (hB : B ≤ w.heap.size) (hX : X ≠ w.heap.size) : QueI (w.alloc (.cells #[.int .i64 (f : Int)] T)) B X w.heap.size 0 1 1 [f] where
  num := rfl
  lo := hB
  lt := by simp
  ne := Ne.symm hX
  cap := Nat.le_refl _
  fit := by omega
  there := fun j hj => by obtain rfl : j = 0 := by omega
                          go_simp
  free := fun j => by
    have e1 : (w.alloc (.cells #[.int .i64 (f : Int)] T)).heap[w.heap.size]? = some (.cells #[.int .i64 (f : Int)] T) := heap_alloc_new w _
    unfold World.frozen?
    simp only [e1]
    simp
  at' := fun j hj => by obtain rfl : j = 0 := by omega
                        go_simp
theorem QueI.head {h : Nat} {l : List Nat} (k : QueI w B X g o n c (h :: l)) : 0 < n ∧ n = l.length + 1 ∧ w.cell? ⟨g, o, none⟩ = some (.int .i64 (h : Int)) := by
  have h1 := k.num
  simp only [List.length_cons] at h1
  exact ⟨by omega, h1, k.at' 0 (by omega)⟩
/-- The head is cut off. -/
theorem QueI.tail {h : Nat} {l : List Nat} (k : QueI w B X g o n c (h :: l)) (hc : c ≠ 1) : QueI w B X g (o + 1) (n - 1) (c - 1) l := by
  have h1 := k.num
  simp only [List.length_cons] at h1
  have h2 := k.cap
  have h3 := k.fit
  refine ⟨by omega, k.lo, k.lt, k.ne, by omega, by omega, fun j hj => ?_, k.free, fun j hj => ?_⟩
  · rw [show o + 1 + j = o + (j + 1) by omega]; exact k.there (j + 1) (by omega)
  · rw [show o + 1 + j = o + (j + 1) by omega]; exact k.at' (j + 1) (by omega)
theorem QueI.tail1 {h : Nat} {l : List Nat} (k : QueI w B X g o n c (h :: l)) (hc : c = 1) : l = [] ∧ n = 1 ∧ QueI w B X g o 0 0 l := by
  have h1 := k.num
  simp only [List.length_cons] at h1
  have h2 := k.cap
  obtain rfl : l = [] := List.eq_nil_of_length_eq_zero (by omega)
  refine ⟨rfl, by simpa using h1, rfl, k.lo, k.lt, k.ne, Nat.le_refl _, by omega, fun j hj => by omega, k.free, fun j hj => by omega⟩
end
theorem ArrI.same {w w' : World} {g n : Nat} {F : Nat → Int} (h : ArrI w g n F) (hs : Same w w' g) (hz : w.heap.size ≤ w'.heap.size) : ArrI w' g n F :=
  ⟨fun j hj => (hs j).1.trans (h.cells j hj), fun j => (hs j).2.trans (h.free j), Nat.lt_of_lt_of_le h.lt hz⟩
theorem getD_map_int (q : List Nat) (j : Nat) (u : Value) (h : (q.map fun x : Nat => Value.int .i64 (x : Int))[j]? = some u) : j < q.length ∧ u = .int .i64 (q.getD j 0 : Nat) := by
  rw [List.getElem?_map] at h
  cases hq : q[j]? with
  | none => rw [hq] at h; simp at h
  | some x =>
    rw [hq] at h
    simp at h
    refine ⟨by have := (List.getElem?_eq_some_iff.1 hq).1; exact this, ?_⟩
    rw [List.getD_eq_getElem?_getD, hq, ← h]
    rfl
/-- append(queue, y). -/
theorem wp_appQ {ops : Array Oper} {rest : List Oper} {o : Oper} {a : Act} {Q : Exit → Act → World → Prop} (hgd : o.guard = none) (s x : Operand)
    (ho : o.op = .call { callee := .builtin .append, args := #[s, x], argTypes := #[29, 29] })
    (B X g b n c : Nat) (q : List Nat) (y : Nat) (w : World) (hq : QueI w B X g b n c q) (hs : a.eval s = .slice (some ⟨g, b, none⟩) n c) (m : Nat) (hx : a.eval x = .slice (some ⟨m, 0, none⟩) 1 1) (hnw : m = w.heap.size) (hl : n ≤ 16777216) (hB : B ≤ w.heap.size) (hX : X < w.heap.size)
    (h : ∀ g' b' c' w', QueI w' B X g' b' (n + 1) c' (q ++ [y]) → Below B w w' → Same w w' X → w.heap.size ≤ w'.heap.size → wpList Try.prog ops Q rest (a.put o.dst (.slice (some ⟨g', b', none⟩) (n + 1) c')) w') :
    wpList Try.prog ops Q (o :: rest) a (w.alloc (.cells #[.int .i64 (y : Int)] 3)) := by
  subst hnw
  have hn := hq.num
  have hfit := hq.fit
  have hca := hq.cap
  obtain ⟨i0, hi, hz0, hz1, hz2⟩ := info_parts Try.infoI
  have hq1 : QueI (w.alloc (.cells #[.int .i64 (y : Int)] 3)) B X g b n c q := hq.call ((Below.refl _ _).alloc (Nat.le_refl _) _)
  have hb1 : Below B w (w.alloc (.cells #[.int .i64 (y : Int)] 3)) := (Below.refl _ _).alloc hB _
  have hX1 : Same w (w.alloc (.cells #[.int .i64 (y : Int)] 3)) X := Same.of_below ((Below.refl _ _).alloc (Nat.le_refl _) _) hX
  have hlast : (q ++ [y]).getD n 0 = y := by rw [hn, List.getD_eq_getElem?_getD, List.getElem?_append_right (Nat.le_refl _)]; simp
  have hfirst : ∀ j, j < n → (q ++ [y]).getD j 0 = q.getD j 0 := fun j hj => by
    rw [List.getD_eq_getElem?_getD, List.getElem?_append_left (by omega), List.getD_eq_getElem?_getD]
  refine wpList_append_arg (w.alloc (.cells #[.int .i64 (y : Int)] 3)) hgd s x 29 ho 3 i0 _ 1 8 Try.underlying29 hi hz0 hz1 hz2 rfl (by omega) g b n c (q.map fun x : Nat => Value.int .i64 (x : Int)) hs (by rw [List.length_map]; omega) (fun j u hj => ?_) ⟨w.heap.size, 0, none⟩ 1 1 [.int .i64 (y : Int)] hx rfl (fun j u hj => ?_) (fun u hu => ?_) (fun hr j hj => ?_) (by unfold maxLen; omega) (by omega) (fun hr => ?_) (fun hr v' w' hown hgr => ?_)
  · obtain ⟨h1, rfl⟩ := getD_map_int q j u hj
    exact hq1.at' j (by omega)
  · cases j with
    | zero =>
      simp at hj
      subst hj
      rw [show (⟨w.heap.size, 0, none⟩ : Addr).add 0 = ⟨w.heap.size, 0, none⟩ by unfold Addr.add; split <;> simp_all]
      go_simp
    | succ j => simp at hj
  · simp at hu; subst hu; rfl
  · obtain rfl : j = 0 := by simpa using hj
    rw [Nat.mul_one, Nat.add_zero]
    exact ⟨hq1.there n (by omega), hq1.free _⟩
  · rw [Nat.mul_one]
    show wpList _ _ _ _ _ ((w.alloc (.cells #[.int .i64 (y : Int)] 3)).setCell ⟨g, b + n, none⟩ (.int .i64 (y : Int)))
    have hsome := hq1.there n (by omega)
    obtain ⟨v, hv⟩ := Option.isSome_iff_exists.1 hsome
    refine h g b c _ ⟨by rw [List.length_append]; simp; omega, hq1.lo, by have := hq1.lt; simpa [World.setCell] using this, hq1.ne, by omega, hfit, fun j hj => ?_, fun j => by rw [World.frozen?_setCell]; exact hq1.free j, fun j hj => ?_⟩ (hb1.setCell hq.lo _) (hX1.trans (Same.set _ (Ne.symm hq.ne) _)) (by simp)
    · by_cases e : j = n
      · subst e; rw [World.cell?_setCell_same _ _ _ hv]; rfl
      · rw [World.cell?_setCell_other _ _ _ _ (addr_ne (by omega))]; exact hq1.there j hj
    · by_cases e : j = n
      · subst e; rw [World.cell?_setCell_same _ _ _ hv, hlast]
      · rw [World.cell?_setCell_other _ _ _ _ (addr_ne (by omega)), hfirst j (by omega)]; exact hq1.at' j (by omega)
  · obtain ⟨h1, h2⟩ := hown
    rcases h2 with ⟨_, h2⟩ | ⟨g', cap, cur, rfl, hg', hh, hle, hcm, r1, r2⟩
    · omega
    · have hlt : g' < w'.heap.size := (Array.getElem?_eq_some_iff.1 hh).1
      have hz := hgr.size
      simp at hz hg'
      unfold maxLen at hcm
      have hcell : ∀ j, w'.cell? ⟨g', 0 + j, none⟩ = cur[j]? := fun j => by
        rw [Nat.zero_add]
        unfold World.cell?
        simp only [hh]
        rfl
      have hbel : Below (w.alloc (.cells #[.int .i64 (y : Int)] 3)).heap.size (w.alloc (.cells #[.int .i64 (y : Int)] 3)) w' := (Below.refl _ _).grown hgr (Nat.le_refl _) (fun k hk => by cases hk)
      refine h g' 0 cap w' ⟨by rw [List.length_append]; simp; omega, by omega, hlt, by omega, hle, by omega, fun j hj => ?_, fun j => ?_, fun j hj => ?_⟩ (hb1.trans (hbel.mono (by simp; omega))) (hX1.trans (Same.of_below hbel (by simp; omega))) (by omega)
      · rw [hcell, Array.getElem?_eq_getElem (by omega)]; rfl
      · unfold World.frozen?
        simp only [hh]
        simp
      · rw [hcell]
        have e : cur[j]? = (q.map (fun x : Nat => Value.int .i64 (x : Int)) ++ [.int .i64 (y : Int)])[j]? := by
          rw [← r2, ← Array.getElem?_toList, List.getElem?_take_of_lt (by omega)]
        rw [e]
        by_cases e2 : j = n
        · subst e2
          rw [hlast, List.getElem?_append_right (by simp; omega)]
          simp [hn]
        · rw [hfirst j (by omega), List.getElem?_append_left (by simp; omega), List.getElem?_map, List.getD_eq_getElem?_getD]
          rw [List.getElem?_eq_getElem (by omega)]
          rfl

end Go.Proofs.Ytemhcobjhpifpaa
