/- A day in or out of a rising list: plain. -/
import Derived.Test.YtambgommeannnaaPut
import Derived.Test.YtambgommeannnaaCalC
namespace Go.Proofs.Ytambgommeannnaa
open Go.ChangeShapes Go.WideShapes Go.ChangeAt Go.RowKit Go.PlainAid
set_option linter.unusedVariables false
set_option linter.unusedSimpArgs false

theorem nth_cons0 (x : Int) (xs : List Int) : nth (x :: xs) 0 = x := rfl
theorem nth_consS (x : Int) (xs : List Int) (j : Nat) : nth (x :: xs) (j + 1) = nth xs j := by unfold nth; simp
/-- A list that rises. -/
abbrev Up (xs : List Int) : Prop := xs.Pairwise (fun a b => a < b)
theorem up_of {xs : List Int} {lo hi : Int} (h : RiseTo xs lo hi xs.length) : Up xs := by
  have key : ∀ n i, i < n → n < xs.length → nth xs i < nth xs n := by
    intro n
    induction n with
    | zero => intro i hi; omega
    | succ n ih =>
      intro i hi hn
      have h1 := (h (n + 1) hn).2 (by omega)
      rw [Nat.add_sub_cancel] at h1
      by_cases e : i = n
      · subst e; exact h1
      · have := ih i (by omega) (by omega); omega
  rw [Up, List.pairwise_iff_getElem]
  intro i j hi hj hij
  have := key j i hij hj
  unfold nth at this
  rw [List.getD_eq_getElem?_getD, List.getD_eq_getElem?_getD, List.getElem?_eq_getElem hi, List.getElem?_eq_getElem hj] at this
  exact this
theorem Up.lt {xs : List Int} (h : Up xs) {i j : Nat} (hij : i < j) (hj : j < xs.length) : nth xs i < nth xs j := by
  have := (List.pairwise_iff_getElem.1 h) i j (by omega) hj hij
  unfold nth
  rw [List.getD_eq_getElem?_getD, List.getD_eq_getElem?_getD, List.getElem?_eq_getElem (by omega), List.getElem?_eq_getElem hj]
  exact this
/-- Where a number stands, or would. -/
def posU (xs : List Int) (d : Int) : Nat := xs.countP (fun y => decide (y < d))
theorem posU_le (xs : List Int) (d : Int) : posU xs d ≤ xs.length := List.countP_le_length
theorem posU_ok {xs : List Int} (h : Up xs) (d : Int) : (∀ j, j < posU xs d → nth xs j < d) ∧ (∀ j, posU xs d ≤ j → j < xs.length → d ≤ nth xs j) := by
  induction xs with
  | nil => exact ⟨fun j hj => by simp [posU] at hj, fun j _ hj => by simp at hj⟩
  | cons x xs ih =>
    obtain ⟨h1, h2⟩ := List.pairwise_cons.1 h
    obtain ⟨i1, i2⟩ := ih h2
    by_cases hx : x < d
    · have e : posU (x :: xs) d = posU xs d + 1 := by unfold posU; rw [List.countP_cons_of_pos (by simpa using hx)]
      rw [e]
      refine ⟨fun j hj => ?_, fun j hj hl => ?_⟩
      · cases j with
        | zero => exact hx
        | succ j => rw [nth_consS]; exact i1 j (by omega)
      · cases j with
        | zero => omega
        | succ j => rw [nth_consS]; exact i2 j (by omega) (by simpa using hl)
    · have e0 : posU xs d = 0 := by
        unfold posU
        rw [List.countP_eq_zero]
        intro y hy
        have := h1 y hy
        simp; omega
      have e : posU (x :: xs) d = 0 := by unfold posU; rw [List.countP_cons_of_neg (by simpa using hx)]; exact e0
      rw [e]
      refine ⟨fun j hj => by omega, fun j hj hl => ?_⟩
      cases j with
      | zero => rw [nth_cons0]; omega
      | succ j =>
        rw [nth_consS]
        have := h1 _ (nth_mem (xs := xs) (k := j) (by simpa using hl))
        omega
theorem has_at {xs : List Int} (h : Up xs) {d : Int} (hc : xs.contains d = true) : posU xs d < xs.length ∧ nth xs (posU xs d) = d := by
  obtain ⟨h1, h2⟩ := posU_ok h d
  obtain ⟨j, hj, e⟩ := mem_nth (by simpa using hc : d ∈ xs)
  have hpj : posU xs d ≤ j := by
    by_cases hh : j < posU xs d
    · have := h1 j hh; omega
    · omega
  by_cases e2 : posU xs d = j
  · rw [e2]; exact ⟨hj, e⟩
  · have a := h.lt (i := posU xs d) (j := j) (by omega) hj
    have b := h2 (posU xs d) (Nat.le_refl _) (by omega)
    omega
theorem has_not {xs : List Int} {d : Int} (hc : xs.contains d = false) : ∀ j, j < xs.length → nth xs j ≠ d := by
  intro j hj e
  have : d ∈ xs := e ▸ nth_mem hj
  rw [← List.contains_iff_mem] at this
  rw [hc] at this
  exact absurd this (by simp)
/-- The list without a number. -/
def woL (xs : List Int) (d : Int) : List Int := xs.filter (fun y => !(y == d))
def woF (xs : List Int) (d : Int) : Nat → List Int
  | 0 => []
  | k + 1 => if nth xs k = d then woF xs d k else woF xs d k ++ [nth xs k]
theorem woF_skip {xs : List Int} {d : Int} {k : Nat} (h : nth xs k = d) : woF xs d (k + 1) = woF xs d k := by rw [woF, if_pos h]
theorem woF_take {xs : List Int} {d : Int} {k : Nat} (h : nth xs k ≠ d) : woF xs d (k + 1) = woF xs d k ++ [nth xs k] := by rw [woF, if_neg h]
theorem woF_eq (xs : List Int) (d : Int) : ∀ k, k ≤ xs.length → woF xs d k = (xs.take k).filter (fun y => !(y == d)) := by
  intro k
  induction k with
  | zero => intro _; simp [woF]
  | succ k ih =>
    intro hk
    have e : xs.take (k + 1) = xs.take k ++ [nth xs k] := by
      rw [List.take_add_one]
      unfold nth
      rw [List.getD_eq_getElem?_getD, List.getElem?_eq_getElem (by omega)]
      rfl
    rw [e, List.filter_append]
    by_cases h : nth xs k = d
    · rw [woF_skip h, ih (by omega)]; simp [h]
    · rw [woF_take h, ih (by omega)]; simp [h]
theorem woF_all (xs : List Int) (d : Int) : woF xs d xs.length = woL xs d := by rw [woF_eq _ _ _ (Nat.le_refl _), List.take_length]; rfl
theorem woF_len (xs : List Int) (d : Int) (k : Nat) : (woF xs d k).length ≤ k := by
  induction k with
  | zero => simp [woF]
  | succ k ih =>
    rw [woF]
    split
    · omega
    · rw [List.length_append]; simp; omega
theorem woL_len (xs : List Int) (d : Int) : (woL xs d).length ≤ xs.length := List.length_filter_le _ _
theorem woL_not {xs : List Int} {d : Int} (h : xs.contains d = false) : woL xs d = xs := by
  unfold woL
  rw [List.filter_eq_self]
  intro y hy
  have : y ≠ d := fun e => by
    subst e
    have := List.contains_iff_mem.2 hy
    rw [h] at this
    exact absurd this (by simp)
  simpa using this
theorem woL_at {xs : List Int} (h : Up xs) {d : Int} {p : Nat} (hp : p < xs.length) (e : nth xs p = d) : woL xs d = xs.take p ++ xs.drop (p + 1) := by
  have e1 : xs = xs.take p ++ (nth xs p :: xs.drop (p + 1)) := by
    conv => lhs; rw [← List.take_append_drop p xs]
    rw [List.drop_eq_getElem_cons hp]
    unfold nth
    rw [List.getD_eq_getElem?_getD, List.getElem?_eq_getElem hp]
    rfl
  unfold woL
  conv => lhs; rw [e1]
  rw [List.filter_append, List.filter_cons]
  have hne : ∀ j, j < xs.length → j ≠ p → nth xs j ≠ d := fun j hj hjp e2 => by
    rcases Nat.lt_or_gt_of_ne hjp with g | g
    · have := h.lt g hp; omega
    · have := h.lt g hj; omega
  have f1 : (xs.take p).filter (fun y => !(y == d)) = xs.take p := by
    rw [List.filter_eq_self]
    intro y hy
    obtain ⟨j, hj, e2⟩ := mem_nth hy
    have hj' := hj
    rw [List.length_take] at hj'
    rw [nth_take (by omega)] at e2
    have := hne j (by omega) (by omega)
    rw [e2] at this
    simpa using this
  have f2 : (xs.drop (p + 1)).filter (fun y => !(y == d)) = xs.drop (p + 1) := by
    rw [List.filter_eq_self]
    intro y hy
    obtain ⟨j, hj, e2⟩ := mem_nth hy
    have hj' := hj
    rw [List.length_drop] at hj'
    rw [nth_drop] at e2
    have := hne (p + 1 + j) (by omega) (by omega)
    rw [e2] at this
    simpa using this
  rw [f1, f2, e]
  simp
/-- What withDay makes. -/
def wdL (xs : List Int) (d : Int) (b : Bool) : List Int := if b = true then putI xs d else woL xs d
theorem wdL_put {xs : List Int} (h : Up xs) {d : Int} (hc : xs.contains d = false) : putI xs d = xs.take (posU xs d) ++ ([d] ++ xs.drop (posU xs d)) := by
  obtain ⟨h1, h2⟩ := posU_ok h d
  refine put_at h1 (posU_le xs d) (fun hk => ?_)
  have a := h2 _ (Nat.le_refl _) hk
  have b := has_not hc _ hk
  omega
theorem put_same {xs : List Int} (h : Up xs) {d : Int} (hc : xs.contains d = true) : putI xs d = xs := by
  obtain ⟨h1, h2⟩ := has_at h hc
  exact put_has (posU_ok h d).1 h1 h2
/-- The reference takes a number out and puts it in again. -/
theorem put_wo {xs : List Int} (h : Up xs) (d : Int) : putI (woL xs d) d = putI xs d := by
  cases hc : xs.contains d
  · rw [woL_not hc]
  · obtain ⟨h1, h2⟩ := has_at h hc
    rw [put_same h hc, woL_at h h1 h2]
    have lt : (xs.take (posU xs d)).length = posU xs d := by rw [List.length_take]; omega
    have hk : posU xs d ≤ (xs.take (posU xs d) ++ xs.drop (posU xs d + 1)).length := by rw [List.length_append]; omega
    rw [put_at (k := posU xs d) (fun j hj => ?_) hk (fun hlt => ?_)]
    · rw [List.take_append_of_le_length (by omega), List.drop_append_of_le_length (by omega)]
      rw [List.take_take, Nat.min_self, List.drop_take, Nat.sub_self, List.take_zero, List.nil_append]
      have e1 : xs = xs.take (posU xs d) ++ (nth xs (posU xs d) :: xs.drop (posU xs d + 1)) := by
        conv => lhs; rw [← List.take_append_drop (posU xs d) xs]
        rw [List.drop_eq_getElem_cons h1]
        unfold nth
        rw [List.getD_eq_getElem?_getD, List.getElem?_eq_getElem h1]
        rfl
      conv => rhs; rw [e1, h2]
      rfl
    · have e : nth (xs.take (posU xs d) ++ xs.drop (posU xs d + 1)) j = nth xs j := by
        unfold nth
        rw [List.getD_eq_getElem?_getD, List.getElem?_append_left (by omega), List.getElem?_take_of_lt hj, ← List.getD_eq_getElem?_getD]
      rw [e]
      exact (posU_ok h d).1 j hj
    · rw [List.length_append, List.length_drop, lt] at hlt
      have e : nth (xs.take (posU xs d) ++ xs.drop (posU xs d + 1)) (posU xs d) = nth xs (posU xs d + 1) := by
        unfold nth
        rw [List.getD_eq_getElem?_getD, List.getElem?_append_right (by omega), lt, Nat.sub_self, List.getElem?_drop, ← List.getD_eq_getElem?_getD]
      rw [e]
      have := h.lt (Nat.lt_succ_self (posU xs d)) (by omega)
      rw [h2] at this
      exact this
/-- What ExceptDay returns. -/
def exU (d : Int) (us : List Int) (day : Int) (r : Bool) : List Int := wdL us day (r && !wdB d day)
def exV (d : Int) (vs : List Int) (day : Int) (r : Bool) : List Int := wdL vs day (!r && wdB d day)
def exH (f t d : Int) (us vs : List Int) (day : Int) : Bool := calB f t d us vs && inB day f t
def exB (f t d : Int) (us vs : List Int) (day : Int) (r : Bool) : Bool := exH f t d us vs day && calB f t d (exU d us day r) (exV d vs day r)
def exI (f t d : Int) (us vs : List Int) (day : Int) (r : Bool) (v : Int) : Int := if exB f t d us vs day r = true then v else 0
def exX (f t d : Int) (us vs : List Int) (day : Int) (r : Bool) (xs : List Int) : List Int := if exB f t d us vs day r = true then xs else []
theorem exB_h {f t d : Int} {us vs : List Int} {day : Int} {r : Bool} (h : exH f t d us vs day = false) : exB f t d us vs day r = false := by unfold exB; rw [h]; rfl
theorem exB_c {f t d : Int} {us vs : List Int} {day : Int} {r : Bool} (h : calB f t d (exU d us day r) (exV d vs day r) = false) : exB f t d us vs day r = false := by unfold exB; rw [h]; simp
theorem exB_y {f t d : Int} {us vs : List Int} {day : Int} {r : Bool} (h : exH f t d us vs day = true) (h' : calB f t d (exU d us day r) (exV d vs day r) = true) : exB f t d us vs day r = true := by unfold exB; rw [h, h']; rfl
theorem wdL_len (xs : List Int) (d : Int) (b : Bool) : (wdL xs d b).length ≤ xs.length + 1 := by
  unfold wdL
  split
  · exact put_len _ _
  · have := woL_len xs d; omega
theorem exX_len (f t d : Int) (us vs : List Int) (day : Int) (r : Bool) : (exX f t d us vs day r (exU d us day r)).length ≤ 1048576 ∧ (exX f t d us vs day r (exV d vs day r)).length ≤ 1048576 := by
  unfold exX
  split
  · rename_i h
    unfold exB at h
    simp only [Bool.and_eq_true] at h
    have h2 : CalOk f t d (exU d us day r) (exV d vs day r) := of_decide_eq_true h.2
    have h3 := h2.1
    unfold HeadB at h3
    omega
  · simp
end Go.Proofs.Ytambgommeannnaa
