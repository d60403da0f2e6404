/- A number put into a rising list (spec.l1Put). -/
import Derived.Test.YtdiffepokiabkaaLnA
import Derived.Deep.RegionHeld3
import Derived.Deep.DrawnRows
namespace Go.Proofs.Ytdiffepokiabkaa
open Go.ChangeShapes Go.WideShapes Go.ChangeAt Go.RowKit Go.PlainAid
set_option linter.unusedVariables false

theorem flat_int (ys : List Int) (j : Nat) (u : Value) (h : (ys.flatMap encI)[j]? = some u) : j < ys.length ∧ u = .int .i64 (nth ys j) := by
  induction ys generalizing j with
  | nil => simp at h
  | cons y ys ih =>
    rw [List.flatMap_cons] at h
    cases j with
    | zero => simp [encI] at h; exact ⟨by simp, by rw [← h]; rfl⟩
    | succ j =>
      rw [show encI y ++ ys.flatMap encI = .int .i64 y :: ys.flatMap encI from rfl, List.getElem?_cons_succ] at h
      obtain ⟨h1, h2⟩ := ih j h
      exact ⟨by simp; omega, h2⟩
theorem flat_int_len (ys : List Int) : (ys.flatMap encI).length = ys.length := by
  induction ys with
  | nil => rfl
  | cons y ys ih => rw [List.flatMap_cons, List.length_append, ih]; simp [encI]; omega
/-- append(v, ys...) of integers, at a step of a drawn region. -/
theorem step_appsI {ops : Array Oper} {o : Oper} {a : Act} {K : Act → World → Prop} {Q : Exit → Act → World → Prop} {E : Prop} (hgd : o.guard = none) (s x : Operand)
    (ho : o.op = .call { callee := .builtin .append, args := #[s, x], argTypes := #[22, 22] })
    (B : Nat) (v : Value) (xs ys : List Int) (w : World) (hown : OwnI w B v xs) (hs : a.eval s = v) (b i c n : Nat) (hx : a.eval x = .slice (some ⟨b, i, none⟩) n c) (hn : ys.length = n)
    (hc : ∀ j, j < ys.length → w.cell? ⟨b, i + j, none⟩ = some (.int .i64 (nth ys j))) (hl : xs.length + ys.length ≤ 16777216) (hB : B ≤ w.heap.size)
    (h : ∀ v' w', OwnI w' B v' (xs ++ ys) → Below B w w' → w.grownBy w' v.ownBlock → K (a.put o.dst v') w') :
    if Region.wanted o (yielded ops a.tmps) = true then Oper.wp Try.prog o a w K Q else E := by
  have hw : Region.wanted o (yielded ops a.tmps) = true := by simp [Region.wanted, hgd]
  rw [if_pos hw]
  subst hn
  obtain ⟨i0, hi, hz0, hz1, hz2⟩ := info_parts Try.infoI
  refine wp_append_own w s x 22 ho B 3 i0 _ 1 8 Try.underlying22 hi hz0 hz1 hz2 rfl (by omega) v xs.length (xs.flatMap encI) hs hown ⟨b, i, none⟩ ys.length c (ys.flatMap encI) hx (by rw [flat_int_len]; omega) (fun j u hj => ?_) (fun u hu => ?_) (by unfold maxLen; omega) (by omega) hB (fun v' w' ho' hg _ => ?_)
  · obtain ⟨h1, rfl⟩ := flat_int ys j u hj
    rw [show (⟨b, i, none⟩ : Addr).add j = ⟨b, i + j, none⟩ by unfold Addr.add; split <;> simp_all]
    exact hc j h1
  · obtain ⟨y, _, hu⟩ := List.mem_flatMap.1 hu
    simp [encI] at hu
    subst hu
    rfl
  · refine h v' w' ?_ ((Below.refl B w).grown hg hB (fun k hk => ((World.ownsRow.lt hown) k hk).1)) hg
    show w'.ownsRow B 3 1 v' (xs ++ ys).length ((xs ++ ys).flatMap encI)
    rw [List.length_append, List.flatMap_append]
    exact ho'

/-! ### A number put into a rising list -/
def putI : List Int → Int → List Int
  | [], v => [v]
  | x :: xs, v => if x < v then x :: putI xs v else if x = v then x :: xs else v :: x :: xs
theorem put_len (xs : List Int) (v : Int) : (putI xs v).length ≤ xs.length + 1 := by
  induction xs with
  | nil => simp [putI]
  | cons x xs ih =>
    simp only [putI]
    split
    · simp only [List.length_cons]; omega
    · split <;> simp
theorem put_has {xs : List Int} {v : Int} {k : Nat} (h : ∀ j, j < k → nth xs j < v) (hk : k < xs.length) (he : nth xs k = v) : putI xs v = xs := by
  induction xs generalizing k with
  | nil => simp at hk
  | cons x xs ih =>
    cases k with
    | zero => have : x = v := he
              simp [putI, this]
    | succ k =>
      have h0 : x < v := h 0 (by omega)
      simp only [putI]
      rw [if_pos h0, ih (k := k) (fun j hj => h (j + 1) (by omega)) (by simpa using hk) he]
theorem put_at {xs : List Int} {v : Int} {k : Nat} (h : ∀ j, j < k → nth xs j < v) (hk : k ≤ xs.length) (he : k < xs.length → v < nth xs k) : putI xs v = xs.take k ++ ([v] ++ xs.drop k) := by
  induction xs generalizing k with
  | nil => simp at hk; subst hk; rfl
  | cons x xs ih =>
    cases k with
    | zero => have h1 : v < x := he (by simp)
              simp only [putI]
              rw [if_neg (by omega), if_neg (by omega)]; rfl
    | succ k =>
      have h0 : x < v := h 0 (by omega)
      simp only [putI]
      rw [if_pos h0, ih (k := k) (fun j hj => h (j + 1) (by omega)) (by simpa using hk) (fun hlt => he (by simpa using hlt))]
      rfl
theorem nth_take {xs : List Int} {k j : Nat} (h : j < k) : nth (xs.take k) j = nth xs j := by
  unfold nth
  rw [List.getD_eq_getElem?_getD, List.getD_eq_getElem?_getD, List.getElem?_take_of_lt h]
theorem nth_drop (xs : List Int) (k j : Nat) : nth (xs.drop k) j = nth xs (k + j) := by
  unfold nth
  rw [List.getD_eq_getElem?_getD, List.getD_eq_getElem?_getD, List.getElem?_drop]

/-- A slice of numbers in memory from block B on, not nil. -/
def RetN (B : Nat) (xs : List Int) (w : World) (e : Ending) (w' : World) : Prop :=
  ∃ b o c, e = .returned (.slice (some ⟨b, o, none⟩) xs.length c) ∧ IntsIn w' (Zone.new B w'.heap.size) (some ⟨b, o, none⟩) xs ∧ xs.length ≤ c ∧ c ≤ 9223372036854775807 ∧ Below w.heap.size w w'

end Go.Proofs.Ytdiffepokiabkaa
