/- The busiest time: the plain law. -/
import Derived.Test.YtambgommeannnaaFl2
namespace Go.Proofs.Ytambgommeannnaa
set_option linter.unusedVariables false

/-- Does a span contain a time? -/
def inS (s : I2) (t : Int) : Prop := s.a ≤ t ∧ t < s.b
instance (s : I2) (t : Int) : Decidable (inS s t) := by unfold inS; exact inferInstance
/-- How many of the first n spans contain a time. -/
def cnt2 (xs : List I2) (t : Int) : Nat → Nat
  | 0 => 0
  | k + 1 => cnt2 xs t k + if inS (nth2 xs k) t then 1 else 0
theorem cnt2_yes {xs : List I2} {t : Int} {k : Nat} (h : inS (nth2 xs k) t) : cnt2 xs t (k + 1) = cnt2 xs t k + 1 := by simp [cnt2, h]
theorem cnt2_no {xs : List I2} {t : Int} {k : Nat} (h : ¬ inS (nth2 xs k) t) : cnt2 xs t (k + 1) = cnt2 xs t k := by simp [cnt2, h]
theorem cnt2_le (xs : List I2) (t : Int) (n : Nat) : cnt2 xs t n ≤ n := by
  induction n with
  | zero => exact Nat.le_refl _
  | succ n ih => simp only [cnt2]; split <;> omega
theorem cnt2_mono {xs : List I2} {t u : Int} {n : Nat} (h : ∀ j, j < n → inS (nth2 xs j) t → inS (nth2 xs j) u) : cnt2 xs t n ≤ cnt2 xs u n := by
  induction n with
  | zero => exact Nat.le_refl _
  | succ n ih =>
    have h1 := ih (fun j hj => h j (by omega))
    simp only [cnt2]
    by_cases e : inS (nth2 xs n) t
    · rw [if_pos e, if_pos (h n (by omega) e)]; omega
    · rw [if_neg e]; split <;> omega
theorem cnt2_last {xs : List I2} {t : Int} {n : Nat} (h : 0 < cnt2 xs t n) : ∃ k, k < n ∧ inS (nth2 xs k) t ∧ ∀ j, j < n → inS (nth2 xs j) t → (nth2 xs j).a ≤ (nth2 xs k).a := by
  induction n with
  | zero => simp [cnt2] at h
  | succ n ih =>
    by_cases e : inS (nth2 xs n) t
    · by_cases h0 : 0 < cnt2 xs t n
      · obtain ⟨k, hk, h1, h2⟩ := ih h0
        by_cases hle : (nth2 xs n).a ≤ (nth2 xs k).a
        · refine ⟨k, by omega, h1, fun j hj hi => ?_⟩
          by_cases ej : j = n
          · subst ej; exact hle
          · exact h2 j (by omega) hi
        · refine ⟨n, by omega, e, fun j hj hi => ?_⟩
          by_cases ej : j = n
          · subst ej; exact Int.le_refl _
          · have := h2 j (by omega) hi; omega
      · refine ⟨n, by omega, e, fun j hj hi => ?_⟩
        by_cases ej : j = n
        · subst ej; exact Int.le_refl _
        · exfalso
          have : ∀ m, j < m → m ≤ n → 0 < cnt2 xs t m := by
            intro m
            induction m with
            | zero => intro h; omega
            | succ m ihm =>
              intro h1 h2
              by_cases e2 : j = m
              · subst e2; rw [cnt2_yes hi]; omega
              · have := ihm (by omega) (by omega)
                simp only [cnt2]; omega
          exact h0 (this n (by omega) (Nat.le_refl _))
    · rw [cnt2_no e] at h
      obtain ⟨k, hk, h1, h2⟩ := ih h
      refine ⟨k, by omega, h1, fun j hj hi => ?_⟩
      by_cases ej : j = n
      · subst ej; exact absurd hi e
      · exact h2 j (by omega) hi
/-- How many spans contain a time. -/
def cAt (xs : List I2) (t : Int) : Nat := cnt2 xs t xs.length
theorem cAt_le (xs : List I2) (t : Int) : cAt xs t ≤ xs.length := cnt2_le _ _ _
theorem cAt_pos {xs : List I2} {t : Int} {k : Nat} (hk : k < xs.length) (h : inS (nth2 xs k) t) : 0 < cAt xs t := by
  have : ∀ m, k < m → 0 < cnt2 xs t m := by
    intro m
    induction m with
    | zero => intro h; omega
    | succ m ih =>
      intro h1
      by_cases e : k = m
      · subst e; rw [cnt2_yes h]; omega
      · have := ih (by omega)
        simp only [cnt2]; omega
  exact this _ hk

/-! ### The reference's search -/
def bestU (xs : List I2) : Nat → Nat
  | 0 => 0
  | t + 1 => if cAt xs (bestU xs t : Nat) < cAt xs ((t + 1 : Nat) : Int) then t + 1 else bestU xs t
theorem bestU_yes {xs : List I2} {t : Nat} (h : cAt xs (bestU xs t : Nat) < cAt xs ((t + 1 : Nat) : Int)) : bestU xs (t + 1) = t + 1 := by
  simp only [bestU]; rw [if_pos h]
theorem bestU_no {xs : List I2} {t : Nat} (h : ¬ cAt xs (bestU xs t : Nat) < cAt xs ((t + 1 : Nat) : Int)) : bestU xs (t + 1) = bestU xs t := by
  simp only [bestU]; rw [if_neg h]
theorem bestU_spec (xs : List I2) (n : Nat) : bestU xs n ≤ n ∧ (∀ t : Nat, t ≤ n → cAt xs t ≤ cAt xs (bestU xs n : Nat)) ∧ ∀ t : Nat, t < bestU xs n → cAt xs t < cAt xs (bestU xs n : Nat) := by
  induction n with
  | zero =>
    refine ⟨Nat.le_refl _, fun t ht => ?_, fun t ht => ?_⟩
    · obtain rfl : t = 0 := by omega
      exact Nat.le_refl _
    · simp [bestU] at ht
  | succ n ih =>
    obtain ⟨h1, h2, h3⟩ := ih
    by_cases h : cAt xs (bestU xs n : Nat) < cAt xs ((n + 1 : Nat) : Int)
    · rw [bestU_yes h]
      refine ⟨Nat.le_refl _, fun t ht => ?_, fun t ht => ?_⟩
      · by_cases e : t = n + 1
        · subst e; exact Nat.le_refl _
        · have := h2 t (by omega); omega
      · have := h2 t (by omega); omega
    · rw [bestU_no h]
      refine ⟨by omega, fun t ht => ?_, h3⟩
      by_cases e : t = n + 1
      · subst e; omega
      · exact h2 t (by omega)

/-! ### The program's search -/
def takeB (xs : List I2) (k : Nat) (b : Int) (m : Nat) : Prop := m < cAt xs (nth2 xs k).a ∨ (cAt xs (nth2 xs k).a = m ∧ 0 < cAt xs (nth2 xs k).a ∧ (nth2 xs k).a < b)
instance (xs : List I2) (k : Nat) (b : Int) (m : Nat) : Decidable (takeB xs k b m) := by unfold takeB; exact inferInstance
def impU (xs : List I2) : Nat → Int × Nat
  | 0 => (0, 0)
  | k + 1 => if takeB xs k (impU xs k).1 (impU xs k).2 then ((nth2 xs k).a, cAt xs (nth2 xs k).a) else impU xs k
theorem impU_yes {xs : List I2} {k : Nat} (h : takeB xs k (impU xs k).1 (impU xs k).2) : impU xs (k + 1) = ((nth2 xs k).a, cAt xs (nth2 xs k).a) := by
  simp only [impU]; rw [if_pos h]
theorem impU_no {xs : List I2} {k : Nat} (h : ¬ takeB xs k (impU xs k).1 (impU xs k).2) : impU xs (k + 1) = impU xs k := by
  simp only [impU]; rw [if_neg h]
theorem impU_spec (xs : List I2) (n : Nat) :
    (((impU xs n).1 = 0 ∧ (impU xs n).2 = 0) ∨ (0 < (impU xs n).2 ∧ ∃ k, k < n ∧ (nth2 xs k).a = (impU xs n).1 ∧ cAt xs (impU xs n).1 = (impU xs n).2)) ∧
      (∀ k, k < n → cAt xs (nth2 xs k).a ≤ (impU xs n).2) ∧ ∀ k, k < n → 0 < (impU xs n).2 → cAt xs (nth2 xs k).a = (impU xs n).2 → (impU xs n).1 ≤ (nth2 xs k).a := by
  induction n with
  | zero => exact ⟨.inl ⟨rfl, rfl⟩, fun k hk => by omega, fun k hk => by omega⟩
  | succ n ih =>
    obtain ⟨h1, h2, h3⟩ := ih
    by_cases h : takeB xs n (impU xs n).1 (impU xs n).2
    · rw [impU_yes h]
      unfold takeB at h
      refine ⟨.inr ⟨?_, n, by omega, rfl, rfl⟩, fun k hk => ?_, fun k hk hp he => ?_⟩
      · show 0 < cAt xs (nth2 xs n).a
        omega
      · show cAt xs (nth2 xs k).a ≤ cAt xs (nth2 xs n).a
        by_cases e : k = n
        · subst e; exact Nat.le_refl _
        · have := h2 k (by omega); omega
      · have he' : cAt xs (nth2 xs k).a = cAt xs (nth2 xs n).a := he
        show (nth2 xs n).a ≤ (nth2 xs k).a
        by_cases e : k = n
        · subst e; exact Int.le_refl _
        · rcases h with h | ⟨h5, h6, h7⟩
          · have := h2 k (by omega); omega
          · have := h3 k (by omega) (by omega) (by omega); omega
    · rw [impU_no h]
      unfold takeB at h
      refine ⟨?_, fun k hk => ?_, fun k hk hp he => ?_⟩
      · rcases h1 with h1 | ⟨h1, k, h4, h5⟩
        · exact .inl h1
        · exact .inr ⟨h1, k, by omega, h5⟩
      · by_cases e : k = n
        · subst e; omega
        · exact h2 k (by omega)
      · by_cases e : k = n
        · subst e; omega
        · exact h3 k (by omega) hp he

/-- The two searches agree. -/
theorem busy_eq (xs : List I2) (hv : ∀ k, k < xs.length → 0 ≤ (nth2 xs k).a ∧ (nth2 xs k).a ≤ 1799) :
    (impU xs xs.length).1 = (bestU xs 1799 : Nat) ∧ (impU xs xs.length).2 = cAt xs (bestU xs 1799 : Nat) := by
  obtain ⟨i1, i2, i3⟩ := impU_spec xs xs.length
  obtain ⟨s1, s2, s3⟩ := bestU_spec xs 1799
  generalize impU xs xs.length = I at *
  generalize bestU xs 1799 = b at *
  by_cases hc : 0 < cAt xs (b : Int)
  · obtain ⟨k, hk, hin, hlast⟩ := cnt2_last (xs := xs) (t := (b : Int)) (n := xs.length) hc
    have hm : cAt xs (b : Int) ≤ cAt xs (nth2 xs k).a := cnt2_mono (fun j hj hi => ⟨hlast j hj hi, by have := hi.2; have := hin.1; omega⟩)
    obtain ⟨v1, v2⟩ := hv k hk
    obtain ⟨u, hu⟩ : ∃ u : Nat, (nth2 xs k).a = u := ⟨((nth2 xs k).a).toNat, by omega⟩
    have hub : u ≤ b := by have := hin.1; omega
    have e1 : u = b := by
      rcases Nat.lt_or_ge u b with h | h
      · have := s3 u h; rw [hu] at hm; omega
      · omega
    subst e1
    have hle := i2 k hk
    rcases i1 with ⟨_, h0⟩ | ⟨hp, k2, hk2, ea, ec⟩
    · rw [hu] at hle; omega
    · obtain ⟨w1, w2⟩ := hv k2 hk2
      obtain ⟨z, hz⟩ : ∃ z : Nat, I.1 = z := ⟨I.1.toNat, by omega⟩
      have h4 := s2 z (by omega)
      rw [← hz, ec] at h4
      rw [hu] at hle
      have e2 : cAt xs (u : Int) = I.2 := by omega
      have h5 := i3 k hk hp (by rw [hu]; exact e2)
      have e3 : z = u := by
        rcases Nat.lt_or_ge z u with h | h
        · have := s3 z h; rw [← hz, ec] at this; omega
        · omega
      subst e3
      exact ⟨hz, e2.symm⟩
  · have hz : ∀ t : Nat, t ≤ 1799 → cAt xs t = 0 := fun t ht => by have := s2 t ht; omega
    have hb0 : b = 0 := by
      rcases Nat.eq_zero_or_pos b with h | h
      · exact h
      · have := s3 0 h; omega
    rcases i1 with ⟨h1, h2⟩ | ⟨hp, k2, hk2, ea, ec⟩
    · subst hb0
      exact ⟨h1, by rw [h2]; exact (hz 0 (by omega)).symm⟩
    · exfalso
      obtain ⟨w1, w2⟩ := hv k2 hk2
      have := hz ((nth2 xs k2).a.toNat) (by omega)
      rw [Int.toNat_of_nonneg w1, ea, ec] at this
      omega
end Go.Proofs.Ytambgommeannnaa
