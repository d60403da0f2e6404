/- Merging spans: the plain law. -/
import Derived.Test.YtambgommeannnaaBtp
import Derived.Test.YtambgommeannnaaSpv
namespace Go.Proofs.Ytambgommeannnaa
open Go.ChangeShapes Go.WideShapes Go.ChangeAt Go.RowKit Go.PlainAid
set_option linter.unusedVariables false

/-- A time is in one of the spans. -/
def CovL (ms : List I2) (t : Int) : Prop := ∃ s, s ∈ ms ∧ s.a ≤ t ∧ t < s.b
theorem covL_nil {t : Int} : ¬ CovL [] t := fun ⟨s, h, _⟩ => by simp at h
theorem covL_app {xs ys : List I2} {t : Int} : CovL (xs ++ ys) t ↔ CovL xs t ∨ CovL ys t := by
  constructor
  · rintro ⟨s, h, h1⟩
    rcases List.mem_append.1 h with h | h
    · exact .inl ⟨s, h, h1⟩
    · exact .inr ⟨s, h, h1⟩
  · rintro (⟨s, h, h1⟩ | ⟨s, h, h1⟩)
    · exact ⟨s, List.mem_append.2 (.inl h), h1⟩
    · exact ⟨s, List.mem_append.2 (.inr h), h1⟩
theorem covL_one {s : I2} {t : Int} : CovL [s] t ↔ s.a ≤ t ∧ t < s.b := by
  constructor
  · rintro ⟨x, h, h1⟩; simp at h; subst h; exact h1
  · intro h; exact ⟨s, by simp, h⟩
theorem covL_cons {s : I2} {r : List I2} {t : Int} : CovL (s :: r) t ↔ (s.a ≤ t ∧ t < s.b) ∨ CovL r t := by
  rw [show s :: r = [s] ++ r from rfl, covL_app, covL_one]
/-- Spans one behind another, apart. -/
def Sep (ms : List I2) : Prop := (∀ s, s ∈ ms → s.a < s.b) ∧ ms.Pairwise (fun s r => s.b < r.a)
theorem Sep.nil : Sep [] := ⟨fun s h => by simp at h, List.Pairwise.nil⟩
theorem Sep.snoc {ms : List I2} {s : I2} (h : Sep ms) (hs : s.a < s.b) (hl : ∀ x, x ∈ ms → x.b < s.a) : Sep (ms ++ [s]) :=
  ⟨fun x hx => by
    rcases List.mem_append.1 hx with hx | hx
    · exact h.1 x hx
    · simp at hx; subst hx; exact hs,
   List.pairwise_append.2 ⟨h.2, List.pairwise_singleton _ _, fun x hx y hy => by simp at hy; subst hy; exact hl x hx⟩⟩
theorem Sep.unsnoc {ms : List I2} {s : I2} (h : Sep (ms ++ [s])) : Sep ms ∧ s.a < s.b ∧ ∀ x, x ∈ ms → x.b < s.a :=
  ⟨⟨fun x hx => h.1 x (List.mem_append.2 (.inl hx)), (List.pairwise_append.1 h.2).1⟩, h.1 s (by simp), fun x hx => (List.pairwise_append.1 h.2).2.2 x hx s (by simp)⟩
theorem Sep.tail {s : I2} {r : List I2} (h : Sep (s :: r)) : Sep r ∧ s.a < s.b ∧ ∀ x, x ∈ r → s.b < x.a :=
  ⟨⟨fun x hx => h.1 x (List.mem_cons_of_mem _ hx), (List.pairwise_cons.1 h.2).2⟩, h.1 s (by simp), (List.pairwise_cons.1 h.2).1⟩
theorem Sep.first {s x : I2} {r : List I2} (h : Sep (s :: r)) (hx : x ∈ s :: r) : s.a ≤ x.a := by
  obtain ⟨_, h1, h2⟩ := h.tail
  rcases List.mem_cons.1 hx with rfl | hx
  · exact Int.le_refl _
  · have := h2 x hx; omega
theorem sep_head {s u : I2} {r v : List I2} (h : Sep (s :: r)) (k : Sep (u :: v)) (hc : ∀ t, CovL (s :: r) t ↔ CovL (u :: v) t) : u.a ≤ s.a ∧ u.b ≤ s.b := by
  obtain ⟨_, h1, h2⟩ := h.tail
  obtain ⟨_, k1, k2⟩ := k.tail
  obtain ⟨x, hx, hxa, hxb⟩ := (hc s.a).1 (covL_cons.2 (.inl ⟨Int.le_refl _, h1⟩))
  have hu := k.first hx
  refine ⟨by omega, ?_⟩
  by_cases hlt : s.b < u.b
  · exfalso
    obtain ⟨y, hy, hya, hyb⟩ := (hc s.b).2 (covL_cons.2 (.inl ⟨by omega, hlt⟩))
    rcases List.mem_cons.1 hy with rfl | hy
    · omega
    · have := h2 y hy; omega
  · omega
theorem sep_unique : ∀ {ms ns : List I2}, Sep ms → Sep ns → (∀ t, CovL ms t ↔ CovL ns t) → ms = ns := by
  intro ms
  induction ms with
  | nil =>
    intro ns _ k hc
    cases ns with
    | nil => rfl
    | cons u v => exact absurd ((hc u.a).2 (covL_cons.2 (.inl ⟨Int.le_refl _, k.tail.2.1⟩))) covL_nil
  | cons s r ih =>
    intro ns h k hc
    cases ns with
    | nil => exact absurd ((hc s.a).1 (covL_cons.2 (.inl ⟨Int.le_refl _, h.tail.2.1⟩))) covL_nil
    | cons u v =>
      have e1 := sep_head h k hc
      have e2 := sep_head k h (fun t => (hc t).symm)
      have e : s = u := by cases s; cases u; simp at e1 e2 ⊢; omega
      subst e
      rw [ih h.tail.1 k.tail.1 (fun t => ?_)]
      have hh := hc t
      rw [covL_cons, covL_cons] at hh
      constructor
      · rintro ⟨x, hx, h1, h2⟩
        have h3 := h.tail.2.2 x hx
        rcases hh.1 (.inr ⟨x, hx, h1, h2⟩) with h4 | h4
        · omega
        · exact h4
      · rintro ⟨x, hx, h1, h2⟩
        have h3 := k.tail.2.2 x hx
        rcases hh.2 (.inr ⟨x, hx, h1, h2⟩) with h4 | h4
        · omega
        · exact h4
/-- Empty, or with a last one. -/
theorem snocCases (xs : List I2) : xs = [] ∨ ∃ ys s, xs = ys ++ [s] := by
  rcases List.eq_nil_or_concat xs with h | ⟨ys, s, h⟩
  · exact .inl h
  · exact .inr ⟨ys, s, by simpa using h⟩
theorem nth2_snoc (ys : List I2) (s : I2) : nth2 (ys ++ [s]) ys.length = s := by simp [nth2]
theorem last_snoc (ys : List I2) (s : I2) : (ys ++ [s]).getLast? = some s := by simp
theorem drop_snoc (ys : List I2) (s : I2) : (ys ++ [s]).dropLast = ys := by simp
/-- The runs: one more time. -/
def extR (xs : List I2) (t : Int) : List I2 := match xs.getLast? with
  | some s => if s.b = t then xs.dropLast ++ [⟨s.a, t + 1⟩] else xs ++ [⟨t, t + 1⟩]
  | none => [⟨t, t + 1⟩]
theorem extR_nil (t : Int) : extR [] t = [] ++ [⟨t, t + 1⟩] := rfl
theorem extR_yes {ys : List I2} {s : I2} {t : Int} (h : s.b = t) : extR (ys ++ [s]) t = ys ++ [⟨s.a, t + 1⟩] := by
  unfold extR; rw [last_snoc, drop_snoc]; simp [h]
theorem extR_no {ys : List I2} {s : I2} {t : Int} (h : ¬ s.b = t) : extR (ys ++ [s]) t = ys ++ [s] ++ [⟨t, t + 1⟩] := by
  unfold extR; rw [last_snoc]; simp [h]
/-- The runs of the times of [lo, lo + n) for which p holds. -/
def runU (p : Int → Bool) (lo : Int) : Nat → List I2
  | 0 => []
  | n + 1 => if p (lo + n) = true then extR (runU p lo n) (lo + n) else runU p lo n
theorem runU_yes {p : Int → Bool} {lo : Int} {n : Nat} (h : p (lo + n) = true) : runU p lo (n + 1) = extR (runU p lo n) (lo + n) := by rw [runU, if_pos h]
theorem runU_no {p : Int → Bool} {lo : Int} {n : Nat} (h : p (lo + n) = false) : runU p lo (n + 1) = runU p lo n := by rw [runU, h]; rfl
theorem runU_spec (p : Int → Bool) (lo : Int) (n : Nat) : Sep (runU p lo n) ∧ (∀ s, s ∈ runU p lo n → lo ≤ s.a ∧ s.b ≤ lo + n) ∧ ∀ t, CovL (runU p lo n) t ↔ lo ≤ t ∧ t < lo + n ∧ p t = true := by
  induction n with
  | zero => exact ⟨Sep.nil, fun s h => by simp [runU] at h, fun t => ⟨fun h => absurd h covL_nil, fun h => by omega⟩⟩
  | succ n ih =>
    obtain ⟨h1, h2, h3⟩ := ih
    by_cases hp : p (lo + n) = true
    · rw [runU_yes hp]
      rcases snocCases (runU p lo n) with e | ⟨ys, s, e⟩
      · rw [e] at h1 h2 h3 ⊢
        rw [extR_nil, List.nil_append]
        refine ⟨Sep.nil.snoc (by simp only []; omega) (fun x hx => by simp at hx), fun s hs => ?_, fun t => ?_⟩
        · simp at hs; subst hs; constructor <;> simp <;> omega
        · rw [covL_one]
          have := h3 t
          simp only [covL_nil, false_iff] at this
          constructor
          · rintro ⟨h4, h5⟩
            simp at h4 h5
            have : t = lo + n := by omega
            exact ⟨by omega, by omega, by rw [this]; exact hp⟩
          · rintro ⟨h4, h5, h6⟩
            have : ¬ t < lo + n := fun h => this ⟨h4, h, h6⟩
            constructor <;> simp <;> omega
      · rw [e] at h1 h2 h3 ⊢
        obtain ⟨g1, g2, g3⟩ := h1.unsnoc
        have hs := h2 s (by simp)
        by_cases hb : s.b = lo + n
        · rw [extR_yes hb]
          refine ⟨g1.snoc (by simp only []; omega) g3, fun x hx => ?_, fun t => ?_⟩
          · rcases List.mem_append.1 hx with hx | hx
            · have := h2 x (List.mem_append.2 (.inl hx)); omega
            · simp at hx; subst hx; simp; omega
          · have := h3 t
            rw [covL_app, covL_one] at this ⊢
            simp only []
            constructor
            · rintro (h4 | ⟨h4, h5⟩)
              · have := this.1 (.inl h4); exact ⟨this.1, by omega, this.2.2⟩
              · by_cases h6 : t < s.b
                · have := this.1 (.inr ⟨h4, h6⟩); exact ⟨this.1, by omega, this.2.2⟩
                · have : t = lo + n := by omega
                  exact ⟨by omega, by omega, by rw [this]; exact hp⟩
            · rintro ⟨h4, h5, h6⟩
              by_cases h7 : t < lo + n
              · rcases this.2 ⟨h4, h7, h6⟩ with h8 | h8
                · exact .inl h8
                · exact .inr ⟨h8.1, by omega⟩
              · exact .inr ⟨by omega, by omega⟩
        · rw [extR_no hb]
          refine ⟨h1.snoc (by simp only []; omega) (fun x hx => ?_), fun x hx => ?_, fun t => ?_⟩
          · rcases List.mem_append.1 hx with hx' | hx'
            · have := g3 x hx'; simp; omega
            · simp at hx'; subst hx'; simp; omega
          · rcases List.mem_append.1 hx with hx | hx
            · have := h2 x hx; omega
            · simp at hx; subst hx; simp; omega
          · have := h3 t
            rw [covL_app, covL_one, this]
            simp only []
            constructor
            · rintro (h4 | ⟨h4, h5⟩)
              · exact ⟨h4.1, by omega, h4.2.2⟩
              · have : t = lo + n := by omega
                exact ⟨by omega, by omega, by rw [this]; exact hp⟩
            · rintro ⟨h4, h5, h6⟩
              by_cases h7 : t < lo + n
              · exact .inl ⟨h4, h7, h6⟩
              · exact .inr ⟨by omega, by omega⟩
    · have hp' : p (lo + n) = false := by simpa using hp
      rw [runU_no hp']
      refine ⟨h1, fun s hs => ?_, fun t => ?_⟩
      · have := h2 s hs; omega
      · rw [h3 t]
        constructor
        · rintro ⟨h4, h5, h6⟩; exact ⟨h4, by omega, h6⟩
        · rintro ⟨h4, h5, h6⟩
          refine ⟨h4, ?_, h6⟩
          by_cases e : t = lo + n
          · subst e; rw [hp'] at h6; exact absurd h6 (by simp)
          · omega
/-- What reads as the runs is the runs. -/
theorem runU_eq {p : Int → Bool} {lo : Int} {n : Nat} {ms : List I2} (h : Sep ms) (hc : ∀ t, CovL ms t ↔ lo ≤ t ∧ t < lo + n ∧ p t = true) : ms = runU p lo n :=
  sep_unique h (runU_spec p lo n).1 (fun t => (hc t).trans ((runU_spec p lo n).2.2 t).symm)
/-- The minutes of spans. -/
def totU (xs : List I2) : Nat → Int
  | 0 => 0
  | k + 1 => totU xs k + ((nth2 xs k).b - (nth2 xs k).a)
theorem totU_app (xs ys : List I2) : ∀ k, k ≤ xs.length → totU (xs ++ ys) k = totU xs k := by
  intro k
  induction k with
  | zero => intro _; rfl
  | succ k ih =>
    intro hk
    have : nth2 (xs ++ ys) k = nth2 xs k := by unfold nth2; rw [List.getD_eq_getElem?_getD, List.getElem?_append_left (by omega), ← List.getD_eq_getElem?_getD]
    rw [totU, totU, ih (by omega), this]
theorem totU_snoc (xs : List I2) (s : I2) : totU (xs ++ [s]) (xs ++ [s]).length = totU xs xs.length + (s.b - s.a) := by
  rw [List.length_append]
  show totU (xs ++ [s]) xs.length + _ = _
  rw [nth2_snoc, totU_app _ _ _ (Nat.le_refl _)]
/-- How many times of [lo, lo + n) fit. -/
def ctU (p : Int → Bool) (lo : Int) : Nat → Nat
  | 0 => 0
  | n + 1 => if p (lo + n) = true then ctU p lo n + 1 else ctU p lo n
theorem ctU_yes {p : Int → Bool} {lo : Int} {n : Nat} (h : p (lo + n) = true) : ctU p lo (n + 1) = ctU p lo n + 1 := by rw [ctU, if_pos h]
theorem ctU_no {p : Int → Bool} {lo : Int} {n : Nat} (h : p (lo + n) = false) : ctU p lo (n + 1) = ctU p lo n := by rw [ctU, h]; rfl
theorem ctU_le (p : Int → Bool) (lo : Int) (n : Nat) : ctU p lo n ≤ n := by
  induction n with
  | zero => exact Nat.le_refl _
  | succ n ih => rw [ctU]; split <;> omega
theorem runU_tot (p : Int → Bool) (lo : Int) (n : Nat) : totU (runU p lo n) (runU p lo n).length = ctU p lo n := by
  induction n with
  | zero => rfl
  | succ n ih =>
    by_cases hp : p (lo + n) = true
    · rw [runU_yes hp, ctU_yes hp]
      rcases snocCases (runU p lo n) with e | ⟨ys, s, e⟩
      · rw [e] at ih ⊢
        rw [extR_nil, totU_snoc, ih]
        simp only []
        push_cast
        omega
      · rw [e] at ih ⊢
        rw [totU_snoc] at ih
        by_cases hb : s.b = lo + n
        · rw [extR_yes hb, totU_snoc]
          simp only []
          push_cast
          omega
        · rw [extR_no hb, totU_snoc, totU_snoc]
          simp only []
          push_cast
          omega
    · have hp' : p (lo + n) = false := by simpa using hp
      rw [runU_no hp', ctU_no hp', ih]
/-- The merging: one more span. -/
def mrgS (out : List I2) (s : I2) : List I2 := if s.a = s.b then out else match out.getLast? with
  | some l => if s.a ≤ l.b then out.dropLast ++ [⟨l.a, max l.b s.b⟩] else out ++ [s]
  | none => [s]
theorem mrgS_skip {out : List I2} {s : I2} (h : s.a = s.b) : mrgS out s = out := by unfold mrgS; rw [if_pos h]
theorem mrgS_nil {s : I2} (h : ¬ s.a = s.b) : mrgS [] s = [] ++ [s] := by unfold mrgS; rw [if_neg h]; rfl
theorem mrgS_yes {ys : List I2} {l s : I2} (h : ¬ s.a = s.b) (h' : s.a ≤ l.b) : mrgS (ys ++ [l]) s = ys ++ [⟨l.a, max l.b s.b⟩] := by
  unfold mrgS; rw [if_neg h, last_snoc, drop_snoc]; simp [h']
theorem mrgS_no {ys : List I2} {l s : I2} (h : ¬ s.a = s.b) (h' : ¬ s.a ≤ l.b) : mrgS (ys ++ [l]) s = ys ++ [l] ++ [s] := by
  unfold mrgS; rw [if_neg h, last_snoc]; simp [h']
def mrgU (xs : List I2) : Nat → List I2
  | 0 => []
  | k + 1 => mrgS (mrgU xs k) (nth2 xs k)
theorem mrgS_len (out : List I2) (s : I2) : (mrgS out s).length ≤ out.length + 1 := by
  by_cases h : s.a = s.b
  · rw [mrgS_skip h]; omega
  · rcases snocCases out with rfl | ⟨ys, l, rfl⟩
    · rw [mrgS_nil h]; simp
    · by_cases h' : s.a ≤ l.b
      · rw [mrgS_yes h h']; simp
      · rw [mrgS_no h h']; simp
theorem mrgU_len (xs : List I2) (k : Nat) : (mrgU xs k).length ≤ k := by
  induction k with
  | zero => exact Nat.le_refl _
  | succ k ih => have := mrgS_len (mrgU xs k) (nth2 xs k); rw [mrgU]; omega
/-- Sorted by where they begin. -/
def Asc2 (xs : List I2) : Prop := ∀ i j, i ≤ j → j < xs.length → (nth2 xs i).a ≤ (nth2 xs j).a
theorem mrgU_spec {xs : List I2} (hv : ∀ k, k < xs.length → (nth2 xs k).a ≤ (nth2 xs k).b) (hs : Asc2 xs) : ∀ k, k ≤ xs.length →
    Sep (mrgU xs k) ∧ (∀ x, x ∈ mrgU xs k → ∃ j, j < k ∧ x.a = (nth2 xs j).a) ∧ ∀ t, CovL (mrgU xs k) t ↔ ∃ j, j < k ∧ (nth2 xs j).a ≤ t ∧ t < (nth2 xs j).b := by
  intro k
  induction k with
  | zero => intro _; exact ⟨Sep.nil, fun x hx => by simp [mrgU] at hx, fun t => ⟨fun h => absurd h covL_nil, fun ⟨j, h, _⟩ => absurd h (Nat.not_lt_zero _)⟩⟩
  | succ k ih =>
    intro hk
    obtain ⟨h1, h2, h3⟩ := ih (by omega)
    have hvk := hv k (by omega)
    have hst : ∀ t, (∃ j, j < k + 1 ∧ (nth2 xs j).a ≤ t ∧ t < (nth2 xs j).b) ↔ CovL (mrgU xs k) t ∨ ((nth2 xs k).a ≤ t ∧ t < (nth2 xs k).b) := fun t => by
      rw [h3 t]
      constructor
      · rintro ⟨j, hj, h4⟩
        by_cases e : j = k
        · subst e; exact .inr h4
        · exact .inl ⟨j, by omega, h4⟩
      · rintro (⟨j, hj, h4⟩ | h4)
        · exact ⟨j, by omega, h4⟩
        · exact ⟨k, by omega, h4⟩
    have ha : ∀ x, x ∈ mrgU xs k → x.a ≤ (nth2 xs k).a := fun x hx => by
      obtain ⟨j, hj, e⟩ := h2 x hx
      rw [e]
      exact hs j k (by omega) (by omega)
    rw [mrgU]
    by_cases he : (nth2 xs k).a = (nth2 xs k).b
    · rw [mrgS_skip he]
      refine ⟨h1, fun x hx => ?_, fun t => ?_⟩
      · obtain ⟨j, hj, e⟩ := h2 x hx; exact ⟨j, by omega, e⟩
      · rw [hst t]
        constructor
        · exact .inl
        · rintro (h4 | h4)
          · exact h4
          · omega
    · rcases snocCases (mrgU xs k) with e | ⟨ys, l, e⟩
      · rw [e] at h1 h2 h3 ha hst ⊢
        rw [mrgS_nil he, List.nil_append]
        refine ⟨Sep.nil.snoc (by omega) (fun x hx => by simp at hx), fun x hx => ?_, fun t => ?_⟩
        · simp at hx; subst hx; exact ⟨k, by omega, rfl⟩
        · rw [hst t, covL_one]
          constructor
          · exact .inr
          · rintro (h4 | h4)
            · exact absurd h4 covL_nil
            · exact h4
      · rw [e] at h1 h2 h3 ha hst ⊢
        obtain ⟨g1, g2, g3⟩ := h1.unsnoc
        have hla := ha l (by simp)
        by_cases hb : (nth2 xs k).a ≤ l.b
        · rw [mrgS_yes he hb]
          refine ⟨g1.snoc (by simp only []; omega) g3, fun x hx => ?_, fun t => ?_⟩
          · rcases List.mem_append.1 hx with hx | hx
            · obtain ⟨j, hj, e2⟩ := h2 x (List.mem_append.2 (.inl hx)); exact ⟨j, by omega, e2⟩
            · simp at hx; subst hx
              obtain ⟨j, hj, e2⟩ := h2 l (by simp)
              exact ⟨j, by omega, e2⟩
          · rw [hst t, covL_app, covL_app, covL_one, covL_one]
            simp only []
            constructor
            · rintro (h4 | h4)
              · exact .inl (.inl h4)
              · by_cases h5 : t < l.b
                · exact .inl (.inr ⟨h4.1, h5⟩)
                · exact .inr ⟨by omega, by omega⟩
            · rintro ((h4 | h4) | h4)
              · exact .inl h4
              · exact .inr ⟨h4.1, by omega⟩
              · exact .inr ⟨by omega, by omega⟩
        · rw [mrgS_no he hb]
          refine ⟨h1.snoc (by omega) (fun x hx => ?_), fun x hx => ?_, fun t => ?_⟩
          · rcases List.mem_append.1 hx with hx' | hx'
            · have := g3 x hx'; omega
            · simp at hx'; subst hx'; omega
          · rcases List.mem_append.1 hx with hx | hx
            · obtain ⟨j, hj, e2⟩ := h2 x hx; exact ⟨j, by omega, e2⟩
            · simp at hx; subst hx; exact ⟨k, by omega, rfl⟩
          · rw [hst t, covL_app, covL_one]
/-- The free spans: one more busy one; the state: what there is, and from where. -/
def freS (w : I2) (o : List I2 × Int) (s : I2) : List I2 × Int := (if o.2 < min s.a w.b then o.1 ++ [⟨o.2, min s.a w.b⟩] else o.1, max o.2 s.b)
def freU (w : I2) (ms : List I2) : Nat → List I2 × Int
  | 0 => ([], w.a)
  | k + 1 => freS w (freU w ms k) (nth2 ms k)
theorem nth2_mem {xs : List I2} {k : Nat} (h : k < xs.length) : nth2 xs k ∈ xs := by
  unfold nth2
  rw [List.getD_eq_getElem?_getD, List.getElem?_eq_getElem h]
  exact List.getElem_mem h
theorem Sep.at {ms : List I2} (h : Sep ms) {i j : Nat} (hij : i < j) (hj : j < ms.length) : (nth2 ms i).b < (nth2 ms j).a := by
  have := List.pairwise_iff_getElem.1 h.2 i j (by omega) hj hij
  unfold nth2
  rw [List.getD_eq_getElem?_getD, List.getElem?_eq_getElem (by omega), List.getD_eq_getElem?_getD, List.getElem?_eq_getElem hj]
  exact this
theorem mem_nth2 {xs : List I2} {x : I2} (h : x ∈ xs) : ∃ k, k < xs.length ∧ nth2 xs k = x := by
  obtain ⟨k, hk, e⟩ := List.getElem_of_mem h
  refine ⟨k, hk, ?_⟩
  unfold nth2
  rw [List.getD_eq_getElem?_getD, List.getElem?_eq_getElem hk]
  exact e
theorem freU_spec {w : I2} {ms : List I2} (hw : w.a ≤ w.b) (hm : Sep ms) : ∀ k, k ≤ ms.length →
    Sep (freU w ms k).1 ∧ w.a ≤ (freU w ms k).2 ∧ (∀ x, x ∈ (freU w ms k).1 → x.b < (freU w ms k).2) ∧ (∀ j, j < k → (nth2 ms j).b ≤ (freU w ms k).2) ∧
    (∀ t, w.a ≤ t → t < (freU w ms k).2 → (∀ j, j < k → ¬ ((nth2 ms j).a ≤ t ∧ t < (nth2 ms j).b)) → t < w.b → CovL (freU w ms k).1 t) ∧
    (∀ t, CovL (freU w ms k).1 t → w.a ≤ t ∧ t < w.b ∧ t < (freU w ms k).2 ∧ ∀ j, j < k → ¬ ((nth2 ms j).a ≤ t ∧ t < (nth2 ms j).b)) ∧
    ((freU w ms k).2 = w.a ∨ ∃ j, j < k ∧ (freU w ms k).2 = (nth2 ms j).b) := by
  intro k
  induction k with
  | zero => intro _; exact ⟨Sep.nil, Int.le_refl _, fun x hx => by simp [freU] at hx, fun j hj => absurd hj (Nat.not_lt_zero _), fun t h1 h2 _ _ => by simp [freU] at h2; omega, fun t h => absurd h covL_nil, .inl rfl⟩
  | succ k ih =>
    intro hk
    obtain ⟨h1, h2, h3, h4, h5, h6, h7⟩ := ih (by omega)
    have hs : (nth2 ms k).a < (nth2 ms k).b := hm.1 _ (nth2_mem (by omega))
    have hbef : ∀ j, j < k → (nth2 ms j).b < (nth2 ms k).a := fun j hj => hm.at hj (by omega)
    have hfa : (freU w ms k).2 = w.a ∨ (freU w ms k).2 < (nth2 ms k).a := by
      rcases h7 with h7 | ⟨j, hj, h7⟩
      · exact .inl h7
      · exact .inr (by rw [h7]; exact hbef j hj)
    rw [freU]
    generalize hF : (freU w ms k).2 = F at *
    generalize hO : (freU w ms k).1 = O at *
    have e : freS w (freU w ms k) (nth2 ms k) = (if F < min (nth2 ms k).a w.b then O ++ [⟨F, min (nth2 ms k).a w.b⟩] else O, max F (nth2 ms k).b) := by unfold freS; rw [hF, hO]
    rw [e]
    simp only []
    refine ⟨?_, by omega, ?_, ?_, ?_, ?_, ?_⟩
    · split
      · exact h1.snoc (by assumption) h3
      · exact h1
    · intro x hx
      split at hx
      · rcases List.mem_append.1 hx with hx | hx
        · have := h3 x hx; omega
        · simp at hx; subst hx; simp only []; omega
      · have := h3 x hx; omega
    · intro j hj
      by_cases e : j = k
      · subst e; omega
      · have := h4 j (by omega); omega
    · intro t ha hb hn hwb
      have hnk := hn k (by omega)
      by_cases hlt : t < F
      · have := h5 t ha hlt (fun j hj => hn j (by omega)) hwb
        split
        · exact covL_app.2 (.inl this)
        · exact this
      · have h8 : t < (nth2 ms k).a := by omega
        rw [if_pos (by omega)]
        exact covL_app.2 (.inr (covL_one.2 ⟨by simp only []; omega, by simp only []; omega⟩))
    · intro t hc
      have hcase : CovL O t ∨ (F < min (nth2 ms k).a w.b ∧ F ≤ t ∧ t < min (nth2 ms k).a w.b) := by
        split at hc
        · rcases covL_app.1 hc with hc | hc
          · exact .inl hc
          · exact .inr ⟨by assumption, covL_one.1 hc⟩
        · exact .inl hc
      rcases hcase with hc | ⟨h8, h9, h10⟩
      · obtain ⟨g1, g2, g3, g4⟩ := h6 t hc
        refine ⟨g1, g2, by omega, fun j hj => ?_⟩
        by_cases e : j = k
        · subst e
          rcases hfa with hfa | hfa <;> omega
        · exact g4 j (by omega)
      · refine ⟨by omega, by omega, by omega, fun j hj => ?_⟩
        by_cases e : j = k
        · subst e; omega
        · have := h4 j (by omega); omega
    · by_cases h8 : F ≤ (nth2 ms k).b
      · exact .inr ⟨k, by omega, by omega⟩
      · rcases h7 with h7 | ⟨j, hj, h7⟩
        · exact .inl (by omega)
        · exact .inr ⟨j, by omega, by omega⟩
/-- The free spans of a span. -/
def freL (w : I2) (ms : List I2) : List I2 := (freS w (freU w ms ms.length) ⟨w.b, w.b⟩).1
theorem freL_eq {w : I2} {ms : List I2} {p : Int → Bool} (hw : w.a ≤ w.b) (hm : Sep ms) (hp : ∀ t, p t = true ↔ ¬ CovL ms t) : freL w ms = runU p w.a (w.b - w.a).toNat := by
  obtain ⟨h1, h2, h3, h4, h5, h6, h7⟩ := freU_spec hw hm ms.length (Nat.le_refl _)
  have hcov : ∀ t, (∀ j, j < ms.length → ¬ ((nth2 ms j).a ≤ t ∧ t < (nth2 ms j).b)) ↔ p t = true := fun t => by
    rw [hp t]
    constructor
    · rintro h ⟨x, hx, h8⟩
      obtain ⟨j, hj, rfl⟩ := mem_nth2 hx
      exact h j hj h8
    · intro h j hj h8
      exact h ⟨_, nth2_mem hj, h8⟩
  have e : freL w ms = if (freU w ms ms.length).2 < w.b then (freU w ms ms.length).1 ++ [⟨(freU w ms ms.length).2, w.b⟩] else (freU w ms ms.length).1 := by
    unfold freL freS
    simp only [Int.min_self]
  generalize hF : (freU w ms ms.length).2 = F at *
  generalize hO : (freU w ms ms.length).1 = O at *
  rw [e]
  refine runU_eq ?_ (fun t => ?_)
  · split
    · exact h1.snoc (by assumption) h3
    · exact h1
  · have e2 : w.a + ((w.b - w.a).toNat : Int) = w.b := by omega
    rw [e2, ← hcov t]
    constructor
    · intro hc
      have hcase : CovL O t ∨ (F ≤ t ∧ t < w.b) := by
        split at hc
        · rcases covL_app.1 hc with hc | hc
          · exact .inl hc
          · exact .inr (covL_one.1 hc)
        · exact .inl hc
      rcases hcase with hc | hc
      · obtain ⟨g1, g2, g3, g4⟩ := h6 t hc
        exact ⟨g1, g2, g4⟩
      · exact ⟨by omega, hc.2, fun j hj => by have := h4 j hj; omega⟩
    · rintro ⟨ha, hb, hn⟩
      by_cases hlt : t < F
      · have := h5 t ha hlt hn hb
        split
        · exact covL_app.2 (.inl this)
        · exact this
      · rw [if_pos (by omega)]
        exact covL_app.2 (.inr (covL_one.2 ⟨by simp only []; omega, by simp only []; omega⟩))
/-- A time is busy. -/
theorem cAt_iff {xs : List I2} {t : Int} : 0 < cAt xs t ↔ CovL xs t := by
  constructor
  · intro h
    obtain ⟨k, hk, hi, _⟩ := cnt2_last h
    exact ⟨_, nth2_mem hk, hi.1, hi.2⟩
  · rintro ⟨s, hs, h1, h2⟩
    obtain ⟨k, hk, rfl⟩ := mem_nth2 hs
    exact cAt_pos hk ⟨h1, h2⟩
def busyP (xs : List I2) (t : Int) : Bool := decide (0 < cAt xs t)
def freeP (xs : List I2) (t : Int) : Bool := decide (¬ 0 < cAt xs t)
theorem busyP_iff {xs : List I2} {t : Int} : busyP xs t = true ↔ CovL xs t := by unfold busyP; rw [decide_eq_true_iff, cAt_iff]
theorem freeP_iff {xs : List I2} {t : Int} : freeP xs t = true ↔ ¬ CovL xs t := by unfold freeP; rw [decide_eq_true_iff, cAt_iff]
theorem covL_perm {xs ys : List I2} (h : ∀ s, s ∈ ys ↔ s ∈ xs) (t : Int) : CovL ys t ↔ CovL xs t :=
  ⟨fun ⟨s, hs, h1⟩ => ⟨s, (h s).1 hs, h1⟩, fun ⟨s, hs, h1⟩ => ⟨s, (h s).2 hs, h1⟩⟩
/-- The busy spans. -/
def busyL (xs : List I2) : List I2 := runU (busyP xs) 0 1799
theorem busyL_eq {xs ys : List I2} (hv : SpansOk xs) (h : ∀ s, s ∈ ys ↔ s ∈ xs) (ha : Asc2 ys) : mrgU ys ys.length = busyL xs := by
  have hvk : ∀ k, k < ys.length → 0 ≤ (nth2 ys k).a ∧ (nth2 ys k).a ≤ (nth2 ys k).b ∧ (nth2 ys k).b ≤ 1799 := fun k hk => by
    obtain ⟨j, hj, e⟩ := mem_nth2 ((h _).1 (nth2_mem hk))
    rw [← e]
    exact spB_iff.1 (hv.2 j hj)
  obtain ⟨h1, h2, h3⟩ := mrgU_spec (fun k hk => (hvk k hk).2.1) ha ys.length (Nat.le_refl _)
  refine runU_eq h1 (fun t => ?_)
  rw [busyP_iff, ← covL_perm h t, h3 t]
  constructor
  · rintro ⟨j, hj, h4, h5⟩
    have := hvk j hj
    exact ⟨by omega, by omega, _, nth2_mem hj, h4, h5⟩
  · rintro ⟨_, _, s, hs, h4⟩
    obtain ⟨j, hj, rfl⟩ := mem_nth2 hs
    exact ⟨j, hj, h4⟩
theorem busyL_sep (xs : List I2) : Sep (busyL xs) := (runU_spec _ _ _).1
theorem busyL_cov {xs : List I2} (hv : SpansOk xs) (t : Int) : CovL (busyL xs) t ↔ CovL xs t := by
  unfold busyL
  rw [(runU_spec _ _ _).2.2 t, busyP_iff]
  constructor
  · exact fun h => h.2.2
  · rintro ⟨s, hs, h1, h2⟩
    obtain ⟨j, hj, rfl⟩ := mem_nth2 hs
    have := spB_iff.1 (hv.2 j hj)
    exact ⟨by omega, by omega, _, hs, h1, h2⟩
/-- The free spans of a span. -/
def freeL (xs : List I2) (w : I2) : List I2 := runU (freeP xs) w.a (w.b - w.a).toNat
theorem freeL_eq {xs : List I2} {w : I2} (hv : SpansOk xs) (hw : w.a ≤ w.b) : freL w (busyL xs) = freeL xs w :=
  freL_eq hw (busyL_sep xs) (fun t => by rw [freeP_iff, busyL_cov hv t])
theorem busyL_tot (xs : List I2) : totU (busyL xs) (busyL xs).length = ctU (busyP xs) 0 1799 := runU_tot _ _ _
end Go.Proofs.Ytambgommeannnaa
