/- Walking times: plain laws (shortest ways; a table by pivots; relaxations). -/
import Derived.Test.YtemhcobjhpifpaaWok
import Derived.Test.YtemhcobjhpifpaaLst
namespace Go.Proofs.Ytemhcobjhpifpaa
open Go.ChangeShapes Go.WideShapes Go.ChangeAt Go.RowKit Go.PlainAid
set_option linter.unusedVariables false

/-- Does a walk connect two stops? -/
def conn (x : I3) (s t : Nat) : Prop := (x.a = (s : Int) ∧ x.b = (t : Int)) ∨ (x.a = (t : Int) ∧ x.b = (s : Int))
instance (x : I3) (s t : Nat) : Decidable (conn x s t) := by unfold conn; exact inferInstance
theorem conn_symm {x : I3} {s t : Nat} (h : conn x s t) : conn x t s := by
  rcases h with h | h
  · exact .inr h
  · exact .inl h
/-- Walks between different stops of n, no two between the same. -/
structure Wks (n : Nat) (xs : List I3) : Prop where
  ok : ∀ k, k < xs.length → WkOk n (nth3 xs k)
  one : ∀ k j s t, k < xs.length → j < xs.length → conn (nth3 xs k) s t → conn (nth3 xs j) s t → k = j
theorem wkLt_chain {n : Nat} {xs : List I3} (h : ∀ k, k < xs.length → WkAt n xs k) : ∀ j k, j < k → k < xs.length → WkLt (nth3 xs j) (nth3 xs k) := by
  intro j k hjk hk
  induction k with
  | zero => omega
  | succ k ih =>
    have h1 := (h (k + 1) hk).2 (by omega)
    rw [Nat.add_sub_cancel] at h1
    by_cases e : j = k
    · subst e; exact h1
    · have h2 := ih (by omega) (by omega)
      unfold WkLt at *
      omega
theorem WalksOk.wks {n : Nat} {xs : List I3} (h : WalksOk n xs) : Wks n xs := by
  refine ⟨fun k hk => (h.2 k hk).1, fun k j s t hk hj c1 c2 => ?_⟩
  have key : (nth3 xs k).a = (nth3 xs j).a ∧ (nth3 xs k).b = (nth3 xs j).b := by
    have o1 := (h.2 k hk).1
    have o2 := (h.2 j hj).1
    unfold WkOk at o1 o2
    unfold conn at c1 c2
    omega
  rcases Nat.lt_trichotomy k j with g | g | g
  · have := wkLt_chain h.2 k j g hj; unfold WkLt at this; omega
  · exact g
  · have := wkLt_chain h.2 j k g hk; unfold WkLt at this; omega

/-! ### Ways -/
/-- A walk of m minutes between two stops. -/
def edgeP (xs : List I3) (s t : Nat) (m : Int) : Prop := ∃ k, k < xs.length ∧ conn (nth3 xs k) s t ∧ (nth3 xs k).c = m
/-- A way of k walks and d minutes. -/
def wayN (n : Nat) (xs : List I3) (s : Nat) : Nat → Nat → Int → Prop
  | 0, t, d => s = t ∧ d = 0
  | k + 1, t, d => ∃ u m, u < n ∧ wayN n xs s k u (d - m) ∧ edgeP xs u t m
def wayP (n : Nat) (xs : List I3) (s t : Nat) (d : Int) : Prop := ∃ k, wayN n xs s k t d
theorem wayP_nil {n : Nat} {xs : List I3} (s : Nat) : wayP n xs s s 0 := ⟨0, rfl, rfl⟩
theorem wayP_step {n : Nat} {xs : List I3} {s u t : Nat} {d m : Int} (h : wayP n xs s u d) (hu : u < n) (e : edgeP xs u t m) : wayP n xs s t (d + m) := by
  obtain ⟨k, h⟩ := h
  exact ⟨k + 1, u, m, hu, by rw [Int.add_sub_cancel]; exact h, e⟩
theorem wayP_trans {n : Nat} {xs : List I3} {s u : Nat} {d : Int} (h : wayP n xs s u d) : ∀ {t : Nat} {e : Int}, wayP n xs u t e → wayP n xs s t (d + e) := by
  intro t e ⟨k, hk⟩
  induction k generalizing t e with
  | zero =>
    obtain ⟨rfl, rfl⟩ := hk
    rw [Int.add_zero]; exact h
  | succ k ih =>
    obtain ⟨v, m, hv, h1, h2⟩ := hk
    have := wayP_step (ih h1) hv h2
    rwa [show d + (e - m) + m = d + e by omega] at this
/-- The times from s to the stops below n. -/
structure IsDist (n : Nat) (xs : List I3) (s : Nat) (f : Nat → Int) : Prop where
  lo : ∀ t, t < n → -1 ≤ f t
  start : f s = 0
  way : ∀ t, t < n → 0 ≤ f t → wayP n xs s t (f t)
  close : ∀ u t m, u < n → t < n → edgeP xs u t m → 0 ≤ f u → 0 ≤ f t ∧ f t ≤ f u + m
theorem IsDist.le {n : Nat} {xs : List I3} {s : Nat} {f : Nat → Int} (h : IsDist n xs s f) : ∀ {t : Nat} {d : Int}, t < n → wayP n xs s t d → 0 ≤ f t ∧ f t ≤ d := by
  intro t d ht ⟨k, hk⟩
  induction k generalizing t d with
  | zero =>
    obtain ⟨rfl, rfl⟩ := hk
    rw [h.start]; omega
  | succ k ih =>
    obtain ⟨u, m, hu, h1, h2⟩ := hk
    have i1 := ih hu h1
    have i2 := h.close u t m hu ht h2 i1.1
    omega
theorem IsDist.unique {n : Nat} {xs : List I3} {s : Nat} {f g : Nat → Int} (hf : IsDist n xs s f) (hg : IsDist n xs s g) {t : Nat} (ht : t < n) : f t = g t := by
  have h1 := hf.lo t ht
  have h2 := hg.lo t ht
  by_cases a : 0 ≤ f t
  · have i := hg.le ht (hf.way t ht a)
    have j := hf.le ht (hg.way t ht i.1)
    omega
  · by_cases b : 0 ≤ g t
    · have j := hf.le ht (hg.way t ht b)
      omega
    · omega

/-! ### The table -/
/-- The times by the first k walks alone. -/
def fwB (xs : List I3) : Nat → Nat → Nat → Int
  | 0, i, j => if i = j then 0 else -1
  | k + 1, i, j => if conn (nth3 xs k) i j then (nth3 xs k).c else fwB xs k i j
def plusI (a b : Int) : Int := if a < 0 ∨ b < 0 then -1 else a + b
/-- The better one of a time and a time by a pivot. -/
def minI (c d : Int) : Int := if d < 0 then c else if c < 0 ∨ d < c then d else c
/-- The times by ways whose inner stops are below m. -/
def fw (xs : List I3) : Nat → Nat → Nat → Int
  | 0, i, j => fwB xs xs.length i j
  | m + 1, i, j => minI (fw xs m i j) (plusI (fw xs m i m) (fw xs m m j))
theorem plusI_cases (a b : Int) : ((a < 0 ∨ b < 0) ∧ plusI a b = -1) ∨ (0 ≤ a ∧ 0 ≤ b ∧ plusI a b = a + b) := by
  unfold plusI
  by_cases h : a < 0 ∨ b < 0
  · exact .inl ⟨h, if_pos h⟩
  · exact .inr ⟨by omega, by omega, if_neg h⟩
theorem minI_cases (c d : Int) : (minI c d = c ∧ (d < 0 ∨ (0 ≤ c ∧ c ≤ d))) ∨ (minI c d = d ∧ 0 ≤ d ∧ (c < 0 ∨ d < c)) := by
  unfold minI
  by_cases h : d < 0
  · exact .inl ⟨if_pos h, .inl h⟩
  · rw [if_neg h]
    by_cases g : c < 0 ∨ d < c
    · rw [if_pos g]; exact .inr ⟨rfl, by omega, g⟩
    · rw [if_neg g]; exact .inl ⟨rfl, .inr (by omega)⟩
section
variable {n : Nat} {xs : List I3}
theorem fwB_diag (h : Wks n xs) (i : Nat) : ∀ k, k ≤ xs.length → fwB xs k i i = 0 := by
  intro k
  induction k with
  | zero => intro _; simp [fwB]
  | succ k ih =>
    intro hk
    have o := h.ok k (by omega)
    unfold WkOk at o
    simp only [fwB]
    rw [if_neg (by unfold conn; omega)]
    exact ih (by omega)
theorem fwB_way (h : Wks n xs) {i j : Nat} (hi : i < n) : ∀ k, k ≤ xs.length → -1 ≤ fwB xs k i j ∧ fwB xs k i j ≤ 120 ∧ (0 ≤ fwB xs k i j → wayP n xs i j (fwB xs k i j)) := by
  intro k
  induction k with
  | zero =>
    intro _
    simp only [fwB]
    by_cases e : i = j
    · subst e; rw [if_pos rfl]; exact ⟨by omega, by omega, fun _ => wayP_nil i⟩
    · rw [if_neg e]; exact ⟨by omega, by omega, fun h => absurd h (by omega)⟩
  | succ k ih =>
    intro hk
    have o := h.ok k (by omega)
    unfold WkOk at o
    simp only [fwB]
    by_cases e : conn (nth3 xs k) i j
    · rw [if_pos e]
      refine ⟨by omega, by omega, fun _ => ?_⟩
      have := wayP_step (wayP_nil (n := n) (xs := xs) i) hi ⟨k, by omega, e, rfl⟩
      rwa [Int.zero_add] at this
    · rw [if_neg e]; exact ih (by omega)
theorem fwB_edge (h : Wks n xs) {i j : Nat} {m : Int} (e : edgeP xs i j m) : 0 ≤ fwB xs xs.length i j ∧ fwB xs xs.length i j = m := by
  obtain ⟨q, hq, hc, rfl⟩ := e
  have o := h.ok q hq
  unfold WkOk at o
  have key : ∀ k, k ≤ xs.length → q < k → fwB xs k i j = (nth3 xs q).c := by
    intro k
    induction k with
    | zero => intro _ h; omega
    | succ k ih =>
      intro hk hlt
      simp only [fwB]
      by_cases g : conn (nth3 xs k) i j
      · rw [if_pos g, h.one k q i j (by omega) hq g hc]
      · rw [if_neg g]
        by_cases e : q = k
        · subst e; exact absurd hc g
        · exact ih (by omega) (by omega)
  rw [key _ (Nat.le_refl _) hq]
  omega
theorem fw_lo (h : Wks n xs) {i j : Nat} (hi : i < n) : ∀ m, m ≤ n → -1 ≤ fw xs m i j := by
  intro m
  induction m generalizing i j with
  | zero => intro _; exact (fwB_way h hi _ (Nat.le_refl _)).1
  | succ m ih =>
    intro hm
    simp only [fw]
    have h1 := @ih i j hi (by omega)
    rcases minI_cases (fw xs m i j) (plusI (fw xs m i m) (fw xs m m j)) with ⟨e, _⟩ | ⟨e, h2, _⟩ <;> rw [e] <;> omega
theorem fw_diag (h : Wks n xs) {i : Nat} (hi : i < n) : ∀ m, m ≤ n → fw xs m i i = 0 := by
  intro m
  induction m with
  | zero => intro _; exact fwB_diag h i _ (Nat.le_refl _)
  | succ m ih =>
    intro hm
    simp only [fw]
    rw [ih (by omega)]
    rcases minI_cases 0 (plusI (fw xs m i m) (fw xs m m i)) with ⟨e, _⟩ | ⟨e, h2, h3⟩
    · rw [e]
    · omega
/-- The row and the column of the pivot stay. -/
theorem fw_row (h : Wks n xs) {m j : Nat} (hm : m < n) : fw xs (m + 1) m j = fw xs m m j := by
  simp only [fw]
  rw [fw_diag h hm m (by omega)]
  have hl := fw_lo (j := j) h hm m (by omega)
  rcases plusI_cases 0 (fw xs m m j) with ⟨h1, e⟩ | ⟨_, h1, e⟩ <;> rw [e] <;> rcases minI_cases (fw xs m m j) _ with ⟨e2, _⟩ | ⟨e2, h2, h3⟩ <;> rw [e2] <;> omega
theorem fw_col (h : Wks n xs) {m i : Nat} (hm : m < n) (hi : i < n) : fw xs (m + 1) i m = fw xs m i m := by
  simp only [fw]
  rw [fw_diag h hm m (by omega)]
  have hl := fw_lo (j := m) h hi m (by omega)
  rcases plusI_cases (fw xs m i m) 0 with ⟨h1, e⟩ | ⟨h1, _, e⟩ <;> rw [e] <;> rcases minI_cases (fw xs m i m) _ with ⟨e2, _⟩ | ⟨e2, h2, h3⟩ <;> rw [e2] <;> omega
theorem fw_way (h : Wks n xs) : ∀ m, m ≤ n → ∀ {i j : Nat}, i < n → 0 ≤ fw xs m i j → wayP n xs i j (fw xs m i j) := by
  intro m
  induction m with
  | zero => intro _ i j hi h0; exact (fwB_way h hi _ (Nat.le_refl _)).2.2 h0
  | succ m ih =>
    intro hm i j hi h0
    simp only [fw] at h0 ⊢
    rcases minI_cases (fw xs m i j) (plusI (fw xs m i m) (fw xs m m j)) with ⟨e, _⟩ | ⟨e, h2, _⟩
    · rw [e] at h0 ⊢; exact ih (by omega) hi h0
    · rw [e]
      rcases plusI_cases (fw xs m i m) (fw xs m m j) with ⟨_, e3⟩ | ⟨a1, a2, e3⟩
      · omega
      · rw [e3]; exact wayP_trans (ih (by omega) hi a1) (ih (by omega) (by omega) a2)
theorem fw_mono {m i j : Nat} (h0 : 0 ≤ fw xs m i j) : 0 ≤ fw xs (m + 1) i j ∧ fw xs (m + 1) i j ≤ fw xs m i j := by
  simp only [fw]
  rcases minI_cases (fw xs m i j) (plusI (fw xs m i m) (fw xs m m j)) with ⟨e, _⟩ | ⟨e, h2, h3⟩ <;> rw [e] <;> omega
theorem fw_monos {i j : Nat} : ∀ m, 0 ≤ fw xs 0 i j → 0 ≤ fw xs m i j ∧ fw xs m i j ≤ fw xs 0 i j := by
  intro m h0
  induction m with
  | zero => omega
  | succ m ih => have := fw_mono (m := m) ih.1; omega
theorem fw_via {m i j : Nat} (h1 : 0 ≤ fw xs m i m) (h2 : 0 ≤ fw xs m m j) : 0 ≤ fw xs (m + 1) i j ∧ fw xs (m + 1) i j ≤ fw xs m i m + fw xs m m j := by
  simp only [fw]
  rcases plusI_cases (fw xs m i m) (fw xs m m j) with ⟨a, e⟩ | ⟨_, _, e⟩
  · omega
  · rw [e]
    rcases minI_cases (fw xs m i j) (fw xs m i m + fw xs m m j) with ⟨e, h3⟩ | ⟨e, _, _⟩ <;> rw [e] <;> omega
theorem fw_tri (h : Wks n xs) : ∀ m, m ≤ n → ∀ {i j k : Nat}, i < n → k < m → 0 ≤ fw xs m i k → 0 ≤ fw xs m k j → 0 ≤ fw xs m i j ∧ fw xs m i j ≤ fw xs m i k + fw xs m k j := by
  intro m
  induction m with
  | zero => intro _ i j k _ hk; omega
  | succ m ih =>
    intro hm i j k hi hk h1 h2
    by_cases e : k = m
    · subst e
      rw [fw_col h (by omega) hi] at h1 ⊢
      rw [fw_row h (by omega)] at h2 ⊢
      exact fw_via h1 h2
    · have hkm : k < m := by omega
      have IH := @ih (by omega)
      have a : (0 ≤ fw xs m i k ∧ fw xs (m + 1) i k = fw xs m i k) ∨ (0 ≤ fw xs m i m ∧ 0 ≤ fw xs m m k ∧ fw xs (m + 1) i k = fw xs m i m + fw xs m m k) := by
        simp only [fw] at h1 ⊢
        rcases minI_cases (fw xs m i k) (plusI (fw xs m i m) (fw xs m m k)) with ⟨e1, _⟩ | ⟨e1, g1, _⟩
        · rw [e1] at h1 ⊢; exact .inl ⟨h1, rfl⟩
        · rw [e1]
          rcases plusI_cases (fw xs m i m) (fw xs m m k) with ⟨_, e3⟩ | ⟨a1, a2, e3⟩
          · omega
          · exact .inr ⟨a1, a2, e3⟩
      have b : (0 ≤ fw xs m k j ∧ fw xs (m + 1) k j = fw xs m k j) ∨ (0 ≤ fw xs m k m ∧ 0 ≤ fw xs m m j ∧ fw xs (m + 1) k j = fw xs m k m + fw xs m m j) := by
        simp only [fw] at h2 ⊢
        rcases minI_cases (fw xs m k j) (plusI (fw xs m k m) (fw xs m m j)) with ⟨e1, _⟩ | ⟨e1, g1, _⟩
        · rw [e1] at h2 ⊢; exact .inl ⟨h2, rfl⟩
        · rw [e1]
          rcases plusI_cases (fw xs m k m) (fw xs m m j) with ⟨_, e3⟩ | ⟨a1, a2, e3⟩
          · omega
          · exact .inr ⟨a1, a2, e3⟩
      rcases a with ⟨a1, a2⟩ | ⟨a1, a2, a3⟩ <;> rcases b with ⟨b1, b2⟩ | ⟨b1, b2, b3⟩
      · have t := @IH i j k hi hkm a1 b1
        have u := fw_mono t.1
        omega
      · have t := @IH i m k hi hkm a1 b1
        have u := fw_via t.1 b2
        omega
      · have t := @IH m j k (by omega) hkm a2 b1
        have u := fw_via a1 t.1
        omega
      · have u := fw_via a1 b2
        omega
theorem fw_dist (h : Wks n xs) {s : Nat} (hs : s < n) : IsDist n xs s (fw xs n s) where
  lo := fun t _ => fw_lo h hs n (Nat.le_refl _)
  start := fw_diag h hs n (Nat.le_refl _)
  way := fun t _ h0 => fw_way h n (Nat.le_refl _) hs h0
  close := fun u t m hu _ e h0 => by
    obtain ⟨e1, e2⟩ := fwB_edge h e
    have m1 := fw_monos (xs := xs) (i := u) (j := t) n e1
    have t1 := fw_tri h n (Nat.le_refl _) hs hu h0 m1.1
    have : fw xs 0 u t = m := e2
    omega
theorem fw_hi (h : Wks n xs) : ∀ m, m ≤ n → ∀ {i j : Nat}, i < n → fw xs m i j ≤ 120 * 2 ^ m := by
  intro m
  induction m with
  | zero => intro _ i j hi; exact Int.le_trans (fwB_way h hi _ (Nat.le_refl _)).2.1 (by omega)
  | succ m ih =>
    intro hm i j hi
    have h1 := @ih (by omega) i j hi
    have h2 := @ih (by omega) i m hi
    have h3 := @ih (by omega) m j (by omega)
    have hp : (0 : Int) < 2 ^ m := Int.pow_pos (by omega)
    simp only [fw]
    rw [Int.pow_succ]
    rcases plusI_cases (fw xs m i m) (fw xs m m j) with ⟨_, e⟩ | ⟨_, _, e⟩ <;> rw [e] <;> rcases minI_cases (fw xs m i j) _ with ⟨e2, _⟩ | ⟨e2, _, _⟩ <;> rw [e2] <;> omega
theorem fw_bd (h : Wks n xs) (hn : n ≤ 8) {m i j : Nat} (hm : m ≤ n) (hi : i < n) : -1 ≤ fw xs m i j ∧ fw xs m i j ≤ 30720 := by
  refine ⟨fw_lo h hi m hm, ?_⟩
  have h1 := fw_hi (j := j) h m hm hi
  have h2 : (2 : Int) ^ m ≤ 2 ^ 8 := by
    have : ∀ a b : Nat, a ≤ b → (2 : Int) ^ a ≤ 2 ^ b := fun a b hab => by
      induction b with
      | zero => obtain rfl : a = 0 := by omega
                exact Int.le_refl _
      | succ b ih =>
        by_cases e : a = b + 1
        · subst e; exact Int.le_refl _
        · have := ih (by omega)
          have hp : (0 : Int) < 2 ^ b := Int.pow_pos (by omega)
          rw [Int.pow_succ]; omega
    exact this m 8 (by omega)
  omega
end

/-! ### Relaxations -/
/-- The first one of some numbers, all of them below n (a ghost of the reference's loop). -/
def potI : List Int → Nat
  | [] => 0
  | x :: xs => (if x < 0 then 1000 else x.toNat) + potI xs
theorem potI_set {o : List Int} {k : Nat} {v : Int} (hk : k < o.length) (hv : 0 ≤ v) (h9 : v < 1000) (hb : nth o k < 0 ∨ v < nth o k) : potI (o.set k v) < potI o := by
  induction o generalizing k with
  | nil => simp at hk
  | cons x o ih =>
    cases k with
    | zero =>
      have hx : x < 0 ∨ v < x := hb
      simp only [List.set, potI]
      rw [if_neg (by omega)]
      split <;> omega
    | succ k =>
      have := ih (k := k) (by simpa using hk) hb
      simp only [List.set, potI]
      omega
/-- The reference's numbers within its loop. -/
structure RelaxAt (n : Nat) (xs : List I3) (s : Nat) (o : List Int) : Prop where
  len : o.length = n
  start : nth o s = 0
  lo : ∀ t, t < n → -1 ≤ nth o t
  hi : ∀ t, t < n → nth o t + 120 ≤ 120 * (setN o : Int)
  way : ∀ t, t < n → 0 ≤ nth o t → wayP n xs s t (nth o t)
theorem RelaxAt.put {n : Nat} {xs : List I3} {s u t : Nat} {m : Int} {o : List Int} (r : RelaxAt n xs s o) (hu : u < n) (ht : t < n) (e : edgeP xs u t m) (hm : 1 ≤ m) (hm2 : m ≤ 120) (h0 : 0 ≤ nth o u) (hb : nth o t < 0 ∨ nth o u + m < nth o t) : RelaxAt n xs s (o.set t (nth o u + m)) := by
  have htl : t < o.length := by rw [r.len]; exact ht
  have same : nth (o.set t (nth o u + m)) t = nth o u + m := nth_set_same _ htl
  have hts : s ≠ t := by
    rintro rfl
    have := r.start
    omega
  have hset : setN o ≤ setN (o.set t (nth o u + m)) ∧ (nth o t < 0 → setN (o.set t (nth o u + m)) = setN o + 1) := by
    refine ⟨?_, fun h => setN_set htl h (by omega)⟩
    by_cases h : nth o t < 0
    · rw [setN_set htl h (by omega)]; omega
    · rw [setN_keep htl (by omega) (by omega)]; exact Nat.le_refl _
  refine ⟨by rw [List.length_set]; exact r.len, by rw [nth_set_ne _ (Ne.symm hts)]; exact r.start, fun v hv => ?_, fun v hv => ?_, fun v hv h => ?_⟩
  · by_cases g : t = v
    · subst g; rw [same]; omega
    · rw [nth_set_ne _ g]; exact r.lo v hv
  · by_cases g : t = v
    · subst g
      rw [same]
      have h1 := r.hi u hu
      have h2 := r.hi t ht
      by_cases k : nth o t < 0
      · rw [hset.2 k]; push_cast; omega
      · have := hset.1; omega
    · rw [nth_set_ne _ g]
      have h1 := r.hi v hv
      have := hset.1
      omega
  · by_cases g : t = v
    · subst g
      rw [same]
      exact wayP_step (r.way u hu h0) hu e
    · rw [nth_set_ne _ g] at h ⊢
      exact r.way v hv h
/-- No walk of the list betters the numbers: these are the times. -/
theorem RelaxAt.dist {n : Nat} {xs : List I3} {s : Nat} {o : List Int} (r : RelaxAt n xs s o) (h : ∀ u t m, u < n → t < n → edgeP xs u t m → 0 ≤ nth o u → 0 ≤ nth o t ∧ nth o t ≤ nth o u + m) : IsDist n xs s (nth o) :=
  ⟨r.lo, r.start, r.way, h⟩
end Go.Proofs.Ytemhcobjhpifpaa
