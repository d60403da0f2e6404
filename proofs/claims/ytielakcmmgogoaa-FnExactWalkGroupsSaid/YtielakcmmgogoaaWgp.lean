/- Groups of stops that walks connect: plain. -/
import Derived.Test.YtielakcmmgogoaaFwa
namespace Go.Proofs.Ytielakcmmgogoaa
set_option linter.unusedVariables false

/-! ### The short walks -/
def shF (xs : List I3) (lim : Int) : Nat → List I3
  | 0 => []
  | k + 1 => if (nth3 xs k).c ≤ lim then shF xs lim k ++ [nth3 xs k] else shF xs lim k
theorem shF_yes {xs : List I3} {lim : Int} {k : Nat} (h : (nth3 xs k).c ≤ lim) : shF xs lim (k + 1) = shF xs lim k ++ [nth3 xs k] := by rw [shF, if_pos h]
theorem shF_no {xs : List I3} {lim : Int} {k : Nat} (h : ¬ (nth3 xs k).c ≤ lim) : shF xs lim (k + 1) = shF xs lim k := by rw [shF, if_neg h]
theorem shF_len (xs : List I3) (lim : Int) (n : Nat) : (shF xs lim n).length ≤ n := by
  induction n with
  | zero => simp [shF]
  | succ n ih =>
    rw [shF]
    split
    · rw [List.length_append]; simp; omega
    · omega
theorem nth3_app_lt {xs : List I3} {y : I3} {k : Nat} (h : k < xs.length) : nth3 (xs ++ [y]) k = nth3 xs k := by
  unfold nth3
  rw [List.getD_eq_getElem?_getD, List.getElem?_append_left h, ← List.getD_eq_getElem?_getD]
theorem nth3_app_eq (xs : List I3) (y : I3) : nth3 (xs ++ [y]) xs.length = y := by
  unfold nth3
  rw [List.getD_eq_getElem?_getD, List.getElem?_append_right (Nat.le_refl _), Nat.sub_self]
  rfl
theorem shF_at (xs : List I3) (lim : Int) (n : Nat) : ∀ p, p < (shF xs lim n).length → ∃ j, j < n ∧ nth3 (shF xs lim n) p = nth3 xs j := by
  induction n with
  | zero => intro p hp; simp [shF] at hp
  | succ n ih =>
    intro p hp
    by_cases h : (nth3 xs n).c ≤ lim
    · rw [shF_yes h] at hp ⊢
      rw [List.length_append] at hp
      simp at hp
      by_cases e : p < (shF xs lim n).length
      · obtain ⟨j, hj, e2⟩ := ih p e
        exact ⟨j, by omega, by rw [nth3_app_lt e, e2]⟩
      · obtain rfl : p = (shF xs lim n).length := by omega
        exact ⟨n, by omega, nth3_app_eq _ _⟩
    · rw [shF_no h] at hp ⊢
      obtain ⟨j, hj, e2⟩ := ih p hp
      exact ⟨j, by omega, e2⟩
theorem shF_wks {m : Nat} {xs : List I3} (h : Wks m xs) (lim : Int) (n : Nat) (hn : n ≤ xs.length) : Wks m (shF xs lim n) := by
  refine ⟨fun k hk => ?_, ?_⟩
  · obtain ⟨j, hj, e⟩ := shF_at xs lim n k hk
    rw [e]
    exact h.ok j (by omega)
  · induction n with
    | zero => intro k j s t hk; simp [shF] at hk
    | succ n ih =>
      by_cases hc : (nth3 xs n).c ≤ lim
      · rw [shF_yes hc]
        have new : ∀ p s t, p < (shF xs lim n).length → conn (nth3 (shF xs lim n) p) s t → conn (nth3 xs n) s t → False := fun p s t hp c1 c2 => by
          obtain ⟨j, hj, e⟩ := shF_at xs lim n p hp
          rw [e] at c1
          have := h.one j n s t (by omega) (by omega) c1 c2
          omega
        intro k j s t hk hj c1 c2
        rw [List.length_append] at hk hj
        simp at hk hj
        by_cases ek : k < (shF xs lim n).length
        · rw [nth3_app_lt ek] at c1
          by_cases ej : j < (shF xs lim n).length
          · rw [nth3_app_lt ej] at c2
            exact ih (by omega) k j s t ek ej c1 c2
          · obtain rfl : j = (shF xs lim n).length := by omega
            rw [nth3_app_eq] at c2
            exact (new k s t ek c1 c2).elim
        · obtain rfl : k = (shF xs lim n).length := by omega
          rw [nth3_app_eq] at c1
          by_cases ej : j < (shF xs lim n).length
          · rw [nth3_app_lt ej] at c2
            exact (new j s t ej c2 c1).elim
          · omega
      · rw [shF_no hc]
        exact ih (by omega)

/-! ### What is connected -/
theorem edgeP_symm {xs : List I3} {s t : Nat} {m : Int} (h : edgeP xs s t m) : edgeP xs t s m := by
  obtain ⟨k, hk, c, e⟩ := h
  exact ⟨k, hk, conn_symm c, e⟩
theorem wayP_symm {n : Nat} {xs : List I3} {s : Nat} : ∀ (k : Nat) {t : Nat} {d : Int}, t < n → wayN n xs s k t d → wayP n xs t s d := by
  intro k
  induction k with
  | zero => intro t d ht h; obtain ⟨rfl, rfl⟩ := h; exact wayP_nil _
  | succ k ih =>
    intro t d ht h
    obtain ⟨u, m, hu, h1, h2⟩ := h
    have a := wayP_step (wayP_nil (n := n) (xs := xs) t) ht (edgeP_symm h2)
    have b := wayP_trans a (ih hu h1)
    rwa [show 0 + m + (d - m) = d by omega] at b
theorem fw_symm {n : Nat} {xs : List I3} (h : Wks n xs) {a b : Nat} (ha : a < n) (hb : b < n) (h0 : 0 ≤ fw xs n a b) : 0 ≤ fw xs n b a := by
  obtain ⟨k, hk⟩ := fw_way h n (Nat.le_refl _) ha h0
  exact ((fw_dist h hb).le ha (wayP_symm k hb hk)).1
theorem fw_tra {n : Nat} {xs : List I3} (h : Wks n xs) {a b c : Nat} (ha : a < n) (hb : b < n) (hc : c < n) (h1 : 0 ≤ fw xs n a b) (h2 : 0 ≤ fw xs n b c) : 0 ≤ fw xs n a c :=
  ((fw_dist h ha).le hc (wayP_trans (fw_way h n (Nat.le_refl _) ha h1) (fw_way h n (Nat.le_refl _) hb h2))).1

/-! ### The groups -/
def grI (f : Nat → Nat → Int) (a : Nat) : Nat → List Int
  | 0 => []
  | k + 1 => if 0 ≤ f a k then grI f a k ++ [(k : Int)] else grI f a k
theorem grI_yes {f : Nat → Nat → Int} {a k : Nat} (h : 0 ≤ f a k) : grI f a (k + 1) = grI f a k ++ [(k : Int)] := by rw [grI, if_pos h]
theorem grI_no {f : Nat → Nat → Int} {a k : Nat} (h : ¬ 0 ≤ f a k) : grI f a (k + 1) = grI f a k := by rw [grI, if_neg h]
theorem grI_len (f : Nat → Nat → Int) (a n : Nat) : (grI f a n).length ≤ n := by
  induction n with
  | zero => simp [grI]
  | succ n ih =>
    rw [grI]
    split
    · rw [List.length_append]; simp; omega
    · omega
theorem grI_mem {f : Nat → Nat → Int} {a n : Nat} {v : Int} : v ∈ grI f a n ↔ ∃ k : Nat, k < n ∧ v = k ∧ 0 ≤ f a k := by
  induction n with
  | zero => simp [grI]
  | succ n ih =>
    by_cases h : 0 ≤ f a n
    · rw [grI_yes h, List.mem_append, ih]
      constructor
      · rintro (⟨k, hk, e, h0⟩ | h1)
        · exact ⟨k, by omega, e, h0⟩
        · simp at h1; exact ⟨n, by omega, h1, h⟩
      · rintro ⟨k, hk, e, h0⟩
        by_cases e2 : k = n
        · subst e2; exact .inr (by simp [e])
        · exact .inl ⟨k, by omega, e, h0⟩
    · rw [grI_no h, ih]
      constructor
      · rintro ⟨k, hk, e, h0⟩; exact ⟨k, by omega, e, h0⟩
      · rintro ⟨k, hk, e, h0⟩
        by_cases e2 : k = n
        · subst e2; exact absurd h0 h
        · exact ⟨k, by omega, e, h0⟩
theorem grI_sorted (f : Nat → Nat → Int) (a n : Nat) : (grI f a n).Pairwise (fun x y => x < y) := by
  induction n with
  | zero => exact List.Pairwise.nil
  | succ n ih =>
    by_cases h : 0 ≤ f a n
    · rw [grI_yes h, List.pairwise_append]
      refine ⟨ih, List.pairwise_singleton _ _, fun x hx y hy => ?_⟩
      obtain ⟨k, hk, e, _⟩ := grI_mem.1 hx
      simp at hy
      omega
    · rw [grI_no h]; exact ih
/-- Is a the first of its group? -/
def fstP (f : Nat → Nat → Int) (a : Nat) : Prop := ∀ b, b < a → f a b < 0
instance (f : Nat → Nat → Int) (a : Nat) : Decidable (fstP f a) := by unfold fstP; exact inferInstance
/-- The groups whose first stop is below a. -/
def gsF (f : Nat → Nat → Int) (n : Nat) : Nat → List (List Int)
  | 0 => []
  | a + 1 => if fstP f a then gsF f n a ++ [grI f a n] else gsF f n a
theorem gsF_yes {f : Nat → Nat → Int} {n a : Nat} (h : fstP f a) : gsF f n (a + 1) = gsF f n a ++ [grI f a n] := by rw [gsF, if_pos h]
theorem gsF_no {f : Nat → Nat → Int} {n a : Nat} (h : ¬ fstP f a) : gsF f n (a + 1) = gsF f n a := by rw [gsF, if_neg h]
/-- The stops seen. -/
def seF (f : Nat → Nat → Int) (n : Nat) : Nat → List Int
  | 0 => []
  | a + 1 => if fstP f a then seF f n a ++ grI f a n else seF f n a
theorem seF_yes {f : Nat → Nat → Int} {n a : Nat} (h : fstP f a) : seF f n (a + 1) = seF f n a ++ grI f a n := by rw [seF, if_pos h]
theorem seF_no {f : Nat → Nat → Int} {n a : Nat} (h : ¬ fstP f a) : seF f n (a + 1) = seF f n a := by rw [seF, if_neg h]
theorem seF_mem {f : Nat → Nat → Int} {n m : Nat} {v : Int} : v ∈ seF f n m ↔ ∃ a, a < m ∧ fstP f a ∧ v ∈ grI f a n := by
  induction m with
  | zero => simp [seF]
  | succ m ih =>
    by_cases h : fstP f m
    · rw [seF_yes h, List.mem_append, ih]
      constructor
      · rintro (⟨a, ha, h1, h2⟩ | h2)
        · exact ⟨a, by omega, h1, h2⟩
        · exact ⟨m, by omega, h, h2⟩
      · rintro ⟨a, ha, h1, h2⟩
        by_cases e : a = m
        · subst e; exact .inr h2
        · exact .inl ⟨a, by omega, h1, h2⟩
    · rw [seF_no h, ih]
      constructor
      · rintro ⟨a, ha, h1, h2⟩; exact ⟨a, by omega, h1, h2⟩
      · rintro ⟨a, ha, h1, h2⟩
        by_cases e : a = m
        · subst e; exact absurd h1 h
        · exact ⟨a, by omega, h1, h2⟩
/-- A stop has been seen just when it is not the first of its group. -/
theorem seen_iff {n : Nat} {xs : List I3} (h : Wks n xs) {s : Nat} (hs : s < n) : ((s : Int) ∈ seF (fw xs n) n s) ↔ ¬ fstP (fw xs n) s := by
  rw [seF_mem]
  constructor
  · rintro ⟨a, ha, h1, h2⟩ hf
    obtain ⟨k, hk, e, h0⟩ := grI_mem.1 h2
    obtain rfl : k = s := by omega
    have := hf a ha
    have := fw_symm h (by omega) hs h0
    omega
  · intro hf
    have key : ∀ m, ∀ b, b ≤ m → b < s → 0 ≤ fw xs n s b → ∃ a, a < s ∧ fstP (fw xs n) a ∧ 0 ≤ fw xs n a s := by
      intro m
      induction m with
      | zero =>
        intro b hb hbs h0
        obtain rfl : b = 0 := by omega
        exact ⟨0, hbs, fun c hc => by omega, fw_symm h hs (by omega) h0⟩
      | succ m ih =>
        intro b hb hbs h0
        by_cases hfb : fstP (fw xs n) b
        · exact ⟨b, hbs, hfb, fw_symm h hs (by omega) h0⟩
        · unfold fstP at hfb
          obtain ⟨c, hc⟩ := Classical.not_forall.1 hfb
          obtain ⟨hcb, hc0⟩ := Classical.not_imp.1 hc
          exact ih c (by omega) (by omega) (fw_tra h hs (by omega) (by omega) h0 (by omega))
    unfold fstP at hf
    obtain ⟨b, hb⟩ := Classical.not_forall.1 hf
    obtain ⟨hbs, hb0⟩ := Classical.not_imp.1 hb
    obtain ⟨a, ha, h1, h2⟩ := key b b (Nat.le_refl _) hbs (by omega)
    exact ⟨a, ha, h1, grI_mem.2 ⟨s, hs, rfl, h2⟩⟩
/-- The first of the group of a stop that reaches itself. -/
theorem grI_head {f : Nat → Nat → Int} {a : Nat} (h0 : f a a = 0) : ∀ n, a < n → ∃ k : Nat, (grI f a n).head? = some (k : Int) ∧ k ≤ a ∧ 0 ≤ f a k ∧ ∀ b, b < k → f a b < 0 := by
  intro n
  induction n with
  | zero => intro h; omega
  | succ n ih =>
    intro hn
    by_cases e : a < n
    · obtain ⟨k, h1, h2⟩ := ih e
      refine ⟨k, ?_, h2⟩
      by_cases h : 0 ≤ f a n
      · rw [grI_yes h, List.head?_append, h1]; rfl
      · rw [grI_no h]; exact h1
    · obtain rfl : a = n := by omega
      rw [grI_yes (by omega)]
      cases hg : grI f a a with
      | nil =>
        refine ⟨a, rfl, Nat.le_refl _, by omega, fun b hb => ?_⟩
        by_cases hh : 0 ≤ f a b
        · have : (b : Int) ∈ grI f a a := grI_mem.2 ⟨b, hb, rfl, hh⟩
          rw [hg] at this
          simp at this
        · omega
      | cons v l =>
        have hv : v ∈ grI f a a := by rw [hg]; simp
        obtain ⟨k, hk, e2, h3⟩ := grI_mem.1 hv
        subst e2
        refine ⟨k, rfl, by omega, h3, fun b hb => ?_⟩
        by_cases hh : 0 ≤ f a b
        · have hm := grI_sorted f a a
          rw [hg] at hm
          have hb2 : (b : Int) ∈ grI f a a := grI_mem.2 ⟨b, by omega, rfl, hh⟩
          rw [hg] at hb2
          rcases List.mem_cons.1 hb2 with e4 | e4
          · omega
          · have := (List.pairwise_cons.1 hm).1 _ e4
            omega
        · omega
end Go.Proofs.Ytielakcmmgogoaa
