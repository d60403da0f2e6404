/- Shortest ways: the reference's search and the program's way agree; plain law. -/
import Derived.Test.YtemhcobjhpifpaaSwa
import Derived.Test.YtemhcobjhpifpaaFwa
namespace Go.Proofs.Ytemhcobjhpifpaa
open Go.ChangeShapes Go.WideShapes Go.ChangeAt Go.RowKit Go.PlainAid
set_option linter.unusedVariables false
set_option linter.unusedSimpArgs false

/-! ### The walk between two stops -/
def wmI (xs : List I3) (a b : Nat) : Int := ixN xs.length fun k => decide (conn (nth3 xs k) a b)
/-- Its minutes, or -1. -/
def wmO (xs : List I3) (a b : Nat) : Int := if 0 ≤ wmI xs a b then (nth3 xs (wmI xs a b).toNat).c else -1
section
variable {n : Nat} {xs : List I3}
theorem wm_cases (xs : List I3) (a b : Nat) : (∃ k, k < xs.length ∧ conn (nth3 xs k) a b ∧ wmO xs a b = (nth3 xs k).c) ∨ ((∀ k, k < xs.length → ¬ conn (nth3 xs k) a b) ∧ wmO xs a b = -1) := by
  rcases ixN_cases xs.length (fun k => decide (conn (nth3 xs k) a b)) with ⟨k, h1, h2, _, e⟩ | ⟨h1, e⟩
  · refine .inl ⟨k, h1, of_decide_eq_true h2, ?_⟩
    have e' : wmI xs a b = k := e
    unfold wmO
    rw [e', if_pos (by omega), Int.toNat_natCast]
  · refine .inr ⟨fun k hk hc => ?_, ?_⟩
    · have := h1 k hk
      simp [hc] at this
    · have e' : wmI xs a b = -1 := e
      unfold wmO
      rw [e', if_neg (by omega)]
theorem wm_edge (h : Wks n xs) {a b : Nat} {m : Int} (e : edgeP xs a b m) : wmO xs a b = m ∧ 1 ≤ m ∧ m ≤ 120 := by
  obtain ⟨k, hk, hc, rfl⟩ := e
  have ok := h.ok k hk
  unfold WkOk at ok
  rcases wm_cases xs a b with ⟨j, hj, hc2, e⟩ | ⟨h1, _⟩
  · rw [e, h.one j k a b hj hk hc2 hc]
    omega
  · exact absurd hc (h1 k hk)
theorem wm_of (h : Wks n xs) {a b : Nat} (h0 : 0 ≤ wmO xs a b) : edgeP xs a b (wmO xs a b) ∧ 1 ≤ wmO xs a b ∧ wmO xs a b ≤ 120 ∧ a < n ∧ b < n := by
  rcases wm_cases xs a b with ⟨j, hj, hc, e⟩ | ⟨_, e⟩
  · have ok := h.ok j hj
    unfold WkOk at ok
    refine ⟨⟨j, hj, hc, e.symm⟩, by omega, by omega, ?_⟩
    unfold conn at hc
    omega
  · omega
theorem edge_symm {a b : Nat} {m : Int} (e : edgeP xs a b m) : edgeP xs b a m := by
  obtain ⟨k, hk, hc, rfl⟩ := e
  exact ⟨k, hk, conn_symm hc, rfl⟩
theorem edge_lt (h : Wks n xs) {a b : Nat} {m : Int} (e : edgeP xs a b m) : a < n ∧ b < n := by
  obtain ⟨k, hk, hc, rfl⟩ := e
  have ok := h.ok k hk
  unfold WkOk at ok
  unfold conn at hc
  omega
theorem wayP_rev (h : Wks n xs) {s : Nat} (hs : s < n) : ∀ (k t : Nat) (d : Int), t < n → wayN n xs s k t d → wayP n xs t s d
  | 0, t, d, _, hw => by
    obtain ⟨rfl, rfl⟩ := hw
    exact wayP_nil s
  | k + 1, t, d, ht, hw => by
    obtain ⟨u, m, hu, h1, h2⟩ := hw
    have ih := wayP_rev h hs k u (d - m) hu h1
    have h3 : wayP n xs t u (0 + m) := wayP_step (wayP_nil t) ht (edge_symm h2)
    have h4 := wayP_trans h3 ih
    rwa [show 0 + m + (d - m) = d by omega] at h4
/-- Times are the same both ways. -/
theorem fw_symm (h : Wks n xs) {a b : Nat} (ha : a < n) (hb : b < n) : fw xs n a b = fw xs n b a := by
  have da := fw_dist h ha
  have db := fw_dist h hb
  have la := da.lo b hb
  have lb := db.lo a ha
  have k1 : 0 ≤ fw xs n a b → 0 ≤ fw xs n b a ∧ fw xs n b a ≤ fw xs n a b := fun h0 => by
    obtain ⟨k, hw⟩ := da.way b hb h0
    exact db.le ha (wayP_rev h ha k b _ hb hw)
  have k2 : 0 ≤ fw xs n b a → 0 ≤ fw xs n a b ∧ fw xs n a b ≤ fw xs n b a := fun h0 => by
    obtain ⟨k, hw⟩ := db.way a ha h0
    exact da.le hb (wayP_rev h hb k a _ ha hw)
  by_cases h0 : 0 ≤ fw xs n a b
  · have := k1 h0
    have := k2 this.1
    omega
  · by_cases h1 : 0 ≤ fw xs n b a
    · have := k2 h1
      omega
    · omega
end

/-! ### Ways onward -/
/-- Is the walk from a to b part of a shortest way to t? -/
def onw (n : Nat) (xs : List I3) (t a b : Nat) : Prop := 0 ≤ wmO xs a b ∧ 0 ≤ fw xs n b t ∧ wmO xs a b + fw xs n b t = fw xs n a t
instance (n : Nat) (xs : List I3) (t a b : Nat) : Decidable (onw n xs t a b) := by unfold onw; exact inferInstance
def onwB (n : Nat) (xs : List I3) (t a b : Nat) : Bool := decide (onw n xs t a b)
/-- The first of n lists that is not empty. -/
def scanF (g : Nat → List Nat) (n : Nat) : List Nat := match (List.range n).find? (fun s => decide (g s ≠ [])) with | some s => g s | none => []
/-- The reference's search. -/
def wF (n : Nat) (xs : List I3) (t : Nat) : Nat → List Nat → Nat → Int → List Nat
  | 0, way, a, d => if a = t ∧ d = 0 then way else []
  | k + 1, way, a, d => scanF (fun s => if wmO xs a s < 0 ∨ d < wmO xs a s ∨ s ∈ way then [] else wF n xs t k (way ++ [s]) s (d - wmO xs a s)) n
/-- The program's way. -/
def grN (n : Nat) (xs : List I3) (t : Nat) (o : List Int) (a : Nat) : Option Nat := (List.range n).find? (fun b => decide (nth o b = nth o a - 1) && onwB n xs t a b)
def grF (n : Nat) (xs : List I3) (t : Nat) (o : List Int) : Nat → Nat → List Nat
  | 0, _ => []
  | k + 1, a => match grN n xs t o a with | some b => b :: grF n xs t o k b | none => []
theorem scanF_ne {g : Nat → List Nat} {n : Nat} (h : scanF g n ≠ []) : ∃ s, s < n ∧ g s ≠ [] ∧ scanF g n = g s := by
  unfold scanF at h ⊢
  cases hf : (List.range n).find? (fun s => decide (g s ≠ [])) with
  | none => rw [hf] at h; exact absurd rfl h
  | some s =>
    have h1 := List.find?_some hf
    have h2 := List.mem_of_find?_eq_some hf
    exact ⟨s, List.mem_range.1 h2, by simpa using h1, rfl⟩
theorem find_congr {p q : Nat → Bool} {n : Nat} (h : ∀ s, s < n → p s = q s) : (List.range n).find? p = (List.range n).find? q := by
  have : ∀ l : List Nat, (∀ s ∈ l, s < n) → l.find? p = l.find? q := fun l hl => by
    induction l with
    | nil => rfl
    | cons a l ih =>
      rw [List.find?_cons, List.find?_cons, h a (hl a List.mem_cons_self), ih (fun s hs => hl s (List.mem_cons_of_mem _ hs))]
  exact this _ (fun s hs => List.mem_range.1 hs)
section
variable {n : Nat} {xs : List I3} {t : Nat} {o : List Int}
/-- What the search finds is a way of so many minutes. -/
theorem wF_way (h : Wks n xs) (ht : t < n) : ∀ (k : Nat) (way : List Nat) (a : Nat) (d : Int), a < n → wF n xs t k way a d ≠ [] → wayP n xs a t d
  | 0, way, a, d, ha, hw => by
    unfold wF at hw
    split at hw
    · rename_i hc
      obtain ⟨rfl, rfl⟩ := hc
      exact wayP_nil a
    · exact absurd rfl hw
  | k + 1, way, a, d, ha, hw => by
    unfold wF at hw
    obtain ⟨s, hs, hg, _⟩ := scanF_ne hw
    split at hg
    · exact absurd rfl hg
    · rename_i hc
      simp only [not_or, Int.not_lt] at hc
      obtain ⟨e, _, _, _, _⟩ := wm_of h hc.1
      have ih := wF_way h ht k _ s _ hs hg
      have h3 : wayP n xs a s (0 + wmO xs a s) := wayP_step (wayP_nil a) ha e
      have h4 := wayP_trans h3 ih
      rwa [show 0 + wmO xs a s + (d - wmO xs a s) = d by omega] at h4
theorem fw_le (h : Wks n xs) {a : Nat} (ha : a < n) (ht : t < n) {d : Int} (hw : wayP n xs a t d) : 0 ≤ fw xs n a t ∧ fw xs n a t ≤ d := (fw_dist h ha).le ht hw
theorem fw_step (h : Wks n xs) {a b : Nat} {m : Int} (ht : t < n) (e : edgeP xs a b m) (h0 : 0 ≤ fw xs n b t) : 0 ≤ fw xs n a t ∧ fw xs n a t ≤ m + fw xs n b t := by
  obtain ⟨ha, hb⟩ := edge_lt h e
  have h3 : wayP n xs a b (0 + m) := wayP_step (wayP_nil a) ha e
  have h4 := wayP_trans h3 ((fw_dist h hb).way t ht h0)
  have := fw_le h ha ht h4
  omega
/-- Where the search goes on along a shortest way, the walk is onward. -/
theorem wF_onw (h : Wks n xs) (ht : t < n) {k : Nat} {way : List Nat} {a s : Nat} (ha : a < n) (hs : s < n) (h0 : 0 ≤ fw xs n a t) (hm : 0 ≤ wmO xs a s) (hw : wF n xs t k way s (fw xs n a t - wmO xs a s) ≠ []) : onw n xs t a s ∧ fw xs n a t - wmO xs a s = fw xs n s t := by
  obtain ⟨e, h1, _, _, _⟩ := wm_of h hm
  have h2 := fw_le h hs ht (wF_way h ht k way s _ hs hw)
  have h3 := fw_step h ht e h2.1
  exact ⟨⟨hm, h2.1, by omega⟩, by omega⟩
/-- What is known of the numbers of steps. -/
structure StepsOk (n : Nat) (xs : List I3) (t : Nat) (o : List Int) : Prop where
  zero : nth o t = 0
  only : ∀ a, a < n → nth o a = 0 → a = t
  pred : ∀ a, a < n → 0 < nth o a → ∃ b, b < n ∧ nth o b = nth o a - 1 ∧ onw n xs t a b
  done : ∀ a b, a < n → b < n → onw n xs t a b → 0 ≤ nth o b → 0 ≤ nth o a ∧ nth o a ≤ nth o b + 1
theorem wF_steps (h : Wks n xs) (ht : t < n) (ho : StepsOk n xs t o) : ∀ (k : Nat) (way : List Nat) (a : Nat), a < n → 0 ≤ fw xs n a t → wF n xs t k way a (fw xs n a t) ≠ [] → 0 ≤ nth o a ∧ nth o a ≤ k
  | 0, way, a, ha, h0, hw => by
    unfold wF at hw
    split at hw
    · rename_i hc
      rw [hc.1, ho.zero]
      omega
    · exact absurd rfl hw
  | k + 1, way, a, ha, h0, hw => by
    unfold wF at hw
    obtain ⟨s, hs, hg, _⟩ := scanF_ne hw
    split at hg
    · exact absurd rfl hg
    · rename_i hc
      simp only [not_or, Int.not_lt] at hc
      obtain ⟨h1, h2⟩ := wF_onw h ht ha hs h0 hc.1 hg
      rw [h2] at hg
      have ih := wF_steps h ht ho k _ s hs h1.2.1 hg
      have := ho.done a s ha hs h1 ih.1
      omega
/-- The search with as many steps as there are finds the program's way. -/
theorem wF_gr (h : Wks n xs) (ht : t < n) (ho : StepsOk n xs t o) : ∀ (k : Nat) (way : List Nat) (a : Nat), a < n → 0 ≤ fw xs n a t → nth o a = k → (∀ v ∈ way, fw xs n a t ≤ fw xs n v t) → way ≠ [] → wF n xs t k way a (fw xs n a t) = way ++ grF n xs t o k a
  | 0, way, a, ha, h0, hk, hv, hn => by
    have e := ho.only a ha hk
    subst e
    have e2 : fw xs n a a = 0 := fw_diag h ha n (Nat.le_refl _)
    unfold wF grF
    rw [if_pos ⟨rfl, e2⟩, List.append_nil]
  | k + 1, way, a, ha, h0, hk, hv, hn => by
    have key : ∀ s, s < n → (if wmO xs a s < 0 ∨ fw xs n a t < wmO xs a s ∨ s ∈ way then [] else wF n xs t k (way ++ [s]) s (fw xs n a t - wmO xs a s)) = if nth o s = nth o a - 1 ∧ onw n xs t a s then way ++ s :: grF n xs t o k s else [] := fun s hs => by
      by_cases hc : nth o s = nth o a - 1 ∧ onw n xs t a s
      · rw [if_pos hc]
        obtain ⟨c1, c2, c3, c4⟩ := hc
        have he := wm_of h c2
        have hnw : s ∉ way := fun hm => by have := hv s hm; omega
        rw [if_neg (by rintro (q | q | q); omega; omega; exact hnw q)]
        have e : fw xs n a t - wmO xs a s = fw xs n s t := by omega
        rw [e, wF_gr h ht ho k (way ++ [s]) s hs c3 (by omega) (fun v hvm => by
          rcases List.mem_append.1 hvm with hvm | hvm
          · have := hv v hvm; omega
          · rw [List.mem_singleton.1 hvm]; exact Int.le_refl _) (by simp)]
        simp
      · rw [if_neg hc]
        by_cases hg : wmO xs a s < 0 ∨ fw xs n a t < wmO xs a s ∨ s ∈ way
        · rw [if_pos hg]
        · rw [if_neg hg]
          simp only [not_or, Int.not_lt] at hg
          by_cases hw : wF n xs t k (way ++ [s]) s (fw xs n a t - wmO xs a s) = []
          · exact hw
          · exfalso
            obtain ⟨h1, h2⟩ := wF_onw h ht ha hs h0 hg.1 hw
            rw [h2] at hw
            have h3 := wF_steps h ht ho k _ s hs h1.2.1 hw
            have h4 := ho.done a s ha hs h1 h3.1
            exact hc ⟨by omega, h1⟩
    obtain ⟨b0, hb0, hb1, hb2⟩ := ho.pred a ha (by omega)
    have hfind : grN n xs t o a = (List.range n).find? (fun s => decide ((if wmO xs a s < 0 ∨ fw xs n a t < wmO xs a s ∨ s ∈ way then [] else wF n xs t k (way ++ [s]) s (fw xs n a t - wmO xs a s)) ≠ [])) := by
      unfold grN
      refine find_congr fun s hs => ?_
      rw [key s hs]
      unfold onwB
      by_cases c1 : nth o s = nth o a - 1
      · by_cases c2 : onw n xs t a s
        · rw [if_pos ⟨c1, c2⟩]; simp [c1, c2]
        · rw [if_neg (fun q => c2 q.2)]; simp [c2]
      · rw [if_neg (fun q => c1 q.1)]; simp [c1]
    obtain ⟨b, hb⟩ : ∃ b, grN n xs t o a = some b := by
      cases hq : grN n xs t o a with
      | some b => exact ⟨b, rfl⟩
      | none =>
        exfalso
        unfold grN at hq
        have := List.find?_eq_none.1 hq b0 (List.mem_range.2 hb0)
        unfold onwB at this
        simp [hb1, hb2] at this
    have hbs := hb
    unfold grN at hbs
    have hbp := List.find?_some hbs
    have hbn := List.mem_range.1 (List.mem_of_find?_eq_some hbs)
    unfold onwB at hbp
    simp only [Bool.and_eq_true, decide_eq_true_eq] at hbp
    unfold wF scanF grF
    rw [← hfind, hb]
    show _ = way ++ b :: grF n xs t o k b
    have := key b hbn
    rw [if_pos hbp] at this
    exact this
/-- From where there is a way at all there are steps. -/
theorem steps_some (h : Wks n xs) (ht : t < n) (ho : StepsOk n xs t o) : ∀ (m : Nat) (a : Nat), a < n → 0 ≤ fw xs n a t → fw xs n a t ≤ m → 0 ≤ nth o a := by
  intro m
  induction m with
  | zero =>
    intro a ha h0 hm
    have e0 : fw xs n t a = 0 := by rw [fw_symm h ht ha]; omega
    obtain ⟨k, hw⟩ := (fw_dist h ht).way a ha (by omega)
    cases k with
    | zero =>
      obtain ⟨rfl, _⟩ := hw
      rw [ho.zero]
      omega
    | succ k =>
      obtain ⟨u, m, hu, h1, h2⟩ := hw
      have h3 := (fw_dist h ht).le hu ⟨k, h1⟩
      have h4 := wm_edge h h2
      omega
  | succ m ih =>
    intro a ha h0 hm
    by_cases hlt : fw xs n a t ≤ m
    · exact ih a ha h0 hlt
    · have e0 : fw xs n t a = fw xs n a t := fw_symm h ht ha
      obtain ⟨k, hw⟩ := (fw_dist h ht).way a ha (by omega)
      cases k with
      | zero =>
        obtain ⟨rfl, hq⟩ := hw
        omega
      | succ k =>
        obtain ⟨u, c, hu, h1, h2⟩ := hw
        have h3 := (fw_dist h ht).le hu ⟨k, h1⟩
        have h4 := wm_edge h (edge_symm h2)
        have e1 : fw xs n u t = fw xs n t u := fw_symm h hu ht
        have h5 := fw_step h ht (edge_symm h2) (by omega : 0 ≤ fw xs n u t)
        have h6 := ih u hu (by omega) (by omega)
        exact (ho.done a u ha hu ⟨by omega, by omega, by omega⟩ h6).1
theorem grF_len (ho : StepsOk n xs t o) : ∀ (k a : Nat), a < n → nth o a = k → (grF n xs t o k a).length = k
  | 0, _, _, _ => rfl
  | k + 1, a, ha, hk => by
    obtain ⟨b0, hb0, hb1, hb2⟩ := ho.pred a ha (by omega)
    obtain ⟨b, hb⟩ : ∃ b, grN n xs t o a = some b := by
      cases hq : grN n xs t o a with
      | some b => exact ⟨b, rfl⟩
      | none =>
        exfalso
        unfold grN at hq
        have := List.find?_eq_none.1 hq b0 (List.mem_range.2 hb0)
        unfold onwB at this
        simp [hb1, hb2] at this
    have hbs := hb
    unfold grN at hbs
    have hbp := List.find?_some hbs
    have hbn := List.mem_range.1 (List.mem_of_find?_eq_some hbs)
    simp only [Bool.and_eq_true, decide_eq_true_eq] at hbp
    unfold grF
    rw [hb]
    show (b :: grF n xs t o k b).length = k + 1
    rw [List.length_cons, grF_len ho k b hbn (by omega)]
end
end Go.Proofs.Ytemhcobjhpifpaa
