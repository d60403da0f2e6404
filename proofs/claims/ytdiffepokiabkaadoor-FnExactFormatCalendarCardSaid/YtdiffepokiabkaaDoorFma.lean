/- The text of a network. -/
import Derived.Test.YtdiffepokiabkaaDoorNetC
import Derived.Test.YtdiffepokiabkaaDoorLnA
import Derived.Test.YtdiffepokiabkaaDoorFin
namespace Go.Proofs.YtdiffepokiabkaaDoor
open Go.ChangeShapes Go.WideShapes Go.ChangeAt Go.RowKit Go.PlainAid
set_option linter.unusedVariables false
set_option linter.unusedSimpArgs false

/-- What is known of a valid network's line. -/
structure LnX (x : NetD) (y : LineD) : Prop where
  name : y.name.size ≤ 8
  lo : 2 ≤ y.stops.length
  len : y.stops.length ≤ 6
  runs : y.runs.length + 1 = y.stops.length
  stop : ∀ k, k < y.stops.length → 0 ≤ nth y.stops k ∧ nth y.stops k < x.stops.length ∧ (nthS x.stops (nth y.stops k).toNat).size ≤ 8
  run : ∀ k, k < y.runs.length → 1 ≤ nth y.runs k ∧ nth y.runs k ≤ 60
/-- .. and of the network. -/
structure NtX (x : NetD) : Prop where
  lo : 2 ≤ x.stops.length
  ns : x.stops.length ≤ 8
  nl : x.lines.length ≤ 5
  stop : ∀ k, k < x.stops.length → (nthS x.stops k).size ≤ 8
  line : ∀ i, i < x.lines.length → LnX x (nthL x.lines i)
theorem names_size {xs : List ByteArray} (h : namesB xs = true) {k : Nat} (hk : k < xs.length) : (nthS xs k).size ≤ 8 := by
  have h1 : AreNames xs := of_decide_eq_true h
  have h2 : IsName (nthS xs k) := of_decide_eq_true (h1 k hk).1
  exact h2.2.1
theorem ntX_of {x : NetD} (h : netB x = true) : NtX x := by
  have n := netB_ok h
  have hs := inB_iff.mp n.stops
  have hl := inB_iff.mp n.lines
  refine ⟨by omega, by omega, by omega, fun k hk => names_size n.names hk, fun i hi => ?_⟩
  have ln : LineOk x.stops.length (nthL x.lines i) := of_decide_eq_true (n.each i hi)
  have hd := ln.1
  unfold LineHd at hd
  refine ⟨?_, hd.1, hd.2.1, hd.2.2, fun k hk => ?_, fun k hk => ?_⟩
  · have h1 := names_size n.lnames (k := i) (by rw [namesOf_length]; exact hi)
    rw [nthS_names hi] at h1
    exact h1
  · have h1 := (ln.2.1 k hk).1
    rw [inB_iff] at h1
    exact ⟨h1.1, by omega, names_size n.names (by omega)⟩
  · have h1 := ln.2.2 k hk
    unfold RunOk at h1
    rw [inB_iff] at h1
    exact h1
theorem num_run {n : Int} (h0 : 1 ≤ n) (h1 : n ≤ 60) : (bs (num n)).size ≤ 2 := by
  rw [bs_size]
  unfold num
  rw [if_neg (by omega)]
  exact dec_length _ 2 (by omega) (by omega)
/-- The name of a line's k-th stop. -/
def sN (x : NetD) (y : LineD) (k : Nat) : ByteArray := nthS x.stops (nth y.stops k).toNat
def rN (y : LineD) (k : Nat) : ByteArray := bs (num (nth y.runs k))
/-- The text of the first k stops. -/
def stT (x : NetD) : Nat → ByteArray
  | 0 => ⟨#[]⟩
  | k + 1 => stT x k ++ ⟨#[115, 116, 111, 112, 32]⟩ ++ nthS x.stops k ++ ⟨#[10]⟩
/-- A line's words behind s, as the reference builds them. -/
def wdT (x : NetD) (y : LineD) (s : ByteArray) : Nat → ByteArray
  | 0 => s
  | k + 1 => if k < y.runs.length then wdT x y s k ++ ⟨#[32]⟩ ++ sN x y k ++ ⟨#[32]⟩ ++ rN y k else wdT x y s k ++ ⟨#[32]⟩ ++ sN x y k
/-- .. and as the program does. -/
def wiT (x : NetD) (y : LineD) (s : ByteArray) : Nat → ByteArray
  | 0 => s
  | k + 1 => (if 0 < k then wiT x y s k ++ (⟨#[32]⟩ ++ rN y (k - 1)) else wiT x y s k) ++ (⟨#[32]⟩ ++ sN x y k)
/-- The text of the first i lines. -/
def lnT (x : NetD) : Nat → ByteArray
  | 0 => stT x x.stops.length
  | i + 1 => wdT x (nthL x.lines i) (lnT x i ++ ⟨#[108, 105, 110, 101, 32]⟩ ++ (nthL x.lines i).name) (nthL x.lines i).stops.length ++ ⟨#[10]⟩
def netT (x : NetD) : ByteArray := lnT x x.lines.length
theorem stT_succ (x : NetD) (k : Nat) : stT x k ++ ⟨#[115, 116, 111, 112, 32]⟩ ++ nthS x.stops k ++ ⟨#[10]⟩ = stT x (k + 1) := rfl
theorem stT_succ' (x : NetD) (k : Nat) : stT x k ++ (⟨#[115, 116, 111, 112, 32]⟩ ++ nthS x.stops k ++ ⟨#[10]⟩) = stT x (k + 1) := by rw [← stT_succ]; simp only [ByteArray.append_assoc]
theorem lnT_succ (x : NetD) (i : Nat) : wdT x (nthL x.lines i) (lnT x i ++ ⟨#[108, 105, 110, 101, 32]⟩ ++ (nthL x.lines i).name) (nthL x.lines i).stops.length ++ ⟨#[10]⟩ = lnT x (i + 1) := rfl
theorem wdT_yes {x : NetD} {y : LineD} {s : ByteArray} {k : Nat} (h : k < y.runs.length) : wdT x y s k ++ ⟨#[32]⟩ ++ sN x y k ++ ⟨#[32]⟩ ++ rN y k = wdT x y s (k + 1) := by rw [wdT, if_pos h]
theorem wdT_no {x : NetD} {y : LineD} {s : ByteArray} {k : Nat} (h : ¬ k < y.runs.length) : wdT x y s k ++ ⟨#[32]⟩ ++ sN x y k = wdT x y s (k + 1) := by rw [wdT, if_neg h]
theorem wi_wd (x : NetD) (y : LineD) (s : ByteArray) : ∀ k, k ≤ y.runs.length → wdT x y s (k + 1) = if k < y.runs.length then wiT x y s (k + 1) ++ (⟨#[32]⟩ ++ rN y k) else wiT x y s (k + 1) := by
  intro k
  induction k with
  | zero =>
    intro _
    rw [wdT, wiT, if_neg (Nat.lt_irrefl 0)]
    split
    · simp only [wdT, wiT, ByteArray.append_assoc]
    · simp only [wdT, wiT, ByteArray.append_assoc]
  | succ k ih =>
    intro hk
    have ih := ih (by omega)
    rw [if_pos (by omega)] at ih
    rw [wdT, wiT, if_pos (Nat.succ_pos k), Nat.add_sub_cancel, ih]
    split
    · simp only [ByteArray.append_assoc]
    · simp only [ByteArray.append_assoc]
theorem wi_end {x : NetD} {y : LineD} (h : LnX x y) (s : ByteArray) : wiT x y s y.stops.length = wdT x y s y.stops.length := by
  have h1 := wi_wd x y s y.runs.length (Nat.le_refl _)
  rw [if_neg (Nat.lt_irrefl _), h.runs] at h1
  exact h1.symm
theorem wiT_pos {x : NetD} {y : LineD} {s : ByteArray} {k : Nat} (h : 0 < k) : wiT x y s k ++ (⟨#[32]⟩ ++ rN y (k - 1)) ++ (⟨#[32]⟩ ++ sN x y k) = wiT x y s (k + 1) := by rw [wiT, if_pos h]
theorem wiT_zero {x : NetD} {y : LineD} {s : ByteArray} : s ++ (⟨#[32]⟩ ++ sN x y 0) = wiT x y s 1 := rfl
theorem sN_size {x : NetD} {y : LineD} (h : LnX x y) {k : Nat} (hk : k < y.stops.length) : (sN x y k).size ≤ 8 := (h.stop k hk).2.2
theorem rN_size {x : NetD} {y : LineD} (h : LnX x y) {k : Nat} (hk : k < y.runs.length) : (rN y k).size ≤ 2 := num_run (h.run k hk).1 (h.run k hk).2
theorem wdT_size {x : NetD} {y : LineD} (h : LnX x y) (s : ByteArray) : ∀ k, k ≤ y.stops.length → s.size ≤ (wdT x y s k).size ∧ (wdT x y s k).size ≤ s.size + 12 * k := by
  intro k
  have e : (⟨#[32]⟩ : ByteArray).size = 1 := rfl
  induction k with
  | zero => intro _; exact ⟨Nat.le_refl _, Nat.le_refl _⟩
  | succ k ih =>
    intro hk
    have h1 := ih (by omega)
    have h2 := sN_size h (k := k) (by omega)
    rw [wdT]
    split
    · have h3 := rN_size h (k := k) (by assumption)
      simp only [ByteArray.size_append, e]
      omega
    · simp only [ByteArray.size_append, e]
      omega
theorem wiT_size {x : NetD} {y : LineD} (h : LnX x y) (s : ByteArray) : ∀ k, k ≤ y.stops.length → (wiT x y s k).size ≤ s.size + 12 * k := by
  intro k
  have e : (⟨#[32]⟩ : ByteArray).size = 1 := rfl
  have hr := h.runs
  induction k with
  | zero => intro _; exact Nat.le_refl _
  | succ k ih =>
    intro hk
    have h1 := ih (by omega)
    have h2 := sN_size h (k := k) (by omega)
    rw [wiT]
    split
    · have h3 := rN_size h (k := k - 1) (by omega)
      simp only [ByteArray.size_append, e]
      omega
    · simp only [ByteArray.size_append, e]
      omega
theorem stT_size {x : NetD} (h : NtX x) : ∀ k, k ≤ x.stops.length → k ≤ (stT x k).size ∧ (stT x k).size ≤ 14 * k := by
  intro k
  have e1 : (⟨#[115, 116, 111, 112, 32]⟩ : ByteArray).size = 5 := rfl
  have e2 : (⟨#[10]⟩ : ByteArray).size = 1 := rfl
  induction k with
  | zero => intro _; exact ⟨Nat.le_refl _, Nat.le_refl _⟩
  | succ k ih =>
    intro hk
    have h1 := ih (by omega)
    have h2 := h.stop k (by omega)
    rw [stT]
    simp only [ByteArray.size_append, e1, e2]
    omega
theorem lnT_size {x : NetD} (h : NtX x) : ∀ i, i ≤ x.lines.length → 1 ≤ (lnT x i).size ∧ (lnT x i).size ≤ 112 + 86 * i := by
  intro i
  have e1 : (⟨#[108, 105, 110, 101, 32]⟩ : ByteArray).size = 5 := rfl
  have e2 : (⟨#[10]⟩ : ByteArray).size = 1 := rfl
  induction i with
  | zero =>
    intro _
    have h1 := stT_size h x.stops.length (Nat.le_refl _)
    have := h.ns
    have := h.lo
    rw [lnT]
    omega
  | succ i ih =>
    intro hk
    have h1 := ih (by omega)
    have hl := h.line i (by omega)
    have h2 := wdT_size hl (lnT x i ++ ⟨#[108, 105, 110, 101, 32]⟩ ++ (nthL x.lines i).name) _ (Nat.le_refl _)
    have h3 := hl.name
    have h4 := hl.len
    rw [lnT]
    simp only [ByteArray.size_append, e1, e2] at h2 ⊢
    omega
theorem netT_size {x : NetD} (h : NtX x) : 1 ≤ (netT x).size ∧ (netT x).size ≤ 542 := by
  have h1 := lnT_size h x.lines.length (Nat.le_refl _)
  have := h.nl
  unfold netT
  omega
end Go.Proofs.YtdiffepokiabkaaDoor
