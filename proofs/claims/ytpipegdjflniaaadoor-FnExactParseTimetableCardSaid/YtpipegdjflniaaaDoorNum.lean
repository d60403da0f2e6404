/- Plain laws of decimal numbers: their text, the value of a text, and when the two agree. -/
import Derived.Test.YtpipegdjflniaaaDoorRows
namespace Go.Proofs.YtpipegdjflniaaaDoor
set_option linter.unusedVariables false

/-- The digit of a number. -/
def dg (d : Nat) : UInt8 := UInt8.ofNat (48 + d)
/-- The text of a natural number. -/
def dec (n : Nat) : List UInt8 := if h : n < 10 then [dg n] else dec (n / 10) ++ [dg (n % 10)]
termination_by n
decreasing_by omega
/-- The text of an integer. -/
def num (n : Int) : List UInt8 := if n < 0 then 45 :: dec (-n).toNat else dec n.toNat
/-- Is it a digit? -/
def isDg (c : UInt8) : Bool := decide (48 ≤ c.toNat) && decide (c.toNat ≤ 57)
/-- The value of some digits. -/
def val (l : List UInt8) : Nat := l.foldl (fun n c => 10 * n + (c.toNat - 48)) 0

theorem val_snoc (l : List UInt8) (c : UInt8) : val (l ++ [c]) = 10 * val l + (c.toNat - 48) := by simp [val]
theorem dg_toNat (d : Nat) (h : d < 10) : (dg d).toNat = 48 + d := by unfold dg; rw [UInt8.toNat_ofNat']; omega
theorem isDg_dg (d : Nat) (h : d < 10) : isDg (dg d) = true := by unfold isDg; rw [dg_toNat d h]; simp; omega
theorem dg_of (c : UInt8) (h : isDg c = true) : dg (c.toNat - 48) = c := by
  unfold isDg at h
  simp at h
  apply UInt8.toNat.inj
  rw [dg_toNat _ (by omega)]
  omega
theorem dec_lt (n : Nat) (h : n < 10) : dec n = [dg n] := by rw [dec, dif_pos h]
theorem dec_ge (n : Nat) (h : ¬ n < 10) : dec n = dec (n / 10) ++ [dg (n % 10)] := by rw [dec, dif_neg h]
theorem dec_ten (v d : Nat) (hd : d < 10) (hv : 0 < v) : dec (10 * v + d) = dec v ++ [dg d] := by
  rw [dec_ge _ (by omega)]
  congr 3 <;> omega
theorem dec_ne (n : Nat) : dec n ≠ [] := by
  by_cases h : n < 10
  · rw [dec_lt n h]; simp
  · rw [dec_ge n h]; simp
theorem dec_dg (n : Nat) : ∀ c ∈ dec n, isDg c = true := by
  induction n using Nat.strongRecOn with
  | _ n ih =>
    by_cases h : n < 10
    · rw [dec_lt n h]; intro c hc; simp at hc; rw [hc]; exact isDg_dg n h
    · rw [dec_ge n h]
      intro c hc
      rw [List.mem_append] at hc
      rcases hc with hc | hc
      · exact ih (n / 10) (by omega) c hc
      · simp at hc; rw [hc]; exact isDg_dg _ (by omega)
theorem val_dec (n : Nat) : val (dec n) = n := by
  induction n using Nat.strongRecOn with
  | _ n ih =>
    by_cases h : n < 10
    · rw [dec_lt n h]; simp [val, dg_toNat n h]
    · rw [dec_ge n h, val_snoc, ih (n / 10) (by omega), dg_toNat _ (by omega)]; omega
theorem dec_head (n : Nat) (h : 0 < n) : ∀ c, (dec n).head? = some c → c ≠ 48 := by
  induction n using Nat.strongRecOn with
  | _ n ih =>
    by_cases h1 : n < 10
    · rw [dec_lt n h1]
      intro c hc hc'
      simp at hc
      subst hc'
      have := congrArg UInt8.toNat hc
      rw [dg_toNat n h1] at this
      simp at this
      omega
    · rw [dec_ge n h1]
      intro c hc
      have hne := dec_ne (n / 10)
      have ih' := ih (n / 10) (by omega) (by omega) c
      generalize dec (n / 10) = l at hne hc ih'
      match l, hne with
      | x :: l, _ => exact ih' (by simpa using hc)
theorem val_pos (l : List UInt8) (hd : ∀ c ∈ l, isDg c = true) (hz : l.head? ≠ some 48) (hl : l ≠ []) : 0 < val l := by
  have key : ∀ (l : List UInt8) (a : Nat), a ≤ l.foldl (fun n c => 10 * n + (c.toNat - 48)) a := by
    intro l
    induction l with
    | nil => intro a; exact Nat.le_refl a
    | cons c l ih => intro a; simp only [List.foldl_cons]; exact Nat.le_trans (by omega) (ih _)
  match l, hl with
  | c :: l, _ =>
    have h1 := hd c (by simp)
    unfold isDg at h1
    simp at h1
    have h2 : c ≠ 48 := by simpa using hz
    have h3 : c.toNat ≠ 48 := fun h => h2 (UInt8.toNat.inj h)
    have := key l (10 * 0 + (c.toNat - 48))
    unfold val
    simp only [List.foldl_cons]
    omega
/-- Digits without a leading zero are the text of their value. -/
theorem dec_val (l : List UInt8) (hd : ∀ c ∈ l, isDg c = true) (hl : l ≠ []) (hz : l.length = 1 ∨ l.head? ≠ some 48) : dec (val l) = l := by
  generalize hn : l.length = n at *
  induction n generalizing l with
  | zero => exact absurd (List.eq_nil_of_length_eq_zero hn) hl
  | succ n ih =>
    rcases List.eq_nil_or_concat l with rfl | ⟨k, c, rfl⟩
    · exact absurd rfl hl
    · rw [List.concat_eq_append] at *
      have hc : isDg c = true := hd c (by simp)
      have hcb : c.toNat - 48 < 10 := by unfold isDg at hc; simp at hc; omega
      rw [val_snoc]
      match k, hn with
      | [], hn => simp only [val, List.foldl_nil, Nat.mul_zero, Nat.zero_add, List.nil_append]; rw [dec_lt _ hcb, dg_of c hc]
      | a :: k, hn =>
        have hz' : (a :: k).head? ≠ some 48 := by
          rcases hz with hz | hz
          · simp at hn; omega
          · simpa using hz
        have hd' : ∀ x ∈ a :: k, isDg x = true := fun x hx => hd x (by simp at hx ⊢; rcases hx with h | h <;> simp [h])
        rw [dec_ten _ _ hcb (val_pos _ hd' hz' (by simp)), ih (a :: k) hd' (by simp) (by simpa using hn) (.inr hz'), dg_of c hc]
theorem dec_val_iff (l : List UInt8) (hd : ∀ c ∈ l, isDg c = true) (hl : l ≠ []) : dec (val l) = l ↔ (l.length = 1 ∨ l.head? ≠ some 48) := by
  refine ⟨fun h => ?_, dec_val l hd hl⟩
  by_cases h0 : val l = 0
  · rw [h0, dec_lt 0 (by omega)] at h; left; rw [← h]; rfl
  · right; intro h1; rw [← h] at h1; exact dec_head (val l) (by omega) 48 h1 rfl
theorem val_bd (l : List UInt8) (hd : ∀ c ∈ l, isDg c = true) : val l < 10 ^ l.length := by
  generalize hn : l.length = n
  induction n generalizing l with
  | zero => rw [List.eq_nil_of_length_eq_zero hn]; simp [val]
  | succ n ih =>
    rcases List.eq_nil_or_concat l with rfl | ⟨k, c, rfl⟩
    · simp at hn
    · rw [List.concat_eq_append] at *
      have hc : isDg c = true := hd c (by simp)
      have hcb : c.toNat - 48 < 10 := by unfold isDg at hc; simp at hc; omega
      rw [val_snoc]
      have := ih k (fun x hx => hd x (by simp [hx])) (by simpa using hn)
      rw [Nat.pow_succ]; omega
theorem dec_length (n k : Nat) (h : n < 10 ^ k) (hk : 0 < k) : (dec n).length ≤ k := by
  induction k generalizing n with
  | zero => omega
  | succ k ih =>
    by_cases h1 : n < 10
    · rw [dec_lt n h1]; simp
    · rw [dec_ge n h1]
      have hk0 : 0 < k := by
        rcases Nat.eq_zero_or_pos k with rfl | h0
        · simp at h; omega
        · exact h0
      have := ih (n / 10) (by rw [Nat.pow_succ] at h; omega) hk0
      simp
      omega
end Go.Proofs.YtpipegdjflniaaaDoor
