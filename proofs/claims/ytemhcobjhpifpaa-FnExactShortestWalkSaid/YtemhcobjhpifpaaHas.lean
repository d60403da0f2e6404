/- Contracts of the functions that look for a number in a list. -/
import Derived.Test.YtemhcobjhpifpaaMem
namespace Go.Proofs.Ytemhcobjhpifpaa
open Go.ChangeShapes Go.WideShapes Go.ChangeAt Go.RowKit Go.PlainAid
set_option linter.unusedVariables false

/-- The first place below n where p holds, or -1. -/
def ixN (n : Nat) (p : Nat → Bool) : Int := match (List.range n).find? p with
  | some k => (k : Int)
  | none => -1
theorem ixN_hit {n : Nat} {p : Nat → Bool} {k : Nat} (hk : k < n) (hp : p k = true) (h : ∀ j, j < k → p j = false) : ixN n p = k := by
  have : (List.range n).find? p = some k := by
    rw [List.find?_range_eq_some]
    exact ⟨hp, List.mem_range.2 hk, fun j hj => by simp [h j hj]⟩
  unfold ixN
  rw [this]
theorem ixN_none {n : Nat} {p : Nat → Bool} (h : ∀ j, j < n → p j = false) : ixN n p = -1 := by
  have : (List.range n).find? p = none := by
    rw [List.find?_eq_none]
    intro x hx
    rw [h x (List.mem_range.1 hx)]
    simp
  unfold ixN
  rw [this]
theorem ixN_cases (n : Nat) (p : Nat → Bool) : (∃ k, k < n ∧ p k = true ∧ (∀ j, j < k → p j = false) ∧ ixN n p = k) ∨ ((∀ j, j < n → p j = false) ∧ ixN n p = -1) := by
  by_cases h : ∀ j, j < n → p j = false
  · exact .inr ⟨h, ixN_none h⟩
  · left
    have hex : ∃ k, k < n ∧ p k = true := by
      rcases Classical.em (∃ k, k < n ∧ p k = true) with h1 | h1
      · exact h1
      · refine absurd (fun j hj => ?_) h
        cases hp : p j
        · rfl
        · exact absurd ⟨j, hj, hp⟩ h1
    obtain ⟨k, hk⟩ := hex
    have key : ∀ m, (∃ k, k ≤ m ∧ k < n ∧ p k = true) → ∃ k, k < n ∧ p k = true ∧ ∀ j, j < k → p j = false := by
      intro m
      induction m with
      | zero => rintro ⟨k, h0, h1, h2⟩; exact ⟨k, h1, h2, fun j hj => by omega⟩
      | succ m ih =>
        rintro ⟨k, h0, h1, h2⟩
        by_cases hs : ∃ j, j ≤ m ∧ j < n ∧ p j = true
        · exact ih hs
        · refine ⟨k, h1, h2, fun j hj => ?_⟩
          cases hp : p j
          · rfl
          · exact absurd ⟨j, by omega, by omega, hp⟩ hs
    obtain ⟨k, h1, h2, h3⟩ := key k ⟨k, Nat.le_refl _, hk.1, hk.2⟩
    exact ⟨k, h1, h2, h3, ixN_hit h1 h2 h3⟩

/-- Is a number in a list? -/
def eqAt (xs : List Int) (x : Int) (k : Nat) : Bool := nth xs k == x
def ixI (xs : List Int) (x : Int) : Int := ixN xs.length (eqAt xs x)
def hasB (xs : List Int) (x : Int) : Bool := decide (0 ≤ ixI xs x)
theorem hasB_yes {xs : List Int} {x : Int} {k : Nat} (hk : k < xs.length) (h : eqAt xs x k = true) : hasB xs x = true := by
  unfold hasB ixI
  rcases ixN_cases xs.length (eqAt xs x) with ⟨j, _, _, _, e⟩ | ⟨h1, _⟩
  · rw [e]; simp
  · rw [h1 k hk] at h; cases h
theorem hasB_no {xs : List Int} {x : Int} (h : ∀ j, j < xs.length → eqAt xs x j = false) : hasB xs x = false := by
  unfold hasB ixI
  rw [ixN_none h]
  rfl
theorem hasB_iff {xs : List Int} {x : Int} : hasB xs x = true ↔ x ∈ xs := by
  constructor
  · intro h
    unfold hasB ixI at h
    rcases ixN_cases xs.length (eqAt xs x) with ⟨j, hj, h1, _, _⟩ | ⟨_, e⟩
    · unfold eqAt at h1
      rw [← of_decide_eq_true (p := nth xs j = x) (by simpa using h1)]
      exact nth_mem hj
    · rw [e] at h; simp at h
  · intro h
    obtain ⟨k, hk, e⟩ := mem_nth h
    exact hasB_yes hk (by unfold eqAt; rw [e]; simp)

set_option maxHeartbeats 400000 in
theorem l1Has_any (A : Option Addr) (c : Nat) (xs : List Int) (x : Int) (w : World) (h : IntsAt w w.heap.size A xs) (hn : xs.length ≤ 1048576) :
    Calls Try.prog 39 #[.slice A xs.length c, .int .i64 x] w fun e w' => e = .returned (.bool (hasB xs x)) ∧ w = w' := by
  have HX := Lib.hid h
  clear h
  go_enter Try.func39, Try.ntmps39
  go_wp2
  go_loop [5] (fun i => ∃ k : Nat, k ≤ xs.length ∧ i = .int .i64 k ∧ ∀ j, j < k → eqAt xs x j = false) (fun i => xs.length - (intOf i).toNat)
  case atStart => exact ⟨0, Nat.zero_le _, rfl, fun j hj => by omega⟩
  case round =>
    obtain ⟨k, hk, rfl, ha⟩ := hrel
    have HA := Lib.hid ha
    clear ha
    by_cases hlt : k < xs.length
    · obtain ⟨b, o, rfl, hbl, hc⟩ := HX.out.get hlt
      have hi1 : (k : Int) < (xs.length : Int) := by omega
      cases he : eqAt xs x k
      · have hE := he
        unfold eqAt at hE
        go_wp2
        go_round
        case rel => exact ⟨k + 1, by omega, by go_num, fun j hj => by (by_cases e : j = k; (rw [e]; exact he); exact HA.out j (by omega))⟩
        case measure => simp [intOf]; omega
      · have HF := Lib.hid (hasB_yes hlt he)
        have hE := he
        unfold eqAt at hE
        go_wp2
        go_ret
        exact ⟨retB HF.out.symm, rfl⟩
    · obtain rfl : k = xs.length := by omega
      have HF := Lib.hid (hasB_no HA.out)
      go_wp2
      go_ret
      exact ⟨retB HF.out.symm, rfl⟩

theorem eqAt_comm (xs : List Int) (x : Int) (k : Nat) : (x == nth xs k) = eqAt xs x k := by unfold eqAt; exact Bool.beq_comm

set_option maxHeartbeats 400000 in
theorem slicesIndex_any (A : Option Addr) (c : Nat) (xs : List Int) (x : Int) (w : World) (h : IntsAt w w.heap.size A xs) (hn : xs.length ≤ 1048576) :
    Calls Try.prog 63 #[.slice A xs.length c, .int .i64 x] w fun e w' => e = .returned (.int .i64 (ixI xs x)) ∧ w = w' := by
  have HX := Lib.hid h
  clear h
  go_enter Try.func63, Try.ntmps63
  go_wp2
  go_loop [8] (fun i => ∃ k : Nat, k ≤ xs.length ∧ i = .int .i64 k ∧ ∀ j, j < k → eqAt xs x j = false) (fun i => xs.length - (intOf i).toNat)
  case atStart => exact ⟨0, Nat.zero_le _, rfl, fun j hj => by omega⟩
  case round =>
    obtain ⟨k, hk, rfl, ha⟩ := hrel
    have HA := Lib.hid ha
    clear ha
    by_cases hlt : k < xs.length
    · obtain ⟨b, o, rfl, hbl, hc⟩ := HX.out.get hlt
      have hi1 : (k : Int) < (xs.length : Int) := by omega
      cases he : eqAt xs x k
      · have hE := eqAt_comm xs x k
        rw [he] at hE
        go_wp2
        go_round
        case rel => exact ⟨k + 1, by omega, by go_num, fun j hj => by (by_cases e : j = k; (rw [e]; exact he); exact HA.out j (by omega))⟩
        case measure => simp [intOf]; omega
      · have HF := Lib.hid (show ixI xs x = k from ixN_hit hlt he HA.out)
        have hE := eqAt_comm xs x k
        rw [he] at hE
        go_wp2
        go_ret
        exact ⟨retI HF.out.symm, rfl⟩
    · obtain rfl : k = xs.length := by omega
      have HF := Lib.hid (show ixI xs x = -1 from ixN_none HA.out)
      go_wp2
      go_ret
      exact ⟨retI HF.out.symm, rfl⟩

end Go.Proofs.Ytemhcobjhpifpaa
