/- A byte that stands in a text. -/
import Derived.Test.YtgakmmjbdejmdaaMem
import Derived.Lib.IndexLaws
namespace Go.Proofs.Ytgakmmjbdejmdaa
open Go.ChangeShapes Go.WideShapes Go.ChangeAt Go.RowKit
set_option linter.unusedVariables false

/-- Does a byte stand in the text? -/
def hasB (s : ByteArray) (c : UInt8) : Bool := decide (0 ≤ Lib.indexByte s.data.toList c)
theorem hasB_yes {s : ByteArray} {c : UInt8} {k : Nat} (h : k < s.size) (e : s[k] = c) : hasB s c = true := by
  unfold hasB
  rw [decide_eq_true_eq]
  have h0 := Lib.indexByte_ge s.data.toList c
  by_cases h1 : Lib.indexByte s.data.toList c = -1
  · exact absurd (show s.data.toList[k]? = some c by rw [Array.getElem?_toList]; rw [Array.getElem?_eq_getElem (by exact h)]; exact congrArg some e) (Lib.indexByte_none h1 k)
  · omega
theorem hasB_no {s : ByteArray} {c : UInt8} (h : ∀ k (hk : k < s.size), s[k] ≠ c) : hasB s c = false := by
  unfold hasB
  rw [decide_eq_false_iff_not]
  intro h0
  obtain ⟨o, ho⟩ : ∃ o : Nat, Lib.indexByte s.data.toList c = o := ⟨(Lib.indexByte s.data.toList c).toNat, by omega⟩
  have h1 := (Lib.indexByte_some ho).1
  rw [Array.getElem?_toList] at h1
  obtain ⟨h2, h3⟩ := Array.getElem?_eq_some_iff.1 h1
  exact h o h2 h3
set_option maxHeartbeats 400000 in
theorem l1Stands_any (s : ByteArray) (c : UInt8) (w : World) (hs : s.size ≤ 9223372036854775807) :
    Calls Try.prog 21 #[.string s, .int .u8 c.toNat] w fun e w' => e = .returned (.bool (hasB s c)) ∧ w = w' := by
  go_enter Try.func21, Try.ntmps21
  go_wp2
  go_loop [5] (fun i => ∃ k : Nat, k ≤ s.size ∧ i = .int .i64 k ∧ ∀ j (hj : j < s.size), j < k → s[j] ≠ c) (fun i => s.size - (intOf i).toNat)
  case atStart => exact ⟨0, Nat.zero_le _, rfl, fun j _ h => absurd h (Nat.not_lt_zero _)⟩
  case round =>
    obtain ⟨k, hk, rfl, hno⟩ := hrel
    have HN := Lib.hid hno
    clear hno
    by_cases hlt : k < s.size
    · by_cases he : s[k] = c
      · have HY := Lib.hid (hasB_yes hlt he)
        have hc : s[k].toNat = c.toNat := by rw [he]
        clear he
        go_wp2
        go_ret
        exact ⟨by rw [HY.out]; rfl, rfl⟩
      · have hc : ¬ ((s[k].toNat : Int) = (c.toNat : Int)) := fun h => he (UInt8.toNat_inj.mp (by omega))
        have HM : Hid (∀ j (hj : j < s.size), j < k + 1 → s[j] ≠ c) := Lib.hid (fun j hj h => by
          by_cases e : j = k
          · subst e; exact he
          · exact HN.out j hj (by omega))
        clear he
        go_wp2
        go_round
        case rel => exact ⟨k + 1, by omega, by go_num, HM.out⟩
        case measure => simp [intOf]; omega
    · have HY := Lib.hid (hasB_no (s := s) (c := c) (fun j hj => HN.out j hj (by omega)))
      go_wp2
      go_ret
      exact ⟨by rw [HY.out]; rfl, rfl⟩

end Go.Proofs.Ytgakmmjbdejmdaa
