/- Contracts of the checksum functions, and the walk of the law of Checksum. -/
import Derived.Test.YtgakmmjbdejmdaaDoorRows
import Derived.WalkKit
import Derived.ProofKit
import Derived.WalkSpells
import Derived.WalkLawsBesides
import Derived.Below
import Derived.Outline
import Derived.Lib.Hide
import Derived.Handy
namespace Go.Proofs.YtgakmmjbdejmdaaDoor
open Go.ChangeShapes Go.WideShapes Go.ChangeAt Go.RowKit
set_option linter.unusedVariables false

/-- One step of the checksum. -/
def cstep (n : Int) (c : UInt8) : Int := (41 * n + (c.toNat : Int) + 1) % 999979
/-- The checksum of some bytes. -/
def csum (l : List UInt8) : Int := l.foldl cstep 7

theorem csum_snoc (l : List UInt8) (c : UInt8) : csum (l ++ [c]) = cstep (csum l) c := by simp [csum]
theorem csum_bd (l : List UInt8) : 0 ≤ csum l ∧ csum l ≤ 999978 := by
  rcases List.eq_nil_or_concat l with rfl | ⟨k, c, rfl⟩
  · decide
  · rw [List.concat_eq_append, csum_snoc]; unfold cstep; omega
theorem take_snocC (s : ByteArray) (k : Nat) (h : k < s.size) : s.data.toList.take (k + 1) = s.data.toList.take k ++ [s[k]] := by
  rw [List.take_succ_eq_append_getElem (by simpa using h)]; rfl

theorem ret_int {k : IntKind} {a b : Int} (h : a = b) : Ending.returned (.int k a) = .returned (.int k b) := by rw [h]

set_option maxHeartbeats 400000 in
theorem l1Sum_any (s : ByteArray) (w : World) (hs : s.size ≤ maxLen) :
    Calls Tryd.prog 74 #[.string s] w fun e w' => e = .returned (.int .i64 (csum s.data.toList)) ∧ w = w' := by
  unfold maxLen at hs
  go_enter Tryd.func74, Tryd.ntmps74
  go_wp2
  go_loop [3, 4] (fun n i => ∃ k : Nat, k ≤ s.size ∧ i = .int .i64 k ∧ n = .int .i64 (csum (s.data.toList.take k))) (fun _ i => s.size - (intOf i).toNat)
  case atStart => exact ⟨0, Nat.zero_le _, rfl, rfl⟩
  case round =>
    obtain ⟨k, hk, rfl, rfl⟩ := hrel
    have ⟨hd1, hd2⟩ := csum_bd (s.data.toList.take k)
    by_cases hlt : k < s.size
    · have hb : s[k].toNat < 256 := s[k].toNat_lt
      have HS := Lib.hid (show csum (s.data.toList.take (k + 1)) = (41 * csum (s.data.toList.take k) + (s[k].toNat : Int) + 1) % 999979 by rw [take_snocC s k hlt, csum_snoc]; rfl)
      go_wp2
      go_round
      case rel => exact ⟨k + 1, by omega, by go_num, by rw [HS.out]⟩
      case measure => simp [intOf]; omega
    · go_wp2
      go_ret
      exact ⟨ret_int (by rw [List.take_of_length_le (by simp; omega)]), rfl⟩

set_option maxHeartbeats 400000 in
theorem checksum_any (s : ByteArray) (w : World) (hs : s.size ≤ maxLen) :
    Calls Tryd.prog 45 #[.string s] w fun e w' => e = .returned (.int .i64 (csum s.data.toList)) ∧ w = w' := by
  unfold maxLen at hs
  go_enter Tryd.func45, Tryd.ntmps45
  go_wp2
  go_loop [3, 7] (fun n i => ∃ k : Nat, k ≤ s.size ∧ i = .int .i64 k ∧ n = .int .i64 (csum (s.data.toList.take k))) (fun _ i => s.size - (intOf i).toNat)
  case atStart => exact ⟨0, Nat.zero_le _, rfl, rfl⟩
  case round =>
    obtain ⟨k, hk, rfl, rfl⟩ := hrel
    have ⟨hd1, hd2⟩ := csum_bd (s.data.toList.take k)
    by_cases hlt : k < s.size
    · have hb : s[k].toNat < 256 := s[k].toNat_lt
      have HS := Lib.hid (show csum (s.data.toList.take (k + 1)) = (41 * csum (s.data.toList.take k) + (s[k].toNat : Int) + 1) % 999979 by rw [take_snocC s k hlt, csum_snoc]; rfl)
      go_wp2
      go_round
      case rel => exact ⟨k + 1, by omega, by go_num, by rw [HS.out]⟩
      case measure => simp [intOf]; omega
    · go_wp2
      go_ret
      exact ⟨ret_int (by rw [List.take_of_length_le (by simp; omega)]), rfl⟩

end Go.Proofs.YtgakmmjbdejmdaaDoor
