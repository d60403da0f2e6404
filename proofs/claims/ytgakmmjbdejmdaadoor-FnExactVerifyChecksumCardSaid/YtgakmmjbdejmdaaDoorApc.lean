/- AppendChecksum. -/
import Derived.Test.YtgakmmjbdejmdaaDoorFin
import Derived.Test.YtgakmmjbdejmdaaDoorSum
import Derived.Lib.IndexLaws
namespace Go.Proofs.YtgakmmjbdejmdaaDoor
open Go.ChangeShapes Go.WideShapes Go.ChangeAt Go.RowKit
set_option linter.unusedVariables false

/-- Does a byte stand in the text? -/
def hasB (s : ByteArray) (c : UInt8) : Bool := decide (0 ≤ Lib.indexByte s.data.toList c)
theorem hasB_yes {s : ByteArray} {c : UInt8} {k : Nat} (h : k < s.size) (e : s[k] = c) : hasB s c = true := by
  unfold hasB
  rw [decide_eq_true_eq]
  have h0 := Lib.indexByte_ge s.data.toList c
  by_cases h1 : Lib.indexByte s.data.toList c = -1
  · exact absurd (show s.data.toList[k]? = some c by rw [Array.getElem?_toList]; rw [Array.getElem?_eq_getElem (by exact h)]; exact congrArg some e) (Lib.indexByte_none h1 k)
  · omega
theorem hasB_no {s : ByteArray} {c : UInt8} (h : ∀ k (hk : k < s.size), s[k] ≠ c) : hasB s c = false := by
  unfold hasB
  rw [decide_eq_false_iff_not]
  intro h0
  obtain ⟨o, ho⟩ : ∃ o : Nat, Lib.indexByte s.data.toList c = o := ⟨(Lib.indexByte s.data.toList c).toNat, by omega⟩
  have h1 := (Lib.indexByte_some ho).1
  rw [Array.getElem?_toList] at h1
  obtain ⟨h2, h3⟩ := Array.getElem?_eq_some_iff.1 h1
  exact h o h2 h3
set_option maxHeartbeats 400000 in
theorem l1Stands_any (s : ByteArray) (c : UInt8) (w : World) (hs : s.size ≤ 9223372036854775807) :
    Calls Tryd.prog 42 #[.string s, .int .u8 c.toNat] w fun e w' => e = .returned (.bool (hasB s c)) ∧ w = w' := by
  go_enter Tryd.func42, Tryd.ntmps42
  go_wp2
  go_loop [5] (fun i => ∃ k : Nat, k ≤ s.size ∧ i = .int .i64 k ∧ ∀ j (hj : j < s.size), j < k → s[j] ≠ c) (fun i => s.size - (intOf i).toNat)
  case atStart => exact ⟨0, Nat.zero_le _, rfl, fun j _ h => absurd h (Nat.not_lt_zero _)⟩
  case round =>
    obtain ⟨k, hk, rfl, hno⟩ := hrel
    have HN := Lib.hid hno
    clear hno
    by_cases hlt : k < s.size
    · by_cases he : s[k] = c
      · have HY := Lib.hid (hasB_yes hlt he)
        have hc : s[k].toNat = c.toNat := by rw [he]
        clear he
        go_wp2
        go_ret
        exact ⟨by rw [HY.out]; rfl, rfl⟩
      · have hc : ¬ ((s[k].toNat : Int) = (c.toNat : Int)) := fun h => he (UInt8.toNat_inj.mp (by omega))
        have HM : Hid (∀ j (hj : j < s.size), j < k + 1 → s[j] ≠ c) := Lib.hid (fun j hj h => by
          by_cases e : j = k
          · subst e; exact he
          · exact HN.out j hj (by omega))
        clear he
        go_wp2
        go_round
        case rel => exact ⟨k + 1, by omega, by go_num, HM.out⟩
        case measure => simp [intOf]; omega
    · have HY := Lib.hid (hasB_no (s := s) (c := c) (fun j hj => HN.out j hj (by omega)))
      go_wp2
      go_ret
      exact ⟨by rw [HY.out]; rfl, rfl⟩

/-- The text with its seal. -/
def sealS (s : ByteArray) : ByteArray := s ++ ⟨#[35]⟩ ++ bs (num (csum s.data.toList))
theorem num_csum (l : List UInt8) : (bs (num (csum l))).size ≤ 6 := by
  have h := csum_bd l
  rw [bs_size]
  unfold num
  rw [if_neg (by omega)]
  exact dec_length _ 6 (by omega) (by omega)
theorem l1Seal_any (s : ByteArray) (w : World) (hs : s.size ≤ 1048576) :
    Calls Tryd.prog 43 #[.string s] w fun e w' => e = .returned (.string (sealS s)) ∧ ∃ q, w' = w.drewN q := by
  have hc := csum_bd s.data.toList
  have hn := num_csum s.data.toList
  have z1 : (⟨#[35]⟩ : ByteArray).size = 1 := rfl
  have HS : Hid (s ++ ⟨#[35]⟩ ++ bs (num (csum s.data.toList)) = sealS s) := Lib.hid rfl
  go_enter Tryd.func43, Tryd.ntmps43
  go_wp2_with (first
    | (go_at_call 74; refine (l1Sum_any _ _ (by unfold maxLen; omega)).mono ?_; rintro e w1 ⟨rfl, rfl⟩)
    | (go_at_call 40; refine (l1Num_any _ _ (by omega) (by omega)).mono ?_; rintro e w1 ⟨rfl, q, rfl⟩))
  go_ret
  exact ⟨by rw [← HS.out]; rfl, _, rfl⟩

/-- The answer of AppendChecksum. -/
def acB (s : ByteArray) : Bool := decide (s.size ≤ 4000) && !hasB s 35 && decide ((sealS s).size ≤ 4000)
def acS (s : ByteArray) : ByteArray := if acB s = true then sealS s else ⟨#[]⟩
theorem acS_yes {s : ByteArray} (h : acB s = true) : acS s = sealS s := by unfold acS; rw [if_pos h]
theorem acS_no {s : ByteArray} (h : acB s = false) : acS s = ⟨#[]⟩ := by unfold acS; rw [h]; rfl
theorem acB_1 {s : ByteArray} (h : 4000 < s.size) : acB s = false := by unfold acB; rw [decide_eq_false (by omega)]; rfl
theorem acB_2 {s : ByteArray} (h : hasB s 35 = true) : acB s = false := by unfold acB; rw [h]; simp
theorem acB_3 {s : ByteArray} (h : 4000 < (sealS s).size) : acB s = false := by unfold acB; rw [decide_eq_false (p := (sealS s).size ≤ 4000) (by omega)]; simp
theorem acB_y {s : ByteArray} (h1 : s.size ≤ 4000) (h2 : hasB s 35 = false) (h3 : (sealS s).size ≤ 4000) : acB s = true := by unfold acB; rw [h2, decide_eq_true h1, decide_eq_true h3]; rfl
set_option maxHeartbeats 1000000 in
theorem specAppend_any (s : ByteArray) (w : World) (hs : s.size ≤ 1048576) :
    Calls Tryd.prog 13 #[.string s] w fun e w' => e = .returned (.tuple #[.string (acS s), .bool (acB s)]) ∧ Below w.heap.size w w' := by
  by_cases h1 : 4000 < s.size
  · have HS := Lib.hid (acB_1 h1)
    go_enter Tryd.func13, Tryd.ntmps13
    go_wp2
    go_ret2
    exact ⟨retSB (acS_no HS.out).symm HS.out.symm, Below.refl _ _⟩
  cases h2 : hasB s 35
  · by_cases h3 : 4000 < (sealS s).size
    · have HS := Lib.hid (acB_3 h3)
      go_enter Tryd.func13, Tryd.ntmps13
      go_wp2_with (first
        | (go_at_call 42; refine (l1Stands_any _ 35 _ (by omega)).mono ?_; rintro e w1 ⟨rfl, rfl⟩; rw [h2])
        | (go_at_call 43; refine (l1Seal_any _ _ hs).mono ?_; rintro e w1 ⟨rfl, q, rfl⟩))
      go_ret2
      exact ⟨retSB (acS_no HS.out).symm HS.out.symm, by repeat (first | exact Below.refl _ _ | refine bel_drewN ?_ _ | refine bel_drew ?_)⟩
    · have HS := Lib.hid (acB_y (by omega) h2 (by omega))
      go_enter Tryd.func13, Tryd.ntmps13
      go_wp2_with (first
        | (go_at_call 42; refine (l1Stands_any _ 35 _ (by omega)).mono ?_; rintro e w1 ⟨rfl, rfl⟩; rw [h2])
        | (go_at_call 43; refine (l1Seal_any _ _ hs).mono ?_; rintro e w1 ⟨rfl, q, rfl⟩))
      go_ret2
      exact ⟨retSB (acS_yes HS.out).symm HS.out.symm, by repeat (first | exact Below.refl _ _ | refine bel_drewN ?_ _ | refine bel_drew ?_)⟩
  · have HS := Lib.hid (acB_2 h2)
    go_enter Tryd.func13, Tryd.ntmps13
    go_wp2_with (go_at_call 42; refine (l1Stands_any _ 35 _ (by omega)).mono ?_; rintro e w1 ⟨rfl, rfl⟩; rw [h2])
    go_ret2
    exact ⟨retSB (acS_no HS.out).symm HS.out.symm, by repeat (first | exact Below.refl _ _ | refine bel_drewN ?_ _ | refine bel_drew ?_)⟩
set_option maxHeartbeats 1000000 in
theorem implAppend_any (s : ByteArray) (w : World) (hs : s.size ≤ 1048576) (HT : Pow10 w) :
    Calls Tryd.prog 14 #[.string s] w fun e w' => e = .returned (.tuple #[.string (acS s), .bool (acB s)]) ∧ Below w.heap.size w w' := by
  have H1 := Lib.hid HT
  clear HT
  have hc := csum_bd s.data.toList
  have hn := num_csum s.data.toList
  have z1 : (⟨#[35]⟩ : ByteArray).size = 1 := rfl
  have HE : Hid (s ++ ⟨#[35]⟩ ++ bs (num (csum s.data.toList)) = sealS s) := Lib.hid rfl
  have hz : (sealS s).size = s.size + 1 + (bs (num (csum s.data.toList))).size := by unfold sealS; rw [ByteArray.size_append, ByteArray.size_append, z1]
  by_cases h1 : 4000 < s.size
  · have HS := Lib.hid (acB_1 h1)
    go_enter Tryd.func14, Tryd.ntmps14
    go_wp2
    go_ret2
    exact ⟨retSB (acS_no HS.out).symm HS.out.symm, Below.refl _ _⟩
  cases h2 : hasB s 35
  · have hb : decide (0 ≤ Lib.indexByte s.data.toList 35) = false := h2
    by_cases h3 : 4000 < (sealS s).size
    · have HS := Lib.hid (acB_3 h3)
      have h3' : 4000 < s.size + 1 + (bs (num (csum s.data.toList))).size := by omega
      go_enter Tryd.func14, Tryd.ntmps14
      go_wp2_with (first
        | (go_at_call 44; refine (Tryd.strings_Contains_one _ 35 _).mono ?_; rintro e w1 ⟨rfl, rfl⟩; rw [hb])
        | (go_at_call 45; refine (checksum_any _ _ (by unfold maxLen; omega)).mono ?_; rintro e w1 ⟨rfl, rfl⟩)
        | (go_at_call 41; refine (itoa_any _ _ (by omega) (by omega) (H1.out.call (by repeat (first | exact Below.refl _ _ | refine bel_drew ?_)))).mono ?_; rintro e w3 ⟨rfl, hb3⟩))
      go_ret2
      exact ⟨retSB (acS_no HS.out).symm HS.out.symm, bel_call (by repeat (first | exact Below.refl _ _ | refine bel_drew ?_)) hb3⟩
    · have HS := Lib.hid (acB_y (by omega) h2 (by omega))
      have h3' : s.size + 1 + (bs (num (csum s.data.toList))).size ≤ 4000 := by omega
      go_enter Tryd.func14, Tryd.ntmps14
      go_wp2_with (first
        | (go_at_call 44; refine (Tryd.strings_Contains_one _ 35 _).mono ?_; rintro e w1 ⟨rfl, rfl⟩; rw [hb])
        | (go_at_call 45; refine (checksum_any _ _ (by unfold maxLen; omega)).mono ?_; rintro e w1 ⟨rfl, rfl⟩)
        | (go_at_call 41; refine (itoa_any _ _ (by omega) (by omega) (H1.out.call (by repeat (first | exact Below.refl _ _ | refine bel_drew ?_)))).mono ?_; rintro e w3 ⟨rfl, hb3⟩))
      go_ret2
      exact ⟨retSB (HE.out.trans (acS_yes HS.out).symm) HS.out.symm, bel_call (by repeat (first | exact Below.refl _ _ | refine bel_drew ?_)) hb3⟩
  · have HS := Lib.hid (acB_2 h2)
    have hb : decide (0 ≤ Lib.indexByte s.data.toList 35) = true := h2
    go_enter Tryd.func14, Tryd.ntmps14
    go_wp2_with (go_at_call 44; refine (Tryd.strings_Contains_one _ 35 _).mono ?_; rintro e w1 ⟨rfl, rfl⟩; rw [hb])
    go_ret2
    exact ⟨retSB (acS_no HS.out).symm HS.out.symm, by repeat (first | exact Below.refl _ _ | refine bel_drew ?_)⟩
theorem fnAppendChecksum_walk (s : ByteArray) (ws : s.size ≤ maxLen) (w : World) (HT : Pow10 w) :
    Calls Tryd.prog 4 #[.string s] w fun e w' => e = .returned (.bool true) ∧ Below w.heap.size w w' := by
  have H1 := Lib.hid HT
  clear HT
  by_cases hs : 1048576 < s.size
  · go_enter Tryd.func4, Tryd.ntmps4
    go_wp2
    go_ret
    exact ⟨rfl, Below.refl _ _⟩
  have hs' : s.size ≤ 1048576 := by omega
  go_enter Tryd.func4, Tryd.ntmps4
  go_wp2_with fail
  refine (specAppend_any _ _ hs').mono ?_
  rintro e w1 ⟨rfl, hb1⟩
  have H2 := Lib.hid (H1.out.call hb1)
  have HB := Lib.hid hb1
  clear hb1
  go_wp2_with fail
  refine (implAppend_any _ _ hs' H2.out).mono ?_
  rintro e w2 ⟨rfl, hb2⟩
  have HB2 := Lib.hid (bel_call HB.out hb2)
  clear hb2
  go_wp2
  go_ret
  exact ⟨rfl, HB2.out⟩
end Go.Proofs.YtgakmmjbdejmdaaDoor
