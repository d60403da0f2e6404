/- Contracts of the reference's reader of integers. -/
import Derived.Test.YtpipegdjflniaaaDoorNumW
namespace Go.Proofs.YtpipegdjflniaaaDoor
open Go.ChangeShapes Go.WideShapes Go.ChangeAt Go.RowKit Go.PlainAid
set_option linter.unusedVariables false

/-- The value of the first k bytes. -/
def tvl (t : ByteArray) (k : Nat) : Int := (val (t.data.toList.take k) : Int)
theorem tvl_succ (s : ByteArray) (k : Nat) (h : k < s.size) (hd : 48 ≤ bt s k) : tvl s (k + 1) = 10 * tvl s k + (bt s k - 48) := by
  unfold tvl; rw [val_take_succ s k h hd]; omega
theorem tvl_bd {s : ByteArray} {k : Nat} (h : Dgs s k) (hk : k ≤ s.size) (h6 : k ≤ 6) : 0 ≤ tvl s k ∧ tvl s k ≤ 999999 := by
  have := h.bd hk h6
  unfold tvl; omega
theorem tvl_all (s : ByteArray) : tvl s s.size = (val s.data.toList : Int) := by
  unfold tvl; rw [List.take_of_length_le (by rw [Array.length_toList]; exact Nat.le_refl _)]

/-- Does a text begin with a sign that is not all of it? -/
def rdM (s : ByteArray) : Prop := 1 < s.size ∧ bt s 0 = 45
/-- The digits' part, and the number. -/
def rdOk (T s : ByteArray) (sg : Int) : Prop := (1 ≤ T.size ∧ T.size ≤ 6) ∧ Dgs T T.size ∧ bs (num sg) = s
/-- What the reader of integers returns, given the digits' part T and the signed number. -/
def RdEnd (T s : ByteArray) (sg : Int) (w : World) (e : Ending) (w' : World) : Prop :=
  (∃ q : Nat, w' = w.drewN q) ∧ ((rdOk T s sg ∧ e = .returned (.tuple #[.int .i64 sg, .bool true])) ∨ (¬ rdOk T s sg ∧ e = .returned (.tuple #[.int .i64 0, .bool false])))
theorem RdEnd.no {T s : ByteArray} {sg : Int} {w w' : World} {e : Ending} (h : ¬ rdOk T s sg) (hq : ∃ q : Nat, w' = w.drewN q) (he : e = .returned (.tuple #[.int .i64 0, .bool false])) : RdEnd T s sg w e w' := ⟨hq, .inr ⟨h, he⟩⟩
theorem RdEnd.yes {T s : ByteArray} {sg x : Int} {w w' : World} {e : Ending} (h : rdOk T s sg) (hq : ∃ q : Nat, w' = w.drewN q) (hx : x = sg) (he : e = .returned (.tuple #[.int .i64 x, .bool true])) : RdEnd T s sg w e w' := ⟨hq, .inl ⟨h, by rw [he, hx]⟩⟩

theorem ba_toList_inj {s t : ByteArray} (h : s.toList = t.toList) : s = t := by
  rw [ByteArray.toList_eq, ByteArray.toList_eq] at h
  exact Go.WideShapes.bytes_inj h

set_option maxHeartbeats 2000000 in
theorem l1Read_minus (s : ByteArray) (w : World) (hs : s.size ≤ 9223372036854775807) (hM : rdM s) :
    Calls Tryd.prog 28 #[.string s] w (RdEnd (s.extract 1 s.size) s (-tvl (s.extract 1 s.size) (s.extract 1 s.size).size) w) := by
  have hTs : (s.extract 1 s.size).size = s.size - 1 := by simp
  obtain ⟨h2, hm⟩ := hM
  have hg := get_bt s
  have h45 : (bt s 0 == 45) = true := by simp [hm]
  clear hm
  by_cases hin : 1 ≤ s.size - 1 ∧ s.size - 1 ≤ 6
  · have hin' : inB ((s.size - 1 : Nat) : Int) 1 6 = true := inB_yes (by omega) (by omega)
    have hgt := get_bt (s.extract 1 s.size)
    have HT := Lib.hid hTs
    clear hTs
    go_enter Tryd.func28, Tryd.ntmps28
    go_wp2_with (go_at_call 44; refine (l1In_any _ _ _ _).mono ?_; rintro e w1 ⟨rfl, rfl⟩)
    go_loop [5, 6] (fun n i => ∃ k : Nat, k ≤ s.size - 1 ∧ i = .int .i64 k ∧ n = .int .i64 (tvl (s.extract 1 s.size) k) ∧ Dgs (s.extract 1 s.size) k) (fun _ i => s.size - 1 - (intOf i).toNat)
    case atStart => exact ⟨0, Nat.zero_le _, rfl, rfl, fun j hj => by omega⟩
    case round =>
      obtain ⟨k, hk, rfl, rfl, hd⟩ := hrel
      have ⟨hv1, hv2⟩ := tvl_bd hd (by rw [HT.out]; exact hk) (by omega)
      have hb1 := bt_nonneg (s.extract 1 s.size) k
      have hb2 := bt_le (s.extract 1 s.size) k
      have HD := Lib.hid hd
      clear hd
      by_cases hlt : k < s.size - 1
      · by_cases ha : 48 ≤ bt (s.extract 1 s.size) k
        · by_cases hb : bt (s.extract 1 s.size) k ≤ 57
          · have HV := Lib.hid (tvl_succ (s.extract 1 s.size) k (by rw [HT.out]; exact hlt) ha)
            go_wp2_with fail
            go_round
            case rel => exact ⟨k + 1, by omega, by go_num, by rw [HV.out], HD.out.succ ha hb⟩
            case measure => simp [intOf]; omega
          · go_wp2_with fail
            go_ret2
            refine RdEnd.no (fun h => ?_) ⟨0, rfl⟩ rfl
            have := h.2.1 k (by rw [HT.out]; exact hlt)
            omega
        · go_wp2_with fail
          go_ret2
          refine RdEnd.no (fun h => ?_) ⟨0, rfl⟩ rfl
          have := h.2.1 k (by rw [HT.out]; exact hlt)
          omega
      · obtain rfl : k = s.size - 1 := by omega
        have HE := Lib.hid (show -tvl (s.extract 1 s.size) (s.extract 1 s.size).size = -tvl (s.extract 1 s.size) (s.size - 1) by rw [HT.out])
        have HO := Lib.hid (show Dgs (s.extract 1 s.size) (s.extract 1 s.size).size by rw [HT.out]; exact HD.out)
        go_wp2_with (go_at_call 45; refine (l1Num_any _ _ (by omega) (by omega)).mono ?_; rintro e w1 ⟨rfl, q, rfl⟩)
        · have hne : (!(bs (num (-tvl (s.extract 1 s.size) (s.size - 1)))).toList == s.toList) = true := by assumption
          go_ret2
          refine RdEnd.no (fun h => ?_) ⟨_, rfl⟩ rfl
          have h3 := h.2.2
          rw [HE.out] at h3
          rw [h3] at hne
          simp at hne
        · have hne : (!(bs (num (-tvl (s.extract 1 s.size) (s.size - 1)))).toList == s.toList) = false := by assumption
          go_ret2
          refine RdEnd.yes ⟨by rw [HT.out]; exact hin, HO.out, ?_⟩ ⟨_, rfl⟩ HE.out.symm rfl
          rw [HE.out]
          simp only [Bool.not_eq_false', beq_iff_eq] at hne
          exact ba_toList_inj hne
  · have hin' : inB ((s.size - 1 : Nat) : Int) 1 6 = false := inB_no (by omega)
    go_enter Tryd.func28, Tryd.ntmps28
    go_wp2_with (go_at_call 44; refine (l1In_any _ _ _ _).mono ?_; rintro e w1 ⟨rfl, rfl⟩)
    all_goals
      go_ret2
      refine RdEnd.no (fun h => ?_) ⟨0, rfl⟩ rfl
      have := h.1
      rw [hTs] at this
      omega

set_option maxHeartbeats 2000000 in
theorem l1Read_one (s : ByteArray) (w : World) (hs : s.size ≤ 9223372036854775807) (h1 : s.size ≤ 1) :
    Calls Tryd.prog 28 #[.string s] w (RdEnd (s) s (tvl (s) (s).size) w) := by
  have hTs : (s).size = s.size := by simp
  have hsz : ¬ 1 < (s.size : Int) := by omega
  by_cases hin : 1 ≤ s.size ∧ s.size ≤ 6
  · have hin' : inB ((s.size : Nat) : Int) 1 6 = true := inB_yes (by omega) (by omega)
    have hgt := get_bt (s)
    have HT := Lib.hid hTs
    clear hTs
    go_enter Tryd.func28, Tryd.ntmps28
    go_wp2_with (go_at_call 44; refine (l1In_any _ _ _ _).mono ?_; rintro e w1 ⟨rfl, rfl⟩)
    go_loop [5, 6] (fun n i => ∃ k : Nat, k ≤ s.size ∧ i = .int .i64 k ∧ n = .int .i64 (tvl (s) k) ∧ Dgs (s) k) (fun _ i => s.size - (intOf i).toNat)
    case atStart => exact ⟨0, Nat.zero_le _, rfl, rfl, fun j hj => by omega⟩
    case round =>
      obtain ⟨k, hk, rfl, rfl, hd⟩ := hrel
      have ⟨hv1, hv2⟩ := tvl_bd hd (by exact hk) (by omega)
      have hb1 := bt_nonneg (s) k
      have hb2 := bt_le (s) k
      have HD := Lib.hid hd
      clear hd
      by_cases hlt : k < s.size
      · by_cases ha : 48 ≤ bt (s) k
        · by_cases hb : bt (s) k ≤ 57
          · have HV := Lib.hid (tvl_succ (s) k (by exact hlt) ha)
            go_wp2_with fail
            go_round
            case rel => exact ⟨k + 1, by omega, by go_num, by rw [HV.out], HD.out.succ ha hb⟩
            case measure => simp [intOf]; omega
          · go_wp2_with fail
            go_ret2
            refine RdEnd.no (fun h => ?_) ⟨0, rfl⟩ rfl
            have := h.2.1 k (by exact hlt)
            omega
        · go_wp2_with fail
          go_ret2
          refine RdEnd.no (fun h => ?_) ⟨0, rfl⟩ rfl
          have := h.2.1 k (by exact hlt)
          omega
      · obtain rfl : k = s.size := by omega
        have HO := Lib.hid (show Dgs (s) (s).size by exact HD.out)
        go_wp2_with (go_at_call 45; refine (l1Num_any _ _ (by omega) (by omega)).mono ?_; rintro e w1 ⟨rfl, q, rfl⟩)
        · have hne : (!(bs (num (tvl (s) (s.size)))).toList == s.toList) = true := by assumption
          go_ret2
          refine RdEnd.no (fun h => ?_) ⟨_, rfl⟩ rfl
          have h3 := h.2.2
          rw [h3] at hne
          simp at hne
        · have hne : (!(bs (num (tvl (s) (s.size)))).toList == s.toList) = false := by assumption
          go_ret2
          refine RdEnd.yes ⟨by exact hin, HO.out, ?_⟩ ⟨_, rfl⟩ rfl rfl
          simp only [Bool.not_eq_false', beq_iff_eq] at hne
          exact ba_toList_inj hne
  · have hin' : inB ((s.size : Nat) : Int) 1 6 = false := inB_no (by omega)
    go_enter Tryd.func28, Tryd.ntmps28
    go_wp2_with (go_at_call 44; refine (l1In_any _ _ _ _).mono ?_; rintro e w1 ⟨rfl, rfl⟩)
    all_goals
      go_ret2
      refine RdEnd.no (fun h => ?_) ⟨0, rfl⟩ rfl
      have := h.1
      omega

set_option maxHeartbeats 2000000 in
theorem l1Read_plus (s : ByteArray) (w : World) (hs : s.size ≤ 9223372036854775807) (h2 : 1 < s.size) (hm : bt s 0 ≠ 45) :
    Calls Tryd.prog 28 #[.string s] w (RdEnd (s) s (tvl (s) (s).size) w) := by
  have hTs : (s).size = s.size := by simp
  have h45 : (bt s 0 == 45) = false := by simp [hm]
  clear hm
  have hg := get_bt s
  by_cases hin : 1 ≤ s.size ∧ s.size ≤ 6
  · have hin' : inB ((s.size : Nat) : Int) 1 6 = true := inB_yes (by omega) (by omega)
    have hgt := get_bt (s)
    have HT := Lib.hid hTs
    clear hTs
    go_enter Tryd.func28, Tryd.ntmps28
    go_wp2_with (go_at_call 44; refine (l1In_any _ _ _ _).mono ?_; rintro e w1 ⟨rfl, rfl⟩)
    go_loop [5, 6] (fun n i => ∃ k : Nat, k ≤ s.size ∧ i = .int .i64 k ∧ n = .int .i64 (tvl (s) k) ∧ Dgs (s) k) (fun _ i => s.size - (intOf i).toNat)
    case atStart => exact ⟨0, Nat.zero_le _, rfl, rfl, fun j hj => by omega⟩
    case round =>
      obtain ⟨k, hk, rfl, rfl, hd⟩ := hrel
      have ⟨hv1, hv2⟩ := tvl_bd hd (by exact hk) (by omega)
      have hb1 := bt_nonneg (s) k
      have hb2 := bt_le (s) k
      have HD := Lib.hid hd
      clear hd
      by_cases hlt : k < s.size
      · by_cases ha : 48 ≤ bt (s) k
        · by_cases hb : bt (s) k ≤ 57
          · have HV := Lib.hid (tvl_succ (s) k (by exact hlt) ha)
            go_wp2_with fail
            go_round
            case rel => exact ⟨k + 1, by omega, by go_num, by rw [HV.out], HD.out.succ ha hb⟩
            case measure => simp [intOf]; omega
          · go_wp2_with fail
            go_ret2
            refine RdEnd.no (fun h => ?_) ⟨0, rfl⟩ rfl
            have := h.2.1 k (by exact hlt)
            omega
        · go_wp2_with fail
          go_ret2
          refine RdEnd.no (fun h => ?_) ⟨0, rfl⟩ rfl
          have := h.2.1 k (by exact hlt)
          omega
      · obtain rfl : k = s.size := by omega
        have HO := Lib.hid (show Dgs (s) (s).size by exact HD.out)
        go_wp2_with (go_at_call 45; refine (l1Num_any _ _ (by omega) (by omega)).mono ?_; rintro e w1 ⟨rfl, q, rfl⟩)
        · have hne : (!(bs (num (tvl (s) (s.size)))).toList == s.toList) = true := by assumption
          go_ret2
          refine RdEnd.no (fun h => ?_) ⟨_, rfl⟩ rfl
          have h3 := h.2.2
          rw [h3] at hne
          simp at hne
        · have hne : (!(bs (num (tvl (s) (s.size)))).toList == s.toList) = false := by assumption
          go_ret2
          refine RdEnd.yes ⟨by exact hin, HO.out, ?_⟩ ⟨_, rfl⟩ rfl rfl
          simp only [Bool.not_eq_false', beq_iff_eq] at hne
          exact ba_toList_inj hne
  · have hin' : inB ((s.size : Nat) : Int) 1 6 = false := inB_no (by omega)
    go_enter Tryd.func28, Tryd.ntmps28
    go_wp2_with (go_at_call 44; refine (l1In_any _ _ _ _).mono ?_; rintro e w1 ⟨rfl, rfl⟩)
    all_goals
      go_ret2
      refine RdEnd.no (fun h => ?_) ⟨0, rfl⟩ rfl
      have := h.1
      omega

end Go.Proofs.YtpipegdjflniaaaDoor
