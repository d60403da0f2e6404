/- Contracts of the functions that write and read decimal numbers, and the walk of the law of ParseInt. -/
import Derived.Test.YtpipegdjflniaaaDoorNum
import Derived.Test.YtpipegdjflniaaaDoorBas
import Derived.WalkKit
import Derived.ProofKit
import Derived.WalkSpells
import Derived.WalkLawsBesides
import Derived.Below
import Derived.Outline
import Derived.Deep.QuietTactic
import Derived.BigQuiet
import Derived.Lib.Hide
import Derived.Handy
import Derived.PlainAid
namespace Go.Proofs.YtpipegdjflniaaaDoor
open Go.ChangeShapes Go.WideShapes Go.ChangeAt Go.RowKit Go.PlainAid
set_option linter.unusedVariables false

/-- Some bytes as a string. -/
def bs (l : List UInt8) : ByteArray := ⟨l.toArray⟩
theorem bs_size (l : List UInt8) : (bs l).size = l.length := by simp [bs, ByteArray.size]
theorem bs_append (a b : List UInt8) : bs a ++ bs b = bs (a ++ b) := by
  unfold bs
  rw [ByteArray.mk_append_mk]
theorem dig_ex : ∀ d : Fin 10, (⟨#[48, 49, 50, 51, 52, 53, 54, 55, 56, 57]⟩ : ByteArray).extract d.1 (d.1 + 1) = bs [dg d.1] := by decide +kernel
theorem dig_int (n : Int) (h0 : 0 ≤ n) (h1 : n < 10) : (⟨#[48, 49, 50, 51, 52, 53, 54, 55, 56, 57]⟩ : ByteArray).extract n.toNat (n + 1).toNat = bs [dg n.toNat] := by
  obtain ⟨m, rfl⟩ := Int.eq_ofNat_of_zero_le h0
  have e2 : ((m : Int) + 1).toNat = m + 1 := by omega
  rw [e2, Int.toNat_natCast, dig_ex ⟨m, by omega⟩]
theorem retS {a b : ByteArray} (h : a = b) : Ending.returned (.string a) = .returned (.string b) := by rw [h]

set_option maxHeartbeats 400000 in
theorem l1Num_nn (k : Nat) : ∀ (n : Int) (w : World), 0 ≤ n → n.toNat < k → n ≤ 999999999 →
    Calls Tryd.prog 45 #[.int .i64 n] w fun e w' => e = .returned (.string (bs (dec n.toNat))) ∧ ∃ q, w' = w.drewN q := by
  induction k with
  | zero => intro n w h0 h1; omega
  | succ k ih =>
    intro n w h0 hk hB
    have IH := Lib.hid ih
    clear ih
    by_cases h10 : n < 10
    · have H := Lib.hid (show (⟨#[48, 49, 50, 51, 52, 53, 54, 55, 56, 57]⟩ : ByteArray).extract n.toNat (n + 1).toNat = bs (dec n.toNat) by rw [dig_int n h0 h10, dec_lt _ (by omega)])
      go_enter Tryd.func45, Tryd.ntmps45
      go_wp2
      go_ret; exact ⟨retS H.out, 0, rfl⟩
    · have H := Lib.hid (show bs (dec (n / 10).toNat) ++ (⟨#[48, 49, 50, 51, 52, 53, 54, 55, 56, 57]⟩ : ByteArray).extract (n % 10).toNat (n % 10 + 1).toNat = bs (dec n.toNat) by
        rw [dig_int (n % 10) (by omega) (by omega), dec_ge n.toNat (by omega), bs_append]
        have e1 : (n / 10).toNat = n.toNat / 10 := by omega
        have e2 : (n % 10).toNat = n.toNat % 10 := by omega
        rw [e1, e2])
      have hs := bs_size
      have hl : (dec (n / 10).toNat).length ≤ 9 := dec_length _ 9 (by omega) (by omega)
      go_enter Tryd.func45, Tryd.ntmps45
      go_wp2
      go_quiet ((go_at_call 45; exact Calls.quiet_of (IH.out _ _ (by omega) (by omega) (by omega))))
      go_wp2
      go_ret; exact ⟨retS H.out, _, rfl⟩

theorem l1Num_any (n : Int) (w : World) (h1 : -999999999 ≤ n) (h2 : n ≤ 999999999) :
    Calls Tryd.prog 45 #[.int .i64 n] w fun e w' => e = .returned (.string (bs (num n))) ∧ ∃ q, w' = w.drewN q := by
  by_cases h0 : n < 0
  · have H := Lib.hid (show (⟨#[45]⟩ : ByteArray) ++ bs (dec (-n).toNat) = bs (num n) by rw [show (⟨#[45]⟩ : ByteArray) = bs [45] from rfl, bs_append]; unfold num; rw [if_pos h0]; rfl)
    have hs := bs_size
    have hl : (dec (-n).toNat).length ≤ 9 := dec_length _ 9 (by omega) (by omega)
    go_enter Tryd.func45, Tryd.ntmps45
    go_wp2_with (go_at_call 45; refine (l1Num_nn ((-n).toNat + 1) _ _ (by omega) (by omega) (by omega)).mono ?_; rintro e w1 ⟨rfl, q, rfl⟩)
    go_ret; exact ⟨retS H.out, _, rfl⟩
  · have e : num n = dec n.toNat := by unfold num; rw [if_neg h0]
    rw [e]
    exact l1Num_nn (n.toNat + 1) n w (by omega) (by omega) h2

/-- How many digits stand at the head. -/
def lead (l : List UInt8) : Nat := (l.takeWhile isDg).length
def natBad (l : List UInt8) : Bool := decide (6 < lead l) || (decide (2 ≤ lead l) && l.head? == some 48)
def natV (l : List UInt8) : Int := if natBad l = true then 0 else val (l.take (lead l))
def natS (l : List UInt8) : ByteArray := bs (if natBad l = true then [] else l.drop (lead l))
def natB (l : List UInt8) : Bool := !natBad l && decide (0 < lead l)

theorem lead_ge : ∀ (l : List UInt8) (k : Nat), (∀ j, j < k → ∃ c, l[j]? = some c ∧ isDg c = true) → k ≤ lead l := by
  intro l
  induction l with
  | nil =>
    intro k h
    rcases Nat.eq_zero_or_pos k with rfl | hk
    · exact Nat.zero_le _
    · obtain ⟨c, hc, _⟩ := h 0 hk
      simp at hc
  | cons a l ih =>
    intro k h
    rcases k with _ | k
    · exact Nat.zero_le _
    · obtain ⟨c, hc, hd⟩ := h 0 (by omega)
      simp at hc
      subst hc
      have := ih k (fun j hj => by obtain ⟨c, hc, hd⟩ := h (j + 1) (by omega); exact ⟨c, by simpa using hc, hd⟩)
      unfold lead at this ⊢
      rw [List.takeWhile_cons, if_pos hd]
      simpa using this
theorem lead_eq : ∀ (l : List UInt8) (k : Nat), (∀ j, j < k → ∃ c, l[j]? = some c ∧ isDg c = true) → (∀ c, l[k]? = some c → isDg c = false) → lead l = k := by
  intro l
  induction l with
  | nil =>
    intro k h _
    rcases Nat.eq_zero_or_pos k with rfl | hk
    · rfl
    · obtain ⟨c, hc, _⟩ := h 0 hk
      simp at hc
  | cons a l ih =>
    intro k h h2
    rcases k with _ | k
    · have := h2 a (by simp)
      unfold lead
      rw [List.takeWhile_cons, if_neg (by simp [this])]
      rfl
    · obtain ⟨c, hc, hd⟩ := h 0 (by omega)
      simp at hc
      subst hc
      have := ih k (fun j hj => by obtain ⟨c, hc, hd⟩ := h (j + 1) (by omega); exact ⟨c, by simpa using hc, hd⟩) (fun c hc => h2 c (by simpa using hc))
      unfold lead at this ⊢
      rw [List.takeWhile_cons, if_pos hd, List.length_cons, this]
theorem bt_get (s : ByteArray) (k : Nat) (h : k < s.size) : s.data.toList[k]? = some s[k] := by
  rw [List.getElem?_eq_getElem (by simpa using h)]; rfl
theorem isDg_bt (s : ByteArray) (k : Nat) (h : k < s.size) : isDg s[k] = (decide (48 ≤ bt s k) && decide (bt s k ≤ 57)) := by
  rw [← get_bt s k h]; unfold isDg
  congr 1 <;> simp <;> omega
theorem take_snoc (s : ByteArray) (k : Nat) (h : k < s.size) : s.data.toList.take (k + 1) = s.data.toList.take k ++ [s[k]] := by
  rw [List.take_succ_eq_append_getElem (by simpa using h)]; rfl
theorem val_take_succ (s : ByteArray) (k : Nat) (h : k < s.size) (hd : 48 ≤ bt s k) : (val (s.data.toList.take (k + 1)) : Int) = (val (s.data.toList.take k) : Int) * 10 + (bt s k - 48) := by
  rw [take_snoc s k h, val_snoc]
  have := get_bt s k h
  omega
/-- The first k bytes are digits. -/
def Dgs (s : ByteArray) (k : Nat) : Prop := ∀ j, j < k → 48 ≤ bt s j ∧ bt s j ≤ 57
theorem Dgs.get {s : ByteArray} {k : Nat} (h : Dgs s k) (hk : k ≤ s.size) : ∀ j, j < k → ∃ c, s.data.toList[j]? = some c ∧ isDg c = true := fun j hj =>
  ⟨_, bt_get s j (by omega), by rw [isDg_bt s j (by omega)]; simp [h j hj]⟩
theorem Dgs.mem {s : ByteArray} {k : Nat} (h : Dgs s k) (hk : k ≤ s.size) : ∀ c ∈ s.data.toList.take k, isDg c = true := by
  intro c hc
  obtain ⟨j, hj⟩ := List.mem_iff_getElem?.1 hc
  rw [List.getElem?_take] at hj
  split at hj
  · rename_i hjk
    obtain ⟨c', hc', hd⟩ := h.get hk j hjk
    rw [hc'] at hj
    injection hj with hj
    rw [← hj]; exact hd
  · cases hj
theorem Dgs.succ {s : ByteArray} {k : Nat} (h : Dgs s k) (h1 : 48 ≤ bt s k) (h2 : bt s k ≤ 57) : Dgs s (k + 1) := fun j hj => by
  by_cases e : j = k
  · subst e; exact ⟨h1, h2⟩
  · exact h j (by omega)
theorem Dgs.bd {s : ByteArray} {k : Nat} (h : Dgs s k) (hk : k ≤ s.size) (h6 : k ≤ 6) : val (s.data.toList.take k) ≤ 999999 := by
  have := val_bd _ (h.mem hk)
  have h1 : (s.data.toList.take k).length ≤ k := List.length_take_le _ _
  have h2 : 10 ^ (s.data.toList.take k).length ≤ 10 ^ 6 := Nat.pow_le_pow_right (by omega) (by omega)
  omega

/-- What the reader of natural numbers returns. -/
theorem nat_bad (s : ByteArray) (h : natBad s.data.toList = true) : Value.tuple #[.int .i64 0, .string ⟨#[]⟩, .bool false] = .tuple #[.int .i64 (natV s.data.toList), .string (natS s.data.toList), .bool (natB s.data.toList)] := by
  simp [natV, natS, natB, h, bs]
theorem nat_good (s : ByteArray) (k : Nat) (hk : k ≤ s.size) (h : Dgs s k) (h6 : k ≤ 6) (hz : 2 ≤ k → bt s 0 ≠ 48) (he : k = s.size ∨ bt s k < 48 ∨ 57 < bt s k) :
    Value.tuple #[.int .i64 (val (s.data.toList.take k)), .string (s.extract k s.size), .bool (decide (0 < k))] = .tuple #[.int .i64 (natV s.data.toList), .string (natS s.data.toList), .bool (natB s.data.toList)] := by
  have hl : lead s.data.toList = k := lead_eq _ k (h.get hk) (fun c hc => by
    have hks : k < s.size := by
      have := (List.getElem?_eq_some_iff.1 hc).1
      simpa using this
    rw [bt_get s k hks] at hc
    injection hc with hc
    rw [← hc, isDg_bt s k hks]
    rcases he with he | he | he
    · omega
    · simp; omega
    · simp; omega)
  have hb : natBad s.data.toList = false := by
    unfold natBad
    rw [hl]
    have : ¬ 6 < k := by omega
    simp only [this, decide_false, Bool.false_or, Bool.and_eq_false_iff, decide_eq_false_iff_not, beq_eq_false_iff_ne]
    by_cases h2 : 2 ≤ k
    · right
      intro h0
      have h00 : s.data.toList[0]? = some 48 := by rw [← h0, List.head?_eq_getElem?]
      rw [bt_get s 0 (by omega)] at h00
      injection h00 with h00
      refine hz h2 ?_
      rw [← get_bt s 0 (by omega), h00]
      rfl
    · left; exact h2
  have hx : s.extract k s.size = bs (s.data.toList.drop k) := by
    unfold bs
    apply Go.WideShapes.bytes_inj
    simp
    exact List.take_of_length_le (by rw [List.length_drop, Array.length_toList]; exact Nat.le_refl _)
  unfold natV natS natB
  rw [hb, hl]
  simp [hx]

theorem nat_bad7 (s : ByteArray) (hs : 7 ≤ s.size) (h : Dgs s 7) : natBad s.data.toList = true := by
  have := lead_ge s.data.toList 7 (h.get hs)
  unfold natBad
  have h6 : 6 < lead s.data.toList := by omega
  simp [h6]
theorem nat_bad2 (s : ByteArray) (hs : 2 ≤ s.size) (h : Dgs s 2) (h0 : bt s 0 = 48) : natBad s.data.toList = true := by
  have := lead_ge s.data.toList 2 (h.get hs)
  have hh : s.data.toList.head? = some 48 := by
    rw [List.head?_eq_getElem?, bt_get s 0 (by omega)]
    congr 1
    apply UInt8.toNat.inj
    have := get_bt s 0 (by omega)
    show _ = 48
    omega
  unfold natBad
  simp [hh, this]

set_option maxHeartbeats 1000000 in
theorem natural_any (s : ByteArray) (w : World) (hs : s.size ≤ 9223372036854775807) :
    Calls Tryd.prog 70 #[.string s] w fun e w' => e = .returned (.tuple #[.int .i64 (natV s.data.toList), .string (natS s.data.toList), .bool (natB s.data.toList)]) ∧ ∃ q, w' = w.drewN q := by
  have hg := get_bt s
  go_enter Tryd.func70, Tryd.ntmps70
  go_wp2
  go_loop [5, 6] (fun n i => ∃ k : Nat, k ≤ s.size ∧ i = .int .i64 k ∧ n = .int .i64 (val (s.data.toList.take k)) ∧ k ≤ 6 ∧ Dgs s k ∧ (2 ≤ k → bt s 0 ≠ 48)) (fun _ i => s.size - (intOf i).toNat)
  case atStart => exact ⟨0, Nat.zero_le _, rfl, rfl, by omega, fun j hj => by omega, fun h => by omega⟩
  case round =>
    obtain ⟨k, hk, rfl, rfl, h6, hd, hz⟩ := hrel
    have hb1 := bt_nonneg s k
    have hb2 := bt_le s k
    have hv := hd.bd hk h6
    have HD := Lib.hid hd
    have HZ := Lib.hid hz
    clear hd hz
    by_cases hlt : k < s.size
    · by_cases ha : 48 ≤ bt s k
      · by_cases hb : bt s k ≤ 57
        · by_cases h6' : k = 6
          · obtain rfl := h6'
            have HB := Lib.hid (nat_bad s (nat_bad7 s (by omega) (HD.out.succ ha hb)))
            clear HD
            go_wp2
            go_ret3
            exact ⟨congrArg Ending.returned HB.out, 0, rfl⟩
          · have g6 : ((k : Int) == 6) = false := by simp; omega
            by_cases h1 : k = 1
            · obtain rfl := h1
              by_cases h0 : bt s 0 = 48
              · have hv0 : val (s.data.toList.take 1) = 0 := by
                  have := val_take_succ s 0 (by omega) (by omega)
                  simp [val] at this ⊢
                  omega
                have HB := Lib.hid (nat_bad s (nat_bad2 s (by omega) (HD.out.succ ha hb) h0))
                have hv1 : ((val (s.data.toList.take 1) : Int) == 0) = true := by rw [hv0]; rfl
                clear HD hv0 h0
                go_wp2
                go_ret3
                exact ⟨congrArg Ending.returned HB.out, 0, rfl⟩
              · have hv0 : ¬ val (s.data.toList.take 1) = 0 := by
                  have e1 := val_take_succ s 0 (by omega) (HD.out 0 (by omega)).1
                  have e2 := (HD.out 0 (by omega)).1
                  have e3 : val (List.take 0 s.data.toList) = 0 := rfl
                  rw [e3] at e1
                  simp only [Nat.zero_add] at e1
                  omega
                have hv1 : ((val (s.data.toList.take 1) : Int) == 0) = false := by simp; omega
                have HV := Lib.hid (val_take_succ s 1 (by omega) ha)
                have H0 := Lib.hid h0
                clear h0 hv0
                go_wp2
                go_round
                case rel => exact ⟨2, by omega, by go_num, by rw [HV.out], by omega, HD.out.succ ha hb, fun _ => H0.out⟩
                case measure => simp [intOf]; omega
            · have g1 : ((k : Int) == 1) = false := by simp; omega
              have HV := Lib.hid (val_take_succ s k (by omega) ha)
              go_wp2
              go_round
              case rel => exact ⟨k + 1, by omega, by go_num, by rw [HV.out], by omega, HD.out.succ ha hb, fun h => by
                rcases Nat.eq_zero_or_pos k with h0 | h0
                · omega
                · exact HZ.out (by omega)⟩
              case measure => simp [intOf]; omega
        · have HB := Lib.hid (nat_good s k hk HD.out h6 HZ.out (.inr (.inr (by omega))))
          go_wp2
          go_quiet (fail)
          go_wp2
          go_ret3
          exact ⟨congrArg Ending.returned HB.out, _, rfl⟩
      · have HB := Lib.hid (nat_good s k hk HD.out h6 HZ.out (.inr (.inl (by omega))))
        go_wp2
        go_quiet (fail)
        go_wp2
        go_ret3
        exact ⟨congrArg Ending.returned HB.out, _, rfl⟩
    · have HB := Lib.hid (nat_good s k hk HD.out h6 HZ.out (.inl (by omega)))
      go_wp2
      go_quiet (fail)
      go_wp2
      go_ret3
      exact ⟨congrArg Ending.returned HB.out, _, rfl⟩

end Go.Proofs.YtpipegdjflniaaaDoor
