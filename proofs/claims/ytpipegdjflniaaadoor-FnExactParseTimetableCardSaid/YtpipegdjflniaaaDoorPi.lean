/- The walk of the law of ParseInt. -/
import Derived.Test.YtpipegdjflniaaaDoorNumR
namespace Go.Proofs.YtpipegdjflniaaaDoor
open Go.ChangeShapes Go.WideShapes Go.ChangeAt Go.RowKit Go.PlainAid
set_option linter.unusedVariables false


theorem ext_cell (s : ByteArray) (h : 0 < s.size) : (s.extract 0 1).toList = [s[0]] := by
  rw [ByteArray.toList_eq]
  have h0 := bt_get s 0 h
  simp
  match hs : s.data.toList, h0 with
  | a :: l, h0 => simp at h0; simp [h0]

theorem cut_yes (s : ByteArray) (w : World) (hs : s.size ≤ 9223372036854775807) (h : 0 < s.size) (hm : bt s 0 = 45) :
    Calls Tryd.prog 69 #[.string s, .string ⟨#[45]⟩] w fun e w' => e = .returned (.tuple #[.string (s.extract 1 s.size), .bool true]) ∧ w = w' := by
  have hx : ((s.extract 0 1).toList == [45]) = true := by
    rw [ext_cell s h]
    have := get_bt s 0 h
    have e : s[0] = 45 := UInt8.toNat.inj (by show _ = 45; omega)
    rw [e]; rfl
  clear hm
  go_enter Tryd.func69, Tryd.ntmps69
  go_wp2
  go_ret2
  exact ⟨rfl, rfl⟩
theorem cut_no (s : ByteArray) (w : World) (hs : s.size ≤ 9223372036854775807) (h : 0 < s.size) (hm : bt s 0 ≠ 45) :
    Calls Tryd.prog 69 #[.string s, .string ⟨#[45]⟩] w fun e w' => e = .returned (.tuple #[.string s, .bool false]) ∧ w = w' := by
  have hx : ((s.extract 0 1).toList == [45]) = false := by
    rw [ext_cell s h]
    have := get_bt s 0 h
    have e : s[0] ≠ 45 := fun e => hm (by rw [← this, e]; rfl)
    simp [e]
  clear hm
  go_enter Tryd.func69, Tryd.ntmps69
  go_wp2
  go_ret2
  exact ⟨rfl, rfl⟩
theorem cut_nil (s : ByteArray) (w : World) (h : s.size = 0) :
    Calls Tryd.prog 69 #[.string s, .string ⟨#[45]⟩] w fun e w' => e = .returned (.tuple #[.string s, .bool false]) ∧ w = w' := by
  have h1 : ¬ 1 ≤ s.size := by omega
  go_enter Tryd.func69, Tryd.ntmps69
  go_wp2
  go_ret2
  exact ⟨rfl, rfl⟩

/-- A number's text: digits alone, six at most, no zero ahead. -/
def NC (T : ByteArray) : Prop := (1 ≤ T.size ∧ T.size ≤ 6) ∧ Dgs T T.size ∧ (T.size = 1 ∨ bt T 0 ≠ 48)

theorem nat_yes (T : ByteArray) (h : NC T) : natV T.data.toList = tvl T T.size ∧ natS T.data.toList = ⟨#[]⟩ ∧ natB T.data.toList = true := by
  obtain ⟨⟨h1, h2⟩, hd, hz⟩ := h
  have H := nat_good T T.size (Nat.le_refl _) hd h2 (fun h => hz.resolve_left (by omega)) (.inl rfl)
  injection H with H
  have H := congrArg Array.toList H
  simp only [List.cons.injEq, and_true] at H
  obtain ⟨a, b, c⟩ := H
  injection a with _ a
  injection b with b
  injection c with c
  refine ⟨?_, ?_, ?_⟩
  · rw [← a]; rfl
  · rw [← b]
    apply Go.WideShapes.bytes_inj
    simp
  · rw [← c]; simp; omega

theorem lead_le (l : List UInt8) : lead l ≤ l.length := by
  unfold lead
  exact (List.takeWhile_prefix isDg).length_le
theorem lead_all (l : List UInt8) (h : lead l = l.length) : ∀ c ∈ l, isDg c = true := by
  have e : l.takeWhile isDg = l := (List.takeWhile_prefix isDg).eq_of_length h
  intro c hc
  rw [← e] at hc
  exact List.all_eq_true.1 (List.all_takeWhile) c hc

theorem nat_no (T : ByteArray) (h : ¬ NC T) : natB T.data.toList = false ∨ (natB T.data.toList = true ∧ ¬ (natS T.data.toList).toList = []) := by
  cases hB : natB T.data.toList
  · exact .inl rfl
  · refine .inr ⟨rfl, fun hS => h ?_⟩
    unfold natB at hB
    simp only [Bool.and_eq_true, Bool.not_eq_true', decide_eq_true_eq] at hB
    obtain ⟨hb, hl⟩ := hB
    rw [ByteArray.toList_eq] at hS
    unfold natS at hS
    rw [hb] at hS
    simp [bs] at hS
    have hle := lead_le T.data.toList
    have hle' : lead T.data.toList = T.data.toList.length := by simp; simp at hle; omega
    have hall := lead_all _ hle'
    have hsz : T.data.toList.length = T.size := by rw [Array.length_toList]; rfl
    unfold natBad at hb
    simp only [Bool.or_eq_false_iff, decide_eq_false_iff_not, Bool.and_eq_false_iff, beq_eq_false_iff_ne] at hb
    obtain ⟨h6, hz⟩ := hb
    have hd : Dgs T T.size := fun j hj => by
      have h1 := hall T[j] (List.mem_of_getElem? (bt_get T j hj))
      rw [isDg_bt T j hj] at h1
      simpa using h1
    refine ⟨⟨by omega, by omega⟩, hd, ?_⟩
    rcases hz with hz | hz
    · left; omega
    · right
      intro h0
      refine hz ?_
      rw [List.head?_eq_getElem?, bt_get T 0 (by omega)]
      congr 1
      apply UInt8.toNat.inj
      have := get_bt T 0 (by omega)
      show _ = 48
      omega

theorem Dgs.all {T : ByteArray} (h : Dgs T T.size) : ∀ c ∈ T.data.toList, isDg c = true := by
  have := h.mem (Nat.le_refl _)
  rwa [List.take_of_length_le (by rw [Array.length_toList]; exact Nat.le_refl _)] at this
theorem list_of_size (T : ByteArray) : T.data.toList.length = T.size := by rw [Array.length_toList]; rfl
theorem bs_inj {a b : List UInt8} (h : bs a = bs b) : a = b := by
  unfold bs at h
  injection h with h
  exact List.toArray_inj h
theorem bs_self (T : ByteArray) : bs T.data.toList = T := by unfold bs; rfl
theorem bt_head (T : ByteArray) (h : 0 < T.size) (n : Nat) (hn : n < 256) : T.data.toList.head? = some (UInt8.ofNat n) ↔ bt T 0 = n := by
  rw [List.head?_eq_getElem?, bt_get T 0 h, ← get_bt T 0 h]
  constructor
  · intro e; injection e with e; rw [e, UInt8.toNat_ofNat']; omega
  · intro e; congr 1; apply UInt8.toNat.inj; rw [UInt8.toNat_ofNat']; omega

theorem dec_nc (T : ByteArray) (h1 : 1 ≤ T.size) (hd : Dgs T T.size) : dec (tvl T T.size).toNat = T.data.toList ↔ (T.size = 1 ∨ bt T 0 ≠ 48) := by
  rw [tvl_all, Int.toNat_natCast, dec_val_iff _ hd.all (by intro e; have := list_of_size T; rw [e] at this; simp at this; omega), list_of_size]
  have := bt_head T (by omega) 48 (by omega)
  constructor
  · rintro (h | h)
    · exact .inl h
    · exact .inr (fun e => h (this.2 e))
  · rintro (h | h)
    · exact .inl h
    · exact .inr (fun e => h (this.1 e))

theorem rdOk_plus (T : ByteArray) : rdOk T T (tvl T T.size) ↔ NC T := by
  unfold rdOk NC
  constructor
  · rintro ⟨h1, hd, h3⟩
    refine ⟨h1, hd, (dec_nc T h1.1 hd).1 ?_⟩
    have hn : num (tvl T T.size) = dec (tvl T T.size).toNat := by unfold num; rw [if_neg (by have := tvl_bd hd (Nat.le_refl _) h1.2; omega)]
    rw [hn] at h3
    have := congrArg (fun b => b.data.toList) h3
    simpa [bs] using this
  · rintro ⟨h1, hd, h3⟩
    refine ⟨h1, hd, ?_⟩
    have hn : num (tvl T T.size) = dec (tvl T T.size).toNat := by unfold num; rw [if_neg (by have := tvl_bd hd (Nat.le_refl _) h1.2; omega)]
    rw [hn, (dec_nc T h1.1 hd).2 h3]
    exact bs_self T

theorem rdOk_minus (T s : ByteArray) (hs : s.data.toList = 45 :: T.data.toList) : rdOk T s (-tvl T T.size) ↔ (NC T ∧ tvl T T.size ≠ 0) := by
  unfold rdOk NC
  constructor
  · rintro ⟨h1, hd, h3⟩
    have hb := tvl_bd hd (Nat.le_refl _) h1.2
    have h4 : num (-tvl T T.size) = 45 :: T.data.toList := by rw [← hs, ← h3]; simp [bs]
    by_cases h0 : tvl T T.size = 0
    · rw [h0] at h4
      have : num (-0) = [48] := by unfold num; rw [if_neg (by omega)]; rw [dec_lt _ (by decide)]; rfl
      rw [this] at h4
      simp at h4
    · unfold num at h4
      rw [if_pos (by omega)] at h4
      simp only [List.cons.injEq, true_and, Int.neg_neg] at h4
      exact ⟨⟨h1, hd, (dec_nc T h1.1 hd).1 h4⟩, h0⟩
  · rintro ⟨⟨h1, hd, h3⟩, h0⟩
    have hb := tvl_bd hd (Nat.le_refl _) h1.2
    refine ⟨h1, hd, ?_⟩
    unfold num
    rw [if_pos (by omega), Int.neg_neg, (dec_nc T h1.1 hd).2 h3, ← hs]
    exact bs_self s

theorem cut_list (s : ByteArray) (h : 0 < s.size) (hm : bt s 0 = 45) : s.data.toList = 45 :: (s.extract 1 s.size).data.toList := by
  have h0 := bt_get s 0 h
  have e : s[0] = 45 := UInt8.toNat.inj (by have := get_bt s 0 h; show _ = 45; omega)
  rw [e] at h0
  have hl := list_of_size s
  simp
  match hs : s.data.toList, h0 with
  | a :: l, h0 =>
    simp at h0
    subst h0
    simp
    rw [hs] at hl
    simp at hl
    rw [List.take_of_length_le (by omega)]

set_option maxHeartbeats 1000000 in
theorem implParse_plus (s : ByteArray) (w : World) (hs : s.size ≤ 9223372036854775807) (h : s.size = 0 ∨ (0 < s.size ∧ bt s 0 ≠ 45)) :
    Calls Tryd.prog 54 #[.string s] w (RdEnd s s (tvl s s.size) w) := by
  have HC : Hid (∀ w, Calls Tryd.prog 69 #[.string s, .string ⟨#[45]⟩] w fun e w' => e = .returned (.tuple #[.string s, .bool false]) ∧ w = w') := by
    rcases h with h | ⟨h, hm⟩
    · exact fun w => cut_nil s w h
    · exact fun w => cut_no s w hs h hm
  clear h
  by_cases hn : NC s
  · obtain ⟨e1, e2, e3⟩ := nat_yes s hn
    have HO := Lib.hid ((rdOk_plus s).2 hn)
    have E1 := Lib.hid e1
    clear e1 hn
    go_enter Tryd.func54, Tryd.ntmps54
    go_wp2_with (first | (go_at_call 69; refine (HC.out _).mono ?_; rintro e w1 ⟨rfl, rfl⟩) | (go_at_call 70; refine (natural_any _ _ hs).mono ?_; rintro e w1 ⟨rfl, q, rfl⟩))
    go_ret2
    exact RdEnd.yes HO.out ⟨_, rfl⟩ E1.out rfl
  · have HO := Lib.hid (fun h => hn ((rdOk_plus s).1 h))
    rcases nat_no s hn with e3 | ⟨e3, e2⟩
    · clear hn
      go_enter Tryd.func54, Tryd.ntmps54
      go_wp2_with (first | (go_at_call 69; refine (HC.out _).mono ?_; rintro e w1 ⟨rfl, rfl⟩) | (go_at_call 70; refine (natural_any _ _ hs).mono ?_; rintro e w1 ⟨rfl, q, rfl⟩))
      go_ret2
      exact RdEnd.no HO.out ⟨_, rfl⟩ rfl
    · clear hn
      have e4 : ((natS s.data.toList).toList.isEmpty) = false := by simpa using e2
      have e5 : (!(natS s.data.toList).toList.isEmpty) = true := by rw [e4]; rfl
      go_enter Tryd.func54, Tryd.ntmps54
      go_wp2_with (first | (go_at_call 69; refine (HC.out _).mono ?_; rintro e w1 ⟨rfl, rfl⟩) | (go_at_call 70; refine (natural_any _ _ hs).mono ?_; rintro e w1 ⟨rfl, q, rfl⟩))
      go_ret2
      exact RdEnd.no HO.out ⟨_, rfl⟩ rfl

set_option maxHeartbeats 1000000 in
theorem implParse_minus (s : ByteArray) (w : World) (hs : s.size ≤ 9223372036854775807) (h0 : 0 < s.size) (hm : bt s 0 = 45) :
    Calls Tryd.prog 54 #[.string s] w (RdEnd (s.extract 1 s.size) s (-tvl (s.extract 1 s.size) (s.extract 1 s.size).size) w) := by
  have HC : Hid (∀ w, Calls Tryd.prog 69 #[.string s, .string ⟨#[45]⟩] w fun e w' => e = .returned (.tuple #[.string (s.extract 1 s.size), .bool true]) ∧ w = w') := fun w => cut_yes s w hs h0 hm
  have hiff := rdOk_minus (s.extract 1 s.size) s (cut_list s h0 hm)
  have hT : (s.extract 1 s.size).size ≤ 9223372036854775807 := by simp; omega
  clear hm h0
  generalize s.extract 1 s.size = T at *
  by_cases hn : NC T
  · obtain ⟨e1, e2, e3⟩ := nat_yes T hn
    have hb := tvl_bd hn.2.1 (Nat.le_refl _) hn.1.2
    by_cases hz : tvl T T.size = 0
    · have HO := Lib.hid (show ¬ rdOk T s (-tvl T T.size) from fun h => (hiff.1 h).2 hz)
      have e5 : (natV T.data.toList == 0) = true := by rw [e1, hz]; rfl
      clear hiff hn e1 hz
      go_enter Tryd.func54, Tryd.ntmps54
      go_wp2_with (first | (go_at_call 69; refine (HC.out _).mono ?_; rintro e w1 ⟨rfl, rfl⟩) | (go_at_call 70; refine (natural_any _ _ hT).mono ?_; rintro e w1 ⟨rfl, q, rfl⟩))
      go_ret2
      exact RdEnd.no HO.out ⟨_, rfl⟩ rfl
    · have HO := Lib.hid (hiff.2 ⟨hn, hz⟩)
      have e5 : (natV T.data.toList == 0) = false := by rw [e1]; simp [hz]
      have e6 : 0 ≤ natV T.data.toList := by rw [e1]; omega
      have e7 : natV T.data.toList ≤ 999999 := by rw [e1]; omega
      have E1 := Lib.hid e1
      clear hiff hn e1 hz
      go_enter Tryd.func54, Tryd.ntmps54
      go_wp2_with (first | (go_at_call 69; refine (HC.out _).mono ?_; rintro e w1 ⟨rfl, rfl⟩) | (go_at_call 70; refine (natural_any _ _ hT).mono ?_; rintro e w1 ⟨rfl, q, rfl⟩))
      go_ret2
      exact RdEnd.yes HO.out ⟨_, rfl⟩ (by rw [E1.out]) rfl
  · have HO := Lib.hid (show ¬ rdOk T s (-tvl T T.size) from fun h => hn (hiff.1 h).1)
    rcases nat_no T hn with e3 | ⟨e3, e2⟩
    · clear hiff hn
      go_enter Tryd.func54, Tryd.ntmps54
      go_wp2_with (first | (go_at_call 69; refine (HC.out _).mono ?_; rintro e w1 ⟨rfl, rfl⟩) | (go_at_call 70; refine (natural_any _ _ hT).mono ?_; rintro e w1 ⟨rfl, q, rfl⟩))
      go_ret2
      exact RdEnd.no HO.out ⟨_, rfl⟩ rfl
    · clear hiff hn
      have e4 : ((natS T.data.toList).toList.isEmpty) = false := by simpa using e2
      have e5 : (!(natS T.data.toList).toList.isEmpty) = true := by rw [e4]; rfl
      go_enter Tryd.func54, Tryd.ntmps54
      go_wp2_with (first | (go_at_call 69; refine (HC.out _).mono ?_; rintro e w1 ⟨rfl, rfl⟩) | (go_at_call 70; refine (natural_any _ _ hT).mono ?_; rintro e w1 ⟨rfl, q, rfl⟩))
      go_ret2
      exact RdEnd.no HO.out ⟨_, rfl⟩ rfl

theorem RdEnd.to_yes {T s : ByteArray} {sg : Int} {w w' : World} {e : Ending} (h : RdEnd T s sg w e w') (ho : rdOk T s sg) : e = .returned (.tuple #[.int .i64 sg, .bool true]) ∧ ∃ q : Nat, w' = w.drewN q := by
  obtain ⟨hq, h | h⟩ := h
  · exact ⟨h.2, hq⟩
  · exact absurd ho h.1
theorem RdEnd.to_no {T s : ByteArray} {sg : Int} {w w' : World} {e : Ending} (h : RdEnd T s sg w e w') (ho : ¬ rdOk T s sg) : e = .returned (.tuple #[.int .i64 0, .bool false]) ∧ ∃ q : Nat, w' = w.drewN q := by
  obtain ⟨hq, h | h⟩ := h
  · exact absurd h.1 ho
  · exact ⟨h.2, hq⟩

/-- What both readers return. -/
def Reads2 (s : ByteArray) (v : Int) (b : Bool) : Prop :=
  (∀ w, Calls Tryd.prog 28 #[.string s] w fun e w' => e = .returned (.tuple #[.int .i64 v, .bool b]) ∧ ∃ q : Nat, w' = w.drewN q) ∧
  (∀ w, Calls Tryd.prog 54 #[.string s] w fun e w' => e = .returned (.tuple #[.int .i64 v, .bool b]) ∧ ∃ q : Nat, w' = w.drewN q)

theorem reads_of {s T T' : ByteArray} {sg sg' : Int} (h1 : ∀ w, Calls Tryd.prog 28 #[.string s] w (RdEnd T s sg w)) (h2 : ∀ w, Calls Tryd.prog 54 #[.string s] w (RdEnd T' s sg' w))
    (h : (T = T' ∧ sg = sg') ∨ (¬ rdOk T s sg ∧ ¬ rdOk T' s sg')) : ∃ v b, Reads2 s v b := by
  rcases h with ⟨rfl, rfl⟩ | ⟨n1, n2⟩
  · by_cases ho : rdOk T s sg
    · exact ⟨sg, true, fun w => (h1 w).mono fun _ _ h => h.to_yes ho, fun w => (h2 w).mono fun _ _ h => h.to_yes ho⟩
    · exact ⟨0, false, fun w => (h1 w).mono fun _ _ h => h.to_no ho, fun w => (h2 w).mono fun _ _ h => h.to_no ho⟩
  · exact ⟨0, false, fun w => (h1 w).mono fun _ _ h => h.to_no n1, fun w => (h2 w).mono fun _ _ h => h.to_no n2⟩

/-- The two readers of integers return the same. -/
theorem reads2 (s : ByteArray) (hs : s.size ≤ 9223372036854775807) : ∃ v b, Reads2 s v b := by
  by_cases h0 : s.size = 0
  · exact reads_of (fun w => l1Read_one s w hs (by omega)) (fun w => implParse_plus s w hs (.inl h0)) (.inl ⟨rfl, rfl⟩)
  · by_cases hm : bt s 0 = 45
    · by_cases h1 : 1 < s.size
      · exact reads_of (fun w => l1Read_minus s w hs ⟨h1, hm⟩) (fun w => implParse_minus s w hs (by omega) hm) (.inl ⟨rfl, rfl⟩)
      · refine reads_of (fun w => l1Read_one s w hs (by omega)) (fun w => implParse_minus s w hs (by omega) hm) (.inr ⟨fun h => ?_, fun h => ?_⟩)
        · have := h.2.1 0 (by omega); omega
        · have := h.1.1; simp at this; omega
    · by_cases h1 : 1 < s.size
      · exact reads_of (fun w => l1Read_plus s w hs h1 hm) (fun w => implParse_plus s w hs (.inr ⟨by omega, hm⟩)) (.inl ⟨rfl, rfl⟩)
      · exact reads_of (fun w => l1Read_one s w hs (by omega)) (fun w => implParse_plus s w hs (.inr ⟨by omega, hm⟩)) (.inl ⟨rfl, rfl⟩)

theorem below_drewN {B : Nat} {a w : World} (h : Below B a w) (n : Nat) : Below B a (w.drewN n) := ⟨h.os, h.tape, h.output, h.size, h.block⟩

end Go.Proofs.YtpipegdjflniaaaDoor
