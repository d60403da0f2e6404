/- The walk of the law of ParseInt. -/
import Derived.Test.YtpipegdjflniaaaNumR
namespace Go.Proofs.Ytpipegdjflniaaa
open Go.ChangeShapes Go.WideShapes Go.ChangeAt Go.RowKit Go.PlainAid
set_option linter.unusedVariables false


theorem ext_cell (s : ByteArray) (h : 0 < s.size) : (s.extract 0 1).toList = [s[0]] := by
  rw [ByteArray.toList_eq]
  have h0 := bt_get s 0 h
  simp
  match hs : s.data.toList, h0 with
  | a :: l, h0 => simp at h0; simp [h0]

/-- A number's text: digits alone, six at most, no zero ahead. -/
def NC (T : ByteArray) : Prop := (1 ≤ T.size ∧ T.size ≤ 6) ∧ Dgs T T.size ∧ (T.size = 1 ∨ bt T 0 ≠ 48)

theorem nat_yes (T : ByteArray) (h : NC T) : natV T.data.toList = tvl T T.size ∧ natS T.data.toList = ⟨#[]⟩ ∧ natB T.data.toList = true := by
  obtain ⟨⟨h1, h2⟩, hd, hz⟩ := h
  have H := nat_good T T.size (Nat.le_refl _) hd h2 (fun h => hz.resolve_left (by omega)) (.inl rfl)
  injection H with H
  have H := congrArg Array.toList H
  simp only [List.cons.injEq, and_true] at H
  obtain ⟨a, b, c⟩ := H
  injection a with _ a
  injection b with b
  injection c with c
  refine ⟨?_, ?_, ?_⟩
  · rw [← a]; rfl
  · rw [← b]
    apply Go.WideShapes.bytes_inj
    simp
  · rw [← c]; simp; omega

theorem lead_le (l : List UInt8) : lead l ≤ l.length := by
  unfold lead
  exact (List.takeWhile_prefix isDg).length_le
theorem lead_all (l : List UInt8) (h : lead l = l.length) : ∀ c ∈ l, isDg c = true := by
  have e : l.takeWhile isDg = l := (List.takeWhile_prefix isDg).eq_of_length h
  intro c hc
  rw [← e] at hc
  exact List.all_eq_true.1 (List.all_takeWhile) c hc

theorem nat_no (T : ByteArray) (h : ¬ NC T) : natB T.data.toList = false ∨ (natB T.data.toList = true ∧ ¬ (natS T.data.toList).toList = []) := by
  cases hB : natB T.data.toList
  · exact .inl rfl
  · refine .inr ⟨rfl, fun hS => h ?_⟩
    unfold natB at hB
    simp only [Bool.and_eq_true, Bool.not_eq_true', decide_eq_true_eq] at hB
    obtain ⟨hb, hl⟩ := hB
    rw [ByteArray.toList_eq] at hS
    unfold natS at hS
    rw [hb] at hS
    simp [bs] at hS
    have hle := lead_le T.data.toList
    have hle' : lead T.data.toList = T.data.toList.length := by simp; simp at hle; omega
    have hall := lead_all _ hle'
    have hsz : T.data.toList.length = T.size := by rw [Array.length_toList]; rfl
    unfold natBad at hb
    simp only [Bool.or_eq_false_iff, decide_eq_false_iff_not, Bool.and_eq_false_iff, beq_eq_false_iff_ne] at hb
    obtain ⟨h6, hz⟩ := hb
    have hd : Dgs T T.size := fun j hj => by
      have h1 := hall T[j] (List.mem_of_getElem? (bt_get T j hj))
      rw [isDg_bt T j hj] at h1
      simpa using h1
    refine ⟨⟨by omega, by omega⟩, hd, ?_⟩
    rcases hz with hz | hz
    · left; omega
    · right
      intro h0
      refine hz ?_
      rw [List.head?_eq_getElem?, bt_get T 0 (by omega)]
      congr 1
      apply UInt8.toNat.inj
      have := get_bt T 0 (by omega)
      show _ = 48
      omega

theorem Dgs.all {T : ByteArray} (h : Dgs T T.size) : ∀ c ∈ T.data.toList, isDg c = true := by
  have := h.mem (Nat.le_refl _)
  rwa [List.take_of_length_le (by rw [Array.length_toList]; exact Nat.le_refl _)] at this
theorem list_of_size (T : ByteArray) : T.data.toList.length = T.size := by rw [Array.length_toList]; rfl
theorem bs_inj {a b : List UInt8} (h : bs a = bs b) : a = b := by
  unfold bs at h
  injection h with h
  exact List.toArray_inj h
theorem bs_self (T : ByteArray) : bs T.data.toList = T := by unfold bs; rfl
theorem bt_head (T : ByteArray) (h : 0 < T.size) (n : Nat) (hn : n < 256) : T.data.toList.head? = some (UInt8.ofNat n) ↔ bt T 0 = n := by
  rw [List.head?_eq_getElem?, bt_get T 0 h, ← get_bt T 0 h]
  constructor
  · intro e; injection e with e; rw [e, UInt8.toNat_ofNat']; omega
  · intro e; congr 1; apply UInt8.toNat.inj; rw [UInt8.toNat_ofNat']; omega

theorem dec_nc (T : ByteArray) (h1 : 1 ≤ T.size) (hd : Dgs T T.size) : dec (tvl T T.size).toNat = T.data.toList ↔ (T.size = 1 ∨ bt T 0 ≠ 48) := by
  rw [tvl_all, Int.toNat_natCast, dec_val_iff _ hd.all (by intro e; have := list_of_size T; rw [e] at this; simp at this; omega), list_of_size]
  have := bt_head T (by omega) 48 (by omega)
  constructor
  · rintro (h | h)
    · exact .inl h
    · exact .inr (fun e => h (this.2 e))
  · rintro (h | h)
    · exact .inl h
    · exact .inr (fun e => h (this.1 e))

theorem rdOk_plus (T : ByteArray) : rdOk T T (tvl T T.size) ↔ NC T := by
  unfold rdOk NC
  constructor
  · rintro ⟨h1, hd, h3⟩
    refine ⟨h1, hd, (dec_nc T h1.1 hd).1 ?_⟩
    have hn : num (tvl T T.size) = dec (tvl T T.size).toNat := by unfold num; rw [if_neg (by have := tvl_bd hd (Nat.le_refl _) h1.2; omega)]
    rw [hn] at h3
    have := congrArg (fun b => b.data.toList) h3
    simpa [bs] using this
  · rintro ⟨h1, hd, h3⟩
    refine ⟨h1, hd, ?_⟩
    have hn : num (tvl T T.size) = dec (tvl T T.size).toNat := by unfold num; rw [if_neg (by have := tvl_bd hd (Nat.le_refl _) h1.2; omega)]
    rw [hn, (dec_nc T h1.1 hd).2 h3]
    exact bs_self T

theorem rdOk_minus (T s : ByteArray) (hs : s.data.toList = 45 :: T.data.toList) : rdOk T s (-tvl T T.size) ↔ (NC T ∧ tvl T T.size ≠ 0) := by
  unfold rdOk NC
  constructor
  · rintro ⟨h1, hd, h3⟩
    have hb := tvl_bd hd (Nat.le_refl _) h1.2
    have h4 : num (-tvl T T.size) = 45 :: T.data.toList := by rw [← hs, ← h3]; simp [bs]
    by_cases h0 : tvl T T.size = 0
    · rw [h0] at h4
      have : num (-0) = [48] := by unfold num; rw [if_neg (by omega)]; rw [dec_lt _ (by decide)]; rfl
      rw [this] at h4
      simp at h4
    · unfold num at h4
      rw [if_pos (by omega)] at h4
      simp only [List.cons.injEq, true_and, Int.neg_neg] at h4
      exact ⟨⟨h1, hd, (dec_nc T h1.1 hd).1 h4⟩, h0⟩
  · rintro ⟨⟨h1, hd, h3⟩, h0⟩
    have hb := tvl_bd hd (Nat.le_refl _) h1.2
    refine ⟨h1, hd, ?_⟩
    unfold num
    rw [if_pos (by omega), Int.neg_neg, (dec_nc T h1.1 hd).2 h3, ← hs]
    exact bs_self s

theorem cut_list (s : ByteArray) (h : 0 < s.size) (hm : bt s 0 = 45) : s.data.toList = 45 :: (s.extract 1 s.size).data.toList := by
  have h0 := bt_get s 0 h
  have e : s[0] = 45 := UInt8.toNat.inj (by have := get_bt s 0 h; show _ = 45; omega)
  rw [e] at h0
  have hl := list_of_size s
  simp
  match hs : s.data.toList, h0 with
  | a :: l, h0 =>
    simp at h0
    subst h0
    simp
    rw [hs] at hl
    simp at hl
    rw [List.take_of_length_le (by omega)]

theorem RdEnd.to_yes {T s : ByteArray} {sg : Int} {w w' : World} {e : Ending} (h : RdEnd T s sg w e w') (ho : rdOk T s sg) : e = .returned (.tuple #[.int .i64 sg, .bool true]) ∧ ∃ q : Nat, w' = w.drewN q := by
  obtain ⟨hq, h | h⟩ := h
  · exact ⟨h.2, hq⟩
  · exact absurd ho h.1
theorem RdEnd.to_no {T s : ByteArray} {sg : Int} {w w' : World} {e : Ending} (h : RdEnd T s sg w e w') (ho : ¬ rdOk T s sg) : e = .returned (.tuple #[.int .i64 0, .bool false]) ∧ ∃ q : Nat, w' = w.drewN q := by
  obtain ⟨hq, h | h⟩ := h
  · exact absurd h.1 ho
  · exact ⟨h.2, hq⟩




theorem below_drewN {B : Nat} {a w : World} (h : Below B a w) (n : Nat) : Below B a (w.drewN n) := ⟨h.os, h.tape, h.output, h.size, h.block⟩

end Go.Proofs.Ytpipegdjflniaaa
