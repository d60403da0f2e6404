/- Texts as lists of bytes: numbers, splits, the readers of numbers; plain laws. -/
import Derived.Test.YtpipegdjflniaaaDoorPi
import Derived.Test.YtpipegdjflniaaaDoorSpq
namespace Go.Proofs.YtpipegdjflniaaaDoor
open Go.ChangeShapes Go.WideShapes Go.ChangeAt Go.RowKit Go.PlainAid
set_option linter.unusedVariables false
set_option linter.unusedSimpArgs false

theorem bs_list (l : List UInt8) : (bs l).data.toList = l := by simp [bs]
theorem bs_of {s : ByteArray} {l : List UInt8} (h : s.data.toList = l) : s = bs l := by rw [← h]; exact (bs_self s).symm
theorem dec_no {n : Nat} {c : UInt8} (hc : isDg c = false) : c ∉ dec n := fun h => by rw [dec_dg n c h] at hc; cases hc
theorem num_nn {n : Int} (h : 0 ≤ n) : num n = dec n.toNat := by unfold num; rw [if_neg (by omega)]
theorem num_neg {n : Int} (h : n < 0) : num n = 45 :: dec (-n).toNat := by unfold num; rw [if_pos h]
theorem num_ne (n : Int) : num n ≠ [] := by
  unfold num
  split
  · simp
  · exact dec_ne _
/-- The number of a text. -/
def rdI : List UInt8 → Int
  | 45 :: r => -(val r : Int)
  | l => val l
theorem rdI_num (n : Int) : rdI (num n) = n := by
  by_cases h : n < 0
  · rw [num_neg h]
    show -(val (dec (-n).toNat) : Int) = n
    rw [val_dec]
    omega
  · rw [num_nn (by omega)]
    have hh : ∀ r, dec n.toNat ≠ 45 :: r := fun r e => by
      have := dec_dg n.toNat 45 (by rw [e]; exact List.mem_cons_self)
      cases this
    have : rdI (dec n.toNat) = val (dec n.toNat) := by
      unfold rdI
      split
      · rename_i r e; exact absurd e (hh r)
      · rfl
    rw [this, val_dec]
    omega
theorem num_inj {a b : Int} (h : num a = num b) : a = b := by rw [← rdI_num a, ← rdI_num b, h]
/-- What the readers of integers answer. -/
def rdO (l : List UInt8) : Option Int := if num (rdI l) = l ∧ -999999 ≤ rdI l ∧ rdI l ≤ 999999 then some (rdI l) else none
theorem rdO_num {n : Int} (h1 : -999999 ≤ n) (h2 : n ≤ 999999) : rdO (num n) = some n := by
  unfold rdO
  rw [rdI_num, if_pos ⟨rfl, h1, h2⟩]
theorem rdO_some {l : List UInt8} {n : Int} (h : rdO l = some n) : l = num n ∧ -999999 ≤ n ∧ n ≤ 999999 := by
  unfold rdO at h
  split at h
  · rename_i hq
    simp at h
    rw [h] at hq
    exact ⟨hq.1.symm, hq.2⟩
  · cases h
def rdV (l : List UInt8) : Int := (rdO l).getD 0
def rdK (l : List UInt8) : Bool := (rdO l).isSome
theorem rd_yes {l : List UInt8} {n : Int} (h : rdO l = some n) : rdV l = n ∧ rdK l = true := by unfold rdV rdK; rw [h]; exact ⟨rfl, rfl⟩
theorem rd_no {l : List UInt8} (h : rdO l = none) : rdV l = 0 ∧ rdK l = false := by unfold rdV rdK; rw [h]; exact ⟨rfl, rfl⟩
theorem rd_some {l : List UInt8} (h : rdK l = true) : l = num (rdV l) ∧ -999999 ≤ rdV l ∧ rdV l ≤ 999999 := by
  unfold rdK at h
  cases hq : rdO l with
  | none => rw [hq] at h; cases h
  | some n =>
    rw [(rd_yes hq).1]
    exact rdO_some hq
theorem dgs_of {T : ByteArray} (h : ∀ c ∈ T.data.toList, isDg c = true) : Dgs T T.size := fun j hj => by
  have h1 := h T[j] (List.mem_of_getElem? (bt_get T j hj))
  rw [isDg_bt T j hj] at h1
  simpa using h1
theorem rdEnd_plus {s : ByteArray} {w w' : World} {e : Ending} (hm : s.size ≤ 1 ∨ bt s 0 ≠ 45) (h : RdEnd s s (tvl s s.size) w e w') : e = .returned (.tuple #[.int .i64 (rdV s.data.toList), .bool (rdK s.data.toList)]) ∧ ∃ q : Nat, w' = w.drewN q := by
  have hl := list_of_size s
  by_cases ho : rdOk s s (tvl s s.size)
  · obtain ⟨h1, hd, h3⟩ := ho
    have hb := tvl_bd hd (Nat.le_refl _) h1.2
    have hn : s.data.toList = num (tvl s s.size) := by rw [← bs_list (num _), h3]
    have hr : rdO s.data.toList = some (tvl s s.size) := by rw [hn]; exact rdO_num (by omega) (by omega)
    obtain ⟨e1, e2⟩ := rd_yes hr
    rw [e1, e2]
    exact h.to_yes ⟨h1, hd, h3⟩
  · have hr : rdO s.data.toList = none := by
      cases hq : rdO s.data.toList with
      | none => rfl
      | some n =>
        exfalso
        apply ho
        obtain ⟨e, b1, b2⟩ := rdO_some hq
        have hn0 : 0 ≤ n := by
          rcases (by omega : n < 0 ∨ 0 ≤ n) with hn | hn
          · exfalso
            rw [num_neg hn] at e
            have hd0 := dec_ne (-n).toNat
            have hl2 : 2 ≤ s.size := by
              rw [← hl, e]
              cases hdd : dec (-n).toNat with
              | nil => exact absurd hdd hd0
              | cons a b => simp
            rcases hm with hm | hm
            · omega
            · apply hm
              have h0 := bt_get s 0 (by omega)
              rw [e] at h0
              simp at h0
              have := get_bt s 0 (by omega)
              rw [← this, ← h0]; rfl
          · exact hn
        rw [num_nn hn0] at e
        have hd : Dgs s s.size := dgs_of (by rw [e]; exact dec_dg _)
        have hsz : 1 ≤ s.size ∧ s.size ≤ 6 := by
          rw [← hl, e]
          refine ⟨?_, dec_length _ 6 (by omega) (by omega)⟩
          cases hdd : dec n.toNat with
          | nil => exact absurd hdd (dec_ne _)
          | cons a b => simp
        refine ⟨hsz, hd, ?_⟩
        have hv : tvl s s.size = n := by rw [tvl_all, e, val_dec]; omega
        rw [hv, num_nn hn0, ← e]
        exact bs_self s
    obtain ⟨e1, e2⟩ := rd_no hr
    rw [e1, e2]
    exact h.to_no ho
theorem rdEnd_minus {s : ByteArray} {w w' : World} {e : Ending} (h0 : 0 < s.size) (hm : bt s 0 = 45) (h : RdEnd (s.extract 1 s.size) s (-tvl (s.extract 1 s.size) (s.extract 1 s.size).size) w e w') : e = .returned (.tuple #[.int .i64 (rdV s.data.toList), .bool (rdK s.data.toList)]) ∧ ∃ q : Nat, w' = w.drewN q := by
  have hc := cut_list s h0 hm
  have hlT := list_of_size (s.extract 1 s.size)
  generalize s.extract 1 s.size = T at *
  by_cases ho : rdOk T s (-tvl T T.size)
  · obtain ⟨h1, hd, h3⟩ := ho
    have hb := tvl_bd hd (Nat.le_refl _) h1.2
    have hn : s.data.toList = num (-tvl T T.size) := by rw [← bs_list (num _), h3]
    have hr : rdO s.data.toList = some (-tvl T T.size) := by rw [hn]; exact rdO_num (by omega) (by omega)
    obtain ⟨e1, e2⟩ := rd_yes hr
    rw [e1, e2]
    exact h.to_yes ⟨h1, hd, h3⟩
  · have hr : rdO s.data.toList = none := by
      cases hq : rdO s.data.toList with
      | none => rfl
      | some n =>
        exfalso
        apply ho
        obtain ⟨e, b1, b2⟩ := rdO_some hq
        have hn0 : n < 0 := by
          rcases (by omega : n < 0 ∨ 0 ≤ n) with hn | hn
          · exact hn
          · exfalso
            rw [num_nn hn] at e
            have := dec_dg n.toNat 45 (by rw [← e, hc]; exact List.mem_cons_self)
            cases this
        rw [num_neg hn0, hc] at e
        simp only [List.cons.injEq, true_and] at e
        have hd : Dgs T T.size := dgs_of (by rw [e]; exact dec_dg _)
        have hsz : 1 ≤ T.size ∧ T.size ≤ 6 := by
          rw [← hlT, e]
          refine ⟨?_, dec_length _ 6 (by omega) (by omega)⟩
          cases hdd : dec (-n).toNat with
          | nil => exact absurd hdd (dec_ne _)
          | cons a b => simp
        refine ⟨hsz, hd, ?_⟩
        have hv : -tvl T T.size = n := by rw [tvl_all, e, val_dec]; omega
        rw [hv, num_neg hn0, ← e, ← hc]
        exact bs_self s
    obtain ⟨e1, e2⟩ := rd_no hr
    rw [e1, e2]
    exact h.to_no ho
theorem l1Read_any (s : ByteArray) (w : World) (hs : s.size ≤ 9223372036854775807) :
    Calls Tryd.prog 28 #[.string s] w fun e w' => e = .returned (.tuple #[.int .i64 (rdV s.data.toList), .bool (rdK s.data.toList)]) ∧ ∃ q : Nat, w' = w.drewN q := by
  by_cases h1 : s.size ≤ 1
  · exact (l1Read_one s w hs h1).mono fun _ _ h => rdEnd_plus (.inl h1) h
  · by_cases hm : bt s 0 = 45
    · exact (l1Read_minus s w hs ⟨by omega, hm⟩).mono fun _ _ h => rdEnd_minus (by omega) hm h
    · exact (l1Read_plus s w hs (by omega) hm).mono fun _ _ h => rdEnd_plus (.inr hm) h
theorem implParseInt_any (s : ByteArray) (w : World) (hs : s.size ≤ 9223372036854775807) :
    Calls Tryd.prog 54 #[.string s] w fun e w' => e = .returned (.tuple #[.int .i64 (rdV s.data.toList), .bool (rdK s.data.toList)]) ∧ ∃ q : Nat, w' = w.drewN q := by
  by_cases h0 : s.size = 0
  · exact (implParse_plus s w hs (.inl h0)).mono fun _ _ h => rdEnd_plus (.inl (by omega)) h
  · by_cases hm : bt s 0 = 45
    · exact (implParse_minus s w hs (by omega) hm).mono fun _ _ h => rdEnd_minus (by omega) hm h
    · exact (implParse_plus s w hs (.inr ⟨by omega, hm⟩)).mono fun _ _ h => rdEnd_plus (.inr hm) h

/-! ### Splits -/
def spw (c : UInt8) : List UInt8 → List (List UInt8)
  | [] => [[]]
  | x :: l => if x = c then [] :: spw c l else (x :: (spw c l).head?.getD []) :: (spw c l).tail
theorem spw_ne (c : UInt8) : ∀ l : List UInt8, spw c l ≠ []
  | [] => by simp [spw]
  | x :: l => by unfold spw; split <;> simp
theorem spw_step {c x : UInt8} {l a : List UInt8} {r : List (List UInt8)} (h : x ≠ c) (e : spw c l = a :: r) : spw c (x :: l) = (x :: a) :: r := by
  unfold spw
  rw [if_neg h, e]
  rfl
theorem spw_sep {c : UInt8} : ∀ {a : List UInt8} {b : List UInt8}, c ∉ a → spw c (a ++ c :: b) = a :: spw c b
  | [], b, _ => by
    show spw c (c :: b) = [] :: spw c b
    conv => lhs; unfold spw
    rw [if_pos rfl]
  | x :: a, b, h => by
    have h1 : x ≠ c := fun e => h (by rw [e]; exact List.mem_cons_self)
    exact spw_step h1 (spw_sep (fun hq => h (List.mem_cons_of_mem _ hq)))
theorem spw_one {c : UInt8} : ∀ {a : List UInt8}, c ∉ a → spw c a = [a]
  | [], _ => rfl
  | x :: a, h => by
    have h1 : x ≠ c := fun e => h (by rw [e]; exact List.mem_cons_self)
    exact spw_step h1 (spw_one (fun hq => h (List.mem_cons_of_mem _ hq)))
theorem ext_take (s : ByteArray) (o : Nat) : (s.extract 0 o).data.toList = s.data.toList.take o := by
  rw [ByteArray.data_extract, Array.toList_extract]
  simp
theorem first_at {c : UInt8} : ∀ {l : List UInt8}, c ∈ l → ∃ o, l[o]? = some c ∧ (∀ k, k < o → l[k]? ≠ some c) ∧ l = l.take o ++ c :: l.drop (o + 1) ∧ c ∉ l.take o
  | [], h => by simp at h
  | x :: l, h => by
    by_cases e : x = c
    · subst e; exact ⟨0, rfl, fun k hk => by omega, rfl, by simp⟩
    · have h' : c ∈ l := by
        rcases List.mem_cons.1 h with h | h
        · exact absurd h.symm e
        · exact h
      obtain ⟨o, h1, h2, h3, h4⟩ := first_at h'
      refine ⟨o + 1, h1, fun k hk => ?_, ?_, ?_⟩
      · cases k with
        | zero => simpa using e
        | succ k => exact h2 k (by omega)
      · show x :: l = x :: (l.take o ++ c :: l.drop (o + 1))
        rw [← h3]
      · rw [List.take_succ_cons, List.mem_cons]
        rintro (h | h)
        · exact e h.symm
        · exact h4 h
theorem spl_spw (c : UInt8) : ∀ (n : Nat) (s : ByteArray), s.size ≤ n → splL s c = (spw c s.data.toList).map bs
  | n, s, hn => by
    by_cases hc : c ∈ s.data.toList
    · obtain ⟨o, h1, h2, h3, h4⟩ := first_at hc
      have hlt : o < s.size := by
        have := (List.getElem?_eq_some_iff.1 h1).1
        simpa using this
      have hsz : (s.extract (o + 1) s.size).size = s.size - (o + 1) := by rw [ByteArray.size_extract, Nat.min_self]
      rw [spl_hit h1 h2]
      conv => rhs; rw [h3]
      rw [spw_sep h4, List.map_cons]
      match n, hn with
      | 0, hn => omega
      | n + 1, hn =>
        rw [spl_spw c n _ (by omega), ext_list]
        congr 1
        exact bs_of (ext_take s o)
    · have hm : Lib.indexByte s.data.toList c = -1 := by
        by_cases h : Lib.indexByte s.data.toList c = -1
        · exact h
        · exfalso
          have hge := Lib.indexByte_ge s.data.toList c
          obtain ⟨k, hk⟩ : ∃ k : Nat, Lib.indexByte s.data.toList c = k := ⟨(Lib.indexByte s.data.toList c).toNat, by omega⟩
          exact hc (List.mem_of_getElem? (Lib.indexByte_some hk).1)
      rw [spl_miss hm, spw_one hc]
      show [s] = [bs s.data.toList]
      rw [bs_self]
theorem splL_eq (s : ByteArray) (c : UInt8) : splL s c = (spw c s.data.toList).map bs := spl_spw c s.size s (Nat.le_refl _)

/-! ### The reader of a number ahead of something -/
def natR (l : List UInt8) : List UInt8 := if natBad l = true then [] else l.drop (lead l)
theorem natS_eq (l : List UInt8) : natS l = bs (natR l) := rfl
theorem lead_all' {l : List UInt8} (h : ∀ c ∈ l, isDg c = true) (r : List UInt8) (hr : ∀ c, r.head? = some c → isDg c = false) : lead (l ++ r) = l.length := by
  refine lead_eq (l ++ r) l.length (fun j hj => ?_) (fun c hc => ?_)
  · refine ⟨l[j], ?_, h _ (List.getElem_mem hj)⟩
    rw [List.getElem?_append_left hj, List.getElem?_eq_getElem hj]
  · rw [List.getElem?_append_right (Nat.le_refl _), Nat.sub_self, ← List.head?_eq_getElem?] at hc
    exact hr c hc
theorem nat_num {n : Int} (h0 : 0 ≤ n) (h1 : n ≤ 999999) {r : List UInt8} (hr : ∀ c, r.head? = some c → isDg c = false) : natB (num n ++ r) = true ∧ natV (num n ++ r) = n ∧ natR (num n ++ r) = r := by
  have hl : lead (num n ++ r) = (num n).length := lead_all' (by rw [num_nn h0]; exact dec_dg _) r hr
  have h6 : (num n).length ≤ 6 := by rw [num_nn h0]; exact dec_length _ 6 (by omega) (by omega)
  have hpos : 0 < (num n).length := by
    cases hh : num n with
    | nil => exact absurd hh (num_ne n)
    | cons a b => simp
  have hbad : natBad (num n ++ r) = false := by
    unfold natBad
    rw [hl]
    have h2 : ¬ 6 < (num n).length := by omega
    simp only [h2, decide_false, Bool.false_or, Bool.and_eq_false_iff, decide_eq_false_iff_not, beq_eq_false_iff_ne]
    by_cases h3 : 2 ≤ (num n).length
    · right
      intro hh
      have hq : (num n).head? = some 48 := by
        cases hh2 : num n with
        | nil => exact absurd hh2 (num_ne n)
        | cons a b => rw [hh2] at hh; simpa using hh
      rw [num_nn h0] at hq h3
      have hv := (dec_val_iff (dec n.toNat) (dec_dg _) (dec_ne _)).1 (by rw [val_dec])
      rcases hv with hv | hv
      · omega
      · exact hv hq
    · left; exact h3
  refine ⟨?_, ?_, ?_⟩
  · unfold natB; rw [hbad, hl]; simp [hpos]
  · unfold natV
    rw [hbad, hl, List.take_left]
    simp only [Bool.false_eq_true, if_false]
    rw [num_nn h0, val_dec]
    omega
  · unfold natR
    rw [hbad, hl, List.drop_left]
    simp
theorem nat_split {l : List UInt8} (h : natB l = true) : l = num (natV l) ++ natR l ∧ 0 ≤ natV l ∧ natV l ≤ 999999 := by
  unfold natB at h
  simp only [Bool.and_eq_true, Bool.not_eq_true', decide_eq_true_eq] at h
  obtain ⟨hb, hp⟩ := h
  have hr : natR l = l.drop (lead l) := by unfold natR; rw [hb]; simp
  have hv : natV l = val (l.take (lead l)) := by unfold natV; rw [hb]; simp
  have hle := lead_le l
  unfold natBad at hb
  simp only [Bool.or_eq_false_iff, decide_eq_false_iff_not, Bool.and_eq_false_iff, beq_eq_false_iff_ne] at hb
  have hlen : (l.take (lead l)).length = lead l := by rw [List.length_take]; omega
  have hd : ∀ c ∈ l.take (lead l), isDg c = true := fun c hc => by
    have e : l.take (lead l) = l.takeWhile isDg := ((List.prefix_iff_eq_take).1 (List.takeWhile_prefix isDg)).symm
    rw [e] at hc
    exact List.all_eq_true.1 (List.all_takeWhile) c hc
  have hne : l.take (lead l) ≠ [] := fun e => by rw [e] at hlen; simp at hlen; omega
  have hdec : dec (val (l.take (lead l))) = l.take (lead l) := by
    refine dec_val _ hd hne ?_
    rw [hlen]
    rcases hb.2 with h2 | h2
    · left; omega
    · right
      intro hq
      apply h2
      cases l with
      | nil => simp at hq
      | cons a b =>
        rw [show lead (a :: b) = (lead (a :: b) - 1) + 1 by omega, List.take_succ_cons] at hq
        simpa using hq
  have hbd := val_bd _ hd
  rw [hlen] at hbd
  have h10 : 10 ^ lead l ≤ 10 ^ 6 := Nat.pow_le_pow_right (by omega) (by omega)
  refine ⟨?_, by rw [hv]; omega, by rw [hv]; omega⟩
  rw [hr, hv, num_nn (by omega), Int.toNat_natCast, hdec, List.take_append_drop]
end Go.Proofs.YtpipegdjflniaaaDoor
