/- VerifyChecksum. -/
import Derived.Test.YtgakmmjbdejmdaaDoorApc
import Derived.Test.YtgakmmjbdejmdaaDoorSpl
import Derived.Lib.IndexBytes
namespace Go.Proofs.YtgakmmjbdejmdaaDoor
open Go.ChangeShapes Go.WideShapes Go.ChangeAt Go.RowKit Go.PlainAid
set_option linter.unusedVariables false
set_option linter.unusedSimpArgs false

theorem ba_inj {s t : ByteArray} (h : s.toList = t.toList) : s = t := by
  rw [ByteArray.toList_eq, ByteArray.toList_eq] at h
  exact ByteArray.ext (Array.toList_inj.mp h)
theorem extract_head (s : ByteArray) (o : Nat) : s.extract 0 o = ⟨(s.data.toList.take o).toArray⟩ := by
  apply ByteArray.ext
  apply Array.toList_inj.mp
  simp [ByteArray.data_extract, Array.toList_extract]
theorem splF_zero {s : ByteArray} {c : UInt8} {n : Nat} (h : ∀ k, k < n → s.data.toList[k]? ≠ some c) : splF s c n = ([], 0) := by
  induction n with
  | zero => rfl
  | succ n ih => rw [splF, if_neg (h n (Nat.lt_succ_self n))]; exact ih (fun k hk => h k (by omega))
theorem splF_head {s : ByteArray} {c : UInt8} {o : Nat} (h0 : s.data.toList[o]? = some c) (h : ∀ k, k < o → s.data.toList[k]? ≠ some c) {n : Nat} (hn : o < n) : ∃ ys, (splF s c n).1 = s.extract 0 o :: ys := by
  induction n with
  | zero => omega
  | succ n ih =>
    by_cases e : n = o
    · subst e
      rw [splF, if_pos h0, splF_zero h]
      exact ⟨[], rfl⟩
    · obtain ⟨ys, hy⟩ := ih (by omega)
      rw [splF]
      split
      · exact ⟨ys ++ [s.extract (splF s c n).2 n], by simp only [hy]; rfl⟩
      · exact ⟨ys, hy⟩
/-- The first piece is what stands ahead of the separator. -/
theorem spl_cut (s : ByteArray) (c : UInt8) : nthS (splL s c) 0 = ⟨(Lib.cut s.data.toList [c]).1.toArray⟩ := by
  unfold Lib.cut
  rw [Lib.index_one]
  by_cases h : Lib.indexByte s.data.toList c = -1
  · rw [if_neg (by omega)]
    unfold splL
    rw [splF_zero (fun k _ => Lib.indexByte_none h k)]
    show s.extract 0 s.size = _
    rw [extract_head, List.take_of_length_le (by simp)]
  · have hge := Lib.indexByte_ge s.data.toList c
    obtain ⟨o, ho⟩ : ∃ o : Nat, Lib.indexByte s.data.toList c = o := ⟨(Lib.indexByte s.data.toList c).toNat, by omega⟩
    obtain ⟨h1, h2⟩ := Lib.indexByte_some ho
    rw [ho, if_pos (by omega)]
    have hlt : o < s.size := by
      have := (List.getElem?_eq_some_iff.1 h1).1
      simpa using this
    unfold splL
    obtain ⟨ys, hy⟩ := splF_head h1 h2 hlt
    rw [hy]
    show s.extract 0 o = _
    rw [extract_head]
    rfl
/-- What stands ahead of the first '#'. -/
def headS (s : ByteArray) : ByteArray := ⟨(Lib.cut s.data.toList [35]).1.toArray⟩
theorem headS_size (s : ByteArray) : (headS s).size ≤ s.size := by
  unfold headS Lib.cut
  split
  · show ((s.data.toList.take _).toArray).size ≤ s.data.size
    rw [List.size_toArray, List.length_take, Array.length_toList]
    omega
  · show (s.data.toList.toArray).size ≤ s.data.size
    rw [List.size_toArray, Array.length_toList]
    exact Nat.le_refl _
theorem head_has (s : ByteArray) (h : (Lib.cut s.data.toList [35]).2.2 = true) : hasB (headS s) 35 = false := by
  have hi : 0 ≤ Lib.indexByte s.data.toList 35 := by
    unfold Lib.cut at h
    rw [Lib.index_one] at h
    split at h
    · assumption
    · exact absurd h (by simp)
  obtain ⟨o, ho⟩ : ∃ o : Nat, Lib.indexByte s.data.toList 35 = o := ⟨(Lib.indexByte s.data.toList 35).toNat, by omega⟩
  obtain ⟨h1, h2⟩ := Lib.indexByte_some ho
  have e : headS s = ⟨(s.data.toList.take o).toArray⟩ := by
    unfold headS Lib.cut
    rw [Lib.index_one, ho, if_pos (by omega)]
    rfl
  refine hasB_no fun k hk hc => ?_
  have hk2 : (headS s).data.toList[k]? = some 35 := by rw [at_list hk, hc]
  rw [e] at hk2
  simp only [List.getElem?_take] at hk2
  split at hk2
  · rename_i hlt
    exact h2 k hlt hk2
  · exact absurd hk2 (by simp)
theorem cut_none (s : ByteArray) (h : (Lib.cut s.data.toList [35]).2.2 = false) : headS s = s := by
  unfold headS
  unfold Lib.cut at h ⊢
  split at h
  · exact absurd h (by simp)
  · rename_i hn
    rw [if_neg hn]
theorem seal_size (s : ByteArray) : s.size < (sealS s).size := by
  unfold sealS
  rw [ByteArray.size_append, ByteArray.size_append]
  have : (⟨#[35]⟩ : ByteArray).size = 1 := rfl
  omega
theorem seal_ne (s : ByteArray) : sealS s ≠ s := fun h => by have := seal_size s; rw [h] at this; omega
/-- The answer of VerifyChecksum. -/
def vcB (s : ByteArray) : Bool := decide (s.size ≤ 4000) && decide (sealS (headS s) = s)
def vcS (s : ByteArray) : ByteArray := if vcB s = true then headS s else ⟨#[]⟩
theorem vcS_yes {s : ByteArray} (h : vcB s = true) : vcS s = headS s := by unfold vcS; rw [if_pos h]
theorem vcS_no {s : ByteArray} (h : vcB s = false) : vcS s = ⟨#[]⟩ := by unfold vcS; rw [h]; rfl
theorem vcB_1 {s : ByteArray} (h : 4000 < s.size) : vcB s = false := by unfold vcB; rw [decide_eq_false (by omega)]; rfl
theorem vcB_2 {s : ByteArray} (h : sealS (headS s) ≠ s) : vcB s = false := by unfold vcB; rw [decide_eq_false h]; simp
theorem vcB_y {s : ByteArray} (h : s.size ≤ 4000) (h' : sealS (headS s) = s) : vcB s = true := by unfold vcB; rw [decide_eq_true h, decide_eq_true h']; rfl
theorem vcB_ac {s : ByteArray} (hc : (Lib.cut s.data.toList [35]).2.2 = true) (h : acB (headS s) = false) : vcB s = false := by
  by_cases h1 : 4000 < s.size
  · exact vcB_1 h1
  by_cases h2 : sealS (headS s) = s
  · have h3 := headS_size s
    have h4 := acB_y (s := headS s) (by omega) (head_has s hc) (by rw [h2]; omega)
    rw [h4] at h
    exact absurd h (by simp)
  · exact vcB_2 h2
theorem vcB_acy {s : ByteArray} (h : acB (headS s) = true) (h2 : sealS (headS s) = s) : vcB s = true := by
  refine vcB_y ?_ h2
  rw [← h2]
  unfold acB at h
  simp only [Bool.and_eq_true, decide_eq_true_eq] at h
  exact h.2
set_option maxHeartbeats 1000000 in
theorem specVerify_any (s : ByteArray) (w : World) (hs : s.size ≤ 1048576) :
    Calls Tryd.prog 15 #[.string s] w fun e w' => e = .returned (.tuple #[.string (vcS s), .bool (vcB s)]) ∧ Below w.heap.size w w' := by
  by_cases h1 : 4000 < s.size
  · have HS := Lib.hid (vcB_1 h1)
    go_enter Tryd.func15, Tryd.ntmps15
    go_wp2
    go_ret2
    exact ⟨retSB (vcS_no HS.out).symm HS.out.symm, Below.refl _ _⟩
  have HH := Lib.hid (spl_cut s 35)
  have hhs := headS_size s
  have hl0 : 0 < (splL s 35).length := by
    unfold splL
    rw [List.length_append, List.length_singleton]
    omega
  by_cases h2 : sealS (headS s) = s
  all_goals
    go_enter Tryd.func15, Tryd.ntmps15
    go_wp2_with fail
    refine (l1Split_any s 35 _ hs).mono ?_
    rintro e w1 ⟨A, c, rfl, hi, hb1⟩
    have HB := Lib.hid hb1
    obtain ⟨b, o, rfl, hbl, hfz, hc⟩ := hi (by omega)
    have hc0 : w1.cell? ⟨b, o, none⟩ = some (.string (headS s)) := by
      have := hc 0 (by omega)
      unfold eStr at this
      rw [Nat.add_zero] at this
      rw [this]
      exact congrArg (fun x => some (Value.string x)) HH.out
    clear hi hb1 hc hfz
  · have HS := Lib.hid (vcB_y (by omega) h2)
    go_wp2_with fail
    refine (l1Seal_any _ _ (by omega)).mono ?_
    rintro e w2 ⟨rfl, q, rfl⟩
    rw [h2]
    go_wp2
    go_ret2
    exact ⟨retSB (vcS_yes HS.out).symm HS.out.symm, by repeat (first | exact HB.out | refine bel_drewN ?_ _ | refine bel_drew ?_)⟩
  · have HS := Lib.hid (vcB_2 h2)
    have hne : ((sealS (headS s)).toList == s.toList) = false := by rw [beq_eq_false_iff_ne]; exact fun h => h2 (ba_inj h)
    have hne2 : ¬ ((sealS (headS s)).toList = s.toList) := fun h => h2 (ba_inj h)
    go_wp2_with fail
    refine (l1Seal_any _ _ (by omega)).mono ?_
    rintro e w2 ⟨rfl, q, rfl⟩
    go_wp2
    go_ret2
    exact ⟨retSB (vcS_no HS.out).symm HS.out.symm, by repeat (first | exact HB.out | refine bel_drewN ?_ _ | refine bel_drew ?_)⟩
set_option maxHeartbeats 1000000 in
theorem implVerify_any (s : ByteArray) (w : World) (hs : s.size ≤ 1048576) (HT : Pow10 w) (m : Int) (HM : ∀ w', Below w.heap.size w w' → w'.cell? ⟨0, 0, none⟩ = some (.int .i64 m)) :
    Calls Tryd.prog 16 #[.string s] w fun e w' => e = .returned (.tuple #[.string (vcS s), .bool (vcB s)]) ∧ Below w.heap.size w w' := by
  have H1 := Lib.hid HT
  have H2 := Lib.hid HM
  clear HT HM
  have hhs := headS_size s
  obtain ⟨t, ht⟩ : ∃ t, t = Lib.cut s.data.toList [35] := ⟨_, rfl⟩
  have HC : Hid (Lib.cut s.data.toList (⟨#[35]⟩ : ByteArray).data.toList = t) := Lib.hid ht.symm
  have HD : Hid ((⟨t.1.toArray⟩ : ByteArray) = headS s) := Lib.hid (by rw [ht]; rfl)
  obtain ⟨ta, tb, tc⟩ := t
  simp only [] at HD
  have hcut : ∀ w1 : World, Below w.heap.size w w1 → Calls Tryd.prog 47 #[.string s, .string ⟨#[35]⟩] w1 fun e w' => e = .returned (.tuple #[.string (headS s), .string ⟨tb.toArray⟩, .bool tc]) ∧ ∃ n, w' = w1.drewN n := by
    intro w1 hb
    have h := Tryd.strings_Cut s ⟨#[35]⟩ m w1 (by omega) (H2.out w1 hb)
    rw [HC.out, HD.out] at h
    exact h
  cases tc
  · have hf : (Lib.cut s.data.toList [35]).2.2 = false := by rw [← ht]
    have HS := Lib.hid (show vcB s = false from vcB_2 (by rw [cut_none s hf]; exact seal_ne s))
    clear ht hf
    go_enter Tryd.func16, Tryd.ntmps16
    go_wp2_with (go_at_call 47; refine (hcut _ (Below.refl _ _)).mono ?_; rintro e w1 ⟨rfl, q, rfl⟩)
    go_ret2
    exact ⟨retSB (vcS_no HS.out).symm HS.out.symm, by repeat (first | exact Below.refl _ _ | refine bel_drewN ?_ _ | refine bel_drew ?_)⟩
  have hf : (Lib.cut s.data.toList [35]).2.2 = true := by rw [← ht]
  cases h : acB (headS s)
  · have HS := Lib.hid (vcB_ac hf h)
    clear ht hf
    go_enter Tryd.func16, Tryd.ntmps16
    go_wp2_with (first
      | (go_at_call 47; refine (hcut _ (Below.refl _ _)).mono ?_; rintro e w1 ⟨rfl, q, rfl⟩)
      | (go_at_call 14; refine (implAppend_any _ _ (by omega) (H1.out.call (bel_drewN (Below.refl _ _) _))).mono ?_; rintro e w2 ⟨rfl, hb2⟩; rw [h]))
    go_ret2
    exact ⟨retSB (vcS_no HS.out).symm HS.out.symm, bel_call (bel_drewN (Below.refl _ _) _) hb2⟩
  by_cases h2 : sealS (headS s) = s
  · have HS := Lib.hid (vcB_acy h h2)
    have ha : acS (headS s) = s := by rw [acS_yes h, h2]
    clear ht hf
    go_enter Tryd.func16, Tryd.ntmps16
    go_wp2_with (first
      | (go_at_call 47; refine (hcut _ (Below.refl _ _)).mono ?_; rintro e w1 ⟨rfl, q, rfl⟩)
      | (go_at_call 14; refine (implAppend_any _ _ (by omega) (H1.out.call (bel_drewN (Below.refl _ _) _))).mono ?_; rintro e w2 ⟨rfl, hb2⟩; rw [h, ha]))
    go_ret2
    exact ⟨retSB (vcS_yes HS.out).symm HS.out.symm, bel_call (bel_drewN (Below.refl _ _) _) hb2⟩
  · have HS := Lib.hid (vcB_2 h2)
    have ha : acS (headS s) = sealS (headS s) := acS_yes h
    have hne : ((sealS (headS s)).toList == s.toList) = false := by rw [beq_eq_false_iff_ne]; exact fun h => h2 (ba_inj h)
    have hne2 : ¬ ((sealS (headS s)).toList = s.toList) := fun h => h2 (ba_inj h)
    clear ht hf
    go_enter Tryd.func16, Tryd.ntmps16
    go_wp2_with (first
      | (go_at_call 47; refine (hcut _ (Below.refl _ _)).mono ?_; rintro e w1 ⟨rfl, q, rfl⟩)
      | (go_at_call 14; refine (implAppend_any _ _ (by omega) (H1.out.call (bel_drewN (Below.refl _ _) _))).mono ?_; rintro e w2 ⟨rfl, hb2⟩; rw [h, ha]))
    go_ret2
    exact ⟨retSB (vcS_no HS.out).symm HS.out.symm, bel_call (bel_drewN (Below.refl _ _) _) hb2⟩
theorem fnVerifyChecksum_walk (s : ByteArray) (ws : s.size ≤ maxLen) (w : World) (HT : Pow10 w) (m : Int) (HM : ∀ w', Below w.heap.size w w' → w'.cell? ⟨0, 0, none⟩ = some (.int .i64 m)) :
    Calls Tryd.prog 5 #[.string s] w fun e w' => e = .returned (.bool true) ∧ Below w.heap.size w w' := by
  have H1 := Lib.hid HT
  have HMH := Lib.hid HM
  clear HT HM
  by_cases hs : 1048576 < s.size
  · go_enter Tryd.func5, Tryd.ntmps5
    go_wp2
    go_ret
    exact ⟨rfl, Below.refl _ _⟩
  have hs' : s.size ≤ 1048576 := by omega
  go_enter Tryd.func5, Tryd.ntmps5
  go_wp2_with fail
  refine (specVerify_any _ _ hs').mono ?_
  rintro e w1 ⟨rfl, hb1⟩
  have H2 := Lib.hid (H1.out.call hb1)
  have HB := Lib.hid hb1
  clear hb1
  go_wp2_with fail
  refine (implVerify_any _ _ hs' H2.out m (fun w' h => HMH.out w' (bel_call HB.out h))).mono ?_
  rintro e w2 ⟨rfl, hb2⟩
  have HB2 := Lib.hid (bel_call HB.out hb2)
  clear hb2
  go_wp2
  go_ret
  exact ⟨rfl, HB2.out⟩
end Go.Proofs.YtgakmmjbdejmdaaDoor
