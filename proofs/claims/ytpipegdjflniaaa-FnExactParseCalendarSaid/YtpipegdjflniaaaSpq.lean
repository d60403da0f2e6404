/- The library's Split and the reference's: plain law. -/
import Derived.Test.YtpipegdjflniaaaSpl
import Derived.Lib.IndexBytes
import Derived.Lib.SplitLaws
namespace Go.Proofs.Ytpipegdjflniaaa
open Go.ChangeShapes Go.WideShapes Go.ChangeAt Go.RowKit Go.PlainAid
set_option linter.unusedVariables false
set_option linter.unusedSimpArgs false

theorem ext_list (s : ByteArray) (a : Nat) : (s.extract a s.size).data.toList = s.data.toList.drop a := by
  rw [ByteArray.data_extract, Array.toList_extract]
  show (s.data.toList.drop a).take (s.size - a) = _
  rw [List.take_of_length_le (by rw [List.length_drop, Array.length_toList]; exact Nat.le_refl _)]
theorem ext_ext (s : ByteArray) (a b n : Nat) (h : a + n ≤ s.size) : (s.extract a s.size).extract b n = s.extract (a + b) (a + n) := by
  apply ByteArray.ext
  rw [ByteArray.data_extract, ByteArray.data_extract, ByteArray.data_extract, Array.extract_extract, Nat.min_eq_left h]
theorem splF_none {s : ByteArray} {c : UInt8} {n : Nat} (h : ∀ k, k < n → s.data.toList[k]? ≠ some c) : splF s c n = ([], 0) := by
  induction n with
  | zero => rfl
  | succ n ih => rw [splF, if_neg (h n (Nat.lt_succ_self n))]; exact ih (fun k hk => h k (by omega))
theorem splF_after {s : ByteArray} {c : UInt8} {o : Nat} (h0 : s.data.toList[o]? = some c) (h : ∀ k, k < o → s.data.toList[k]? ≠ some c) (n : Nat) (hn : o + 1 + n ≤ s.size) :
    splF s c (o + 1 + n) = (s.extract 0 o :: (splF (s.extract (o + 1) s.size) c n).1, o + 1 + (splF (s.extract (o + 1) s.size) c n).2) := by
  induction n with
  | zero =>
    have e : splF s c (o + 1) = ((splF s c o).1 ++ [s.extract (splF s c o).2 o], o + 1) := by rw [splF, if_pos h0]
    rw [splF_none h] at e
    exact e
  | succ n ih =>
    have ih := ih (by omega)
    have e : (s.extract (o + 1) s.size).data.toList[n]? = s.data.toList[o + 1 + n]? := by rw [ext_list, List.getElem?_drop]
    show splF s c (o + 1 + n + 1) = _
    rw [splF, ih]
    rw [splF, e]
    split
    · rw [ext_ext _ _ _ _ (by omega)]
      simp only [List.cons_append]
      rfl
    · rfl
theorem spl_hit {s : ByteArray} {c : UInt8} {o : Nat} (h0 : s.data.toList[o]? = some c) (h : ∀ k, k < o → s.data.toList[k]? ≠ some c) : splL s c = s.extract 0 o :: splL (s.extract (o + 1) s.size) c := by
  have hlt : o < s.size := by
    have := (List.getElem?_eq_some_iff.1 h0).1
    simpa using this
  have hs : (s.extract (o + 1) s.size).size = s.size - (o + 1) := by rw [ByteArray.size_extract, Nat.min_self]
  have ha := splF_after h0 h (s.size - (o + 1)) (by omega)
  rw [show o + 1 + (s.size - (o + 1)) = s.size by omega] at ha
  unfold splL
  rw [ha, hs]
  simp only [List.cons_append]
  rw [ext_ext _ _ _ _ (by omega), show o + 1 + (s.size - (o + 1)) = s.size by omega]
theorem spl_miss {s : ByteArray} {c : UInt8} (h : Lib.indexByte s.data.toList c = -1) : splL s c = [s] := by
  unfold splL
  rw [splF_none (fun k _ => Lib.indexByte_none h k)]
  show [s.extract 0 s.size] = _
  rw [ByteArray.extract_zero_size]
theorem indexB_one (s : ByteArray) (c : UInt8) : Lib.indexB s ⟨#[c]⟩ = Lib.indexByte s.data.toList c := Lib.index_one s.data.toList c
theorem spl_split (c : UInt8) : ∀ (k : Nat) (s : ByteArray), s.size ≤ k → Lib.splitB ⟨#[c]⟩ 0 (Lib.countB s ⟨#[c]⟩) s = splL s c := by
  intro k
  induction k with
  | zero =>
    intro s hs
    have h : Lib.indexByte s.data.toList c = -1 := by
      have : s.data.toList = [] := List.length_eq_zero_iff.1 (by rw [Array.length_toList]; exact Nat.le_zero.1 hs)
      rw [this]; rfl
    rw [Lib.splitB_miss _ _ _ _ ((indexB_one s c).trans h), spl_miss h]
  | succ k ih =>
    intro s hs
    by_cases h : Lib.indexByte s.data.toList c = -1
    · rw [Lib.splitB_miss _ _ _ _ ((indexB_one s c).trans h), spl_miss h]
    · have hge := Lib.indexByte_ge s.data.toList c
      obtain ⟨o, ho⟩ : ∃ o : Nat, Lib.indexByte s.data.toList c = o := ⟨(Lib.indexByte s.data.toList c).toNat, by omega⟩
      obtain ⟨h1, h2⟩ := Lib.indexByte_some ho
      have hi := (indexB_one s c).trans ho
      have hsz : (s.extract (o + 1) s.size).size ≤ k := by rw [ByteArray.size_extract, Nat.min_self]; omega
      rw [Lib.countB_hit _ _ _ (Nat.le_refl _) hi, Nat.add_comm, Lib.splitB_hit _ _ _ _ _ hi, spl_hit h1 h2, ← ih _ hsz]
      rfl
theorem spl_len (s : ByteArray) (c : UInt8) : (splL s c).length = Lib.countB s ⟨#[c]⟩ + 1 := by
  rw [← spl_split c _ s (Nat.le_refl _)]
  exact Lib.splitB_all _ (Nat.le_refl _) 0 _ s rfl
theorem spl_le (s : ByteArray) (c : UInt8) : (splL s c).length ≤ s.size + 1 := by
  unfold splL
  rw [List.length_append, List.length_singleton]
  have := (splF_bd s c s.size).2
  omega
end Go.Proofs.Ytpipegdjflniaaa
