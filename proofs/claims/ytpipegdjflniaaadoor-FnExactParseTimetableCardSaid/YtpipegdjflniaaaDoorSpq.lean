/- Splitting: own slices and words -/
import Derived.Test.YtpipegdjflniaaaDoorApp
import Derived.Lib.IndexLaws
import Derived.Lib.IndexBytes
import Derived.Lib.SplitLaws
namespace Go.Proofs.YtpipegdjflniaaaDoor

/-! ### The reference's Split. -/
section
open Go.ChangeShapes Go.WideShapes Go.ChangeAt Go.RowKit Go.PlainAid
set_option linter.unusedVariables false
set_option linter.unusedSimpArgs false

/-! ### Own slices of strings -/
def encS (y : ByteArray) : List Value := [.string y]
abbrev OwnS (w : World) (B : Nat) (v : Value) (xs : List ByteArray) : Prop := OwnE 9 1 encS w B v xs
theorem OwnE.strs {w : World} {B : Nat} {v : Value} {xs : List ByteArray} (h : OwnS w B v xs) : ∃ A c, v = .slice A xs.length c ∧ xs.length ≤ c ∧ c ≤ 9223372036854775807 ∧ StrsIn w (Zone.new B w.heap.size) A xs :=
  h.reads (fun _ => rfl) (fun j => by omega) (fun w Z b o y hc => hc 0 (by omega))
theorem wp_appS {ops : Array Oper} {rest : List Oper} {o : Oper} {a : Act} {Q : Exit → Act → World → Prop} (hgd : o.guard = none) (s x : Operand)
    (ho : o.op = .call { callee := .builtin .append, args := #[s, x], argTypes := #[22, 22] })
    (B : Nat) (v : Value) (xs : List ByteArray) (y : ByteArray) (w : World) (hown : OwnS w B v xs) (hs : a.eval s = v) (n : Nat) (hx : a.eval x = .slice (some ⟨n, 0, none⟩) 1 1) (hnw : n = w.heap.size) (hl : xs.length ≤ 16777216) (hB : B ≤ w.heap.size)
    (h : ∀ v' w', OwnS w' B v' (xs ++ [y]) → Below B w w' → wpList Tryd.prog ops Q rest (a.put o.dst v') w') : wpList Tryd.prog ops Q (o :: rest) a (w.alloc (.cells #[.string y] 9)) := by
  obtain ⟨i0, hi, hz0, hz1, hz2⟩ := info_parts Tryd.infoS
  exact wp_app (enc := encS) hgd s x 22 ho 16 Tryd.underlying22 hi hz0 hz1 hz2 rfl (by omega) (fun _ => rfl) (fun y u hu => by simp [encS] at hu; subst hu; rfl) (by omega) B v xs y _ w rfl hs n hx hnw hown hl hB h
/-- A slice of strings in new memory. -/
def RetS1 (xs : List ByteArray) (w : World) (e : Ending) (w' : World) : Prop :=
  ∃ A c, e = .returned (.slice A xs.length c) ∧ StrsIn w' (Zone.new w.heap.size w'.heap.size) A xs ∧ Below w.heap.size w w'
theorem OwnE.retS1 {w0 w : World} {v : Value} {xs : List ByteArray} (h : OwnS w w0.heap.size v xs) (hb : Below w0.heap.size w0 w) : RetS1 xs w0 (.returned v) w := by
  obtain ⟨A, c, rfl, _, _, hi⟩ := h.strs
  exact ⟨A, c, rfl, hi, hb⟩

/-- The pieces that end before k, and where the next one begins. -/
def splF (s : ByteArray) (c : UInt8) : Nat → List ByteArray × Nat
  | 0 => ([], 0)
  | k + 1 => if s.data.toList[k]? = some c then ((splF s c k).1 ++ [s.extract (splF s c k).2 k], k + 1) else splF s c k
/-- The pieces of a text. -/
def splL (s : ByteArray) (c : UInt8) : List ByteArray := (splF s c s.size).1 ++ [s.extract (splF s c s.size).2 s.size]
theorem at_list {s : ByteArray} {k : Nat} (h : k < s.size) : s.data.toList[k]? = some s[k] := by
  rw [Array.getElem?_toList]; exact Array.getElem?_eq_getElem h
theorem splF_yes {s : ByteArray} {c : UInt8} {k : Nat} (h : k < s.size) (e : s[k] = c) : splF s c (k + 1) = ((splF s c k).1 ++ [s.extract (splF s c k).2 k], k + 1) := by
  rw [splF, if_pos (by rw [at_list h, e])]
theorem splF_no {s : ByteArray} {c : UInt8} {k : Nat} (h : k < s.size) (e : s[k] ≠ c) : splF s c (k + 1) = splF s c k := by
  rw [splF, if_neg (by rw [at_list h]; simpa using e)]
theorem splF_bd (s : ByteArray) (c : UInt8) (k : Nat) : (splF s c k).2 ≤ k ∧ (splF s c k).1.length ≤ k := by
  induction k with
  | zero => exact ⟨Nat.le_refl _, Nat.le_refl _⟩
  | succ k ih =>
    rw [splF]
    split
    · simp only [List.length_append, List.length_singleton]; omega
    · omega

set_option maxRecDepth 100000 in
set_option maxHeartbeats 2000000 in
theorem l1Split_any (s : ByteArray) (c : UInt8) (w : World) (hs : s.size ≤ 1048576) :
    Calls Tryd.prog 26 #[.string s, .int .u8 c.toNat] w (RetS1 (splL s c) w) := by
  go_enter Tryd.func26, Tryd.ntmps26
  go_wp2_with fail
  have O0 : Hid (OwnS (w.alloc (.cells #[] 9)) w.heap.size (.slice (some ⟨w.heap.size, 0, none⟩) 0 0) []) := Lib.hid (OwnE.empty (Nat.le_refl _))
  go_loopw [5, 6, 7] (fun v b i wr => ∃ k : Nat, k ≤ s.size ∧ i = .int .i64 k ∧ b = .int .i64 (splF s c k).2 ∧ OwnS wr w.heap.size v (splF s c k).1 ∧ Below w.heap.size w wr) (fun _ _ i _ => s.size - (intOf i).toNat)
  case atStart => exact ⟨0, Nat.zero_le _, rfl, rfl, O0.out, by go_grown⟩
  case round =>
    obtain ⟨k, hk, rfl, rfl, ho, hb⟩ := hrel
    have O1 := Lib.hid ho
    have HB := Lib.hid hb
    have hz := hb.size
    obtain ⟨b1, b2⟩ := splF_bd s c k
    clear ho hb
    by_cases hlt : k < s.size
    · by_cases he : s[k] = c
      · have HF := Lib.hid (splF_yes hlt he)
        have hc : s[k].toNat = c.toNat := by rw [he]
        clear he
        generalize splF s c k = p at *
        obtain ⟨xs, b⟩ := p
        simp only [] at b1 b2 O1 HF
        have hb0 : (b : Int) ≤ k := by omega
        have hk1 : (k : Int) ≤ s.size := by omega
        go_wp2_with (at_builtin; refine wp_appS rfl _ _ rfl w.heap.size _ xs (s.extract b k) _ O1.out rfl _ rfl (by simp) (by omega) (by omega) ?_; intro v' w' ho' hb'; have O2 := Lib.hid ho'; have HB2 := Lib.hid (HB.out.trans hb'); clear ho' hb')
        go_roundw
        case rel => exact ⟨k + 1, by omega, by go_num, by rw [HF.out]; go_num, by rw [HF.out]; exact O2.out, HB2.out⟩
        case measure => simp [intOf]; omega
      · have HF := Lib.hid (splF_no hlt he)
        have hc : ¬ ((s[k].toNat : Int) = (c.toNat : Int)) := fun h => he (UInt8.toNat_inj.mp (by omega))
        clear he
        go_wp2
        go_roundw
        case rel => exact ⟨k + 1, by omega, by go_num, by rw [HF.out], by rw [HF.out]; exact O1.out, HB.out⟩
        case measure => simp [intOf]; omega
    · obtain rfl : k = s.size := by omega
      have HF : Hid (splL s c = (splF s c s.size).1 ++ [s.extract (splF s c s.size).2 s.size]) := Lib.hid rfl
      generalize splF s c s.size = p at *
      obtain ⟨xs, b⟩ := p
      simp only [] at b1 b2 O1 HF
      have hb0 : (b : Int) ≤ s.size := by omega
      go_wp2_with (at_builtin; refine wp_appS rfl _ _ rfl w.heap.size _ xs (s.extract b s.size) _ O1.out rfl _ rfl (by simp) (by omega) (by omega) ?_; intro v' w' ho' hb'; have O2 := Lib.hid ho'; have HB2 := Lib.hid (HB.out.trans hb'); clear ho' hb')
      go_ret
      rw [HF.out]
      exact O2.out.retS1 HB2.out
end

/-! ### The library's Split and the reference's: plain law. -/
section
open Go.ChangeShapes Go.WideShapes Go.ChangeAt Go.RowKit Go.PlainAid
set_option linter.unusedVariables false
set_option linter.unusedSimpArgs false

theorem ext_list (s : ByteArray) (a : Nat) : (s.extract a s.size).data.toList = s.data.toList.drop a := by
  rw [ByteArray.data_extract, Array.toList_extract]
  show (s.data.toList.drop a).take (s.size - a) = _
  rw [List.take_of_length_le (by rw [List.length_drop, Array.length_toList]; exact Nat.le_refl _)]
theorem ext_ext (s : ByteArray) (a b n : Nat) (h : a + n ≤ s.size) : (s.extract a s.size).extract b n = s.extract (a + b) (a + n) := by
  apply ByteArray.ext
  rw [ByteArray.data_extract, ByteArray.data_extract, ByteArray.data_extract, Array.extract_extract, Nat.min_eq_left h]
theorem splF_none {s : ByteArray} {c : UInt8} {n : Nat} (h : ∀ k, k < n → s.data.toList[k]? ≠ some c) : splF s c n = ([], 0) := by
  induction n with
  | zero => rfl
  | succ n ih => rw [splF, if_neg (h n (Nat.lt_succ_self n))]; exact ih (fun k hk => h k (by omega))
theorem splF_after {s : ByteArray} {c : UInt8} {o : Nat} (h0 : s.data.toList[o]? = some c) (h : ∀ k, k < o → s.data.toList[k]? ≠ some c) (n : Nat) (hn : o + 1 + n ≤ s.size) :
    splF s c (o + 1 + n) = (s.extract 0 o :: (splF (s.extract (o + 1) s.size) c n).1, o + 1 + (splF (s.extract (o + 1) s.size) c n).2) := by
  induction n with
  | zero =>
    have e : splF s c (o + 1) = ((splF s c o).1 ++ [s.extract (splF s c o).2 o], o + 1) := by rw [splF, if_pos h0]
    rw [splF_none h] at e
    exact e
  | succ n ih =>
    have ih := ih (by omega)
    have e : (s.extract (o + 1) s.size).data.toList[n]? = s.data.toList[o + 1 + n]? := by rw [ext_list, List.getElem?_drop]
    show splF s c (o + 1 + n + 1) = _
    rw [splF, ih]
    rw [splF, e]
    split
    · rw [ext_ext _ _ _ _ (by omega)]
      simp only [List.cons_append]
      rfl
    · rfl
theorem spl_hit {s : ByteArray} {c : UInt8} {o : Nat} (h0 : s.data.toList[o]? = some c) (h : ∀ k, k < o → s.data.toList[k]? ≠ some c) : splL s c = s.extract 0 o :: splL (s.extract (o + 1) s.size) c := by
  have hlt : o < s.size := by
    have := (List.getElem?_eq_some_iff.1 h0).1
    simpa using this
  have hs : (s.extract (o + 1) s.size).size = s.size - (o + 1) := by rw [ByteArray.size_extract, Nat.min_self]
  have ha := splF_after h0 h (s.size - (o + 1)) (by omega)
  rw [show o + 1 + (s.size - (o + 1)) = s.size by omega] at ha
  unfold splL
  rw [ha, hs]
  simp only [List.cons_append]
  rw [ext_ext _ _ _ _ (by omega), show o + 1 + (s.size - (o + 1)) = s.size by omega]
theorem spl_miss {s : ByteArray} {c : UInt8} (h : Lib.indexByte s.data.toList c = -1) : splL s c = [s] := by
  unfold splL
  rw [splF_none (fun k _ => Lib.indexByte_none h k)]
  show [s.extract 0 s.size] = _
  rw [ByteArray.extract_zero_size]
theorem indexB_one (s : ByteArray) (c : UInt8) : Lib.indexB s ⟨#[c]⟩ = Lib.indexByte s.data.toList c := Lib.index_one s.data.toList c
theorem spl_split (c : UInt8) : ∀ (k : Nat) (s : ByteArray), s.size ≤ k → Lib.splitB ⟨#[c]⟩ 0 (Lib.countB s ⟨#[c]⟩) s = splL s c := by
  intro k
  induction k with
  | zero =>
    intro s hs
    have h : Lib.indexByte s.data.toList c = -1 := by
      have : s.data.toList = [] := List.length_eq_zero_iff.1 (by rw [Array.length_toList]; exact Nat.le_zero.1 hs)
      rw [this]; rfl
    rw [Lib.splitB_miss _ _ _ _ ((indexB_one s c).trans h), spl_miss h]
  | succ k ih =>
    intro s hs
    by_cases h : Lib.indexByte s.data.toList c = -1
    · rw [Lib.splitB_miss _ _ _ _ ((indexB_one s c).trans h), spl_miss h]
    · have hge := Lib.indexByte_ge s.data.toList c
      obtain ⟨o, ho⟩ : ∃ o : Nat, Lib.indexByte s.data.toList c = o := ⟨(Lib.indexByte s.data.toList c).toNat, by omega⟩
      obtain ⟨h1, h2⟩ := Lib.indexByte_some ho
      have hi := (indexB_one s c).trans ho
      have hsz : (s.extract (o + 1) s.size).size ≤ k := by rw [ByteArray.size_extract, Nat.min_self]; omega
      rw [Lib.countB_hit _ _ _ (Nat.le_refl _) hi, Nat.add_comm, Lib.splitB_hit _ _ _ _ _ hi, spl_hit h1 h2, ← ih _ hsz]
      rfl
theorem spl_len (s : ByteArray) (c : UInt8) : (splL s c).length = Lib.countB s ⟨#[c]⟩ + 1 := by
  rw [← spl_split c _ s (Nat.le_refl _)]
  exact Lib.splitB_all _ (Nat.le_refl _) 0 _ s rfl
theorem spl_le (s : ByteArray) (c : UInt8) : (splL s c).length ≤ s.size + 1 := by
  unfold splL
  rw [List.length_append, List.length_singleton]
  have := (splF_bd s c s.size).2
  omega
end
end Go.Proofs.YtpipegdjflniaaaDoor
