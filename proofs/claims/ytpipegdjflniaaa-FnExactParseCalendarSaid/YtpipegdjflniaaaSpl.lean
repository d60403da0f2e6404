/- The reference's Split. -/
import Derived.Test.YtpipegdjflniaaaApp
import Derived.Lib.IndexLaws
namespace Go.Proofs.Ytpipegdjflniaaa
open Go.ChangeShapes Go.WideShapes Go.ChangeAt Go.RowKit Go.PlainAid
set_option linter.unusedVariables false
set_option linter.unusedSimpArgs false

/-! ### Own slices of strings -/
def encS (y : ByteArray) : List Value := [.string y]
abbrev OwnS (w : World) (B : Nat) (v : Value) (xs : List ByteArray) : Prop := OwnE 9 1 encS w B v xs
theorem OwnE.strs {w : World} {B : Nat} {v : Value} {xs : List ByteArray} (h : OwnS w B v xs) : ∃ A c, v = .slice A xs.length c ∧ xs.length ≤ c ∧ c ≤ 9223372036854775807 ∧ StrsIn w (Zone.new B w.heap.size) A xs :=
  h.reads (fun _ => rfl) (fun j => by omega) (fun w Z b o y hc => hc 0 (by omega))
theorem wp_appS {ops : Array Oper} {rest : List Oper} {o : Oper} {a : Act} {Q : Exit → Act → World → Prop} (hgd : o.guard = none) (s x : Operand)
    (ho : o.op = .call { callee := .builtin .append, args := #[s, x], argTypes := #[30, 30] })
    (B : Nat) (v : Value) (xs : List ByteArray) (y : ByteArray) (w : World) (hown : OwnS w B v xs) (hs : a.eval s = v) (n : Nat) (hx : a.eval x = .slice (some ⟨n, 0, none⟩) 1 1) (hnw : n = w.heap.size) (hl : xs.length ≤ 16777216) (hB : B ≤ w.heap.size)
    (h : ∀ v' w', OwnS w' B v' (xs ++ [y]) → Below B w w' → wpList Try.prog ops Q rest (a.put o.dst v') w') : wpList Try.prog ops Q (o :: rest) a (w.alloc (.cells #[.string y] 9)) := by
  obtain ⟨i0, hi, hz0, hz1, hz2⟩ := info_parts Try.infoS
  exact wp_app (enc := encS) hgd s x 30 ho 16 Try.underlying30 hi hz0 hz1 hz2 rfl (by omega) (fun _ => rfl) (fun y u hu => by simp [encS] at hu; subst hu; rfl) (by omega) B v xs y _ w rfl hs n hx hnw hown hl hB h
/-- A slice of strings in new memory. -/
def RetS1 (xs : List ByteArray) (w : World) (e : Ending) (w' : World) : Prop :=
  ∃ A c, e = .returned (.slice A xs.length c) ∧ StrsIn w' (Zone.new w.heap.size w'.heap.size) A xs ∧ Below w.heap.size w w'
theorem OwnE.retS1 {w0 w : World} {v : Value} {xs : List ByteArray} (h : OwnS w w0.heap.size v xs) (hb : Below w0.heap.size w0 w) : RetS1 xs w0 (.returned v) w := by
  obtain ⟨A, c, rfl, _, _, hi⟩ := h.strs
  exact ⟨A, c, rfl, hi, hb⟩

/-- The pieces that end before k, and where the next one begins. -/
def splF (s : ByteArray) (c : UInt8) : Nat → List ByteArray × Nat
  | 0 => ([], 0)
  | k + 1 => if s.data.toList[k]? = some c then ((splF s c k).1 ++ [s.extract (splF s c k).2 k], k + 1) else splF s c k
/-- The pieces of a text. -/
def splL (s : ByteArray) (c : UInt8) : List ByteArray := (splF s c s.size).1 ++ [s.extract (splF s c s.size).2 s.size]
theorem at_list {s : ByteArray} {k : Nat} (h : k < s.size) : s.data.toList[k]? = some s[k] := by
  rw [Array.getElem?_toList]; exact Array.getElem?_eq_getElem h
theorem splF_yes {s : ByteArray} {c : UInt8} {k : Nat} (h : k < s.size) (e : s[k] = c) : splF s c (k + 1) = ((splF s c k).1 ++ [s.extract (splF s c k).2 k], k + 1) := by
  rw [splF, if_pos (by rw [at_list h, e])]
theorem splF_no {s : ByteArray} {c : UInt8} {k : Nat} (h : k < s.size) (e : s[k] ≠ c) : splF s c (k + 1) = splF s c k := by
  rw [splF, if_neg (by rw [at_list h]; simpa using e)]
theorem splF_bd (s : ByteArray) (c : UInt8) (k : Nat) : (splF s c k).2 ≤ k ∧ (splF s c k).1.length ≤ k := by
  induction k with
  | zero => exact ⟨Nat.le_refl _, Nat.le_refl _⟩
  | succ k ih =>
    rw [splF]
    split
    · simp only [List.length_append, List.length_singleton]; omega
    · omega

set_option maxRecDepth 100000 in
set_option maxHeartbeats 2000000 in
theorem l1Split_any (s : ByteArray) (c : UInt8) (w : World) (hs : s.size ≤ 1048576) :
    Calls Try.prog 9 #[.string s, .int .u8 c.toNat] w (RetS1 (splL s c) w) := by
  go_enter Try.func9, Try.ntmps9
  go_wp2_with fail
  have O0 : Hid (OwnS (w.alloc (.cells #[] 9)) w.heap.size (.slice (some ⟨w.heap.size, 0, none⟩) 0 0) []) := Lib.hid (OwnE.empty (Nat.le_refl _))
  go_loopw [5, 6, 7] (fun v b i wr => ∃ k : Nat, k ≤ s.size ∧ i = .int .i64 k ∧ b = .int .i64 (splF s c k).2 ∧ OwnS wr w.heap.size v (splF s c k).1 ∧ Below w.heap.size w wr) (fun _ _ i _ => s.size - (intOf i).toNat)
  case atStart => exact ⟨0, Nat.zero_le _, rfl, rfl, O0.out, by go_grown⟩
  case round =>
    obtain ⟨k, hk, rfl, rfl, ho, hb⟩ := hrel
    have O1 := Lib.hid ho
    have HB := Lib.hid hb
    have hz := hb.size
    obtain ⟨b1, b2⟩ := splF_bd s c k
    clear ho hb
    by_cases hlt : k < s.size
    · by_cases he : s[k] = c
      · have HF := Lib.hid (splF_yes hlt he)
        have hc : s[k].toNat = c.toNat := by rw [he]
        clear he
        generalize splF s c k = p at *
        obtain ⟨xs, b⟩ := p
        simp only [] at b1 b2 O1 HF
        have hb0 : (b : Int) ≤ k := by omega
        have hk1 : (k : Int) ≤ s.size := by omega
        go_wp2_with (at_builtin; refine wp_appS rfl _ _ rfl w.heap.size _ xs (s.extract b k) _ O1.out rfl _ rfl (by simp) (by omega) (by omega) ?_; intro v' w' ho' hb'; have O2 := Lib.hid ho'; have HB2 := Lib.hid (HB.out.trans hb'); clear ho' hb')
        go_roundw
        case rel => exact ⟨k + 1, by omega, by go_num, by rw [HF.out]; go_num, by rw [HF.out]; exact O2.out, HB2.out⟩
        case measure => simp [intOf]; omega
      · have HF := Lib.hid (splF_no hlt he)
        have hc : ¬ ((s[k].toNat : Int) = (c.toNat : Int)) := fun h => he (UInt8.toNat_inj.mp (by omega))
        clear he
        go_wp2
        go_roundw
        case rel => exact ⟨k + 1, by omega, by go_num, by rw [HF.out], by rw [HF.out]; exact O1.out, HB.out⟩
        case measure => simp [intOf]; omega
    · obtain rfl : k = s.size := by omega
      have HF : Hid (splL s c = (splF s c s.size).1 ++ [s.extract (splF s c s.size).2 s.size]) := Lib.hid rfl
      generalize splF s c s.size = p at *
      obtain ⟨xs, b⟩ := p
      simp only [] at b1 b2 O1 HF
      have hb0 : (b : Int) ≤ s.size := by omega
      go_wp2_with (at_builtin; refine wp_appS rfl _ _ rfl w.heap.size _ xs (s.extract b s.size) _ O1.out rfl _ rfl (by simp) (by omega) (by omega) ?_; intro v' w' ho' hb'; have O2 := Lib.hid ho'; have HB2 := Lib.hid (HB.out.trans hb'); clear ho' hb')
      go_ret
      rw [HF.out]
      exact O2.out.retS1 HB2.out
end Go.Proofs.Ytpipegdjflniaaa
