/- MergeSpans, TotalMinutes: the program. -/
import Derived.Test.YtambgommeannnaaMgw
import Derived.Test.YtambgommeannnaaBus
namespace Go.Proofs.Ytambgommeannnaa
open Go.ChangeShapes Go.WideShapes Go.ChangeAt Go.RowKit Go.PlainAid
set_option linter.unusedVariables false
set_option linter.unusedSimpArgs false

/-- What a function hands back that makes spans. -/
def RetSp (xs : List I2) (b : Bool) (w : World) (e : Ending) (w' : World) : Prop :=
  ∃ A c, e = .returned (.tuple #[.slice A xs.length c, .bool b]) ∧ I2sIn w' (Zone.new w.heap.size w'.heap.size) A xs ∧ Below w.heap.size w w'
theorem retSpNil {w0 w : World} {xs : List I2} {b : Bool} (A : Option Addr) (c : Nat) (h : xs = []) (hb : Below w0.heap.size w0 w) : RetSp xs b w0 (.returned (.tuple #[.slice A 0 c, .bool b])) w := by
  subst h
  exact ⟨A, c, rfl, fun hn => by simp at hn, hb⟩
theorem OwnE.retSp {w0 w : World} {v : Value} {xs ys : List I2} {b : Bool} (h : OwnS w w0.heap.size v xs) (he : xs = ys) (hb : Below w0.heap.size w0 w) : RetSp ys b w0 (.returned (.tuple #[v, .bool b])) w := by
  subst he
  obtain ⟨A, c, rfl, _, _, hi⟩ := h.i2s
  exact ⟨A, c, rfl, hi, hb⟩
/-- The answers. -/
def msL (xs : List I2) : List I2 := if spansB xs = true then busyL xs else []
theorem msL_no {xs : List I2} (h : spansB xs = false) : msL xs = [] := by unfold msL; rw [h]; rfl
theorem msL_yes {xs : List I2} (h : spansB xs = true) : msL xs = busyL xs := by unfold msL; rw [if_pos h]
def tmN (xs : List I2) : Int := if spansB xs = true then (ctU (busyP xs) 0 1799 : Nat) else 0
theorem tmN_no {xs : List I2} (h : spansB xs = false) : tmN xs = 0 := by unfold tmN; rw [h]; rfl
theorem tmN_yes {xs : List I2} (h : spansB xs = true) : tmN xs = (ctU (busyP xs) 0 1799 : Nat) := by unfold tmN; rw [if_pos h]
theorem runU_len (p : Int → Bool) (lo : Int) (n : Nat) : (runU p lo n).length ≤ n := by
  induction n with
  | zero => exact Nat.le_refl _
  | succ n ih =>
    by_cases hp : p (lo + n) = true
    · rw [runU_yes hp]
      rcases snocCases (runU p lo n) with e | ⟨ys, s, e⟩
      · rw [e]; simp [extR_nil]
      · rw [e] at ih ⊢
        by_cases hb : s.b = lo + n
        · rw [extR_yes hb]; simp at ih ⊢; omega
        · rw [extR_no hb]; simp at ih ⊢; omega
    · have hp' : p (lo + n) = false := by simpa using hp
      rw [runU_no hp']; omega
theorem busyL_len (xs : List I2) : (busyL xs).length ≤ 1799 := runU_len _ _ _
theorem msL_len (xs : List I2) : (msL xs).length ≤ 1048576 := by
  unfold msL
  split
  · have := busyL_len xs; omega
  · simp

set_option maxRecDepth 100000 in
set_option maxHeartbeats 1000000 in
theorem implMerge_any (b o c : Nat) (xs : List I2) (w : World) (h : I2sIn w (Zone.below w.heap.size) (some ⟨b, o, none⟩) xs) (hn : xs.length ≤ 1048576) :
    Calls Try.prog 49 #[.slice (some ⟨b, o, none⟩) xs.length c] w (RetSp (msL xs) (spansB xs) w) := by
  have HX := Lib.hid h
  clear h
  cases g : spansB xs
  · have HS := Lib.hid (msL_no g)
    go_enter Try.func49, Try.ntmps49
    go_wp2_with fail
    refine (areSpans_any _ _ xs _ HX.out hn).mono ?_
    rintro e w1 ⟨rfl, hb1⟩
    have HB1 := Lib.hid hb1
    clear hb1
    go_wp2_with fail
    go_ret2
    exact retSpNil none 0 HS.out HB1.out
  · have HS := Lib.hid (msL_yes g)
    have HV := Lib.hid (spansB_ok g)
    go_enter Try.func49, Try.ntmps49
    go_wp2_with fail
    refine (areSpans_any _ _ xs _ HX.out hn).mono ?_
    rintro e w1 ⟨rfl, hb1⟩
    have HX1 := Lib.hid (HX.out.call hb1)
    have HB1 := Lib.hid hb1
    have hz1 := hb1.size
    clear hb1
    go_wp2_with fail
    refine (mergeSpans_any _ _ _ xs _ HX1.out HV.out).mono ?_
    rintro e w2 ⟨v, rfl, ho, hb2⟩
    have HO := Lib.hid (OwnE.sub ho hz1)
    have HB2 := Lib.hid (bel_call HB1.out hb2)
    clear ho hb2
    go_wp2_with fail
    go_ret2
    exact HO.out.retSp HS.out.symm HB2.out

set_option maxRecDepth 100000 in
set_option maxHeartbeats 2000000 in
theorem implTotal_any (b o c : Nat) (xs : List I2) (w : World) (h : I2sIn w (Zone.below w.heap.size) (some ⟨b, o, none⟩) xs) (hn : xs.length ≤ 1048576) :
    Calls Try.prog 46 #[.slice (some ⟨b, o, none⟩) xs.length c] w fun e w' => e = .returned (.tuple #[.int .i64 (tmN xs), .bool (spansB xs)]) ∧ Below w.heap.size w w' := by
  have HX := Lib.hid h
  clear h
  cases g : spansB xs
  · have HS := Lib.hid (tmN_no g)
    go_enter Try.func46, Try.ntmps46
    go_wp2_with fail
    refine (areSpans_any _ _ xs _ HX.out hn).mono ?_
    rintro e w1 ⟨rfl, hb1⟩
    have HB1 := Lib.hid hb1
    clear hb1
    go_wp2_with fail
    go_ret2
    exact ⟨retT HS.out.symm rfl, HB1.out⟩
  · have HS := Lib.hid (tmN_yes g)
    have HV := Lib.hid (spansB_ok g)
    go_enter Try.func46, Try.ntmps46
    go_wp2_with fail
    refine (areSpans_any _ _ xs _ HX.out hn).mono ?_
    rintro e w1 ⟨rfl, hb1⟩
    have HX1 := Lib.hid (HX.out.call hb1)
    have HB1 := Lib.hid hb1
    have hz1 := hb1.size
    clear hb1
    go_wp2_with fail
    refine (mergeSpans_any _ _ _ xs _ HX1.out HV.out).mono ?_
    rintro e w2 ⟨v, rfl, ho, hb2⟩
    obtain ⟨A, cc, rfl, _, _, hi⟩ := ho.i2s
    have HI := Lib.hid (hi.to_below (Nat.le_refl _))
    have HB2 := Lib.hid (bel_call HB1.out hb2)
    have HT := Lib.hid (busyL_tot xs)
    have hbl := busyL_len xs
    have HBD : Hid (∀ k, k ≤ (busyL xs).length → 0 ≤ totU (busyL xs) k ∧ totU (busyL xs) k ≤ 1799 * k) := Lib.hid (fun k => by
      induction k with
      | zero => intro _; exact ⟨Int.le_refl _, by simp [totU]⟩
      | succ k ih =>
        intro hk
        have h1 := ih (by omega)
        have hm := nth2_mem (xs := busyL xs) (k := k) (by omega)
        have h2 := (runU_spec (busyP xs) 0 1799).1.1 _ hm
        have h3 := (runU_spec (busyP xs) 0 1799).2.1 _ hm
        rw [totU]
        push_cast
        omega)
    clear ho hb2 hi
    generalize busyL xs = ms at *
    go_wp2_with fail
    go_loopw [4, 6, 13] (fun s _ j wr => ∃ k : Nat, k ≤ ms.length ∧ j = .int .i64 k ∧ s = .int .i64 (totU ms k) ∧ Below w2.heap.size w2 wr) (fun _ _ j _ => ms.length - (intOf j).toNat)
    case atStart => exact ⟨0, Nat.zero_le _, rfl, rfl, Below.refl _ _⟩
    case round =>
      obtain ⟨k, hk, rfl, rfl, hb⟩ := hrel
      have HB := Lib.hid hb
      clear hb
      by_cases hlt : k < ms.length
      · obtain ⟨b1, o1, rfl, hbl1, d0, d1⟩ := I2sIn.at HI.out hlt
        have e0 : wr.cell? ⟨b1, o1 + k * 2, none⟩ = some (.int .i64 (nth2 ms k).a) := (HB.out.cell (p := ⟨b1, _, none⟩) hbl1).trans d0
        have e1 : wr.cell? ⟨b1, o1 + k * 2 + 1, none⟩ = some (.int .i64 (nth2 ms k).b) := (HB.out.cell (p := ⟨b1, _, none⟩) hbl1).trans d1
        have hik : (k : Int) < ms.length := by omega
        have h1 := HBD.out k hk
        have h2 := HBD.out (k + 1) (by omega)
        have h3 : totU ms (k + 1) = totU ms k + ((nth2 ms k).b - (nth2 ms k).a) := rfl
        have HTS := Lib.hid h3
        have hd1 : -4000000 ≤ (nth2 ms k).b - (nth2 ms k).a := by push_cast at h2; omega
        have hd2 : (nth2 ms k).b - (nth2 ms k).a ≤ 4000000 := by push_cast at h2; omega
        have ht1 : totU ms k ≤ 4000000 := by omega
        have ht0 := h1.1
        have W2B : Hid (Below wr.heap.size wr (wr.alloc (.cells #[.int .i64 (nth2 ms k).a, .int .i64 (nth2 ms k).b] 82))) := Lib.hid (by go_grown)
        have HB3 := Lib.hid (bel_call HB.out W2B.out)
        clear h1 h2 h3 d0 d1
        generalize totU ms k = tk at *
        go_wp2_with fail
        go_roundw
        case rel => exact ⟨k + 1, by omega, by go_num, by rw [HTS.out], HB3.out⟩
        case measure => simp [intOf]; omega
      · obtain rfl : k = ms.length := by omega
        go_wp2_with fail
        go_ret2
        exact ⟨retT (by rw [HS.out, ← HT.out]) rfl, bel_call HB2.out HB.out⟩
end Go.Proofs.Ytambgommeannnaa
