/- impl.ShortestWalk's closure. -/
import Derived.Test.YtemhcobjhpifpaaSwe
import Derived.Test.YtemhcobjhpifpaaSwq
import Derived.BigQuiet
namespace Go.Proofs.Ytemhcobjhpifpaa
open Go.ChangeShapes Go.WideShapes Go.ChangeAt Go.RowKit Go.PlainAid
set_option linter.unusedVariables false
set_option linter.unusedSimpArgs false

theorem onwB_eq {n : Nat} {xs : List I3} (h : Wks n xs) (t a b : Nat) : onwB n xs t a b = (decide (0 < wmZ xs a b) && decide (0 ≤ fw xs n b t) && decide (wmZ xs a b + fw xs n b t = fw xs n a t)) := by
  have key : onw n xs t a b ↔ (0 < wmZ xs a b ∧ 0 ≤ fw xs n b t) ∧ wmZ xs a b + fw xs n b t = fw xs n a t := by
    unfold onw wmZ
    by_cases h0 : 0 ≤ wmO xs a b
    · have h1 := (wm_of h h0).2.1
      rw [if_pos h0]
      omega
    · rw [if_neg h0]
      omega
  unfold onwB
  rw [Bool.eq_iff_iff]
  simp only [decide_eq_true_eq, Bool.and_eq_true]
  exact key
theorem wmZ_bd {n : Nat} {xs : List I3} (h : Wks n xs) (a b : Nat) : 0 ≤ wmZ xs a b ∧ wmZ xs a b ≤ 120 := by
  unfold wmZ
  by_cases h0 : 0 ≤ wmO xs a b
  · have h1 := (wm_of h h0).2
    rw [if_pos h0]
    omega
  · rw [if_neg h0]; omega

set_option maxRecDepth 100000 in
set_option maxHeartbeats 4000000 in
theorem onwF_any (n : Nat) (xs : List I3) (V : Option Addr) (cv G a b t g5 g10 g7 : Nat) (w : World) (hV : I3sIn w (Zone.below w.heap.size) V xs) (hw : Wks n xs) (hv : xs.length ≤ 1048576) (hM : MatI w G n (fw xs n)) (c5 : w.cell? ⟨g5, 0, none⟩ = some (.slice V xs.length cv)) (c10 : w.cell? ⟨g10, 0, none⟩ = some (.slice (some ⟨G, 0, none⟩) n n)) (c7 : w.cell? ⟨g7, 0, none⟩ = some (.int .i64 (t : Nat))) (l10 : g10 < w.heap.size) (l7 : g7 < w.heap.size) (h8 : n ≤ 8) (ha : a < n) (hb : b < n) (ht : t < n) :
    Calls Try.prog 28 #[.int .i64 (a : Nat), .int .i64 (b : Nat), .pointer (some ⟨g5, 0, none⟩), .pointer (some ⟨g10, 0, none⟩), .pointer (some ⟨g7, 0, none⟩)] w fun e w' => e = .returned (.bool (onwB n xs t a b)) ∧ Below w.heap.size w w' := by
  have HW := Lib.hid (walkMinutes_any n xs V cv a b w hV hw hv)
  have HM := Lib.hid hM
  have HE := Lib.hid (onwB_eq hw t a b)
  have bm := wmZ_bd hw a b
  have b1 := fw_bd hw h8 (m := n) (i := b) (j := t) (Nat.le_refl _) hb
  have b2 := fw_bd hw h8 (m := n) (i := a) (j := t) (Nat.le_refl _) ha
  have hai : (a : Int) < (n : Int) := by omega
  have hbi : (b : Int) < (n : Int) := by omega
  have hti : (t : Int) < (n : Int) := by omega
  clear hV hM
  go_enter Try.func28, Try.ntmps28
  go_wp2_with fail
  refine HW.out.mono ?_
  rintro e w1 ⟨rfl, hb1⟩
  have hm1 := HM.out.call hb1
  have d10 := (hb1.cell (p := ⟨g10, 0, none⟩) l10).trans c10
  have d7 := (hb1.cell (p := ⟨g7, 0, none⟩) l7).trans c7
  have e1 := hm1.hd b hb
  have e2 := hm1.hd a ha
  have e3 := hm1.at' hb ht
  have e4 := hm1.at' ha ht
  have HB1 := Lib.hid hb1
  generalize hm : wmZ xs a b = m at *
  generalize hfb : fw xs n b t = fb at *
  generalize hfa : fw xs n a t = fa at *
  clear hm hfb hfa hm1 hb1 HM HW c5 c10 c7 hw
  by_cases t1 : 0 < m
  · by_cases t2 : 0 ≤ fb
    · by_cases t3 : m + fb = fa
      · have HR : Hid (onwB n xs t a b = true) := Lib.hid (by rw [HE.out, decide_eq_true t1, decide_eq_true t2, decide_eq_true t3]; rfl)
        subst t3
        go_wp2_with fail
        go_quiet (fail)
        go_wp2_with fail
        go_ret
        exact ⟨retB (by first | exact HR.out.symm | (rw [HR.out]; simp [t3])), bel_drewN HB1.out _⟩
      · have HR : Hid (onwB n xs t a b = false) := Lib.hid (by rw [HE.out, decide_eq_false t3]; simp)
        go_wp2_with fail
        go_quiet (fail)
        go_wp2_with fail
        go_ret
        exact ⟨retB (by first | exact HR.out.symm | (rw [HR.out]; simp [t3])), bel_drewN HB1.out _⟩
    · have HR : Hid (onwB n xs t a b = false) := Lib.hid (by rw [HE.out, decide_eq_false t2]; simp)
      obtain rfl : fb = -1 := by omega
      go_wp2_with fail
      go_quiet (fail)
      go_wp2_with fail
      go_ret
      exact ⟨retB (by first | exact HR.out.symm | (rw [HR.out]; simp [t3])), bel_drewN HB1.out _⟩
  · have HR : Hid (onwB n xs t a b = false) := Lib.hid (by rw [HE.out, decide_eq_false t1]; simp)
    obtain rfl : m = 0 := by omega
    go_wp2_with fail
    go_quiet (fail)
    go_wp2_with fail
    go_ret
    exact ⟨retB (by first | exact HR.out.symm | (rw [HR.out]; simp [t3])), bel_drewN HB1.out _⟩

end Go.Proofs.Ytemhcobjhpifpaa
