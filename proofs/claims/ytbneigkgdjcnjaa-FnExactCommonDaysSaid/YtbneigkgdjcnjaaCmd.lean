/- CommonDays: contracts. -/
import Derived.Test.YtbneigkgdjcnjaaCalZ
import Derived.Test.YtbneigkgdjcnjaaRunC
import Derived.Test.YtbneigkgdjcnjaaRet
namespace Go.Proofs.Ytbneigkgdjcnjaa
open Go.ChangeShapes Go.WideShapes Go.ChangeAt Go.RowKit Go.PlainAid
set_option linter.unusedVariables false

/-- The first 20 numbers from lo on of which p says yes, after k steps. -/
def cmF (lo : Int) (p : Nat → Bool) : Nat → List Int
  | 0 => []
  | k + 1 => if (cmF lo p k).length < 20 ∧ p k = true then cmF lo p k ++ [lo + k] else cmF lo p k
theorem cmF_len (lo : Int) (p : Nat → Bool) (k : Nat) : (cmF lo p k).length ≤ 20 := by
  induction k with
  | zero => simp [cmF]
  | succ k ih =>
    simp only [cmF]
    split
    · rename_i h; rw [List.length_append]; simp; omega
    · exact ih
theorem cmF_no {lo : Int} {p : Nat → Bool} {k : Nat} (h : p k = false) : cmF lo p (k + 1) = cmF lo p k := by
  simp only [cmF]; rw [if_neg (by rw [h]; simp)]
theorem cmF_yes {lo : Int} {p : Nat → Bool} {k : Nat} (h : p k = true) (hl : (cmF lo p k).length < 20) : cmF lo p (k + 1) = cmF lo p k ++ [lo + k] := by
  simp only [cmF]; rw [if_pos ⟨hl, h⟩]
theorem cmF_full {lo : Int} {p : Nat → Bool} {k : Nat} (h : ¬ (cmF lo p k).length < 20) : ∀ n, k ≤ n → cmF lo p n = cmF lo p k := by
  intro n
  induction n with
  | zero => intro hk; obtain rfl : k = 0 := by omega
            rfl
  | succ n ih =>
    intro hk
    by_cases e : k = n + 1
    · rw [e]
    · have h1 := ih (by omega)
      simp only [cmF]
      rw [h1, if_neg (by omega)]
def mxI (a b : Int) : Int := if a < b then b else a
def mnI (a b : Int) : Int := if b < a then b else a
theorem l1MostI (a b : Int) (w : World) :
    Calls Try.prog 96 #[.int .i64 a, .int .i64 b] w fun e w' => e = .returned (.int .i64 (mxI a b)) ∧ w = w' := by
  unfold mxI
  go_enter Try.func96, Try.ntmps96
  go_wp2
  all_goals
    go_ret
    refine ⟨congrArg (fun x => Ending.returned (Value.int .i64 x)) ?_, rfl⟩
    first | rfl | omega | (simp; omega)
theorem l1LeastI (a b : Int) (w : World) :
    Calls Try.prog 97 #[.int .i64 a, .int .i64 b] w fun e w' => e = .returned (.int .i64 (mnI a b)) ∧ w = w' := by
  unfold mnI
  go_enter Try.func97, Try.ntmps97
  go_wp2
  all_goals
    go_ret
    refine ⟨congrArg (fun x => Ending.returned (Value.int .i64 x)) ?_, rfl⟩
    first | rfl | omega | (simp; omega)
/-- Do both calendars run on a day? -/
def bothB (f t d : Int) (us vs : List Int) (f' t' d' : Int) (us' vs' : List Int) (lo : Int) (k : Nat) : Bool := runB f t d us vs (lo + k) && runB f' t' d' us' vs' (lo + k)
/-- What CommonDays returns. -/
def cdB (f t d : Int) (us vs : List Int) (f' t' d' : Int) (us' vs' : List Int) : Bool := calB f t d us vs && calB f' t' d' us' vs'
def cdI (f t d : Int) (us vs : List Int) (f' t' d' : Int) (us' vs' : List Int) : List Int :=
  if cdB f t d us vs f' t' d' us' vs' = true then cmF (mxI f f') (bothB f t d us vs f' t' d' us' vs' (mxI f f')) (mnI t t' + 1 - mxI f f').toNat else []
theorem cdI_no {f t d : Int} {us vs : List Int} {f' t' d' : Int} {us' vs' : List Int} (h : cdB f t d us vs f' t' d' us' vs' = false) : cdI f t d us vs f' t' d' us' vs' = [] := by unfold cdI; rw [h]; rfl
theorem cdI_yes {f t d : Int} {us vs : List Int} {f' t' d' : Int} {us' vs' : List Int} (h : cdB f t d us vs f' t' d' us' vs' = true) : cdI f t d us vs f' t' d' us' vs' = cmF (mxI f f') (bothB f t d us vs f' t' d' us' vs' (mxI f f')) (mnI t t' + 1 - mxI f f').toNat := by unfold cdI; rw [h]; rfl
theorem cdI_len (f t d : Int) (us vs : List Int) (f' t' d' : Int) (us' vs' : List Int) : (cdI f t d us vs f' t' d' us' vs').length ≤ 20 := by
  unfold cdI
  split
  · exact cmF_len _ _ _
  · simp

set_option maxRecDepth 100000 in
set_option maxHeartbeats 4000000 in
theorem specCommonDays_any (f t d : Int) (A R : Option Addr) (ca cr : Nat) (us vs : List Int) (f' t' d' : Int) (A' R' : Option Addr) (ca' cr' : Nat) (us' vs' : List Int) (w : World) (h1 : IntsIn w (Zone.below w.heap.size) A us) (h2 : IntsIn w (Zone.below w.heap.size) R vs) (h3 : IntsIn w (Zone.below w.heap.size) A' us') (h4 : IntsIn w (Zone.below w.heap.size) R' vs')
    (hn : us.length ≤ 1048576) (hm : vs.length ≤ 1048576) (hn' : us'.length ≤ 1048576) (hm' : vs'.length ≤ 1048576) :
    Calls Try.prog 40 #[.agg #[.int .i64 f, .int .i64 t, .int .i64 d, .slice A us.length ca, .slice R vs.length cr], .agg #[.int .i64 f', .int .i64 t', .int .i64 d', .slice A' us'.length ca', .slice R' vs'.length cr']] w (RetInts (cdI f t d us vs f' t' d' us' vs') (cdB f t d us vs f' t' d' us' vs') w) := by
  have hb0 : Below w.heap.size w (((w.alloc (.cells #[.int .i64 f, .int .i64 t, .int .i64 d, .slice A us.length ca, .slice R vs.length cr] 55)).alloc (.cells #[.int .i64 f', .int .i64 t', .int .i64 d', .slice A' us'.length ca', .slice R' vs'.length cr'] 55)).alloc (.cells #[] 3)) := by go_grown
  have H0 : Hid (CalBox w (((w.alloc (.cells #[.int .i64 f, .int .i64 t, .int .i64 d, .slice A us.length ca, .slice R vs.length cr] 55)).alloc (.cells #[.int .i64 f', .int .i64 t', .int .i64 d', .slice A' us'.length ca', .slice R' vs'.length cr'] 55)).alloc (.cells #[] 3)) w.heap.size f t d us vs A ca R cr) := Lib.hid ⟨hb0, ⟨by go_simp, by go_simp, by go_simp, by go_simp, by go_simp⟩, h1.at_below hb0, h2.at_below hb0, by simp <;> omega, Nat.le_refl _⟩
  have K0 : Hid (CalBox w (((w.alloc (.cells #[.int .i64 f, .int .i64 t, .int .i64 d, .slice A us.length ca, .slice R vs.length cr] 55)).alloc (.cells #[.int .i64 f', .int .i64 t', .int .i64 d', .slice A' us'.length ca', .slice R' vs'.length cr'] 55)).alloc (.cells #[] 3)) (w.heap.size + 1) f' t' d' us' vs' A' ca' R' cr') := Lib.hid ⟨hb0, ⟨by go_simp, by go_simp, by go_simp, by go_simp, by go_simp⟩, h3.at_below hb0, h4.at_below hb0, by simp <;> omega, by omega⟩
  have O0 : Hid (OwnI (((w.alloc (.cells #[.int .i64 f, .int .i64 t, .int .i64 d, .slice A us.length ca, .slice R vs.length cr] 55)).alloc (.cells #[.int .i64 f', .int .i64 t', .int .i64 d', .slice A' us'.length ca', .slice R' vs'.length cr'] 55)).alloc (.cells #[] 3)) (w.heap.size + 1 + 1) (.slice (some ⟨w.heap.size + 1 + 1, 0, none⟩) 0 0) []) := Lib.hid (by simpa using OwnE.empty (e := 3) (m := 1) (enc := encI) (w := (w.alloc (.cells #[.int .i64 f, .int .i64 t, .int .i64 d, .slice A us.length ca, .slice R vs.length cr] 55)).alloc (.cells #[.int .i64 f', .int .i64 t', .int .i64 d', .slice A' us'.length ca', .slice R' vs'.length cr'] 55)) (Nat.le_refl _))
  have hz0 : w.heap.size + 1 + 1 ≤ (((w.alloc (.cells #[.int .i64 f, .int .i64 t, .int .i64 d, .slice A us.length ca, .slice R vs.length cr] 55)).alloc (.cells #[.int .i64 f', .int .i64 t', .int .i64 d', .slice A' us'.length ca', .slice R' vs'.length cr'] 55)).alloc (.cells #[] 3)).heap.size := by simp
  clear h1 h2 h3 h4 hb0
  cases g1 : calB f t d us vs
  · have hcd : cdB f t d us vs f' t' d' us' vs' = false := by unfold cdB; rw [g1]; rfl
    have HN := Lib.hid (And.intro (cdI_no hcd) hcd)
    clear hcd
    go_enter Try.func40, Try.ntmps40
    go_wp2_with fail
    generalize (((w.alloc (.cells #[.int .i64 f, .int .i64 t, .int .i64 d, .slice A us.length ca, .slice R vs.length cr] 55)).alloc (.cells #[.int .i64 f', .int .i64 t', .int .i64 d', .slice A' us'.length ca', .slice R' vs'.length cr'] 55)).alloc (.cells #[] 3)) = w0 at *
    refine (l3Good_any f t d _ _ _ _ us vs _ H0.out.usA H0.out.vsA hn hm).mono ?_
    rintro e w1 ⟨rfl, hb⟩
    have H1 := Lib.hid (H0.out.call hb)
    have K1 := Lib.hid (K0.out.call hb)
    have O1 := Lib.hid (O0.out.call hb)
    have hz1 : w.heap.size + 1 + 1 ≤ w1.heap.size := Nat.le_trans hz0 hb.size
    clear hb
    (try clear c0 c1 c2 c3 c4 k0 k1 k2 k3 k4)
    obtain ⟨c0, c1, c2, c3, c4⟩ := H1.out.cells
    obtain ⟨k0, k1, k2, k3, k4⟩ := K1.out.cells
    go_wp2_with fail
    go_ret2
    rw [HN.out.1, HN.out.2]
    exact O1.out.ret (by omega) H1.out.bel
  cases g2 : calB f' t' d' us' vs'
  · have hcd : cdB f t d us vs f' t' d' us' vs' = false := by unfold cdB; rw [g1, g2]; rfl
    have HN := Lib.hid (And.intro (cdI_no hcd) hcd)
    clear hcd
    go_enter Try.func40, Try.ntmps40
    go_wp2_with fail
    generalize (((w.alloc (.cells #[.int .i64 f, .int .i64 t, .int .i64 d, .slice A us.length ca, .slice R vs.length cr] 55)).alloc (.cells #[.int .i64 f', .int .i64 t', .int .i64 d', .slice A' us'.length ca', .slice R' vs'.length cr'] 55)).alloc (.cells #[] 3)) = w0 at *
    refine (l3Good_any f t d _ _ _ _ us vs _ H0.out.usA H0.out.vsA hn hm).mono ?_
    rintro e w1 ⟨rfl, hb⟩
    have H1 := Lib.hid (H0.out.call hb)
    have K1 := Lib.hid (K0.out.call hb)
    have O1 := Lib.hid (O0.out.call hb)
    have hz1 : w.heap.size + 1 + 1 ≤ w1.heap.size := Nat.le_trans hz0 hb.size
    clear hb
    (try clear c0 c1 c2 c3 c4 k0 k1 k2 k3 k4)
    obtain ⟨c0, c1, c2, c3, c4⟩ := H1.out.cells
    obtain ⟨k0, k1, k2, k3, k4⟩ := K1.out.cells
    go_wp2_with fail
    skip
    refine (l3Good_any f' t' d' _ _ _ _ us' vs' _ K1.out.usA K1.out.vsA hn' hm').mono ?_
    rintro e w2 ⟨rfl, hb⟩
    have H2 := Lib.hid (H1.out.call hb)
    have K2 := Lib.hid (K1.out.call hb)
    have O2 := Lib.hid (O1.out.call hb)
    have hz2 : w.heap.size + 1 + 1 ≤ w2.heap.size := Nat.le_trans hz1 hb.size
    clear hb
    (try clear c0 c1 c2 c3 c4 k0 k1 k2 k3 k4)
    obtain ⟨c0, c1, c2, c3, c4⟩ := H2.out.cells
    obtain ⟨k0, k1, k2, k3, k4⟩ := K2.out.cells
    go_wp2_with fail
    go_ret2
    rw [HN.out.1, HN.out.2]
    exact O2.out.ret (by omega) H2.out.bel
  have hcd : cdB f t d us vs f' t' d' us' vs' = true := by unfold cdB; rw [g1, g2]; rfl
  have HY := Lib.hid (And.intro (cdI_yes hcd) hcd)
  clear hcd
  have HO1 := Lib.hid (calB_ok g1)
  have HO2 := Lib.hid (calB_ok g2)
  have q1 := HO1.out.1
  have q2 := HO2.out.1
  unfold HeadB at q1 q2
  obtain ⟨q11, q12, q13, q14, q15, _, _⟩ := q1
  obtain ⟨q21, q22, q23, q24, q25, _, _⟩ := q2
  obtain ⟨LO, hLO⟩ : ∃ x, x = mxI f f' := ⟨_, rfl⟩
  obtain ⟨HI, hHI⟩ : ∃ x, x = mnI t t' := ⟨_, rfl⟩
  have HL := Lib.hid hLO.symm
  have HH := Lib.hid hHI.symm
  have b1 : 0 ≤ LO ∧ LO ≤ 3650 := by rw [hLO]; unfold mxI; split <;> omega
  have b2 : HI ≤ 3650 ∧ 0 ≤ HI := by rw [hHI]; unfold mnI; split <;> omega
  obtain ⟨b11, b12⟩ := b1
  obtain ⟨b21, b22⟩ := b2
  clear hLO hHI
  go_enter Try.func40, Try.ntmps40
  go_wp2_with fail
  generalize (((w.alloc (.cells #[.int .i64 f, .int .i64 t, .int .i64 d, .slice A us.length ca, .slice R vs.length cr] 55)).alloc (.cells #[.int .i64 f', .int .i64 t', .int .i64 d', .slice A' us'.length ca', .slice R' vs'.length cr'] 55)).alloc (.cells #[] 3)) = w0 at *
  refine (l3Good_any f t d _ _ _ _ us vs _ H0.out.usA H0.out.vsA hn hm).mono ?_
  rintro e w1 ⟨rfl, hb⟩
  have H1 := Lib.hid (H0.out.call hb)
  have K1 := Lib.hid (K0.out.call hb)
  have O1 := Lib.hid (O0.out.call hb)
  have hz1 : w.heap.size + 1 + 1 ≤ w1.heap.size := Nat.le_trans hz0 hb.size
  clear hb
  (try clear c0 c1 c2 c3 c4 k0 k1 k2 k3 k4)
  obtain ⟨c0, c1, c2, c3, c4⟩ := H1.out.cells
  obtain ⟨k0, k1, k2, k3, k4⟩ := K1.out.cells
  go_wp2_with fail
  skip
  refine (l3Good_any f' t' d' _ _ _ _ us' vs' _ K1.out.usA K1.out.vsA hn' hm').mono ?_
  rintro e w2 ⟨rfl, hb⟩
  have H2 := Lib.hid (H1.out.call hb)
  have K2 := Lib.hid (K1.out.call hb)
  have O2 := Lib.hid (O1.out.call hb)
  have hz2 : w.heap.size + 1 + 1 ≤ w2.heap.size := Nat.le_trans hz1 hb.size
  clear hb
  (try clear c0 c1 c2 c3 c4 k0 k1 k2 k3 k4)
  obtain ⟨c0, c1, c2, c3, c4⟩ := H2.out.cells
  obtain ⟨k0, k1, k2, k3, k4⟩ := K2.out.cells
  go_wp2_with (first | (go_at_call 96; refine (l1MostI _ _ _).mono ?_; rintro e wl ⟨rfl, rfl⟩; rw [HL.out]) | fail)
  clear c0 c1 c2 c3 c4 k0 k1 k2 k3 k4
  go_loopw [6, 7] (fun v i wr => ∃ k : Nat, k ≤ (HI + 1 - LO).toNat ∧ i = .int .i64 (LO + k) ∧ OwnI wr (w.heap.size + 1 + 1) v (cmF LO (bothB f t d us vs f' t' d' us' vs' LO) k) ∧ Below (w.heap.size + 1 + 1) w2 wr) (fun _ i _ => (HI + 1 - intOf i).toNat)
  case atStart => exact ⟨0, Nat.zero_le _, by go_num, O2.out, Below.refl _ _⟩
  case round =>
    obtain ⟨k, hk, rfl, ho, hb⟩ := hrel
    have O3 := Lib.hid ho
    have H3 := Lib.hid (H2.out.callB hb (by omega))
    have K3 := Lib.hid (K2.out.callB hb (by omega))
    have HB := Lib.hid hb
    have hz3 : w.heap.size + 1 + 1 ≤ wr.heap.size := Nat.le_trans hz2 hb.size
    have hcl := cmF_len LO (bothB f t d us vs f' t' d' us' vs' LO) k
    clear ho hb
    obtain ⟨A3, c3', rfl, hA1, hA2, _⟩ := O3.out.ints
    obtain ⟨c0, c1, c2, c3, c4⟩ := H3.out.cells
    obtain ⟨k0, k1, k2, k3, k4⟩ := K3.out.cells
    by_cases hle : LO + k ≤ HI
    · by_cases hlen : (cmF LO (bothB f t d us vs f' t' d' us' vs' LO) k).length < 20
      · cases r1 : runB f t d us vs (LO + k)
        · have hr : (bothB f t d us vs f' t' d' us' vs' LO) k = false := by unfold bothB; rw [r1]; rfl
          have HS : Hid (cmF LO (bothB f t d us vs f' t' d' us' vs' LO) (k + 1) = cmF LO (bothB f t d us vs f' t' d' us' vs' LO) k) := Lib.hid (cmF_no hr)
          clear hr
          go_wp2_with (first | (go_at_call 97; refine (l1LeastI _ _ _).mono ?_; rintro e wl ⟨rfl, rfl⟩; rw [HH.out]) | fail)
          refine (l3RunsC _ _ _ _ _ _ _ us vs _ _ H3.out.usA H3.out.vsA hn hm HO1.out (by omega) (by omega)).mono ?_
          rintro e w3 ⟨rfl, hb⟩
          have H4 := Lib.hid (H3.out.call hb)
          have K4 := Lib.hid (K3.out.call hb)
          have O4 := Lib.hid (O3.out.call hb)
          have HB4 := Lib.hid (HB.out.trans (hb.mono (by omega)))
          have hz4 : w.heap.size + 1 + 1 ≤ w3.heap.size := Nat.le_trans hz3 hb.size
          clear hb c0 c1 c2 c3 c4 k0 k1 k2 k3 k4
          obtain ⟨k0, k1, k2, k3, k4⟩ := K4.out.cells
          go_wp2_with fail
          go_roundw
          case rel => exact ⟨k + 1, by omega, by go_num, by rw [HS.out]; exact O4.out, HB4.out⟩
          case measure => simp [intOf]; omega
        · cases r2 : runB f' t' d' us' vs' (LO + k)
          · have hr : (bothB f t d us vs f' t' d' us' vs' LO) k = false := by unfold bothB; rw [r1, r2]; rfl
            have HS : Hid (cmF LO (bothB f t d us vs f' t' d' us' vs' LO) (k + 1) = cmF LO (bothB f t d us vs f' t' d' us' vs' LO) k) := Lib.hid (cmF_no hr)
            clear hr
            go_wp2_with (first | (go_at_call 97; refine (l1LeastI _ _ _).mono ?_; rintro e wl ⟨rfl, rfl⟩; rw [HH.out]) | fail)
            refine (l3RunsC _ _ _ _ _ _ _ us vs _ _ H3.out.usA H3.out.vsA hn hm HO1.out (by omega) (by omega)).mono ?_
            rintro e w3 ⟨rfl, hb⟩
            have H4 := Lib.hid (H3.out.call hb)
            have K4 := Lib.hid (K3.out.call hb)
            have O4 := Lib.hid (O3.out.call hb)
            have HB4 := Lib.hid (HB.out.trans (hb.mono (by omega)))
            have hz4 : w.heap.size + 1 + 1 ≤ w3.heap.size := Nat.le_trans hz3 hb.size
            clear hb c0 c1 c2 c3 c4 k0 k1 k2 k3 k4
            obtain ⟨k0, k1, k2, k3, k4⟩ := K4.out.cells
            go_wp2_with fail
            refine (l3RunsC _ _ _ _ _ _ _ us' vs' _ _ K4.out.usA K4.out.vsA hn' hm' HO2.out (by omega) (by omega)).mono ?_
            rintro e w4 ⟨rfl, hb⟩
            have O5 := Lib.hid (O4.out.call hb)
            have HB5 := Lib.hid (HB4.out.trans (hb.mono (by omega)))
            have hz5 : w.heap.size + 1 + 1 ≤ w4.heap.size := Nat.le_trans hz4 hb.size
            clear hb k0 k1 k2 k3 k4
            go_wp2_with fail
            go_roundw
            case rel => exact ⟨k + 1, by omega, by go_num, by rw [HS.out]; exact O5.out, HB5.out⟩
            case measure => simp [intOf]; omega
          · have hr : (bothB f t d us vs f' t' d' us' vs' LO) k = true := by unfold bothB; rw [r1, r2]; rfl
            have HS : Hid (cmF LO (bothB f t d us vs f' t' d' us' vs' LO) (k + 1) = cmF LO (bothB f t d us vs f' t' d' us' vs' LO) k ++ [LO + k]) := Lib.hid (cmF_yes hr hlen)
            clear hr
            go_wp2_with (first | (go_at_call 97; refine (l1LeastI _ _ _).mono ?_; rintro e wl ⟨rfl, rfl⟩; rw [HH.out]) | fail)
            refine (l3RunsC _ _ _ _ _ _ _ us vs _ _ H3.out.usA H3.out.vsA hn hm HO1.out (by omega) (by omega)).mono ?_
            rintro e w3 ⟨rfl, hb⟩
            have H4 := Lib.hid (H3.out.call hb)
            have K4 := Lib.hid (K3.out.call hb)
            have O4 := Lib.hid (O3.out.call hb)
            have HB4 := Lib.hid (HB.out.trans (hb.mono (by omega)))
            have hz4 : w.heap.size + 1 + 1 ≤ w3.heap.size := Nat.le_trans hz3 hb.size
            clear hb c0 c1 c2 c3 c4 k0 k1 k2 k3 k4
            obtain ⟨k0, k1, k2, k3, k4⟩ := K4.out.cells
            go_wp2_with fail
            refine (l3RunsC _ _ _ _ _ _ _ us' vs' _ _ K4.out.usA K4.out.vsA hn' hm' HO2.out (by omega) (by omega)).mono ?_
            rintro e w4 ⟨rfl, hb⟩
            have O5 := Lib.hid (O4.out.call hb)
            have HB5 := Lib.hid (HB4.out.trans (hb.mono (by omega)))
            have hz5 : w.heap.size + 1 + 1 ≤ w4.heap.size := Nat.le_trans hz4 hb.size
            clear hb k0 k1 k2 k3 k4
            go_wp2_with (at_builtin; refine wp_appI rfl _ _ rfl (w.heap.size + 1 + 1) _ (cmF LO (bothB f t d us vs f' t' d' us' vs' LO) k) (LO + k) _ O5.out rfl _ rfl (by simp) (by omega) (by omega) ?_; intro v' w' ho' hb'; have O6 := Lib.hid ho'; have HB6 := Lib.hid (HB5.out.trans hb'); clear ho' hb')
            go_roundw
            case rel => exact ⟨k + 1, by omega, by go_num, by rw [HS.out]; exact O6.out, HB6.out⟩
            case measure => simp [intOf]; omega
      · have HF : Hid (cmF LO (bothB f t d us vs f' t' d' us' vs' LO) (HI + 1 - LO).toNat = cmF LO (bothB f t d us vs f' t' d' us' vs' LO) k) := Lib.hid (cmF_full hlen _ hk)
        go_wp2_with (first | (go_at_call 97; refine (l1LeastI _ _ _).mono ?_; rintro e wl ⟨rfl, rfl⟩; rw [HH.out]) | fail)
        go_ret2
        rw [HY.out.1, HY.out.2, HL.out, HH.out, HF.out]
        exact O3.out.ret (by omega) H3.out.bel
    · have HF : Hid (cmF LO (bothB f t d us vs f' t' d' us' vs' LO) (HI + 1 - LO).toNat = cmF LO (bothB f t d us vs f' t' d' us' vs' LO) k) := Lib.hid (by rw [show (HI + 1 - LO).toNat = k by omega])
      go_wp2_with (first | (go_at_call 97; refine (l1LeastI _ _ _).mono ?_; rintro e wl ⟨rfl, rfl⟩; rw [HH.out]) | fail)
      go_ret2
      rw [HY.out.1, HY.out.2, HL.out, HH.out, HF.out]
      exact O3.out.ret (by omega) H3.out.bel

end Go.Proofs.Ytbneigkgdjcnjaa
