/- CommonDays: the program's contract. -/
import Derived.Test.YtbneigkgdjcnjaaCmd
namespace Go.Proofs.Ytbneigkgdjcnjaa
open Go.ChangeShapes Go.WideShapes Go.ChangeAt Go.RowKit Go.PlainAid
set_option linter.unusedVariables false

set_option maxRecDepth 100000 in
set_option maxHeartbeats 4000000 in
theorem implCommonDays_any (f t d : Int) (A R : Option Addr) (ca cr : Nat) (us vs : List Int) (f' t' d' : Int) (A' R' : Option Addr) (ca' cr' : Nat) (us' vs' : List Int) (w : World) (h1 : IntsIn w (Zone.below w.heap.size) A us) (h2 : IntsIn w (Zone.below w.heap.size) R vs) (h3 : IntsIn w (Zone.below w.heap.size) A' us') (h4 : IntsIn w (Zone.below w.heap.size) R' vs')
    (hn : us.length ≤ 1048576) (hm : vs.length ≤ 1048576) (hn' : us'.length ≤ 1048576) (hm' : vs'.length ≤ 1048576) :
    Calls Try.prog 42 #[.agg #[.int .i64 f, .int .i64 t, .int .i64 d, .slice A us.length ca, .slice R vs.length cr], .agg #[.int .i64 f', .int .i64 t', .int .i64 d', .slice A' us'.length ca', .slice R' vs'.length cr']] w (RetInts (cdI f t d us vs f' t' d' us' vs') (cdB f t d us vs f' t' d' us' vs') w) := by
  have hb0 : Below w.heap.size w ((w.alloc (.cells #[.int .i64 f, .int .i64 t, .int .i64 d, .slice A us.length ca, .slice R vs.length cr] 55)).alloc (.cells #[.int .i64 f', .int .i64 t', .int .i64 d', .slice A' us'.length ca', .slice R' vs'.length cr'] 55)) := by go_grown
  have H0 : Hid (CalBox w ((w.alloc (.cells #[.int .i64 f, .int .i64 t, .int .i64 d, .slice A us.length ca, .slice R vs.length cr] 55)).alloc (.cells #[.int .i64 f', .int .i64 t', .int .i64 d', .slice A' us'.length ca', .slice R' vs'.length cr'] 55)) w.heap.size f t d us vs A ca R cr) := Lib.hid ⟨hb0, ⟨by go_simp, by go_simp, by go_simp, by go_simp, by go_simp⟩, h1.at_below hb0, h2.at_below hb0, by simp <;> omega, Nat.le_refl _⟩
  have K0 : Hid (CalBox w ((w.alloc (.cells #[.int .i64 f, .int .i64 t, .int .i64 d, .slice A us.length ca, .slice R vs.length cr] 55)).alloc (.cells #[.int .i64 f', .int .i64 t', .int .i64 d', .slice A' us'.length ca', .slice R' vs'.length cr'] 55)) (w.heap.size + 1) f' t' d' us' vs' A' ca' R' cr') := Lib.hid ⟨hb0, ⟨by go_simp, by go_simp, by go_simp, by go_simp, by go_simp⟩, h3.at_below hb0, h4.at_below hb0, by simp <;> omega, by omega⟩
  have O0 : Hid (OwnI ((w.alloc (.cells #[.int .i64 f, .int .i64 t, .int .i64 d, .slice A us.length ca, .slice R vs.length cr] 55)).alloc (.cells #[.int .i64 f', .int .i64 t', .int .i64 d', .slice A' us'.length ca', .slice R' vs'.length cr'] 55)) (w.heap.size + 1 + 1) (.slice none 0 0) []) := Lib.hid OwnE.nil
  have hz0 : w.heap.size + 1 + 1 ≤ ((w.alloc (.cells #[.int .i64 f, .int .i64 t, .int .i64 d, .slice A us.length ca, .slice R vs.length cr] 55)).alloc (.cells #[.int .i64 f', .int .i64 t', .int .i64 d', .slice A' us'.length ca', .slice R' vs'.length cr'] 55)).heap.size := by simp
  clear h1 h2 h3 h4 hb0
  cases g1 : calB f t d us vs
  · have hcd : cdB f t d us vs f' t' d' us' vs' = false := by unfold cdB; rw [g1]; rfl
    have HN := Lib.hid (And.intro (cdI_no hcd) hcd)
    clear hcd
    go_enter Try.func42, Try.ntmps42
    go_wp2_with fail
    generalize ((w.alloc (.cells #[.int .i64 f, .int .i64 t, .int .i64 d, .slice A us.length ca, .slice R vs.length cr] 55)).alloc (.cells #[.int .i64 f', .int .i64 t', .int .i64 d', .slice A' us'.length ca', .slice R' vs'.length cr'] 55)) = w0 at *
    refine (isValidCalendar_any f t d _ _ _ _ us vs _ H0.out.usA H0.out.vsA hn hm).mono ?_
    rintro e w1 ⟨rfl, hb⟩
    have H1 := Lib.hid (H0.out.call hb)
    have K1 := Lib.hid (K0.out.call hb)
    have O1 := Lib.hid (O0.out.call hb)
    have hz1 : w.heap.size + 1 + 1 ≤ w1.heap.size := Nat.le_trans hz0 hb.size
    clear hb
    (try clear c0 c1 c2 c3 c4 k0 k1 k2 k3 k4)
    obtain ⟨c0, c1, c2, c3, c4⟩ := H1.out.cells
    obtain ⟨k0, k1, k2, k3, k4⟩ := K1.out.cells
    go_wp2_with fail
    go_ret2
    rw [HN.out.1, HN.out.2]
    exact O1.out.ret (by omega) H1.out.bel
  cases g2 : calB f' t' d' us' vs'
  · have hcd : cdB f t d us vs f' t' d' us' vs' = false := by unfold cdB; rw [g1, g2]; rfl
    have HN := Lib.hid (And.intro (cdI_no hcd) hcd)
    clear hcd
    go_enter Try.func42, Try.ntmps42
    go_wp2_with fail
    generalize ((w.alloc (.cells #[.int .i64 f, .int .i64 t, .int .i64 d, .slice A us.length ca, .slice R vs.length cr] 55)).alloc (.cells #[.int .i64 f', .int .i64 t', .int .i64 d', .slice A' us'.length ca', .slice R' vs'.length cr'] 55)) = w0 at *
    refine (isValidCalendar_any f t d _ _ _ _ us vs _ H0.out.usA H0.out.vsA hn hm).mono ?_
    rintro e w1 ⟨rfl, hb⟩
    have H1 := Lib.hid (H0.out.call hb)
    have K1 := Lib.hid (K0.out.call hb)
    have O1 := Lib.hid (O0.out.call hb)
    have hz1 : w.heap.size + 1 + 1 ≤ w1.heap.size := Nat.le_trans hz0 hb.size
    clear hb
    (try clear c0 c1 c2 c3 c4 k0 k1 k2 k3 k4)
    obtain ⟨c0, c1, c2, c3, c4⟩ := H1.out.cells
    obtain ⟨k0, k1, k2, k3, k4⟩ := K1.out.cells
    go_wp2_with fail
    skip
    refine (isValidCalendar_any f' t' d' _ _ _ _ us' vs' _ K1.out.usA K1.out.vsA hn' hm').mono ?_
    rintro e w2 ⟨rfl, hb⟩
    have H2 := Lib.hid (H1.out.call hb)
    have K2 := Lib.hid (K1.out.call hb)
    have O2 := Lib.hid (O1.out.call hb)
    have hz2 : w.heap.size + 1 + 1 ≤ w2.heap.size := Nat.le_trans hz1 hb.size
    clear hb
    (try clear c0 c1 c2 c3 c4 k0 k1 k2 k3 k4)
    obtain ⟨c0, c1, c2, c3, c4⟩ := H2.out.cells
    obtain ⟨k0, k1, k2, k3, k4⟩ := K2.out.cells
    go_wp2_with fail
    go_ret2
    rw [HN.out.1, HN.out.2]
    exact O2.out.ret (by omega) H2.out.bel
  have hcd : cdB f t d us vs f' t' d' us' vs' = true := by unfold cdB; rw [g1, g2]; rfl
  have HY := Lib.hid (And.intro (cdI_yes hcd) hcd)
  clear hcd
  have HO1 := Lib.hid (calB_ok g1)
  have HO2 := Lib.hid (calB_ok g2)
  have q1 := HO1.out.1
  have q2 := HO2.out.1
  unfold HeadB at q1 q2
  obtain ⟨q11, q12, q13, q14, q15, _, _⟩ := q1
  obtain ⟨q21, q22, q23, q24, q25, _, _⟩ := q2
  by_cases hlo : f < f'
  · by_cases hhi : t' < t
    · have HL : Hid (mxI f f' = f') := Lib.hid (by unfold mxI; rw [if_pos hlo])
      have HH : Hid (mnI t t' = t') := Lib.hid (by unfold mnI; rw [if_pos hhi])
      go_enter Try.func42, Try.ntmps42
      go_wp2_with fail
      generalize ((w.alloc (.cells #[.int .i64 f, .int .i64 t, .int .i64 d, .slice A us.length ca, .slice R vs.length cr] 55)).alloc (.cells #[.int .i64 f', .int .i64 t', .int .i64 d', .slice A' us'.length ca', .slice R' vs'.length cr'] 55)) = w0 at *
      refine (isValidCalendar_any f t d _ _ _ _ us vs _ H0.out.usA H0.out.vsA hn hm).mono ?_
      rintro e w1 ⟨rfl, hb⟩
      have H1 := Lib.hid (H0.out.call hb)
      have K1 := Lib.hid (K0.out.call hb)
      have O1 := Lib.hid (O0.out.call hb)
      have hz1 : w.heap.size + 1 + 1 ≤ w1.heap.size := Nat.le_trans hz0 hb.size
      clear hb
      (try clear c0 c1 c2 c3 c4 k0 k1 k2 k3 k4)
      obtain ⟨c0, c1, c2, c3, c4⟩ := H1.out.cells
      obtain ⟨k0, k1, k2, k3, k4⟩ := K1.out.cells
      go_wp2_with fail
      skip
      refine (isValidCalendar_any f' t' d' _ _ _ _ us' vs' _ K1.out.usA K1.out.vsA hn' hm').mono ?_
      rintro e w2 ⟨rfl, hb⟩
      have H2 := Lib.hid (H1.out.call hb)
      have K2 := Lib.hid (K1.out.call hb)
      have O2 := Lib.hid (O1.out.call hb)
      have hz2 : w.heap.size + 1 + 1 ≤ w2.heap.size := Nat.le_trans hz1 hb.size
      clear hb
      (try clear c0 c1 c2 c3 c4 k0 k1 k2 k3 k4)
      obtain ⟨c0, c1, c2, c3, c4⟩ := H2.out.cells
      obtain ⟨k0, k1, k2, k3, k4⟩ := K2.out.cells
      go_wp2_with fail
      clear c0 c1 c2 c3 c4 k0 k1 k2 k3 k4
      go_loopw [6, 7] (fun v i wr => ∃ k : Nat, k ≤ (t' + 1 - f').toNat ∧ i = .int .i64 (f' + k) ∧ OwnI wr (w.heap.size + 1 + 1) v (cmF f' (bothB f t d us vs f' t' d' us' vs' f') k) ∧ Below (w.heap.size + 1 + 1) w2 wr) (fun _ i _ => (t' + 1 - intOf i).toNat)
      case atStart => exact ⟨0, Nat.zero_le _, by go_num, O2.out, Below.refl _ _⟩
      case round =>
        obtain ⟨k, hk, rfl, ho, hb⟩ := hrel
        have O3 := Lib.hid ho
        have H3 := Lib.hid (H2.out.callB hb (by omega))
        have K3 := Lib.hid (K2.out.callB hb (by omega))
        have HB := Lib.hid hb
        have hz3 : w.heap.size + 1 + 1 ≤ wr.heap.size := Nat.le_trans hz2 hb.size
        have hcl := cmF_len f' (bothB f t d us vs f' t' d' us' vs' f') k
        clear ho hb
        obtain ⟨A3, c3', rfl, hA1, hA2, _⟩ := O3.out.ints
        obtain ⟨c0, c1, c2, c3, c4⟩ := H3.out.cells
        obtain ⟨k0, k1, k2, k3, k4⟩ := K3.out.cells
        by_cases hle : f' + k ≤ t'
        · by_cases hlen : (cmF f' (bothB f t d us vs f' t' d' us' vs' f') k).length < 20
          · cases r1 : runB f t d us vs (f' + k)
            · have hr : (bothB f t d us vs f' t' d' us' vs' f') k = false := by unfold bothB; rw [r1]; rfl
              have HS : Hid (cmF f' (bothB f t d us vs f' t' d' us' vs' f') (k + 1) = cmF f' (bothB f t d us vs f' t' d' us' vs' f') k) := Lib.hid (cmF_no hr)
              clear hr
              go_wp2_with (first | (go_at_call 97; refine (l1LeastI _ _ _).mono ?_; rintro e wl ⟨rfl, rfl⟩) | fail)
              refine (runsOnC _ _ _ _ _ _ _ us vs _ _ H3.out.usA H3.out.vsA hn hm HO1.out (by omega) (by omega)).mono ?_
              rintro e w3 ⟨rfl, hb⟩
              have H4 := Lib.hid (H3.out.call hb)
              have K4 := Lib.hid (K3.out.call hb)
              have O4 := Lib.hid (O3.out.call hb)
              have HB4 := Lib.hid (HB.out.trans (hb.mono (by omega)))
              have hz4 : w.heap.size + 1 + 1 ≤ w3.heap.size := Nat.le_trans hz3 hb.size
              clear hb c0 c1 c2 c3 c4 k0 k1 k2 k3 k4
              obtain ⟨k0, k1, k2, k3, k4⟩ := K4.out.cells
              go_wp2_with fail
              go_roundw
              case rel => exact ⟨k + 1, by omega, by go_num, by rw [HS.out]; exact O4.out, HB4.out⟩
              case measure => simp [intOf]; omega
            · cases r2 : runB f' t' d' us' vs' (f' + k)
              · have hr : (bothB f t d us vs f' t' d' us' vs' f') k = false := by unfold bothB; rw [r1, r2]; rfl
                have HS : Hid (cmF f' (bothB f t d us vs f' t' d' us' vs' f') (k + 1) = cmF f' (bothB f t d us vs f' t' d' us' vs' f') k) := Lib.hid (cmF_no hr)
                clear hr
                go_wp2_with (first | (go_at_call 97; refine (l1LeastI _ _ _).mono ?_; rintro e wl ⟨rfl, rfl⟩) | fail)
                refine (runsOnC _ _ _ _ _ _ _ us vs _ _ H3.out.usA H3.out.vsA hn hm HO1.out (by omega) (by omega)).mono ?_
                rintro e w3 ⟨rfl, hb⟩
                have H4 := Lib.hid (H3.out.call hb)
                have K4 := Lib.hid (K3.out.call hb)
                have O4 := Lib.hid (O3.out.call hb)
                have HB4 := Lib.hid (HB.out.trans (hb.mono (by omega)))
                have hz4 : w.heap.size + 1 + 1 ≤ w3.heap.size := Nat.le_trans hz3 hb.size
                clear hb c0 c1 c2 c3 c4 k0 k1 k2 k3 k4
                obtain ⟨k0, k1, k2, k3, k4⟩ := K4.out.cells
                go_wp2_with fail
                refine (runsOnC _ _ _ _ _ _ _ us' vs' _ _ K4.out.usA K4.out.vsA hn' hm' HO2.out (by omega) (by omega)).mono ?_
                rintro e w4 ⟨rfl, hb⟩
                have O5 := Lib.hid (O4.out.call hb)
                have HB5 := Lib.hid (HB4.out.trans (hb.mono (by omega)))
                have hz5 : w.heap.size + 1 + 1 ≤ w4.heap.size := Nat.le_trans hz4 hb.size
                clear hb k0 k1 k2 k3 k4
                go_wp2_with fail
                go_roundw
                case rel => exact ⟨k + 1, by omega, by go_num, by rw [HS.out]; exact O5.out, HB5.out⟩
                case measure => simp [intOf]; omega
              · have hr : (bothB f t d us vs f' t' d' us' vs' f') k = true := by unfold bothB; rw [r1, r2]; rfl
                have HS : Hid (cmF f' (bothB f t d us vs f' t' d' us' vs' f') (k + 1) = cmF f' (bothB f t d us vs f' t' d' us' vs' f') k ++ [f' + k]) := Lib.hid (cmF_yes hr hlen)
                clear hr
                go_wp2_with (first | (go_at_call 97; refine (l1LeastI _ _ _).mono ?_; rintro e wl ⟨rfl, rfl⟩) | fail)
                refine (runsOnC _ _ _ _ _ _ _ us vs _ _ H3.out.usA H3.out.vsA hn hm HO1.out (by omega) (by omega)).mono ?_
                rintro e w3 ⟨rfl, hb⟩
                have H4 := Lib.hid (H3.out.call hb)
                have K4 := Lib.hid (K3.out.call hb)
                have O4 := Lib.hid (O3.out.call hb)
                have HB4 := Lib.hid (HB.out.trans (hb.mono (by omega)))
                have hz4 : w.heap.size + 1 + 1 ≤ w3.heap.size := Nat.le_trans hz3 hb.size
                clear hb c0 c1 c2 c3 c4 k0 k1 k2 k3 k4
                obtain ⟨k0, k1, k2, k3, k4⟩ := K4.out.cells
                go_wp2_with fail
                refine (runsOnC _ _ _ _ _ _ _ us' vs' _ _ K4.out.usA K4.out.vsA hn' hm' HO2.out (by omega) (by omega)).mono ?_
                rintro e w4 ⟨rfl, hb⟩
                have O5 := Lib.hid (O4.out.call hb)
                have HB5 := Lib.hid (HB4.out.trans (hb.mono (by omega)))
                have hz5 : w.heap.size + 1 + 1 ≤ w4.heap.size := Nat.le_trans hz4 hb.size
                clear hb k0 k1 k2 k3 k4
                go_wp2_with (at_builtin; refine wp_appI rfl _ _ rfl (w.heap.size + 1 + 1) _ (cmF f' (bothB f t d us vs f' t' d' us' vs' f') k) (f' + k) _ O5.out rfl _ rfl (by simp) (by omega) (by omega) ?_; intro v' w' ho' hb'; have O6 := Lib.hid ho'; have HB6 := Lib.hid (HB5.out.trans hb'); clear ho' hb')
                go_roundw
                case rel => exact ⟨k + 1, by omega, by go_num, by rw [HS.out]; exact O6.out, HB6.out⟩
                case measure => simp [intOf]; omega
          · have HF : Hid (cmF f' (bothB f t d us vs f' t' d' us' vs' f') (t' + 1 - f').toNat = cmF f' (bothB f t d us vs f' t' d' us' vs' f') k) := Lib.hid (cmF_full hlen _ hk)
            go_wp2_with (first | (go_at_call 97; refine (l1LeastI _ _ _).mono ?_; rintro e wl ⟨rfl, rfl⟩) | fail)
            go_ret2
            rw [HY.out.1, HY.out.2, HL.out, HH.out, HF.out]
            exact O3.out.ret (by omega) H3.out.bel
        · have HF : Hid (cmF f' (bothB f t d us vs f' t' d' us' vs' f') (t' + 1 - f').toNat = cmF f' (bothB f t d us vs f' t' d' us' vs' f') k) := Lib.hid (by rw [show (t' + 1 - f').toNat = k by omega])
          go_wp2_with (first | (go_at_call 97; refine (l1LeastI _ _ _).mono ?_; rintro e wl ⟨rfl, rfl⟩) | fail)
          go_ret2
          rw [HY.out.1, HY.out.2, HL.out, HH.out, HF.out]
          exact O3.out.ret (by omega) H3.out.bel
    · have HL : Hid (mxI f f' = f') := Lib.hid (by unfold mxI; rw [if_pos hlo])
      have HH : Hid (mnI t t' = t) := Lib.hid (by unfold mnI; rw [if_neg hhi])
      go_enter Try.func42, Try.ntmps42
      go_wp2_with fail
      generalize ((w.alloc (.cells #[.int .i64 f, .int .i64 t, .int .i64 d, .slice A us.length ca, .slice R vs.length cr] 55)).alloc (.cells #[.int .i64 f', .int .i64 t', .int .i64 d', .slice A' us'.length ca', .slice R' vs'.length cr'] 55)) = w0 at *
      refine (isValidCalendar_any f t d _ _ _ _ us vs _ H0.out.usA H0.out.vsA hn hm).mono ?_
      rintro e w1 ⟨rfl, hb⟩
      have H1 := Lib.hid (H0.out.call hb)
      have K1 := Lib.hid (K0.out.call hb)
      have O1 := Lib.hid (O0.out.call hb)
      have hz1 : w.heap.size + 1 + 1 ≤ w1.heap.size := Nat.le_trans hz0 hb.size
      clear hb
      (try clear c0 c1 c2 c3 c4 k0 k1 k2 k3 k4)
      obtain ⟨c0, c1, c2, c3, c4⟩ := H1.out.cells
      obtain ⟨k0, k1, k2, k3, k4⟩ := K1.out.cells
      go_wp2_with fail
      skip
      refine (isValidCalendar_any f' t' d' _ _ _ _ us' vs' _ K1.out.usA K1.out.vsA hn' hm').mono ?_
      rintro e w2 ⟨rfl, hb⟩
      have H2 := Lib.hid (H1.out.call hb)
      have K2 := Lib.hid (K1.out.call hb)
      have O2 := Lib.hid (O1.out.call hb)
      have hz2 : w.heap.size + 1 + 1 ≤ w2.heap.size := Nat.le_trans hz1 hb.size
      clear hb
      (try clear c0 c1 c2 c3 c4 k0 k1 k2 k3 k4)
      obtain ⟨c0, c1, c2, c3, c4⟩ := H2.out.cells
      obtain ⟨k0, k1, k2, k3, k4⟩ := K2.out.cells
      go_wp2_with fail
      clear c0 c1 c2 c3 c4 k0 k1 k2 k3 k4
      go_loopw [6, 7] (fun v i wr => ∃ k : Nat, k ≤ (t + 1 - f').toNat ∧ i = .int .i64 (f' + k) ∧ OwnI wr (w.heap.size + 1 + 1) v (cmF f' (bothB f t d us vs f' t' d' us' vs' f') k) ∧ Below (w.heap.size + 1 + 1) w2 wr) (fun _ i _ => (t + 1 - intOf i).toNat)
      case atStart => exact ⟨0, Nat.zero_le _, by go_num, O2.out, Below.refl _ _⟩
      case round =>
        obtain ⟨k, hk, rfl, ho, hb⟩ := hrel
        have O3 := Lib.hid ho
        have H3 := Lib.hid (H2.out.callB hb (by omega))
        have K3 := Lib.hid (K2.out.callB hb (by omega))
        have HB := Lib.hid hb
        have hz3 : w.heap.size + 1 + 1 ≤ wr.heap.size := Nat.le_trans hz2 hb.size
        have hcl := cmF_len f' (bothB f t d us vs f' t' d' us' vs' f') k
        clear ho hb
        obtain ⟨A3, c3', rfl, hA1, hA2, _⟩ := O3.out.ints
        obtain ⟨c0, c1, c2, c3, c4⟩ := H3.out.cells
        obtain ⟨k0, k1, k2, k3, k4⟩ := K3.out.cells
        by_cases hle : f' + k ≤ t
        · by_cases hlen : (cmF f' (bothB f t d us vs f' t' d' us' vs' f') k).length < 20
          · cases r1 : runB f t d us vs (f' + k)
            · have hr : (bothB f t d us vs f' t' d' us' vs' f') k = false := by unfold bothB; rw [r1]; rfl
              have HS : Hid (cmF f' (bothB f t d us vs f' t' d' us' vs' f') (k + 1) = cmF f' (bothB f t d us vs f' t' d' us' vs' f') k) := Lib.hid (cmF_no hr)
              clear hr
              go_wp2_with (first | (go_at_call 97; refine (l1LeastI _ _ _).mono ?_; rintro e wl ⟨rfl, rfl⟩) | fail)
              refine (runsOnC _ _ _ _ _ _ _ us vs _ _ H3.out.usA H3.out.vsA hn hm HO1.out (by omega) (by omega)).mono ?_
              rintro e w3 ⟨rfl, hb⟩
              have H4 := Lib.hid (H3.out.call hb)
              have K4 := Lib.hid (K3.out.call hb)
              have O4 := Lib.hid (O3.out.call hb)
              have HB4 := Lib.hid (HB.out.trans (hb.mono (by omega)))
              have hz4 : w.heap.size + 1 + 1 ≤ w3.heap.size := Nat.le_trans hz3 hb.size
              clear hb c0 c1 c2 c3 c4 k0 k1 k2 k3 k4
              obtain ⟨k0, k1, k2, k3, k4⟩ := K4.out.cells
              go_wp2_with fail
              go_roundw
              case rel => exact ⟨k + 1, by omega, by go_num, by rw [HS.out]; exact O4.out, HB4.out⟩
              case measure => simp [intOf]; omega
            · cases r2 : runB f' t' d' us' vs' (f' + k)
              · have hr : (bothB f t d us vs f' t' d' us' vs' f') k = false := by unfold bothB; rw [r1, r2]; rfl
                have HS : Hid (cmF f' (bothB f t d us vs f' t' d' us' vs' f') (k + 1) = cmF f' (bothB f t d us vs f' t' d' us' vs' f') k) := Lib.hid (cmF_no hr)
                clear hr
                go_wp2_with (first | (go_at_call 97; refine (l1LeastI _ _ _).mono ?_; rintro e wl ⟨rfl, rfl⟩) | fail)
                refine (runsOnC _ _ _ _ _ _ _ us vs _ _ H3.out.usA H3.out.vsA hn hm HO1.out (by omega) (by omega)).mono ?_
                rintro e w3 ⟨rfl, hb⟩
                have H4 := Lib.hid (H3.out.call hb)
                have K4 := Lib.hid (K3.out.call hb)
                have O4 := Lib.hid (O3.out.call hb)
                have HB4 := Lib.hid (HB.out.trans (hb.mono (by omega)))
                have hz4 : w.heap.size + 1 + 1 ≤ w3.heap.size := Nat.le_trans hz3 hb.size
                clear hb c0 c1 c2 c3 c4 k0 k1 k2 k3 k4
                obtain ⟨k0, k1, k2, k3, k4⟩ := K4.out.cells
                go_wp2_with fail
                refine (runsOnC _ _ _ _ _ _ _ us' vs' _ _ K4.out.usA K4.out.vsA hn' hm' HO2.out (by omega) (by omega)).mono ?_
                rintro e w4 ⟨rfl, hb⟩
                have O5 := Lib.hid (O4.out.call hb)
                have HB5 := Lib.hid (HB4.out.trans (hb.mono (by omega)))
                have hz5 : w.heap.size + 1 + 1 ≤ w4.heap.size := Nat.le_trans hz4 hb.size
                clear hb k0 k1 k2 k3 k4
                go_wp2_with fail
                go_roundw
                case rel => exact ⟨k + 1, by omega, by go_num, by rw [HS.out]; exact O5.out, HB5.out⟩
                case measure => simp [intOf]; omega
              · have hr : (bothB f t d us vs f' t' d' us' vs' f') k = true := by unfold bothB; rw [r1, r2]; rfl
                have HS : Hid (cmF f' (bothB f t d us vs f' t' d' us' vs' f') (k + 1) = cmF f' (bothB f t d us vs f' t' d' us' vs' f') k ++ [f' + k]) := Lib.hid (cmF_yes hr hlen)
                clear hr
                go_wp2_with (first | (go_at_call 97; refine (l1LeastI _ _ _).mono ?_; rintro e wl ⟨rfl, rfl⟩) | fail)
                refine (runsOnC _ _ _ _ _ _ _ us vs _ _ H3.out.usA H3.out.vsA hn hm HO1.out (by omega) (by omega)).mono ?_
                rintro e w3 ⟨rfl, hb⟩
                have H4 := Lib.hid (H3.out.call hb)
                have K4 := Lib.hid (K3.out.call hb)
                have O4 := Lib.hid (O3.out.call hb)
                have HB4 := Lib.hid (HB.out.trans (hb.mono (by omega)))
                have hz4 : w.heap.size + 1 + 1 ≤ w3.heap.size := Nat.le_trans hz3 hb.size
                clear hb c0 c1 c2 c3 c4 k0 k1 k2 k3 k4
                obtain ⟨k0, k1, k2, k3, k4⟩ := K4.out.cells
                go_wp2_with fail
                refine (runsOnC _ _ _ _ _ _ _ us' vs' _ _ K4.out.usA K4.out.vsA hn' hm' HO2.out (by omega) (by omega)).mono ?_
                rintro e w4 ⟨rfl, hb⟩
                have O5 := Lib.hid (O4.out.call hb)
                have HB5 := Lib.hid (HB4.out.trans (hb.mono (by omega)))
                have hz5 : w.heap.size + 1 + 1 ≤ w4.heap.size := Nat.le_trans hz4 hb.size
                clear hb k0 k1 k2 k3 k4
                go_wp2_with (at_builtin; refine wp_appI rfl _ _ rfl (w.heap.size + 1 + 1) _ (cmF f' (bothB f t d us vs f' t' d' us' vs' f') k) (f' + k) _ O5.out rfl _ rfl (by simp) (by omega) (by omega) ?_; intro v' w' ho' hb'; have O6 := Lib.hid ho'; have HB6 := Lib.hid (HB5.out.trans hb'); clear ho' hb')
                go_roundw
                case rel => exact ⟨k + 1, by omega, by go_num, by rw [HS.out]; exact O6.out, HB6.out⟩
                case measure => simp [intOf]; omega
          · have HF : Hid (cmF f' (bothB f t d us vs f' t' d' us' vs' f') (t + 1 - f').toNat = cmF f' (bothB f t d us vs f' t' d' us' vs' f') k) := Lib.hid (cmF_full hlen _ hk)
            go_wp2_with (first | (go_at_call 97; refine (l1LeastI _ _ _).mono ?_; rintro e wl ⟨rfl, rfl⟩) | fail)
            go_ret2
            rw [HY.out.1, HY.out.2, HL.out, HH.out, HF.out]
            exact O3.out.ret (by omega) H3.out.bel
        · have HF : Hid (cmF f' (bothB f t d us vs f' t' d' us' vs' f') (t + 1 - f').toNat = cmF f' (bothB f t d us vs f' t' d' us' vs' f') k) := Lib.hid (by rw [show (t + 1 - f').toNat = k by omega])
          go_wp2_with (first | (go_at_call 97; refine (l1LeastI _ _ _).mono ?_; rintro e wl ⟨rfl, rfl⟩) | fail)
          go_ret2
          rw [HY.out.1, HY.out.2, HL.out, HH.out, HF.out]
          exact O3.out.ret (by omega) H3.out.bel
  · by_cases hhi : t' < t
    · have HL : Hid (mxI f f' = f) := Lib.hid (by unfold mxI; rw [if_neg hlo])
      have HH : Hid (mnI t t' = t') := Lib.hid (by unfold mnI; rw [if_pos hhi])
      go_enter Try.func42, Try.ntmps42
      go_wp2_with fail
      generalize ((w.alloc (.cells #[.int .i64 f, .int .i64 t, .int .i64 d, .slice A us.length ca, .slice R vs.length cr] 55)).alloc (.cells #[.int .i64 f', .int .i64 t', .int .i64 d', .slice A' us'.length ca', .slice R' vs'.length cr'] 55)) = w0 at *
      refine (isValidCalendar_any f t d _ _ _ _ us vs _ H0.out.usA H0.out.vsA hn hm).mono ?_
      rintro e w1 ⟨rfl, hb⟩
      have H1 := Lib.hid (H0.out.call hb)
      have K1 := Lib.hid (K0.out.call hb)
      have O1 := Lib.hid (O0.out.call hb)
      have hz1 : w.heap.size + 1 + 1 ≤ w1.heap.size := Nat.le_trans hz0 hb.size
      clear hb
      (try clear c0 c1 c2 c3 c4 k0 k1 k2 k3 k4)
      obtain ⟨c0, c1, c2, c3, c4⟩ := H1.out.cells
      obtain ⟨k0, k1, k2, k3, k4⟩ := K1.out.cells
      go_wp2_with fail
      skip
      refine (isValidCalendar_any f' t' d' _ _ _ _ us' vs' _ K1.out.usA K1.out.vsA hn' hm').mono ?_
      rintro e w2 ⟨rfl, hb⟩
      have H2 := Lib.hid (H1.out.call hb)
      have K2 := Lib.hid (K1.out.call hb)
      have O2 := Lib.hid (O1.out.call hb)
      have hz2 : w.heap.size + 1 + 1 ≤ w2.heap.size := Nat.le_trans hz1 hb.size
      clear hb
      (try clear c0 c1 c2 c3 c4 k0 k1 k2 k3 k4)
      obtain ⟨c0, c1, c2, c3, c4⟩ := H2.out.cells
      obtain ⟨k0, k1, k2, k3, k4⟩ := K2.out.cells
      go_wp2_with fail
      clear c0 c1 c2 c3 c4 k0 k1 k2 k3 k4
      go_loopw [6, 7] (fun v i wr => ∃ k : Nat, k ≤ (t' + 1 - f).toNat ∧ i = .int .i64 (f + k) ∧ OwnI wr (w.heap.size + 1 + 1) v (cmF f (bothB f t d us vs f' t' d' us' vs' f) k) ∧ Below (w.heap.size + 1 + 1) w2 wr) (fun _ i _ => (t' + 1 - intOf i).toNat)
      case atStart => exact ⟨0, Nat.zero_le _, by go_num, O2.out, Below.refl _ _⟩
      case round =>
        obtain ⟨k, hk, rfl, ho, hb⟩ := hrel
        have O3 := Lib.hid ho
        have H3 := Lib.hid (H2.out.callB hb (by omega))
        have K3 := Lib.hid (K2.out.callB hb (by omega))
        have HB := Lib.hid hb
        have hz3 : w.heap.size + 1 + 1 ≤ wr.heap.size := Nat.le_trans hz2 hb.size
        have hcl := cmF_len f (bothB f t d us vs f' t' d' us' vs' f) k
        clear ho hb
        obtain ⟨A3, c3', rfl, hA1, hA2, _⟩ := O3.out.ints
        obtain ⟨c0, c1, c2, c3, c4⟩ := H3.out.cells
        obtain ⟨k0, k1, k2, k3, k4⟩ := K3.out.cells
        by_cases hle : f + k ≤ t'
        · by_cases hlen : (cmF f (bothB f t d us vs f' t' d' us' vs' f) k).length < 20
          · cases r1 : runB f t d us vs (f + k)
            · have hr : (bothB f t d us vs f' t' d' us' vs' f) k = false := by unfold bothB; rw [r1]; rfl
              have HS : Hid (cmF f (bothB f t d us vs f' t' d' us' vs' f) (k + 1) = cmF f (bothB f t d us vs f' t' d' us' vs' f) k) := Lib.hid (cmF_no hr)
              clear hr
              go_wp2_with (first | (go_at_call 97; refine (l1LeastI _ _ _).mono ?_; rintro e wl ⟨rfl, rfl⟩) | fail)
              refine (runsOnC _ _ _ _ _ _ _ us vs _ _ H3.out.usA H3.out.vsA hn hm HO1.out (by omega) (by omega)).mono ?_
              rintro e w3 ⟨rfl, hb⟩
              have H4 := Lib.hid (H3.out.call hb)
              have K4 := Lib.hid (K3.out.call hb)
              have O4 := Lib.hid (O3.out.call hb)
              have HB4 := Lib.hid (HB.out.trans (hb.mono (by omega)))
              have hz4 : w.heap.size + 1 + 1 ≤ w3.heap.size := Nat.le_trans hz3 hb.size
              clear hb c0 c1 c2 c3 c4 k0 k1 k2 k3 k4
              obtain ⟨k0, k1, k2, k3, k4⟩ := K4.out.cells
              go_wp2_with fail
              go_roundw
              case rel => exact ⟨k + 1, by omega, by go_num, by rw [HS.out]; exact O4.out, HB4.out⟩
              case measure => simp [intOf]; omega
            · cases r2 : runB f' t' d' us' vs' (f + k)
              · have hr : (bothB f t d us vs f' t' d' us' vs' f) k = false := by unfold bothB; rw [r1, r2]; rfl
                have HS : Hid (cmF f (bothB f t d us vs f' t' d' us' vs' f) (k + 1) = cmF f (bothB f t d us vs f' t' d' us' vs' f) k) := Lib.hid (cmF_no hr)
                clear hr
                go_wp2_with (first | (go_at_call 97; refine (l1LeastI _ _ _).mono ?_; rintro e wl ⟨rfl, rfl⟩) | fail)
                refine (runsOnC _ _ _ _ _ _ _ us vs _ _ H3.out.usA H3.out.vsA hn hm HO1.out (by omega) (by omega)).mono ?_
                rintro e w3 ⟨rfl, hb⟩
                have H4 := Lib.hid (H3.out.call hb)
                have K4 := Lib.hid (K3.out.call hb)
                have O4 := Lib.hid (O3.out.call hb)
                have HB4 := Lib.hid (HB.out.trans (hb.mono (by omega)))
                have hz4 : w.heap.size + 1 + 1 ≤ w3.heap.size := Nat.le_trans hz3 hb.size
                clear hb c0 c1 c2 c3 c4 k0 k1 k2 k3 k4
                obtain ⟨k0, k1, k2, k3, k4⟩ := K4.out.cells
                go_wp2_with fail
                refine (runsOnC _ _ _ _ _ _ _ us' vs' _ _ K4.out.usA K4.out.vsA hn' hm' HO2.out (by omega) (by omega)).mono ?_
                rintro e w4 ⟨rfl, hb⟩
                have O5 := Lib.hid (O4.out.call hb)
                have HB5 := Lib.hid (HB4.out.trans (hb.mono (by omega)))
                have hz5 : w.heap.size + 1 + 1 ≤ w4.heap.size := Nat.le_trans hz4 hb.size
                clear hb k0 k1 k2 k3 k4
                go_wp2_with fail
                go_roundw
                case rel => exact ⟨k + 1, by omega, by go_num, by rw [HS.out]; exact O5.out, HB5.out⟩
                case measure => simp [intOf]; omega
              · have hr : (bothB f t d us vs f' t' d' us' vs' f) k = true := by unfold bothB; rw [r1, r2]; rfl
                have HS : Hid (cmF f (bothB f t d us vs f' t' d' us' vs' f) (k + 1) = cmF f (bothB f t d us vs f' t' d' us' vs' f) k ++ [f + k]) := Lib.hid (cmF_yes hr hlen)
                clear hr
                go_wp2_with (first | (go_at_call 97; refine (l1LeastI _ _ _).mono ?_; rintro e wl ⟨rfl, rfl⟩) | fail)
                refine (runsOnC _ _ _ _ _ _ _ us vs _ _ H3.out.usA H3.out.vsA hn hm HO1.out (by omega) (by omega)).mono ?_
                rintro e w3 ⟨rfl, hb⟩
                have H4 := Lib.hid (H3.out.call hb)
                have K4 := Lib.hid (K3.out.call hb)
                have O4 := Lib.hid (O3.out.call hb)
                have HB4 := Lib.hid (HB.out.trans (hb.mono (by omega)))
                have hz4 : w.heap.size + 1 + 1 ≤ w3.heap.size := Nat.le_trans hz3 hb.size
                clear hb c0 c1 c2 c3 c4 k0 k1 k2 k3 k4
                obtain ⟨k0, k1, k2, k3, k4⟩ := K4.out.cells
                go_wp2_with fail
                refine (runsOnC _ _ _ _ _ _ _ us' vs' _ _ K4.out.usA K4.out.vsA hn' hm' HO2.out (by omega) (by omega)).mono ?_
                rintro e w4 ⟨rfl, hb⟩
                have O5 := Lib.hid (O4.out.call hb)
                have HB5 := Lib.hid (HB4.out.trans (hb.mono (by omega)))
                have hz5 : w.heap.size + 1 + 1 ≤ w4.heap.size := Nat.le_trans hz4 hb.size
                clear hb k0 k1 k2 k3 k4
                go_wp2_with (at_builtin; refine wp_appI rfl _ _ rfl (w.heap.size + 1 + 1) _ (cmF f (bothB f t d us vs f' t' d' us' vs' f) k) (f + k) _ O5.out rfl _ rfl (by simp) (by omega) (by omega) ?_; intro v' w' ho' hb'; have O6 := Lib.hid ho'; have HB6 := Lib.hid (HB5.out.trans hb'); clear ho' hb')
                go_roundw
                case rel => exact ⟨k + 1, by omega, by go_num, by rw [HS.out]; exact O6.out, HB6.out⟩
                case measure => simp [intOf]; omega
          · have HF : Hid (cmF f (bothB f t d us vs f' t' d' us' vs' f) (t' + 1 - f).toNat = cmF f (bothB f t d us vs f' t' d' us' vs' f) k) := Lib.hid (cmF_full hlen _ hk)
            go_wp2_with (first | (go_at_call 97; refine (l1LeastI _ _ _).mono ?_; rintro e wl ⟨rfl, rfl⟩) | fail)
            go_ret2
            rw [HY.out.1, HY.out.2, HL.out, HH.out, HF.out]
            exact O3.out.ret (by omega) H3.out.bel
        · have HF : Hid (cmF f (bothB f t d us vs f' t' d' us' vs' f) (t' + 1 - f).toNat = cmF f (bothB f t d us vs f' t' d' us' vs' f) k) := Lib.hid (by rw [show (t' + 1 - f).toNat = k by omega])
          go_wp2_with (first | (go_at_call 97; refine (l1LeastI _ _ _).mono ?_; rintro e wl ⟨rfl, rfl⟩) | fail)
          go_ret2
          rw [HY.out.1, HY.out.2, HL.out, HH.out, HF.out]
          exact O3.out.ret (by omega) H3.out.bel
    · have HL : Hid (mxI f f' = f) := Lib.hid (by unfold mxI; rw [if_neg hlo])
      have HH : Hid (mnI t t' = t) := Lib.hid (by unfold mnI; rw [if_neg hhi])
      go_enter Try.func42, Try.ntmps42
      go_wp2_with fail
      generalize ((w.alloc (.cells #[.int .i64 f, .int .i64 t, .int .i64 d, .slice A us.length ca, .slice R vs.length cr] 55)).alloc (.cells #[.int .i64 f', .int .i64 t', .int .i64 d', .slice A' us'.length ca', .slice R' vs'.length cr'] 55)) = w0 at *
      refine (isValidCalendar_any f t d _ _ _ _ us vs _ H0.out.usA H0.out.vsA hn hm).mono ?_
      rintro e w1 ⟨rfl, hb⟩
      have H1 := Lib.hid (H0.out.call hb)
      have K1 := Lib.hid (K0.out.call hb)
      have O1 := Lib.hid (O0.out.call hb)
      have hz1 : w.heap.size + 1 + 1 ≤ w1.heap.size := Nat.le_trans hz0 hb.size
      clear hb
      (try clear c0 c1 c2 c3 c4 k0 k1 k2 k3 k4)
      obtain ⟨c0, c1, c2, c3, c4⟩ := H1.out.cells
      obtain ⟨k0, k1, k2, k3, k4⟩ := K1.out.cells
      go_wp2_with fail
      skip
      refine (isValidCalendar_any f' t' d' _ _ _ _ us' vs' _ K1.out.usA K1.out.vsA hn' hm').mono ?_
      rintro e w2 ⟨rfl, hb⟩
      have H2 := Lib.hid (H1.out.call hb)
      have K2 := Lib.hid (K1.out.call hb)
      have O2 := Lib.hid (O1.out.call hb)
      have hz2 : w.heap.size + 1 + 1 ≤ w2.heap.size := Nat.le_trans hz1 hb.size
      clear hb
      (try clear c0 c1 c2 c3 c4 k0 k1 k2 k3 k4)
      obtain ⟨c0, c1, c2, c3, c4⟩ := H2.out.cells
      obtain ⟨k0, k1, k2, k3, k4⟩ := K2.out.cells
      go_wp2_with fail
      clear c0 c1 c2 c3 c4 k0 k1 k2 k3 k4
      go_loopw [6, 7] (fun v i wr => ∃ k : Nat, k ≤ (t + 1 - f).toNat ∧ i = .int .i64 (f + k) ∧ OwnI wr (w.heap.size + 1 + 1) v (cmF f (bothB f t d us vs f' t' d' us' vs' f) k) ∧ Below (w.heap.size + 1 + 1) w2 wr) (fun _ i _ => (t + 1 - intOf i).toNat)
      case atStart => exact ⟨0, Nat.zero_le _, by go_num, O2.out, Below.refl _ _⟩
      case round =>
        obtain ⟨k, hk, rfl, ho, hb⟩ := hrel
        have O3 := Lib.hid ho
        have H3 := Lib.hid (H2.out.callB hb (by omega))
        have K3 := Lib.hid (K2.out.callB hb (by omega))
        have HB := Lib.hid hb
        have hz3 : w.heap.size + 1 + 1 ≤ wr.heap.size := Nat.le_trans hz2 hb.size
        have hcl := cmF_len f (bothB f t d us vs f' t' d' us' vs' f) k
        clear ho hb
        obtain ⟨A3, c3', rfl, hA1, hA2, _⟩ := O3.out.ints
        obtain ⟨c0, c1, c2, c3, c4⟩ := H3.out.cells
        obtain ⟨k0, k1, k2, k3, k4⟩ := K3.out.cells
        by_cases hle : f + k ≤ t
        · by_cases hlen : (cmF f (bothB f t d us vs f' t' d' us' vs' f) k).length < 20
          · cases r1 : runB f t d us vs (f + k)
            · have hr : (bothB f t d us vs f' t' d' us' vs' f) k = false := by unfold bothB; rw [r1]; rfl
              have HS : Hid (cmF f (bothB f t d us vs f' t' d' us' vs' f) (k + 1) = cmF f (bothB f t d us vs f' t' d' us' vs' f) k) := Lib.hid (cmF_no hr)
              clear hr
              go_wp2_with (first | (go_at_call 97; refine (l1LeastI _ _ _).mono ?_; rintro e wl ⟨rfl, rfl⟩) | fail)
              refine (runsOnC _ _ _ _ _ _ _ us vs _ _ H3.out.usA H3.out.vsA hn hm HO1.out (by omega) (by omega)).mono ?_
              rintro e w3 ⟨rfl, hb⟩
              have H4 := Lib.hid (H3.out.call hb)
              have K4 := Lib.hid (K3.out.call hb)
              have O4 := Lib.hid (O3.out.call hb)
              have HB4 := Lib.hid (HB.out.trans (hb.mono (by omega)))
              have hz4 : w.heap.size + 1 + 1 ≤ w3.heap.size := Nat.le_trans hz3 hb.size
              clear hb c0 c1 c2 c3 c4 k0 k1 k2 k3 k4
              obtain ⟨k0, k1, k2, k3, k4⟩ := K4.out.cells
              go_wp2_with fail
              go_roundw
              case rel => exact ⟨k + 1, by omega, by go_num, by rw [HS.out]; exact O4.out, HB4.out⟩
              case measure => simp [intOf]; omega
            · cases r2 : runB f' t' d' us' vs' (f + k)
              · have hr : (bothB f t d us vs f' t' d' us' vs' f) k = false := by unfold bothB; rw [r1, r2]; rfl
                have HS : Hid (cmF f (bothB f t d us vs f' t' d' us' vs' f) (k + 1) = cmF f (bothB f t d us vs f' t' d' us' vs' f) k) := Lib.hid (cmF_no hr)
                clear hr
                go_wp2_with (first | (go_at_call 97; refine (l1LeastI _ _ _).mono ?_; rintro e wl ⟨rfl, rfl⟩) | fail)
                refine (runsOnC _ _ _ _ _ _ _ us vs _ _ H3.out.usA H3.out.vsA hn hm HO1.out (by omega) (by omega)).mono ?_
                rintro e w3 ⟨rfl, hb⟩
                have H4 := Lib.hid (H3.out.call hb)
                have K4 := Lib.hid (K3.out.call hb)
                have O4 := Lib.hid (O3.out.call hb)
                have HB4 := Lib.hid (HB.out.trans (hb.mono (by omega)))
                have hz4 : w.heap.size + 1 + 1 ≤ w3.heap.size := Nat.le_trans hz3 hb.size
                clear hb c0 c1 c2 c3 c4 k0 k1 k2 k3 k4
                obtain ⟨k0, k1, k2, k3, k4⟩ := K4.out.cells
                go_wp2_with fail
                refine (runsOnC _ _ _ _ _ _ _ us' vs' _ _ K4.out.usA K4.out.vsA hn' hm' HO2.out (by omega) (by omega)).mono ?_
                rintro e w4 ⟨rfl, hb⟩
                have O5 := Lib.hid (O4.out.call hb)
                have HB5 := Lib.hid (HB4.out.trans (hb.mono (by omega)))
                have hz5 : w.heap.size + 1 + 1 ≤ w4.heap.size := Nat.le_trans hz4 hb.size
                clear hb k0 k1 k2 k3 k4
                go_wp2_with fail
                go_roundw
                case rel => exact ⟨k + 1, by omega, by go_num, by rw [HS.out]; exact O5.out, HB5.out⟩
                case measure => simp [intOf]; omega
              · have hr : (bothB f t d us vs f' t' d' us' vs' f) k = true := by unfold bothB; rw [r1, r2]; rfl
                have HS : Hid (cmF f (bothB f t d us vs f' t' d' us' vs' f) (k + 1) = cmF f (bothB f t d us vs f' t' d' us' vs' f) k ++ [f + k]) := Lib.hid (cmF_yes hr hlen)
                clear hr
                go_wp2_with (first | (go_at_call 97; refine (l1LeastI _ _ _).mono ?_; rintro e wl ⟨rfl, rfl⟩) | fail)
                refine (runsOnC _ _ _ _ _ _ _ us vs _ _ H3.out.usA H3.out.vsA hn hm HO1.out (by omega) (by omega)).mono ?_
                rintro e w3 ⟨rfl, hb⟩
                have H4 := Lib.hid (H3.out.call hb)
                have K4 := Lib.hid (K3.out.call hb)
                have O4 := Lib.hid (O3.out.call hb)
                have HB4 := Lib.hid (HB.out.trans (hb.mono (by omega)))
                have hz4 : w.heap.size + 1 + 1 ≤ w3.heap.size := Nat.le_trans hz3 hb.size
                clear hb c0 c1 c2 c3 c4 k0 k1 k2 k3 k4
                obtain ⟨k0, k1, k2, k3, k4⟩ := K4.out.cells
                go_wp2_with fail
                refine (runsOnC _ _ _ _ _ _ _ us' vs' _ _ K4.out.usA K4.out.vsA hn' hm' HO2.out (by omega) (by omega)).mono ?_
                rintro e w4 ⟨rfl, hb⟩
                have O5 := Lib.hid (O4.out.call hb)
                have HB5 := Lib.hid (HB4.out.trans (hb.mono (by omega)))
                have hz5 : w.heap.size + 1 + 1 ≤ w4.heap.size := Nat.le_trans hz4 hb.size
                clear hb k0 k1 k2 k3 k4
                go_wp2_with (at_builtin; refine wp_appI rfl _ _ rfl (w.heap.size + 1 + 1) _ (cmF f (bothB f t d us vs f' t' d' us' vs' f) k) (f + k) _ O5.out rfl _ rfl (by simp) (by omega) (by omega) ?_; intro v' w' ho' hb'; have O6 := Lib.hid ho'; have HB6 := Lib.hid (HB5.out.trans hb'); clear ho' hb')
                go_roundw
                case rel => exact ⟨k + 1, by omega, by go_num, by rw [HS.out]; exact O6.out, HB6.out⟩
                case measure => simp [intOf]; omega
          · have HF : Hid (cmF f (bothB f t d us vs f' t' d' us' vs' f) (t + 1 - f).toNat = cmF f (bothB f t d us vs f' t' d' us' vs' f) k) := Lib.hid (cmF_full hlen _ hk)
            go_wp2_with (first | (go_at_call 97; refine (l1LeastI _ _ _).mono ?_; rintro e wl ⟨rfl, rfl⟩) | fail)
            go_ret2
            rw [HY.out.1, HY.out.2, HL.out, HH.out, HF.out]
            exact O3.out.ret (by omega) H3.out.bel
        · have HF : Hid (cmF f (bothB f t d us vs f' t' d' us' vs' f) (t + 1 - f).toNat = cmF f (bothB f t d us vs f' t' d' us' vs' f) k) := Lib.hid (by rw [show (t + 1 - f).toNat = k by omega])
          go_wp2_with (first | (go_at_call 97; refine (l1LeastI _ _ _).mono ?_; rintro e wl ⟨rfl, rfl⟩) | fail)
          go_ret2
          rw [HY.out.1, HY.out.2, HL.out, HH.out, HF.out]
          exact O3.out.ret (by omega) H3.out.bel

end Go.Proofs.Ytbneigkgdjcnjaa
