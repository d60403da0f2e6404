/- MergeSpans, TotalMinutes: the reference. -/
import Derived.Test.YtambgommeannnaaMgx
namespace Go.Proofs.Ytambgommeannnaa
open Go.ChangeShapes Go.WideShapes Go.ChangeAt Go.RowKit Go.PlainAid
set_option linter.unusedVariables false
set_option linter.unusedSimpArgs false

def runP (xs : List I2) (bz : Bool) (t : Int) : Bool := if bz = true then busyP xs t else freeP xs t
theorem runP_at (xs : List I2) (bz : Bool) (t : Int) : runP xs bz t = (decide (0 < (cAt xs t : Int)) == bz) := by
  unfold runP busyP freeP
  by_cases h : 0 < cAt xs t
  · have h2 : (0 : Int) < cAt xs t := by omega
    cases bz <;> simp [h]
  · have h2 : ¬ (0 : Int) < cAt xs t := by omega
    cases bz <;> simp [h]

set_option maxRecDepth 100000 in
set_option maxHeartbeats 4000000 in
theorem l4Runs_any (g : Nat) (xs : List I2) (fa fb : Int) (bz : Bool) (w : World) (h : ArrI w g 1800 (fun u => cAt xs u)) (h0 : 0 ≤ fa) (h1 : fa ≤ fb) (h2 : fb ≤ 1799) (hxl : xs.length ≤ 1048576) :
    Calls Try.prog 126 #[.slice (some ⟨g, 0, none⟩) 1800 1800, .agg #[.int .i64 fa, .int .i64 fb], .bool bz] w fun e w' => ∃ v, e = .returned v ∧ OwnS w' w.heap.size v (runU (runP xs bz) fa (fb - fa).toNat) ∧ Below w.heap.size w w' := by
  have hgl := h.lt
  obtain ⟨a, rfl⟩ : ∃ a : Nat, fa = a := ⟨fa.toNat, by omega⟩
  obtain ⟨N, hN⟩ : ∃ N : Nat, (fb - (a : Int)).toNat = N := ⟨_, rfl⟩
  have hfb : fb = (a : Int) + N := by omega
  rw [hN]
  subst hfb
  have haN : a + N ≤ 1799 := by omega
  clear hN h0 h1 h2
  have hb0 : Below w.heap.size w (w.alloc (.cells #[.int .i64 a, .int .i64 ((a : Int) + N)] 82)) := by go_grown
  have HA := Lib.hid (h.call hb0)
  have HB0 := Lib.hid hb0
  have HC0 : Hid ((w.alloc (.cells #[.int .i64 a, .int .i64 ((a : Int) + N)] 82)).cell? ⟨w.heap.size, 0, none⟩ = some (.int .i64 a)) := Lib.hid (by go_simp)
  have HC1 : Hid ((w.alloc (.cells #[.int .i64 a, .int .i64 ((a : Int) + N)] 82)).cell? ⟨w.heap.size, 1, none⟩ = some (.int .i64 ((a : Int) + N))) := Lib.hid (by go_simp)
  have HZ0 : Hid ((w.alloc (.cells #[.int .i64 a, .int .i64 ((a : Int) + N)] 82)).heap.size = w.heap.size + 1) := Lib.hid (by simp)
  clear h hb0
  obtain ⟨P, hP⟩ : ∃ P, P = runP xs bz := ⟨_, rfl⟩
  rw [← hP]
  have HP := Lib.hid hP
  clear hP
  cases bz
  · go_enter Try.func126, Try.ntmps126
    have c0 := HC0.out
    have c1 := HC1.out
    go_wp2_with fail
    clear c0 c1
    have hz1 : w.heap.size + 1 ≤ (w.alloc (.cells #[.int .i64 a, .int .i64 ((a : Int) + N)] 82)).heap.size := by rw [HZ0.out]; exact Nat.le_refl _
    generalize (w.alloc (.cells #[.int .i64 a, .int .i64 ((a : Int) + N)] 82)) = w0 at *
    have HE0 : Hid (OwnS (w0.alloc (.cells #[] 82)) w0.heap.size (.slice (some ⟨w0.heap.size, 0, none⟩) 0 0) []) := Lib.hid (OwnE.empty (Nat.le_refl _))
    rw [HZ0.out] at HE0
    have HBa : Hid (Below (w.heap.size + 1) w0 (w0.alloc (.cells #[] 82))) := Lib.hid ((Below.refl _ _).alloc hz1 _)
    go_loopw [7, 8, 9, 10] (fun out t _ _ wr => ∃ n : Nat, n ≤ N ∧ t = .int .i64 ((a : Int) + n) ∧ OwnS wr (w.heap.size + 1) out (runU P a n) ∧ Below (w.heap.size + 1) w0 wr) (fun _ t _ _ _ => ((a : Int) + N - intOf t).toNat)
    case atStart => exact ⟨0, Nat.zero_le _, by simp, HE0.out, HBa.out⟩
    case round =>
      obtain ⟨n, hn, rfl, ho, hb⟩ := hrel
      have HO := Lib.hid ho
      have HB := Lib.hid hb
      have hz := hb.size
      have hml := runU_len P a n
      have hc0 : wr.cell? ⟨w.heap.size, 0, none⟩ = some (.int .i64 a) := (hb.cell (p := ⟨w.heap.size, 0, none⟩) (Nat.lt_succ_self _)).trans HC0.out
      have hc1 : wr.cell? ⟨w.heap.size, 1, none⟩ = some (.int .i64 ((a : Int) + N)) := (hb.cell (p := ⟨w.heap.size, 1, none⟩) (Nat.lt_succ_self _)).trans HC1.out
      clear ho hb
      by_cases hlt : n < N
      · obtain ⟨m, hm⟩ : ∃ m : Nat, m = a + n := ⟨_, rfl⟩
        have hmi : (a : Int) + n = m := by omega
        have hmt : ((m : Nat) : Int) < (a : Int) + N := by omega
        have hm18 : m < 1800 := by omega
        have hm18i : (m : Int) < 1800 := by omega
        have hcnt : wr.cell? ⟨g, m, none⟩ = some (.int .i64 (cAt xs m : Nat)) := (HB.out.cell (p := ⟨g, m, none⟩) (show g < w.heap.size + 1 by omega)).trans (HA.out.cells m hm18)
        have hPm := congrFun HP.out (m : Int)
        rw [runP_at] at hPm
        have hcl := cAt_le xs (m : Int)
        rw [hmi]
        have HMI := Lib.hid hmi
        generalize hcv : (cAt xs (m : Int)) = cv at *
        clear hmi hm hcv
        by_cases hpos : 0 < cv
        · have hd : decide (0 < cv) = true := by simpa using hpos
          have hd' : decide ((0 : Int) < (cv : Int)) = true := by simpa using hpos
          rw [hd'] at hPm
          clear hd'
          have HPF : Hid (P (m : Int) = false) := Lib.hid (by rw [hPm]; rfl)
          have HSK : Hid (runU P a (n + 1) = runU P a n) := Lib.hid (runU_no (by rw [HMI.out]; exact HPF.out))
          clear hPm
          go_wp2_with fail
          go_roundw
          case rel => exact ⟨n + 1, by omega, by rw [← HMI.out]; go_num, by rw [HSK.out]; exact HO.out, HB.out⟩
          case measure => simp [intOf]; omega
        · have hd : decide (0 < cv) = false := by simpa using hpos
          have hd' : decide ((0 : Int) < (cv : Int)) = false := by simpa using hpos
          rw [hd'] at hPm
          clear hd'
          have HPT : Hid (P (m : Int) = true) := Lib.hid (by rw [hPm]; rfl)
          have HSK : Hid (runU P a (n + 1) = extR (runU P a n) m) := Lib.hid (by rw [runU_yes (by rw [HMI.out]; exact HPT.out), HMI.out])
          clear hPm
          rcases snocCases (runU P a n) with hnil | ⟨zs, l, hcons⟩
          · rw [hnil] at HO HSK
            obtain ⟨A', c', rfl, _, _, _⟩ := HO.out.i2s
            have HN : Hid (extR [] m = [⟨(m : Int), (m : Int) + 1⟩]) := Lib.hid (extR_nil (m : Int))
            rw [HN.out] at HSK
            have hll : ([] : List I2).length ≤ 16777216 := by simp
            clear hnil hml
            go_wp2_with (at_builtin; refine wp_appS rfl _ _ rfl (w.heap.size + 1) _ _ ⟨(m : Int), (m : Int) + 1⟩ _ HO.out rfl _ rfl (by simp) hll (by omega) ?_; intro v' w' ho' hb'; have HO' := Lib.hid ho'; have HB' := Lib.hid (HB.out.trans hb'); clear ho' hb')
            go_roundw
            case rel => exact ⟨n + 1, by omega, by rw [← HMI.out]; go_num, by rw [HSK.out]; exact HO'.out, HB'.out⟩
            case measure => simp [intOf]; omega
          · rw [hcons] at HO HSK hml
            obtain ⟨la, lb⟩ := l
            obtain ⟨gl, cap, rfl, hBg, hgl2, hn1, hn2, hfz, hce, _⟩ := HO.out.last (fun _ => rfl)
            have hzl : zs.length ≤ 1799 := by simp at hml; omega
            obtain ⟨q, hq⟩ : ∃ q, q = zs.length := ⟨_, rfl⟩
            rw [← hq] at hzl hn1 hce HO ⊢
            have HNN := Lib.hid hq
            have d0 : wr.cell? ⟨gl, q * 2, none⟩ = some (.int .i64 la) := hce 0 (by omega)
            have d1 : wr.cell? ⟨gl, q * 2 + 1, none⟩ = some (.int .i64 lb) := hce 1 (by omega)
            have z0 := hfz (q * 2)
            have z1' := hfz (q * 2 + 1)
            clear hq hce hfz hcons hml
            by_cases hle : lb = m
            · subst hle
              have HN : Hid (extR (zs ++ [⟨la, (m : Int)⟩]) m = zs ++ [⟨la, (m : Int) + 1⟩]) := Lib.hid (extR_yes rfl)
              rw [HN.out] at HSK
              have HO1 := Lib.hid (HO.out.put (fun _ => rfl) 0 (.int .i64 la) ⟨la, (m : Int)⟩ rfl HNN.out)
              have HO2 := Lib.hid (HO1.out.put (fun _ => rfl) 1 (.int .i64 ((m : Int) + 1)) ⟨la, (m : Int) + 1⟩ rfl HNN.out)
              have HB1 := Lib.hid ((HB.out.setCell (p := ⟨gl, q * 2, none⟩) hBg (.int .i64 la)).setCell (p := ⟨gl, q * 2 + 1, none⟩) hBg (.int .i64 ((m : Int) + 1)))
              go_wp2_with fail
              go_roundw
              case rel => exact ⟨n + 1, by omega, by rw [← HMI.out]; go_num, by rw [HSK.out]; exact HO2.out.alloc _, HB1.out.alloc (by simp; omega) _⟩
              case measure => simp [intOf]; omega
            · have hne : ((lb : Int) == m) = false := by simp [hle]
              have HN : Hid (extR (zs ++ [⟨la, lb⟩]) m = zs ++ [⟨la, lb⟩] ++ [⟨(m : Int), (m : Int) + 1⟩]) := Lib.hid (extR_no hle)
              rw [HN.out] at HSK
              have hll : (zs ++ [(⟨la, lb⟩ : I2)]).length ≤ 16777216 := by rw [List.length_append, ← HNN.out]; simp; omega
              clear hle
              go_wp2_with (at_builtin; refine wp_appS rfl _ _ rfl (w.heap.size + 1) _ _ ⟨(m : Int), (m : Int) + 1⟩ _ HO.out rfl _ rfl (by simp) hll (by omega) ?_; intro v' w' ho' hb'; have HO' := Lib.hid ho'; have HB' := Lib.hid (HB.out.trans hb'); clear ho' hb')
              go_roundw
              case rel => exact ⟨n + 1, by omega, by rw [← HMI.out]; go_num, by rw [HSK.out]; exact HO'.out, HB'.out⟩
              case measure => simp [intOf]; omega
      · obtain rfl : n = N := by omega
        go_wp2_with fail
        go_ret
        exact ⟨_, rfl, OwnE.sub HO.out (by omega), HB0.out.trans (HB.out.mono (by omega))⟩
  · go_enter Try.func126, Try.ntmps126
    have c0 := HC0.out
    have c1 := HC1.out
    go_wp2_with fail
    clear c0 c1
    have hz1 : w.heap.size + 1 ≤ (w.alloc (.cells #[.int .i64 a, .int .i64 ((a : Int) + N)] 82)).heap.size := by rw [HZ0.out]; exact Nat.le_refl _
    generalize (w.alloc (.cells #[.int .i64 a, .int .i64 ((a : Int) + N)] 82)) = w0 at *
    have HE0 : Hid (OwnS (w0.alloc (.cells #[] 82)) w0.heap.size (.slice (some ⟨w0.heap.size, 0, none⟩) 0 0) []) := Lib.hid (OwnE.empty (Nat.le_refl _))
    rw [HZ0.out] at HE0
    have HBa : Hid (Below (w.heap.size + 1) w0 (w0.alloc (.cells #[] 82))) := Lib.hid ((Below.refl _ _).alloc hz1 _)
    go_loopw [7, 8, 9, 10] (fun out t _ _ wr => ∃ n : Nat, n ≤ N ∧ t = .int .i64 ((a : Int) + n) ∧ OwnS wr (w.heap.size + 1) out (runU P a n) ∧ Below (w.heap.size + 1) w0 wr) (fun _ t _ _ _ => ((a : Int) + N - intOf t).toNat)
    case atStart => exact ⟨0, Nat.zero_le _, by simp, HE0.out, HBa.out⟩
    case round =>
      obtain ⟨n, hn, rfl, ho, hb⟩ := hrel
      have HO := Lib.hid ho
      have HB := Lib.hid hb
      have hz := hb.size
      have hml := runU_len P a n
      have hc0 : wr.cell? ⟨w.heap.size, 0, none⟩ = some (.int .i64 a) := (hb.cell (p := ⟨w.heap.size, 0, none⟩) (Nat.lt_succ_self _)).trans HC0.out
      have hc1 : wr.cell? ⟨w.heap.size, 1, none⟩ = some (.int .i64 ((a : Int) + N)) := (hb.cell (p := ⟨w.heap.size, 1, none⟩) (Nat.lt_succ_self _)).trans HC1.out
      clear ho hb
      by_cases hlt : n < N
      · obtain ⟨m, hm⟩ : ∃ m : Nat, m = a + n := ⟨_, rfl⟩
        have hmi : (a : Int) + n = m := by omega
        have hmt : ((m : Nat) : Int) < (a : Int) + N := by omega
        have hm18 : m < 1800 := by omega
        have hm18i : (m : Int) < 1800 := by omega
        have hcnt : wr.cell? ⟨g, m, none⟩ = some (.int .i64 (cAt xs m : Nat)) := (HB.out.cell (p := ⟨g, m, none⟩) (show g < w.heap.size + 1 by omega)).trans (HA.out.cells m hm18)
        have hPm := congrFun HP.out (m : Int)
        rw [runP_at] at hPm
        have hcl := cAt_le xs (m : Int)
        rw [hmi]
        have HMI := Lib.hid hmi
        generalize hcv : (cAt xs (m : Int)) = cv at *
        clear hmi hm hcv
        by_cases hpos : 0 < cv
        · have hd : decide (0 < cv) = true := by simpa using hpos
          have hd' : decide ((0 : Int) < (cv : Int)) = true := by simpa using hpos
          rw [hd'] at hPm
          clear hd'
          have HPT : Hid (P (m : Int) = true) := Lib.hid (by rw [hPm]; rfl)
          have HSK : Hid (runU P a (n + 1) = extR (runU P a n) m) := Lib.hid (by rw [runU_yes (by rw [HMI.out]; exact HPT.out), HMI.out])
          clear hPm
          rcases snocCases (runU P a n) with hnil | ⟨zs, l, hcons⟩
          · rw [hnil] at HO HSK
            obtain ⟨A', c', rfl, _, _, _⟩ := HO.out.i2s
            have HN : Hid (extR [] m = [⟨(m : Int), (m : Int) + 1⟩]) := Lib.hid (extR_nil (m : Int))
            rw [HN.out] at HSK
            have hll : ([] : List I2).length ≤ 16777216 := by simp
            clear hnil hml
            go_wp2_with (at_builtin; refine wp_appS rfl _ _ rfl (w.heap.size + 1) _ _ ⟨(m : Int), (m : Int) + 1⟩ _ HO.out rfl _ rfl (by simp) hll (by omega) ?_; intro v' w' ho' hb'; have HO' := Lib.hid ho'; have HB' := Lib.hid (HB.out.trans hb'); clear ho' hb')
            go_roundw
            case rel => exact ⟨n + 1, by omega, by rw [← HMI.out]; go_num, by rw [HSK.out]; exact HO'.out, HB'.out⟩
            case measure => simp [intOf]; omega
          · rw [hcons] at HO HSK hml
            obtain ⟨la, lb⟩ := l
            obtain ⟨gl, cap, rfl, hBg, hgl2, hn1, hn2, hfz, hce, _⟩ := HO.out.last (fun _ => rfl)
            have hzl : zs.length ≤ 1799 := by simp at hml; omega
            obtain ⟨q, hq⟩ : ∃ q, q = zs.length := ⟨_, rfl⟩
            rw [← hq] at hzl hn1 hce HO ⊢
            have HNN := Lib.hid hq
            have d0 : wr.cell? ⟨gl, q * 2, none⟩ = some (.int .i64 la) := hce 0 (by omega)
            have d1 : wr.cell? ⟨gl, q * 2 + 1, none⟩ = some (.int .i64 lb) := hce 1 (by omega)
            have z0 := hfz (q * 2)
            have z1' := hfz (q * 2 + 1)
            clear hq hce hfz hcons hml
            by_cases hle : lb = m
            · subst hle
              have HN : Hid (extR (zs ++ [⟨la, (m : Int)⟩]) m = zs ++ [⟨la, (m : Int) + 1⟩]) := Lib.hid (extR_yes rfl)
              rw [HN.out] at HSK
              have HO1 := Lib.hid (HO.out.put (fun _ => rfl) 0 (.int .i64 la) ⟨la, (m : Int)⟩ rfl HNN.out)
              have HO2 := Lib.hid (HO1.out.put (fun _ => rfl) 1 (.int .i64 ((m : Int) + 1)) ⟨la, (m : Int) + 1⟩ rfl HNN.out)
              have HB1 := Lib.hid ((HB.out.setCell (p := ⟨gl, q * 2, none⟩) hBg (.int .i64 la)).setCell (p := ⟨gl, q * 2 + 1, none⟩) hBg (.int .i64 ((m : Int) + 1)))
              go_wp2_with fail
              go_roundw
              case rel => exact ⟨n + 1, by omega, by rw [← HMI.out]; go_num, by rw [HSK.out]; exact HO2.out.alloc _, HB1.out.alloc (by simp; omega) _⟩
              case measure => simp [intOf]; omega
            · have hne : ((lb : Int) == m) = false := by simp [hle]
              have HN : Hid (extR (zs ++ [⟨la, lb⟩]) m = zs ++ [⟨la, lb⟩] ++ [⟨(m : Int), (m : Int) + 1⟩]) := Lib.hid (extR_no hle)
              rw [HN.out] at HSK
              have hll : (zs ++ [(⟨la, lb⟩ : I2)]).length ≤ 16777216 := by rw [List.length_append, ← HNN.out]; simp; omega
              clear hle
              go_wp2_with (at_builtin; refine wp_appS rfl _ _ rfl (w.heap.size + 1) _ _ ⟨(m : Int), (m : Int) + 1⟩ _ HO.out rfl _ rfl (by simp) hll (by omega) ?_; intro v' w' ho' hb'; have HO' := Lib.hid ho'; have HB' := Lib.hid (HB.out.trans hb'); clear ho' hb')
              go_roundw
              case rel => exact ⟨n + 1, by omega, by rw [← HMI.out]; go_num, by rw [HSK.out]; exact HO'.out, HB'.out⟩
              case measure => simp [intOf]; omega
        · have hd : decide (0 < cv) = false := by simpa using hpos
          have hd' : decide ((0 : Int) < (cv : Int)) = false := by simpa using hpos
          rw [hd'] at hPm
          clear hd'
          have HPF : Hid (P (m : Int) = false) := Lib.hid (by rw [hPm]; rfl)
          have HSK : Hid (runU P a (n + 1) = runU P a n) := Lib.hid (runU_no (by rw [HMI.out]; exact HPF.out))
          clear hPm
          go_wp2_with fail
          go_roundw
          case rel => exact ⟨n + 1, by omega, by rw [← HMI.out]; go_num, by rw [HSK.out]; exact HO.out, HB.out⟩
          case measure => simp [intOf]; omega
      · obtain rfl : n = N := by omega
        go_wp2_with fail
        go_ret
        exact ⟨_, rfl, OwnE.sub HO.out (by omega), HB0.out.trans (HB.out.mono (by omega))⟩

set_option maxRecDepth 100000 in
set_option maxHeartbeats 1000000 in
theorem specMerge_any (A : Option Addr) (c : Nat) (xs : List I2) (w : World) (h : I2sIn w (Zone.below w.heap.size) A xs) (hn : xs.length ≤ 1048576) :
    Calls Try.prog 48 #[.slice A xs.length c] w (RetSp (msL xs) (spansB xs) w) := by
  have HX := Lib.hid h
  clear h
  cases g : spansB xs
  · have HS := Lib.hid (msL_no g)
    go_enter Try.func48, Try.ntmps48
    go_wp2_with fail
    refine (l4Spans_any _ _ xs _ HX.out hn).mono ?_
    rintro e w1 ⟨rfl, hb1⟩
    have HB1 := Lib.hid hb1
    clear hb1
    go_wp2_with fail
    go_ret2
    exact retSpNil _ 0 HS.out (HB1.out.alloc (by have := HB1.out.size; omega) _)
  · have HS := Lib.hid (msL_yes g)
    have HV := Lib.hid (spansB_ok g)
    go_enter Try.func48, Try.ntmps48
    go_wp2_with fail
    refine (l4Spans_any _ _ xs _ HX.out hn).mono ?_
    rintro e w1 ⟨rfl, hb1⟩
    have HX1 := Lib.hid (HX.out.call hb1)
    have HB1 := Lib.hid hb1
    have hz1 := hb1.size
    clear hb1
    go_wp2_with fail
    refine (l4Counts_any _ _ xs _ HX1.out HV.out).mono ?_
    rintro e w2 ⟨rfl, ha, hb2⟩
    have HA := Lib.hid ha
    have hz2 := hb2.size
    have HB2 := Lib.hid (bel_call HB1.out hb2)
    clear ha hb2
    go_wp2_with fail
    refine (l4Runs_any _ xs 0 1799 true _ HA.out (by omega) (by omega) (by omega) hn).mono ?_
    rintro e w3 ⟨v, rfl, ho, hb3⟩
    have HO := Lib.hid (OwnE.sub ho (Nat.le_trans hz1 hz2))
    have HB3 := Lib.hid (bel_call HB2.out hb3)
    clear ho hb3
    go_wp2_with fail
    go_ret2
    exact HO.out.retSp (by rw [HS.out]; rfl) HB3.out

set_option maxRecDepth 100000 in
set_option maxHeartbeats 2000000 in
theorem specTotal_any (A : Option Addr) (c : Nat) (xs : List I2) (w : World) (h : I2sIn w (Zone.below w.heap.size) A xs) (hn : xs.length ≤ 1048576) :
    Calls Try.prog 44 #[.slice A xs.length c] w fun e w' => e = .returned (.tuple #[.int .i64 (tmN xs), .bool (spansB xs)]) ∧ Below w.heap.size w w' := by
  have HX := Lib.hid h
  clear h
  cases g : spansB xs
  · have HS := Lib.hid (tmN_no g)
    go_enter Try.func44, Try.ntmps44
    go_wp2_with fail
    refine (l4Spans_any _ _ xs _ HX.out hn).mono ?_
    rintro e w1 ⟨rfl, hb1⟩
    have HB1 := Lib.hid hb1
    clear hb1
    go_wp2_with fail
    go_ret2
    exact ⟨retT HS.out.symm rfl, HB1.out⟩
  · have HS := Lib.hid (tmN_yes g)
    have HV := Lib.hid (spansB_ok g)
    go_enter Try.func44, Try.ntmps44
    go_wp2_with fail
    refine (l4Spans_any _ _ xs _ HX.out hn).mono ?_
    rintro e w1 ⟨rfl, hb1⟩
    have HX1 := Lib.hid (HX.out.call hb1)
    have HB1 := Lib.hid hb1
    clear hb1
    go_wp2_with fail
    refine (l4Counts_any _ _ xs _ HX1.out HV.out).mono ?_
    rintro e w2 ⟨rfl, ha, hb2⟩
    have HA := Lib.hid ha
    have HB2 := Lib.hid (bel_call HB1.out hb2)
    clear ha hb2
    go_wp2_with fail
    go_loopw [5, 6] (fun s i wr => ∃ k : Nat, k ≤ 1800 ∧ i = .int .i64 k ∧ s = .int .i64 (ctU (busyP xs) 0 k : Nat) ∧ wr = w2) (fun _ i _ => 1800 - (intOf i).toNat)
    case atStart => exact ⟨0, Nat.zero_le _, rfl, rfl, rfl⟩
    case round =>
      obtain ⟨k, hk, rfl, rfl, rfl⟩ := hrel
      by_cases hlt : k < 1800
      · have hc1 : wr.cell? ⟨w1.heap.size, k, none⟩ = some (.int .i64 (cAt xs k : Nat)) := HA.out.cells k hlt
        have hki : (k : Int) < 1800 := by omega
        have hcl := ctU_le (busyP xs) 0 k
        have hcm := cAt_le xs (k : Int)
        by_cases hp : 0 < cAt xs (k : Int)
        · have hd : decide (0 < cAt xs (k : Int)) = true := by simpa using hp
          have HS2 : Hid (ctU (busyP xs) 0 (k + 1) = ctU (busyP xs) 0 k + 1) := Lib.hid (ctU_yes (by rw [Int.zero_add]; exact hd))
          generalize ctU (busyP xs) 0 k = u at *
          generalize cAt xs (k : Int) = cv at *
          go_wp2_with fail
          go_roundw
          case rel => exact ⟨k + 1, by omega, by go_num, by rw [HS2.out]; go_num, trivial⟩
          case measure => simp [intOf]; omega
        · have hd : decide (0 < cAt xs (k : Int)) = false := by simpa using hp
          have HS2 : Hid (ctU (busyP xs) 0 (k + 1) = ctU (busyP xs) 0 k) := Lib.hid (ctU_no (by rw [Int.zero_add]; exact hd))
          generalize ctU (busyP xs) 0 k = u at *
          generalize cAt xs (k : Int) = cv at *
          go_wp2_with fail
          go_roundw
          case rel => exact ⟨k + 1, by omega, by go_num, by rw [HS2.out], trivial⟩
          case measure => simp [intOf]; omega
      · obtain rfl : k = 1800 := by omega
        have HLast : Hid (ctU (busyP xs) 0 1800 = ctU (busyP xs) 0 1799) := Lib.hid (ctU_no (n := 1799) (by
          have h9 : ¬ 0 < cAt xs ((0 : Int) + (1799 : Nat)) := fun h => by
            obtain ⟨s, hs, h1, h2⟩ := cAt_iff.1 h
            obtain ⟨j, hj, rfl⟩ := mem_nth2 hs
            have := spB_iff.1 (HV.out.2 j hj)
            omega
          unfold busyP
          exact decide_eq_false h9))
        go_wp2_with fail
        go_ret2
        exact ⟨retT (by rw [HS.out, HLast.out]) rfl, HB2.out⟩
end Go.Proofs.Ytambgommeannnaa
