/- spec.ParseCalendar: what it answers. -/
import Derived.Test.YtpipegdjflniaaaPci
import Derived.Test.YtpipegdjflniaaaFcb
import Derived.Test.YtpipegdjflniaaaCalC
namespace Go.Proofs.Ytpipegdjflniaaa
open Go.ChangeShapes Go.WideShapes Go.ChangeAt Go.RowKit Go.PlainAid
set_option linter.unusedVariables false
set_option linter.unusedSimpArgs false

theorem nthS_spl {s : ByteArray} {c : UInt8} {k : Nat} (h : k < (spw c s.data.toList).length) : nthS (splL s c) k = bs ((spw c s.data.toList).getD k []) := by
  unfold nthS
  rw [splL_eq, List.getD_eq_getElem?_getD, List.getElem?_map, List.getD_eq_getElem?_getD, List.getElem?_eq_getElem h]
  rfl
theorem splL_len (s : ByteArray) (c : UInt8) : (splL s c).length = (spw c s.data.toList).length := by rw [splL_eq, List.length_map]
theorem spw_le (c : UInt8) : ∀ (l : List UInt8), ∀ x ∈ spw c l, x.length ≤ l.length
  | [], x, h => by simp [spw] at h; rw [h]; simp
  | a :: l, x, h => by
    have ih := spw_le c l
    obtain ⟨p, r, e⟩ : ∃ p r, spw c l = p :: r := by
      cases h2 : spw c l with
      | nil => exact absurd h2 (spw_ne c l)
      | cons p r => exact ⟨p, r, rfl⟩
    unfold spw at h
    rw [e] at ih h
    split at h
    · rcases List.mem_cons.1 h with h | h
      · rw [h]; simp
      · have := ih x h; simp; omega
    · simp only [List.head?_cons, Option.getD_some, List.tail_cons] at h
      rcases List.mem_cons.1 h with h | h
      · have := ih p List.mem_cons_self; rw [h]; simp; omega
      · have := ih x (List.mem_cons_of_mem _ h); simp; omega
theorem getD_le' (c : UInt8) (l : List UInt8) (k : Nat) : ((spw c l).getD k []).length ≤ l.length := by
  by_cases h : k < (spw c l).length
  · rw [List.getD_eq_getElem?_getD, List.getElem?_eq_getElem h]
    exact spw_le c l _ (List.getElem_mem h)
  · rw [List.getD_eq_getElem?_getD, List.getElem?_eq_none (by omega)]
    simp
theorem getD_le (l : List UInt8) (k : Nat) : ((spw 32 l).getD k []).length ≤ l.length := getD_le' 32 l k
def psC2 (l : List UInt8) (P : List (List UInt8)) (f t : Int) (kf kt : Bool) : Option CalV :=
  if kf = true ∧ kt = true then
    match psE (P.drop 2) [] [] with
    | none => none
    | some (us, vs) => if calB f t (wkS (P.getD 1 []) 7) us vs = true ∧ calL f t (wkS (P.getD 1 []) 7) us vs = l then some (f, t, (wkS (P.getD 1 []) 7 : Int), us, vs) else none
  else none
def psC1 (l : List UInt8) (P Q : List (List UInt8)) : Option CalV :=
  if Q.length = 2 then psC2 l P (rdV (Q.getD 0 [])) (rdV (Q.getD 1 [])) (rdK (Q.getD 0 [])) (rdK (Q.getD 1 [])) else none
theorem psC_one {l : List UInt8} (h1 : l.length ≤ 150) (h2 : 2 ≤ (spw 32 l).length) (h3 : ((spw 32 l).getD 1 []).length = 7) : psC l = psC1 l (spw 32 l) (spw 45 ((spw 32 l).getD 0 [])) := by
  unfold psC
  rw [if_pos ⟨h1, h2, h3⟩]
  rfl
theorem psC1_two {l : List UInt8} {P Q : List (List UInt8)} (h : Q.length = 2) : psC1 l P Q = psC2 l P (rdV (Q.getD 0 [])) (rdV (Q.getD 1 [])) (rdK (Q.getD 0 [])) (rdK (Q.getD 1 [])) := by
  unfold psC1
  rw [if_pos h]
theorem psC2_none {l : List UInt8} {P : List (List UInt8)} {f t : Int} (h : psE (P.drop 2) [] [] = none) : psC2 l P f t true true = none := by
  unfold psC2
  rw [h]
  rfl
theorem psC2_some {l : List UInt8} {P : List (List UInt8)} {f t : Int} {us vs : List Int} (h : psE (P.drop 2) [] [] = some (us, vs)) : psC2 l P f t true true = if calB f t (wkS (P.getD 1 []) 7 : Nat) us vs = true ∧ calL f t (wkS (P.getD 1 []) 7 : Nat) us vs = l then some (f, t, ((wkS (P.getD 1 []) 7 : Nat) : Int), us, vs) else none := by
  unfold psC2
  rw [h]
  rfl
theorem psE_nil {p : List UInt8} {ps : List (List UInt8)} {us vs : List Int} (h : p = []) : psE (p :: ps) us vs = none := by unfold psE; rw [if_pos h]
theorem psE_bad {p : List UInt8} {ps : List (List UInt8)} {us vs : List Int} (h : p ≠ []) (hr : rdK (p.drop 1) = false) : psE (p :: ps) us vs = none := by unfold psE; rw [if_neg h, if_pos hr]
theorem psE_pl {p : List UInt8} {ps : List (List UInt8)} {us vs : List Int} (h : p ≠ []) (hr : rdK (p.drop 1) = true) (hh : p.head? = some 43) : psE (p :: ps) us vs = psE ps (us ++ [rdV (p.drop 1)]) vs := by
  conv => lhs; unfold psE
  rw [if_neg h, if_neg (by rw [hr]; simp), if_pos hh]
theorem psE_mi {p : List UInt8} {ps : List (List UInt8)} {us vs : List Int} (h : p ≠ []) (hr : rdK (p.drop 1) = true) (hh : p.head? ≠ some 43) : psE (p :: ps) us vs = psE ps us (vs ++ [rdV (p.drop 1)]) := by
  conv => lhs; unfold psE
  rw [if_neg h, if_neg (by rw [hr]; simp), if_neg hh]
theorem drop_getD {P : List (List UInt8)} {k : Nat} (h : k < P.length) : P.drop k = P.getD k [] :: P.drop (k + 1) := by
  rw [List.drop_eq_getElem_cons h, List.getD_eq_getElem?_getD, List.getElem?_eq_getElem h]
  rfl
theorem spw_len (c : UInt8) : ∀ l : List UInt8, (spw c l).length ≤ l.length + 1
  | [] => by simp [spw]
  | a :: l => by
    have ih := spw_len c l
    unfold spw
    split
    · simp; exact ih
    · have : 0 < (spw c l).length := List.length_pos_iff.2 (spw_ne c l)
      simp; omega
-- WALK
set_option maxRecDepth 100000 in
set_option maxHeartbeats 8000000 in
theorem specParseCalendar_any (s : ByteArray) (w : World) (hs : s.size ≤ 1048576) :
    Calls Try.prog 4 #[.string s] w (RetPC s.data.toList w) := by
  obtain ⟨W0, hW0⟩ : ∃ W0, W0 = ((w.alloc (.cells #[.int .i64 0, .int .i64 0, .int .i64 0, .slice none 0 0, .slice none 0 0] 24)).alloc (.cells #[.int .i64 0, .int .i64 0, .int .i64 0, .slice none 0 0, .slice none 0 0] 24)) := ⟨_, rfl⟩
  have HR0 : Hid (FB W0 w.heap.size 0 0 0 (.slice none 0 0) (.slice none 0 0)) := Lib.hid (by rw [hW0]; exact ⟨by go_simp, by go_simp, by go_simp, by go_simp, by go_simp, fun j => by go_simp, by simp; omega⟩)
  have HZ0 : Hid (FB W0 (w.heap.size + 1) 0 0 0 (.slice none 0 0) (.slice none 0 0)) := Lib.hid (by rw [hW0]; exact ⟨by go_simp, by go_simp, by go_simp, by go_simp, by go_simp, fun j => by go_simp, by simp⟩)
  have HB0 : Hid (Below w.heap.size w W0) := Lib.hid (by rw [hW0]; go_grown)
  have HS := Lib.hid (l1Split_any s 32 W0 hs)
  obtain ⟨l, hl⟩ : ∃ l, l = s.data.toList := ⟨_, rfl⟩
  have HLL := Lib.hid hl
  have HLN : Hid (l.length = s.size) := Lib.hid (by rw [hl]; exact list_of_size s)
  have hHR : (RetPC s.data.toList w) = RetPC l w := by rw [hl]
  rw [hHR]
  clear hHR hl
  go_enter Try.func4, Try.ntmps4
  go_upto_region 2 with fail
  rw [← hW0]
  clear hW0
  obtain ⟨P, hP⟩ : ∃ P, P = spw 32 l := ⟨_, rfl⟩
  have HP := Lib.hid hP
  have HPN : Hid (∀ k, k < P.length → nthS (splL s 32) k = bs (P.getD k [])) := Lib.hid (fun k hk => by rw [hP, HLL.out] at hk ⊢; exact nthS_spl hk)
  have HPL : Hid ((splL s 32).length = P.length) := Lib.hid (by rw [splL_len, hP, HLL.out])
  clear hP
  go_wp2_with fail
  refine HS.out.mono ?_
  rintro e w1 ⟨A, c, rfl, hi, hb1⟩
  rw [HPL.out]
  have HR1 := Lib.hid (HR0.out.below hb1 HR0.out.lt)
  have HZ1 := Lib.hid (HZ0.out.below hb1 HZ0.out.lt)
  have HB1 := Lib.hid (HB0.out.trans (hb1.mono HB0.out.size))
  clear hb1
  have HIN := Lib.hid hi
  clear hi
  by_cases h150 : 150 < l.length
  · have HR : Hid (psC l = none) := Lib.hid (by unfold psC; rw [if_neg]; omega)
    have hzi : (150 : Int) < (s.size : Int) := by rw [← HLN.out]; omega
    obtain ⟨z0, z1, z2, z3, z4, zf, zl⟩ := HR1.out
    have zf0 := zf 0
    have zf1 := zf 1
    have zf2 := zf 2
    have zf3 := zf 3
    have zf4 := zf 4
    obtain ⟨y0, y1, y2, y3, y4, yf, yl⟩ := HZ1.out
    have yf0 := yf 0
    have yf1 := yf 1
    have yf2 := yf 2
    have yf3 := yf 3
    have yf4 := yf 4
    go_wp2_with fail
    refine bodyPost_ret (v := .tuple #[.agg #[.int .i64 0, .int .i64 0, .int .i64 0, .slice none 0 0, .slice none 0 0], .bool false]) (by simp [results, Try.results4, go_sem, z0, z1, z2, z3, z4]) rfl ?_
    refine retPC_none HR.out (retCal_zero ?_)
    repeat' (refine Below.setCell ?_ (by simp) _)
    exact HB1.out
  · have hzi : ¬ ((150 : Int) < (s.size : Int)) := by rw [← HLN.out]; omega
    by_cases h2 : P.length < 2
    · have HR : Hid (psC l = none) := Lib.hid (by unfold psC; rw [← HP.out, if_neg]; omega)
      have hpi : ((P.length : Int) < 2) := by omega
      obtain ⟨z0, z1, z2, z3, z4, zf, zl⟩ := HR1.out
      have zf0 := zf 0
      have zf1 := zf 1
      have zf2 := zf 2
      have zf3 := zf 3
      have zf4 := zf 4
      obtain ⟨y0, y1, y2, y3, y4, yf, yl⟩ := HZ1.out
      have yf0 := yf 0
      have yf1 := yf 1
      have yf2 := yf 2
      have yf3 := yf 3
      have yf4 := yf 4
      go_wp2_with fail
      refine bodyPost_ret (v := .tuple #[.agg #[.int .i64 0, .int .i64 0, .int .i64 0, .slice none 0 0, .slice none 0 0], .bool false]) (by simp [results, Try.results4, go_sem, z0, z1, z2, z3, z4]) rfl ?_
      refine retPC_none HR.out (retCal_zero ?_)
      repeat' (refine Below.setCell ?_ (by simp) _)
      exact HB1.out
    · have hpi : ¬ ((P.length : Int) < 2) := by omega
      obtain ⟨b, o, rfl, hbl, hfz, hc⟩ := HIN.out (by rw [HPL.out]; omega)
      have HW : Hid (∀ k, k < P.length → w1.cell? ⟨b, o + k, none⟩ = some (.string (bs (P.getD k [])))) := Lib.hid (fun k hk => by
        have := hc k (by rw [HPL.out]; exact hk)
        unfold eStr at this
        rw [this]
        exact congrArg (fun x => some (Value.string x)) (HPN.out k hk))
      have hblt : b < w1.heap.size := hbl.2
      clear hc hfz
      obtain ⟨q1, hq1⟩ : ∃ q1, q1 = bs (P.getD 1 []) := ⟨_, rfl⟩
      have hw1 : w1.cell? ⟨b, o + 1, none⟩ = some (.string q1) := by rw [hq1]; exact HW.out 1 (by omega)
      have HQ1 : Hid (q1.data.toList = P.getD 1 []) := Lib.hid (by rw [hq1, bs_list])
      have HQL : Hid ((P.getD 1 []).length = q1.size) := Lib.hid (by rw [hq1, bs_size])
      clear hq1
      by_cases h7 : q1.size = 7
      · have h7i : ((q1.size : Int) != 7) = false := by rw [h7]; rfl
        obtain ⟨W2, hW2⟩ : ∃ W2, W2 = (((w1.alloc (.cells #[] 3)).alloc (.cells #[] 3)).alloc (.cells #[.int .i64 0, .int .i64 0, .int .i64 0, .slice (some ⟨w1.heap.size, 0, none⟩) 0 0, .slice (some ⟨w1.heap.size + 1, 0, none⟩) 0 0] 24)) := ⟨_, rfl⟩
        have hl1 : w.heap.size + 1 < w1.heap.size := HZ1.out.lt
        have hb2 : Below w1.heap.size w1 W2 := by rw [hW2]; go_grown
        have H2 : Hid (FSt W2 w1.heap.size w.heap.size (w1.heap.size + 1 + 1) 0 0 0 (.slice (some ⟨w1.heap.size, 0, none⟩) 0 0) (.slice (some ⟨w1.heap.size + 1, 0, none⟩) 0 0) [] []) := Lib.hid ⟨by rw [hW2]; exact ⟨by go_simp, by go_simp, by go_simp, by go_simp, by go_simp, fun j => by go_simp, by simp⟩, HR1.out.below hb2 (by omega), by rw [hW2]; exact ((OwnE.empty (Nat.le_refl _)).alloc _).alloc _, by rw [hW2]; have h := (OwnE.empty (e := 3) (m := 1) (enc := encI) (w := w1.alloc (.cells #[] 3)) (B := w1.heap.size) (by simp)).alloc (.cells #[.int .i64 0, .int .i64 0, .int .i64 0, .slice (some ⟨w1.heap.size, 0, none⟩) 0 0, .slice (some ⟨w1.heap.size + 1, 0, none⟩) 0 0] 24); simpa using h, by intro X h; simp [Value.ownBlock] at h ⊢; omega, by simp [Value.ownBlock] <;> omega, by simp [Value.ownBlock] <;> omega, by simp [Value.ownBlock] <;> omega, by simp [Value.ownBlock] <;> omega⟩
        have HK2 := Lib.hid hb2
        clear hb2
        go_upto_region 6 with fail
        rw [← hW2]
        clear hW2
        obtain ⟨q0, hq0⟩ : ∃ q0, q0 = bs (P.getD 0 []) := ⟨_, rfl⟩
        have hw0 : W2.cell? ⟨b, o, none⟩ = some (.string q0) := by
          rw [HK2.out.cell (p := ⟨b, o, none⟩) hblt, hq0]
          have := HW.out 0 (by omega)
          simpa using this
        have HQ0 : Hid (q0.data.toList = P.getD 0 []) := Lib.hid (by rw [hq0, bs_list])
        have hq0s : q0.size ≤ 150 := by
          have h1 := getD_le l 0
          rw [← HP.out] at h1
          have h2 : q0.size = (P.getD 0 []).length := by rw [← HQ0.out, list_of_size]
          omega
        clear hq0
        obtain ⟨Q, hQ⟩ : ∃ Q, Q = spw 45 (P.getD 0 []) := ⟨_, rfl⟩
        have HQN : Hid (∀ k, k < Q.length → nthS (splL q0 45) k = bs (Q.getD k [])) := Lib.hid (fun k hk => by rw [hQ, ← HQ0.out] at hk ⊢; exact nthS_spl hk)
        have HQLn : Hid ((splL q0 45).length = Q.length) := Lib.hid (by rw [splL_len, hQ, HQ0.out])
        have HQB : Hid (∀ k, (Q.getD k []).length ≤ 150) := Lib.hid (fun k => by
          have h1 := getD_le' 45 (P.getD 0 []) k
          rw [← hQ] at h1
          have h2 : q0.size = (P.getD 0 []).length := by rw [← HQ0.out, list_of_size]
          omega)
        have HPS : Hid (psC l = psC1 l P Q) := Lib.hid (by rw [hQ, HP.out]; exact psC_one (by omega) (by rw [← HP.out]; omega) (by rw [← HP.out, HQL.out]; exact h7))
        clear hQ
        have HSP := Lib.hid (l1Split_any q0 45 W2 (by omega))
        go_wp2_with fail
        refine HSP.out.mono ?_
        rintro e w3 ⟨A2, c2, rfl, hi2, hb3⟩
        rw [HQLn.out]
        have H3 := Lib.hid (H2.out.call hb3)
        have HK3 := Lib.hid (HK2.out.trans (hb3.mono HK2.out.size))
        have HI2 := Lib.hid hi2
        clear hb3 hi2 hw0
        by_cases hq2 : Q.length = 2
        · have hq2i : ((Q.length : Int) != 2) = false := by rw [hq2]; rfl
          obtain ⟨b2, o2, rfl, hbl2, hfz2, hc2⟩ := HI2.out (by rw [HQLn.out]; omega)
          have HX : Hid (∀ k, k < Q.length → w3.cell? ⟨b2, o2 + k, none⟩ = some (.string (bs (Q.getD k [])))) := Lib.hid (fun k hk => by
            have := hc2 k (by rw [HQLn.out]; exact hk)
            unfold eStr at this
            rw [this]
            exact congrArg (fun x => some (Value.string x)) (HQN.out k hk))
          clear hfz2 hc2
          obtain ⟨x0, hx0⟩ : ∃ x0, x0 = bs (Q.getD 0 []) := ⟨_, rfl⟩
          have hg0 : w3.cell? ⟨b2, o2, none⟩ = some (.string x0) := by rw [hx0]; have := HX.out 0 (by omega); simpa using this
          obtain ⟨x1, hx1⟩ : ∃ x1, x1 = bs (Q.getD 1 []) := ⟨_, rfl⟩
          have HG1 : Hid (w3.cell? ⟨b2, o2 + 1, none⟩ = some (.string x1)) := Lib.hid (by rw [hx1]; exact HX.out 1 (by omega))
          have HL0 := l1Read_any x0 w3 (by rw [hx0, bs_size]; have := HQB.out 0; omega)
          have HL1 := fun W => l1Read_any x1 W (by rw [hx1, bs_size]; have := HQB.out 1; omega)
          rw [hx0, bs_list] at HL0
          rw [hx1, bs_list] at HL1
          rw [← hx0] at HL0
          rw [← hx1] at HL1
          clear hx0 hx1
          obtain ⟨f, hf⟩ : ∃ f, f = rdV (Q.getD 0 []) := ⟨_, rfl⟩
          obtain ⟨kf, hkf⟩ : ∃ kf, kf = rdK (Q.getD 0 []) := ⟨_, rfl⟩
          obtain ⟨t, ht⟩ : ∃ t, t = rdV (Q.getD 1 []) := ⟨_, rfl⟩
          obtain ⟨kt, hkt⟩ : ∃ kt, kt = rdK (Q.getD 1 []) := ⟨_, rfl⟩
          rw [← hf, ← hkf] at HL0
          rw [← ht, ← hkt] at HL1
          have HL0 := Lib.hid HL0
          have HL1 := Lib.hid HL1
          have HPS2 : Hid (psC l = psC2 l P f t kf kt) := Lib.hid (by rw [HPS.out, hf, ht, hkf, hkt]; exact psC1_two hq2)
          have hqa : 1 < Q.length := by omega
          have hqb : (1 : Int) < (Q.length : Int) := by omega
          clear hf hkf ht hkt hq2
          go_wp2_with fail
          refine HL0.out.mono ?_
          rintro e w4 ⟨rfl, q4, hq4⟩
          have H4 := Lib.hid (show FSt w4 w1.heap.size w.heap.size (w1.heap.size + 1 + 1) 0 0 0 (.slice (some ⟨w1.heap.size, 0, none⟩) 0 0) (.slice (some ⟨w1.heap.size + 1, 0, none⟩) 0 0) [] [] by rw [hq4]; exact H3.out.drewN q4)
          have HK4 := Lib.hid (show Below w1.heap.size w1 w4 by rw [hq4]; exact bel_drewN HK3.out q4)
          have hg1 : w4.cell? ⟨b2, o2 + 1, none⟩ = some (.string x1) := by rw [hq4]; exact HG1.out
          clear hq4 hg0
          go_wp2_with fail
          refine (HL1.out w4).mono ?_
          rintro e w5 ⟨rfl, q5, hq5⟩
          have H5 := Lib.hid (show FSt w5 w1.heap.size w.heap.size (w1.heap.size + 1 + 1) 0 0 0 (.slice (some ⟨w1.heap.size, 0, none⟩) 0 0) (.slice (some ⟨w1.heap.size + 1, 0, none⟩) 0 0) [] [] by rw [hq5]; exact H4.out.drewN q5)
          have HK5 := Lib.hid (show Below w1.heap.size w1 w5 by rw [hq5]; exact bel_drewN HK4.out q5)
          clear hq5 hg1
          cases kf
          · have HR : Hid (psC l = none) := Lib.hid (by rw [HPS2.out]; rfl)
            have HRz := Lib.hid (HR1.out.below HK5.out HR1.out.lt)
            have HZz := Lib.hid (HZ1.out.below HK5.out HZ1.out.lt)
            have HBz := Lib.hid (HB1.out.trans (HK5.out.mono HB1.out.size))
            obtain ⟨z0, z1, z2, z3, z4, zf, zl⟩ := HRz.out
            have zf0 := zf 0
            have zf1 := zf 1
            have zf2 := zf 2
            have zf3 := zf 3
            have zf4 := zf 4
            obtain ⟨y0, y1, y2, y3, y4, yf, yl⟩ := HZz.out
            have yf0 := yf 0
            have yf1 := yf 1
            have yf2 := yf 2
            have yf3 := yf 3
            have yf4 := yf 4
            go_wp2_with fail
            refine bodyPost_ret (v := .tuple #[.agg #[.int .i64 0, .int .i64 0, .int .i64 0, .slice none 0 0, .slice none 0 0], .bool false]) (by simp [results, Try.results4, go_sem, z0, z1, z2, z3, z4]) rfl ?_
            refine retPC_none HR.out (retCal_zero ?_)
            repeat' (refine Below.setCell ?_ (by simp) _)
            exact HBz.out
          · cases kt
            · have HR : Hid (psC l = none) := Lib.hid (by rw [HPS2.out]; rfl)
              have HRz := Lib.hid (HR1.out.below HK5.out HR1.out.lt)
              have HZz := Lib.hid (HZ1.out.below HK5.out HZ1.out.lt)
              have HBz := Lib.hid (HB1.out.trans (HK5.out.mono HB1.out.size))
              obtain ⟨z0, z1, z2, z3, z4, zf, zl⟩ := HRz.out
              have zf0 := zf 0
              have zf1 := zf 1
              have zf2 := zf 2
              have zf3 := zf 3
              have zf4 := zf 4
              obtain ⟨y0, y1, y2, y3, y4, yf, yl⟩ := HZz.out
              have yf0 := yf 0
              have yf1 := yf 1
              have yf2 := yf 2
              have yf3 := yf 3
              have yf4 := yf 4
              go_wp2_with fail
              refine bodyPost_ret (v := .tuple #[.agg #[.int .i64 0, .int .i64 0, .int .i64 0, .slice none 0 0, .slice none 0 0], .bool false]) (by simp [results, Try.results4, go_sem, z0, z1, z2, z3, z4]) rfl ?_
              refine retPC_none HR.out (retCal_zero ?_)
              repeat' (refine Below.setCell ?_ (by simp) _)
              exact HBz.out
            · have hgr : w.heap.size ≠ (w1.heap.size + 1 + 1) := by omega
              obtain ⟨c0, c1, c2, c3, c4, cf, cl⟩ := H5.out.c
              have cf0 := cf 0
              have cf1 := cf 1
              have cf2 := cf 2
              have cf3 := cf 3
              have cf4 := cf 4
              go_upto_region 15 with fail
              obtain ⟨W6, hW6⟩ : ∃ W6, W6 = (w5.setCell ⟨(w1.heap.size + 1 + 1), 0, none⟩ (.int .i64 f)).setCell ⟨(w1.heap.size + 1 + 1), 1, none⟩ (.int .i64 t) := ⟨_, rfl⟩
              rw [← hW6]
              have H6 := Lib.hid (show FSt W6 w1.heap.size w.heap.size (w1.heap.size + 1 + 1) f t 0 (.slice (some ⟨w1.heap.size, 0, none⟩) 0 0) (.slice (some ⟨w1.heap.size + 1, 0, none⟩) 0 0) [] [] by rw [hW6]; exact (H5.out.setF hgr _).setT hgr _)
              have HK6 := Lib.hid (show Below w1.heap.size w1 W6 by rw [hW6]; exact (HK5.out.setCell (by simp; omega) _).setCell (by simp; omega) _)
              clear hW6
              clear c0 c1 c2 c3 c4 cf cl cf0 cf1 cf2 cf3 cf4
              obtain ⟨m, hm⟩ : ∃ m, m = P.getD 1 [] := ⟨_, rfl⟩
              have HM := Lib.hid hm
              have HMK : Hid (∀ k : Nat, m[k]? = q1.data.toList[k]?) := Lib.hid (fun k => by rw [hm, HQ1.out])
              have hgq := get_bt q1
              have HS7 := Lib.hid h7
              clear hm h7
              go_wp2_with fail
              go_loopw [12] (fun i wr => ∃ k : Nat, k ≤ 7 ∧ i = .int .i64 k ∧ Below w1.heap.size w1 wr ∧ FSt wr w1.heap.size w.heap.size (w1.heap.size + 1 + 1) f t (wkS m k : Nat) (.slice (some ⟨w1.heap.size, 0, none⟩) 0 0) (.slice (some ⟨w1.heap.size + 1, 0, none⟩) 0 0) [] []) (fun i _ => 7 - (intOf i).toNat)
              case atStart => exact ⟨0, Nat.zero_le _, by go_num, HK6.out, H6.out⟩
              case round =>
                obtain ⟨k, hk, rfl, hb7, hst7⟩ := hrel
                have HK7 := Lib.hid hb7
                have H7 := Lib.hid hst7
                clear hb7 hst7
                by_cases hlt : k < 7
                · have hki : (k : Int) < 7 := by omega
                  have hk0 : (0 : Int) ≤ (k : Int) := by omega
                  have h1k : k < q1.size := by rw [HS7.out]; exact hlt
                  have h1i : (k : Int) < (q1.size : Int) := by omega
                  have HMk : Hid (m[k]? = some q1[k]) := Lib.hid (by rw [HMK.out k]; exact bt_get q1 k h1k)
                  have hfw := wkS_lt m k hk
                  have hpw := pow_small hlt
                  have hwr : wr.cell? ⟨b, o + 1, none⟩ = some (.string q1) := (HK7.out.cell (p := ⟨b, o + 1, none⟩) hblt).trans hw1
                  obtain ⟨c0, c1, c2, c3, c4, cf, cl⟩ := H7.out.c
                  have cf2 := cf 2
                  by_cases hD : bt q1 k = 46
                  · have vD : (bt q1 k != 46) = false := by rw [hD]; rfl
                    have vE : (bt q1 k == 46) = true := by rw [hD]; rfl
                    have HV : Hid (wkS m (k + 1) = wkS m k) := Lib.hid (by
                      have hmd : m[k]? = some 46 := by
                        rw [HMk.out]
                        congr 1
                        apply UInt8.toNat.inj
                        have h1 := get_bt q1 k h1k
                        show _ = 46
                        omega
                      conv => lhs; unfold wkS
                      rw [if_pos hmd])
                    clear hD
                    go_wp2_with fail
                    go_roundw
                    case rel => exact ⟨k + 1, by omega, by go_num, HK7.out, by rw [HV.out]; exact H7.out⟩
                    case measure => simp [intOf]; omega
                  · have vD : (bt q1 k != 46) = true := by simpa using hD
                    have vE : (bt q1 k == 46) = false := by simpa using hD
                    have HV : Hid (wkS m (k + 1) = wkS m k ||| 2 ^ k) := Lib.hid (by
                      have hmd : m[k]? ≠ some 46 := by
                        rw [HMk.out]
                        intro h
                        apply hD
                        simp only [Option.some.injEq] at h
                        have h1 := get_bt q1 k h1k
                        rw [h] at h1
                        exact h1.symm
                      conv => lhs; unfold wkS
                      rw [if_neg hmd])
                    have HOR := Lib.hid (or_pow (wkS m k) k hfw hlt)
                    clear hD
                    go_wp2_with fail
                    rw [HOR.out]
                    go_roundw
                    case rel => exact ⟨k + 1, by omega, by go_num, HK7.out.setCell (by simp; omega) _, by rw [HV.out]; exact H7.out.setD hgr _⟩
                    case measure => simp [intOf]; omega
                · obtain rfl : k = 7 := by omega
                  obtain ⟨d, hd⟩ : ∃ d, d = wkS m 7 := ⟨_, rfl⟩
                  rw [← hd] at H7
                  have HND : Hid (psE (P.drop 2) [] [] = none → psC l = none) := Lib.hid (fun h => by rw [HPS2.out]; exact psC2_none h)
                  have HNS : Hid (∀ us vs, psE (P.drop 2) [] [] = some (us, vs) → psC l = if calB f t (d : Nat) us vs = true ∧ calL f t (d : Nat) us vs = l then some (f, t, ((d : Nat) : Int), us, vs) else none) := Lib.hid (fun us vs h => by rw [HPS2.out, hd, HM.out]; exact psC2_some h)
                  have hd7 : d < 128 := by rw [hd]; exact wkS_lt m 7 (Nat.le_refl _)
                  have hPB : P.length ≤ 151 := by have := spw_len 32 l; rw [← HP.out] at this; omega
                  have HPB : Hid (∀ k, (P.getD k []).length ≤ 150) := Lib.hid (fun k => by have h1 := getD_le l k; rw [← HP.out] at h1; omega)
                  clear hd
                  go_wp2_with fail
                  go_loopw [13] (fun i wr => ∃ (k : Nat) (us vs : List Int) (va vb : Value), i = .int .i64 k ∧ 2 ≤ k ∧ k ≤ P.length ∧ us.length + vs.length ≤ k ∧ psE (P.drop k) us vs = psE (P.drop 2) [] [] ∧ Below w1.heap.size w1 wr ∧ FSt wr w1.heap.size w.heap.size (w1.heap.size + 1 + 1) f t (d : Nat) va vb us vs) (fun i _ => P.length - (intOf i).toNat)
                  case atStart => exact ⟨2, [], [], _, _, by go_num, by omega, by omega, by simp, rfl, HK7.out, H7.out⟩
                  case round =>
                    obtain ⟨k, us, vs, va, vb, rfl, hk2, hk, hul, hpe, hb8, hst8⟩ := hrel
                    have HPE := Lib.hid hpe
                    have HK8 := Lib.hid hb8
                    have H8 := Lib.hid hst8
                    clear hpe hb8 hst8
                    obtain ⟨wo, hwo⟩ : ∃ wo, wo = wr := ⟨_, rfl⟩
                    rw [← hwo] at HK8 H8 ⊢
                    clear hwo
                    by_cases hlt : k < P.length
                    · have hki : (k : Int) < (P.length : Int) := by omega
                      have hk0 : (0 : Int) ≤ (k : Int) := by omega
                      obtain ⟨pl, hpl⟩ : ∃ pl, pl = P.getD k [] := ⟨_, rfl⟩
                      have HDR : Hid (P.drop k = pl :: P.drop (k + 1)) := Lib.hid (by rw [hpl]; exact drop_getD hlt)
                      obtain ⟨p, hp⟩ : ∃ p, p = bs pl := ⟨_, rfl⟩
                      have HPQ : Hid (wo.cell? ⟨b, o + k, none⟩ = some (.string p)) := Lib.hid (by rw [hp, hpl]; exact (HK8.out.cell (p := ⟨b, o + k, none⟩) hblt).trans (HW.out k hlt))
                      have HPLs : Hid (p.data.toList = pl) := Lib.hid (by rw [hp, bs_list])
                      have HPZ : Hid (p.size = pl.length) := Lib.hid (by rw [hp, bs_size])
                      have hps : p.size ≤ 150 := by rw [hp, bs_size, hpl]; exact HPB.out k
                      have hgp := get_bt p
                      have hcp := HPQ.out
                      have HRF : Hid (psE (pl :: P.drop (k + 1)) us vs = none → psC l = none) := Lib.hid (fun h => HND.out (by rw [← HPE.out, HDR.out]; exact h))
                      clear hp hpl
                      by_cases h0 : p.size = 0
                      · have hnil : pl = [] := List.length_eq_zero_iff.1 (by rw [← HPZ.out]; exact h0)
                        have HR := Lib.hid (HRF.out (psE_nil hnil))
                        have he2 : p.toList.isEmpty = true := by rw [ByteArray.toList_eq, HPLs.out, hnil]; rfl
                        clear hnil h0
                        have HRz := Lib.hid (HR1.out.below HK8.out HR1.out.lt)
                        have HZz := Lib.hid (HZ1.out.below HK8.out HZ1.out.lt)
                        have HBz := Lib.hid (HB1.out.trans (HK8.out.mono HB1.out.size))
                        obtain ⟨z0, z1, z2, z3, z4, zf, zl⟩ := HRz.out
                        have zf0 := zf 0
                        have zf1 := zf 1
                        have zf2 := zf 2
                        have zf3 := zf 3
                        have zf4 := zf 4
                        obtain ⟨y0, y1, y2, y3, y4, yf, yl⟩ := HZz.out
                        have yf0 := yf 0
                        have yf1 := yf 1
                        have yf2 := yf 2
                        have yf3 := yf 3
                        have yf4 := yf 4
                        go_wp2_with fail
                        refine bodyPost_ret (v := .tuple #[.agg #[.int .i64 0, .int .i64 0, .int .i64 0, .slice none 0 0, .slice none 0 0], .bool false]) (by simp [results, Try.results4, go_sem, z0, z1, z2, z3, z4]) rfl ?_
                        refine retPC_none HR.out (retCal_zero ?_)
                        repeat' (refine Below.setCell ?_ (by simp) _)
                        exact HBz.out
                      · have HNE : Hid (pl ≠ []) := Lib.hid (fun h => h0 (by rw [HPZ.out, h]; rfl))
                        have he2 : p.toList.isEmpty = false := by
                          rw [ByteArray.toList_eq, HPLs.out]
                          cases hq : pl with
                          | nil => exact absurd hq HNE.out
                          | cons a b => rfl
                        have h1p : 1 ≤ p.size := by omega
                        have h1pi : (1 : Int) ≤ (p.size : Int) := by omega
                        have h0pi : (0 : Int) < (p.size : Int) := by omega
                        have h0p : 0 < p.size := by omega
                        have HL := l1Read_any (p.extract 1 p.size) wo (by rw [ByteArray.size_extract]; omega)
                        rw [ext_list, HPLs.out] at HL
                        obtain ⟨x, hx⟩ : ∃ x, x = rdV (pl.drop 1) := ⟨_, rfl⟩
                        obtain ⟨kx, hkx⟩ : ∃ kx, kx = rdK (pl.drop 1) := ⟨_, rfl⟩
                        rw [← hx, ← hkx] at HL
                        have HL := Lib.hid HL
                        have HX := Lib.hid hx
                        have HKX := Lib.hid hkx
                        clear hx hkx h0
                        go_wp2_with fail
                        refine HL.out.mono ?_
                        rintro e w9 ⟨rfl, q9, hq9⟩
                        have H9 := Lib.hid (show FSt w9 w1.heap.size w.heap.size (w1.heap.size + 1 + 1) f t (d : Nat) va vb us vs by rw [hq9]; exact H8.out.drewN q9)
                        have HK9 := Lib.hid (show Below w1.heap.size w1 w9 by rw [hq9]; exact bel_drewN HK8.out q9)
                        have hcq : w9.cell? ⟨b, o + k, none⟩ = some (.string p) := by rw [hq9]; exact HPQ.out
                        clear hq9 hcp
                        cases kx
                        · have HR := Lib.hid (HRF.out (psE_bad HNE.out (by rw [← HKX.out])))
                          have HRz := Lib.hid (HR1.out.below HK9.out HR1.out.lt)
                          have HZz := Lib.hid (HZ1.out.below HK9.out HZ1.out.lt)
                          have HBz := Lib.hid (HB1.out.trans (HK9.out.mono HB1.out.size))
                          obtain ⟨z0, z1, z2, z3, z4, zf, zl⟩ := HRz.out
                          have zf0 := zf 0
                          have zf1 := zf 1
                          have zf2 := zf 2
                          have zf3 := zf 3
                          have zf4 := zf 4
                          obtain ⟨y0, y1, y2, y3, y4, yf, yl⟩ := HZz.out
                          have yf0 := yf 0
                          have yf1 := yf 1
                          have yf2 := yf 2
                          have yf3 := yf 3
                          have yf4 := yf 4
                          go_wp2_with fail
                          refine bodyPost_ret (v := .tuple #[.agg #[.int .i64 0, .int .i64 0, .int .i64 0, .slice none 0 0, .slice none 0 0], .bool false]) (by simp [results, Try.results4, go_sem, z0, z1, z2, z3, z4]) rfl ?_
                          refine retPC_none HR.out (retCal_zero ?_)
                          repeat' (refine Below.setCell ?_ (by simp) _)
                          exact HBz.out
                        · obtain ⟨c0, c1, c2, c3, c4, cf, cl⟩ := H9.out.c
                          have cf3 := cf 3
                          have cf4 := cf 4
                          have e1 : us.length ≤ 16777216 := by omega
                          have e1v : vs.length ≤ 16777216 := by omega
                          have e2 : w1.heap.size ≤ w9.heap.size := by have := H9.out.c.lt; omega
                          have HH := Lib.hid (head_bt (s := p) (c := 43) h0p)
                          by_cases h43 : bt p 0 = 43
                          · have v43 : (bt p 0 == 43) = true := by rw [h43]; rfl
                            have HP2 : Hid (psE (P.drop (k + 1)) (us ++ [x]) vs = psE (P.drop 2) [] []) := Lib.hid (by rw [← HPE.out, HDR.out, psE_pl HNE.out (by rw [← HKX.out]) (by rw [← HPLs.out]; exact HH.out.2 h43), ← HX.out])
                            clear h43
                            go_wp2_with (at_builtin; go_loud (refine wp_appGI rfl _ _ rfl w1.heap.size _ us x _ H9.out.u rfl _ rfl (by simp) e1 e2 ?_; intro v' w' ho' hb' hs' hat' hz'; obtain ⟨A', n2, c', rfl⟩ := OwnE.form ho'; have HN := Lib.hid (H9.out.addU hgr ho' hs' hat' hz'); have HB' := Lib.hid (HK9.out.trans (hb'.mono (by omega))); have q3 := (H9.out.c.kept (hs' (w1.heap.size + 1 + 1) H9.out.c.lt H9.out.ga) hz').c3; have p3 := (H9.out.c.kept (hs' (w1.heap.size + 1 + 1) H9.out.c.lt H9.out.ga) hz').fr 3; have hz8 := Nat.le_trans e2 hz'; clear ho' hb' hs' hat' hz'))
                            refine ⟨?_, ?measure⟩
                            iterate 60 (try apply Exists.intro)
                            refine ⟨?rel, ?xx⟩
                            case xx => rfl
                            case rel => exact ⟨k + 1, us ++ [x], vs, _, _, by go_num, by omega, by omega, by simp; omega, HP2.out, HB'.out.setCell (p := ⟨(w1.heap.size + 1 + 1), 3, none⟩) (by simp; omega) _, HN.out⟩
                            case measure => simp [intOf]; omega
                          · have v43 : (bt p 0 == 43) = false := by simpa using h43
                            have HP2 : Hid (psE (P.drop (k + 1)) us (vs ++ [x]) = psE (P.drop 2) [] []) := Lib.hid (by rw [← HPE.out, HDR.out, psE_mi HNE.out (by rw [← HKX.out]) (by rw [← HPLs.out]; exact fun h => h43 (HH.out.1 h)), ← HX.out])
                            clear h43
                            go_wp2_with (at_builtin; go_loud (refine wp_appGI rfl _ _ rfl w1.heap.size _ vs x _ H9.out.v rfl _ rfl (by simp) e1v e2 ?_; intro v' w' ho' hb' hs' hat' hz'; obtain ⟨A', n2, c', rfl⟩ := OwnE.form ho'; have HN := Lib.hid (H9.out.addV hgr ho' hs' hat' hz'); have HB' := Lib.hid (HK9.out.trans (hb'.mono (by omega))); have q4 := (H9.out.c.kept (hs' (w1.heap.size + 1 + 1) H9.out.c.lt H9.out.gb) hz').c4; have p4 := (H9.out.c.kept (hs' (w1.heap.size + 1 + 1) H9.out.c.lt H9.out.gb) hz').fr 4; have hz8 := Nat.le_trans e2 hz'; clear ho' hb' hs' hat' hz'))
                            refine ⟨?_, ?measure⟩
                            iterate 60 (try apply Exists.intro)
                            refine ⟨?rel, ?xx⟩
                            case xx => rfl
                            case rel => exact ⟨k + 1, us, vs ++ [x], _, _, by go_num, by omega, by omega, by simp; omega, HP2.out, HB'.out.setCell (p := ⟨(w1.heap.size + 1 + 1), 4, none⟩) (by simp; omega) _, HN.out⟩
                            case measure => simp [intOf]; omega
                    · obtain rfl : k = P.length := by omega
                      have HRS : Hid (psC l = if calB f t (d : Nat) us vs = true ∧ calL f t (d : Nat) us vs = l then some (f, t, ((d : Nat) : Int), us, vs) else none) := Lib.hid (HNS.out us vs (by rw [← HPE.out, List.drop_length]; rfl))
                      obtain ⟨A1, ca1, he1, _, _, hi1⟩ := H8.out.u.ints
                      obtain ⟨R1, cr1, he2, _, _, hi2⟩ := H8.out.v.ints
                      subst he1
                      subst he2
                      have HJ2 := Lib.hid (IntsIn.at (hi1.to_below (Nat.le_refl _)))
                      have HJ3 := Lib.hid (IntsIn.at (hi2.to_below (Nat.le_refl _)))
                      have HJ4 := Lib.hid hi1
                      have HJ5 := Lib.hid hi2
                      obtain ⟨c0, c1, c2, c3, c4, cf, cl⟩ := H8.out.c
                      have cf0 := cf 0
                      have cf1 := cf 1
                      have cf2 := cf 2
                      have cf3 := cf 3
                      have cf4 := cf 4
                      clear hi1 hi2
                      have hun : us.length ≤ 1048576 := by omega
                      have hvn : vs.length ≤ 1048576 := by omega
                      go_wp2_with fail
                      refine (l3Good_any f t (d : Nat) _ _ _ _ us vs _ HJ2.out HJ3.out hun hvn).mono ?_
                      rintro e w9 ⟨rfl, hb9⟩
                      have H9 := Lib.hid (H8.out.call hb9)
                      have HK9 := Lib.hid (HK8.out.trans (hb9.mono HK8.out.size))
                      have HJ6 := Lib.hid ((HJ4.out.new_call hb9 (Nat.le_refl _)).to_below hb9.size)
                      have HJ7 := Lib.hid ((HJ5.out.new_call hb9 (Nat.le_refl _)).to_below hb9.size)
                      clear hb9
                      clear c0 c1 c2 c3 c4 cf cl cf0 cf1 cf2 cf3 cf4
                      cases hcal : calB f t (d : Nat) us vs
                      · have HR : Hid (psC l = none) := Lib.hid (by rw [HRS.out, hcal]; rfl)
                        have HRz := Lib.hid (HR1.out.below HK9.out HR1.out.lt)
                        have HZz := Lib.hid (HZ1.out.below HK9.out HZ1.out.lt)
                        have HBz := Lib.hid (HB1.out.trans (HK9.out.mono HB1.out.size))
                        obtain ⟨z0, z1, z2, z3, z4, zf, zl⟩ := HRz.out
                        have zf0 := zf 0
                        have zf1 := zf 1
                        have zf2 := zf 2
                        have zf3 := zf 3
                        have zf4 := zf 4
                        obtain ⟨y0, y1, y2, y3, y4, yf, yl⟩ := HZz.out
                        have yf0 := yf 0
                        have yf1 := yf 1
                        have yf2 := yf 2
                        have yf3 := yf 3
                        have yf4 := yf 4
                        go_wp2_with fail
                        refine bodyPost_ret (v := .tuple #[.agg #[.int .i64 0, .int .i64 0, .int .i64 0, .slice none 0 0, .slice none 0 0], .bool false]) (by simp [results, Try.results4, go_sem, z0, z1, z2, z3, z4]) rfl ?_
                        refine retPC_none HR.out (retCal_zero ?_)
                        repeat' (refine Below.setCell ?_ (by simp) _)
                        exact HBz.out
                      · have HCAL := Lib.hid hcal
                        obtain ⟨c0, c1, c2, c3, c4, cf, cl⟩ := H9.out.c
                        have cf0 := cf 0
                        have cf1 := cf 1
                        have cf2 := cf 2
                        have cf3 := cf 3
                        have cf4 := cf 4
                        obtain ⟨T, hT⟩ : ∃ T, T = calT f t (d : Nat) us vs := ⟨_, rfl⟩
                        have HT : Hid (T = bs (calL f t (d : Nat) us vs)) := Lib.hid (by rw [hT]; exact calT_list _ _ _ _ _)
                        have HX3 := l3Text_any f t (d : Nat) A1 R1 ca1 cr1 us vs w9 HJ6.out HJ7.out hcal
                        rw [← hT] at HX3
                        have HX3 := Lib.hid HX3
                        clear hT hcal
                        go_wp2_with fail
                        refine HX3.out.mono ?_
                        rintro e w10 ⟨rfl, hb10⟩
                        have H10 := Lib.hid (H9.out.call hb10)
                        have HK10 := Lib.hid (HK9.out.trans (hb10.mono HK9.out.size))
                        clear hb10
                        clear c0 c1 c2 c3 c4 cf cl cf0 cf1 cf2 cf3 cf4
                        by_cases hE : T = s
                        · have hEj : (T.toList == s.toList) = true := by rw [hE]; simp
                          have HR : Hid (psC l = some (f, t, ((d : Nat) : Int), us, vs)) := Lib.hid (by
                            rw [HRS.out, if_pos]
                            refine ⟨HCAL.out, ?_⟩
                            rw [HLL.out, ← hE, HT.out, bs_list])
                          clear hE
                          obtain ⟨c0, c1, c2, c3, c4, cf, cl⟩ := H10.out.c
                          have cf0 := cf 0
                          have cf1 := cf 1
                          have cf2 := cf 2
                          have cf3 := cf 3
                          have cf4 := cf 4
                          obtain ⟨z0, z1, z2, z3, z4, zf, zl⟩ := H10.out.z
                          have zf0 := zf 0
                          have zf1 := zf 1
                          have zf2 := zf 2
                          have zf3 := zf 3
                          have zf4 := zf 4
                          go_wp2_with fail
                          refine bodyPost_ret (v := .tuple #[.agg #[.int .i64 f, .int .i64 t, .int .i64 (d : Nat), .slice A1 us.length ca1, .slice R1 vs.length cr1], .bool true]) (by simp [results, Try.results4, go_sem, z0, z1, z2, z3, z4]) rfl ?_
                          have hcO := H10.out.calO (lo := w1.heap.size) rfl rfl (Nat.le_refl _)
                          refine retPC_some HR.out ⟨A1, ca1, R1, cr1, ?_, ?_, ?_⟩
                          · rfl
                          · refine CalO.wide (lo := w1.heap.size) (hi := w10.heap.size) ?_ (by omega) (by simp only [size_set]; exact Nat.le_refl _)
                            repeat' (refine CalO.set ?_ (by simp; omega) _)
                            exact hcO
                          · repeat' (refine Below.setCell ?_ (by simp) _)
                            exact HB1.out.trans (HK10.out.mono HB1.out.size)
                        · have hEj : (T.toList == s.toList) = false := by
                            apply Bool.eq_false_iff.2
                            intro h
                            have h2 := eq_of_beq h
                            rw [ByteArray.toList_eq, ByteArray.toList_eq] at h2
                            apply hE
                            rw [bs_of h2, bs_self]
                          have HR : Hid (psC l = none) := Lib.hid (by
                            rw [HRS.out, if_neg]
                            rintro ⟨_, h⟩
                            apply hE
                            rw [HT.out, h, HLL.out, bs_self])
                          clear hE
                          have HRz := Lib.hid (HR1.out.below HK10.out HR1.out.lt)
                          have HZz := Lib.hid (HZ1.out.below HK10.out HZ1.out.lt)
                          have HBz := Lib.hid (HB1.out.trans (HK10.out.mono HB1.out.size))
                          obtain ⟨z0, z1, z2, z3, z4, zf, zl⟩ := HRz.out
                          have zf0 := zf 0
                          have zf1 := zf 1
                          have zf2 := zf 2
                          have zf3 := zf 3
                          have zf4 := zf 4
                          obtain ⟨y0, y1, y2, y3, y4, yf, yl⟩ := HZz.out
                          have yf0 := yf 0
                          have yf1 := yf 1
                          have yf2 := yf 2
                          have yf3 := yf 3
                          have yf4 := yf 4
                          go_wp2_with fail
                          refine bodyPost_ret (v := .tuple #[.agg #[.int .i64 0, .int .i64 0, .int .i64 0, .slice none 0 0, .slice none 0 0], .bool false]) (by simp [results, Try.results4, go_sem, z0, z1, z2, z3, z4]) rfl ?_
                          refine retPC_none HR.out (retCal_zero ?_)
                          repeat' (refine Below.setCell ?_ (by simp) _)
                          exact HBz.out
        · have HR : Hid (psC l = none) := Lib.hid (by rw [HPS.out]; unfold psC1; rw [if_neg hq2])
          have hq2i : ((Q.length : Int) != 2) = true := by simp; omega
          have hq2j : ((Q.length : Int) == 2) = false := by simp; omega
          have HRz := Lib.hid (HR1.out.below HK3.out HR1.out.lt)
          have HZz := Lib.hid (HZ1.out.below HK3.out HZ1.out.lt)
          have HBz := Lib.hid (HB1.out.trans (HK3.out.mono HB1.out.size))
          obtain ⟨z0, z1, z2, z3, z4, zf, zl⟩ := HRz.out
          have zf0 := zf 0
          have zf1 := zf 1
          have zf2 := zf 2
          have zf3 := zf 3
          have zf4 := zf 4
          obtain ⟨y0, y1, y2, y3, y4, yf, yl⟩ := HZz.out
          have yf0 := yf 0
          have yf1 := yf 1
          have yf2 := yf 2
          have yf3 := yf 3
          have yf4 := yf 4
          go_wp2_with fail
          refine bodyPost_ret (v := .tuple #[.agg #[.int .i64 0, .int .i64 0, .int .i64 0, .slice none 0 0, .slice none 0 0], .bool false]) (by simp [results, Try.results4, go_sem, z0, z1, z2, z3, z4]) rfl ?_
          refine retPC_none HR.out (retCal_zero ?_)
          repeat' (refine Below.setCell ?_ (by simp) _)
          exact HBz.out
      · have HR : Hid (psC l = none) := Lib.hid (by unfold psC; rw [← HP.out, if_neg]; rintro ⟨_, _, h⟩; exact h7 (by rw [← HQL.out]; exact h))
        have h7i : ((q1.size : Int) != 7) = true := by simp; omega
        have h7j : ((q1.size : Int) == 7) = false := by simp; omega
        obtain ⟨z0, z1, z2, z3, z4, zf, zl⟩ := HR1.out
        have zf0 := zf 0
        have zf1 := zf 1
        have zf2 := zf 2
        have zf3 := zf 3
        have zf4 := zf 4
        obtain ⟨y0, y1, y2, y3, y4, yf, yl⟩ := HZ1.out
        have yf0 := yf 0
        have yf1 := yf 1
        have yf2 := yf 2
        have yf3 := yf 3
        have yf4 := yf 4
        go_wp2_with fail
        refine bodyPost_ret (v := .tuple #[.agg #[.int .i64 0, .int .i64 0, .int .i64 0, .slice none 0 0, .slice none 0 0], .bool false]) (by simp [results, Try.results4, go_sem, z0, z1, z2, z3, z4]) rfl ?_
        refine retPC_none HR.out (retCal_zero ?_)
        repeat' (refine Below.setCell ?_ (by simp) _)
        exact HB1.out
end Go.Proofs.Ytpipegdjflniaaa
