/- Are walks valid? The program's checker. -/
import Derived.Test.YtemhcobjhpifpaaWlk
import Derived.Test.YtemhcobjhpifpaaNetC
namespace Go.Proofs.Ytemhcobjhpifpaa
open Go.ChangeShapes Go.WideShapes Go.ChangeAt Go.RowKit Go.PlainAid
set_option linter.unusedVariables false
set_option linter.unusedSimpArgs false

/-- Is a walk valid? -/
def WkOk (n : Nat) (x : I3) : Prop := 0 ≤ x.a ∧ x.a < x.b ∧ x.b < n ∧ 1 ≤ x.c ∧ x.c ≤ 120
def WkLt (p x : I3) : Prop := p.a < x.a ∨ (p.a = x.a ∧ p.b < x.b)
def WkAt (n : Nat) (xs : List I3) (k : Nat) : Prop := WkOk n (nth3 xs k) ∧ (0 < k → WkLt (nth3 xs (k - 1)) (nth3 xs k))
def WalksOk (n : Nat) (xs : List I3) : Prop := xs.length ≤ 12 ∧ ∀ k, k < xs.length → WkAt n xs k
instance (n : Nat) (xs : List I3) : Decidable (WalksOk n xs) := by unfold WalksOk WkAt WkOk WkLt; exact inferInstance
/-- Are walks valid? -/
def walksB (n : Nat) (xs : List I3) : Bool := decide (WalksOk n xs)
theorem walksB_no {n : Nat} {xs : List I3} (h : ¬ WalksOk n xs) : walksB n xs = false := decide_eq_false h
theorem walksB_yes {n : Nat} {xs : List I3} (h : WalksOk n xs) : walksB n xs = true := decide_eq_true h
theorem walksB_ok {n : Nat} {xs : List I3} (h : walksB n xs = true) : WalksOk n xs := of_decide_eq_true h

/-! ### Comparisons -/
def cmpI (a b : Int) : Int := if a < b then -1 else if b < a then 1 else 0
def orI (a b : Int) : Int := if a = 0 then b else a
theorem orI_lt (p x : I3) : orI (cmpI p.a x.a) (cmpI p.b x.b) < 0 ↔ WkLt p x := by
  unfold orI cmpI WkLt
  by_cases h1 : p.a < x.a
  · simp [h1]
  · by_cases h2 : x.a < p.a
    · simp [h1, h2]; omega
    · have e : p.a = x.a := by omega
      by_cases h3 : p.b < x.b
      · simp [e, h3]
      · by_cases h4 : x.b < p.b
        · simp [e, h3, h4]
        · simp [e, h3, h4]
theorem isNaN_any (a : Int) (w : World) :
    Calls Try.prog 64 #[.int .i64 a] w fun e w' => e = .returned (.bool false) ∧ w = w' := by
  go_enter Try.func64, Try.ntmps64
  go_wp2
  go_ret
  exact ⟨by simp, rfl⟩
theorem compare_any (a b : Int) (w : World) :
    Calls Try.prog 56 #[.int .i64 a, .int .i64 b] w fun e w' => e = .returned (.int .i64 (cmpI a b)) ∧ w = w' := by
  by_cases h1 : a < b
  · have H := Lib.hid (show cmpI a b = -1 from if_pos h1)
    go_enter Try.func56, Try.ntmps56
    go_wp2_with (go_at_call 64; refine (isNaN_any _ _).mono ?_; rintro e w1 ⟨rfl, rfl⟩)
    go_ret
    exact ⟨retI H.out.symm, rfl⟩
  · by_cases h2 : b < a
    · have H := Lib.hid (show cmpI a b = 1 by unfold cmpI; rw [if_neg h1, if_pos h2])
      go_enter Try.func56, Try.ntmps56
      go_wp2_with (go_at_call 64; refine (isNaN_any _ _).mono ?_; rintro e w1 ⟨rfl, rfl⟩)
      go_ret
      exact ⟨retI H.out.symm, rfl⟩
    · have H := Lib.hid (show cmpI a b = 0 by unfold cmpI; rw [if_neg h1, if_neg h2])
      go_enter Try.func56, Try.ntmps56
      go_wp2_with (go_at_call 64; refine (isNaN_any _ _).mono ?_; rintro e w1 ⟨rfl, rfl⟩)
      go_ret
      exact ⟨retI H.out.symm, rfl⟩
theorem cmpOr_any (g : Nat) (a b : Int) (w : World) (h0 : w.cell? ⟨g, 0, none⟩ = some (.int .i64 a)) (h1 : w.cell? ⟨g, 1, none⟩ = some (.int .i64 b)) :
    Calls Try.prog 55 #[.slice (some ⟨g, 0, none⟩) 2 2] w fun e w' => e = .returned (.int .i64 (orI a b)) ∧ w = w' := by
  have H0 := Lib.hid h0
  have H1 := Lib.hid h1
  clear h0 h1
  go_enter Try.func55, Try.ntmps55
  go_wp2
  go_loopw [8] (fun i wr => ∃ k : Nat, k ≤ 2 ∧ i = .int .i64 k ∧ (0 < k → a = 0) ∧ (1 < k → b = 0) ∧ w = wr) (fun i _ => 2 - (intOf i).toNat)
  case atStart => exact ⟨0, by omega, rfl, by omega, by omega, rfl⟩
  case round =>
    obtain ⟨k, hk, rfl, ha, hb, rfl⟩ := hrel
    have HA := Lib.hid ha
    have HB := Lib.hid hb
    clear ha hb
    by_cases h2 : k < 2
    · have hc : w.cell? ⟨g, k, none⟩ = some (.int .i64 (if k = 0 then a else b)) := by
        by_cases e : k = 0
        · subst e; exact H0.out
        · obtain rfl : k = 1 := by omega
          exact H1.out
      by_cases hz : (if k = 0 then a else b) = 0
      · have HK : Hid ((0 < k + 1 → a = 0) ∧ (1 < k + 1 → b = 0)) := Lib.hid (by
          by_cases e : k = 0
          · subst e; simp at hz; exact ⟨fun _ => hz, fun h => by omega⟩
          · rw [if_neg e] at hz; exact ⟨fun _ => HA.out (by omega), fun _ => hz⟩)
        rw [hz] at hc
        clear hz
        go_wp2
        go_roundw
        case rel => exact ⟨k + 1, by omega, by go_num, HK.out.1, HK.out.2, trivial⟩
        case measure => simp [intOf]; omega
      · have HR : Hid (orI a b = if k = 0 then a else b) := Lib.hid (by
          unfold orI
          by_cases e : k = 0
          · subst e; simp at hz ⊢; intro h; exact absurd h hz
          · rw [if_neg e, if_pos (HA.out (by omega))])
        generalize (if k = 0 then a else b) = u at *
        go_wp2
        go_ret
        exact ⟨retI HR.out.symm, rfl⟩
    · have HR : Hid (orI a b = 0) := Lib.hid (by
        unfold orI
        rw [if_pos (HA.out (by omega))]
        exact HB.out (by omega))
      go_wp2
      go_ret
      exact ⟨retI HR.out.symm, rfl⟩

/-- A walk in a box. -/
def Wk3 (w : World) (g : Nat) (x : I3) : Prop := w.cell? ⟨g, 0, none⟩ = some (.int .i64 x.a) ∧ w.cell? ⟨g, 1, none⟩ = some (.int .i64 x.b) ∧ w.cell? ⟨g, 2, none⟩ = some (.int .i64 x.c)
theorem Wk3.below {w w' : World} {g B : Nat} {x : I3} (h : Wk3 w g x) (hb : Below B w w') (hg : g < B) : Wk3 w' g x :=
  ⟨(hb.cell (p := ⟨g, 0, none⟩) hg).trans h.1, (hb.cell (p := ⟨g, 1, none⟩) hg).trans h.2.1, (hb.cell (p := ⟨g, 2, none⟩) hg).trans h.2.2⟩

set_option maxRecDepth 100000 in
set_option maxHeartbeats 4000000 in
theorem areWalks_any (x : NetD) (A L V : Option Addr) (ca cl cv : Nat) (xs : List I3) (w : World) (hV : I3sIn w (Zone.below w.heap.size) V xs) (hn : x.stops.length ≤ 1048576) (hv : xs.length ≤ 1048576) :
    Calls Try.prog 43 #[.agg #[.slice A x.stops.length ca, .slice L x.lines.length cl], .slice V xs.length cv] w fun e w' => e = .returned (.bool (walksB x.stops.length xs)) ∧ Below w.heap.size w w' := by
  have hb0 : Below w.heap.size w (w.alloc (.cells #[.slice A x.stops.length ca, .slice L x.lines.length cl] 34)) := by go_grown
  have HN0 : Hid (Net2 (w.alloc (.cells #[.slice A x.stops.length ca, .slice L x.lines.length cl] 34)) w.heap.size x A ca L cl) := Lib.hid ⟨by go_simp, by go_simp⟩
  have HV0 := Lib.hid (hV.call hb0)
  have HB0 := Lib.hid hb0
  have hz0 : w.heap.size < (w.alloc (.cells #[.slice A x.stops.length ca, .slice L x.lines.length cl] 34)).heap.size := by simp
  clear hV hb0
  by_cases hl : xs.length ≤ 12
  · go_enter Try.func43, Try.ntmps43
    go_wp2_with fail
    generalize (w.alloc (.cells #[.slice A x.stops.length ca, .slice L x.lines.length cl] 34)) = w0 at *
    go_loopw [5, 6, 12] (fun _ _ i wr => ∃ k : Nat, k ≤ xs.length ∧ i = .int .i64 k ∧ (∀ j, j < k → WkAt x.stops.length xs j) ∧ Below w0.heap.size w0 wr) (fun _ _ i _ => xs.length - (intOf i).toNat)
    case atStart => exact ⟨0, Nat.zero_le _, rfl, fun j hj => by omega, Below.refl _ _⟩
    case round =>
      obtain ⟨k, hk, rfl, ha, hb⟩ := hrel
      have HA := Lib.hid ha
      have HB := Lib.hid hb
      have hz := hb.size
      clear ha
      by_cases hlt : k < xs.length
      · obtain ⟨b, o, rfl, hbl, hc0, hc1, hc2⟩ := I3sIn.at (HV0.out.call hb) hlt
        have hik : (k : Int) < (xs.length : Int) := by omega
        have HN1 := Lib.hid (HN0.out.below hb hz0)
        have hzn : w.heap.size < wr.heap.size := by omega
        clear hb
        obtain ⟨n0, n1⟩ := HN1.out
        obtain ⟨y, hy⟩ : ∃ y, y = nth3 xs k := ⟨_, rfl⟩
        rw [← hy] at hc0 hc1 hc2
        have HY := Lib.hid hy
        have HC : Hid (wr.cell? ⟨b, o + k * 3, none⟩ = some (.int .i64 y.a) ∧ wr.cell? ⟨b, o + k * 3 + 1, none⟩ = some (.int .i64 y.b) ∧ wr.cell? ⟨b, o + k * 3 + 2, none⟩ = some (.int .i64 y.c)) := Lib.hid ⟨hc0, hc1, hc2⟩
        clear hy
        have hb1 : Below wr.heap.size wr (wr.alloc (.cells #[.int .i64 y.a, .int .i64 y.b, .int .i64 y.c] 53)) := by go_grown
        have HW1 : Hid (Wk3 (wr.alloc (.cells #[.int .i64 y.a, .int .i64 y.b, .int .i64 y.c] 53)) wr.heap.size y) := Lib.hid ⟨by go_simp, by go_simp, by go_simp⟩
        have HN2 := Lib.hid (HN1.out.below hb1 hzn)
        have hzw : wr.heap.size < (wr.alloc (.cells #[.int .i64 y.a, .int .i64 y.b, .int .i64 y.c] 53)).heap.size := by simp
        have HB1 := Lib.hid (HB.out.trans (hb1.mono hz))
        have HV1 := Lib.hid (HV0.out.call HB1.out)
        clear hb1
        obtain ⟨wb, hwb⟩ : ∃ wb, wb = (wr.alloc (.cells #[.int .i64 y.a, .int .i64 y.b, .int .i64 y.c] 53)) := ⟨_, rfl⟩
        rw [← hwb] at HW1 HN2 hzw HB1 HV1
        have HWB := Lib.hid hwb
        clear hwb
        cases g1 : inB y.a 0 (x.stops.length - 1)
        · have H := Lib.hid (walksB_no (n := x.stops.length) (xs := xs) (fun h => by have h1 := (h.2 k hlt).1; rw [← HY.out] at h1; unfold WkOk at h1; have := inB_iff'.1 g1; omega))
          go_wp2_with fail
          rw [← HWB.out]
          refine (isStop_any x _ _ _ _ y.a _ hn).mono ?_
          rintro e w1 ⟨rfl, hb2⟩
          have HW2 := Lib.hid (HW1.out.below hb2 hzw)
          have HN3 := Lib.hid (HN2.out.below hb2 (by omega))
          have HB2 := Lib.hid (HB1.out.trans (hb2.mono (by omega)))
          have hz2 := hb2.size
          have HB12 := Lib.hid hb2
          clear hb2 n0 n1
          obtain ⟨n0, n1⟩ := HN3.out
          obtain ⟨k0, k1, k2⟩ := HW2.out
          go_wp2_with (first | (go_at_call 51; refine (within_any _ _ _ _).mono ?_; rintro e w3 ⟨rfl, rfl⟩))
          go_ret
          exact ⟨retB H.out.symm, HB0.out.trans (HB2.out.mono HB0.out.size)⟩
        cases g2 : inB y.b 0 (x.stops.length - 1)
        · have H := Lib.hid (walksB_no (n := x.stops.length) (xs := xs) (fun h => by have h1 := (h.2 k hlt).1; rw [← HY.out] at h1; unfold WkOk at h1; have := inB_iff'.1 g2; omega))
          go_wp2_with fail
          rw [← HWB.out]
          refine (isStop_any x _ _ _ _ y.a _ hn).mono ?_
          rintro e w1 ⟨rfl, hb2⟩
          have HW2 := Lib.hid (HW1.out.below hb2 hzw)
          have HN3 := Lib.hid (HN2.out.below hb2 (by omega))
          have HB2 := Lib.hid (HB1.out.trans (hb2.mono (by omega)))
          have hz2 := hb2.size
          have HB12 := Lib.hid hb2
          clear hb2 n0 n1
          obtain ⟨n0, n1⟩ := HN3.out
          obtain ⟨k0, k1, k2⟩ := HW2.out
          go_wp2_with fail
          refine (isStop_any x _ _ _ _ y.b _ hn).mono ?_
          rintro e w2 ⟨rfl, hb3⟩
          have HW3 := Lib.hid (HW2.out.below hb3 (by omega))
          have HN4 := Lib.hid (HN3.out.below hb3 (by omega))
          have HB3 := Lib.hid (HB2.out.trans (hb3.mono (by omega)))
          have hz3 := hb3.size
          have HB12 := Lib.hid (HB12.out.trans (hb3.mono (by omega)))
          clear hb3 n0 n1 k0 k1 k2
          obtain ⟨n0, n1⟩ := HN4.out
          obtain ⟨k0, k1, k2⟩ := HW3.out
          go_wp2_with (first | (go_at_call 51; refine (within_any _ _ _ _).mono ?_; rintro e w3 ⟨rfl, rfl⟩))
          go_ret
          exact ⟨retB H.out.symm, HB0.out.trans (HB3.out.mono HB0.out.size)⟩
        by_cases g3 : y.b ≤ y.a
        · have H := Lib.hid (walksB_no (n := x.stops.length) (xs := xs) (fun h => by have h1 := (h.2 k hlt).1; rw [← HY.out] at h1; unfold WkOk at h1; have := g3; omega))
          go_wp2_with fail
          rw [← HWB.out]
          refine (isStop_any x _ _ _ _ y.a _ hn).mono ?_
          rintro e w1 ⟨rfl, hb2⟩
          have HW2 := Lib.hid (HW1.out.below hb2 hzw)
          have HN3 := Lib.hid (HN2.out.below hb2 (by omega))
          have HB2 := Lib.hid (HB1.out.trans (hb2.mono (by omega)))
          have hz2 := hb2.size
          have HB12 := Lib.hid hb2
          clear hb2 n0 n1
          obtain ⟨n0, n1⟩ := HN3.out
          obtain ⟨k0, k1, k2⟩ := HW2.out
          go_wp2_with fail
          refine (isStop_any x _ _ _ _ y.b _ hn).mono ?_
          rintro e w2 ⟨rfl, hb3⟩
          have HW3 := Lib.hid (HW2.out.below hb3 (by omega))
          have HN4 := Lib.hid (HN3.out.below hb3 (by omega))
          have HB3 := Lib.hid (HB2.out.trans (hb3.mono (by omega)))
          have hz3 := hb3.size
          have HB12 := Lib.hid (HB12.out.trans (hb3.mono (by omega)))
          clear hb3 n0 n1 k0 k1 k2
          obtain ⟨n0, n1⟩ := HN4.out
          obtain ⟨k0, k1, k2⟩ := HW3.out
          go_wp2_with (first | (go_at_call 51; refine (within_any _ _ _ _).mono ?_; rintro e w3 ⟨rfl, rfl⟩))
          go_ret
          exact ⟨retB H.out.symm, HB0.out.trans (HB3.out.mono HB0.out.size)⟩
        cases g4 : inB y.c 1 120
        · have H := Lib.hid (walksB_no (n := x.stops.length) (xs := xs) (fun h => by have h1 := (h.2 k hlt).1; rw [← HY.out] at h1; unfold WkOk at h1; have := inB_iff'.1 g4; omega))
          go_wp2_with fail
          rw [← HWB.out]
          refine (isStop_any x _ _ _ _ y.a _ hn).mono ?_
          rintro e w1 ⟨rfl, hb2⟩
          have HW2 := Lib.hid (HW1.out.below hb2 hzw)
          have HN3 := Lib.hid (HN2.out.below hb2 (by omega))
          have HB2 := Lib.hid (HB1.out.trans (hb2.mono (by omega)))
          have hz2 := hb2.size
          have HB12 := Lib.hid hb2
          clear hb2 n0 n1
          obtain ⟨n0, n1⟩ := HN3.out
          obtain ⟨k0, k1, k2⟩ := HW2.out
          go_wp2_with fail
          refine (isStop_any x _ _ _ _ y.b _ hn).mono ?_
          rintro e w2 ⟨rfl, hb3⟩
          have HW3 := Lib.hid (HW2.out.below hb3 (by omega))
          have HN4 := Lib.hid (HN3.out.below hb3 (by omega))
          have HB3 := Lib.hid (HB2.out.trans (hb3.mono (by omega)))
          have hz3 := hb3.size
          have HB12 := Lib.hid (HB12.out.trans (hb3.mono (by omega)))
          clear hb3 n0 n1 k0 k1 k2
          obtain ⟨n0, n1⟩ := HN4.out
          obtain ⟨k0, k1, k2⟩ := HW3.out
          go_wp2_with (first | (go_at_call 51; refine (within_any _ _ _ _).mono ?_; rintro e w3 ⟨rfl, rfl⟩))
          go_ret
          exact ⟨retB H.out.symm, HB0.out.trans (HB3.out.mono HB0.out.size)⟩
        have HOK : Hid (WkOk x.stops.length (nth3 xs k)) := Lib.hid (by
          rw [← HY.out]
          have h1 := inB_iff.1 g1
          have h2 := inB_iff.1 g2
          have h4 := inB_iff.1 g4
          unfold WkOk
          omega)
        by_cases hk0 : k = 0
        · have HG : Hid (∀ j, j < k + 1 → WkAt x.stops.length xs j) := Lib.hid (fun j hj => by
            by_cases e : j = k
            · subst e; exact ⟨HOK.out, fun h => by omega⟩
            · exact HA.out j (by omega))
          have HK0 := Lib.hid hk0
          clear hk0
          go_wp2_with fail
          rw [← HWB.out]
          refine (isStop_any x _ _ _ _ y.a _ hn).mono ?_
          rintro e w1 ⟨rfl, hb2⟩
          have HW2 := Lib.hid (HW1.out.below hb2 hzw)
          have HN3 := Lib.hid (HN2.out.below hb2 (by omega))
          have HB2 := Lib.hid (HB1.out.trans (hb2.mono (by omega)))
          have hz2 := hb2.size
          have HB12 := Lib.hid hb2
          clear hb2 n0 n1
          obtain ⟨n0, n1⟩ := HN3.out
          obtain ⟨k0, k1, k2⟩ := HW2.out
          go_wp2_with fail
          refine (isStop_any x _ _ _ _ y.b _ hn).mono ?_
          rintro e w2 ⟨rfl, hb3⟩
          have HW3 := Lib.hid (HW2.out.below hb3 (by omega))
          have HN4 := Lib.hid (HN3.out.below hb3 (by omega))
          have HB3 := Lib.hid (HB2.out.trans (hb3.mono (by omega)))
          have hz3 := hb3.size
          have HB12 := Lib.hid (HB12.out.trans (hb3.mono (by omega)))
          clear hb3 n0 n1 k0 k1 k2
          obtain ⟨n0, n1⟩ := HN4.out
          obtain ⟨k0, k1, k2⟩ := HW3.out
          go_wp2_with (go_at_call 51; refine (within_any _ _ _ _).mono ?_; rintro e w3 ⟨rfl, rfl⟩)
          have hkd : decide (0 < k) = false := by rw [HK0.out]; rfl
          refine wp_region_held_drew (S := fun w' => Below w2.heap.size w2 w') (by kernel_rfl) (bel_drew (Below.refl _ _)) (fun hHeld => ?_)
          refine wpAnyH_take (i := 0) (v := ?_) rfl (by kernel_rfl) (by kernel_rfl) (by kernel_rfl) (fun _ _ _ h => h) (Or.inl ⟨by rfl, ?_⟩) hHeld ?_
          rotate_left 1
          · intro w hSw; (try dsimp only at hSw); first | (go_simp; done) | (go_simp; with_reducible rfl) | (go_simp; rfl)
          try simp only [Act.put, List.getElem_toArray, List.getElem_cons_succ, List.getElem_cons_zero, List.setIfInBounds_toArray, List.set_cons_zero, List.set_cons_succ]
          refine wpAnyH_take (i := 1) (v := ?_) rfl (by kernel_rfl) (by kernel_rfl) (by kernel_rfl) (fun _ _ _ h => h) (Or.inl ⟨by rfl, ?_⟩) hHeld ?_
          rotate_left 1
          · intro w hSw; (try dsimp only at hSw); first | (go_simp; done) | (go_simp; with_reducible rfl) | (go_simp; rfl)
          try simp only [Act.put, List.getElem_toArray, List.getElem_cons_succ, List.getElem_cons_zero, List.setIfInBounds_toArray, List.set_cons_zero, List.set_cons_succ]
          refine wpAnyH_take (i := 2) (v := ?_) rfl (by kernel_rfl) (by kernel_rfl) (by kernel_rfl) (fun _ _ _ h => h) (Or.inl ⟨by rfl, ?_⟩) hHeld ?_
          rotate_left 1
          · intro w hSw; (try dsimp only at hSw); first | (go_simp; done) | (go_simp; with_reducible rfl) | (go_simp; rfl)
          try simp only [Act.put, List.getElem_toArray, List.getElem_cons_succ, List.getElem_cons_zero, List.setIfInBounds_toArray, List.set_cons_zero, List.set_cons_succ]
          refine wpAnyH_take (i := 3) (v := undef) rfl (by kernel_rfl) (by kernel_rfl) (by kernel_rfl) (fun _ _ _ h => h) (Or.inr ⟨by rfl, rfl⟩) hHeld ?_
          try simp only [Act.put, List.getElem_toArray, List.getElem_cons_succ, List.getElem_cons_zero, List.setIfInBounds_toArray, List.set_cons_zero, List.set_cons_succ]
          refine wpAnyH_take (i := 4) (v := undef) rfl (by kernel_rfl) (by kernel_rfl) (by kernel_rfl) (fun _ _ _ h => h) (Or.inr ⟨by rfl, rfl⟩) hHeld ?_
          try simp only [Act.put, List.getElem_toArray, List.getElem_cons_succ, List.getElem_cons_zero, List.setIfInBounds_toArray, List.set_cons_zero, List.set_cons_succ]
          refine wpAnyH_take (i := 5) (v := undef) rfl (by kernel_rfl) (by kernel_rfl) (by kernel_rfl) (fun _ _ _ h => h) (Or.inr ⟨by rfl, rfl⟩) hHeld ?_
          try simp only [Act.put, List.getElem_toArray, List.getElem_cons_succ, List.getElem_cons_zero, List.setIfInBounds_toArray, List.set_cons_zero, List.set_cons_succ]
          refine wpAnyH_take (i := 6) (v := undef) rfl (by kernel_rfl) (by kernel_rfl) (by kernel_rfl) (fun _ _ _ h => h) (Or.inr ⟨by rfl, rfl⟩) hHeld ?_
          try simp only [Act.put, List.getElem_toArray, List.getElem_cons_succ, List.getElem_cons_zero, List.setIfInBounds_toArray, List.set_cons_zero, List.set_cons_succ]
          refine wpAnyH_take (i := 7) (v := undef) rfl (by kernel_rfl) (by kernel_rfl) (by kernel_rfl) (fun _ _ _ h => h) (Or.inr ⟨by rfl, rfl⟩) hHeld ?_
          try simp only [Act.put, List.getElem_toArray, List.getElem_cons_succ, List.getElem_cons_zero, List.setIfInBounds_toArray, List.set_cons_zero, List.set_cons_succ]
          refine wpAnyH_take (i := 8) (v := undef) rfl (by kernel_rfl) (by kernel_rfl) (by kernel_rfl) (fun _ _ _ h => h) (Or.inr ⟨by rfl, rfl⟩) hHeld ?_
          try simp only [Act.put, List.getElem_toArray, List.getElem_cons_succ, List.getElem_cons_zero, List.setIfInBounds_toArray, List.set_cons_zero, List.set_cons_succ]
          refine wpAnyH_take (i := 9) (v := undef) rfl (by kernel_rfl) (by kernel_rfl) (by kernel_rfl) (fun _ _ _ h => h) (Or.inr ⟨by rfl, rfl⟩) hHeld ?_
          try simp only [Act.put, List.getElem_toArray, List.getElem_cons_succ, List.getElem_cons_zero, List.setIfInBounds_toArray, List.set_cons_zero, List.set_cons_succ]
          refine wpAnyH_take (i := 10) (v := undef) rfl (by kernel_rfl) (by kernel_rfl) (by kernel_rfl) (fun _ _ _ h => h) (Or.inr ⟨by rfl, rfl⟩) hHeld ?_
          try simp only [Act.put, List.getElem_toArray, List.getElem_cons_succ, List.getElem_cons_zero, List.setIfInBounds_toArray, List.set_cons_zero, List.set_cons_succ]
          refine wpAnyH_take (i := 11) (v := undef) rfl (by kernel_rfl) (by kernel_rfl) (by kernel_rfl) (fun _ _ _ h => h) (Or.inr ⟨by rfl, rfl⟩) hHeld ?_
          try simp only [Act.put, List.getElem_toArray, List.getElem_cons_succ, List.getElem_cons_zero, List.setIfInBounds_toArray, List.set_cons_zero, List.set_cons_succ]
          refine wpAnyH_take (i := 12) (v := undef) rfl (by kernel_rfl) (by kernel_rfl) (by kernel_rfl) (fun _ _ _ h => h) (Or.inr ⟨by rfl, rfl⟩) hHeld ?_
          try simp only [Act.put, List.getElem_toArray, List.getElem_cons_succ, List.getElem_cons_zero, List.setIfInBounds_toArray, List.set_cons_zero, List.set_cons_succ]
          refine wpAnyH_take (i := 13) (v := undef) rfl (by kernel_rfl) (by kernel_rfl) (by kernel_rfl) (fun _ _ _ h => h) (Or.inr ⟨by rfl, rfl⟩) hHeld ?_
          try simp only [Act.put, List.getElem_toArray, List.getElem_cons_succ, List.getElem_cons_zero, List.setIfInBounds_toArray, List.set_cons_zero, List.set_cons_succ]
          refine wpAnyH_take (i := 14) (v := undef) rfl (by kernel_rfl) (by kernel_rfl) (by kernel_rfl) (fun _ _ _ h => h) (Or.inr ⟨by rfl, rfl⟩) hHeld ?_
          try simp only [Act.put, List.getElem_toArray, List.getElem_cons_succ, List.getElem_cons_zero, List.setIfInBounds_toArray, List.set_cons_zero, List.set_cons_succ]
          refine wpAnyH_take (i := 15) (v := undef) rfl (by kernel_rfl) (by kernel_rfl) (by kernel_rfl) (fun _ _ _ h => h) (Or.inr ⟨by rfl, rfl⟩) hHeld ?_
          try simp only [Act.put, List.getElem_toArray, List.getElem_cons_succ, List.getElem_cons_zero, List.setIfInBounds_toArray, List.set_cons_zero, List.set_cons_succ]
          refine wpAnyH_take (i := 16) (v := undef) rfl (by kernel_rfl) (by kernel_rfl) (by kernel_rfl) (fun _ _ _ h => h) (Or.inr ⟨by rfl, rfl⟩) hHeld ?_
          try simp only [Act.put, List.getElem_toArray, List.getElem_cons_succ, List.getElem_cons_zero, List.setIfInBounds_toArray, List.set_cons_zero, List.set_cons_succ]
          refine wpAnyH_take (i := 17) (v := undef) rfl (by kernel_rfl) (by kernel_rfl) (by kernel_rfl) (fun _ _ _ h => h) (Or.inr ⟨by rfl, rfl⟩) hHeld ?_
          try simp only [Act.put, List.getElem_toArray, List.getElem_cons_succ, List.getElem_cons_zero, List.setIfInBounds_toArray, List.set_cons_zero, List.set_cons_succ]
          refine wpAnyH_take (i := 18) (v := undef) rfl (by kernel_rfl) (by kernel_rfl) (by kernel_rfl) (fun _ _ _ h => h) (Or.inr ⟨by rfl, rfl⟩) hHeld ?_
          try simp only [Act.put, List.getElem_toArray, List.getElem_cons_succ, List.getElem_cons_zero, List.setIfInBounds_toArray, List.set_cons_zero, List.set_cons_succ]
          refine wpAnyH_take (i := 19) (v := undef) rfl (by kernel_rfl) (by kernel_rfl) (by kernel_rfl) (fun _ _ _ h => h) (Or.inr ⟨by rfl, rfl⟩) hHeld ?_
          try simp only [Act.put, List.getElem_toArray, List.getElem_cons_succ, List.getElem_cons_zero, List.setIfInBounds_toArray, List.set_cons_zero, List.set_cons_succ]
          refine wpAnyH_take (i := 20) (v := undef) rfl (by kernel_rfl) (by kernel_rfl) (by kernel_rfl) (fun _ _ _ h => h) (Or.inr ⟨by rfl, rfl⟩) hHeld ?_
          try simp only [Act.put, List.getElem_toArray, List.getElem_cons_succ, List.getElem_cons_zero, List.setIfInBounds_toArray, List.set_cons_zero, List.set_cons_succ]
          refine wpAnyH_take (i := 21) (v := undef) rfl (by kernel_rfl) (by kernel_rfl) (by kernel_rfl) (fun _ _ _ h => h) (Or.inr ⟨by rfl, rfl⟩) hHeld ?_
          try simp only [Act.put, List.getElem_toArray, List.getElem_cons_succ, List.getElem_cons_zero, List.setIfInBounds_toArray, List.set_cons_zero, List.set_cons_succ]
          refine wpAnyH_take (i := 22) (v := undef) rfl (by kernel_rfl) (by kernel_rfl) (by kernel_rfl) (fun _ _ _ h => h) (Or.inr ⟨by rfl, rfl⟩) hHeld ?_
          try simp only [Act.put, List.getElem_toArray, List.getElem_cons_succ, List.getElem_cons_zero, List.setIfInBounds_toArray, List.set_cons_zero, List.set_cons_succ]
          refine wpAnyH_take (i := 23) (v := undef) rfl (by kernel_rfl) (by kernel_rfl) (by kernel_rfl) (fun _ _ _ h => h) (Or.inr ⟨by rfl, rfl⟩) hHeld ?_
          try simp only [Act.put, List.getElem_toArray, List.getElem_cons_succ, List.getElem_cons_zero, List.setIfInBounds_toArray, List.set_cons_zero, List.set_cons_succ]
          refine wpAnyH_take (i := 24) (v := ?_) rfl (by kernel_rfl) (by kernel_rfl) (by kernel_rfl) (fun _ _ _ h => h) (Or.inl ⟨by rfl, ?_⟩) hHeld ?_
          rotate_left 1
          · intro w hSw; (try dsimp only at hSw); first | (go_simp; done) | (go_simp; with_reducible rfl) | (go_simp; rfl)
          try simp only [Act.put, List.getElem_toArray, List.getElem_cons_succ, List.getElem_cons_zero, List.setIfInBounds_toArray, List.set_cons_zero, List.set_cons_succ]
          refine wpAnyH_done (by kernel_rfl) ?_ _
          have HBr := Lib.hid (bel_drew HB3.out)
          clear hkd hHeld
          go_wp2_with fail
          go_roundw
          case rel => exact ⟨k + 1, by omega, by go_num, HG.out, HBr.out⟩
          case measure => simp [intOf]; omega
        · have hk1 : 0 < k := by omega
          obtain ⟨bp, op, ep, hbp, hp0, hp1, hp2⟩ := I3sIn.at (HV0.out.call HB.out) (k := k - 1) (by omega)
          injection ep with ep
          injection ep with ep1 ep2
          subst ep1 ep2
          obtain ⟨p, hp⟩ : ∃ p, p = nth3 xs (k - 1) := ⟨_, rfl⟩
          rw [← hp] at hp0 hp1 hp2
          have HP := Lib.hid hp
          have HPC : Hid (wr.cell? ⟨b, o + (k - 1) * 3, none⟩ = some (.int .i64 p.a) ∧ wr.cell? ⟨b, o + (k - 1) * 3 + 1, none⟩ = some (.int .i64 p.b) ∧ wr.cell? ⟨b, o + (k - 1) * 3 + 2, none⟩ = some (.int .i64 p.c)) := Lib.hid ⟨hp0, hp1, hp2⟩
          clear hp hp0 hp1 hp2
          have HB1w : Hid (Below wr.heap.size wr wb) := Lib.hid (by rw [HWB.out]; go_grown)
          have HKK := Lib.hid hk0
          clear hk0
          go_wp2_with fail
          rw [← HWB.out]
          refine (isStop_any x _ _ _ _ y.a _ hn).mono ?_
          rintro e w1 ⟨rfl, hb2⟩
          have HW2 := Lib.hid (HW1.out.below hb2 hzw)
          have HN3 := Lib.hid (HN2.out.below hb2 (by omega))
          have HB2 := Lib.hid (HB1.out.trans (hb2.mono (by omega)))
          have hz2 := hb2.size
          have HB12 := Lib.hid hb2
          clear hb2 n0 n1
          obtain ⟨n0, n1⟩ := HN3.out
          obtain ⟨k0, k1, k2⟩ := HW2.out
          go_wp2_with fail
          refine (isStop_any x _ _ _ _ y.b _ hn).mono ?_
          rintro e w2 ⟨rfl, hb3⟩
          have HW3 := Lib.hid (HW2.out.below hb3 (by omega))
          have HN4 := Lib.hid (HN3.out.below hb3 (by omega))
          have HB3 := Lib.hid (HB2.out.trans (hb3.mono (by omega)))
          have hz3 := hb3.size
          have HB12 := Lib.hid (HB12.out.trans (hb3.mono (by omega)))
          clear hb3 n0 n1 k0 k1 k2
          obtain ⟨n0, n1⟩ := HN4.out
          obtain ⟨k0, k1, k2⟩ := HW3.out
          go_wp2_with (go_at_call 51; refine (within_any _ _ _ _).mono ?_; rintro e w3 ⟨rfl, rfl⟩)
          have hP : ∀ w', Below w2.heap.size w2 w' → w'.cell? ⟨b, o + (k - 1) * 3, none⟩ = some (.int .i64 p.a) ∧ w'.cell? ⟨b, o + (k - 1) * 3 + 1, none⟩ = some (.int .i64 p.b) ∧ w'.cell? ⟨b, o + (k - 1) * 3 + 2, none⟩ = some (.int .i64 p.c) := fun w' h =>
            have h2 : Below wr.heap.size wr w' := (HB1w.out.trans (HB12.out.mono HB1w.out.size)).trans (h.mono (by omega))
            ⟨(h2.cell (p := ⟨b, _, none⟩) hbl).trans HPC.out.1, (h2.cell (p := ⟨b, _, none⟩) hbl).trans HPC.out.2.1, (h2.cell (p := ⟨b, _, none⟩) hbl).trans HPC.out.2.2⟩
          have hW : ∀ w', Below w2.heap.size w2 w' → Wk3 w' wr.heap.size y := fun w' h => HW3.out.below h (by omega)
          unfold Wk3 at hW
          have q1 : IntKind.i64.wrap ((k : Int) - 1) = k - 1 := IntWalk.i64_in _ (by omega)
          have q2 : ((k : Int) - 1).toNat = k - 1 := by omega
          have q3 : (1 : Int) ≤ k := by omega
          have q4 : (k : Int) - 1 < xs.length := by omega
          clear k0 k1 k2 n0 n1
          by_cases hw : orI (cmpI p.a y.a) (cmpI p.b y.b) < 0
          · have hwd : decide (0 ≤ orI (cmpI p.a y.a) (cmpI p.b y.b)) = false := by simp; omega
            have HG : Hid (∀ j, j < k + 1 → WkAt x.stops.length xs j) := Lib.hid (fun j hj => by
              by_cases e : j = k
              · subst e
                refine ⟨HOK.out, fun _ => ?_⟩
                rw [← HP.out, ← HY.out]
                exact (orI_lt p y).1 hw
              · exact HA.out j (by omega))
            clear hw
            go_region_held3 (fun w' => Below w2.heap.size w2 w') (repeat' first | assumption | exact Nat.le_refl _ | exact Below.refl _ _ | (refine bel_drew ?_) | (refine bel_alloc ?_ _) | (refine bel_set ?_ ?_ _))
              (first
                | (go_at_call 56; refine (compare_any _ _ _).mono ?_; rintro e w5 ⟨rfl, rfl⟩)
                | (go_at_call 55; refine (cmpOr_any _ (cmpI p.a y.a) (cmpI p.b y.b) _ (by go_simp) (by go_simp)).mono ?_; rintro e w5 ⟨rfl, rfl⟩))
            all_goals
              have HBr := Lib.hid (HB3.out.trans ((‹Below w2.heap.size w2 _› : Below w2.heap.size w2 _).mono (by omega)))
              clear hP hW q1 q2 q3 q4
              go_wp2_with fail
              go_roundw
              case rel => exact ⟨k + 1, by omega, by go_num, HG.out, HBr.out⟩
              case measure => simp [intOf]; omega
          · have hwd : decide (0 ≤ orI (cmpI p.a y.a) (cmpI p.b y.b)) = true := by simp; omega
            have H := Lib.hid (walksB_no (n := x.stops.length) (xs := xs) (fun h => hw ((orI_lt p y).2 (by rw [HP.out, HY.out]; exact (h.2 k hlt).2 hk1))))
            clear hw
            go_region_held3 (fun w' => Below w2.heap.size w2 w') (repeat' first | assumption | exact Nat.le_refl _ | exact Below.refl _ _ | (refine bel_drew ?_) | (refine bel_alloc ?_ _) | (refine bel_set ?_ ?_ _))
              (first
                | (go_at_call 56; refine (compare_any _ _ _).mono ?_; rintro e w5 ⟨rfl, rfl⟩)
                | (go_at_call 55; refine (cmpOr_any _ (cmpI p.a y.a) (cmpI p.b y.b) _ (by go_simp) (by go_simp)).mono ?_; rintro e w5 ⟨rfl, rfl⟩))
            all_goals
              have HBr := Lib.hid (HB3.out.trans ((‹Below w2.heap.size w2 _› : Below w2.heap.size w2 _).mono (by omega)))
              clear hP hW q1 q2 q3 q4
              go_wp2_with fail
              go_ret
              exact ⟨retB H.out.symm, HB0.out.trans (HBr.out.mono HB0.out.size)⟩
      · obtain rfl : k = xs.length := by omega
        clear hb
        have H := Lib.hid (walksB_yes (n := x.stops.length) (xs := xs) ⟨hl, HA.out⟩)
        go_wp2_with fail
        go_ret
        exact ⟨retB H.out.symm, HB0.out.trans (HB.out.mono HB0.out.size)⟩
  · have H := Lib.hid (walksB_no (n := x.stops.length) (xs := xs) (fun h => hl h.1))
    go_enter Try.func43, Try.ntmps43
    go_wp2_with fail
    go_ret
    exact ⟨retB H.out.symm, HB0.out⟩

end Go.Proofs.Ytemhcobjhpifpaa
