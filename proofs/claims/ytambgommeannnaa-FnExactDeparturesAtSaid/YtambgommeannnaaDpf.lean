/- Slices of pairs. -/
import Derived.Test.YtambgommeannnaaSpm
import Derived.Test.YtambgommeannnaaSrt
import Derived.Test.YtambgommeannnaaOwr
import Derived.Test.YtambgommeannnaaIns
import Derived.Test.YtambgommeannnaaShelf
import Derived.BigQuiet
namespace Go.Proofs.Ytambgommeannnaa
open Go.ChangeShapes Go.WideShapes Go.ChangeAt Go.RowKit Go.PlainAid
open Go.Sort (HoldsK SWO PermIn SortedIn grow)
set_option linter.unusedVariables false
set_option linter.unusedSimpArgs false

theorem Try.infoPair : (Try.prog.info? 117).map (fun i => (i.zero, i.size, i.bytes)) = some (some (.agg #[.int .i64 0, .int .i64 0]), 2, 16) := by kernel_rfl
set_option maxHeartbeats 1000000 in
theorem eqIntA2_same (x : I2) (w : World) :
    Calls Try.prog 96 #[.agg #[.int .i64 x.a, .int .i64 x.b], .agg #[.int .i64 x.a, .int .i64 x.b]] w fun e w' => e = .returned (.bool true) ∧ Below w.heap.size w w' := by
  obtain ⟨xa, xb⟩ := x
  have c0 : ((w.alloc (.cells #[.int .i64 xa, .int .i64 xb] 117)).alloc (.cells #[.int .i64 xa, .int .i64 xb] 117)).cell? ⟨w.heap.size, 0, none⟩ = some (.int .i64 xa) := by go_simp
  have c1 : ((w.alloc (.cells #[.int .i64 xa, .int .i64 xb] 117)).alloc (.cells #[.int .i64 xa, .int .i64 xb] 117)).cell? ⟨w.heap.size, 1, none⟩ = some (.int .i64 xb) := by go_simp
  have d0 : ((w.alloc (.cells #[.int .i64 xa, .int .i64 xb] 117)).alloc (.cells #[.int .i64 xa, .int .i64 xb] 117)).cell? ⟨w.heap.size + 1, 0, none⟩ = some (.int .i64 xa) := by go_simp
  have d1 : ((w.alloc (.cells #[.int .i64 xa, .int .i64 xb] 117)).alloc (.cells #[.int .i64 xa, .int .i64 xb] 117)).cell? ⟨w.heap.size + 1, 1, none⟩ = some (.int .i64 xb) := by go_simp
  have HB : Hid (Below w.heap.size w ((w.alloc (.cells #[.int .i64 xa, .int .i64 xb] 117)).alloc (.cells #[.int .i64 xa, .int .i64 xb] 117))) := Lib.hid (by go_grown)
  go_enter Try.func96, Try.ntmps96
  go_wp2_with fail
  generalize ((w.alloc (.cells #[.int .i64 xa, .int .i64 xb] 117)).alloc (.cells #[.int .i64 xa, .int .i64 xb] 117)) = w0 at *
  go_loopw [5] (fun i wr => (i = .int .i64 0 ∨ i = .int .i64 1 ∨ i = .int .i64 2) ∧ Dr w0 wr) (fun i _ => 2 - (intOf i).toNat)
  case atStart => exact ⟨.inl rfl, Dr.refl _⟩
  case round =>
    obtain ⟨hi, q, rfl⟩ := hrel
    rcases hi with rfl | rfl | rfl
    · go_wp2_with fail
      go_quiet (fail)
      go_wp2_with fail
      go_roundw
      case rel => exact ⟨.inr (.inl rfl), _, rfl⟩
      case measure => simp [intOf]
    · go_wp2_with fail
      go_quiet (fail)
      go_wp2_with fail
      go_roundw
      case rel => exact ⟨.inr (.inr rfl), _, rfl⟩
      case measure => simp [intOf]
    · go_wp2_with fail
      go_ret
      exact ⟨rfl, bel_drewN HB.out _⟩
set_option maxRecDepth 100000 in
set_option maxHeartbeats 1000000 in
theorem eqIntA2S_same (A A' : Option Addr) (c c' : Nat) (xs : List I2) (w : World) (h : I2sIn w (Zone.below w.heap.size) A xs) (h' : I2sIn w (Zone.below w.heap.size) A' xs) (hn : xs.length ≤ 1048576) :
    Calls Try.prog 27 #[.slice A xs.length c, .slice A' xs.length c'] w fun e w' => e = .returned (.bool true) ∧ Below w.heap.size w w' := by
  have HX := Lib.hid h
  have HY := Lib.hid h'
  clear h h'
  go_enter Try.func27, Try.ntmps27
  go_wp2
  go_loopw [5] (fun i wr => ∃ k : Nat, k ≤ xs.length ∧ i = .int .i64 k ∧ Below w.heap.size w wr) (fun i _ => xs.length - (intOf i).toNat)
  case atStart => exact ⟨0, Nat.zero_le _, rfl, Below.refl _ _⟩
  case round =>
    obtain ⟨k, hk, rfl, hb⟩ := hrel
    have HB := Lib.hid hb
    by_cases hlt : k < xs.length
    · obtain ⟨b, o, rfl, hbl, hc0, hc1⟩ := I2sIn.at (HX.out.at_below hb) hlt
      obtain ⟨b', o', rfl, hbl', hc0', hc1'⟩ := I2sIn.at (HY.out.at_below hb) hlt
      have hj1 : (k : Int) < (xs.length : Int) := by omega
      clear hb
      go_wp2_with fail
      go_still_tail 8, (by kernel_rfl)
      go_wp2_with fail
      refine (eqIntA2_same _ _).mono ?_
      rintro e w1 ⟨rfl, hb1⟩
      have HB1 : Hid (Below w.heap.size w w1) := bel_of (bel_drew HB.out) HB.out.size hb1
      clear hb1
      go_wp2_with fail
      go_roundw
      case rel => exact ⟨k + 1, by omega, by go_num, HB1.out⟩
      case measure => simp [intOf]; omega
    · obtain rfl : k = xs.length := by omega
      clear hb
      go_wp2_with fail
      go_ret
      exact ⟨rfl, HB.out⟩
set_option maxRecDepth 100000 in
set_option maxHeartbeats 1000000 in
theorem heldIntA2S_any (A : Option Addr) (c n K : Nat) (w : World) (Z : Zone) (h : I2sIn w Z A (marks2 K n)) (hn : n ≤ 1048576) (hK : K ≤ 1099511627776) :
    Calls Try.prog 31 #[.slice A n c, .int .i64 (K : Nat)] w fun e w' => e = .returned (.int .i64 ((K + 2 * n : Nat) : Int)) ∧ w = w' := by
  have HX := Lib.hid h
  clear h
  go_enter Try.func31, Try.ntmps31
  go_wp2
  go_loopw [1, 5, 6] (fun s i _ wr => ∃ j : Nat, j ≤ n ∧ i = .int .i64 j ∧ (∃ P : Nat, s = .int .i64 (P : Int) ∧ P = K + 2 * j) ∧ w = wr) (fun _ i _ _ => n - (intOf i).toNat)
  case atStart => exact ⟨0, Nat.zero_le _, rfl, ⟨K, rfl, rfl⟩, rfl⟩
  case round =>
    obtain ⟨k, hk, rfl, ⟨P, rfl, hP⟩, rfl⟩ := hrel
    have HPP := Lib.hid hP
    have hPl : P ≤ 1099511627776 + 2 * 1048576 := by omega
    by_cases hlt : k < n
    · obtain ⟨b, o, rfl, _, h0, h1⟩ := I2sIn.at HX.out (k := k) (by rw [marks2_length]; exact hlt)
      rw [nth_marks2 hlt] at h0 h1
      have e0 : w.cell? ⟨b, o + k * 2, none⟩ = some (.int .i64 (P : Int)) := by rw [h0, hP]
      have e1 : w.cell? ⟨b, o + k * 2 + 1, none⟩ = some (.int .i64 ((P : Int) + 1)) := by rw [h1, hP]; simp
      have hj1 : (k : Int) < (n : Int) := by omega
      clear h0 h1 hP
      go_wp2
      go_loopw [1, 6] (fun s i wz => ((i = .int .i64 0 ∧ s = .int .i64 (P : Int)) ∨ (i = .int .i64 1 ∧ s = .int .i64 ((P : Int) + 1)) ∨ (i = .int .i64 2 ∧ s = .int .i64 ((P : Int) + 2))) ∧ w = wz) (fun _ i _ => 2 - (intOf i).toNat)
      case atStart => exact ⟨.inl ⟨rfl, rfl⟩, rfl⟩
      case round =>
        obtain ⟨hi, rfl⟩ := hrel
        have w1 : IntKind.i64.wrap ((P : Int) + 1) = (P : Int) + 1 := IntWalk.i64_in _ (by omega)
        have w2 : IntKind.i64.wrap ((P : Int) + 1 + 1) = (P : Int) + 1 + 1 := IntWalk.i64_in _ (by omega)
        rcases hi with ⟨rfl, rfl⟩ | ⟨rfl, rfl⟩ | ⟨rfl, rfl⟩
        · go_wp2
          go_roundw
          case rel => exact ⟨.inr (.inl ⟨rfl, rfl⟩), trivial⟩
          case measure => simp [intOf]
        · go_wp2
          go_roundw
          case rel => exact ⟨.inr (.inr ⟨rfl, by congr 1⟩), trivial⟩
          case measure => simp [intOf]
        · go_wp2
          go_roundw
          case rel => exact ⟨k + 1, by omega, by go_num, ⟨P + 2, by go_num, by have := HPP.out; omega⟩, trivial⟩
          case measure => simp [intOf]; omega
    · obtain rfl : k = n := by omega
      clear hP
      go_wp2
      go_ret
      exact ⟨retI (by have := HPP.out; omega), rfl⟩

set_option maxRecDepth 100000 in
set_option maxHeartbeats 1000000 in
theorem markIntA2S_res (lo hi : Nat) (A : Option Addr) (c : Nat) (xs : List I2) (K : Nat) (w : World) (h : I2sIn w (Zone.new lo hi) A xs) (hn : xs.length ≤ 1048576) (hK : K ≤ 1099511627776) :
    Calls Try.prog 30 #[.slice A xs.length c, .int .i64 (K : Nat)] w fun e w' => e = .returned (.int .i64 ((K + 2 * xs.length : Nat) : Int)) ∧ Mk lo hi w w' ∧ I2sIn w' (Zone.new lo hi) A (marks2 K xs.length) := by
  have HX := Lib.hid h
  clear h
  go_enter Try.func30, Try.ntmps30
  go_wp2
  go_loopw [1, 5, 6] (fun s i _ wr => ∃ j : Nat, j ≤ xs.length ∧ i = .int .i64 j ∧ (∃ P : Nat, s = .int .i64 (P : Int) ∧ P = K + 2 * j) ∧ Mk lo hi w wr ∧ ∀ b o, A = some ⟨b, o, none⟩ → ∀ i, i < j → eI2 wr (Zone.new lo hi) b (o + i * 2) ⟨((K + 2 * i : Nat) : Int), ((K + 2 * i + 1 : Nat) : Int)⟩) (fun _ i _ _ => xs.length - (intOf i).toNat)
  case atStart => exact ⟨0, Nat.zero_le _, rfl, ⟨K, rfl, rfl⟩, Mk.refl _ _ _, fun _ _ _ i hi => by omega⟩
  case round =>
    obtain ⟨k, hk, rfl, ⟨P, rfl, hP⟩, hm, hp⟩ := hrel
    have HM := Lib.hid hm
    have HPP := Lib.hid hP
    have HPr := Lib.hid hp
    have hPl : P ≤ 1099511627776 + 2 * 1048576 := by omega
    clear hP hp
    by_cases hlt : k < xs.length
    · obtain ⟨b, o, rfl, hz, hf, hc⟩ := HX.out (by omega)
      obtain ⟨h0, h1⟩ := hc k hlt
      obtain ⟨v0, hv0'⟩ := hm.int h0
      obtain ⟨v1, hv1'⟩ := hm.int h1
      have hv0 : wr.cell? ⟨b, o + k * 2, none⟩ = some (.int .i64 v0) := hv0'
      have hv1 : wr.cell? ⟨b, o + k * 2 + 1, none⟩ = some (.int .i64 v1) := hv1'
      have hfr0 : wr.frozen? ⟨b, o + k * 2, none⟩ = false := by rw [hm.free hz.1 hz.2]; exact hf trivial _
      have hfr1 : wr.frozen? ⟨b, o + k * 2 + 1, none⟩ = false := by rw [hm.free hz.1 hz.2]; exact hf trivial _
      have n1 : (wr.setCell ⟨b, o + k * 2, none⟩ (.int .i64 (P : Int))).cell? ⟨b, o + k * 2 + 1, none⟩ = some (.int .i64 v1) := by rw [World.cell?_setCell_other _ _ _ _ (addr_ne (by omega))]; exact hv1
      have n2 : (wr.setCell ⟨b, o + k * 2, none⟩ (.int .i64 (P : Int))).frozen? ⟨b, o + k * 2 + 1, none⟩ = false := by simpa using hfr1
      have HM2 := Lib.hid ((HM.out.trans (Mk.set_int (j := (P : Int)) hz.1 hz.2 hv0)).trans (Mk.set_int (j := (P : Int) + 1) hz.1 hz.2 n1))
      have HS : Hid (∀ b' o', (some ⟨b, o, none⟩ : Option Addr) = some ⟨b', o', none⟩ → ∀ i, i < k + 1 → eI2 ((wr.setCell ⟨b, o + k * 2, none⟩ (.int .i64 (P : Int))).setCell ⟨b, o + k * 2 + 1, none⟩ (.int .i64 ((P : Int) + 1))) (Zone.new lo hi) b' (o' + i * 2) ⟨((K + 2 * i : Nat) : Int), ((K + 2 * i + 1 : Nat) : Int)⟩) := Lib.hid (fun b' o' e i hi => by
        injection e with e
        injection e with e1 e2
        subst e1 e2
        by_cases e : i = k
        · subst e
          have hq := HPP.out
          refine ⟨?_, ?_⟩
          · rw [World.cell?_setCell_other _ _ _ _ (addr_ne (by omega)), World.cell?_setCell_same _ _ _ hv0]
            subst hq; rfl
          · rw [World.cell?_setCell_same _ _ _ n1]
            subst hq; rfl
        · obtain ⟨g0, g1⟩ := HPr.out _ _ rfl i (by omega)
          refine ⟨?_, ?_⟩
          all_goals
            rw [World.cell?_setCell_other _ _ _ _ (addr_ne (by omega)), World.cell?_setCell_other _ _ _ _ (addr_ne (by omega))]
            assumption)
      have hj1 : (k : Int) < (xs.length : Int) := by omega
      have HV0 := Lib.hid (And.intro hv0 hfr0)
      have HN1 := Lib.hid (And.intro n1 n2)
      clear hm hc hf hz h0 h1 hv0' hv1' n1 n2 hv0 hv1 hfr0 hfr1
      go_wp2
      obtain ⟨wo, rfl⟩ : ∃ wo : World, wo = wr := ⟨_, rfl⟩
      go_loopw [1, 6] (fun s i wz => (i = .int .i64 0 ∧ s = .int .i64 (P : Int) ∧ wz = wo) ∨ (i = .int .i64 1 ∧ s = .int .i64 ((P : Int) + 1) ∧ wz = (wo.setCell ⟨b, o + k * 2, none⟩ (.int .i64 (P : Int)))) ∨ (i = .int .i64 2 ∧ s = .int .i64 ((P : Int) + 1 + 1) ∧ wz = ((wo.setCell ⟨b, o + k * 2, none⟩ (.int .i64 (P : Int))).setCell ⟨b, o + k * 2 + 1, none⟩ (.int .i64 ((P : Int) + 1))))) (fun _ i _ => 2 - (intOf i).toNat)
      case atStart => exact .inl ⟨rfl, rfl, rfl⟩
      case round =>
        have w1 : IntKind.i64.wrap ((P : Int) + 1) = (P : Int) + 1 := IntWalk.i64_in _ (by omega)
        have w2 : IntKind.i64.wrap ((P : Int) + 1 + 1) = (P : Int) + 1 + 1 := IntWalk.i64_in _ (by omega)
        rcases hrel with ⟨rfl, rfl, rfl⟩ | ⟨rfl, rfl, hw⟩ | ⟨rfl, rfl, hw⟩
        · obtain ⟨hv0, hfr0⟩ := HV0.out
          go_wp2
          go_roundw
          case rel => exact .inr (.inl ⟨rfl, rfl, by first | trivial | rfl⟩)
          case measure => simp [intOf]
        · obtain ⟨n1, n2⟩ := HN1.out
          rw [← hw] at n1 n2
          have HW := Lib.hid hw
          clear hw
          go_wp2
          go_roundw
          case rel => exact .inr (.inr ⟨rfl, rfl, by rw [HW.out]⟩)
          case measure => simp [intOf]
        · have HS2 := Lib.hid HS.out
          have HM3 := Lib.hid HM2.out
          rw [← hw] at HS2 HM3
          clear hw
          go_wp2
          go_roundw
          case rel => exact ⟨k + 1, by omega, by go_num, ⟨P + 1 + 1, by go_num, by have := HPP.out; omega⟩, HM3.out, HS2.out⟩
          case measure => simp [intOf]; omega
    · obtain rfl : k = xs.length := by omega
      clear hm
      go_wp2
      go_ret
      refine ⟨retI (by have := HPP.out; omega), HM.out, fun hn0 => ?_⟩
      rw [marks2_length] at hn0
      obtain ⟨b, o, e, hz, hf, hc⟩ := HX.out hn0
      refine ⟨b, o, e, hz, fun hs j => by rw [HM.out.free hz.1 hz.2]; exact hf hs j, fun j hj => ?_⟩
      rw [marks2_length] at hj
      show eI2 wr (Zone.new lo hi) b (o + j * 2) (nth2 (marks2 K xs.length) j)
      rw [nth_marks2 hj]
      exact HPr.out b o e j hj

/-! ### Order -/
abbrev OwnP (w : World) (B : Nat) (v : Value) (xs : List I2) : Prop := OwnE 117 2 encI2 w B v xs
theorem encP_cell (y : I2) : ∀ u ∈ encI2 y, u.oneCell' = true := fun u hu => by
  simp [encI2] at hu
  rcases hu with rfl | rfl <;> rfl
theorem wp_appP {ops : Array Oper} {rest : List Oper} {o : Oper} {a : Act} {Q : Exit → Act → World → Prop} (hgd : o.guard = none) (s x : Operand)
    (ho : o.op = .call { callee := .builtin .append, args := #[s, x], argTypes := #[41, 41] })
    (B : Nat) (v : Value) (xs : List I2) (y : I2) (w : World) (hown : OwnP w B v xs) (hs : a.eval s = v) (n : Nat) (hx : a.eval x = .slice (some ⟨n, 0, none⟩) 1 1) (hnw : n = w.heap.size) (hl : xs.length ≤ 16777216) (hB : B ≤ w.heap.size)
    (h : ∀ v' w', OwnP w' B v' (xs ++ [y]) → Below B w w' → wpList Try.prog ops Q rest (a.put o.dst v') w') : wpList Try.prog ops Q (o :: rest) a (w.alloc (.cells #[.int .i64 y.a, .int .i64 y.b] 117)) := by
  obtain ⟨i0, hi, hz0, hz1, hz2⟩ := info_parts Try.infoPair
  exact wp_app hgd s x 41 ho 16 Try.underlying41 hi hz0 hz1 hz2 rfl (by omega) (fun _ => rfl) encP_cell (by omega) B v xs y _ w rfl hs n hx hnw hown hl hB h
/-- How pairs are compared. -/
def paC (x y : I2) : Int := if Lib.compareInt x.a y.a = 0 then Lib.compareInt x.b y.b else Lib.compareInt x.a y.a
theorem cmp0 (x y : Int) : Lib.compareInt x y = 0 ↔ x = y := by
  unfold Lib.compareInt
  by_cases h1 : x < y
  · simp [h1]; omega
  · by_cases h2 : y < x
    · simp [h1, h2]; omega
    · simp [h1, h2]; omega
theorem cmpN (x y : Int) : Lib.compareInt x y < 0 ↔ x < y := by
  unfold Lib.compareInt
  by_cases h1 : x < y
  · simp [h1]
  · by_cases h2 : y < x <;> simp [h1, h2]
def ltP (x y : I2) : Bool := decide (x.a < y.a ∨ (x.a = y.a ∧ x.b < y.b))
theorem paC_lt (x y : I2) : ltOf paC x y = ltP x y := by
  unfold ltOf ltP paC
  by_cases h : Lib.compareInt x.a y.a = 0
  · rw [if_pos h]
    have h1 := (cmp0 _ _).1 h
    simp only [cmpN, h1]
    simp
  · rw [if_neg h]
    have h1 : ¬ x.a = y.a := fun e => h ((cmp0 _ _).2 e)
    simp only [cmpN, h1]
    simp
theorem paC_swo : SWO (ltOf paC) where
  irrefl x := by rw [paC_lt]; simp [ltP]
  trans x y z h1 h2 := by rw [paC_lt] at *; unfold ltP at *; simp at *; omega
  ntrans x y z h1 h2 := by rw [paC_lt] at *; unfold ltP at *; simp at *; omega


set_option maxHeartbeats 1000000 in
theorem compare2_any (x y : I2) (g g' : Nat) (w : World) (c0 : w.cell? ⟨g, 0, none⟩ = some (.int .i64 x.a)) (c1 : w.cell? ⟨g, 1, none⟩ = some (.int .i64 x.b)) (d0 : w.cell? ⟨g', 0, none⟩ = some (.int .i64 y.a)) (d1 : w.cell? ⟨g', 1, none⟩ = some (.int .i64 y.b)) :
    Calls Try.prog 95 #[.slice (some ⟨g, 0, none⟩) 2 2, .slice (some ⟨g', 0, none⟩) 2 2] w fun e w' => e = .returned (.int .i64 (paC x y)) ∧ w = w' := by
  obtain ⟨xa, xb⟩ := x
  obtain ⟨ya, yb⟩ := y
  simp only [] at c0 c1 d0 d1
  have HP : Hid (paC ⟨xa, xb⟩ ⟨ya, yb⟩ = if Lib.compareInt xa ya = 0 then Lib.compareInt xb yb else Lib.compareInt xa ya) := Lib.hid rfl
  have hcon := fun W' => AnyG.cmp_Compare_int Try.laysCmpInt xa ya W'
  have hcon2 := fun W' => AnyG.cmp_Compare_int Try.laysCmpInt xb yb W'
  change ∀ W', Calls Try.prog 149 _ _ _ at hcon
  change ∀ W', Calls Try.prog 149 _ _ _ at hcon2
  generalize Lib.compareInt xa ya = r1 at hcon HP
  generalize Lib.compareInt xb yb = r2 at hcon2 HP
  have H1 := Lib.hid hcon
  have H2 := Lib.hid hcon2
  clear hcon hcon2
  go_enter Try.func95, Try.ntmps95
  go_wp2_with fail
  go_loopw [5, 6, 7, 8, 11] (fun _ _ _ _ i wr => (i = .int .i64 0 ∨ (i = .int .i64 1 ∧ r1 = 0) ∨ (i = .int .i64 2 ∧ r1 = 0 ∧ r2 = 0)) ∧ w = wr) (fun _ _ _ _ i _ => 2 - (intOf i).toNat)
  case atStart => exact ⟨.inl rfl, rfl⟩
  case round =>
    obtain ⟨hi, rfl⟩ := hrel
    rcases hi with rfl | ⟨rfl, rfl⟩ | ⟨rfl, rfl, rfl⟩
    · by_cases t1 : r1 = 0
      · subst t1
        go_wp2_with (go_at_call 149; refine (H1.out _).mono ?_; rintro e w' ⟨rfl, rfl⟩)
        go_roundw
        case rel => exact ⟨.inr (.inl ⟨rfl, by first | trivial | rfl⟩), by first | trivial | rfl⟩
        case measure => simp [intOf]
      · have HP1 := Lib.hid (HP.out.trans (if_neg t1))
        have hb : (r1 != 0) = true := by simp [t1]
        go_wp2_with (go_at_call 149; refine (H1.out _).mono ?_; rintro e w' ⟨rfl, rfl⟩)
        go_ret
        exact ⟨by rw [HP1.out]; rfl, rfl⟩
    · have HP1 := Lib.hid (HP.out.trans (if_pos rfl))
      by_cases t2 : r2 = 0
      · subst t2
        go_wp2_with (go_at_call 149; refine (H2.out _).mono ?_; rintro e w' ⟨rfl, rfl⟩)
        go_roundw
        case rel => exact ⟨.inr (.inr ⟨rfl, by first | trivial | rfl, by first | trivial | rfl⟩), by first | trivial | rfl⟩
        case measure => simp [intOf]
      · have hb : (r2 != 0) = true := by simp [t2]
        go_wp2_with (go_at_call 149; refine (H2.out _).mono ?_; rintro e w' ⟨rfl, rfl⟩)
        go_ret
        exact ⟨by rw [HP1.out]; rfl, rfl⟩
    · have HP1 := Lib.hid (HP.out.trans (if_pos rfl))
      go_wp2_with fail
      go_ret
      exact ⟨by rw [HP1.out]; rfl, rfl⟩
set_option maxHeartbeats 1000000 in
theorem paCmp_any (x y : I2) (W : World) : Calls Try.prog 94 #[.agg #[.int .i64 x.a, .int .i64 x.b], .agg #[.int .i64 y.a, .int .i64 y.b]] W fun e w' => e = .returned (.int .i64 (paC x y)) ∧ ∃ q os', w' = grow (W.drewN q) os' := by
  have c0 : ((W.alloc (.cells #[.int .i64 x.a, .int .i64 x.b] 117)).alloc (.cells #[.int .i64 y.a, .int .i64 y.b] 117)).cell? ⟨W.heap.size, 0, none⟩ = some (.int .i64 x.a) := by go_simp
  have c1 : ((W.alloc (.cells #[.int .i64 x.a, .int .i64 x.b] 117)).alloc (.cells #[.int .i64 y.a, .int .i64 y.b] 117)).cell? ⟨W.heap.size, 1, none⟩ = some (.int .i64 x.b) := by go_simp
  have d0 : ((W.alloc (.cells #[.int .i64 x.a, .int .i64 x.b] 117)).alloc (.cells #[.int .i64 y.a, .int .i64 y.b] 117)).cell? ⟨W.heap.size + 1, 0, none⟩ = some (.int .i64 y.a) := by go_simp
  have d1 : ((W.alloc (.cells #[.int .i64 x.a, .int .i64 x.b] 117)).alloc (.cells #[.int .i64 y.a, .int .i64 y.b] 117)).cell? ⟨W.heap.size + 1, 1, none⟩ = some (.int .i64 y.b) := by go_simp
  have HG : Hid (∀ q, ∃ os', ((W.alloc (.cells #[.int .i64 x.a, .int .i64 x.b] 117)).alloc (.cells #[.int .i64 y.a, .int .i64 y.b] 117)).drewN q = grow (W.drewN q) os') := Lib.hid (fun q => ⟨_, by rw [Go.Sort.alloc_eq_grow, Go.Sort.alloc_eq_grow, Go.Sort.grow_grow]; rfl⟩)
  go_enter Try.func94, Try.ntmps94
  go_wp2_with fail
  generalize ((W.alloc (.cells #[.int .i64 x.a, .int .i64 x.b] 117)).alloc (.cells #[.int .i64 y.a, .int .i64 y.b] 117)) = w0 at *
  go_quiet ((go_at_call 95; exact quietS (compare2_any x y _ _ _ c0 c1 d0 d1)))
  go_wp2_with fail
  go_ret
  obtain ⟨os, ho⟩ := HG.out nq
  exact ⟨rfl, _, os, ho⟩
theorem paCmp_lays (blk off size : Nat) (w : World) : CmpLays Try.prog 94 #[] encI2 2 paC blk off size w := fun _ _ _ _ x y => paCmp_any x y _
def leP (x y : I2) : Prop := x.a < y.a ∨ (x.a = y.a ∧ x.b ≤ y.b)
theorem leP_of {x y : I2} (h : ltP y x = false) : leP x y := by
  unfold ltP at h
  have := of_decide_eq_false h
  unfold leP
  omega
set_option maxRecDepth 100000 in
set_option maxHeartbeats 1000000 in
/-- The pairs, sorted. -/
theorem sortPairs_any (B : Nat) (v : Value) (xs : List I2) (w : World) (h : OwnP w B v xs) (hB : B ≤ w.heap.size) (hn : xs.length ≤ 1048576) :
    Calls Try.prog 93 #[v, .func (.func 94) #[] #[]] w fun e w' => e = .returned (.tuple #[]) ∧ ∃ ys A c, v = .slice A ys.length c ∧ ys.Perm xs ∧ ys.Pairwise leP ∧ I2sIn w' (Zone.new B w'.heap.size) A ys ∧ Below B w w' := by
  by_cases h0 : 0 < xs.length
  · obtain ⟨g, o, cap, rfl, hBg, hlt, hc1, hc2, hH, hf⟩ := h.holds (fun _ => rfl) h0
    have eg : ∀ args w, (callFunc 94 args).run Try.prog w = .ok (.enter 94 args) w := enters_of Try.func94 (by kernel_rfl) rfl
    have hcon := AnyQ.slices_SortFunc Try.laysSortPair 2 Try.isAgg117 Try.sizeOf117 encI2 (fun _ => rfl) encP_cell paC paC_swo 94 #[] g o cap xs.toArray w eg (paCmp_lays g o _ w) hH hlt (by simp; omega)
    change Calls Try.prog 93 _ _ _ at hcon
    have e0 : xs.toArray.size = xs.length := by simp
    rw [e0] at hcon
    refine hcon.mono ?_
    rintro e w' ⟨he, d', n, os, hp, hs, rfl⟩
    have hp' : PermIn 0 xs.toArray.size xs.toArray d' := by rw [e0]; exact hp
    have hperm := permIn_perm hp'
    have hsz : d'.size = xs.length := by rw [hp.1]; simp
    have hll : d'.toList.length = xs.length := by simpa using hsz
    have hasc : d'.toList.Pairwise leP := by
      rw [List.pairwise_iff_getElem]
      intro i j hi hj hij
      have h1 := sortedIn_at hs (i := i) (j := j) hij (by omega) (by omega)
      rw [paC_lt] at h1
      rw [List.getD_eq_getElem?_getD, List.getElem?_eq_getElem hj, List.getD_eq_getElem?_getD, List.getElem?_eq_getElem hi] at h1
      exact leP_of h1
    refine ⟨he, d'.toList, some ⟨g, o, none⟩, cap, by rw [hll], by simpa using hperm, hasc, ?_, sw_below w g o n d' os hBg hB⟩
    exact HoldsK.sl (k := 2) (enc := encI2) (holdsK_sortWorldK_c encI2 2 w g o xs.toArray d' n os hH hlt (by rw [hsz]; simp)) ⟨hBg, Nat.lt_of_lt_of_le hlt (sw_size w g o n d' os)⟩ (fun j => by rw [sw_frozen _ _ _ _ _ _ _ hlt]; exact hf j) (fun j => rfl) (fun _ => rfl) (fun w Z b o y hc => ⟨hc 0 (by omega), hc 1 (by omega)⟩)
  · have hx : xs = [] := List.eq_nil_of_length_eq_zero (by omega)
    subst hx
    obtain ⟨A, c, rfl, _, _, _⟩ := h.i2s
    have hcon := AnyF.slices_SortFunc_none { Try.laysSortPair with } A c (.func (.func 94) #[] #[]) w
    change Calls Try.prog 93 _ _ _ at hcon
    exact hcon.mono fun e w' ⟨he, hw⟩ => ⟨he, [], A, c, rfl, List.Perm.refl _, List.Pairwise.nil, fun h => by simp at h, by rw [hw]; exact Below.refl _ _⟩
end Go.Proofs.Ytambgommeannnaa
