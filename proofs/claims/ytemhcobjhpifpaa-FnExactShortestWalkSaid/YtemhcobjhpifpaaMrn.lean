/- Marks of strings, lines, networks. -/
import Derived.Test.YtemhcobjhpifpaaMrk
import Derived.Test.YtemhcobjhpifpaaNetB
namespace Go.Proofs.Ytemhcobjhpifpaa
open Go.ChangeShapes Go.WideShapes Go.ChangeAt Go.RowKit Go.PlainAid
set_option linter.unusedVariables false

/-! ### Strings -/
/-- The last digit of a number. -/
def dgB (k : Nat) : ByteArray := ⟨#[UInt8.ofNat (48 + k % 10)]⟩
theorem dgB_size (k : Nat) : (dgB k).size = 1 := rfl
/-- The digits of a number. -/
def dgs (k : Nat) : ByteArray := if k = 0 then ByteArray.empty else dgs (k / 10) ++ dgB k
termination_by k
decreasing_by omega
theorem dgs_pos {k : Nat} (h : 0 < k) : dgs k = dgs (k / 10) ++ dgB k := by
  rw [dgs, if_neg (by omega)]
/-- The text of a mark. -/
def mkT (k : Nat) : ByteArray := ⟨#[109]⟩ ++ dgs k
theorem strDig (k : Nat) : Value.string (strOfNums [48 + (k : Int) % 10]) = Value.string (dgB k) := by
  have e1 : (48 + (k : Int) % 10).toNat = 48 + k % 10 := by omega
  simp [strOfNums, e1, dgB]

set_option maxHeartbeats 400000 in
theorem markText_any (K : Nat) (w : World) (h0 : 0 < K) (hK : K ≤ 1099511627776) :
    Calls Try.prog 45 #[.int .i64 (K : Nat)] w fun e w' => e = .returned (.string (mkT K)) ∧ Below w.heap.size w w' := by
  go_enter Try.func45, Try.ntmps45
  go_wp2
  go_loopw [0, 3] (fun a s wr => ∃ t : Nat, ∃ r : ByteArray, a = .int .i64 t ∧ s = .string r ∧ Hid (dgs K = dgs t ++ r) ∧ r.size + t ≤ K ∧ Below w.heap.size w wr) (fun a _ _ => (intOf a).toNat)
  case atStart => exact ⟨K, ByteArray.empty, rfl, rfl, by simp [Hid], by simp, Below.refl _ _⟩
  case round =>
    obtain ⟨t, r, rfl, rfl, hd, hs, hb⟩ := hrel
    have HB := Lib.hid hb
    clear hb
    by_cases hlt : 0 < t
    · have hcv := run_convert_bytes_arg (P := Try.prog) (wr.alloc (.cells #[.int .u8 (48 + (t : Int) % 10)] 5)) 82 5 Try.underlying82 Try.underlying5 wr.heap.size 0 1 1 [48 + (t : Int) % 10] rfl
        (fun i hi => by
          rw [World.cell?_alloc_mark]
          match i, hi with
          | 0, _ => rfl) 9 Try.underlying9
      rw [strDig t] at hcv
      have h1 := dgB_size t
      have HD : Hid (dgs K = dgs (t / 10) ++ (dgB t ++ r)) := Lib.hid (by rw [hd.out, dgs_pos hlt, ByteArray.append_assoc])
      go_wp2
      go_roundw
      case rel => exact ⟨t / 10, _, by go_num, rfl, HD.out, by simp only [ByteArray.size_append]; omega, HB.out.alloc HB.out.size _⟩
      case measure => simp [intOf]; omega
    · have HD : Hid (dgs K = r) := Lib.hid (by rw [hd.out, show t = 0 by omega, dgs]; simp)
      go_wp2
      go_ret
      exact ⟨by unfold mkT; rw [HD.out]; rfl, HB.out⟩

/-- The texts of the marks from K on. -/
def marksS (K n : Nat) : List ByteArray := (List.range n).map fun j => mkT (K + j)
theorem marksS_length (K n : Nat) : (marksS K n).length = n := by simp [marksS]
theorem nth_marksS {K n j : Nat} (h : j < n) : nthS (marksS K n) j = mkT (K + j) := by
  unfold nthS marksS
  rw [List.getD_eq_getElem?_getD, List.getElem?_map, List.getElem?_range h]
  rfl

set_option maxHeartbeats 400000 in
theorem markStringS_any (lo hi : Nat) (A : Option Addr) (c : Nat) (xs : List ByteArray) (K : Nat) (w : World) (h : StrsIn w (Zone.new lo hi) A xs) (hh : hi ≤ w.heap.size) (hn : xs.length ≤ 1048576) (h0 : 0 < K) (hK : K ≤ 1048576 * 1048576 - 1048576) :
    Calls Try.prog 33 #[.slice A xs.length c, .int .i64 (K : Nat)] w fun e w' => e = .returned (.int .i64 ((K + xs.length : Nat) : Int)) ∧ Mk lo hi w w' ∧ StrsIn w' (Zone.new lo hi) A (marksS K xs.length) := by
  have HX := Lib.hid h
  clear h
  go_enter Try.func33, Try.ntmps33
  go_wp2
  go_loopw [1, 5] (fun s i wr => ∃ j : Nat, j ≤ xs.length ∧ i = .int .i64 j ∧ s = .int .i64 ((K + j : Nat) : Int) ∧ Mk lo hi w wr ∧ ∀ b o, A = some ⟨b, o, none⟩ → ∀ i, i < j → wr.cell? ⟨b, o + i, none⟩ = some (.string (mkT (K + i)))) (fun _ i _ => xs.length - (intOf i).toNat)
  case atStart => exact ⟨0, Nat.zero_le _, rfl, rfl, Mk.refl _ _ _, fun _ _ _ i hi => by omega⟩
  case round =>
    obtain ⟨k, hk, rfl, rfl, hm, hp⟩ := hrel
    have HM := Lib.hid hm
    have HP := Lib.hid hp
    clear hp
    by_cases hlt : k < xs.length
    · obtain ⟨b, o, rfl, hz, hf, hc⟩ := HX.out (by omega)
      have hsz := hm.size
      go_wp2_with fail
      refine (markText_any (K + k) _ (by omega) (by omega)).mono ?_
      rintro e w1 ⟨rfl, hb1⟩
      have hm1 : Mk lo hi w w1 := hm.trans (Mk.of_below hb1 (by omega))
      obtain ⟨v, hv⟩ := hm1.str (hc k hlt)
      have hfr : w1.frozen? ⟨b, o + k, none⟩ = false := by rw [hm1.free hz.1 hz.2]; exact hf trivial _
      have HS : Hid (∀ b' o', (some ⟨b, o, none⟩ : Option Addr) = some ⟨b', o', none⟩ → ∀ i, i < k + 1 → (w1.setCell ⟨b, o + k, none⟩ (.string (mkT (K + k)))).cell? ⟨b', o' + i, none⟩ = some (.string (mkT (K + i)))) := Lib.hid (fun b' o' e i hi => by
        injection e with e
        injection e with e1 e2
        subst e1 e2
        by_cases e : i = k
        · subst e; exact World.cell?_setCell_same _ _ _ hv
        · rw [World.cell?_setCell_other _ _ _ _ (addr_ne (by omega)), hb1.cell (p := ⟨b, o + i, none⟩) (by have := hz.2; show b < _; omega)]; exact HP.out _ _ rfl i (by omega))
      have HM2 := Lib.hid (hm1.trans (Mk.set_str (t := mkT (K + k)) hz.1 hz.2 hv))
      clear hm hc hf hz hb1 hm1 hsz
      go_wp2_with fail
      go_roundw
      case rel => exact ⟨k + 1, by omega, by go_num, by go_num, HM2.out, HS.out⟩
      case measure => simp [intOf]; omega
    · obtain rfl : k = xs.length := by omega
      clear hm
      go_wp2
      go_ret
      refine ⟨rfl, HM.out, fun hn0 => ?_⟩
      rw [marksS_length] at hn0
      obtain ⟨b, o, e, hz, hf, hc⟩ := HX.out hn0
      refine ⟨b, o, e, hz, fun hs j => by rw [HM.out.free hz.1 hz.2]; exact hf hs j, fun j hj => ?_⟩
      rw [marksS_length] at hj
      show wr.cell? ⟨b, o + j, none⟩ = some (.string (nthS (marksS K xs.length) j))
      rw [nth_marksS hj]
      exact HP.out b o e j hj

/-! ### Lines and networks -/
def cntL (x : LineD) : Nat := 1 + x.stops.length + x.runs.length
def cntLs (xs : List LineD) (k : Nat) : Nat := upto (fun j => cntL (nthL xs j)) k
theorem cntLs_le (xs : List LineD) : cntLs xs xs.length ≤ szLns xs := by
  unfold cntLs szLns
  have : ∀ k, k ≤ xs.length → upto (fun j => cntL (nthL xs j)) k ≤ k + upto (fun j => szLn (nthL xs j)) k := by
    intro k
    induction k with
    | zero => intro _; simp [upto]
    | succ k ih =>
      intro h
      have := ih (by omega)
      simp only [upto]
      unfold cntL szLn at *
      omega
  exact this _ (Nat.le_refl _)

set_option maxRecDepth 100000 in
set_option maxHeartbeats 1000000 in
theorem markLineS_any (lo hi : Nat) (A : Option Addr) (c : Nat) (xs : List LineD) (K : Nat) (w : World) (h : LinesIn w (Zone.new lo hi) A xs) (hh : hi ≤ w.heap.size) (hn : cntLs xs xs.length ≤ 1048576) (hxl : xs.length ≤ 1048576) (h0 : 0 < K) (hK : K ≤ 1048576 * 1048576 - 3 * 1048576) :
    Calls Try.prog 34 #[.slice A xs.length c, .int .i64 (K : Nat)] w fun e w' => e = .returned (.int .i64 ((K + cntLs xs xs.length : Nat) : Int)) ∧ Mk lo hi w w' := by
  have HX := Lib.hid h
  have HLe : Hid (∀ k, k < xs.length → cntLs xs (k + 1) ≤ cntLs xs xs.length) := Lib.hid (fun k hk => upto_le _ hk)
  clear h
  go_enter Try.func34, Try.ntmps34
  go_wp2
  go_loopw [1, 5] (fun s i wr => ∃ j : Nat, j ≤ xs.length ∧ i = .int .i64 j ∧ s = .int .i64 ((K + cntLs xs j : Nat) : Int) ∧ Mk lo hi w wr) (fun _ i _ => xs.length - (intOf i).toNat)
  case atStart => exact ⟨0, Nat.zero_le _, rfl, rfl, Mk.refl _ _ _⟩
  case round =>
    obtain ⟨k, hk, rfl, rfl, hm⟩ := hrel
    have HM := Lib.hid hm
    by_cases hlt : k < xs.length
    · obtain ⟨b, o, rfl, hz, hf, hc⟩ := HX.out (by omega)
      obtain ⟨S, cs, R, cr, hc0, hc1, hc2, hi1, hi2, _⟩ := hc k hlt
      have HI1 : Hid (IntsIn w ((Zone.new lo hi).sub b) S (nthL xs k).stops) := Lib.hid hi1
      have HI2 : Hid (IntsIn w ((Zone.new lo hi).sub b) R (nthL xs k).runs) := Lib.hid hi2
      have HC0 := Lib.hid hc0
      have HC1 := Lib.hid hc1
      have HC2 := Lib.hid hc2
      have hsz := hm.size
      have hle := HLe.out k hlt
      have hu : cntLs xs (k + 1) = cntLs xs k + (1 + (nthL xs k).stops.length + (nthL xs k).runs.length) := rfl
      have hz1 := hz.1
      have hz2 := hz.2
      have hfr0 := hf trivial (o + k * 3)
      have hs1 : (nthL xs k).stops.length ≤ 1048576 := by omega
      have hs2 : (nthL xs k).runs.length ≤ 1048576 := by omega
      obtain ⟨P, hP⟩ : ∃ P : Nat, P = K + cntLs xs k := ⟨_, rfl⟩
      rw [← hP]
      have HU := Lib.hid (show K + cntLs xs (k + 1) = P + 1 + (nthL xs k).stops.length + (nthL xs k).runs.length by omega)
      have hPl : P ≤ 1048576 * 1048576 - 2 * 1048576 := by omega
      have hP0 : 0 < P := by omega
      clear hc hc0 hc1 hc2 hi1 hi2 hf hu hP hle
      go_wp2_with fail
      refine (markText_any P _ hP0 (by omega)).mono ?_
      rintro e w1 ⟨rfl, hb1⟩
      have hm1 : Mk lo hi w w1 := hm.trans (Mk.of_below hb1 (by omega))
      obtain ⟨v, hv0⟩ := hm1.str HC0.out
      have hv : w1.cell? ⟨b, o + k * 3, none⟩ = some (.string v) := hv0
      have hfr : w1.frozen? ⟨b, o + k * 3, none⟩ = false := by rw [hm1.free hz1 hz2]; exact hfr0
      have HM2 := Lib.hid (hm1.trans (Mk.set_str (t := mkT P) hz1 hz2 hv))
      have hc1 : (w1.setCell ⟨b, o + k * 3, none⟩ (.string (mkT P))).cell? ⟨b, o + k * 3 + 1, none⟩ = some (.slice S (nthL xs k).stops.length cs) := HM2.out.sl HC1.out
      obtain ⟨ys, hy, hi1⟩ := HI1.out.mk HM2.out (fun _ b hb => hb.1)
      have hq := markIntS_any lo hi S cs ys (P + 1) _ (hi1.mono (Zone.sub_le' _ _)) (by omega) (by omega)
      rw [hy] at hq
      push_cast at hq
      have HQ := Lib.hid hq
      clear hm hb1 hm1 hsz hi1 hq hy hv0 hfr0
      go_wp2_with fail
      refine HQ.out.mono ?_
      rintro e w2 ⟨rfl, hm2, _⟩
      have HM3 := Lib.hid (HM2.out.trans hm2)
      have hc2 : w2.cell? ⟨b, o + k * 3 + 2, none⟩ = some (.slice R (nthL xs k).runs.length cr) := HM3.out.sl HC2.out
      obtain ⟨zs, hy, hi2⟩ := HI2.out.mk HM3.out (fun _ b hb => hb.1)
      have hq := markIntS_any lo hi R cr zs (P + 1 + (nthL xs k).stops.length) _ (hi2.mono (Zone.sub_le' _ _)) (by omega) (by omega)
      rw [hy] at hq
      push_cast at hq
      have HQ2 := Lib.hid hq
      clear hm2 hi2 hq hy hc1 hv hfr
      go_wp2_with fail
      refine HQ2.out.mono ?_
      rintro e w3 ⟨rfl, hm3, _⟩
      have HM4 := Lib.hid (HM3.out.trans hm3)
      clear hm3 hc2
      go_wp2_with fail
      go_roundw
      case rel => exact ⟨k + 1, by omega, by go_num, by rw [HU.out]; push_cast; rfl, HM4.out⟩
      case measure => simp [intOf]; omega
    · obtain rfl : k = xs.length := by omega
      clear hm
      go_wp2
      go_ret
      exact ⟨rfl, HM.out⟩

/-- Lines behind marks. -/
theorem LinesIn.mk {lo hi : Nat} {w w' : World} {Z : Zone} {A : Option Addr} {xs : List LineD} (h : LinesIn w Z A xs) (hm : Mk lo hi w w') (hz : Z.soft → ∀ b, Z.ok b → lo ≤ b ∧ b < hi) :
    ∃ ys : List LineD, ys.length = xs.length ∧ (∀ k, k < xs.length → (nthL ys k).stops.length = (nthL xs k).stops.length ∧ (nthL ys k).runs.length = (nthL xs k).runs.length) ∧ LinesIn w' Z A ys := by
  by_cases h0 : 0 < xs.length
  · obtain ⟨b, o, e, hb, hf, hc⟩ := h h0
    have each : ∀ j, j < xs.length → ∃ y : LineD, (y.stops.length = (nthL xs j).stops.length ∧ y.runs.length = (nthL xs j).runs.length) ∧ eLine w' Z b (o + j * 3) y := fun j hj => by
      obtain ⟨S, cs, R, cr, h0, h1, h2, h3, h4, h5, h6⟩ := hc j hj
      obtain ⟨t, ht⟩ := hm.str h0
      obtain ⟨ys, hy, hi⟩ := h3.mk hm (fun hs c hc => hz hs c hc.1)
      obtain ⟨zs, hz', hi'⟩ := h4.mk hm (fun hs c hc => hz hs c hc.1)
      refine ⟨⟨t, ys, zs⟩, ⟨hy, hz'⟩, S, cs, R, cr, ht, ?_, ?_, hi, hi', by rw [hy]; exact h5, by rw [hz']; exact h6⟩
      · rw [hy]; exact hm.sl h1
      · rw [hz']; exact hm.sl h2
    have hz2 : ∃ f : Nat → LineD, ∀ j, j < xs.length → ((f j).stops.length = (nthL xs j).stops.length ∧ (f j).runs.length = (nthL xs j).runs.length) ∧ eLine w' Z b (o + j * 3) (f j) :=
      ⟨fun j => if h : j < xs.length then (each j h).choose else default, fun j hj => by
        simp only [hj, dif_pos]
        exact (each j hj).choose_spec⟩
    obtain ⟨f, hf2⟩ := hz2
    have hget : ∀ j, j < xs.length → ((List.range xs.length).map f).getD j default = f j := fun j hj => by
      rw [List.getD_eq_getElem?_getD, List.getElem?_map, List.getElem?_range hj]
      rfl
    refine ⟨(List.range xs.length).map f, by simp, fun k hk => ?_, fun _ => ⟨b, o, e, hb, fun hs j => ?_, fun j hj => ?_⟩⟩
    · unfold nthL
      rw [hget k hk]
      exact (hf2 k hk).1
    · rw [hm.free (hz hs b hb).1 (hz hs b hb).2]
      exact hf hs j
    · have hj' : j < xs.length := by simpa using hj
      rw [hget j hj']
      exact (hf2 j hj').2
  · exact ⟨xs, rfl, fun k hk => ⟨rfl, rfl⟩, fun hn => absurd hn h0⟩
theorem cntLs_eq {xs ys : List LineD} (h : ∀ k, k < xs.length → (nthL ys k).stops.length = (nthL xs k).stops.length ∧ (nthL ys k).runs.length = (nthL xs k).runs.length) : ∀ k, k ≤ xs.length → cntLs ys k = cntLs xs k := by
  intro k
  induction k with
  | zero => intro _; rfl
  | succ k ih =>
    intro hk
    have h1 := ih (by omega)
    obtain ⟨h2, h3⟩ := h k (by omega)
    have h4 : cntL (nthL ys k) = cntL (nthL xs k) := by unfold cntL; omega
    show cntLs ys k + cntL (nthL ys k) = cntLs xs k + cntL (nthL xs k)
    rw [h1, h4]

def cntN (x : NetD) : Nat := x.stops.length + cntLs x.lines x.lines.length
theorem cntN_le (x : NetD) : cntN x ≤ szNet x := by
  have := cntLs_le x.lines
  unfold cntN szNet szSs
  omega

set_option maxHeartbeats 1000000 in
theorem markNetwork_any (lo hi : Nat) (x : NetD) (A L : Option Addr) (ca cl K : Nat) (w : World) (hA : StrsIn w (Zone.new lo hi) A x.stops) (hL : LinesIn w (Zone.new lo hi) L x.lines) (hh : hi ≤ w.heap.size) (hn : szNet x ≤ 1048576) (h0 : 0 < K) (hK : K ≤ 1048576 * 1048576 - 4 * 1048576) :
    Calls Try.prog 13 #[.agg #[.slice A x.stops.length ca, .slice L x.lines.length cl], .int .i64 (K : Nat)] w fun e w' => e = .returned (.int .i64 ((K + cntN x : Nat) : Int)) ∧ Mk lo hi w w' := by
  have hb : Below w.heap.size w (w.alloc (.cells #[.slice A x.stops.length ca, .slice L x.lines.length cl] 34)) := by go_grown
  have HA := Lib.hid (hA.new_call hb hh)
  have HL := Lib.hid hL
  have hsn : szNet x = szSs x.stops + szLns x.lines := rfl
  have hss : szSs x.stops = x.stops.length + upto (fun j => (nthS x.stops j).size) x.stops.length := rfl
  have HM0 : Hid (Mk lo hi w (w.alloc (.cells #[.slice A x.stops.length ca, .slice L x.lines.length cl] 34))) := Lib.hid (Mk.of_below hb hh)
  have hlo : szLns x.lines ≤ 1048576 := by omega
  have hst : x.stops.length ≤ 1048576 := by omega
  have hzz : w.heap.size < (w.alloc (.cells #[.slice A x.stops.length ca, .slice L x.lines.length cl] 34)).heap.size := by simp
  have hcn : cntN x = x.stops.length + cntLs x.lines x.lines.length := rfl
  have HCn := Lib.hid hcn
  have hq := markStringS_any lo hi A ca x.stops K _ HA.out (Nat.le_trans hh (Nat.le_of_lt hzz)) hst h0 (by omega)
  have hc1 : (w.alloc (.cells #[.slice A x.stops.length ca, .slice L x.lines.length cl] 34)).cell? ⟨w.heap.size, 1, none⟩ = some (.slice L x.lines.length cl) := by go_simp
  push_cast at hq
  have HQ := Lib.hid hq
  have HC1 := Lib.hid hc1
  clear hA hL hb hsn hss hcn hq hc1
  go_enter Try.func13, Try.ntmps13
  go_wp2_with fail
  refine HQ.out.mono ?_
  rintro e w1 ⟨rfl, hm1, _⟩
  have HM1 := Lib.hid (HM0.out.trans hm1)
  have hc1 : w1.cell? ⟨w.heap.size, 1, none⟩ = some (.slice L x.lines.length cl) := (hm1.same (b := w.heap.size) (.inr hh) hzz 1).1.trans HC1.out
  have hz1 := HM1.out.size
  obtain ⟨ys, hy, hyl, hL1⟩ := HL.out.mk HM1.out (fun _ b hb => hb)
  have hce := cntLs_eq hyl _ (Nat.le_refl _)
  have hcl := cntLs_le x.lines
  have hxl : x.lines.length ≤ szLns x.lines := by unfold szLns; omega
  have hq := markLineS_any lo hi L cl ys (K + x.stops.length) _ hL1 (by omega) (by rw [hy, hce]; omega) (by omega) (by omega) (by omega)
  rw [hy, hce] at hq
  push_cast at hq
  have HQ2 := Lib.hid hq
  clear hm1 hyl hL1 hce hcl hxl hq hy
  go_wp2_with fail
  refine HQ2.out.mono ?_
  rintro e w2 ⟨rfl, hm2⟩
  have HM2 := Lib.hid (HM1.out.trans hm2)
  clear hm2 hc1
  go_wp2_with fail
  go_ret
  exact ⟨retI (by rw [HCn.out]; push_cast; omega), HM2.out⟩
end Go.Proofs.Ytemhcobjhpifpaa
