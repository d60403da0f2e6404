/- Marks of strings, lines, networks. -/
import Derived.Test.YtgakmmjbdejmdaaDoorMrk
import Derived.Test.YtgakmmjbdejmdaaDoorNetB
namespace Go.Proofs.YtgakmmjbdejmdaaDoor
open Go.ChangeShapes Go.WideShapes Go.ChangeAt Go.RowKit Go.PlainAid
set_option linter.unusedVariables false

/-! ### Strings -/
/-- The last digit of a number. -/
def dgB (k : Nat) : ByteArray := ⟨#[UInt8.ofNat (48 + k % 10)]⟩
theorem dgB_size (k : Nat) : (dgB k).size = 1 := rfl
/-- The digits of a number. -/
def dgs (k : Nat) : ByteArray := if k = 0 then ByteArray.empty else dgs (k / 10) ++ dgB k
termination_by k
decreasing_by omega
theorem dgs_pos {k : Nat} (h : 0 < k) : dgs k = dgs (k / 10) ++ dgB k := by
  rw [dgs, if_neg (by omega)]
/-- The text of a mark. -/
def mkT (k : Nat) : ByteArray := ⟨#[109]⟩ ++ dgs k
theorem strDig (k : Nat) : Value.string (strOfNums [48 + (k : Int) % 10]) = Value.string (dgB k) := by
  have e1 : (48 + (k : Int) % 10).toNat = 48 + k % 10 := by omega
  simp [strOfNums, e1, dgB]

set_option maxHeartbeats 400000 in
theorem markText_any (K : Nat) (w : World) (h0 : 0 < K) (hK : K ≤ 1099511627776) :
    Calls Tryd.prog 72 #[.int .i64 (K : Nat)] w fun e w' => e = .returned (.string (mkT K)) ∧ Below w.heap.size w w' := by
  go_enter Tryd.func72, Tryd.ntmps72
  go_wp2
  go_loopw [0, 3] (fun a s wr => ∃ t : Nat, ∃ r : ByteArray, a = .int .i64 t ∧ s = .string r ∧ Hid (dgs K = dgs t ++ r) ∧ r.size + t ≤ K ∧ Below w.heap.size w wr) (fun a _ _ => (intOf a).toNat)
  case atStart => exact ⟨K, ByteArray.empty, rfl, rfl, by simp [Hid], by simp, Below.refl _ _⟩
  case round =>
    obtain ⟨t, r, rfl, rfl, hd, hs, hb⟩ := hrel
    have HB := Lib.hid hb
    clear hb
    by_cases hlt : 0 < t
    · have hcv := run_convert_bytes_arg (P := Tryd.prog) (wr.alloc (.cells #[.int .u8 (48 + (t : Int) % 10)] 5)) 98 5 Tryd.underlying98 Tryd.underlying5 wr.heap.size 0 1 1 [48 + (t : Int) % 10] rfl
        (fun i hi => by
          rw [World.cell?_alloc_mark]
          match i, hi with
          | 0, _ => rfl) 9 Tryd.underlying9
      rw [strDig t] at hcv
      have h1 := dgB_size t
      have HD : Hid (dgs K = dgs (t / 10) ++ (dgB t ++ r)) := Lib.hid (by rw [hd.out, dgs_pos hlt, ByteArray.append_assoc])
      go_wp2
      go_roundw
      case rel => exact ⟨t / 10, _, by go_num, rfl, HD.out, by simp only [ByteArray.size_append]; omega, HB.out.alloc HB.out.size _⟩
      case measure => simp [intOf]; omega
    · have HD : Hid (dgs K = r) := Lib.hid (by rw [hd.out, show t = 0 by omega, dgs]; simp)
      go_wp2
      go_ret
      exact ⟨by unfold mkT; rw [HD.out]; rfl, HB.out⟩

/-- The texts of the marks from K on. -/
def marksS (K n : Nat) : List ByteArray := (List.range n).map fun j => mkT (K + j)
theorem marksS_length (K n : Nat) : (marksS K n).length = n := by simp [marksS]
theorem nth_marksS {K n j : Nat} (h : j < n) : nthS (marksS K n) j = mkT (K + j) := by
  unfold nthS marksS
  rw [List.getD_eq_getElem?_getD, List.getElem?_map, List.getElem?_range h]
  rfl

set_option maxHeartbeats 400000 in
theorem markStringS_any (lo hi : Nat) (A : Option Addr) (c : Nat) (xs : List ByteArray) (K : Nat) (w : World) (h : StrsIn w (Zone.new lo hi) A xs) (hh : hi ≤ w.heap.size) (hn : xs.length ≤ 1048576) (h0 : 0 < K) (hK : K ≤ 1048576 * 1048576 - 1048576) :
    Calls Tryd.prog 37 #[.slice A xs.length c, .int .i64 (K : Nat)] w fun e w' => e = .returned (.int .i64 ((K + xs.length : Nat) : Int)) ∧ Mk lo hi w w' ∧ StrsIn w' (Zone.new lo hi) A (marksS K xs.length) := by
  have HX := Lib.hid h
  clear h
  go_enter Tryd.func37, Tryd.ntmps37
  go_wp2
  go_loopw [1, 5] (fun s i wr => ∃ j : Nat, j ≤ xs.length ∧ i = .int .i64 j ∧ s = .int .i64 ((K + j : Nat) : Int) ∧ Mk lo hi w wr ∧ ∀ b o, A = some ⟨b, o, none⟩ → ∀ i, i < j → wr.cell? ⟨b, o + i, none⟩ = some (.string (mkT (K + i)))) (fun _ i _ => xs.length - (intOf i).toNat)
  case atStart => exact ⟨0, Nat.zero_le _, rfl, rfl, Mk.refl _ _ _, fun _ _ _ i hi => by omega⟩
  case round =>
    obtain ⟨k, hk, rfl, rfl, hm, hp⟩ := hrel
    have HM := Lib.hid hm
    have HP := Lib.hid hp
    clear hp
    by_cases hlt : k < xs.length
    · obtain ⟨b, o, rfl, hz, hf, hc⟩ := HX.out (by omega)
      have hsz := hm.size
      go_wp2_with fail
      refine (markText_any (K + k) _ (by omega) (by omega)).mono ?_
      rintro e w1 ⟨rfl, hb1⟩
      have hm1 : Mk lo hi w w1 := hm.trans (Mk.of_below hb1 (by omega))
      obtain ⟨v, hv⟩ := hm1.str (hc k hlt)
      have hfr : w1.frozen? ⟨b, o + k, none⟩ = false := by rw [hm1.free hz.1 hz.2]; exact hf trivial _
      have HS : Hid (∀ b' o', (some ⟨b, o, none⟩ : Option Addr) = some ⟨b', o', none⟩ → ∀ i, i < k + 1 → (w1.setCell ⟨b, o + k, none⟩ (.string (mkT (K + k)))).cell? ⟨b', o' + i, none⟩ = some (.string (mkT (K + i)))) := Lib.hid (fun b' o' e i hi => by
        injection e with e
        injection e with e1 e2
        subst e1 e2
        by_cases e : i = k
        · subst e; exact World.cell?_setCell_same _ _ _ hv
        · rw [World.cell?_setCell_other _ _ _ _ (addr_ne (by omega)), hb1.cell (p := ⟨b, o + i, none⟩) (by have := hz.2; show b < _; omega)]; exact HP.out _ _ rfl i (by omega))
      have HM2 := Lib.hid (hm1.trans (Mk.set_str (t := mkT (K + k)) hz.1 hz.2 hv))
      clear hm hc hf hz hb1 hm1 hsz
      go_wp2_with fail
      go_roundw
      case rel => exact ⟨k + 1, by omega, by go_num, by go_num, HM2.out, HS.out⟩
      case measure => simp [intOf]; omega
    · obtain rfl : k = xs.length := by omega
      clear hm
      go_wp2
      go_ret
      refine ⟨rfl, HM.out, fun hn0 => ?_⟩
      rw [marksS_length] at hn0
      obtain ⟨b, o, e, hz, hf, hc⟩ := HX.out hn0
      refine ⟨b, o, e, hz, fun hs j => by rw [HM.out.free hz.1 hz.2]; exact hf hs j, fun j hj => ?_⟩
      rw [marksS_length] at hj
      show wr.cell? ⟨b, o + j, none⟩ = some (.string (nthS (marksS K xs.length) j))
      rw [nth_marksS hj]
      exact HP.out b o e j hj

/-! ### Lines and networks -/
def cntL (x : LineD) : Nat := 1 + x.stops.length + x.runs.length
def cntLs (xs : List LineD) (k : Nat) : Nat := upto (fun j => cntL (nthL xs j)) k
theorem cntLs_le (xs : List LineD) : cntLs xs xs.length ≤ szLns xs := by
  unfold cntLs szLns
  have : ∀ k, k ≤ xs.length → upto (fun j => cntL (nthL xs j)) k ≤ k + upto (fun j => szLn (nthL xs j)) k := by
    intro k
    induction k with
    | zero => intro _; simp [upto]
    | succ k ih =>
      intro h
      have := ih (by omega)
      simp only [upto]
      unfold cntL szLn at *
      omega
  exact this _ (Nat.le_refl _)

/-- Lines behind marks. -/
theorem LinesIn.mk {lo hi : Nat} {w w' : World} {Z : Zone} {A : Option Addr} {xs : List LineD} (h : LinesIn w Z A xs) (hm : Mk lo hi w w') (hz : Z.soft → ∀ b, Z.ok b → lo ≤ b ∧ b < hi) :
    ∃ ys : List LineD, ys.length = xs.length ∧ (∀ k, k < xs.length → (nthL ys k).stops.length = (nthL xs k).stops.length ∧ (nthL ys k).runs.length = (nthL xs k).runs.length) ∧ LinesIn w' Z A ys := by
  by_cases h0 : 0 < xs.length
  · obtain ⟨b, o, e, hb, hf, hc⟩ := h h0
    have each : ∀ j, j < xs.length → ∃ y : LineD, (y.stops.length = (nthL xs j).stops.length ∧ y.runs.length = (nthL xs j).runs.length) ∧ eLine w' Z b (o + j * 3) y := fun j hj => by
      obtain ⟨S, cs, R, cr, h0, h1, h2, h3, h4, h5, h6⟩ := hc j hj
      obtain ⟨t, ht⟩ := hm.str h0
      obtain ⟨ys, hy, hi⟩ := h3.mk hm (fun hs c hc => hz hs c hc.1)
      obtain ⟨zs, hz', hi'⟩ := h4.mk hm (fun hs c hc => hz hs c hc.1)
      refine ⟨⟨t, ys, zs⟩, ⟨hy, hz'⟩, S, cs, R, cr, ht, ?_, ?_, hi, hi', by rw [hy]; exact h5, by rw [hz']; exact h6⟩
      · rw [hy]; exact hm.sl h1
      · rw [hz']; exact hm.sl h2
    have hz2 : ∃ f : Nat → LineD, ∀ j, j < xs.length → ((f j).stops.length = (nthL xs j).stops.length ∧ (f j).runs.length = (nthL xs j).runs.length) ∧ eLine w' Z b (o + j * 3) (f j) :=
      ⟨fun j => if h : j < xs.length then (each j h).choose else default, fun j hj => by
        simp only [hj, dif_pos]
        exact (each j hj).choose_spec⟩
    obtain ⟨f, hf2⟩ := hz2
    have hget : ∀ j, j < xs.length → ((List.range xs.length).map f).getD j default = f j := fun j hj => by
      rw [List.getD_eq_getElem?_getD, List.getElem?_map, List.getElem?_range hj]
      rfl
    refine ⟨(List.range xs.length).map f, by simp, fun k hk => ?_, fun _ => ⟨b, o, e, hb, fun hs j => ?_, fun j hj => ?_⟩⟩
    · unfold nthL
      rw [hget k hk]
      exact (hf2 k hk).1
    · rw [hm.free (hz hs b hb).1 (hz hs b hb).2]
      exact hf hs j
    · have hj' : j < xs.length := by simpa using hj
      rw [hget j hj']
      exact (hf2 j hj').2
  · exact ⟨xs, rfl, fun k hk => ⟨rfl, rfl⟩, fun hn => absurd hn h0⟩
theorem cntLs_eq {xs ys : List LineD} (h : ∀ k, k < xs.length → (nthL ys k).stops.length = (nthL xs k).stops.length ∧ (nthL ys k).runs.length = (nthL xs k).runs.length) : ∀ k, k ≤ xs.length → cntLs ys k = cntLs xs k := by
  intro k
  induction k with
  | zero => intro _; rfl
  | succ k ih =>
    intro hk
    have h1 := ih (by omega)
    obtain ⟨h2, h3⟩ := h k (by omega)
    have h4 : cntL (nthL ys k) = cntL (nthL xs k) := by unfold cntL; omega
    show cntLs ys k + cntL (nthL ys k) = cntLs xs k + cntL (nthL xs k)
    rw [h1, h4]

def cntN (x : NetD) : Nat := x.stops.length + cntLs x.lines x.lines.length
theorem cntN_le (x : NetD) : cntN x ≤ szNet x := by
  have := cntLs_le x.lines
  unfold cntN szNet szSs
  omega

end Go.Proofs.YtgakmmjbdejmdaaDoor
