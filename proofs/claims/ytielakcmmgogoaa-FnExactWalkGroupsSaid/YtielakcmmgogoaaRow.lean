/- Slices of slices of integers: equality, marks, what holds them. -/
import Derived.Test.YtielakcmmgogoaaMrk
import Derived.Test.YtielakcmmgogoaaNetA
namespace Go.Proofs.Ytielakcmmgogoaa
open Go.ChangeShapes Go.WideShapes Go.ChangeAt Go.RowKit Go.PlainAid
set_option linter.unusedVariables false
set_option linter.unusedSimpArgs false

def eRow : Rd (List Int) := fun w Z b o x => ∃ S c, w.cell? ⟨b, o, none⟩ = some (.slice S x.length c) ∧ IntsIn w (Z.sub b) S x
instance : RdOk eRow := ⟨fun hs hb h => by
  obtain ⟨S, c, h0, h1⟩ := h
  exact ⟨S, c, (hb _).1.trans h0, h1.keep hs⟩, fun hz h => by
  obtain ⟨S, c, h0, h1⟩ := h
  exact ⟨S, c, h0, h1.mono (Zone.sub_le hz _)⟩⟩
abbrev RowsIn (w : World) (Z : Zone) (A : Option Addr) (xs : List (List Int)) : Prop := Sl eRow (fun j => j) w Z A xs
def nthR (xs : List (List Int)) (k : Nat) : List Int := xs.getD k default
theorem sub_le' (Z : Zone) (b : Nat) : (Z.sub b).le Z := ⟨fun _ h => h.1, fun h => h⟩
theorem RowsIn.at {w : World} {Z : Zone} {A : Option Addr} {xs : List (List Int)} (h : RowsIn w Z A xs) {k : Nat} (hk : k < xs.length) :
    ∃ b o, A = some ⟨b, o, none⟩ ∧ Z.ok b ∧ ∃ S c, w.cell? ⟨b, o + k, none⟩ = some (.slice S (nthR xs k).length c) ∧ IntsIn w Z S (nthR xs k) := by
  obtain ⟨b, o, e, hb, S, c, h0, h1⟩ := h.get hk
  exact ⟨b, o, e, hb, S, c, h0, h1.mono (sub_le' _ _)⟩

set_option maxRecDepth 100000 in
set_option maxHeartbeats 1000000 in
theorem eqIntSS_same (A A' : Option Addr) (c c' : Nat) (xs : List (List Int)) (w : World) (h : RowsIn w (Zone.below w.heap.size) A xs) (h' : RowsIn w (Zone.below w.heap.size) A' xs) (hn : xs.length ≤ 1048576) (hr : ∀ k, k < xs.length → (nthR xs k).length ≤ 1048576) :
    Calls Try.prog 11 #[.slice A xs.length c, .slice A' xs.length c'] w fun e w' => e = .returned (.bool true) ∧ Below w.heap.size w w' := by
  have HX := Lib.hid h
  have HY := Lib.hid h'
  have HR := Lib.hid hr
  clear h h' hr
  go_enter Try.func11, Try.ntmps11
  go_wp2
  go_loopw [5] (fun i wr => ∃ k : Nat, k ≤ xs.length ∧ i = .int .i64 k ∧ Below w.heap.size w wr) (fun i _ => xs.length - (intOf i).toNat)
  case atStart => exact ⟨0, Nat.zero_le _, rfl, Below.refl _ _⟩
  case round =>
    obtain ⟨k, hk, rfl, hb⟩ := hrel
    have HB := Lib.hid hb
    by_cases hlt : k < xs.length
    · obtain ⟨b, o, rfl, hbl, S, cs, hc0, hi0⟩ := RowsIn.at (HX.out.at_below hb) hlt
      obtain ⟨b', o', rfl, hbl', S', cs', hc0', hi0'⟩ := RowsIn.at (HY.out.at_below hb) hlt
      have HI0 : Hid (IntsIn wr.drew (Zone.below wr.drew.heap.size) S (nthR xs k)) := Lib.hid ((hi0.mono (Zone.below_le hb.size)).call (Below.refl wr.heap.size wr).drew)
      have HI0' : Hid (IntsIn wr.drew (Zone.below wr.drew.heap.size) S' (nthR xs k)) := Lib.hid ((hi0'.mono (Zone.below_le hb.size)).call (Below.refl wr.heap.size wr).drew)
      have hj1 : (k : Int) < (xs.length : Int) := by omega
      clear hb hi0 hi0'
      go_wp2_with fail
      go_still_tail 8, (by kernel_rfl)
      go_wp2_with fail
      refine (eqIntS_same _ _ _ _ (nthR xs k) _ (IntsIn.at HI0.out) (IntsIn.at HI0'.out) (HR.out k hlt)).mono ?_
      rintro e w1 ⟨rfl, q, rfl⟩
      have HB1 := Lib.hid (bel_drewN HB.out (1 + q))
      go_wp2_with fail
      go_roundw
      case rel => exact ⟨k + 1, by omega, by go_num, HB1.out⟩
      case measure => simp [intOf]; omega
    · obtain rfl : k = xs.length := by omega
      clear hb
      go_wp2_with fail
      go_ret
      exact ⟨rfl, HB.out⟩

/-! ### Marks -/
def cntR (xs : List (List Int)) : Nat → Nat
  | 0 => 0
  | k + 1 => cntR xs k + (nthR xs k).length
/-- The rows' marks. -/
def mksR (xs : List (List Int)) (K : Nat) : List (List Int) := (List.range xs.length).map fun k => marks (K + cntR xs k) (nthR xs k).length
theorem mksR_length (xs : List (List Int)) (K : Nat) : (mksR xs K).length = xs.length := by simp [mksR]
theorem nth_mksR {xs : List (List Int)} {K k : Nat} (h : k < xs.length) : nthR (mksR xs K) k = marks (K + cntR xs k) (nthR xs k).length := by
  unfold nthR mksR
  rw [List.getD_eq_getElem?_getD, List.getElem?_map, List.getElem?_range h]
  rfl
theorem cntR_mono {xs : List (List Int)} : ∀ {m k : Nat}, k ≤ m → cntR xs k ≤ cntR xs m := by
  intro m k h
  induction m with
  | zero => have : k = 0 := by omega
            subst this; exact Nat.le_refl _
  | succ m ih =>
    by_cases e : k = m + 1
    · subst e; exact Nat.le_refl _
    · have := ih (by omega); simp only [cntR]; omega

set_option maxRecDepth 100000 in
set_option maxHeartbeats 1000000 in
theorem heldIntSS_any (A : Option Addr) (c : Nat) (xs : List (List Int)) (K : Nat) (w : World) (Z : Zone) (h : RowsIn w Z A (mksR xs K)) (hn : xs.length ≤ 1048576) (hc : cntR xs xs.length ≤ 1048576) (hK : K ≤ 1048576) :
    Calls Try.prog 17 #[.slice A xs.length c, .int .i64 (K : Nat)] w fun e w' => e = .returned (.int .i64 ((K + cntR xs xs.length : Nat) : Int)) ∧ w = w' := by
  have HX := Lib.hid h
  have HC := Lib.hid hc
  clear h hc
  go_enter Try.func17, Try.ntmps17
  go_wp2
  go_loopw [1, 5] (fun s i wr => ∃ j : Nat, j ≤ xs.length ∧ i = .int .i64 j ∧ (∃ P : Nat, s = .int .i64 (P : Int) ∧ P = K + cntR xs j) ∧ w = wr) (fun _ i _ => xs.length - (intOf i).toNat)
  case atStart => exact ⟨0, Nat.zero_le _, rfl, ⟨K, rfl, rfl⟩, rfl⟩
  case round =>
    obtain ⟨k, hk, rfl, ⟨P, rfl, hP⟩, rfl⟩ := hrel
    have HPP := Lib.hid hP
    have hcm : cntR xs k ≤ 1048576 := Nat.le_trans (cntR_mono hk) HC.out
    have hPl : P ≤ 2 * 1048576 := by omega
    by_cases hlt : k < xs.length
    · obtain ⟨b, o, rfl, _, S, cs, h0, h1⟩ := RowsIn.at HX.out (k := k) (by rw [mksR_length]; exact hlt)
      rw [nth_mksR hlt, marks_length] at h0
      rw [nth_mksR hlt, ← hP] at h1
      have hcs : cntR xs (k + 1) ≤ 1048576 := Nat.le_trans (cntR_mono (by omega)) HC.out
      have hrl : (nthR xs k).length ≤ 1048576 := by simp only [cntR] at hcs; omega
      have hj1 : (k : Int) < (xs.length : Int) := by omega
      have HH := Lib.hid (heldIntS_any S cs (nthR xs k).length P w Z h1 hrl (by omega))
      have hw0 : decide ((P : Int) + ((nthR xs k).length : Int) < 0) = false := by simp; omega
      have HS : Hid (P + (nthR xs k).length = K + cntR xs (k + 1)) := Lib.hid (by simp only [cntR]; omega)
      clear h1 hP hcs
      go_wp2_with fail
      refine HH.out.mono ?_
      rintro e w1 ⟨rfl, rfl⟩
      push_cast
      go_wp2_with fail
      go_roundw
      case rel => exact ⟨k + 1, by omega, by go_num, ⟨P + (nthR xs k).length, by push_cast; rfl, HS.out⟩, trivial⟩
      case measure => simp [intOf]; omega
    · obtain rfl : k = xs.length := by omega
      clear hP
      go_wp2
      go_ret
      exact ⟨retI (by have := HPP.out; omega), rfl⟩
end Go.Proofs.Ytielakcmmgogoaa
