/- Rows of the call's own: their marks. -/
import Derived.Test.YtielakcmmgogoaaRow
namespace Go.Proofs.Ytielakcmmgogoaa
open Go.ChangeShapes Go.WideShapes Go.ChangeAt Go.RowKit Go.PlainAid
set_option linter.unusedVariables false
set_option linter.unusedSimpArgs false

theorem Mk.broadR {a b lo hi : Nat} {w w' : World} (h : Mk a b w w') (h1 : lo ≤ a) (h2 : b ≤ hi) (h3 : hi ≤ w.heap.size) : Mk lo hi w w' :=
  ⟨h.os, h.tape, h.output, h.size, fun c hc hs => h.out c (by omega) hs, fun c h4 h5 o => by
    by_cases hc : c < a ∨ b ≤ c
    · have := h.same hc (by omega) o
      exact ⟨this.2, Or.inl this.1⟩
    · exact h.ins c (by omega) (by omega) o⟩
/-- Rows in blocks of their own; the outer slice in block g. -/
structure ROwn (w : World) (lo hi g : Nat) (xs : List (List Int)) (p : Nat → Nat) (S : Nat → Option Addr) (cc : Nat → Nat) : Prop where
  g0 : lo ≤ g
  g1 : g < hi
  p0 : ∀ k, k < xs.length → lo ≤ p k ∧ p k < hi ∧ p k ≠ g
  pp : ∀ j k, j < xs.length → k < xs.length → j ≠ k → p j ≠ p k
  free : ∀ j, w.frozen? ⟨g, j, none⟩ = false
  cell : ∀ k, k < xs.length → w.cell? ⟨g, k, none⟩ = some (.slice (S k) (nthR xs k).length (cc k))
  row : ∀ k, k < xs.length → IntsIn w (Zone.new (p k) (p k + 1)) (S k) (nthR xs k)
theorem ROwn.keep {w w' : World} {lo hi g : Nat} {xs : List (List Int)} {p : Nat → Nat} {S : Nat → Option Addr} {cc : Nat → Nat} (h : ROwn w lo hi g xs p S cc) (hs : ∀ c, lo ≤ c ∧ c < hi → Same w w' c) : ROwn w' lo hi g xs p S cc :=
  ⟨h.g0, h.g1, h.p0, h.pp, fun j => (hs g ⟨h.g0, h.g1⟩ j).2.trans (h.free j), fun k hk => (hs g ⟨h.g0, h.g1⟩ k).1.trans (h.cell k hk), fun k hk => (h.row k hk).keep fun c hc => by
    have h1 := hc.1
    have h2 := hc.2
    have := h.p0 k hk
    exact hs c (by omega)⟩
theorem ROwn.rows {w : World} {lo hi g : Nat} {xs : List (List Int)} {p : Nat → Nat} {S : Nat → Option Addr} {cc : Nat → Nat} (h : ROwn w lo hi g xs p S cc) : RowsIn w (Zone.new lo hi) (some ⟨g, 0, none⟩) xs := fun _ =>
  ⟨g, 0, rfl, ⟨h.g0, h.g1⟩, fun _ => h.free, fun j hj => by
    rw [Nat.zero_add]
    refine ⟨S j, cc j, h.cell j hj, (h.row j hj).mono ?_⟩
    have := h.p0 j hj
    exact ⟨fun c hc => by
      have h1 := hc.1
      have h2 := hc.2
      have e : c = p j := by omega
      subst e
      exact ⟨⟨this.1, this.2.1⟩, fun _ => this.2.2⟩, fun _ => trivial⟩⟩
/-- The rows, of which the first j are marked. -/
def mkdR (xs : List (List Int)) (K j : Nat) : List (List Int) := (List.range xs.length).map fun k => if k < j then marks (K + cntR xs k) (nthR xs k).length else nthR xs k
theorem mkdR_length (xs : List (List Int)) (K j : Nat) : (mkdR xs K j).length = xs.length := by simp [mkdR]
theorem nth_mkdR {xs : List (List Int)} {K j k : Nat} (h : k < xs.length) : nthR (mkdR xs K j) k = if k < j then marks (K + cntR xs k) (nthR xs k).length else nthR xs k := by
  unfold nthR mkdR
  rw [List.getD_eq_getElem?_getD, List.getElem?_map, List.getElem?_range h]
  rfl
theorem mkdR_all (xs : List (List Int)) (K : Nat) : mkdR xs K xs.length = mksR xs K := by
  unfold mkdR mksR
  refine List.map_congr_left fun k hk => ?_
  rw [if_pos (List.mem_range.1 hk)]
theorem nth_mkdR_len {xs : List (List Int)} {K j k : Nat} (h : k < xs.length) : (nthR (mkdR xs K j) k).length = (nthR xs k).length := by
  rw [nth_mkdR h]
  split
  · exact marks_length _ _
  · rfl
theorem ROwn.zero {w : World} {lo hi g : Nat} {xs : List (List Int)} {p : Nat → Nat} {S : Nat → Option Addr} {cc : Nat → Nat} (h : ROwn w lo hi g xs p S cc) (K : Nat) : ROwn w lo hi g (mkdR xs K 0) p S cc := by
  have e : mkdR xs K 0 = xs := by
    unfold mkdR
    refine List.ext_getElem (by simp) (fun i h1 h2 => ?_)
    simp only [List.getElem_map, List.getElem_range]
    rw [if_neg (Nat.not_lt_zero _)]
    unfold nthR
    rw [List.getD_eq_getElem?_getD, List.getElem?_eq_getElem h2]
    rfl
  rw [e]; exact h
theorem ROwn.step {w w' : World} {lo hi g : Nat} {xs : List (List Int)} {p : Nat → Nat} {S : Nat → Option Addr} {cc : Nat → Nat} {K k : Nat} (h : ROwn w lo hi g (mkdR xs K k) p S cc) (hk : k < xs.length) (hh : hi ≤ w.heap.size)
    (hm : Mk (p k) (p k + 1) w w') (hn : IntsIn w' (Zone.new (p k) (p k + 1)) (S k) (marks (K + cntR xs k) (nthR xs k).length)) : ROwn w' lo hi g (mkdR xs K (k + 1)) p S cc := by
  have hl := mkdR_length xs K k
  have pk := h.p0 k (by omega)
  have sg : Same w w' g := hm.same (by omega) (by have := h.g1; omega)
  refine ⟨h.g0, h.g1, fun j hj => h.p0 j (by rw [mkdR_length] at hj ⊢; exact hj), fun i j hi hj hij => h.pp i j (by rw [mkdR_length] at hi ⊢; exact hi) (by rw [mkdR_length] at hj ⊢; exact hj) hij, fun j => (sg j).2.trans (h.free j), fun j hj => ?_, fun j hj => ?_⟩
  · rw [mkdR_length] at hj
    rw [nth_mkdR_len hj, ← nth_mkdR_len (K := K) (j := k) hj]
    exact (sg j).1.trans (h.cell j (by omega))
  · rw [mkdR_length] at hj
    by_cases e : j = k
    · subst e
      rw [nth_mkdR hj, if_pos (by omega)]
      exact hn
    · have e2 : nthR (mkdR xs K (k + 1)) j = nthR (mkdR xs K k) j := by
        rw [nth_mkdR hj, nth_mkdR hj]
        by_cases hlt : j < k
        · rw [if_pos hlt, if_pos (by omega)]
        · rw [if_neg hlt, if_neg (by omega)]
      rw [e2]
      have pj := h.p0 j (by omega)
      have hne := h.pp j k (by omega) (by omega) e
      exact (h.row j (by omega)).keep fun c hc => by
        have h1 := hc.1
        have h2 := hc.2
        exact hm.same (by omega) (by omega)

set_option maxRecDepth 100000 in
set_option maxHeartbeats 1000000 in
theorem markIntSS_own (lo hi g : Nat) (c : Nat) (xs : List (List Int)) (p : Nat → Nat) (S : Nat → Option Addr) (cc : Nat → Nat) (K : Nat) (w : World) (h : ROwn w lo hi g xs p S cc) (hh : hi ≤ w.heap.size) (hn : xs.length ≤ 1048576) (hc : cntR xs xs.length ≤ 1048576) (hK : K ≤ 1048576) :
    Calls Try.prog 16 #[.slice (some ⟨g, 0, none⟩) xs.length c, .int .i64 (K : Nat)] w fun e w' => e = .returned (.int .i64 ((K + cntR xs xs.length : Nat) : Int)) ∧ Mk lo hi w w' ∧ RowsIn w' (Zone.new lo hi) (some ⟨g, 0, none⟩) (mksR xs K) := by
  have HX := Lib.hid (h.zero K)
  have HC := Lib.hid hc
  clear h hc
  go_enter Try.func16, Try.ntmps16
  go_wp2
  go_loopw [1, 5] (fun s i wr => ∃ j : Nat, j ≤ xs.length ∧ i = .int .i64 j ∧ (∃ P : Nat, s = .int .i64 (P : Int) ∧ P = K + cntR xs j) ∧ Mk lo hi w wr ∧ ROwn wr lo hi g (mkdR xs K j) p S cc) (fun _ i _ => xs.length - (intOf i).toNat)
  case atStart => exact ⟨0, Nat.zero_le _, rfl, ⟨K, rfl, rfl⟩, Mk.refl _ _ _, HX.out⟩
  case round =>
    obtain ⟨k, hk, rfl, ⟨P, rfl, hP⟩, hm, ho⟩ := hrel
    have HPP := Lib.hid hP
    have HM := Lib.hid hm
    have HO := Lib.hid ho
    have hz := hm.size
    have hcm : cntR xs k ≤ 1048576 := Nat.le_trans (cntR_mono hk) HC.out
    have hPl : P ≤ 2 * 1048576 := by omega
    by_cases hlt : k < xs.length
    · have hkl : k < (mkdR xs K k).length := by rw [mkdR_length]; exact hlt
      have h0 := ho.cell k hkl
      have h1 := ho.row k hkl
      have hp0 := ho.p0 k hkl
      rw [nth_mkdR_len hlt] at h0
      rw [nth_mkdR hlt, if_neg (by omega)] at h1
      have hcs : cntR xs (k + 1) ≤ 1048576 := Nat.le_trans (cntR_mono (by omega)) HC.out
      have hrl : (nthR xs k).length ≤ 1048576 := by simp only [cntR] at hcs; omega
      have hj1 : (k : Int) < (xs.length : Int) := by omega
      have HH := Lib.hid (markIntS_any (p k) (p k + 1) (S k) (cc k) (nthR xs k) P wr h1 hrl (by omega))
      have HS : Hid (P + (nthR xs k).length = K + cntR xs (k + 1)) := Lib.hid (by simp only [cntR]; omega)
      clear h1 hP hcs hm ho
      go_wp2_with fail
      refine HH.out.mono ?_
      rintro e w1 ⟨rfl, hm1, hi1⟩
      have HM1 := Lib.hid (HM.out.trans (hm1.broadR hp0.1 (by omega) (by omega)))
      have HO1 := Lib.hid (HO.out.step hlt (by omega) hm1 (by rw [← HPP.out]; exact hi1))
      clear hm1 hi1
      push_cast
      go_wp2_with fail
      go_roundw
      case rel => exact ⟨k + 1, by omega, by go_num, ⟨P + (nthR xs k).length, by push_cast; rfl, HS.out⟩, HM1.out, HO1.out⟩
      case measure => simp [intOf]; omega
    · obtain rfl : k = xs.length := by omega
      clear hP hm ho
      go_wp2
      go_ret
      refine ⟨retI (by have := HPP.out; omega), HM.out, ?_⟩
      rw [← mkdR_all]
      exact HO.out.rows
end Go.Proofs.Ytielakcmmgogoaa
