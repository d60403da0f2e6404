/- Marks of spans. -/
import Derived.Test.YtambgommeannnaaSpn
import Derived.Test.YtambgommeannnaaMrn
namespace Go.Proofs.Ytambgommeannnaa
open Go.ChangeShapes Go.WideShapes Go.ChangeAt Go.RowKit Go.PlainAid
set_option linter.unusedVariables false
set_option linter.unusedSimpArgs false

/-- Marks in structs of two integers. -/
def marks2 (K n : Nat) : List I2 := (List.range n).map fun j => ⟨((K + 2 * j : Nat) : Int), ((K + 2 * j + 1 : Nat) : Int)⟩
theorem marks2_length (K n : Nat) : (marks2 K n).length = n := by simp [marks2]
theorem nth_marks2 {K n j : Nat} (h : j < n) : nth2 (marks2 K n) j = ⟨((K + 2 * j : Nat) : Int), ((K + 2 * j + 1 : Nat) : Int)⟩ := by
  unfold nth2 marks2
  rw [List.getD_eq_getElem?_getD, List.getElem?_map, List.getElem?_range h]
  rfl
set_option maxRecDepth 100000 in
set_option maxHeartbeats 1000000 in
theorem markSpanS_res (lo hi : Nat) (A : Option Addr) (c : Nat) (xs : List I2) (K : Nat) (w : World) (h : I2sIn w (Zone.new lo hi) A xs) (hn : xs.length ≤ 1048576) (hK : K ≤ 1099511627776) :
    Calls Try.prog 50 #[.slice A xs.length c, .int .i64 (K : Nat)] w fun e w' => e = .returned (.int .i64 ((K + 2 * xs.length : Nat) : Int)) ∧ Mk lo hi w w' ∧ I2sIn w' (Zone.new lo hi) A (marks2 K xs.length) := by
  have HX := Lib.hid h
  clear h
  go_enter Try.func50, Try.ntmps50
  go_wp2
  go_loopw [1, 5] (fun s i wr => ∃ j : Nat, j ≤ xs.length ∧ i = .int .i64 j ∧ (∃ P : Nat, s = .int .i64 (P : Int) ∧ P = K + 2 * j) ∧ Mk lo hi w wr ∧ ∀ b o, A = some ⟨b, o, none⟩ → ∀ i, i < j → eI2 wr (Zone.new lo hi) b (o + i * 2) ⟨((K + 2 * i : Nat) : Int), ((K + 2 * i + 1 : Nat) : Int)⟩) (fun _ i _ => xs.length - (intOf i).toNat)
  case atStart => exact ⟨0, Nat.zero_le _, rfl, ⟨K, rfl, rfl⟩, Mk.refl _ _ _, fun _ _ _ i hi => by omega⟩
  case round =>
    obtain ⟨k, hk, rfl, ⟨P, rfl, hP⟩, hm, hp⟩ := hrel
    have HM := Lib.hid hm
    have HPP := Lib.hid hP
    have HPr := Lib.hid hp
    have hPl : P ≤ 1099511627776 + 2 * 1048576 := by omega
    clear hP hp
    by_cases hlt : k < xs.length
    · obtain ⟨b, o, rfl, hz, hf, hc⟩ := HX.out (by omega)
      obtain ⟨h0, h1⟩ := hc k hlt
      obtain ⟨v0, hv0'⟩ := hm.int h0
      obtain ⟨v1, hv1'⟩ := hm.int h1
      have hv0 : wr.cell? ⟨b, o + k * 2, none⟩ = some (.int .i64 v0) := hv0'
      have hv1 : wr.cell? ⟨b, o + k * 2 + 1, none⟩ = some (.int .i64 v1) := hv1'
      have hfr0 : wr.frozen? ⟨b, o + k * 2, none⟩ = false := by rw [hm.free hz.1 hz.2]; exact hf trivial _
      have hfr1 : wr.frozen? ⟨b, o + k * 2 + 1, none⟩ = false := by rw [hm.free hz.1 hz.2]; exact hf trivial _
      have n1 : (wr.setCell ⟨b, o + k * 2, none⟩ (.int .i64 (P : Int))).cell? ⟨b, o + k * 2 + 1, none⟩ = some (.int .i64 v1) := by rw [World.cell?_setCell_other _ _ _ _ (addr_ne (by omega))]; exact hv1
      have HM2 := Lib.hid ((HM.out.trans (Mk.set_int (j := (P : Int)) hz.1 hz.2 hv0)).trans (Mk.set_int (j := (P : Int) + 1) hz.1 hz.2 n1))
      have HS : Hid (∀ b' o', (some ⟨b, o, none⟩ : Option Addr) = some ⟨b', o', none⟩ → ∀ i, i < k + 1 → eI2 ((wr.setCell ⟨b, o + k * 2, none⟩ (.int .i64 (P : Int))).setCell ⟨b, o + k * 2 + 1, none⟩ (.int .i64 ((P : Int) + 1))) (Zone.new lo hi) b' (o' + i * 2) ⟨((K + 2 * i : Nat) : Int), ((K + 2 * i + 1 : Nat) : Int)⟩) := Lib.hid (fun b' o' e i hi => by
        injection e with e
        injection e with e1 e2
        subst e1 e2
        by_cases e : i = k
        · subst e
          have hq := HPP.out
          refine ⟨?_, ?_⟩
          · rw [World.cell?_setCell_other _ _ _ _ (addr_ne (by omega)), World.cell?_setCell_same _ _ _ hv0]
            subst hq; rfl
          · rw [World.cell?_setCell_same _ _ _ n1]
            subst hq; rfl
        · obtain ⟨g0, g1⟩ := HPr.out _ _ rfl i (by omega)
          refine ⟨?_, ?_⟩
          all_goals
            rw [World.cell?_setCell_other _ _ _ _ (addr_ne (by omega)), World.cell?_setCell_other _ _ _ _ (addr_ne (by omega))]
            assumption)
      clear hm hc hf hz h0 h1 hv0' hv1' n1
      go_wp2
      go_roundw
      case rel => exact ⟨k + 1, by omega, by go_num, ⟨P + 1 + 1, by go_num, by have := HPP.out; omega⟩, HM2.out, HS.out⟩
      case measure => simp [intOf]; omega
    · obtain rfl : k = xs.length := by omega
      clear hm
      go_wp2
      go_ret
      refine ⟨retI (by have := HPP.out; omega), HM.out, fun hn0 => ?_⟩
      rw [marks2_length] at hn0
      obtain ⟨b, o, e, hz, hf, hc⟩ := HX.out hn0
      refine ⟨b, o, e, hz, fun hs j => by rw [HM.out.free hz.1 hz.2]; exact hf hs j, fun j hj => ?_⟩
      rw [marks2_length] at hj
      show eI2 wr (Zone.new lo hi) b (o + j * 2) (nth2 (marks2 K xs.length) j)
      rw [nth_marks2 hj]
      exact HPr.out b o e j hj
theorem markSpanS_any (lo hi : Nat) (A : Option Addr) (c : Nat) (xs : List I2) (K : Nat) (w : World) (h : I2sIn w (Zone.new lo hi) A xs) (hn : xs.length ≤ 1048576) (hK : K ≤ 1099511627776) :
    Calls Try.prog 50 #[.slice A xs.length c, .int .i64 (K : Nat)] w fun e w' => e = .returned (.int .i64 ((K + 2 * xs.length : Nat) : Int)) ∧ Mk lo hi w w' :=
  (markSpanS_res lo hi A c xs K w h hn hK).mono fun e w' h => ⟨h.1, h.2.1⟩

set_option maxHeartbeats 1000000 in
theorem heldSpanS_any (A : Option Addr) (c n K : Nat) (w : World) (Z : Zone) (h : I2sIn w Z A (marks2 K n)) (hn : n ≤ 1048576) (hK : K ≤ 1099511627776) :
    Calls Try.prog 51 #[.slice A n c, .int .i64 (K : Nat)] w fun e w' => e = .returned (.int .i64 ((K + 2 * n : Nat) : Int)) ∧ w = w' := by
  have HX := Lib.hid h
  clear h
  go_enter Try.func51, Try.ntmps51
  go_wp2
  go_loopw [1, 5] (fun s i wr => ∃ j : Nat, j ≤ n ∧ i = .int .i64 j ∧ (∃ P : Nat, s = .int .i64 (P : Int) ∧ P = K + 2 * j) ∧ w = wr) (fun _ i _ => n - (intOf i).toNat)
  case atStart => exact ⟨0, Nat.zero_le _, rfl, ⟨K, rfl, rfl⟩, rfl⟩
  case round =>
    obtain ⟨k, hk, rfl, ⟨P, rfl, hP⟩, rfl⟩ := hrel
    have HPP := Lib.hid hP
    have hPl : P ≤ 1099511627776 + 2 * 1048576 := by omega
    by_cases hlt : k < n
    · obtain ⟨b, o, rfl, _, h0, h1⟩ := I2sIn.at HX.out (k := k) (by rw [marks2_length]; exact hlt)
      rw [nth_marks2 hlt] at h0 h1
      have e0 : w.cell? ⟨b, o + k * 2, none⟩ = some (.int .i64 (P : Int)) := by rw [h0, hP]
      have e1 : w.cell? ⟨b, o + k * 2 + 1, none⟩ = some (.int .i64 ((P : Int) + 1)) := by rw [h1, hP]; simp
      clear h0 h1 hP
      go_wp2
      go_roundw
      case rel => exact ⟨k + 1, by omega, by go_num, ⟨P + 1 + 1, by go_num, by have := HPP.out; omega⟩, trivial⟩
      case measure => simp [intOf]; omega
    · obtain rfl : k = n := by omega
      clear hP
      go_wp2
      go_ret
      exact ⟨retI (by have := HPP.out; omega), rfl⟩

end Go.Proofs.Ytambgommeannnaa
