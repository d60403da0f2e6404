/- Marks of walks that a law's function returns. -/
import Derived.Test.YtkbfhcchickkgaaWlk
import Derived.Test.YtkbfhcchickkgaaMrn
namespace Go.Proofs.Ytkbfhcchickkgaa
open Go.ChangeShapes Go.WideShapes Go.ChangeAt Go.RowKit Go.PlainAid
set_option linter.unusedVariables false

/-- Marks in structs of three integers. -/
def marks3 (K n : Nat) : List I3 := (List.range n).map fun j => ⟨((K + 3 * j : Nat) : Int), ((K + 3 * j + 1 : Nat) : Int), ((K + 3 * j + 2 : Nat) : Int)⟩
theorem marks3_length (K n : Nat) : (marks3 K n).length = n := by simp [marks3]
theorem nth_marks3 {K n j : Nat} (h : j < n) : nth3 (marks3 K n) j = ⟨((K + 3 * j : Nat) : Int), ((K + 3 * j + 1 : Nat) : Int), ((K + 3 * j + 2 : Nat) : Int)⟩ := by
  unfold nth3 marks3
  rw [List.getD_eq_getElem?_getD, List.getElem?_map, List.getElem?_range h]
  rfl
set_option maxRecDepth 100000 in
set_option maxHeartbeats 1000000 in
theorem markWalkS_res (lo hi : Nat) (A : Option Addr) (c : Nat) (xs : List I3) (K : Nat) (w : World) (h : I3sIn w (Zone.new lo hi) A xs) (hn : xs.length ≤ 1048576) (hK : K ≤ 1099511627776) :
    Calls Try.prog 22 #[.slice A xs.length c, .int .i64 (K : Nat)] w fun e w' => e = .returned (.int .i64 ((K + 3 * xs.length : Nat) : Int)) ∧ Mk lo hi w w' ∧ I3sIn w' (Zone.new lo hi) A (marks3 K xs.length) := by
  have HX := Lib.hid h
  clear h
  go_enter Try.func22, Try.ntmps22
  go_wp2
  go_loopw [1, 5] (fun s i wr => ∃ j : Nat, j ≤ xs.length ∧ i = .int .i64 j ∧ (∃ P : Nat, s = .int .i64 (P : Int) ∧ P = K + 3 * j) ∧ Mk lo hi w wr ∧ ∀ b o, A = some ⟨b, o, none⟩ → ∀ i, i < j → eI3 wr (Zone.new lo hi) b (o + i * 3) ⟨((K + 3 * i : Nat) : Int), ((K + 3 * i + 1 : Nat) : Int), ((K + 3 * i + 2 : Nat) : Int)⟩) (fun _ i _ => xs.length - (intOf i).toNat)
  case atStart => exact ⟨0, Nat.zero_le _, rfl, ⟨K, rfl, rfl⟩, Mk.refl _ _ _, fun _ _ _ i hi => by omega⟩
  case round =>
    obtain ⟨k, hk, rfl, ⟨P, rfl, hP⟩, hm, hp⟩ := hrel
    have HM := Lib.hid hm
    have HPP := Lib.hid hP
    have HPr := Lib.hid hp
    have hPl : P ≤ 1099511627776 + 3 * 1048576 := by omega
    clear hP hp
    by_cases hlt : k < xs.length
    · obtain ⟨b, o, rfl, hz, hf, hc⟩ := HX.out (by omega)
      obtain ⟨h0, h1, h2⟩ := hc k hlt
      obtain ⟨v0, hv0'⟩ := hm.int h0
      obtain ⟨v1, hv1'⟩ := hm.int h1
      obtain ⟨v2, hv2'⟩ := hm.int h2
      have hv0 : wr.cell? ⟨b, o + k * 3, none⟩ = some (.int .i64 v0) := hv0'
      have hv1 : wr.cell? ⟨b, o + k * 3 + 1, none⟩ = some (.int .i64 v1) := hv1'
      have hv2 : wr.cell? ⟨b, o + k * 3 + 2, none⟩ = some (.int .i64 v2) := hv2'
      have hfr0 : wr.frozen? ⟨b, o + k * 3, none⟩ = false := by rw [hm.free hz.1 hz.2]; exact hf trivial _
      have hfr1 : wr.frozen? ⟨b, o + k * 3 + 1, none⟩ = false := by rw [hm.free hz.1 hz.2]; exact hf trivial _
      have hfr2 : wr.frozen? ⟨b, o + k * 3 + 2, none⟩ = false := by rw [hm.free hz.1 hz.2]; exact hf trivial _
      have n1 : (wr.setCell ⟨b, o + k * 3, none⟩ (.int .i64 (P : Int))).cell? ⟨b, o + k * 3 + 1, none⟩ = some (.int .i64 v1) := by rw [World.cell?_setCell_other _ _ _ _ (addr_ne (by omega))]; exact hv1
      have n2 : ((wr.setCell ⟨b, o + k * 3, none⟩ (.int .i64 (P : Int))).setCell ⟨b, o + k * 3 + 1, none⟩ (.int .i64 ((P : Int) + 1))).cell? ⟨b, o + k * 3 + 2, none⟩ = some (.int .i64 v2) := by
        rw [World.cell?_setCell_other _ _ _ _ (addr_ne (by omega)), World.cell?_setCell_other _ _ _ _ (addr_ne (by omega))]; exact hv2
      have HM2 := Lib.hid (((HM.out.trans (Mk.set_int (j := (P : Int)) hz.1 hz.2 hv0)).trans (Mk.set_int (j := (P : Int) + 1) hz.1 hz.2 n1)).trans (Mk.set_int (j := (P : Int) + 1 + 1) hz.1 hz.2 n2))
      have HS : Hid (∀ b' o', (some ⟨b, o, none⟩ : Option Addr) = some ⟨b', o', none⟩ → ∀ i, i < k + 1 → eI3 (((wr.setCell ⟨b, o + k * 3, none⟩ (.int .i64 (P : Int))).setCell ⟨b, o + k * 3 + 1, none⟩ (.int .i64 ((P : Int) + 1))).setCell ⟨b, o + k * 3 + 2, none⟩ (.int .i64 ((P : Int) + 1 + 1))) (Zone.new lo hi) b' (o' + i * 3) ⟨((K + 3 * i : Nat) : Int), ((K + 3 * i + 1 : Nat) : Int), ((K + 3 * i + 2 : Nat) : Int)⟩) := Lib.hid (fun b' o' e i hi => by
        injection e with e
        injection e with e1 e2
        subst e1 e2
        by_cases e : i = k
        · subst e
          have hq := HPP.out
          refine ⟨?_, ?_, ?_⟩
          · rw [World.cell?_setCell_other _ _ _ _ (addr_ne (by omega)), World.cell?_setCell_other _ _ _ _ (addr_ne (by omega)), World.cell?_setCell_same _ _ _ hv0]
            subst hq; rfl
          · rw [World.cell?_setCell_other _ _ _ _ (addr_ne (by omega)), World.cell?_setCell_same _ _ _ n1]
            subst hq; rfl
          · rw [World.cell?_setCell_same _ _ _ n2]
            subst hq; rfl
        · obtain ⟨g0, g1, g2⟩ := HPr.out _ _ rfl i (by omega)
          refine ⟨?_, ?_, ?_⟩
          all_goals
            rw [World.cell?_setCell_other _ _ _ _ (addr_ne (by omega)), World.cell?_setCell_other _ _ _ _ (addr_ne (by omega)), World.cell?_setCell_other _ _ _ _ (addr_ne (by omega))]
            assumption)
      clear hm hc hf hz h0 h1 h2 hv0' hv1' hv2' n1 n2
      go_wp2
      go_roundw
      case rel => exact ⟨k + 1, by omega, by go_num, ⟨P + 1 + 1 + 1, by go_num, by have := HPP.out; omega⟩, HM2.out, HS.out⟩
      case measure => simp [intOf]; omega
    · obtain rfl : k = xs.length := by omega
      clear hm
      go_wp2
      go_ret
      refine ⟨retI (by have := HPP.out; omega), HM.out, fun hn0 => ?_⟩
      rw [marks3_length] at hn0
      obtain ⟨b, o, e, hz, hf, hc⟩ := HX.out hn0
      refine ⟨b, o, e, hz, fun hs j => by rw [HM.out.free hz.1 hz.2]; exact hf hs j, fun j hj => ?_⟩
      rw [marks3_length] at hj
      show eI3 wr (Zone.new lo hi) b (o + j * 3) (nth3 (marks3 K xs.length) j)
      rw [nth_marks3 hj]
      exact HPr.out b o e j hj

set_option maxHeartbeats 1000000 in
theorem heldWalkS_any (A : Option Addr) (c n K : Nat) (w : World) (Z : Zone) (h : I3sIn w Z A (marks3 K n)) (hn : n ≤ 1048576) (hK : K ≤ 1099511627776) :
    Calls Try.prog 29 #[.slice A n c, .int .i64 (K : Nat)] w fun e w' => e = .returned (.int .i64 ((K + 3 * n : Nat) : Int)) ∧ w = w' := by
  have HX := Lib.hid h
  clear h
  go_enter Try.func29, Try.ntmps29
  go_wp2
  go_loopw [1, 5] (fun s i wr => ∃ j : Nat, j ≤ n ∧ i = .int .i64 j ∧ (∃ P : Nat, s = .int .i64 (P : Int) ∧ P = K + 3 * j) ∧ w = wr) (fun _ i _ => n - (intOf i).toNat)
  case atStart => exact ⟨0, Nat.zero_le _, rfl, ⟨K, rfl, rfl⟩, rfl⟩
  case round =>
    obtain ⟨k, hk, rfl, ⟨P, rfl, hP⟩, rfl⟩ := hrel
    have HPP := Lib.hid hP
    have hPl : P ≤ 1099511627776 + 3 * 1048576 := by omega
    by_cases hlt : k < n
    · obtain ⟨b, o, rfl, _, h0, h1, h2⟩ := I3sIn.at HX.out (k := k) (by rw [marks3_length]; exact hlt)
      rw [nth_marks3 hlt] at h0 h1 h2
      have e0 : w.cell? ⟨b, o + k * 3, none⟩ = some (.int .i64 (P : Int)) := by rw [h0, hP]
      have e1 : w.cell? ⟨b, o + k * 3 + 1, none⟩ = some (.int .i64 ((P : Int) + 1)) := by rw [h1, hP]; simp
      have e2 : w.cell? ⟨b, o + k * 3 + 2, none⟩ = some (.int .i64 ((P : Int) + 1 + 1)) := by rw [h2, hP]; simp; omega
      clear h0 h1 h2 hP
      go_wp2
      go_roundw
      case rel => exact ⟨k + 1, by omega, by go_num, ⟨P + 1 + 1 + 1, by go_num, by have := HPP.out; omega⟩, trivial⟩
      case measure => simp [intOf]; omega
    · obtain rfl : k = n := by omega
      clear hP
      go_wp2
      go_ret
      exact ⟨retI (by have := HPP.out; omega), rfl⟩

end Go.Proofs.Ytkbfhcchickkgaa
