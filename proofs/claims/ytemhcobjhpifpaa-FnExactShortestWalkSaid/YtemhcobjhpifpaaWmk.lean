/- Marks of walks. -/
import Derived.Test.YtemhcobjhpifpaaWlk
import Derived.Test.YtemhcobjhpifpaaMrn
namespace Go.Proofs.Ytemhcobjhpifpaa
open Go.ChangeShapes Go.WideShapes Go.ChangeAt Go.RowKit Go.PlainAid
set_option linter.unusedVariables false

/-- Structs of three integers behind marks. -/
theorem I3sIn.mkWalk {lo hi : Nat} {w w' : World} {Z : Zone} {A : Option Addr} {xs : List I3} (h : I3sIn w Z A xs) (hm : Mk lo hi w w') (hz : Z.soft → ∀ b, Z.ok b → lo ≤ b ∧ b < hi) : ∃ ys : List I3, ys.length = xs.length ∧ I3sIn w' Z A ys := by
  by_cases h0 : 0 < xs.length
  · obtain ⟨b, o, e, hb, hf, hc⟩ := h h0
    have each : ∀ j, j < xs.length → ∃ y : I3, eI3 w' Z b (o + j * 3) y := fun j hj => by
      obtain ⟨h0, h1, h2⟩ := hc j hj
      obtain ⟨a0, e0⟩ := hm.int h0
      obtain ⟨a1, e1⟩ := hm.int h1
      obtain ⟨a2, e2⟩ := hm.int h2
      exact ⟨⟨a0, a1, a2⟩, e0, e1, e2⟩
    have hz2 : ∃ f : Nat → I3, ∀ j, j < xs.length → eI3 w' Z b (o + j * 3) (f j) :=
      ⟨fun j => if h : j < xs.length then (each j h).choose else default, fun j hj => by
        simp only [hj, dif_pos]
        exact (each j hj).choose_spec⟩
    obtain ⟨f, hf2⟩ := hz2
    refine ⟨(List.range xs.length).map f, by simp, fun _ => ⟨b, o, e, hb, fun hs j => ?_, fun j hj => ?_⟩⟩
    · rw [hm.free (hz hs b hb).1 (hz hs b hb).2]
      exact hf hs j
    · have hj' : j < xs.length := by simpa using hj
      have e2 : ((List.range xs.length).map f).getD j default = f j := by
        rw [List.getD_eq_getElem?_getD, List.getElem?_map, List.getElem?_range hj']
        rfl
      rw [e2]
      exact hf2 j hj'
  · exact ⟨xs, rfl, fun hn => absurd hn h0⟩

set_option maxRecDepth 100000 in
set_option maxHeartbeats 1000000 in
theorem markWalkS_any (lo hi : Nat) (A : Option Addr) (c : Nat) (xs : List I3) (K : Nat) (w : World) (h : I3sIn w (Zone.new lo hi) A xs) (hn : xs.length ≤ 1048576) (hK : K ≤ 1099511627776) :
    Calls Try.prog 14 #[.slice A xs.length c, .int .i64 (K : Nat)] w fun e w' => e = .returned (.int .i64 ((K + 3 * xs.length : Nat) : Int)) ∧ Mk lo hi w w' := by
  have HX := Lib.hid h
  clear h
  go_enter Try.func14, Try.ntmps14
  go_wp2
  go_loopw [1, 5] (fun s i wr => ∃ j : Nat, j ≤ xs.length ∧ i = .int .i64 j ∧ (∃ P : Nat, s = .int .i64 (P : Int) ∧ P = K + 3 * j) ∧ Mk lo hi w wr) (fun _ i _ => xs.length - (intOf i).toNat)
  case atStart => exact ⟨0, Nat.zero_le _, rfl, ⟨K, rfl, rfl⟩, Mk.refl _ _ _⟩
  case round =>
    obtain ⟨k, hk, rfl, ⟨P, rfl, hP⟩, hm⟩ := hrel
    have HM := Lib.hid hm
    have HPP := Lib.hid hP
    have hPl : P ≤ 1099511627776 + 3 * 1048576 := by omega
    clear hP
    by_cases hlt : k < xs.length
    · obtain ⟨b, o, rfl, hz, hf, hc⟩ := HX.out (by omega)
      obtain ⟨h0, h1, h2⟩ := hc k hlt
      obtain ⟨v0, hv0'⟩ := hm.int h0
      obtain ⟨v1, hv1'⟩ := hm.int h1
      obtain ⟨v2, hv2'⟩ := hm.int h2
      have hv0 : wr.cell? ⟨b, o + k * 3, none⟩ = some (.int .i64 v0) := hv0'
      have hv1 : wr.cell? ⟨b, o + k * 3 + 1, none⟩ = some (.int .i64 v1) := hv1'
      have hv2 : wr.cell? ⟨b, o + k * 3 + 2, none⟩ = some (.int .i64 v2) := hv2'
      have hfr0 : wr.frozen? ⟨b, o + k * 3, none⟩ = false := by rw [hm.free hz.1 hz.2]; exact hf trivial _
      have hfr1 : wr.frozen? ⟨b, o + k * 3 + 1, none⟩ = false := by rw [hm.free hz.1 hz.2]; exact hf trivial _
      have hfr2 : wr.frozen? ⟨b, o + k * 3 + 2, none⟩ = false := by rw [hm.free hz.1 hz.2]; exact hf trivial _
      have n1 : (wr.setCell ⟨b, o + k * 3, none⟩ (.int .i64 (P : Int))).cell? ⟨b, o + k * 3 + 1, none⟩ = some (.int .i64 v1) := by rw [World.cell?_setCell_other _ _ _ _ (addr_ne (by omega))]; exact hv1
      have n2 : ((wr.setCell ⟨b, o + k * 3, none⟩ (.int .i64 (P : Int))).setCell ⟨b, o + k * 3 + 1, none⟩ (.int .i64 ((P : Int) + 1))).cell? ⟨b, o + k * 3 + 2, none⟩ = some (.int .i64 v2) := by
        rw [World.cell?_setCell_other _ _ _ _ (addr_ne (by omega)), World.cell?_setCell_other _ _ _ _ (addr_ne (by omega))]; exact hv2
      have HM2 := Lib.hid (((HM.out.trans (Mk.set_int (j := (P : Int)) hz.1 hz.2 hv0)).trans (Mk.set_int (j := (P : Int) + 1) hz.1 hz.2 n1)).trans (Mk.set_int (j := (P : Int) + 1 + 1) hz.1 hz.2 n2))
      clear hm hc hf hz h0 h1 h2 hv0' hv1' hv2' n1 n2
      go_wp2
      go_roundw
      case rel => exact ⟨k + 1, by omega, by go_num, ⟨P + 1 + 1 + 1, by go_num, by have := HPP.out; omega⟩, HM2.out⟩
      case measure => simp [intOf]; omega
    · obtain rfl : k = xs.length := by omega
      clear hm
      go_wp2
      go_ret
      exact ⟨retI (by have := HPP.out; omega), HM.out⟩


end Go.Proofs.Ytemhcobjhpifpaa
