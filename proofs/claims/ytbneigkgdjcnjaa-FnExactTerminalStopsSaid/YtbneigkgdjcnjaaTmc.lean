/- TerminalStops: lines sought. -/
import Derived.Test.YtbneigkgdjcnjaaTmb
namespace Go.Proofs.Ytbneigkgdjcnjaa
open Go.ChangeShapes Go.WideShapes Go.ChangeAt Go.RowKit Go.PlainAid
set_option linter.unusedVariables false

set_option maxRecDepth 100000 in
set_option maxHeartbeats 2000000 in
theorem indexLine_any (A : Option Addr) (c : Nat) (x : NetD) (s : Int) (g : Nat) (w : World) (h : LinesIn w (Zone.below w.heap.size) A x.lines) (hn : x.lines.length ≤ 1048576) (hp : ∀ k, k < x.lines.length → 0 < (nthL x.lines k).stops.length ∧ (nthL x.lines k).stops.length ≤ 1048576) (hc : w.cell? ⟨g, 0, none⟩ = some (.int .i64 s)) (hg : g < w.heap.size) :
    Calls Try.prog 127 #[.slice A x.lines.length c, .func (.func 86) #[] #[.pointer (some ⟨g, 0, none⟩)]] w fun e w' => e = .returned (.int .i64 (ixN x.lines.length fun k => endB (nthL x.lines k) s)) ∧ Below w.heap.size w w' := by
  have HX := Lib.hid h
  have HC := Lib.hid hc
  have HP := Lib.hid hp
  clear h hc hp
  go_enter Try.func127, Try.ntmps127
  go_wp2
  go_loopw [8] (fun i wr => ∃ k : Nat, k ≤ x.lines.length ∧ i = .int .i64 k ∧ (∀ j, j < k → endB (nthL x.lines j) s = false) ∧ Below w.heap.size w wr) (fun i _ => x.lines.length - (intOf i).toNat)
  case atStart => exact ⟨0, Nat.zero_le _, rfl, fun j hj => by omega, Below.refl _ _⟩
  case round =>
    obtain ⟨k, hk, rfl, ha, hb⟩ := hrel
    have HA := Lib.hid ha
    have HB := Lib.hid hb
    clear ha
    by_cases hlt : k < x.lines.length
    · obtain ⟨b, o, rfl, hbl, S, cs, R, cr, hc0, hc1, hc2, hi1, hi2⟩ := LinesIn.line (HX.out.at_below hb) hlt
      have HI := Lib.hid (hi1.mono (Zone.below_le hb.size))
      have hik : (k : Int) < (x.lines.length : Int) := by omega
      have hcg : wr.cell? ⟨g, 0, none⟩ = some (.int .i64 s) := (hb.cell (p := ⟨g, 0, none⟩) hg).trans HC.out
      have HCg := Lib.hid hcg
      have hgr : g < wr.heap.size := Nat.lt_of_lt_of_le hg hb.size
      obtain ⟨p1, p2⟩ := HP.out k hlt
      clear hb hcg hi1 hi2
      cases he : endB (nthL x.lines k) s
      · have HE := Lib.hid he
        go_wp2_with fail
        refine (termF_any (nthL x.lines k) S R cs cr s g _ HI.out p1 p2 HCg.out hgr).mono ?_
        rintro e w1 ⟨rfl, hb1⟩
        have HB1 := Lib.hid (bel_of HB.out HB.out.size hb1)
        clear hb1
        rw [HE.out]
        go_wp2_with fail
        go_roundw
        case rel => exact ⟨k + 1, by omega, by go_num, fun j hj => by (by_cases e : j = k; (rw [e]; exact HE.out); exact HA.out j (by omega)), HB1.out⟩
        case measure => simp [intOf]; omega
      · have HF := Lib.hid (show (ixN x.lines.length fun k => endB (nthL x.lines k) s) = k from ixN_hit hlt he HA.out)
        have HE := Lib.hid he
        go_wp2_with fail
        refine (termF_any (nthL x.lines k) S R cs cr s g _ HI.out p1 p2 HCg.out hgr).mono ?_
        rintro e w1 ⟨rfl, hb1⟩
        have HB1 := Lib.hid (bel_of HB.out HB.out.size hb1)
        clear hb1
        rw [HE.out]
        go_wp2_with fail
        go_ret
        exact ⟨retI HF.out.symm, HB1.out⟩
    · obtain rfl : k = x.lines.length := by omega
      have HF := Lib.hid (show (ixN x.lines.length fun k => endB (nthL x.lines k) s) = -1 from ixN_none HA.out)
      clear hb
      go_wp2
      go_ret
      exact ⟨retI HF.out.symm, HB.out⟩

theorem any_ix (x : NetD) (s : Nat) : anyK x x.lines.length s = decide (0 ≤ (ixN x.lines.length fun k => endB (nthL x.lines k) (s : Int))) := by
  rcases ixN_cases x.lines.length (fun k => endB (nthL x.lines k) (s : Int)) with ⟨k, hk, h, _, e⟩ | ⟨h, e⟩
  · rw [e, (anyK_iff x s _).2 ⟨k, hk, h⟩]
    simp
  · rw [e]
    cases g : anyK x x.lines.length s
    · rfl
    · obtain ⟨j, hj, hh⟩ := (anyK_iff x s _).1 g
      rw [h j hj] at hh
      exact absurd hh (by simp)
set_option maxRecDepth 100000 in
theorem hasLine_any (A : Option Addr) (c : Nat) (x : NetD) (s : Nat) (g : Nat) (w : World) (h : LinesIn w (Zone.below w.heap.size) A x.lines) (hn : x.lines.length ≤ 1048576) (hp : ∀ k, k < x.lines.length → 0 < (nthL x.lines k).stops.length ∧ (nthL x.lines k).stops.length ≤ 1048576) (hc : w.cell? ⟨g, 0, none⟩ = some (.int .i64 (s : Int))) (hg : g < w.heap.size) :
    Calls Try.prog 85 #[.slice A x.lines.length c, .func (.func 86) #[] #[.pointer (some ⟨g, 0, none⟩)]] w fun e w' => e = .returned (.bool (anyK x x.lines.length s)) ∧ Below w.heap.size w w' := by
  have HX := Lib.hid h
  have HC := Lib.hid hc
  have HP := Lib.hid hp
  have HI := Lib.hid (any_ix x s)
  clear h hc hp
  go_enter Try.func85, Try.ntmps85
  go_wp2_with fail
  refine (indexLine_any A c x (s : Int) g _ HX.out hn HP.out HC.out hg).mono ?_
  rintro e w1 ⟨rfl, hb1⟩
  have HB := Lib.hid hb1
  clear hb1
  go_wp2_with fail
  go_ret
  exact ⟨retB (by rw [HI.out]), HB.out⟩

end Go.Proofs.Ytbneigkgdjcnjaa
