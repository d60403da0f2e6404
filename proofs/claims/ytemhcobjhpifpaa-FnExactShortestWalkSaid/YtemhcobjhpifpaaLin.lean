/- Contracts of the functions that look at one line. -/
import Derived.Test.YtemhcobjhpifpaaNam
namespace Go.Proofs.Ytemhcobjhpifpaa
open Go.ChangeShapes Go.WideShapes Go.ChangeAt Go.RowKit Go.PlainAid
set_option linter.unusedVariables false

theorem isStop_any (x : NetD) (A L : Option Addr) (ca cl : Nat) (s : Int) (w : World) (hn : x.stops.length ≤ 1048576) :
    Calls Try.prog 26 #[.agg #[.slice A x.stops.length ca, .slice L x.lines.length cl], .int .i64 s] w fun e w' => e = .returned (.bool (inB s 0 (x.stops.length - 1))) ∧ Below w.heap.size w w' := by
  by_cases h1 : 0 ≤ s
  · by_cases h2 : s < x.stops.length
    · have H := Lib.hid (inB_yes (x := s) (a := 0) (b := x.stops.length - 1) h1 (by omega))
      go_enter Try.func26, Try.ntmps26
      go_wp2
      go_ret
      exact ⟨retB H.out.symm, by go_grown⟩
    · have H := Lib.hid (inB_no (x := s) (a := 0) (b := x.stops.length - 1) (by omega))
      go_enter Try.func26, Try.ntmps26
      go_wp2
      go_ret
      exact ⟨retB H.out.symm, by go_grown⟩
  · have H := Lib.hid (inB_no (x := s) (a := 0) (b := x.stops.length - 1) (by omega))
    go_enter Try.func26, Try.ntmps26
    go_wp2
    go_ret
    exact ⟨retB H.out.symm, by go_grown⟩

set_option maxHeartbeats 400000 in
theorem l2Place_any (x : LineD) (A R : Option Addr) (ca cr : Nat) (s : Int) (w : World) (h : IntsIn w (Zone.below w.heap.size) A x.stops) (hn : x.stops.length ≤ 1048576) :
    Calls Try.prog 65 #[.agg #[.string x.name, .slice A x.stops.length ca, .slice R x.runs.length cr], .int .i64 s] w fun e w' => e = .returned (.int .i64 (ixI x.stops s)) ∧ Below w.heap.size w w' := by
  have HX := Lib.hid h
  clear h
  go_enter Try.func65, Try.ntmps65
  go_wp2
  have HB : Hid (Below w.heap.size w (w.alloc (.cells #[.string x.name, .slice A x.stops.length ca, .slice R x.runs.length cr] 72))) := Lib.hid ((Below.refl _ _).alloc (Nat.le_refl _) _)
  go_loopw [5] (fun i wr => ∃ k : Nat, k ≤ x.stops.length ∧ i = .int .i64 k ∧ (∀ j, j < k → eqAt x.stops s j = false) ∧ wr = w.alloc (.cells #[.string x.name, .slice A x.stops.length ca, .slice R x.runs.length cr] 72)) (fun i _ => x.stops.length - (intOf i).toNat)
  case atStart => exact ⟨0, Nat.zero_le _, rfl, fun j hj => by omega, rfl⟩
  case round =>
    obtain ⟨k, hk, rfl, ha, rfl⟩ := hrel
    have HA := Lib.hid ha
    clear ha
    by_cases hlt : k < x.stops.length
    · obtain ⟨b, o, rfl, hbl, hc⟩ := (IntsIn.at (HX.out.call HB.out)).get hlt
      have hi1 : (k : Int) < (x.stops.length : Int) := by omega
      cases he : eqAt x.stops s k
      · have hE := he
        unfold eqAt at hE
        go_wp2
        go_roundw
        case rel => exact ⟨k + 1, by omega, by go_num, fun j hj => by (by_cases e : j = k; (rw [e]; exact he); exact HA.out j (by omega)), trivial⟩
        case measure => simp [intOf]; omega
      · have HF := Lib.hid (show ixI x.stops s = k from ixN_hit hlt he HA.out)
        have hE := he
        unfold eqAt at hE
        go_wp2
        go_ret
        exact ⟨retI HF.out.symm, HB.out⟩
    · obtain rfl : k = x.stops.length := by omega
      have HF := Lib.hid (show ixI x.stops s = -1 from ixN_none HA.out)
      go_wp2
      go_ret
      exact ⟨retI HF.out.symm, HB.out⟩

set_option maxHeartbeats 400000 in
theorem l2LineNamed_any (x : NetD) (A L : Option Addr) (ca cl : Nat) (s : ByteArray) (w : World) (h : LinesIn w (Zone.below w.heap.size) L x.lines) (hn : x.lines.length ≤ 1048576) :
    Calls Try.prog 60 #[.agg #[.slice A x.stops.length ca, .slice L x.lines.length cl], .string s] w fun e w' => e = .returned (.int .i64 (ixS (namesOf x.lines) s)) ∧ Below w.heap.size w w' := by
  have HX := Lib.hid h
  clear h
  have hlen := namesOf_length x.lines
  go_enter Try.func60, Try.ntmps60
  go_wp2
  have HB : Hid (Below w.heap.size w (w.alloc (.cells #[.slice A x.stops.length ca, .slice L x.lines.length cl] 34))) := Lib.hid ((Below.refl _ _).alloc (Nat.le_refl _) _)
  go_loopw [5] (fun i wr => ∃ k : Nat, k ≤ x.lines.length ∧ i = .int .i64 k ∧ (∀ j, j < k → eqAtS (namesOf x.lines) s j = false) ∧ wr = w.alloc (.cells #[.slice A x.stops.length ca, .slice L x.lines.length cl] 34)) (fun i _ => x.lines.length - (intOf i).toNat)
  case atStart => exact ⟨0, Nat.zero_le _, rfl, fun j hj => by omega, rfl⟩
  case round =>
    obtain ⟨k, hk, rfl, ha, rfl⟩ := hrel
    have HA := Lib.hid ha
    clear ha
    by_cases hlt : k < x.lines.length
    · obtain ⟨b, o, rfl, hbl, A', ca', R', cr', hc, _, _, _, _⟩ := LinesIn.line (HX.out.call HB.out) hlt
      have hi1 : (k : Int) < (x.lines.length : Int) := by omega
      have hnm := nthS_names hlt
      cases he : eqAtS (namesOf x.lines) s k
      · have hE := he
        unfold eqAtS at hE
        rw [hnm] at hE
        clear hnm
        go_wp2
        go_roundw
        case rel => exact ⟨k + 1, by omega, by go_num, fun j hj => by (by_cases e : j = k; (rw [e]; exact he); exact HA.out j (by omega)), trivial⟩
        case measure => simp [intOf]; omega
      · have HF := Lib.hid (show ixS (namesOf x.lines) s = k from ixN_hit (by omega) he HA.out)
        have hE := he
        unfold eqAtS at hE
        rw [hnm] at hE
        clear hnm
        go_wp2
        go_ret
        exact ⟨retI HF.out.symm, HB.out⟩
    · obtain rfl : k = x.lines.length := by omega
      have HF := Lib.hid (show ixS (namesOf x.lines) s = -1 from ixN_none (fun j hj => HA.out j (by omega)))
      go_wp2
      go_ret
      exact ⟨retI HF.out.symm, HB.out⟩

set_option maxHeartbeats 400000 in
theorem lineNames_any (x : NetD) (A L : Option Addr) (ca cl : Nat) (w : World) (h : LinesIn w (Zone.below w.heap.size) L x.lines) (hn : x.lines.length ≤ 1048576) :
    Calls Try.prog 53 #[.agg #[.slice A x.stops.length ca, .slice L x.lines.length cl]] w fun e w' => ∃ g, e = .returned (.slice (some ⟨g, 0, none⟩) x.lines.length x.lines.length) ∧ StrsIn w' (Zone.below w'.heap.size) (some ⟨g, 0, none⟩) (namesOf x.lines) ∧ Below w.heap.size w w' := by
  obtain ⟨i0, hi, hz0, hz1, hz2⟩ := info_parts Try.infoS
  have hmk := fun W => run_make_n (P := Try.prog) 22 9 i0 _ Try.underlying22 hi hz0 x.lines.length 1 16 hz1 hz2 (by omega) (by omega) W
  have HX := Lib.hid h
  clear h
  have hlen := namesOf_length x.lines
  go_enter Try.func53, Try.ntmps53
  go_wp2
  go_loopw [4, 5, 13] (fun a5 b5 i wr => ∃ k : Nat, k ≤ x.lines.length ∧ i = .int .i64 k ∧ Fill wr (w.heap.size + 1) x.lines.length k (fun j => .string (nthS (namesOf x.lines) j)) ∧ Below w.heap.size w wr) (fun _ _ i _ => x.lines.length - (intOf i).toNat)
  case atStart => exact ⟨0, Nat.zero_le _, rfl, by have := Fill.made (w.alloc (.cells #[.slice A x.stops.length ca, .slice L x.lines.length cl] 34)) #[.string ByteArray.empty] x.lines.length 9 (fun j => .string (nthS (namesOf x.lines) j)); simpa using this, by go_grown⟩
  case round =>
    obtain ⟨k, hk, rfl, hf, hb⟩ := hrel
    have HF := Lib.hid hf
    have HB := Lib.hid hb
    by_cases hlt : k < x.lines.length
    · obtain ⟨b, o, rfl, hbl, A', ca', R', cr', hc0, hc1, hc2, _, _⟩ := LinesIn.line (HX.out.at_below hb) hlt
      have HN := Lib.hid (nthS_names hlt)
      obtain ⟨v, hv⟩ := hf.there k (Nat.le_refl _) hlt
      have hfr := hf.free k
      have hlt2 := hf.lt
      have HFK := Lib.hid (hf.step hlt)
      clear hf hb
      rw [HN.out] at HFK
      go_wp2
      go_roundw
      case rel => exact ⟨k + 1, by omega, by go_num, HFK.out.keep ((Below.refl _ _).alloc (Nat.le_refl _) _) HFK.out.lt, (HB.out.setCell (by simp) _).alloc (by have := HB.out.size; simp; omega) _⟩
      case measure => simp [intOf]; omega
    · obtain rfl : k = x.lines.length := by omega
      clear hf hb
      go_wp2
      go_ret
      exact ⟨_, rfl, fun hn => ⟨_, 0, rfl, HF.out.lt, fun h => h.elim, fun j hj => by rw [Nat.zero_add]; exact HF.out.done j (by omega)⟩, HB.out⟩
end Go.Proofs.Ytemhcobjhpifpaa
