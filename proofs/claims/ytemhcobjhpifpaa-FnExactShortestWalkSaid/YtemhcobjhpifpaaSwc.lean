/- The minutes of a walk: both sides. -/
import Derived.Test.YtemhcobjhpifpaaSwb
import Derived.Test.YtemhcobjhpifpaaFwc
import Derived.BigQuiet
namespace Go.Proofs.Ytemhcobjhpifpaa
open Go.ChangeShapes Go.WideShapes Go.ChangeAt Go.RowKit Go.PlainAid
set_option linter.unusedVariables false
set_option linter.unusedSimpArgs false

theorem wm_hit {n : Nat} {xs : List I3} (h : Wks n xs) {a b k : Nat} (hk : k < xs.length) (hc : conn (nth3 xs k) a b) : wmO xs a b = (nth3 xs k).c := (wm_edge h ⟨k, hk, hc, rfl⟩).1
theorem wm_miss {xs : List I3} {a b : Nat} (h : ∀ k, k < xs.length → ¬ conn (nth3 xs k) a b) : wmO xs a b = -1 := by
  rcases wm_cases xs a b with ⟨k, hk, hc, _⟩ | ⟨_, e⟩
  · exact absurd hc (h k hk)
  · exact e
theorem conn_le {x : I3} {a b : Nat} (hx : x.a < x.b) (hab : a ≤ b) : conn x a b ↔ x.a = (a : Int) ∧ x.b = (b : Int) := by
  unfold conn; omega
theorem conn_ge {x : I3} {a b : Nat} (hx : x.a < x.b) (hab : b ≤ a) : conn x a b ↔ x.a = (b : Int) ∧ x.b = (a : Int) := by
  unfold conn; omega
/-- The program's answer. -/
def wmZ (xs : List I3) (a b : Nat) : Int := if 0 ≤ wmO xs a b then wmO xs a b else 0

set_option maxRecDepth 100000 in
set_option maxHeartbeats 2000000 in
theorem walkMinutes_any (n : Nat) (xs : List I3) (V : Option Addr) (cv : Nat) (a b : Nat) (w : World) (hV : I3sIn w (Zone.below w.heap.size) V xs) (hw : Wks n xs) (hv : xs.length ≤ 1048576) :
    Calls Try.prog 29 #[.slice V xs.length cv, .int .i64 (a : Nat), .int .i64 (b : Nat)] w fun e w' => e = .returned (.int .i64 (wmZ xs a b)) ∧ Below w.heap.size w w' := by
  have HX := Lib.hid hV
  have HW := Lib.hid hw
  clear hV hw
  go_enter Try.func29, Try.ntmps29
  go_wp2_with fail
  go_loopw [11] (fun i wr => ∃ k : Nat, k ≤ xs.length ∧ i = .int .i64 k ∧ (∀ j, j < k → ¬ conn (nth3 xs j) a b) ∧ Below w.heap.size w wr) (fun i _ => xs.length - (intOf i).toNat)
  case atStart => exact ⟨0, Nat.zero_le _, rfl, fun j hj => by omega, Below.refl _ _⟩
  case round =>
    obtain ⟨k, hk, rfl, ha, hb⟩ := hrel
    have HA := Lib.hid ha
    have HB := Lib.hid hb
    have hsz := hb.size
    clear ha
    by_cases hlt : k < xs.length
    · obtain ⟨bl, ol, rfl, hbl, c0, c1, c2⟩ := I3sIn.at (HX.out.at_below hb) hlt
      have hbz : bl < wr.heap.size := Nat.lt_of_lt_of_le hbl hsz
      have hki : (k : Int) < (xs.length : Int) := by omega
      have ok := HW.out.ok k hlt
      unfold WkOk at ok
      obtain ⟨o1, o2, o3, o4, o5⟩ := ok
      clear hb
      have hmem : w.heap.size ≤ wr.heap.size := hsz
      clear hsz
      rcases Nat.lt_trichotomy a b with g | g | g
      · have g1 : ¬ b < a := by omega
        have HC := Lib.hid (conn_le o2 (Nat.le_of_lt g))
        by_cases hA : (nth3 xs k).a = (a : Nat)
        · by_cases hB : (nth3 xs k).b = (b : Nat)
          · have hc := HC.out.2 ⟨hA, hB⟩
            have HF : Hid ((nth3 xs k).c = wmZ xs a b) := Lib.hid (by unfold wmZ; rw [wm_hit HW.out hlt hc, if_pos (by omega)])
            have hBb : ((nth3 xs k).b == ((b : Nat) : Int)) = true := by simpa using hB
            clear hc o1 o2 o3 o4 o5
            go_wp2_with fail
            go_ret
            exact ⟨retI HF.out, HB.out.alloc hmem _⟩
          · have hc : ¬ conn (nth3 xs k) a b := fun q => hB (HC.out.1 q).2
            have HN : Hid (∀ j, j < k + 1 → ¬ conn (nth3 xs j) a b) := Lib.hid (fun j hj => by (by_cases e : j = k; (rw [e]; exact hc); exact HA.out j (by omega)))
            have hBb : ((nth3 xs k).b == ((b : Nat) : Int)) = false := by simpa using hB
            clear hc hB o1 o2 o3 o4 o5
            go_wp2_with fail
            go_roundw
            case rel => exact ⟨k + 1, by omega, by go_num, HN.out, HB.out.alloc hmem _⟩
            case measure => simp [intOf]; omega
        · have hc : ¬ conn (nth3 xs k) a b := fun q => hA (HC.out.1 q).1
          have HN : Hid (∀ j, j < k + 1 → ¬ conn (nth3 xs j) a b) := Lib.hid (fun j hj => by (by_cases e : j = k; (rw [e]; exact hc); exact HA.out j (by omega)))
          have hAb : ((nth3 xs k).a == ((a : Nat) : Int)) = false := by simpa using hA
          clear hc o1 o2 o3 o4 o5
          go_wp2_with fail
          go_roundw
          case rel => exact ⟨k + 1, by omega, by go_num, HN.out, HB.out.alloc hmem _⟩
          case measure => simp [intOf]; omega
      · have HN : Hid (∀ j, j < k + 1 → ¬ conn (nth3 xs j) a b) := Lib.hid (fun j hj => by
          by_cases e : j = k
          · rw [e]; unfold conn; omega
          · exact HA.out j (by omega))
        have g1 : ¬ b < a := by omega
        have g2 : ¬ a < b := by omega
        by_cases hA : (nth3 xs k).a = (a : Nat)
        · have hBb : ((nth3 xs k).b == ((a : Nat) : Int)) = false := by simp; omega
          have hBc : ((nth3 xs k).b == ((b : Nat) : Int)) = false := by simp; omega
          clear g o1 o2 o3 o4 o5
          go_wp2_with fail
          go_roundw
          case rel => exact ⟨k + 1, by omega, by go_num, HN.out, HB.out.alloc hmem _⟩
          case measure => simp [intOf]; omega
        · have hAb : ((nth3 xs k).a == ((a : Nat) : Int)) = false := by simpa using hA
          clear g o1 o2 o3 o4 o5
          go_wp2_with fail
          go_roundw
          case rel => exact ⟨k + 1, by omega, by go_num, HN.out, HB.out.alloc hmem _⟩
          case measure => simp [intOf]; omega
      · have g1 : ¬ a < b := by omega
        have HC := Lib.hid (conn_ge o2 (Nat.le_of_lt g))
        by_cases hA : (nth3 xs k).a = (b : Nat)
        · by_cases hB : (nth3 xs k).b = (a : Nat)
          · have hc := HC.out.2 ⟨hA, hB⟩
            have HF : Hid ((nth3 xs k).c = wmZ xs a b) := Lib.hid (by unfold wmZ; rw [wm_hit HW.out hlt hc, if_pos (by omega)])
            have hBb : ((nth3 xs k).b == ((a : Nat) : Int)) = true := by simpa using hB
            clear hc o1 o2 o3 o4 o5
            go_wp2_with fail
            go_ret
            exact ⟨retI HF.out, HB.out.alloc hmem _⟩
          · have hc : ¬ conn (nth3 xs k) a b := fun q => hB (HC.out.1 q).2
            have HN : Hid (∀ j, j < k + 1 → ¬ conn (nth3 xs j) a b) := Lib.hid (fun j hj => by (by_cases e : j = k; (rw [e]; exact hc); exact HA.out j (by omega)))
            have hBb : ((nth3 xs k).b == ((a : Nat) : Int)) = false := by simpa using hB
            clear hc hB o1 o2 o3 o4 o5
            go_wp2_with fail
            go_roundw
            case rel => exact ⟨k + 1, by omega, by go_num, HN.out, HB.out.alloc hmem _⟩
            case measure => simp [intOf]; omega
        · have hc : ¬ conn (nth3 xs k) a b := fun q => hA (HC.out.1 q).1
          have HN : Hid (∀ j, j < k + 1 → ¬ conn (nth3 xs j) a b) := Lib.hid (fun j hj => by (by_cases e : j = k; (rw [e]; exact hc); exact HA.out j (by omega)))
          have hAb : ((nth3 xs k).a == ((b : Nat) : Int)) = false := by simpa using hA
          clear hc o1 o2 o3 o4 o5
          go_wp2_with fail
          go_roundw
          case rel => exact ⟨k + 1, by omega, by go_num, HN.out, HB.out.alloc hmem _⟩
          case measure => simp [intOf]; omega
    · obtain rfl : k = xs.length := by omega
      clear hb
      go_wp2_with fail
      go_ret
      exact ⟨retI (by unfold wmZ; rw [wm_miss HA.out]; rfl), HB.out⟩
def lmn (a b : Nat) : Int := if a < b then (a : Int) else (b : Int)
def lmx (a b : Nat) : Int := if a < b then (b : Int) else (a : Int)
theorem l1MostN_any (a b : Nat) (w : World) :
    Calls Try.prog 49 #[.int .i64 (a : Nat), .int .i64 (b : Nat)] w fun e w' => e = .returned (.int .i64 (lmx a b)) ∧ w = w' := by
  unfold lmx
  go_enter Try.func49, Try.ntmps49
  go_wp2
  all_goals
    go_ret
    refine ⟨congrArg (fun x => Ending.returned (Value.int .i64 x)) ?_, rfl⟩
    first | rfl | omega | (split <;> omega) | (simp; omega)
theorem l1LeastN_any (a b : Nat) (w : World) :
    Calls Try.prog 48 #[.int .i64 (a : Nat), .int .i64 (b : Nat)] w fun e w' => e = .returned (.int .i64 (lmn a b)) ∧ w = w' := by
  unfold lmn
  go_enter Try.func48, Try.ntmps48
  go_wp2
  all_goals
    go_ret
    refine ⟨congrArg (fun x => Ending.returned (Value.int .i64 x)) ?_, rfl⟩
    first | rfl | omega | (split <;> omega) | (simp; omega)
theorem conn_mm {x : I3} {a b : Nat} (hx : x.a < x.b) : conn x a b ↔ x.a = lmn a b ∧ x.b = lmx a b := by
  unfold conn lmn lmx
  split <;> omega
set_option maxRecDepth 100000 in
set_option maxHeartbeats 2000000 in
theorem l7Minutes_any (n : Nat) (xs : List I3) (V : Option Addr) (cv : Nat) (a b : Nat) (w : World) (hV : I3sIn w (Zone.below w.heap.size) V xs) (hw : Wks n xs) (hv : xs.length ≤ 1048576) :
    Calls Try.prog 38 #[.slice V xs.length cv, .int .i64 (a : Nat), .int .i64 (b : Nat)] w fun e w' => e = .returned (.int .i64 (wmO xs a b)) ∧ Below w.heap.size w w' := by
  have HX := Lib.hid hV
  have HW := Lib.hid hw
  obtain ⟨mn, hmn⟩ : ∃ mn, mn = lmn a b := ⟨_, rfl⟩
  obtain ⟨mx, hmx⟩ : ∃ mx, mx = lmx a b := ⟨_, rfl⟩
  have HL := fun W => l1LeastN_any a b W
  have HM := fun W => l1MostN_any a b W
  rw [← hmn] at HL
  rw [← hmx] at HM
  have HL := Lib.hid HL
  have HM := Lib.hid HM
  have HMN := Lib.hid hmn
  have HMX := Lib.hid hmx
  clear hV hw hmn hmx
  go_enter Try.func38, Try.ntmps38
  go_wp2_with fail
  go_loopw [7] (fun i wr => ∃ k : Nat, k ≤ xs.length ∧ i = .int .i64 k ∧ (∀ j, j < k → ¬ conn (nth3 xs j) a b) ∧ Below w.heap.size w wr) (fun i _ => xs.length - (intOf i).toNat)
  case atStart => exact ⟨0, Nat.zero_le _, rfl, fun j hj => by omega, Below.refl _ _⟩
  case round =>
    obtain ⟨k, hk, rfl, ha, hb⟩ := hrel
    have HA := Lib.hid ha
    have HB := Lib.hid hb
    have hsz := hb.size
    clear ha
    by_cases hlt : k < xs.length
    · obtain ⟨bl, ol, rfl, hbl, c0, c1, c2⟩ := I3sIn.at (HX.out.at_below hb) hlt
      have hbz : bl < wr.heap.size := Nat.lt_of_lt_of_le hbl hsz
      have hki : (k : Int) < (xs.length : Int) := by omega
      have ok := HW.out.ok k hlt
      unfold WkOk at ok
      obtain ⟨o1, o2, o3, o4, o5⟩ := ok
      have HC := Lib.hid (conn_mm (a := a) (b := b) o2)
      rw [← HMN.out, ← HMX.out] at HC
      clear hb hsz o1 o2 o3 o4 o5
      by_cases hA : (nth3 xs k).a = mn
      · have hAb : ((nth3 xs k).a == mn) = true := by simpa using hA
        by_cases hB : (nth3 xs k).b = mx
        · have HF : Hid ((nth3 xs k).c = wmO xs a b) := Lib.hid (wm_hit HW.out hlt (HC.out.2 ⟨hA, hB⟩)).symm
          have hBb : ((nth3 xs k).b == mx) = true := by simpa using hB
          clear hA hB
          go_wp2_with fail
          go_quiet (first | (go_at_call 48; exact quietS (HL.out _)) | (go_at_call 49; exact quietS (HM.out _)))
          go_wp2_with fail
          go_ret
          exact ⟨retI HF.out, by first | exact HB.out | exact bel_drewN HB.out _ | exact HB.out.drew⟩
        · have hc : ¬ conn (nth3 xs k) a b := fun q => hB (HC.out.1 q).2
          have HN : Hid (∀ j, j < k + 1 → ¬ conn (nth3 xs j) a b) := Lib.hid (fun j hj => by (by_cases e : j = k; (rw [e]; exact hc); exact HA.out j (by omega)))
          have hBb : ((nth3 xs k).b == mx) = false := by simpa using hB
          clear hA hc hB
          go_wp2_with fail
          go_quiet (first | (go_at_call 48; exact quietS (HL.out _)) | (go_at_call 49; exact quietS (HM.out _)))
          go_wp2_with fail
          go_roundw
          case rel => exact ⟨k + 1, by omega, by go_num, HN.out, by first | exact HB.out | exact bel_drewN HB.out _ | exact HB.out.drew⟩
          case measure => simp [intOf]; omega
      · have hc : ¬ conn (nth3 xs k) a b := fun q => hA (HC.out.1 q).1
        have HN : Hid (∀ j, j < k + 1 → ¬ conn (nth3 xs j) a b) := Lib.hid (fun j hj => by (by_cases e : j = k; (rw [e]; exact hc); exact HA.out j (by omega)))
        have hAb : ((nth3 xs k).a == mn) = false := by simpa using hA
        clear hc hA
        go_wp2_with fail
        go_quiet (first | (go_at_call 48; exact quietS (HL.out _)) | (go_at_call 49; exact quietS (HM.out _)))
        go_wp2_with fail
        go_roundw
        case rel => exact ⟨k + 1, by omega, by go_num, HN.out, by first | exact HB.out | exact bel_drewN HB.out _ | exact HB.out.drew⟩
        case measure => simp [intOf]; omega
    · obtain rfl : k = xs.length := by omega
      clear hb
      go_wp2_with fail
      go_ret
      exact ⟨retI (wm_miss HA.out).symm, HB.out⟩
end Go.Proofs.Ytemhcobjhpifpaa
