/- RunTime: contracts. -/
import Derived.Test.YtpipegdjflniaaaDoorNetC
namespace Go.Proofs.YtpipegdjflniaaaDoor
open Go.ChangeShapes Go.WideShapes Go.ChangeAt Go.RowKit Go.PlainAid
set_option linter.unusedVariables false

/-- The sum of the first k numbers. -/
def sumI (xs : List Int) : Nat → Int
  | 0 => 0
  | k + 1 => sumI xs k + nth xs k
def Runs60 (xs : List Int) : Prop := ∀ k, k < xs.length → 1 ≤ nth xs k ∧ nth xs k ≤ 60
theorem sumI_bd {xs : List Int} (h : Runs60 xs) : ∀ k, k ≤ xs.length → (k : Int) ≤ sumI xs k ∧ sumI xs k ≤ 60 * k := by
  intro k
  induction k with
  | zero => intro _; simp [sumI]
  | succ k ih =>
    intro hk
    have h1 := ih (by omega)
    have h2 := h k (by omega)
    simp only [sumI]
    omega
theorem sumI_mono {xs : List Int} (h : Runs60 xs) (a : Nat) : ∀ b, a ≤ b → b ≤ xs.length → sumI xs a ≤ sumI xs b := by
  intro b
  induction b with
  | zero => intro h1 _; obtain rfl : a = 0 := by omega
            exact Int.le_refl _
  | succ b ih =>
    intro h1 h2
    by_cases e : a = b + 1
    · subst e; exact Int.le_refl _
    · have h3 := ih (by omega) (by omega)
      have h4 := h b (by omega)
      simp only [sumI]
      omega
theorem lineOk_runs {n : Nat} {x : LineD} (h : LineOk n x) : Runs60 x.runs := fun k hk => inB_iff.1 (h.2.2 k hk)
theorem ixI_bd (xs : List Int) (p : Int) : -1 ≤ ixI xs p ∧ ixI xs p < xs.length := by
  unfold ixI
  rcases ixN_cases xs.length (eqAt xs p) with ⟨k, hk, _, _, e⟩ | ⟨_, e⟩ <;> rw [e] <;> omega
/-- The minutes between two places of a line. -/
def runI (x : LineD) (a b : Int) : Int := if a < 0 ∨ b ≤ a then -1 else sumI x.runs b.toNat - sumI x.runs a.toNat
theorem runI_no {x : LineD} {a b : Int} (h : a < 0 ∨ b ≤ a) : runI x a b = -1 := if_pos h
theorem runI_yes {x : LineD} {a b : Nat} (h : a < b) : runI x a b = sumI x.runs b - sumI x.runs a := by
  unfold runI
  rw [if_neg (by omega)]
  simp
theorem runI_nat {x : LineD} {a b : Int} (h : ¬ a < 0) (h' : ¬ b ≤ a) : ∃ i k : Nat, a = i ∧ b = k ∧ i < k ∧ runI x a b = sumI x.runs k - sumI x.runs i :=
  ⟨a.toNat, b.toNat, by omega, by omega, by omega, by unfold runI; rw [if_neg (by omega)]⟩

set_option maxHeartbeats 1000000 in
theorem l2Run_any (x : LineD) (A R : Option Addr) (ca cr a b : Nat) (w : World) (hR : IntsIn w (Zone.below w.heap.size) R x.runs) (hab : a ≤ b) (hb : b ≤ x.runs.length) (ok : Runs60 x.runs) (hr : x.runs.length ≤ 1048576) :
    Calls Tryd.prog 75 #[.agg #[.string x.name, .slice A x.stops.length ca, .slice R x.runs.length cr], .int .i64 a, .int .i64 b] w fun e w' => e = .returned (.int .i64 (sumI x.runs b - sumI x.runs a)) ∧ Below w.heap.size w w' := by
  have HR := Lib.hid (hR.call (w' := w.alloc (.cells #[.string x.name, .slice A x.stops.length ca, .slice R x.runs.length cr] 47)) (by go_grown))
  have HO := Lib.hid ok
  clear hR ok
  go_enter Tryd.func75, Tryd.ntmps75
  go_wp2
  go_loopw [7, 8] (fun s i wr => ∃ k : Nat, a ≤ k ∧ k ≤ b ∧ i = .int .i64 k ∧ s = .int .i64 (sumI x.runs k - sumI x.runs a) ∧ wr = w.alloc (.cells #[.string x.name, .slice A x.stops.length ca, .slice R x.runs.length cr] 47)) (fun _ i _ => b - (intOf i).toNat)
  case atStart => exact ⟨a, Nat.le_refl _, hab, rfl, by simp, rfl⟩
  case round =>
    obtain ⟨k, hk0, hk, rfl, rfl, rfl⟩ := hrel
    have h1 := sumI_bd HO.out k (by omega)
    have h2 := sumI_bd HO.out a (by omega)
    have h3 := sumI_mono HO.out a k hk0 (by omega)
    by_cases hlt : k < b
    · obtain ⟨bb, o, rfl, hbl, hc⟩ := HR.out.at.get (k := k) (by omega)
      have hi1 : (k : Int) < (x.runs.length : Int) := by omega
      have h4 := HO.out k (by omega)
      have HS := Lib.hid (show sumI x.runs (k + 1) = sumI x.runs k + nth x.runs k from rfl)
      go_wp2
      go_roundw
      case rel => exact ⟨k + 1, by omega, by omega, by go_num, by rw [HS.out]; congr 1; omega, trivial⟩
      case measure => simp [intOf]; omega
    · obtain rfl : k = b := by omega
      go_wp2
      go_ret
      exact ⟨rfl, by go_grown⟩

/-- When RunTime looks at a line. -/
def rtB (x : NetD) (line p q : Int) : Bool := (stopB x p && inB q 0 (x.stops.length - 1)) && inB line 0 (x.lines.length - 1)
def rtI (x : NetD) (line p q : Int) : Int := runI (nthL x.lines line.toNat) (ixI (nthL x.lines line.toNat).stops p) (ixI (nthL x.lines line.toNat).stops q)
theorem rtB_no {x : NetD} {line p q : Int} (h : netB x = false ∨ inB p 0 (x.stops.length - 1) = false ∨ inB q 0 (x.stops.length - 1) = false ∨ inB line 0 (x.lines.length - 1) = false) : rtB x line p q = false := by
  unfold rtB stopB
  rcases h with h | h | h | h <;> simp [h]
theorem rtB_yes {x : NetD} {line p q : Int} (h1 : netB x = true) (h2 : inB p 0 (x.stops.length - 1) = true) (h3 : inB q 0 (x.stops.length - 1) = true) (h4 : inB line 0 (x.lines.length - 1) = true) : rtB x line p q = true := by
  unfold rtB stopB
  simp [h1, h2, h3, h4]
theorem numNo {ok : Bool} {i : Int} (h : ok = false) : Hid (numI ok i = 0 ∧ numB ok i = false) := Lib.hid (num_no (.inl h))
theorem netB_line {x : NetD} (h : netB x = true) {k : Nat} (hk : k < x.lines.length) : LineOk x.stops.length (nthL x.lines k) := of_decide_eq_true ((netB_ok h).each k hk)

end Go.Proofs.YtpipegdjflniaaaDoor
