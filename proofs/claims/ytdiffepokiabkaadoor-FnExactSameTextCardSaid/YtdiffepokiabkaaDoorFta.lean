/- The text of a timetable. -/
import Derived.Test.YtdiffepokiabkaaDoorTtg
import Derived.Test.YtdiffepokiabkaaDoorTti
import Derived.Test.YtdiffepokiabkaaDoorTrr
import Derived.Test.YtdiffepokiabkaaDoorClk
import Derived.Test.YtdiffepokiabkaaDoorFmb
import Derived.Test.YtdiffepokiabkaaDoorFmc
namespace Go.Proofs.YtdiffepokiabkaaDoor
open Go.ChangeShapes Go.WideShapes Go.ChangeAt Go.RowKit Go.PlainAid
set_option linter.unusedVariables false
set_option linter.unusedSimpArgs false

/-- What is known of a valid trip. -/
structure TpX (x : TTD) (i : Nat) : Prop where
  name : (lnI x i).name.size ≤ 8
  a0 : 1 ≤ (nth3 x.trips i).a
  a1 : (nth3 x.trips i).a ≤ 999
  c0 : 0 ≤ (nth3 x.trips i).c
  c1 : (nth3 x.trips i).c ≤ 1799
theorem tpX_of {x : TTD} (h : ttB x = true) {i : Nat} (hi : i < x.trips.length) : TpX x i := by
  have t := ti_of h hi
  have b0 := t.b0
  have b1 := t.b1
  have n := ntX_of t.net
  have hto := ((ttB_ok h).2.2 i hi).1
  exact ⟨(n.line (nth3 x.trips i).b.toNat (by omega)).name, hto.1, hto.2.1, t.c0, t.c1⟩
theorem clk_size (t : Nat) : (clk t).size = 5 := by simp [clk, ByteArray.size_append, two_size]; rfl
/-- A trip's number, its line's name, its start. -/
def iN (x : TTD) (i : Nat) : ByteArray := bs (num (nth3 x.trips i).a)
def cN (x : TTD) (i : Nat) : ByteArray := clk (nth3 x.trips i).c.toNat
theorem iN_size {x : TTD} {i : Nat} (h : TpX x i) : (iN x i).size ≤ 3 := by
  have h0 := h.a0
  have h1 := h.a1
  unfold iN
  rw [bs_size]
  unfold num
  rw [if_neg (by omega)]
  exact dec_length _ 3 (by omega) (by omega)
/-- The text of a timetable up to its k-th trip. -/
def tmT (x : TTD) : Nat → ByteArray
  | 0 => netT x.net
  | k + 1 => tmT x k ++ ⟨#[116, 114, 105, 112, 32]⟩ ++ iN x k ++ ⟨#[32]⟩ ++ (lnI x k).name ++ ⟨#[32]⟩ ++ cN x k ++ ⟨#[10]⟩
theorem tmT_succ (x : TTD) (k : Nat) : tmT x k ++ ⟨#[116, 114, 105, 112, 32]⟩ ++ iN x k ++ ⟨#[32]⟩ ++ (lnI x k).name ++ ⟨#[32]⟩ ++ cN x k ++ ⟨#[10]⟩ = tmT x (k + 1) := rfl
theorem tmT_succ' (x : TTD) (k : Nat) : tmT x k ++ (⟨#[116, 114, 105, 112, 32]⟩ ++ iN x k ++ ⟨#[32]⟩ ++ (lnI x k).name ++ ⟨#[32]⟩ ++ cN x k ++ ⟨#[10]⟩) = tmT x (k + 1) := by rw [← tmT_succ]; simp only [ByteArray.append_assoc]
theorem tmT_size {x : TTD} (h : ttB x = true) : ∀ k, k ≤ x.trips.length → 1 ≤ (tmT x k).size ∧ (tmT x k).size ≤ 542 + 24 * k := by
  intro k
  have e1 : (⟨#[116, 114, 105, 112, 32]⟩ : ByteArray).size = 5 := rfl
  have e2 : (⟨#[10]⟩ : ByteArray).size = 1 := rfl
  have e3 : (⟨#[32]⟩ : ByteArray).size = 1 := rfl
  induction k with
  | zero => intro _; exact netT_size (ntX_of (ttB_ok h).1)
  | succ k ih =>
    intro hk
    have h1 := ih (by omega)
    have hx := tpX_of h (i := k) (by omega)
    have h2 := hx.name
    have h3 := iN_size hx
    have h4 : (cN x k).size = 5 := clk_size _
    rw [tmT]
    simp only [ByteArray.size_append, e1, e2, e3]
    omega
theorem tmT_le {x : TTD} (h : ttB x = true) {k : Nat} (hk : k ≤ x.trips.length) : (tmT x k).size ≤ 900 := by
  have h1 := (tmT_size h k hk).2
  have h2 := (ttB_ok h).2.1
  omega
def timT (x : TTD) : ByteArray := tmT x x.trips.length
end Go.Proofs.YtdiffepokiabkaaDoor
