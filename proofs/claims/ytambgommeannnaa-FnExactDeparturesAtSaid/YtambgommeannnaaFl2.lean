/- Slices of structs of two integers. -/
import Derived.Test.YtambgommeannnaaApp
import Derived.Test.YtambgommeannnaaNetA
namespace Go.Proofs.Ytambgommeannnaa
open Go.ChangeShapes Go.WideShapes Go.ChangeAt Go.RowKit Go.PlainAid
set_option linter.unusedVariables false

/-- Where the j-th struct of two cells begins. -/
def at2 (j : Nat) : Nat := j * 2
structure I2 where
  a : Int
  b : Int
deriving DecidableEq
instance : Inhabited I2 := ⟨⟨0, 0⟩⟩
def eI2 : Rd I2 := fun w _ b o x => w.cell? ⟨b, o, none⟩ = some (.int .i64 x.a) ∧ w.cell? ⟨b, o + 1, none⟩ = some (.int .i64 x.b)
instance : RdOk eI2 := ⟨fun _ hs h => ⟨(hs _).1.trans h.1, (hs _).1.trans h.2⟩, fun _ h => h⟩
/-- The k-th one. -/
def nth2 (xs : List I2) (k : Nat) : I2 := xs.getD k default
abbrev I2sIn (w : World) (Z : Zone) (A : Option Addr) (xs : List I2) : Prop := Sl eI2 at2 w Z A xs
theorem I2sIn.at {w : World} {Z : Zone} {A : Option Addr} {xs : List I2} (h : I2sIn w Z A xs) {k : Nat} (hk : k < xs.length) :
    ∃ b o, A = some ⟨b, o, none⟩ ∧ Z.ok b ∧ w.cell? ⟨b, o + k * 2, none⟩ = some (.int .i64 (nth2 xs k).a) ∧ w.cell? ⟨b, o + k * 2 + 1, none⟩ = some (.int .i64 (nth2 xs k).b) := by
  obtain ⟨b, o, e, hb, h0, h1⟩ := h.get hk
  exact ⟨b, o, e, hb, h0, h1⟩
/-- The cells of a slice of such. -/
def fl2 (xs : List I2) (c : Nat) : Value := .int .i64 (match c % 2 with
  | 0 => (nth2 xs (c / 2)).a
  | _ => (nth2 xs (c / 2)).b)
theorem fl2_0 (xs : List I2) (k : Nat) : fl2 xs (k * 2) = .int .i64 (nth2 xs k).a := by
  unfold fl2
  rw [show k * 2 % 2 = 0 by omega, show k * 2 / 2 = k by omega]
  rfl
theorem fl2_1 (xs : List I2) (k : Nat) : fl2 xs (k * 2 + 1) = .int .i64 (nth2 xs k).b := by
  unfold fl2
  rw [show (k * 2 + 1) % 2 = 1 by omega, show (k * 2 + 1) / 2 = k by omega]
  rfl
theorem I2sIn.of_fill {w : World} {g n lo hi : Nat} {xs : List I2} (h : Fill w g (n * 2) (n * 2) (fl2 xs)) (hn : xs.length = n) (hl : lo ≤ g) (hh : g < hi) : I2sIn w (Zone.new lo hi) (some ⟨g, 0, none⟩) xs := fun _ =>
  ⟨g, 0, rfl, ⟨hl, hh⟩, fun _ => h.free, fun j hj => by
    have e0 := h.done (j * 2) (by omega)
    have e1 := h.done (j * 2 + 1) (by omega)
    rw [fl2_0] at e0
    rw [fl2_1] at e1
    rw [Nat.zero_add]
    exact ⟨e0, e1⟩⟩
theorem Fill.step2 {w : World} {g n k : Nat} {xs : List I2} (h : Fill w g (n * 2) (k * 2) (fl2 xs)) (hk : k < n) :
    Fill ((w.setCell ⟨g, k * 2, none⟩ (.int .i64 (nth2 xs k).a)).setCell ⟨g, k * 2 + 1, none⟩ (.int .i64 (nth2 xs k).b)) g (n * 2) ((k + 1) * 2) (fl2 xs) := by
  have h1 := h.step (by omega)
  rw [fl2_0] at h1
  have h2 := h1.step (by omega)
  rw [fl2_1] at h2
  rw [show (k + 1) * 2 = k * 2 + 1 + 1 by omega]
  exact h2
def encI2 (y : I2) : List Value := [.int .i64 y.a, .int .i64 y.b]
theorem OwnE.i2s {e : TypeId} {w : World} {B : Nat} {v : Value} {xs : List I2} (h : OwnE e 2 encI2 w B v xs) : ∃ A c, v = .slice A xs.length c ∧ xs.length ≤ c ∧ c ≤ 9223372036854775807 ∧ I2sIn w (Zone.new B w.heap.size) A xs :=
  h.reads (fun _ => rfl) (fun j => rfl) (fun w Z b o y hc => ⟨hc 0 (by omega), hc 1 (by omega)⟩)
end Go.Proofs.Ytambgommeannnaa
