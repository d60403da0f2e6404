/- Slices of structs of three integers. -/
import Derived.Test.YtemhcobjhpifpaaApp
import Derived.Test.YtemhcobjhpifpaaNetA
namespace Go.Proofs.Ytemhcobjhpifpaa
open Go.ChangeShapes Go.WideShapes Go.ChangeAt Go.RowKit Go.PlainAid
set_option linter.unusedVariables false

structure I3 where
  a : Int
  b : Int
  c : Int
deriving DecidableEq
instance : Inhabited I3 := ⟨⟨0, 0, 0⟩⟩
def eI3 : Rd I3 := fun w _ b o x => w.cell? ⟨b, o, none⟩ = some (.int .i64 x.a) ∧ w.cell? ⟨b, o + 1, none⟩ = some (.int .i64 x.b) ∧ w.cell? ⟨b, o + 2, none⟩ = some (.int .i64 x.c)
instance : RdOk eI3 := ⟨fun _ hs h => ⟨(hs _).1.trans h.1, (hs _).1.trans h.2.1, (hs _).1.trans h.2.2⟩, fun _ h => h⟩
/-- The k-th one. -/
def nth3 (xs : List I3) (k : Nat) : I3 := xs.getD k default
abbrev I3sIn (w : World) (Z : Zone) (A : Option Addr) (xs : List I3) : Prop := Sl eI3 at3 w Z A xs
theorem I3sIn.at {w : World} {Z : Zone} {A : Option Addr} {xs : List I3} (h : I3sIn w Z A xs) {k : Nat} (hk : k < xs.length) :
    ∃ b o, A = some ⟨b, o, none⟩ ∧ Z.ok b ∧ w.cell? ⟨b, o + k * 3, none⟩ = some (.int .i64 (nth3 xs k).a) ∧ w.cell? ⟨b, o + k * 3 + 1, none⟩ = some (.int .i64 (nth3 xs k).b) ∧ w.cell? ⟨b, o + k * 3 + 2, none⟩ = some (.int .i64 (nth3 xs k).c) := by
  obtain ⟨b, o, e, hb, h0, h1, h2⟩ := h.get hk
  exact ⟨b, o, e, hb, h0, h1, h2⟩
/-- The cells of a slice of such. -/
def fl3 (xs : List I3) (c : Nat) : Value := .int .i64 (match c % 3 with
  | 0 => (nth3 xs (c / 3)).a
  | 1 => (nth3 xs (c / 3)).b
  | _ => (nth3 xs (c / 3)).c)
theorem fl3_0 (xs : List I3) (k : Nat) : fl3 xs (k * 3) = .int .i64 (nth3 xs k).a := by
  unfold fl3
  rw [show k * 3 % 3 = 0 by omega, show k * 3 / 3 = k by omega]
  rfl
theorem fl3_1 (xs : List I3) (k : Nat) : fl3 xs (k * 3 + 1) = .int .i64 (nth3 xs k).b := by
  unfold fl3
  rw [show (k * 3 + 1) % 3 = 1 by omega, show (k * 3 + 1) / 3 = k by omega]
  rfl
theorem fl3_2 (xs : List I3) (k : Nat) : fl3 xs (k * 3 + 2) = .int .i64 (nth3 xs k).c := by
  unfold fl3
  rw [show (k * 3 + 2) % 3 = 2 by omega, show (k * 3 + 2) / 3 = k by omega]
  rfl
theorem I3sIn.of_fill {w : World} {g n lo hi : Nat} {xs : List I3} (h : Fill w g (n * 3) (n * 3) (fl3 xs)) (hn : xs.length = n) (hl : lo ≤ g) (hh : g < hi) : I3sIn w (Zone.new lo hi) (some ⟨g, 0, none⟩) xs := fun _ =>
  ⟨g, 0, rfl, ⟨hl, hh⟩, fun _ => h.free, fun j hj => by
    have e0 := h.done (j * 3) (by omega)
    have e1 := h.done (j * 3 + 1) (by omega)
    have e2 := h.done (j * 3 + 2) (by omega)
    rw [fl3_0] at e0
    rw [fl3_1] at e1
    rw [fl3_2] at e2
    rw [Nat.zero_add]
    exact ⟨e0, e1, e2⟩⟩
theorem Fill.step3 {w : World} {g n k : Nat} {xs : List I3} (h : Fill w g (n * 3) (k * 3) (fl3 xs)) (hk : k < n) :
    Fill (((w.setCell ⟨g, k * 3, none⟩ (.int .i64 (nth3 xs k).a)).setCell ⟨g, k * 3 + 1, none⟩ (.int .i64 (nth3 xs k).b)).setCell ⟨g, k * 3 + 2, none⟩ (.int .i64 (nth3 xs k).c)) g (n * 3) ((k + 1) * 3) (fl3 xs) := by
  have h1 := h.step (by omega)
  rw [fl3_0] at h1
  have h2 := h1.step (by omega)
  rw [fl3_1] at h2
  have h3 := h2.step (by omega)
  rw [fl3_2] at h3
  rw [show (k + 1) * 3 = k * 3 + 1 + 1 + 1 by omega]
  exact h3
def encI3 (y : I3) : List Value := [.int .i64 y.a, .int .i64 y.b, .int .i64 y.c]
theorem OwnE.i3s {e : TypeId} {w : World} {B : Nat} {v : Value} {xs : List I3} (h : OwnE e 3 encI3 w B v xs) : ∃ A c, v = .slice A xs.length c ∧ xs.length ≤ c ∧ c ≤ 9223372036854775807 ∧ I3sIn w (Zone.new B w.heap.size) A xs :=
  h.reads (fun _ => rfl) (fun j => rfl) (fun w Z b o y hc => ⟨hc 0 (by omega), hc 1 (by omega), hc 2 (by omega)⟩)
end Go.Proofs.Ytemhcobjhpifpaa
