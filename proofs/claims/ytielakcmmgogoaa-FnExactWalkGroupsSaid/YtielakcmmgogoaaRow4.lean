/- Rows that a call appends one by one. -/
import Derived.Test.YtielakcmmgogoaaRow3
import Derived.Test.YtielakcmmgogoaaApp
namespace Go.Proofs.Ytielakcmmgogoaa
open Go.ChangeShapes Go.WideShapes Go.ChangeAt Go.RowKit Go.PlainAid
set_option linter.unusedVariables false
set_option linter.unusedSimpArgs false

/-- A slice's value. -/
structure SV where
  A : Option Addr
  n : Nat
  c : Nat
instance : Inhabited SV := ⟨⟨none, 0, 0⟩⟩
def encSV (y : SV) : List Value := [.slice y.A y.n y.c]
theorem encSV_cell (y : SV) : ∀ u ∈ encSV y, u.oneCell' = true := fun u hu => by
  simp [encSV] at hu
  subst hu
  rfl
def eSV : Rd SV := fun w _ b o y => w.cell? ⟨b, o, none⟩ = some (.slice y.A y.n y.c)
def nthV (svs : List SV) (k : Nat) : SV := svs.getD k default
/-- An own slice of rows. -/
structure ROut (w : World) (B : Nat) (v : Value) (xs : List (List Int)) (svs : List SV) (p : Nat → Nat) : Prop where
  own : OwnE 45 1 encSV w B v svs
  len : svs.length = xs.length
  sv : ∀ k, k < xs.length → (nthV svs k).n = (nthR xs k).length
  row : ∀ k, k < xs.length → IntsIn w (Zone.new (p k) (p k + 1)) (nthV svs k).A (nthR xs k)
  p0 : ∀ k, k < xs.length → B ≤ p k ∧ p k < w.heap.size
  pp : ∀ j k, j < xs.length → k < xs.length → j ≠ k → p j ≠ p k
  ne : ∀ k, k < xs.length → v.ownBlock ≠ some (p k)
theorem ROut.nil (w : World) (B : Nat) (p : Nat → Nat) : ROut w B (.slice none 0 0) [] [] p :=
  ⟨OwnE.nil, rfl, fun k hk => by simp at hk, fun k hk => by simp at hk, fun k hk => by simp at hk, fun j k hj => by simp at hj, fun k hk => by simp at hk⟩
theorem ROut.call {w w' : World} {B : Nat} {v : Value} {xs : List (List Int)} {svs : List SV} {p : Nat → Nat} (h : ROut w B v xs svs p) (hb : Below w.heap.size w w') : ROut w' B v xs svs p :=
  ⟨h.own.call hb, h.len, h.sv, fun k hk => (h.row k hk).new_call hb (by have := h.p0 k hk; omega), fun k hk => ⟨(h.p0 k hk).1, Nat.lt_of_lt_of_le (h.p0 k hk).2 hb.size⟩, h.pp, h.ne⟩
/-- What it is at the call's end. -/
theorem ROut.rowsO {w : World} {B B0 : Nat} {v : Value} {xs : List (List Int)} {svs : List SV} {p : Nat → Nat} (h : ROut w B v xs svs p) (hB : B0 ≤ B) : ∃ A c, v = .slice A xs.length c ∧ RowsO w B0 w.heap.size A xs := by
  obtain ⟨A, c, e, _, _, hi⟩ := h.own.reads (E := eSV) (st := fun j => j) (fun _ => rfl) (fun j => by omega) (fun w Z b o y hc => hc 0 (by omega))
  rw [h.len] at e
  refine ⟨A, c, e, ?_⟩
  by_cases hx : xs = []
  · exact .inl hx
  · have hn : 0 < xs.length := List.length_pos_iff.2 hx
    obtain ⟨b, o, e2, hz, hf, hc⟩ := hi (by rw [h.len]; exact hn)
    have hv : v = .slice (some ⟨b, o, none⟩) xs.length c := by rw [e, e2]
    have ho : o = 0 := by
      obtain ⟨_, h2⟩ := h.own
      rcases h2 with ⟨h3, _⟩ | ⟨g, cap, cur, h3, _⟩
      · rw [hv] at h3; simp at h3
      · rw [hv] at h3
        simp only [Value.slice.injEq, Option.some.injEq, Addr.mk.injEq, and_true] at h3
        exact h3.1.2
    subst ho
    have hb : v.ownBlock = some b := by rw [hv]; rfl
    refine .inr ⟨b, p, fun k => (nthV svs k).A, fun k => (nthV svs k).c, e2, Nat.le_trans hB hz.1, hz.2, fun k hk => ⟨Nat.le_trans hB (h.p0 k hk).1, (h.p0 k hk).2, fun e => h.ne k hk (by rw [hb, e])⟩, h.pp, hf trivial, fun k hk => ?_, h.row⟩
    have h0 : w.cell? ⟨b, 0 + k, none⟩ = some (.slice (nthV svs k).A (nthV svs k).n (nthV svs k).c) := hc k (by rw [h.len]; exact hk)
    rw [Nat.zero_add, h.sv k hk] at h0
    exact h0
end Go.Proofs.Ytielakcmmgogoaa
