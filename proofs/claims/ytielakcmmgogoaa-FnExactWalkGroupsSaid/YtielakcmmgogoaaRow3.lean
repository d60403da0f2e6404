/- Results that are rows. -/
import Derived.Test.YtielakcmmgogoaaRow2
namespace Go.Proofs.Ytielakcmmgogoaa
open Go.ChangeShapes Go.WideShapes Go.ChangeAt Go.RowKit Go.PlainAid
set_option linter.unusedVariables false
set_option linter.unusedSimpArgs false

/-- Rows of the call's own, or none. -/
def RowsO (w : World) (lo hi : Nat) (A : Option Addr) (xs : List (List Int)) : Prop := xs = [] ∨ ∃ g p S cc, A = some ⟨g, 0, none⟩ ∧ ROwn w lo hi g xs p S cc
section
variable {w w' : World} {lo hi B : Nat} {A : Option Addr} {xs : List (List Int)}
theorem RowsO.nil : RowsO w lo hi A [] := .inl rfl
theorem RowsO.keep (h : RowsO w lo hi A xs) (hs : ∀ c, lo ≤ c ∧ c < hi → Same w w' c) : RowsO w' lo hi A xs := by
  rcases h with h | ⟨g, p, S, cc, e, h⟩
  · exact .inl h
  · exact .inr ⟨g, p, S, cc, e, h.keep hs⟩
theorem RowsO.new_call (h : RowsO w lo hi A xs) (hb : Below B w w') (hB : hi ≤ B) : RowsO w' lo hi A xs := h.keep fun c hc => Same.of_below hb (Nat.lt_of_lt_of_le hc.2 hB)
theorem RowsO.rows (h : RowsO w lo hi A xs) : RowsIn w (Zone.new lo hi) A xs := by
  rcases h with rfl | ⟨g, p, S, cc, rfl, h⟩
  · exact fun h => by simp at h
  · exact h.rows
theorem RowsO.to_below (h : RowsO w lo hi A xs) (hB : hi ≤ B) : RowsIn w (Zone.below B) A xs := h.rows.to_below hB
theorem ROwn.wide {lo' hi' g : Nat} {p : Nat → Nat} {S : Nat → Option Addr} {cc : Nat → Nat} (h : ROwn w lo hi g xs p S cc) (h1 : lo' ≤ lo) (h2 : hi ≤ hi') : ROwn w lo' hi' g xs p S cc :=
  ⟨Nat.le_trans h1 h.g0, Nat.lt_of_lt_of_le h.g1 h2, fun k hk => by have := h.p0 k hk; omega, h.pp, h.free, h.cell, h.row⟩
theorem RowsO.wide {lo' hi' : Nat} (h : RowsO w lo hi A xs) (h1 : lo' ≤ lo) (h2 : hi ≤ hi') : RowsO w lo' hi' A xs := by
  rcases h with h | ⟨g, p, S, cc, e, h⟩
  · exact .inl h
  · exact .inr ⟨g, p, S, cc, e, h.wide h1 h2⟩
end
/-- Rows in new memory, and whether they are. -/
def RetRows (xs : List (List Int)) (b : Bool) (w : World) (e : Ending) (w' : World) : Prop :=
  ∃ A c, e = .returned (.tuple #[.slice A xs.length c, .bool b]) ∧ RowsO w' w.heap.size w'.heap.size A xs ∧ Below w.heap.size w w'
set_option maxRecDepth 100000 in
theorem markIntSS_res (lo hi : Nat) (A : Option Addr) (c : Nat) (xs : List (List Int)) (K : Nat) (w : World) (h : RowsO w lo hi A xs) (hh : hi ≤ w.heap.size) (hn : xs.length ≤ 1048576) (hc : cntR xs xs.length ≤ 1048576) (hK : K ≤ 1048576) :
    Calls Try.prog 16 #[.slice A xs.length c, .int .i64 (K : Nat)] w fun e w' => e = .returned (.int .i64 ((K + cntR xs xs.length : Nat) : Int)) ∧ Mk lo hi w w' ∧ RowsIn w' (Zone.new lo hi) A (mksR xs K) := by
  rcases h with rfl | ⟨g, p, S, cc, rfl, h⟩
  · go_enter Try.func16, Try.ntmps16
    go_wp2
    go_loopw [1, 5] (fun s i wr => i = .int .i64 0 ∧ s = .int .i64 (K : Int) ∧ wr = w) (fun _ _ _ => 0)
    case atStart => exact ⟨rfl, rfl, rfl⟩
    case round =>
      obtain ⟨rfl, rfl, rfl⟩ := hrel
      go_wp2
      go_ret
      exact ⟨retI (by simp [cntR]), Mk.refl _ _ _, fun h => by simp [mksR] at h⟩
  · exact markIntSS_own lo hi g c xs p S cc K w h hh hn hc hK
end Go.Proofs.Ytielakcmmgogoaa
