/- Stop times: the program's words. -/
import Derived.Test.YtdiffepokiabkaaDoorTrr
namespace Go.Proofs.YtdiffepokiabkaaDoor
open Go.ChangeShapes Go.WideShapes Go.ChangeAt Go.RowKit Go.PlainAid
set_option linter.unusedVariables false
set_option linter.unusedSimpArgs false

/-- A line's value whose slices lie below block B0. -/
def RetLineB (B0 : Nat) (y : LineD) (w : World) (e : Ending) (w' : World) : Prop :=
  ∃ S cs R cr, e = .returned (.agg #[.string y.name, .slice S y.stops.length cs, .slice R y.runs.length cr]) ∧ IntsIn w' (Zone.below B0) S y.stops ∧ IntsIn w' (Zone.below B0) R y.runs ∧ CapOk y.stops.length cs ∧ CapOk y.runs.length cr ∧ Below w.heap.size w w'

set_option maxRecDepth 100000 in
set_option maxHeartbeats 2000000 in
theorem lineOf_any (B0 : Nat) (x : TTD) (A L T : Option Addr) (ca cl ct : Nat) (t : I3) (w : World) (hL : LinesIn w (Zone.below B0) L x.net.lines) (hB : B0 ≤ w.heap.size) (h0 : 0 ≤ t.b) (h1 : t.b < x.net.lines.length) (hm : x.net.lines.length ≤ 1048576) :
    Calls Tryd.prog 96 #[.agg #[.slice A x.net.stops.length ca, .slice L x.net.lines.length cl, .slice T x.trips.length ct], .agg #[.int .i64 t.a, .int .i64 t.b, .int .i64 t.c]] w (RetLineB B0 (nthL x.net.lines t.b.toNat) w) := by
  obtain ⟨k, hk⟩ : ∃ k : Nat, t.b = k := ⟨t.b.toNat, by omega⟩
  have hkl : k < x.net.lines.length := by omega
  have hln : t.b.toNat = k := by omega
  rw [hln]
  obtain ⟨b, o, rfl, hbl, S, cs, R, cr, hc0, hc1, hc2, hi1, hi2, hcs, hcr⟩ := LinesIn.lineC hL hkl
  have HI1 := Lib.hid hi1
  have HI2 := Lib.hid hi2
  have HCP := Lib.hid (And.intro hcs hcr)
  have hkk : (k : Int) < x.net.lines.length := by omega
  have hlb : b < w.heap.size := Nat.lt_of_lt_of_le hbl hB
  obtain ⟨ta, tb, tc⟩ := t
  simp only [] at hk
  subst hk
  have hb0 : Below w.heap.size w (((w.alloc (.cells #[.slice A x.net.stops.length ca, .slice (some ⟨b, o, none⟩) x.net.lines.length cl, .slice T x.trips.length ct] 33)).alloc (.cells #[.int .i64 ta, .int .i64 k, .int .i64 tc] 87)).alloc (.cells #[.string ⟨#[]⟩, .slice none 0 0, .slice none 0 0] 80)) := by go_grown
  have HB0 := Lib.hid hb0
  have e1 : (((w.alloc (.cells #[.slice A x.net.stops.length ca, .slice (some ⟨b, o, none⟩) x.net.lines.length cl, .slice T x.trips.length ct] 33)).alloc (.cells #[.int .i64 ta, .int .i64 k, .int .i64 tc] 87)).alloc (.cells #[.string ⟨#[]⟩, .slice none 0 0, .slice none 0 0] 80)).cell? ⟨w.heap.size, 1, none⟩ = some (.slice (some ⟨b, o, none⟩) x.net.lines.length cl) := by go_simp
  have g1 : (((w.alloc (.cells #[.slice A x.net.stops.length ca, .slice (some ⟨b, o, none⟩) x.net.lines.length cl, .slice T x.trips.length ct] 33)).alloc (.cells #[.int .i64 ta, .int .i64 k, .int .i64 tc] 87)).alloc (.cells #[.string ⟨#[]⟩, .slice none 0 0, .slice none 0 0] 80)).cell? ⟨w.heap.size + 1, 1, none⟩ = some (.int .i64 k) := by go_simp
  have f0 : (((w.alloc (.cells #[.slice A x.net.stops.length ca, .slice (some ⟨b, o, none⟩) x.net.lines.length cl, .slice T x.trips.length ct] 33)).alloc (.cells #[.int .i64 ta, .int .i64 k, .int .i64 tc] 87)).alloc (.cells #[.string ⟨#[]⟩, .slice none 0 0, .slice none 0 0] 80)).cell? ⟨w.heap.size + 1 + 1, 0, none⟩ = some (.string ⟨#[]⟩) := by go_simp
  have f1 : (((w.alloc (.cells #[.slice A x.net.stops.length ca, .slice (some ⟨b, o, none⟩) x.net.lines.length cl, .slice T x.trips.length ct] 33)).alloc (.cells #[.int .i64 ta, .int .i64 k, .int .i64 tc] 87)).alloc (.cells #[.string ⟨#[]⟩, .slice none 0 0, .slice none 0 0] 80)).cell? ⟨w.heap.size + 1 + 1, 1, none⟩ = some (.slice none 0 0) := by go_simp
  have f2 : (((w.alloc (.cells #[.slice A x.net.stops.length ca, .slice (some ⟨b, o, none⟩) x.net.lines.length cl, .slice T x.trips.length ct] 33)).alloc (.cells #[.int .i64 ta, .int .i64 k, .int .i64 tc] 87)).alloc (.cells #[.string ⟨#[]⟩, .slice none 0 0, .slice none 0 0] 80)).cell? ⟨w.heap.size + 1 + 1, 2, none⟩ = some (.slice none 0 0) := by go_simp
  have fz : ∀ j, (((w.alloc (.cells #[.slice A x.net.stops.length ca, .slice (some ⟨b, o, none⟩) x.net.lines.length cl, .slice T x.trips.length ct] 33)).alloc (.cells #[.int .i64 ta, .int .i64 k, .int .i64 tc] 87)).alloc (.cells #[.string ⟨#[]⟩, .slice none 0 0, .slice none 0 0] 80)).frozen? ⟨w.heap.size + 1 + 1, j, none⟩ = false := fun j => by go_simp
  have l0 := (hb0.cell (p := ⟨b, o + k * 3, none⟩) hlb).trans hc0
  have l1 := (hb0.cell (p := ⟨b, o + k * 3 + 1, none⟩) hlb).trans hc1
  have l2 := (hb0.cell (p := ⟨b, o + k * 3 + 2, none⟩) hlb).trans hc2
  have hzz : w.heap.size + 1 + 1 < (((w.alloc (.cells #[.slice A x.net.stops.length ca, .slice (some ⟨b, o, none⟩) x.net.lines.length cl, .slice T x.trips.length ct] 33)).alloc (.cells #[.int .i64 ta, .int .i64 k, .int .i64 tc] 87)).alloc (.cells #[.string ⟨#[]⟩, .slice none 0 0, .slice none 0 0] 80)).heap.size := by simp
  clear hL h0 h1 hln hi1 hi2 hcs hcr hc0 hc1 hc2 hb0
  go_enter Tryd.func96, Tryd.ntmps96
  go_wp2_with fail
  refine bodyPost_ret (v := .agg #[.string (nthL x.net.lines k).name, .slice S (nthL x.net.lines k).stops.length cs, .slice R (nthL x.net.lines k).runs.length cr]) (by simp [results, Tryd.results96, go_sem, f0, f1, f2]) rfl ?_
  have hb : Below w.heap.size w (((w.alloc (.cells #[.slice A x.net.stops.length ca, .slice (some ⟨b, o, none⟩) x.net.lines.length cl, .slice T x.trips.length ct] 33)).alloc (.cells #[.int .i64 ta, .int .i64 k, .int .i64 tc] 87)).alloc (.cells #[.string (nthL x.net.lines k).name, .slice S (nthL x.net.lines k).stops.length cs, .slice R (nthL x.net.lines k).runs.length cr] 80)) := by go_grown
  have hbB : Below B0 w _ := hb.mono hB
  exact ⟨S, cs, R, cr, rfl, HI1.out.at_below hbB, HI2.out.at_below hbB, HCP.out.1, HCP.out.2, hb⟩

/-- A slice of integers in new memory. -/
def RetI1 (xs : List Int) (w : World) (e : Ending) (w' : World) : Prop :=
  ∃ A c, e = .returned (.slice A xs.length c) ∧ IntsIn w' (Zone.new w.heap.size w'.heap.size) A xs ∧ Below w.heap.size w w'
theorem OwnE.ret1 {w0 w : World} {B : Nat} {v : Value} {xs : List Int} (h : OwnI w B v xs) (hB : w0.heap.size ≤ B) (hb : Below w0.heap.size w0 w) : RetI1 xs w0 (.returned v) w := by
  obtain ⟨A, c, rfl, _, _, hi⟩ := h.ints
  exact ⟨A, c, rfl, hi.mono (Zone.new_le hB (Nat.le_refl _)), hb⟩
theorem OwnI.one {B : Nat} (w : World) (y : Int) (hb : B ≤ w.heap.size) : OwnI (w.alloc (.cells #[.int .i64 y] 3)) B (.slice (some ⟨w.heap.size, 0, none⟩) 1 1) [y] :=
  World.ownsRow_lit w #[.int .i64 y] 1 hb (by unfold maxLen; omega) rfl

/-- The first n stop times of a trip. -/
def atT (x : TTD) (t : I3) (k : Nat) : Int := t.c + sumI (nthL x.net.lines t.b.toNat).runs k
def yesN (_ : Nat) : Bool := true
theorem all_step (f : Nat → Int) (k : Nat) : pickI f yesN (k + 1) = pickI f yesN k ++ [f k] := pick_yes rfl
theorem all_len (f : Nat → Int) (n : Nat) : (pickI f yesN n).length = n := by
  induction n with
  | zero => rfl
  | succ n ih => rw [all_step, List.length_append, ih]; rfl
theorem nth_all (f : Nat → Int) {n k : Nat} (h : k < n) : nth (pickI f yesN n) k = f k := by
  induction n with
  | zero => omega
  | succ n ih =>
    rw [all_step]
    unfold nth
    rw [List.getD_eq_getElem?_getD]
    by_cases e : k = n
    · subst e
      rw [List.getElem?_append_right (by rw [all_len]; omega), all_len, Nat.sub_self]
      rfl
    · rw [List.getElem?_append_left (by rw [all_len]; omega)]
      have := ih (by omega)
      unfold nth at this
      rw [List.getD_eq_getElem?_getD] at this
      exact this

end Go.Proofs.YtdiffepokiabkaaDoor
