/- Contracts of the functions on spans, and the walk of the law of OverlapOf. -/
import Derived.Test.YtbigocmhneaogaaRows
import Derived.WalkKit
import Derived.ProofKit
import Derived.WalkSpells
import Derived.WalkLawsBesides
import Derived.Below
import Derived.Outline
import Derived.Deep.QuietTactic
import Derived.BigQuiet
import Derived.Lib.Hide
import Derived.Handy
import Derived.Deep.RegionHeld3
import Derived.Deep.DeepCutAuto
namespace Go.Proofs.Ytbigocmhneaogaa
open Go.ChangeShapes Go.WideShapes Go.ChangeAt Go.RowKit
set_option linter.unusedVariables false

theorem retB {a b : Bool} (h : a = b) : Ending.returned (.bool a) = .returned (.bool b) := by rw [h]

/-- Is it a time? -/
def tmB (t : Int) : Bool := decide (0 ≤ t ∧ t ≤ 1799)
/-- Is it a span? -/
def spB (x y : Int) : Bool := tmB x && (tmB y && decide (x ≤ y))

theorem isValidTime_any (t : Int) (w : World) :
    Calls Try.prog 17 #[.int .i64 t] w fun e w' => e = .returned (.bool (tmB t)) ∧ w = w' := by
  unfold tmB
  by_cases h1 : 0 ≤ t
  all_goals
    go_enter Try.func17, Try.ntmps17
    go_wp2
    go_ret
    refine ⟨retB ?_, rfl⟩
    simp [h1]
  all_goals omega

theorem l4Time_any (t : Int) (w : World) :
    Calls Try.prog 42 #[.int .i64 t] w fun e w' => e = .returned (.bool (tmB t)) ∧ w = w' := by
  unfold tmB
  by_cases h1 : 0 ≤ t
  all_goals
    go_enter Try.func42, Try.ntmps42
    go_wp2
    go_ret
    refine ⟨retB ?_, rfl⟩
    simp [h1]
  all_goals omega

theorem toSpan_any (x y : Int) (w : World) :
    Calls Try.prog 27 #[.agg #[.int .i64 x, .int .i64 y]] w fun e w' => e = .returned (.agg #[.int .i64 x, .int .i64 y]) ∧ Below w.heap.size w w' := by
  go_enter Try.func27, Try.ntmps27
  go_wp2
  go_returns
  exact ⟨rfl, by go_grown⟩

theorem isSpan_any (x y : Int) (w : World) :
    Calls Try.prog 52 #[.agg #[.int .i64 x, .int .i64 y]] w fun e w' => e = .returned (.bool (spB x y)) ∧ w' = w.alloc (.cells #[.int .i64 x, .int .i64 y] 34) := by
  unfold spB
  cases hx : tmB x
  all_goals cases hy : tmB y
  all_goals
    go_enter Try.func52, Try.ntmps52
    go_wp2_with (first | (go_at_call 17; refine (isValidTime_any _ _).mono ?_; rintro e w1 ⟨rfl, rfl⟩))
    go_ret
    refine ⟨retB ?_, rfl⟩
    simp

theorem l4Span_any (x y : Int) (w : World) :
    Calls Try.prog 49 #[.agg #[.int .i64 x, .int .i64 y]] w fun e w' => e = .returned (.bool (spB x y)) ∧ w' = w.alloc (.cells #[.int .i64 x, .int .i64 y] 34) := by
  unfold spB
  cases hx : tmB x
  all_goals cases hy : tmB y
  all_goals
    go_enter Try.func49, Try.ntmps49
    go_wp2_with (first | (go_at_call 42; refine (l4Time_any _ _).mono ?_; rintro e w1 ⟨rfl, rfl⟩))
    go_ret
    refine ⟨retB ?_, rfl⟩
    simp

theorem eqSpan_same (x y : Int) (w : World) :
    Calls Try.prog 29 #[.agg #[.int .i64 x, .int .i64 y], .agg #[.int .i64 x, .int .i64 y]] w fun e w' => e = .returned (.bool true) ∧ Below w.heap.size w w' := by
  go_enter Try.func29, Try.ntmps29
  go_wp2
  go_ret
  exact ⟨rfl, by go_grown⟩

def mx (a c : Int) : Int := if a < c then c else a
def mn (b d : Int) : Int := if d < b then d else b
/-- What OverlapOf returns. -/
def ovB (a b c d : Int) : Bool := spB a b && spB c d
def ovN (a b c d : Int) : Bool := ovB a b c d && !decide (mn b d ≤ mx a c)
def ovF (a b c d : Int) : Int := if ovN a b c d then mx a c else 0
def ovT (a b c d : Int) : Int := if ovN a b c d then mn b d else 0
def ovl (a b c d : Int) : Value := .tuple #[.agg #[.int .i64 (ovF a b c d), .int .i64 (ovT a b c d)], .bool (ovN a b c d), .bool (ovB a b c d)]

theorem bcell {W w1 : World} (hb : Below W.heap.size W w1) : (∀ b o, b < W.heap.size → w1.cell? ⟨b, o, none⟩ = W.cell? ⟨b, o, none⟩) ∧ (∀ b o, b < W.heap.size → w1.frozen? ⟨b, o, none⟩ = W.frozen? ⟨b, o, none⟩) :=
  ⟨fun b o h => hb.cell (p := ⟨b, o, none⟩) h, fun b o h => hb.frozen (p := ⟨b, o, none⟩) h⟩

set_option maxHeartbeats 1000000 in
theorem implOverlap_any (a b c d : Int) (w : World) :
    Calls Try.prog 28 #[.agg #[.int .i64 a, .int .i64 b], .agg #[.int .i64 c, .int .i64 d]] w fun e w' => e = .returned (.tuple #[.agg #[.int .i64 (ovF a b c d), .int .i64 (ovT a b c d)], .bool (ovN a b c d), .bool (ovB a b c d)]) ∧ Below w.heap.size w w' := by
  cases h1 : spB a b
  · have H := Lib.hid (show ovl a b c d = .tuple #[.agg #[.int .i64 0, .int .i64 0], .bool false, .bool false] by simp [ovl, ovF, ovT, ovN, ovB, h1])
    go_enter Try.func28, Try.ntmps28
    go_wp2_with (first
        | (go_at_call 52; refine (isSpan_any _ _ _).mono ?_; rintro e w1 ⟨rfl, rfl⟩))
    go_returns
    exact ⟨by rw [show Value.tuple #[.agg #[.int .i64 (ovF a b c d), .int .i64 (ovT a b c d)], .bool (ovN a b c d), .bool (ovB a b c d)] = _ from H.out], by go_grown⟩
  · cases h2 : spB c d
    · have H := Lib.hid (show ovl a b c d = .tuple #[.agg #[.int .i64 0, .int .i64 0], .bool false, .bool false] by simp [ovl, ovF, ovT, ovN, ovB, h2])
      go_enter Try.func28, Try.ntmps28
      go_wp2_with (first
        | (go_at_call 52; refine (isSpan_any _ _ _).mono ?_; rintro e w1 ⟨rfl, rfl⟩))
      go_returns
      exact ⟨by rw [show Value.tuple #[.agg #[.int .i64 (ovF a b c d), .int .i64 (ovT a b c d)], .bool (ovN a b c d), .bool (ovB a b c d)] = _ from H.out], by go_grown⟩
    · by_cases h3 : a < c
      all_goals by_cases h4 : d < b
      all_goals by_cases h5 : mn b d ≤ mx a c
      all_goals
        have HH := Lib.hid (show ovl a b c d = _ by unfold ovl ovF ovT ovN ovB; rfl)
        simp [h1, h2, h5] at HH
        simp only [mx, mn, h3, h4, if_true, if_false] at h5 HH
        go_enter Try.func28, Try.ntmps28
        go_wp2_with (first
          | (go_at_call 52; refine (isSpan_any _ _ _).mono ?_; rintro e w1 ⟨rfl, rfl⟩))
        go_returns
        exact ⟨by rw [show Value.tuple #[.agg #[.int .i64 (ovF a b c d), .int .i64 (ovT a b c d)], .bool (ovN a b c d), .bool (ovB a b c d)] = _ from HH.out], by go_grown⟩

theorem l1Most_any (a b : Int) (w : World) :
    Calls Try.prog 50 #[.int .i64 a, .int .i64 b] w fun e w' => e = .returned (.int .i64 (mx a b)) ∧ w = w' := by
  unfold mx
  go_enter Try.func50, Try.ntmps50
  go_wp2
  all_goals
    go_ret
    refine ⟨congrArg (fun x => Ending.returned (Value.int .i64 x)) ?_, rfl⟩
    first | rfl | omega | (simp; omega)
theorem l1Least_any (a b : Int) (w : World) :
    Calls Try.prog 51 #[.int .i64 a, .int .i64 b] w fun e w' => e = .returned (.int .i64 (mn a b)) ∧ w = w' := by
  unfold mn
  go_enter Try.func51, Try.ntmps51
  go_wp2
  all_goals
    go_ret
    refine ⟨congrArg (fun x => Ending.returned (Value.int .i64 x)) ?_, rfl⟩
    first | rfl | omega | (simp; omega)

set_option maxHeartbeats 1000000 in
theorem specOverlap_any (a b c d : Int) (w : World) :
    Calls Try.prog 26 #[.agg #[.int .i64 a, .int .i64 b], .agg #[.int .i64 c, .int .i64 d]] w fun e w' => e = .returned (.tuple #[.agg #[.int .i64 (ovF a b c d), .int .i64 (ovT a b c d)], .bool (ovN a b c d), .bool (ovB a b c d)]) ∧ Below w.heap.size w w' := by
  cases h1 : spB a b
  · have H := Lib.hid (show ovl a b c d = .tuple #[.agg #[.int .i64 0, .int .i64 0], .bool false, .bool false] by simp [ovl, ovF, ovT, ovN, ovB, h1])
    go_enter Try.func26, Try.ntmps26
    go_wp2_with (first
        | (go_at_call 49; refine (l4Span_any _ _ _).mono ?_; rintro e w1 ⟨rfl, rfl⟩))
    go_returns
    exact ⟨by rw [show Value.tuple #[.agg #[.int .i64 (ovF a b c d), .int .i64 (ovT a b c d)], .bool (ovN a b c d), .bool (ovB a b c d)] = _ from H.out], by go_grown⟩
  · cases h2 : spB c d
    · have H := Lib.hid (show ovl a b c d = .tuple #[.agg #[.int .i64 0, .int .i64 0], .bool false, .bool false] by simp [ovl, ovF, ovT, ovN, ovB, h2])
      go_enter Try.func26, Try.ntmps26
      go_wp2_with (first
        | (go_at_call 49; refine (l4Span_any _ _ _).mono ?_; rintro e w1 ⟨rfl, rfl⟩))
      go_returns
      exact ⟨by rw [show Value.tuple #[.agg #[.int .i64 (ovF a b c d), .int .i64 (ovT a b c d)], .bool (ovN a b c d), .bool (ovB a b c d)] = _ from H.out], by go_grown⟩
    · by_cases h5 : mn b d ≤ mx a c
      all_goals
        have HH := Lib.hid (show ovl a b c d = _ by unfold ovl ovF ovT ovN ovB; rfl)
        simp [h1, h2, h5] at HH
        go_enter Try.func26, Try.ntmps26
        go_wp2_with (first
          | (go_at_call 49; refine (l4Span_any _ _ _).mono ?_; rintro e w1 ⟨rfl, rfl⟩))
        go_region_held3 (fun w' => w'.cell? ⟨w.heap.size, 0, none⟩ = some (.int .i64 a) ∧ w'.cell? ⟨w.heap.size, 1, none⟩ = some (.int .i64 b) ∧ w'.cell? ⟨w.heap.size + 1, 0, none⟩ = some (.int .i64 c) ∧ w'.cell? ⟨w.heap.size + 1, 1, none⟩ = some (.int .i64 d)) (first | (simp [go_sem]; done) | (go_keep; done))
          (first | (go_at_call 50; refine (l1Most_any _ _ _).mono ?_; rintro e w' ⟨rfl, rfl⟩) | (go_at_call 51; refine (l1Least_any _ _ _).mono ?_; rintro e w' ⟨rfl, rfl⟩))
        all_goals
          go_wp2
          go_returns
          exact ⟨by rw [show Value.tuple #[.agg #[.int .i64 (ovF a b c d), .int .i64 (ovT a b c d)], .bool (ovN a b c d), .bool (ovB a b c d)] = _ from HH.out], by go_grown⟩


theorem bel_alloc {W w : World} (h : Below W.heap.size W w) (o : Obj) : Below W.heap.size W (w.alloc o) := h.alloc h.size o
theorem bel_call {W w w1 : World} (h : Below W.heap.size W w) (hb : Below w.heap.size w w1) : Below W.heap.size W w1 := h.trans (hb.mono h.size)
theorem bel_drew {W w : World} (h : Below W.heap.size W w) : Below W.heap.size W w.drew := h.drew
theorem bel_set {W w : World} (h : Below W.heap.size W w) {p : Addr} (hp : W.heap.size ≤ p.block) (u : Value) : Below W.heap.size W (w.setCell p u) := h.setCell hp u
theorem bcell3 {W w1 : World} (hb : Below W.heap.size W w1) : (∀ b o, b < W.heap.size → w1.cell? ⟨b, o, none⟩ = W.cell? ⟨b, o, none⟩) ∧ (∀ b o, b < W.heap.size → w1.frozen? ⟨b, o, none⟩ = W.frozen? ⟨b, o, none⟩) ∧ (∀ k, k < W.heap.size → k < w1.heap.size) :=
  ⟨fun b o h => hb.cell (p := ⟨b, o, none⟩) h, fun b o h => hb.frozen (p := ⟨b, o, none⟩) h, fun k h => Nat.lt_of_lt_of_le h hb.size⟩

theorem set2 {w : World} {g : Nat} {u0 u1 x y : Value} (h0 : w.cell? ⟨g, 0, none⟩ = some u0) (h1 : w.cell? ⟨g, 1, none⟩ = some u1) :
    ((w.setCell ⟨g, 0, none⟩ x).setCell ⟨g, 1, none⟩ y).cell? ⟨g, 0, none⟩ = some x ∧ ((w.setCell ⟨g, 0, none⟩ x).setCell ⟨g, 1, none⟩ y).cell? ⟨g, 1, none⟩ = some y := by
  constructor
  · rw [World.cell?_setCell_other _ _ _ _ (by simp)]
    exact World.cell?_setCell_same _ _ _ h0
  · refine World.cell?_setCell_same _ _ _ (u := u1) ?_
    rw [World.cell?_setCell_other _ _ _ _ (by simp)]
    exact h1

/-- Four cells, in every world that is as W below W's end. -/
def Four (W : World) (g h : Nat) (a b c d : Int) : Prop :=
  ∀ w', Below W.heap.size W w' → w'.cell? ⟨g, 0, none⟩ = some (.int .i64 a) ∧ w'.cell? ⟨g, 1, none⟩ = some (.int .i64 b) ∧ w'.cell? ⟨h, 0, none⟩ = some (.int .i64 c) ∧ w'.cell? ⟨h, 1, none⟩ = some (.int .i64 d)
theorem Four.later {W w1 : World} {g h : Nat} {a b c d : Int} (H : Four W g h a b c d) (hb : Below W.heap.size W w1) : Four w1 g h a b c d := fun w' h' => H w' (bel_call hb h')
theorem Four.mk {W : World} {g h : Nat} {a b c d : Int} (hg : g < W.heap.size) (hh : h < W.heap.size) (h0 : W.cell? ⟨g, 0, none⟩ = some (.int .i64 a)) (h1 : W.cell? ⟨g, 1, none⟩ = some (.int .i64 b)) (h2 : W.cell? ⟨h, 0, none⟩ = some (.int .i64 c)) (h3 : W.cell? ⟨h, 1, none⟩ = some (.int .i64 d)) : Four W g h a b c d :=
  fun w' hb => ⟨(hb.cell hg).trans h0, (hb.cell hg).trans h1, (hb.cell hh).trans h2, (hb.cell hh).trans h3⟩

set_option maxHeartbeats 2000000 in
theorem fnOverlap_walk (a b c d : Int) (w : World) :
    Calls Try.prog 10 #[.agg #[.int .i64 a, .int .i64 b], .agg #[.int .i64 c, .int .i64 d]] w fun e w' => e = .returned (.bool true) ∧ Below w.heap.size w w' := by
  go_enter Try.func10, Try.ntmps10
  go_upto_region 1 with fail
  have HF : Four ((w.alloc (.cells #[.int .i64 a, .int .i64 b] 33)).alloc (.cells #[.int .i64 c, .int .i64 d] 33)) w.heap.size (w.heap.size + 1) a b c d :=
    Four.mk (by simp; try omega) (by simp; try omega) (by go_cell) (by go_cell) (by go_cell) (by go_cell)
  have HB : Below w.heap.size w ((w.alloc (.cells #[.int .i64 a, .int .i64 b] 33)).alloc (.cells #[.int .i64 c, .int .i64 d] 33)) := by go_grown
  generalize ((w.alloc (.cells #[.int .i64 a, .int .i64 b] 33)).alloc (.cells #[.int .i64 c, .int .i64 d] 33)) = WW at HF HB ⊢
  go_cut [5, 6, 7] (fun s5 s6 s7 wx => ∃ g : Nat, s5 = .pointer (some ⟨g, 0, none⟩) ∧ s6 = .bool (ovN a b c d) ∧ s7 = .bool (ovB a b c d) ∧ Below WW.heap.size WW wx ∧ Four wx g g (ovF a b c d) (ovT a b c d) (ovF a b c d) (ovT a b c d))
  case first =>
    have hA := HF
    unfold Four at hA
    have HF := Lib.hid HF
    have HB := Lib.hid HB
    go_region_held3 (fun w' => Below WW.heap.size WW w') (repeat' first | assumption | exact Nat.le_refl _ | exact Below.refl _ _ | (refine bel_drew ?_) | (refine bel_alloc ?_ _) | (refine bel_set ?_ ?_ _))
      (first | (go_at_call 27; refine (toSpan_any _ _ _).mono ?_; rintro e w1 ⟨rfl, hb1⟩; have hB1 := bel_call ‹Below WW.heap.size WW _› hb1; obtain ⟨hc1, hf1, hl1⟩ := bcell3 hb1; have hs1 := hB1.size; have hz1 := hb1.size; (try simp at hz1); (try (have hx1 : WW.heap.size < w1.heap.size := by omega))) | (go_at_call 26; refine (specOverlap_any _ _ _ _ _).mono ?_; rintro e w1 ⟨rfl, hb1⟩; have hB1 := bel_call ‹Below WW.heap.size WW _› hb1; obtain ⟨hc1, hf1, hl1⟩ := bcell3 hb1; have hs1 := hB1.size; have hz1 := hb1.size; (try simp at hz1); (try (have hx1 : WW.heap.size < w1.heap.size := by omega))))
    all_goals
      go_wp2_with fail
      go_meet
    all_goals
      refine ⟨_, rfl, rfl, rfl, ?_, Four.mk ?_ ?_ ?_ ?_ ?_ ?_⟩
      · (repeat' first | assumption | exact Nat.le_refl _ | exact Below.refl _ _ | (refine bel_drew ?_) | (refine bel_alloc ?_ _) | (refine bel_set ?_ ?_ _))
      · go_simp
      · go_simp
      · first | (go_simp; done) | (refine (set2 (u0 := .int .i64 0) (u1 := .int .i64 0) ?_ ?_).1 <;> (go_simp; done)) | (refine (set2 (u0 := .int .i64 0) (u1 := .int .i64 0) ?_ ?_).2 <;> (go_simp; done))
      · first | (go_simp; done) | (refine (set2 (u0 := .int .i64 0) (u1 := .int .i64 0) ?_ ?_).1 <;> (go_simp; done)) | (refine (set2 (u0 := .int .i64 0) (u1 := .int .i64 0) ?_ ?_).2 <;> (go_simp; done))
      · first | (go_simp; done) | (refine (set2 (u0 := .int .i64 0) (u1 := .int .i64 0) ?_ ?_).1 <;> (go_simp; done)) | (refine (set2 (u0 := .int .i64 0) (u1 := .int .i64 0) ?_ ?_).2 <;> (go_simp; done))
      · first | (go_simp; done) | (refine (set2 (u0 := .int .i64 0) (u1 := .int .i64 0) ?_ ?_).1 <;> (go_simp; done)) | (refine (set2 (u0 := .int .i64 0) (u1 := .int .i64 0) ?_ ?_).2 <;> (go_simp; done))
  case rest =>
    obtain ⟨g, rfl, rfl, rfl, HB2, HF2⟩ := hcut
    have HF3 := HF.later HB2
    have HB3 : Below w.heap.size w wc := HB.trans (HB2.mono HB.size)
    clear HF HB HB2
    rename_i WW0
    obtain ⟨WW, rfl⟩ : ∃ W : World, W = wc := ⟨_, rfl⟩
    have HF2 := Lib.hid HF2
    have HF3' := Lib.hid HF3
    have HB3 := Lib.hid HB3
    clear HF3
    go_upto_region 2 with fail
    go_cut [8, 9, 10] (fun s8 s9 s10 wx => ∃ g : Nat, s8 = .pointer (some ⟨g, 0, none⟩) ∧ s9 = .bool (ovN a b c d) ∧ s10 = .bool (ovB a b c d) ∧ Below WW.heap.size WW wx ∧ Four wx g g (ovF a b c d) (ovT a b c d) (ovF a b c d) (ovT a b c d))
    case first =>
      have hA := HF3'.out
      unfold Four at hA
      go_region_held3 (fun w' => Below WW.heap.size WW w') (repeat' first | assumption | exact Nat.le_refl _ | exact Below.refl _ _ | (refine bel_drew ?_) | (refine bel_alloc ?_ _) | (refine bel_set ?_ ?_ _))
        (first | (go_at_call 27; refine (toSpan_any _ _ _).mono ?_; rintro e w1 ⟨rfl, hb1⟩; have hB1 := bel_call ‹Below WW.heap.size WW _› hb1; obtain ⟨hc1, hf1, hl1⟩ := bcell3 hb1; have hs1 := hB1.size; have hz1 := hb1.size; (try simp at hz1); (try (have hx1 : WW.heap.size < w1.heap.size := by omega))) | (go_at_call 28; refine (implOverlap_any _ _ _ _ _).mono ?_; rintro e w1 ⟨rfl, hb1⟩; have hB1 := bel_call ‹Below WW.heap.size WW _› hb1; obtain ⟨hc1, hf1, hl1⟩ := bcell3 hb1; have hs1 := hB1.size; have hz1 := hb1.size; (try simp at hz1); (try (have hx1 : WW.heap.size < w1.heap.size := by omega))))
      all_goals
        go_wp2_with fail
        go_meet
        refine ⟨_, rfl, rfl, rfl, ?_, Four.mk ?_ ?_ ?_ ?_ ?_ ?_⟩
        · (repeat' first | assumption | exact Nat.le_refl _ | exact Below.refl _ _ | (refine bel_drew ?_) | (refine bel_alloc ?_ _) | (refine bel_set ?_ ?_ _))
        · go_simp
        · go_simp
        · first | (go_simp; done) | (refine (set2 (u0 := .int .i64 0) (u1 := .int .i64 0) ?_ ?_).1 <;> (go_simp; done)) | (refine (set2 (u0 := .int .i64 0) (u1 := .int .i64 0) ?_ ?_).2 <;> (go_simp; done))
        · first | (go_simp; done) | (refine (set2 (u0 := .int .i64 0) (u1 := .int .i64 0) ?_ ?_).1 <;> (go_simp; done)) | (refine (set2 (u0 := .int .i64 0) (u1 := .int .i64 0) ?_ ?_).2 <;> (go_simp; done))
        · first | (go_simp; done) | (refine (set2 (u0 := .int .i64 0) (u1 := .int .i64 0) ?_ ?_).1 <;> (go_simp; done)) | (refine (set2 (u0 := .int .i64 0) (u1 := .int .i64 0) ?_ ?_).2 <;> (go_simp; done))
        · first | (go_simp; done) | (refine (set2 (u0 := .int .i64 0) (u1 := .int .i64 0) ?_ ?_).1 <;> (go_simp; done)) | (refine (set2 (u0 := .int .i64 0) (u1 := .int .i64 0) ?_ ?_).2 <;> (go_simp; done))
    case rest =>
      obtain ⟨g2, rfl, rfl, rfl, HB4, HF4⟩ := hcut
      have h1 := (HF2.out.later HB4) wc (Below.refl _ _)
      have h2 := HF4 wc (Below.refl _ _)
      have HB5 := Lib.hid (HB3.out.trans (HB4.mono HB3.out.size))
      clear HF4 HB4 HF2 HB3 HF3'
      go_wp2_with (first | (go_at_call 29; refine (eqSpan_same _ _ _).mono ?_; rintro e w1 ⟨rfl, hb1⟩))
      go_ret
      exact ⟨rfl, HB5.out.trans (hb1.mono HB5.out.size)⟩
end Go.Proofs.Ytbigocmhneaogaa
