/- Walks in memory: size, copy, comparison, how they open. -/
import Derived.Test.YtemhcobjhpifpaaFl3
import Derived.Test.YtemhcobjhpifpaaOpenN
namespace Go.Proofs.Ytemhcobjhpifpaa
open Go.ChangeShapes Go.WideShapes Go.ChangeAt Go.RowKit Go.PlainAid Go.Deep
set_option linter.unusedVariables false

theorem Try.infoWalk : (Try.prog.info? 53).map (fun i => (i.zero, i.size, i.bytes)) = some (some (.agg #[.int .i64 0, .int .i64 0, .int .i64 0]), 3, 24) := by kernel_rfl

theorem szWalkS_any (A : Option Addr) (n c : Nat) (left : Int) (w : World) (h0 : 0 ≤ left) (h1 : left ≤ 1048576) (hn : n ≤ 9223372036854775807) :
    Calls Try.prog 5 #[.slice A n c, .int .i64 left] w fun e w' => e = .returned (.int .i64 (szI n left)) ∧ w = w' := by
  by_cases h : left - n < 0
  all_goals
    have H := Lib.hid (szI_eq n left)
    simp only [h, if_true, if_false] at H
    go_enter Try.func5, Try.ntmps5
    go_wp2
    go_ret
    exact ⟨retI H.out.symm, rfl⟩

theorem toWalk_any (x y z : Int) (w : World) :
    Calls Try.prog 24 #[.agg #[.int .i64 x, .int .i64 y, .int .i64 z]] w fun e w' => e = .returned (.agg #[.int .i64 x, .int .i64 y, .int .i64 z]) ∧ Below w.heap.size w w' := by
  go_enter Try.func24, Try.ntmps24
  go_wp2
  go_returns
  exact ⟨rfl, by go_grown⟩

theorem eqWalk_same (x y z : Int) (w : World) :
    Calls Try.prog 32 #[.agg #[.int .i64 x, .int .i64 y, .int .i64 z], .agg #[.int .i64 x, .int .i64 y, .int .i64 z]] w fun e w' => e = .returned (.bool true) ∧ Below w.heap.size w w' := by
  go_enter Try.func32, Try.ntmps32
  go_wp2
  repeat (go_quiet (fail); go_wp2)
  go_ret
  exact ⟨rfl, by first | go_grown | exact bel_drewN (by go_grown) _⟩

set_option maxHeartbeats 1000000 in
theorem toWalkS_new (A : Option Addr) (c : Nat) (xs : List I3) (w : World) (h : I3sIn w (Zone.below w.heap.size) A xs) (hn : xs.length ≤ 1048576) :
    Calls Try.prog 8 #[.slice A xs.length c] w (NewSl eI3 at3 xs w) := by
  obtain ⟨i0, hi, hz0, hz1, hz2⟩ := info_parts Try.infoWalk
  have hmk := fun W => run_make_n (P := Try.prog) 36 53 i0 _ Try.underlying36 hi hz0 xs.length 3 24 hz1 hz2 (by omega) (by omega) W
  have HX := Lib.hid h
  clear h
  go_enter Try.func8, Try.ntmps8
  go_wp2
  go_loopw [4] (fun i wr => ∃ k : Nat, k ≤ xs.length ∧ i = .int .i64 k ∧ Fill wr w.heap.size (xs.length * 3) (k * 3) (fl3 xs) ∧ Below w.heap.size w wr) (fun i _ => xs.length - (intOf i).toNat)
  case atStart => exact ⟨0, Nat.zero_le _, rfl, by simpa using Fill.made w #[.int .i64 0, .int .i64 0, .int .i64 0] (xs.length * 3) 53 (fl3 xs), (Below.refl _ _).alloc (Nat.le_refl _) _⟩
  case round =>
    obtain ⟨k, hk, rfl, hf, hb⟩ := hrel
    have HF := Lib.hid hf
    have HB := Lib.hid hb
    by_cases hlt : k < xs.length
    · obtain ⟨b, o, rfl, hbl, hc0, hc1, hc2⟩ := I3sIn.at (HX.out.at_below hb) hlt
      have hgl := hf.lt
      clear hf hb
      go_wp2_with fail
      refine (toWalk_any _ _ _ _).mono ?_
      rintro e w1 ⟨rfl, hb1⟩
      have HB1 : Hid (Below w.heap.size w w1) := HB.out.trans (hb1.mono HB.out.size)
      have hf1 := HF.out.keep hb1 hgl
      obtain ⟨v0, hv0⟩ := hf1.there (k * 3) (Nat.le_refl _) (by omega)
      obtain ⟨v1, hv1⟩ := hf1.there (k * 3 + 1) (by omega) (by omega)
      obtain ⟨v2, hv2⟩ := hf1.there (k * 3 + 2) (by omega) (by omega)
      have hfr0 := hf1.free (k * 3)
      have hfr1 := hf1.free (k * 3 + 1)
      have hfr2 := hf1.free (k * 3 + 2)
      have hst := Lib.hid (hf1.step3 hlt)
      clear hf1 hb1
      go_wp2_with fail
      go_roundw
      case rel => exact ⟨k + 1, by omega, by go_num, hst.out, ((HB1.out.setCell (Nat.le_refl _) _).setCell (Nat.le_refl _) _).setCell (Nat.le_refl _) _⟩
      case measure => simp [intOf]; omega
    · obtain rfl : k = xs.length := by omega
      clear hf hb
      go_wp2
      go_ret
      exact ⟨_, rfl, Nat.le_refl _, HF.out.lt, I3sIn.of_fill HF.out rfl (Nat.le_refl _) HF.out.lt, HB.out⟩

set_option maxRecDepth 100000 in
set_option maxHeartbeats 1000000 in
theorem eqWalkS_same (A A' : Option Addr) (c c' : Nat) (xs : List I3) (w : World) (h : I3sIn w (Zone.below w.heap.size) A xs) (h' : I3sIn w (Zone.below w.heap.size) A' xs) (hn : xs.length ≤ 1048576) :
    Calls Try.prog 12 #[.slice A xs.length c, .slice A' xs.length c'] w fun e w' => e = .returned (.bool true) ∧ Below w.heap.size w w' := by
  have HX := Lib.hid h
  have HY := Lib.hid h'
  clear h h'
  go_enter Try.func12, Try.ntmps12
  go_wp2
  go_loopw [5] (fun i wr => ∃ k : Nat, k ≤ xs.length ∧ i = .int .i64 k ∧ Below w.heap.size w wr) (fun i _ => xs.length - (intOf i).toNat)
  case atStart => exact ⟨0, Nat.zero_le _, rfl, Below.refl _ _⟩
  case round =>
    obtain ⟨k, hk, rfl, hb⟩ := hrel
    have HB := Lib.hid hb
    by_cases hlt : k < xs.length
    · obtain ⟨b, o, rfl, hbl, hc0, hc1, hc2⟩ := I3sIn.at (HX.out.at_below hb) hlt
      obtain ⟨b', o', rfl, hbl', hc0', hc1', hc2'⟩ := I3sIn.at (HY.out.at_below hb) hlt
      have hj1 : (k : Int) < (xs.length : Int) := by omega
      clear hb
      go_wp2_with fail
      go_still_tail 8, (by kernel_rfl)
      go_wp2_with fail
      refine (eqWalk_same _ _ _ _).mono ?_
      rintro e w1 ⟨rfl, hb1⟩
      have HB1 : Hid (Below w.heap.size w w1) := bel_of (bel_drew HB.out) HB.out.size hb1
      clear hb1
      go_wp2_with fail
      go_roundw
      case rel => exact ⟨k + 1, by omega, by go_num, HB1.out⟩
      case measure => simp [intOf]; omega
    · obtain rfl : k = xs.length := by omega
      clear hb
      go_wp2_with fail
      go_ret
      exact ⟨rfl, HB.out⟩

section
variable {H : Type} {enc : TypeId × Value → H} {P : Program} {W : World} {base : Nat} {sp : Nat → Bool} {held : Bool}
theorem i3s_openWalk {t e : TypeId} {f0 f1 f2 : Field} {fuel : Nat} {cs : List Value} {x : DataW H × List MemPlace} (ht : P.underlying t = some (.slice e)) (he : P.underlying e = some (.struct #[f0, f1, f2])) (hone : oneCellFields P #[f0, f1, f2] = true) (hc : P.cellsOf e = 3)
    (t0 : P.underlying f0.type = some (.int .i64)) (t1 : P.underlying f1.type = some (.int .i64)) (t2 : P.underlying f2.type = some (.int .i64))
    (h : DataW.trod enc P W base sp held fuel t cs = some x) :
    ∃ A xs cap, cs = [.slice A (List.length xs) cap] ∧ I3sIn W (Zone.below W.heap.size) A xs ∧ xs.length ≤ 9223372036854775807 := by
  obtain ⟨A, xs, cap, e1, h1, h2, _⟩ := sl_open (E := eI3) (st := at3) (Pr := fun _ => True) ht (by omega) (fun i => by rw [hc]; rfl) (fun n b o cs' y hb h1 h2 => by
    obtain ⟨y0, y1, y2, k, _, _, g0, g1, g2⟩ := trod_struct3 he h2
    obtain ⟨o0, k0⟩ := hone_of hone 0 f0 rfl
    obtain ⟨o1, k1⟩ := hone_of hone 1 f1 rfl
    obtain ⟨o2, k2⟩ := hone_of hone 2 f2 rfl
    rw [hc] at h1
    obtain ⟨_, hlen, hcell⟩ := World.cells?_some h1
    match cs', hlen with
    | [v0, v1, v2], _ =>
      rw [o0, k0] at g0
      rw [o1, k1] at g1
      rw [o2, k2] at g2
      obtain ⟨a0, e0, _, _⟩ := DataW.trod_int t0 g0
      obtain ⟨a1, e1, _, _⟩ := DataW.trod_int t1 g1
      obtain ⟨a2, e2, _, _⟩ := DataW.trod_int t2 g2
      simp at e0 e1 e2
      subst e0 e1 e2
      have q0 := hcell 0 (by omega)
      have q1 := hcell 1 (by omega)
      have q2 := hcell 2 (by omega)
      rw [add_none rfl] at q0 q1 q2
      exact ⟨⟨a0, a1, a2⟩, ⟨q0, q1, q2⟩, trivial⟩) h
  exact ⟨A, xs, cap, e1, h1, h2⟩
end

/-- What the laws know of such a slice that came in. -/
def LWalks (W : World) (v : Value) (xs : List I3) : Prop := ∃ A c, v = .slice A xs.length c ∧ I3sIn W (Zone.below W.heap.size) A xs ∧ xs.length ≤ 9223372036854775807
set_option maxRecDepth 100000 in
theorem open_lwalks {H : Type} {enc : TypeId × Value → H} {W : World} {base : Nat} {v : Value} {d : DataW H} {p : List MemPlace} (hv : Value.okWide Try.prog W .any base 26 v)
    (h : DataW.Trod enc Try.prog W 0 (fun _ => true) true 26 v d p) : ∃ xs, LWalks W v xs := by
  obtain ⟨a0, len, cap, rfl⟩ := okWide_slice Try.underlying26 hv
  obtain ⟨m, hm⟩ := h
  obtain ⟨A, xs, c, e, hA, hl⟩ := i3s_openWalk Try.underlying26 Try.underlying55 (by kernel_rfl) (by kernel_rfl) Try.underlying3 Try.underlying3 Try.underlying3 hm
  have e' : Value.slice a0 len cap = .slice A xs.length c := by simpa [Value.cells] using e
  exact ⟨xs, A, c, e', hA, hl⟩
end Go.Proofs.Ytemhcobjhpifpaa
