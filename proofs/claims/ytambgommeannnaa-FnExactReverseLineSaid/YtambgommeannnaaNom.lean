/- spec.ReverseLine: its contract. -/
import Derived.Test.YtambgommeannnaaNol
import Derived.Test.YtambgommeannnaaGod
namespace Go.Proofs.Ytambgommeannnaa
open Go.ChangeShapes Go.WideShapes Go.ChangeAt Go.RowKit Go.PlainAid
set_option linter.unusedVariables false
set_option linter.unusedSimpArgs false

theorem retNet_zero {w w' : World} (hb : Below w.heap.size w w') : RetNet ⟨[], []⟩ false w (.returned (.tuple #[.agg #[.slice none 0 0, .slice none 0 0], .bool false])) w' :=
  ⟨none, 0, none, 0, rfl, .inl ⟨rfl, rfl⟩, hb⟩
theorem retNet_eq {x y : NetD} {b c : Bool} {w w' : World} {e : Ending} (h : (x, b) = (y, c)) (hr : RetNet y c w e w') : RetNet x b w e w' := by
  cases h; exact hr
set_option maxRecDepth 100000 in
set_option maxHeartbeats 2000000 in
theorem specReverseLine_no (x : NetD) (i : Int) (nm : ByteArray) (A L : Option Addr) (ca cl : Nat) (w : World) (hA : StrsIn w (Zone.below w.heap.size) A x.stops) (hL : LinesIn w (Zone.below w.heap.size) L x.lines) (hx : Fits x) (hbad : netB x = false ∨ inB i 0 (x.lines.length - 1) = false) :
    Calls Try.prog 37 #[.agg #[.slice A x.stops.length ca, .slice L x.lines.length cl], .int .i64 i, .string nm] w (RetNet (revR x i nm).1 (revR x i nm).2 w) := by
  have HR := Lib.hid (revR_no (x := x) (i := i) (nm := nm) (hbad.elim .inl (fun h => .inr (.inl h))))
  obtain ⟨W0, hW0⟩ : ∃ W0, W0 = ((w.alloc (.cells #[.slice A x.stops.length ca, .slice L x.lines.length cl] 46)).alloc (.cells #[.slice none 0 0, .slice none 0 0] 46)) := ⟨_, rfl⟩
  have H0 : Hid (NetBox w W0 w.heap.size x A ca L cl) := Lib.hid (by rw [hW0]; exact (NetBox.box hA hL).call ((Below.refl _ _).alloc (Nat.le_refl _) _))
  have hz0 : w.heap.size + 1 < W0.heap.size := by rw [hW0]; simp
  have hT0 : W0.cell? ⟨w.heap.size + 1, 0, none⟩ = some (.slice none 0 0) ∧ W0.cell? ⟨w.heap.size + 1, 1, none⟩ = some (.slice none 0 0) ∧ ∀ j, W0.frozen? ⟨w.heap.size + 1, j, none⟩ = false := by rw [hW0]; exact ⟨by go_simp, by go_simp, fun j => by go_simp⟩
  have HT0 := Lib.hid hT0
  have hm := hx.lines
  clear hA hL hT0
  cases hb : netB x
  · go_enter Try.func37, Try.ntmps37
    go_upto_region 1 with fail
    rw [← hW0]
    clear hW0
    obtain ⟨c0, c1⟩ := H0.out.cells
    have HG := Lib.hid (l2Good_any x A L ca cl W0 H0.out.stops H0.out.lines hx)
    go_wp2_with fail
    refine HG.out.mono ?_
    rintro e w1 ⟨rfl, hb1⟩
    rw [hb]
    have s1 : Same W0 w1 (w.heap.size + 1) := Same.of_below hb1 hz0
    have t0 := (s1 0).1.trans HT0.out.1
    have t1 := (s1 1).1.trans HT0.out.2.1
    have f0 := (s1 0).2.trans (HT0.out.2.2 0)
    have f1 := (s1 1).2.trans (HT0.out.2.2 1)
    have HB := Lib.hid (bel_call H0.out.bel hb1)
    clear hb1 s1 hb hbad
    go_wp2_with fail
    refine bodyPost_ret (v := .tuple #[.agg #[.slice none 0 0, .slice none 0 0], .bool false]) (by simp [results, Try.results37, go_sem, t0, t1]) rfl ?_
    refine retNet_eq HR.out (retNet_zero ?_)
    repeat' (refine Below.setCell ?_ (by simp) _)
    exact HB.out
  · obtain hi : inB i 0 (x.lines.length - 1) = false := by
      rcases hbad with h | h
      · rw [hb] at h; cases h
      · exact h
    have HI := Lib.hid hi
    clear hi
    go_enter Try.func37, Try.ntmps37
    go_upto_region 1 with fail
    rw [← hW0]
    clear hW0
    obtain ⟨c0, c1⟩ := H0.out.cells
    have HG := Lib.hid (l2Good_any x A L ca cl W0 H0.out.stops H0.out.lines hx)
    go_wp2_with fail
    refine HG.out.mono ?_
    rintro e w1 ⟨rfl, hb1⟩
    rw [hb]
    have H1 := Lib.hid (H0.out.call hb1)
    have s1 : Same W0 w1 (w.heap.size + 1) := Same.of_below hb1 hz0
    have t0 := (s1 0).1.trans HT0.out.1
    have t1 := (s1 1).1.trans HT0.out.2.1
    have f0 := (s1 0).2.trans (HT0.out.2.2 0)
    have f1 := (s1 1).2.trans (HT0.out.2.2 1)
    have HB := Lib.hid (bel_call H0.out.bel hb1)
    obtain ⟨d0, d1⟩ := H1.out.cells
    clear hb1 s1 hb hbad c0 c1
    go_wp2_with (go_at_call 69; refine (l1In_any _ _ _ _).mono ?_; rintro e w2 ⟨rfl, rfl⟩; rw [HI.out])
    refine bodyPost_ret (v := .tuple #[.agg #[.slice none 0 0, .slice none 0 0], .bool false]) (by simp [results, Try.results37, go_sem, t0, t1]) rfl ?_
    refine retNet_eq HR.out (retNet_zero ?_)
    repeat' (refine Below.setCell ?_ (by simp) _)
    exact HB.out
end Go.Proofs.Ytambgommeannnaa
