/- FormatCalendar: contracts. -/
import Derived.Test.YtdiffepokiabkaaDoorFcc
import Derived.Test.YtdiffepokiabkaaDoorCalC
import Derived.Test.YtdiffepokiabkaaDoorCalD
namespace Go.Proofs.YtdiffepokiabkaaDoor
open Go.ChangeShapes Go.WideShapes Go.ChangeAt Go.RowKit Go.PlainAid
set_option linter.unusedVariables false
set_option linter.unusedSimpArgs false

/-- The answer of FormatCalendar. -/
def fcS (f tt d : Int) (us vs : List Int) : ByteArray := if calB f tt d us vs = true then calT f tt d us vs else ⟨#[]⟩
theorem fcS_no {f tt d : Int} {us vs : List Int} (h : calB f tt d us vs = false) : fcS f tt d us vs = ⟨#[]⟩ := by unfold fcS; rw [h]; rfl
theorem fcS_yes {f tt d : Int} {us vs : List Int} (h : calB f tt d us vs = true) : fcS f tt d us vs = calT f tt d us vs := by unfold fcS; rw [if_pos h]
set_option maxRecDepth 100000 in
set_option maxHeartbeats 1000000 in
theorem specFormatCalendar_any (f tt d : Int) (A R : Option Addr) (ca cr : Nat) (us vs : List Int) (w : World) (h1 : IntsIn w (Zone.below w.heap.size) A us) (h2 : IntsIn w (Zone.below w.heap.size) R vs) (hn : us.length ≤ 1048576) (hm : vs.length ≤ 1048576) :
    Calls Tryd.prog 19 #[.agg #[.int .i64 f, .int .i64 tt, .int .i64 d, .slice A us.length ca, .slice R vs.length cr]] w fun e w' => e = .returned (.tuple #[.string (fcS f tt d us vs), .bool (calB f tt d us vs)]) ∧ Below w.heap.size w w' := by
  have H0 : Hid (CalBox w (w.alloc (.cells #[.int .i64 f, .int .i64 tt, .int .i64 d, .slice A us.length ca, .slice R vs.length cr] 44)) w.heap.size f tt d us vs A ca R cr) := Lib.hid (CalBox.box h1 h2)
  clear h1 h2
  cases g : calB f tt d us vs
  · have HS := Lib.hid (fcS_no g)
    go_enter Tryd.func19, Tryd.ntmps19
    go_wp2_with fail
    refine (l3Good_any f tt d _ _ _ _ us vs _ H0.out.usA H0.out.vsA hn hm).mono ?_
    rintro e w1 ⟨rfl, hb1⟩
    have H1 := Lib.hid (H0.out.call hb1)
    clear hb1
    go_wp2_with fail
    go_ret2
    exact ⟨retSB HS.out.symm rfl, H1.out.bel⟩
  · have HS := Lib.hid (fcS_yes g)
    have HG := Lib.hid g
    go_enter Tryd.func19, Tryd.ntmps19
    go_wp2_with fail
    refine (l3Good_any f tt d _ _ _ _ us vs _ H0.out.usA H0.out.vsA hn hm).mono ?_
    rintro e w1 ⟨rfl, hb1⟩
    have H1 := Lib.hid (H0.out.call hb1)
    clear hb1
    obtain ⟨c0, c1, c2, c3, c4⟩ := H1.out.cells
    go_wp2_with fail
    refine (l3Text_any f tt d _ _ _ _ us vs _ (IntsAt.in H1.out.usA) (IntsAt.in H1.out.vsA) HG.out).mono ?_
    rintro e w2 ⟨rfl, hb2⟩
    have H2 := Lib.hid (H1.out.call hb2)
    clear hb2 c0 c1 c2 c3 c4
    go_wp2_with fail
    go_ret2
    exact ⟨retSB HS.out.symm rfl, H2.out.bel⟩
set_option maxRecDepth 100000 in
set_option maxHeartbeats 1000000 in
theorem implFormatCalendar_any (f tt d : Int) (A R : Option Addr) (ca cr : Nat) (us vs : List Int) (w : World) (h1 : IntsIn w (Zone.below w.heap.size) A us) (h2 : IntsIn w (Zone.below w.heap.size) R vs) (hn : us.length ≤ 1048576) (hm : vs.length ≤ 1048576) (HT0 : Pow10 w) :
    Calls Tryd.prog 21 #[.agg #[.int .i64 f, .int .i64 tt, .int .i64 d, .slice A us.length ca, .slice R vs.length cr]] w fun e w' => e = .returned (.tuple #[.string (fcS f tt d us vs), .bool (calB f tt d us vs)]) ∧ Below w.heap.size w w' := by
  have H0 : Hid (CalBox w (w.alloc (.cells #[.int .i64 f, .int .i64 tt, .int .i64 d, .slice A us.length ca, .slice R vs.length cr] 44)) w.heap.size f tt d us vs A ca R cr) := Lib.hid (CalBox.box h1 h2)
  have HT := Lib.hid HT0
  clear HT0
  clear h1 h2
  cases g : calB f tt d us vs
  · have HS := Lib.hid (fcS_no g)
    go_enter Tryd.func21, Tryd.ntmps21
    go_wp2_with fail
    refine (isValidCalendar_any f tt d _ _ _ _ us vs _ H0.out.usA H0.out.vsA hn hm).mono ?_
    rintro e w1 ⟨rfl, hb1⟩
    have H1 := Lib.hid (H0.out.call hb1)
    clear hb1
    go_wp2_with fail
    go_ret2
    exact ⟨retSB HS.out.symm rfl, H1.out.bel⟩
  · have HS := Lib.hid (fcS_yes g)
    have HG := Lib.hid g
    go_enter Tryd.func21, Tryd.ntmps21
    go_wp2_with fail
    refine (isValidCalendar_any f tt d _ _ _ _ us vs _ H0.out.usA H0.out.vsA hn hm).mono ?_
    rintro e w1 ⟨rfl, hb1⟩
    have H1 := Lib.hid (H0.out.call hb1)
    clear hb1
    obtain ⟨c0, c1, c2, c3, c4⟩ := H1.out.cells
    go_wp2_with fail
    refine (formatCalendar_any f tt d _ _ _ _ us vs _ (IntsAt.in H1.out.usA) (IntsAt.in H1.out.vsA) HG.out (HT.out.call H1.out.bel)).mono ?_
    rintro e w2 ⟨rfl, hb2⟩
    have H2 := Lib.hid (H1.out.call hb2)
    clear hb2 c0 c1 c2 c3 c4
    go_wp2_with fail
    go_ret2
    exact ⟨retSB HS.out.symm rfl, H2.out.bel⟩
end Go.Proofs.YtdiffepokiabkaaDoor
