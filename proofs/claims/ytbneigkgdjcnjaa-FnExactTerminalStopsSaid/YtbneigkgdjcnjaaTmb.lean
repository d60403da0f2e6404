/- TerminalStops: the closure. -/
import Derived.Test.YtbneigkgdjcnjaaTma
namespace Go.Proofs.Ytbneigkgdjcnjaa
open Go.ChangeShapes Go.WideShapes Go.ChangeAt Go.RowKit Go.PlainAid
set_option linter.unusedVariables false

set_option maxRecDepth 100000 in
set_option maxHeartbeats 2000000 in
theorem termF_any (y : LineD) (S R : Option Addr) (cs cr : Nat) (s : Int) (g : Nat) (w : World) (hS : IntsIn w (Zone.below w.heap.size) S y.stops) (hp : 0 < y.stops.length) (hn : y.stops.length ≤ 1048576) (h : w.cell? ⟨g, 0, none⟩ = some (.int .i64 s)) (hg : g < w.heap.size) :
    Calls Try.prog 86 #[.agg #[.string y.name, .slice S y.stops.length cs, .slice R y.runs.length cr], .pointer (some ⟨g, 0, none⟩)] w fun e w' => e = .returned (.bool (endB y s)) ∧ Below w.heap.size w w' := by
  obtain ⟨b, o, rfl, hbl, hc⟩ := (IntsIn.at hS) hp
  have c0 := hc 0 hp
  have c1 := hc (y.stops.length - 1) (by omega)
  obtain ⟨n, hnn⟩ : ∃ n : Nat, y.stops.length = n + 1 := ⟨y.stops.length - 1, by omega⟩
  have HE : Hid (endB y s = (nth y.stops 0 == s || nth y.stops n == s)) := Lib.hid (by unfold endB; rw [hnn]; rfl)
  have e1 : y.stops.length - 1 = n := by omega
  rw [e1] at c1
  have HB : Hid (Below w.heap.size w (w.alloc (.cells #[.string y.name, .slice (some ⟨b, o, none⟩) y.stops.length cs, .slice R y.runs.length cr] 94))) := Lib.hid (by go_grown)
  have k0 : (w.alloc (.cells #[.string y.name, .slice (some ⟨b, o, none⟩) y.stops.length cs, .slice R y.runs.length cr] 94)).cell? ⟨b, o, none⟩ = some (.int .i64 (nth y.stops 0)) := (HB.out.cell (p := ⟨b, o, none⟩) hbl).trans c0
  have k1 : (w.alloc (.cells #[.string y.name, .slice (some ⟨b, o, none⟩) y.stops.length cs, .slice R y.runs.length cr] 94)).cell? ⟨b, o + n, none⟩ = some (.int .i64 (nth y.stops n)) := (HB.out.cell (p := ⟨b, o + n, none⟩) hbl).trans c1
  have kg : (w.alloc (.cells #[.string y.name, .slice (some ⟨b, o, none⟩) y.stops.length cs, .slice R y.runs.length cr] 94)).cell? ⟨g, 0, none⟩ = some (.int .i64 s) := (HB.out.cell (p := ⟨g, 0, none⟩) hg).trans h
  have d1 : (w.alloc (.cells #[.string y.name, .slice (some ⟨b, o, none⟩) y.stops.length cs, .slice R y.runs.length cr] 94)).cell? ⟨w.heap.size, 1, none⟩ = some (.slice (some ⟨b, o, none⟩) y.stops.length cs) := by go_simp
  have hi0 : (0 : Int) < (y.stops.length : Int) := by omega
  have hi1 : (y.stops.length : Int) - 1 = (n : Int) := by omega
  have hi2 : (n : Int) < (y.stops.length : Int) := by omega
  have hw : IntKind.i64.wrap ((y.stops.length : Int) - 1) = (n : Int) := by rw [hi1]; exact IntWalk.i64_in _ (by omega)
  clear hS hc hp c0 c1 h e1 hnn
  by_cases t1 : nth y.stops 0 = s
  · have HE2 := Lib.hid (show endB y s = true by rw [HE.out, t1]; simp)
    subst t1
    go_enter Try.func86, Try.ntmps86
    go_wp2_with fail
    generalize (w.alloc (.cells #[.string y.name, .slice (some ⟨b, o, none⟩) y.stops.length cs, .slice R y.runs.length cr] 94)) = w0 at *
    go_quiet (fail)
    go_wp2_with fail
    go_ret
    exact ⟨retB HE2.out.symm, bel_drewN HB.out _⟩
  · have HE2 := Lib.hid (show endB y s = (nth y.stops n == s) by rw [HE.out]; simp [t1])
    have t2 : (nth y.stops 0 == s) = false := by simp [t1]
    go_enter Try.func86, Try.ntmps86
    go_wp2_with fail
    generalize (w.alloc (.cells #[.string y.name, .slice (some ⟨b, o, none⟩) y.stops.length cs, .slice R y.runs.length cr] 94)) = w0 at *
    go_quiet (fail)
    go_wp2_with fail
    go_ret
    exact ⟨retB HE2.out.symm, bel_drewN HB.out _⟩

end Go.Proofs.Ytbneigkgdjcnjaa
