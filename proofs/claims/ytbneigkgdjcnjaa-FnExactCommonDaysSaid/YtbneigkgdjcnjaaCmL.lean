/- The walk of the law of CommonDays. -/
import Derived.Test.YtbneigkgdjcnjaaCme
import Derived.Test.YtbneigkgdjcnjaaOpenC
import Derived.Test.YtbneigkgdjcnjaaNetA
namespace Go.Proofs.Ytbneigkgdjcnjaa
open Go.ChangeShapes Go.WideShapes Go.ChangeAt Go.RowKit Go.PlainAid
set_option linter.unusedVariables false

set_option maxRecDepth 100000 in
set_option maxHeartbeats 4000000 in
theorem fnCommonDays_walk (va : Value) (a : (Int × Int × Int) × (List Int × List Int)) (vb : Value) (b : (Int × Int × Int) × (List Int × List Int)) (w : World) (ha : LCal w va a) (hb : LCal w vb b) :
    Calls Try.prog 11 #[va, vb] w fun e w' => e = .returned (.bool true) ∧ Below w.heap.size w w' := by
  obtain ⟨⟨af, at', ad⟩, au, av⟩ := a
  obtain ⟨aA, aca, aR, acr, rfl, ah1, ah2, al1, al2⟩ := ha
  simp only [] at ah1 ah2 al1 al2 ⊢
  replace ah1 := IntsAt.in ah1
  replace ah2 := IntsAt.in ah2
  obtain ⟨⟨bf, bt', bd⟩, bu, bv⟩ := b
  obtain ⟨bA, bca, bR, bcr, rfl, bh1, bh2, bl1, bl2⟩ := hb
  simp only [] at bh1 bh2 bl1 bl2 ⊢
  replace bh1 := IntsAt.in bh1
  replace bh2 := IntsAt.in bh2
  have hb0 : Below w.heap.size w ((w.alloc (.cells #[.int .i64 af, .int .i64 at', .int .i64 ad, .slice aA au.length aca, .slice aR av.length acr] 52)).alloc (.cells #[.int .i64 bf, .int .i64 bt', .int .i64 bd, .slice bA bu.length bca, .slice bR bv.length bcr] 52)) := by go_grown
  have aHh1 := Lib.hid (ah1.call hb0)
  have aHh2 := Lib.hid (ah2.call hb0)
  have bHh1 := Lib.hid (bh1.call hb0)
  have bHh2 := Lib.hid (bh2.call hb0)
  clear ah1 ah2 bh1 bh2
  have aHC : Hid (Cal5 ((w.alloc (.cells #[.int .i64 af, .int .i64 at', .int .i64 ad, .slice aA au.length aca, .slice aR av.length acr] 52)).alloc (.cells #[.int .i64 bf, .int .i64 bt', .int .i64 bd, .slice bA bu.length bca, .slice bR bv.length bcr] 52)) w.heap.size af at' ad aA au.length aca aR av.length acr) := Lib.hid (by refine ⟨?_, ?_, ?_, ?_, ?_⟩ <;> go_simp)
  have alt : w.heap.size < ((w.alloc (.cells #[.int .i64 af, .int .i64 at', .int .i64 ad, .slice aA au.length aca, .slice aR av.length acr] 52)).alloc (.cells #[.int .i64 bf, .int .i64 bt', .int .i64 bd, .slice bA bu.length bca, .slice bR bv.length bcr] 52)).heap.size := by simp <;> omega
  have bHC : Hid (Cal5 ((w.alloc (.cells #[.int .i64 af, .int .i64 at', .int .i64 ad, .slice aA au.length aca, .slice aR av.length acr] 52)).alloc (.cells #[.int .i64 bf, .int .i64 bt', .int .i64 bd, .slice bA bu.length bca, .slice bR bv.length bcr] 52)) (w.heap.size + 1) bf bt' bd bA bu.length bca bR bv.length bcr) := Lib.hid (by refine ⟨?_, ?_, ?_, ?_, ?_⟩ <;> go_simp)
  have blt : (w.heap.size + 1) < ((w.alloc (.cells #[.int .i64 af, .int .i64 at', .int .i64 ad, .slice aA au.length aca, .slice aR av.length acr] 52)).alloc (.cells #[.int .i64 bf, .int .i64 bt', .int .i64 bd, .slice bA bu.length bca, .slice bR bv.length bcr] 52)).heap.size := by simp <;> omega
  have HB0 := Lib.hid hb0
  clear hb0
  by_cases ahz : szI (au.length + av.length) 1048576 < 0
  · skip
    go_enter Try.func11, Try.ntmps11
    go_wp2_with fail
    generalize ((w.alloc (.cells #[.int .i64 af, .int .i64 at', .int .i64 ad, .slice aA au.length aca, .slice aR av.length acr] 52)).alloc (.cells #[.int .i64 bf, .int .i64 bt', .int .i64 bd, .slice bA bu.length bca, .slice bR bv.length bcr] 52)) = w0 at *
    obtain ⟨cb0_0, cb0_1, cb0_2, cb0_3, cb0_4⟩ := aHC.out.below (Below.refl w0.heap.size w0) alt
    obtain ⟨cb1_0, cb1_1, cb1_2, cb1_3, cb1_4⟩ := bHC.out.below (Below.refl w0.heap.size w0) blt
    have cl0 : w.heap.size < w0.heap.size := by have := alt; have := (Below.refl w0.heap.size w0).size; omega
    have cl1 : (w.heap.size + 1) < w0.heap.size := by have := blt; have := (Below.refl w0.heap.size w0).size; omega
    go_wp2_with fail
    refine (szCalendar_b _ _ _ _ _ _ _ _ _ _ _ (by omega) (by omega) al1 al2).mono ?_
    rintro e w1 ⟨rfl, hb0⟩
    have Hb0 := Lib.hid hb0
    have hs0 := hb0.size
    clear hb0
    clear cb0_0 cb0_1 cb0_2 cb0_3 cb0_4
    clear cb1_0 cb1_1 cb1_2 cb1_3 cb1_4
    clear cl0
    clear cl1
    obtain ⟨cb0_0, cb0_1, cb0_2, cb0_3, cb0_4⟩ := aHC.out.below Hb0.out alt
    obtain ⟨cb1_0, cb1_1, cb1_2, cb1_3, cb1_4⟩ := bHC.out.below Hb0.out blt
    have cl0 : w.heap.size < w1.heap.size := by have := alt; have := Hb0.out.size; omega
    have cl1 : (w.heap.size + 1) < w1.heap.size := by have := blt; have := Hb0.out.size; omega
    go_wp2_with fail
    go_ret
    exact ⟨rfl, (bel_of HB0.out (by have := HB0.out.size; omega) Hb0.out)⟩
  have ahn := szNet_le ahz (by omega)
  have an : au.length ≤ 1048576 := by omega
  have am : av.length ≤ 1048576 := by omega
  have ale : szI (au.length + av.length) 1048576 ≤ 1048576 := szI_le (by omega)
  by_cases bhz : szI (bu.length + bv.length) (szI (au.length + av.length) 1048576) < 0
  · skip
    go_enter Try.func11, Try.ntmps11
    go_wp2_with fail
    generalize ((w.alloc (.cells #[.int .i64 af, .int .i64 at', .int .i64 ad, .slice aA au.length aca, .slice aR av.length acr] 52)).alloc (.cells #[.int .i64 bf, .int .i64 bt', .int .i64 bd, .slice bA bu.length bca, .slice bR bv.length bcr] 52)) = w0 at *
    obtain ⟨cb0_0, cb0_1, cb0_2, cb0_3, cb0_4⟩ := aHC.out.below (Below.refl w0.heap.size w0) alt
    obtain ⟨cb1_0, cb1_1, cb1_2, cb1_3, cb1_4⟩ := bHC.out.below (Below.refl w0.heap.size w0) blt
    have cl0 : w.heap.size < w0.heap.size := by have := alt; have := (Below.refl w0.heap.size w0).size; omega
    have cl1 : (w.heap.size + 1) < w0.heap.size := by have := blt; have := (Below.refl w0.heap.size w0).size; omega
    go_wp2_with fail
    refine (szCalendar_b _ _ _ _ _ _ _ _ _ _ _ (by omega) (by omega) al1 al2).mono ?_
    rintro e w1 ⟨rfl, hb0⟩
    have Hb0 := Lib.hid hb0
    have hs0 := hb0.size
    clear hb0
    clear cb0_0 cb0_1 cb0_2 cb0_3 cb0_4
    clear cb1_0 cb1_1 cb1_2 cb1_3 cb1_4
    clear cl0
    clear cl1
    obtain ⟨cb0_0, cb0_1, cb0_2, cb0_3, cb0_4⟩ := aHC.out.below Hb0.out alt
    obtain ⟨cb1_0, cb1_1, cb1_2, cb1_3, cb1_4⟩ := bHC.out.below Hb0.out blt
    have cl0 : w.heap.size < w1.heap.size := by have := alt; have := Hb0.out.size; omega
    have cl1 : (w.heap.size + 1) < w1.heap.size := by have := blt; have := Hb0.out.size; omega
    go_wp2_with fail
    refine (szCalendar_b _ _ _ _ _ _ _ _ _ _ _ (by omega) (by omega) bl1 bl2).mono ?_
    rintro e w2 ⟨rfl, hb1⟩
    have Hb1 := Lib.hid hb1
    have hs1 := hb1.size
    clear hb1
    clear cb0_0 cb0_1 cb0_2 cb0_3 cb0_4
    clear cb1_0 cb1_1 cb1_2 cb1_3 cb1_4
    clear cl0
    clear cl1
    obtain ⟨cb0_0, cb0_1, cb0_2, cb0_3, cb0_4⟩ := aHC.out.below (bel_call Hb0.out Hb1.out) alt
    obtain ⟨cb1_0, cb1_1, cb1_2, cb1_3, cb1_4⟩ := bHC.out.below (bel_call Hb0.out Hb1.out) blt
    have cl0 : w.heap.size < w2.heap.size := by have := alt; have := (bel_call Hb0.out Hb1.out).size; omega
    have cl1 : (w.heap.size + 1) < w2.heap.size := by have := blt; have := (bel_call Hb0.out Hb1.out).size; omega
    go_wp2_with fail
    go_ret
    exact ⟨rfl, (bel_of HB0.out (by have := HB0.out.size; omega) (bel_call Hb0.out Hb1.out))⟩
  have bhn := szNet_le bhz (by omega)
  have bn : bu.length ≤ 1048576 := by omega
  have bm : bv.length ≤ 1048576 := by omega
  have ble : szI (bu.length + bv.length) (szI (au.length + av.length) 1048576) ≤ 1048576 := szI_le (by omega)
  have hlen : (cdI af at' ad au av bf bt' bd bu bv).length ≤ 1048576 := Nat.le_trans (cdI_len _ _ _ _ _ _ _ _ _ _) (by omega)
  go_enter Try.func11, Try.ntmps11
  go_wp2_with fail
  generalize ((w.alloc (.cells #[.int .i64 af, .int .i64 at', .int .i64 ad, .slice aA au.length aca, .slice aR av.length acr] 52)).alloc (.cells #[.int .i64 bf, .int .i64 bt', .int .i64 bd, .slice bA bu.length bca, .slice bR bv.length bcr] 52)) = w0 at *
  obtain ⟨cb0_0, cb0_1, cb0_2, cb0_3, cb0_4⟩ := aHC.out.below (Below.refl w0.heap.size w0) alt
  obtain ⟨cb1_0, cb1_1, cb1_2, cb1_3, cb1_4⟩ := bHC.out.below (Below.refl w0.heap.size w0) blt
  have cl0 : w.heap.size < w0.heap.size := by have := alt; have := (Below.refl w0.heap.size w0).size; omega
  have cl1 : (w.heap.size + 1) < w0.heap.size := by have := blt; have := (Below.refl w0.heap.size w0).size; omega
  go_wp2_with fail
  refine (szCalendar_b _ _ _ _ _ _ _ _ _ _ _ (by omega) (by omega) al1 al2).mono ?_
  rintro e w1 ⟨rfl, hb0⟩
  have Hb0 := Lib.hid hb0
  have hs0 := hb0.size
  clear hb0
  clear cb0_0 cb0_1 cb0_2 cb0_3 cb0_4
  clear cb1_0 cb1_1 cb1_2 cb1_3 cb1_4
  clear cl0
  clear cl1
  obtain ⟨cb0_0, cb0_1, cb0_2, cb0_3, cb0_4⟩ := aHC.out.below Hb0.out alt
  obtain ⟨cb1_0, cb1_1, cb1_2, cb1_3, cb1_4⟩ := bHC.out.below Hb0.out blt
  have cl0 : w.heap.size < w1.heap.size := by have := alt; have := Hb0.out.size; omega
  have cl1 : (w.heap.size + 1) < w1.heap.size := by have := blt; have := Hb0.out.size; omega
  go_wp2_with fail
  refine (szCalendar_b _ _ _ _ _ _ _ _ _ _ _ (by omega) (by omega) bl1 bl2).mono ?_
  rintro e w2 ⟨rfl, hb1⟩
  have Hb1 := Lib.hid hb1
  have hs1 := hb1.size
  clear hb1
  clear cb0_0 cb0_1 cb0_2 cb0_3 cb0_4
  clear cb1_0 cb1_1 cb1_2 cb1_3 cb1_4
  clear cl0
  clear cl1
  obtain ⟨cb0_0, cb0_1, cb0_2, cb0_3, cb0_4⟩ := aHC.out.below (bel_call Hb0.out Hb1.out) alt
  obtain ⟨cb1_0, cb1_1, cb1_2, cb1_3, cb1_4⟩ := bHC.out.below (bel_call Hb0.out Hb1.out) blt
  have cl0 : w.heap.size < w2.heap.size := by have := alt; have := (bel_call Hb0.out Hb1.out).size; omega
  have cl1 : (w.heap.size + 1) < w2.heap.size := by have := blt; have := (bel_call Hb0.out Hb1.out).size; omega
  clear al1 al2 bl1 bl2
  go_wp2_with fail
  clear cb0_0 cb0_1 cb0_2 cb0_3 cb0_4
  clear cb1_0 cb1_1 cb1_2 cb1_3 cb1_4
  clear cl0
  clear cl1
  have hC0 : ∀ w', Below w2.heap.size w2 w' → Cal5 w' w.heap.size af at' ad aA au.length aca aR av.length acr := fun w' hb => aHC.out.below (bel_call (bel_call Hb0.out Hb1.out) hb) alt
  unfold Cal5 at hC0
  have hC1 : ∀ w', Below w2.heap.size w2 w' → Cal5 w' (w.heap.size + 1) bf bt' bd bA bu.length bca bR bv.length bcr := fun w' hb => bHC.out.below (bel_call (bel_call Hb0.out Hb1.out) hb) blt
  unfold Cal5 at hC1
  go_region_held3 (fun w' => Below w2.heap.size w2 w') (repeat' first | assumption | exact Nat.le_refl _ | exact Below.refl _ _ | (refine bel_drew ?_) | (refine bel_alloc ?_ _) | (refine bel_set ?_ ?_ _))
    (first
      | (go_at_call 41; (with_reducible refine (toCalendar_new af at' ad _ _ _ _ au av _ (aHh1.out.call (bel_call (bel_call Hb0.out Hb1.out) ‹Below w2.heap.size w2 _›)) (aHh2.out.call (bel_call (bel_call Hb0.out Hb1.out) ‹Below w2.heap.size w2 _›)) an am).mono ?_); rintro e wp ⟨asg, ash, rfl, _, asi1, asi2, hb5⟩; have hB5 := bel_call ‹Below w2.heap.size w2 _› hb5; have asHi1 := Lib.hid (asi1.to_below (Nat.le_refl _)); have asHi2 := Lib.hid (asi2.to_below (Nat.le_refl _)); clear asi1 asi2 hb5)
      | (go_at_call 41; (with_reducible refine (toCalendar_new bf bt' bd _ _ _ _ bu bv _ (bHh1.out.call (bel_call (bel_call Hb0.out Hb1.out) ‹Below w2.heap.size w2 _›)) (bHh2.out.call (bel_call (bel_call Hb0.out Hb1.out) ‹Below w2.heap.size w2 _›)) bn bm).mono ?_); rintro e wp ⟨bsg, bsh, rfl, _, bsi1, bsi2, hb5⟩; have hB5 := bel_call ‹Below w2.heap.size w2 _› hb5; have asHi1n := Lib.hid (asHi1.out.call hb5); have asHi2n := Lib.hid (asHi2.out.call hb5); have bsHi1 := Lib.hid (bsi1.to_below (Nat.le_refl _)); have bsHi2 := Lib.hid (bsi2.to_below (Nat.le_refl _)); clear bsi1 bsi2 hb5)
      | (go_at_call 40; refine (specCommonDays_any af at' ad _ _ _ _ au av bf bt' bd _ _ _ _ bu bv _ asHi1n.out asHi2n.out bsHi1.out bsHi2.out an am bn bm).mono ?_; rintro e wz ⟨wA, wc, rfl, wi, hb6⟩; have hB6 := bel_call ‹Below w2.heap.size w2 wp› hb6; have wH := Lib.hid (wi.mono (Zone.new_le (‹Below w2.heap.size w2 wp› : Below w2.heap.size w2 wp).size (Nat.le_refl _))); clear wi; clear hb6))
  all_goals
    clear hC0 hC1
    have Hb2 := Lib.hid hB6
    have hs2 := hB6.size
    clear hB6
    generalize wz = w3 at *
    obtain ⟨cb0_0, cb0_1, cb0_2, cb0_3, cb0_4⟩ := aHC.out.below (bel_call (bel_call Hb0.out Hb1.out) Hb2.out) alt
    obtain ⟨cb1_0, cb1_1, cb1_2, cb1_3, cb1_4⟩ := bHC.out.below (bel_call (bel_call Hb0.out Hb1.out) Hb2.out) blt
    have cl0 : w.heap.size < w3.heap.size := by have := alt; have := (bel_call (bel_call Hb0.out Hb1.out) Hb2.out).size; omega
    have cl1 : (w.heap.size + 1) < w3.heap.size := by have := blt; have := (bel_call (bel_call Hb0.out Hb1.out) Hb2.out).size; omega
    go_wp2_with fail
    refine (toCalendar_new af at' ad _ _ _ _ au av _ (aHh1.out.call (bel_call (bel_call Hb0.out Hb1.out) Hb2.out)) (aHh2.out.call (bel_call (bel_call Hb0.out Hb1.out) Hb2.out)) an am).mono ?_
    rintro e w4 ⟨axg, axh, rfl, _, axi1, axi2, hb3⟩
    have Hb3 := Lib.hid hb3
    have hs3 := hb3.size
    have axHi1 := Lib.hid axi1
    have axHi2 := Lib.hid axi2
    clear axi1 axi2
    clear hb3
    clear cb0_0 cb0_1 cb0_2 cb0_3 cb0_4
    clear cb1_0 cb1_1 cb1_2 cb1_3 cb1_4
    clear cl0
    clear cl1
    obtain ⟨cb0_0, cb0_1, cb0_2, cb0_3, cb0_4⟩ := aHC.out.below (bel_call (bel_call (bel_call Hb0.out Hb1.out) Hb2.out) Hb3.out) alt
    obtain ⟨cb1_0, cb1_1, cb1_2, cb1_3, cb1_4⟩ := bHC.out.below (bel_call (bel_call (bel_call Hb0.out Hb1.out) Hb2.out) Hb3.out) blt
    have cl0 : w.heap.size < w4.heap.size := by have := alt; have := (bel_call (bel_call (bel_call Hb0.out Hb1.out) Hb2.out) Hb3.out).size; omega
    have cl1 : (w.heap.size + 1) < w4.heap.size := by have := blt; have := (bel_call (bel_call (bel_call Hb0.out Hb1.out) Hb2.out) Hb3.out).size; omega
    go_wp2_with fail
    have hb4 : Below w4.heap.size w4 (w4.alloc (.cells #[.int .i64 af, .int .i64 at', .int .i64 ad, .slice (some ⟨axg, 0, none⟩) au.length au.length, .slice (some ⟨axh, 0, none⟩) av.length av.length] 55)) := by go_grown
    have Hb4 := Lib.hid hb4
    have hs4 := hb4.size
    have axHC : Hid (Cal5 (w4.alloc (.cells #[.int .i64 af, .int .i64 at', .int .i64 ad, .slice (some ⟨axg, 0, none⟩) au.length au.length, .slice (some ⟨axh, 0, none⟩) av.length av.length] 55)) w4.heap.size af at' ad (some ⟨axg, 0, none⟩) au.length au.length (some ⟨axh, 0, none⟩) av.length av.length) := Lib.hid (by refine ⟨?_, ?_, ?_, ?_, ?_⟩ <;> go_simp)
    have axlt : w4.heap.size < (w4.alloc (.cells #[.int .i64 af, .int .i64 at', .int .i64 ad, .slice (some ⟨axg, 0, none⟩) au.length au.length, .slice (some ⟨axh, 0, none⟩) av.length av.length] 55)).heap.size := by simp
    clear hb4
    generalize (w4.alloc (.cells #[.int .i64 af, .int .i64 at', .int .i64 ad, .slice (some ⟨axg, 0, none⟩) au.length au.length, .slice (some ⟨axh, 0, none⟩) av.length av.length] 55)) = w5 at *
    clear cb0_0 cb0_1 cb0_2 cb0_3 cb0_4
    clear cb1_0 cb1_1 cb1_2 cb1_3 cb1_4
    clear cl0
    clear cl1
    obtain ⟨cb0_0, cb0_1, cb0_2, cb0_3, cb0_4⟩ := aHC.out.below (bel_call (bel_call (bel_call (bel_call Hb0.out Hb1.out) Hb2.out) Hb3.out) Hb4.out) alt
    obtain ⟨cb1_0, cb1_1, cb1_2, cb1_3, cb1_4⟩ := bHC.out.below (bel_call (bel_call (bel_call (bel_call Hb0.out Hb1.out) Hb2.out) Hb3.out) Hb4.out) blt
    obtain ⟨cb2_0, cb2_1, cb2_2, cb2_3, cb2_4⟩ := axHC.out.below (Below.refl w5.heap.size w5) axlt
    have cl0 : w.heap.size < w5.heap.size := by have := alt; have := (bel_call (bel_call (bel_call (bel_call Hb0.out Hb1.out) Hb2.out) Hb3.out) Hb4.out).size; omega
    have cl1 : (w.heap.size + 1) < w5.heap.size := by have := blt; have := (bel_call (bel_call (bel_call (bel_call Hb0.out Hb1.out) Hb2.out) Hb3.out) Hb4.out).size; omega
    have cm0 : w4.heap.size < w5.heap.size := by have := axlt; have := (Below.refl w5.heap.size w5).size; omega
    go_wp2_with fail
    refine (toCalendar_new bf bt' bd _ _ _ _ bu bv _ (bHh1.out.call (bel_call (bel_call (bel_call (bel_call Hb0.out Hb1.out) Hb2.out) Hb3.out) Hb4.out)) (bHh2.out.call (bel_call (bel_call (bel_call (bel_call Hb0.out Hb1.out) Hb2.out) Hb3.out) Hb4.out)) bn bm).mono ?_
    rintro e w6 ⟨bxg, bxh, rfl, _, bxi1, bxi2, hb5⟩
    have Hb5 := Lib.hid hb5
    have hs5 := hb5.size
    have bxHi1 := Lib.hid bxi1
    have bxHi2 := Lib.hid bxi2
    clear bxi1 bxi2
    clear hb5
    clear cb0_0 cb0_1 cb0_2 cb0_3 cb0_4
    clear cb1_0 cb1_1 cb1_2 cb1_3 cb1_4
    clear cb2_0 cb2_1 cb2_2 cb2_3 cb2_4
    clear cl0
    clear cl1
    clear cm0
    obtain ⟨cb0_0, cb0_1, cb0_2, cb0_3, cb0_4⟩ := aHC.out.below (bel_call (bel_call (bel_call (bel_call (bel_call Hb0.out Hb1.out) Hb2.out) Hb3.out) Hb4.out) Hb5.out) alt
    obtain ⟨cb1_0, cb1_1, cb1_2, cb1_3, cb1_4⟩ := bHC.out.below (bel_call (bel_call (bel_call (bel_call (bel_call Hb0.out Hb1.out) Hb2.out) Hb3.out) Hb4.out) Hb5.out) blt
    obtain ⟨cb2_0, cb2_1, cb2_2, cb2_3, cb2_4⟩ := axHC.out.below Hb5.out axlt
    have cl0 : w.heap.size < w6.heap.size := by have := alt; have := (bel_call (bel_call (bel_call (bel_call (bel_call Hb0.out Hb1.out) Hb2.out) Hb3.out) Hb4.out) Hb5.out).size; omega
    have cl1 : (w.heap.size + 1) < w6.heap.size := by have := blt; have := (bel_call (bel_call (bel_call (bel_call (bel_call Hb0.out Hb1.out) Hb2.out) Hb3.out) Hb4.out) Hb5.out).size; omega
    have cm0 : w4.heap.size < w6.heap.size := by have := axlt; have := Hb5.out.size; omega
    go_wp2_with fail
    have hb6 : Below w6.heap.size w6 (w6.alloc (.cells #[.int .i64 bf, .int .i64 bt', .int .i64 bd, .slice (some ⟨bxg, 0, none⟩) bu.length bu.length, .slice (some ⟨bxh, 0, none⟩) bv.length bv.length] 55)) := by go_grown
    have Hb6 := Lib.hid hb6
    have hs6 := hb6.size
    have bxHC : Hid (Cal5 (w6.alloc (.cells #[.int .i64 bf, .int .i64 bt', .int .i64 bd, .slice (some ⟨bxg, 0, none⟩) bu.length bu.length, .slice (some ⟨bxh, 0, none⟩) bv.length bv.length] 55)) w6.heap.size bf bt' bd (some ⟨bxg, 0, none⟩) bu.length bu.length (some ⟨bxh, 0, none⟩) bv.length bv.length) := Lib.hid (by refine ⟨?_, ?_, ?_, ?_, ?_⟩ <;> go_simp)
    have bxlt : w6.heap.size < (w6.alloc (.cells #[.int .i64 bf, .int .i64 bt', .int .i64 bd, .slice (some ⟨bxg, 0, none⟩) bu.length bu.length, .slice (some ⟨bxh, 0, none⟩) bv.length bv.length] 55)).heap.size := by simp
    clear hb6
    generalize (w6.alloc (.cells #[.int .i64 bf, .int .i64 bt', .int .i64 bd, .slice (some ⟨bxg, 0, none⟩) bu.length bu.length, .slice (some ⟨bxh, 0, none⟩) bv.length bv.length] 55)) = w7 at *
    clear cb0_0 cb0_1 cb0_2 cb0_3 cb0_4
    clear cb1_0 cb1_1 cb1_2 cb1_3 cb1_4
    clear cb2_0 cb2_1 cb2_2 cb2_3 cb2_4
    clear cl0
    clear cl1
    clear cm0
    obtain ⟨cb0_0, cb0_1, cb0_2, cb0_3, cb0_4⟩ := aHC.out.below (bel_call (bel_call (bel_call (bel_call (bel_call (bel_call Hb0.out Hb1.out) Hb2.out) Hb3.out) Hb4.out) Hb5.out) Hb6.out) alt
    obtain ⟨cb1_0, cb1_1, cb1_2, cb1_3, cb1_4⟩ := bHC.out.below (bel_call (bel_call (bel_call (bel_call (bel_call (bel_call Hb0.out Hb1.out) Hb2.out) Hb3.out) Hb4.out) Hb5.out) Hb6.out) blt
    obtain ⟨cb2_0, cb2_1, cb2_2, cb2_3, cb2_4⟩ := axHC.out.below (bel_call Hb5.out Hb6.out) axlt
    obtain ⟨cb3_0, cb3_1, cb3_2, cb3_3, cb3_4⟩ := bxHC.out.below (Below.refl w7.heap.size w7) bxlt
    have cl0 : w.heap.size < w7.heap.size := by have := alt; have := (bel_call (bel_call (bel_call (bel_call (bel_call (bel_call Hb0.out Hb1.out) Hb2.out) Hb3.out) Hb4.out) Hb5.out) Hb6.out).size; omega
    have cl1 : (w.heap.size + 1) < w7.heap.size := by have := blt; have := (bel_call (bel_call (bel_call (bel_call (bel_call (bel_call Hb0.out Hb1.out) Hb2.out) Hb3.out) Hb4.out) Hb5.out) Hb6.out).size; omega
    have cm0 : w4.heap.size < w7.heap.size := by have := axlt; have := (bel_call Hb5.out Hb6.out).size; omega
    have cm1 : w6.heap.size < w7.heap.size := by have := bxlt; have := (Below.refl w7.heap.size w7).size; omega
    go_wp2_with fail
    refine (implCommonDays_any af at' ad _ _ _ _ au av bf bt' bd _ _ _ _ bu bv _ ((axHi1.out.new_call (bel_call (bel_call Hb4.out Hb5.out) Hb6.out) (Nat.le_refl _)).to_below (by have := (bel_call (bel_call Hb4.out Hb5.out) Hb6.out).size; omega)) ((axHi2.out.new_call (bel_call (bel_call Hb4.out Hb5.out) Hb6.out) (Nat.le_refl _)).to_below (by have := (bel_call (bel_call Hb4.out Hb5.out) Hb6.out).size; omega)) ((bxHi1.out.new_call Hb6.out (Nat.le_refl _)).to_below (by have := Hb6.out.size; omega)) ((bxHi2.out.new_call Hb6.out (Nat.le_refl _)).to_below (by have := Hb6.out.size; omega)) an am bn bm).mono ?_
    rintro e w8 ⟨gA, gc, rfl, gi, hb7⟩
    have Hb7 := Lib.hid hb7
    have hs7 := hb7.size
    have gH := Lib.hid gi
    clear gi
    clear hb7
    clear cb0_0 cb0_1 cb0_2 cb0_3 cb0_4
    clear cb1_0 cb1_1 cb1_2 cb1_3 cb1_4
    clear cb2_0 cb2_1 cb2_2 cb2_3 cb2_4
    clear cb3_0 cb3_1 cb3_2 cb3_3 cb3_4
    clear cl0
    clear cl1
    clear cm0
    clear cm1
    obtain ⟨cb0_0, cb0_1, cb0_2, cb0_3, cb0_4⟩ := aHC.out.below (bel_call (bel_call (bel_call (bel_call (bel_call (bel_call (bel_call Hb0.out Hb1.out) Hb2.out) Hb3.out) Hb4.out) Hb5.out) Hb6.out) Hb7.out) alt
    obtain ⟨cb1_0, cb1_1, cb1_2, cb1_3, cb1_4⟩ := bHC.out.below (bel_call (bel_call (bel_call (bel_call (bel_call (bel_call (bel_call Hb0.out Hb1.out) Hb2.out) Hb3.out) Hb4.out) Hb5.out) Hb6.out) Hb7.out) blt
    obtain ⟨cb2_0, cb2_1, cb2_2, cb2_3, cb2_4⟩ := axHC.out.below (bel_call (bel_call Hb5.out Hb6.out) Hb7.out) axlt
    obtain ⟨cb3_0, cb3_1, cb3_2, cb3_3, cb3_4⟩ := bxHC.out.below Hb7.out bxlt
    have cl0 : w.heap.size < w8.heap.size := by have := alt; have := (bel_call (bel_call (bel_call (bel_call (bel_call (bel_call (bel_call Hb0.out Hb1.out) Hb2.out) Hb3.out) Hb4.out) Hb5.out) Hb6.out) Hb7.out).size; omega
    have cl1 : (w.heap.size + 1) < w8.heap.size := by have := blt; have := (bel_call (bel_call (bel_call (bel_call (bel_call (bel_call (bel_call Hb0.out Hb1.out) Hb2.out) Hb3.out) Hb4.out) Hb5.out) Hb6.out) Hb7.out).size; omega
    have cm0 : w4.heap.size < w8.heap.size := by have := axlt; have := (bel_call (bel_call Hb5.out Hb6.out) Hb7.out).size; omega
    have cm1 : w6.heap.size < w8.heap.size := by have := bxlt; have := Hb7.out.size; omega
    go_wp2_with fail
    refine (eqIntS_same _ _ _ _ _ _ (IntsIn.at (gH.out.to_below (Nat.le_refl _))) (IntsIn.at ((wH.out.new_call (bel_call (bel_call (bel_call (bel_call Hb3.out Hb4.out) Hb5.out) Hb6.out) Hb7.out) (Nat.le_refl _)).to_below (by have := (bel_call (bel_call (bel_call (bel_call Hb3.out Hb4.out) Hb5.out) Hb6.out) Hb7.out).size; omega))) hlen).mono ?_
    rintro e w9 ⟨rfl, q8, rfl⟩
    have hb8 : Below w8.heap.size w8 (w8.drewN q8) := bel_drewN (Below.refl _ _) _
    have Hb8 := Lib.hid hb8
    have hs8 := hb8.size
    clear hb8
    generalize w8.drewN q8 = w9 at *
    clear cb0_0 cb0_1 cb0_2 cb0_3 cb0_4
    clear cb1_0 cb1_1 cb1_2 cb1_3 cb1_4
    clear cb2_0 cb2_1 cb2_2 cb2_3 cb2_4
    clear cb3_0 cb3_1 cb3_2 cb3_3 cb3_4
    clear cl0
    clear cl1
    clear cm0
    clear cm1
    obtain ⟨cb0_0, cb0_1, cb0_2, cb0_3, cb0_4⟩ := aHC.out.below (bel_call (bel_call (bel_call (bel_call (bel_call (bel_call (bel_call (bel_call Hb0.out Hb1.out) Hb2.out) Hb3.out) Hb4.out) Hb5.out) Hb6.out) Hb7.out) Hb8.out) alt
    obtain ⟨cb1_0, cb1_1, cb1_2, cb1_3, cb1_4⟩ := bHC.out.below (bel_call (bel_call (bel_call (bel_call (bel_call (bel_call (bel_call (bel_call Hb0.out Hb1.out) Hb2.out) Hb3.out) Hb4.out) Hb5.out) Hb6.out) Hb7.out) Hb8.out) blt
    obtain ⟨cb2_0, cb2_1, cb2_2, cb2_3, cb2_4⟩ := axHC.out.below (bel_call (bel_call (bel_call Hb5.out Hb6.out) Hb7.out) Hb8.out) axlt
    obtain ⟨cb3_0, cb3_1, cb3_2, cb3_3, cb3_4⟩ := bxHC.out.below (bel_call Hb7.out Hb8.out) bxlt
    have cl0 : w.heap.size < w9.heap.size := by have := alt; have := (bel_call (bel_call (bel_call (bel_call (bel_call (bel_call (bel_call (bel_call Hb0.out Hb1.out) Hb2.out) Hb3.out) Hb4.out) Hb5.out) Hb6.out) Hb7.out) Hb8.out).size; omega
    have cl1 : (w.heap.size + 1) < w9.heap.size := by have := blt; have := (bel_call (bel_call (bel_call (bel_call (bel_call (bel_call (bel_call (bel_call Hb0.out Hb1.out) Hb2.out) Hb3.out) Hb4.out) Hb5.out) Hb6.out) Hb7.out) Hb8.out).size; omega
    have cm0 : w4.heap.size < w9.heap.size := by have := axlt; have := (bel_call (bel_call (bel_call Hb5.out Hb6.out) Hb7.out) Hb8.out).size; omega
    have cm1 : w6.heap.size < w9.heap.size := by have := bxlt; have := (bel_call Hb7.out Hb8.out).size; omega
    go_wp2_with fail
    clear cb0_0 cb0_1 cb0_2 cb0_3 cb0_4
    clear cb1_0 cb1_1 cb1_2 cb1_3 cb1_4
    clear cb2_0 cb2_1 cb2_2 cb2_3 cb2_4
    clear cb3_0 cb3_1 cb3_2 cb3_3 cb3_4
    clear cl0
    clear cl1
    clear cm0
    clear cm1
    have hC : ∀ w', Below w9.heap.size w9 w' → Cal5 w' w.heap.size af at' ad aA au.length aca aR av.length acr := fun w' hb => aHC.out.below (bel_call (bel_call (bel_call (bel_call (bel_call (bel_call (bel_call (bel_call (bel_call Hb0.out Hb1.out) Hb2.out) Hb3.out) Hb4.out) Hb5.out) Hb6.out) Hb7.out) Hb8.out) hb) alt
    have hD : ∀ w', Below w9.heap.size w9 w' → Cal5 w' w4.heap.size af at' ad (some ⟨axg, 0, none⟩) au.length au.length (some ⟨axh, 0, none⟩) av.length av.length := fun w' hb => axHC.out.below (bel_call (bel_call (bel_call (bel_call Hb5.out Hb6.out) Hb7.out) Hb8.out) hb) axlt
    unfold Cal5 at hC hD
    go_region_held3 (fun w' => Below w9.heap.size w9 w') (repeat' first | assumption | exact Nat.le_refl _ | exact Below.refl _ _ | (refine bel_drew ?_) | (refine bel_alloc ?_ _) | (refine bel_set ?_ ?_ _))
      (first
        | (go_at_call 41; refine (toCalendar_new af at' ad _ _ _ _ au av _ (aHh1.out.call (bel_call (bel_call (bel_call (bel_call (bel_call (bel_call (bel_call (bel_call (bel_call Hb0.out Hb1.out) Hb2.out) Hb3.out) Hb4.out) Hb5.out) Hb6.out) Hb7.out) Hb8.out) ‹Below w9.heap.size w9 _›)) (aHh2.out.call (bel_call (bel_call (bel_call (bel_call (bel_call (bel_call (bel_call (bel_call (bel_call Hb0.out Hb1.out) Hb2.out) Hb3.out) Hb4.out) Hb5.out) Hb6.out) Hb7.out) Hb8.out) ‹Below w9.heap.size w9 _›)) an am).mono ?_; rintro e wp ⟨mg, mh, rfl, _, mi1, mi2, hb5⟩; have hB5 := bel_call ‹Below w9.heap.size w9 _› hb5; have Mi1 := Lib.hid (mi1.to_below (Nat.le_refl _)); have Mi2 := Lib.hid (mi2.to_below (Nat.le_refl _)); clear mi1 mi2 hb5)
        | (go_at_call 43; refine (eqCalendar_sameZ af at' ad _ _ _ _ _ _ _ _ au av _ (((axHi1.out.new_call (bel_call (bel_call (bel_call (bel_call Hb4.out Hb5.out) Hb6.out) Hb7.out) Hb8.out) (Nat.le_refl _)).to_below (by have := (bel_call (bel_call (bel_call (bel_call Hb4.out Hb5.out) Hb6.out) Hb7.out) Hb8.out).size; omega)).call ‹Below w9.heap.size w9 _›) (((axHi2.out.new_call (bel_call (bel_call (bel_call (bel_call Hb4.out Hb5.out) Hb6.out) Hb7.out) Hb8.out) (Nat.le_refl _)).to_below (by have := (bel_call (bel_call (bel_call (bel_call Hb4.out Hb5.out) Hb6.out) Hb7.out) Hb8.out).size; omega)).call ‹Below w9.heap.size w9 _›) Mi1.out Mi2.out an am).mono ?_; rintro e wq ⟨rfl, hb6⟩; have hB6 := bel_call ‹Below w9.heap.size w9 wp› hb6; clear hb6))
    all_goals
      clear hC hD
      have Hb9 := Lib.hid hB6
      have hs9 := hB6.size
      clear hB6 hB5
      generalize wq = w10 at *
      obtain ⟨cb0_0, cb0_1, cb0_2, cb0_3, cb0_4⟩ := aHC.out.below (bel_call (bel_call (bel_call (bel_call (bel_call (bel_call (bel_call (bel_call (bel_call Hb0.out Hb1.out) Hb2.out) Hb3.out) Hb4.out) Hb5.out) Hb6.out) Hb7.out) Hb8.out) Hb9.out) alt
      obtain ⟨cb1_0, cb1_1, cb1_2, cb1_3, cb1_4⟩ := bHC.out.below (bel_call (bel_call (bel_call (bel_call (bel_call (bel_call (bel_call (bel_call (bel_call Hb0.out Hb1.out) Hb2.out) Hb3.out) Hb4.out) Hb5.out) Hb6.out) Hb7.out) Hb8.out) Hb9.out) blt
      obtain ⟨cb2_0, cb2_1, cb2_2, cb2_3, cb2_4⟩ := axHC.out.below (bel_call (bel_call (bel_call (bel_call Hb5.out Hb6.out) Hb7.out) Hb8.out) Hb9.out) axlt
      obtain ⟨cb3_0, cb3_1, cb3_2, cb3_3, cb3_4⟩ := bxHC.out.below (bel_call (bel_call Hb7.out Hb8.out) Hb9.out) bxlt
      have cl0 : w.heap.size < w10.heap.size := by have := alt; have := (bel_call (bel_call (bel_call (bel_call (bel_call (bel_call (bel_call (bel_call (bel_call Hb0.out Hb1.out) Hb2.out) Hb3.out) Hb4.out) Hb5.out) Hb6.out) Hb7.out) Hb8.out) Hb9.out).size; omega
      have cl1 : (w.heap.size + 1) < w10.heap.size := by have := blt; have := (bel_call (bel_call (bel_call (bel_call (bel_call (bel_call (bel_call (bel_call (bel_call Hb0.out Hb1.out) Hb2.out) Hb3.out) Hb4.out) Hb5.out) Hb6.out) Hb7.out) Hb8.out) Hb9.out).size; omega
      have cm0 : w4.heap.size < w10.heap.size := by have := axlt; have := (bel_call (bel_call (bel_call (bel_call Hb5.out Hb6.out) Hb7.out) Hb8.out) Hb9.out).size; omega
      have cm1 : w6.heap.size < w10.heap.size := by have := bxlt; have := (bel_call (bel_call Hb7.out Hb8.out) Hb9.out).size; omega
      go_wp2_with fail
      clear cb0_0 cb0_1 cb0_2 cb0_3 cb0_4
      clear cb1_0 cb1_1 cb1_2 cb1_3 cb1_4
      clear cb2_0 cb2_1 cb2_2 cb2_3 cb2_4
      clear cb3_0 cb3_1 cb3_2 cb3_3 cb3_4
      clear cl0
      clear cl1
      clear cm0
      clear cm1
      have hC : ∀ w', Below w10.heap.size w10 w' → Cal5 w' (w.heap.size + 1) bf bt' bd bA bu.length bca bR bv.length bcr := fun w' hb => bHC.out.below (bel_call (bel_call (bel_call (bel_call (bel_call (bel_call (bel_call (bel_call (bel_call (bel_call Hb0.out Hb1.out) Hb2.out) Hb3.out) Hb4.out) Hb5.out) Hb6.out) Hb7.out) Hb8.out) Hb9.out) hb) blt
      have hD : ∀ w', Below w10.heap.size w10 w' → Cal5 w' w6.heap.size bf bt' bd (some ⟨bxg, 0, none⟩) bu.length bu.length (some ⟨bxh, 0, none⟩) bv.length bv.length := fun w' hb => bxHC.out.below (bel_call (bel_call (bel_call Hb7.out Hb8.out) Hb9.out) hb) bxlt
      unfold Cal5 at hC hD
      go_region_held3 (fun w' => Below w10.heap.size w10 w') (repeat' first | assumption | exact Nat.le_refl _ | exact Below.refl _ _ | (refine bel_drew ?_) | (refine bel_alloc ?_ _) | (refine bel_set ?_ ?_ _))
        (first
          | (go_at_call 41; refine (toCalendar_new bf bt' bd _ _ _ _ bu bv _ (bHh1.out.call (bel_call (bel_call (bel_call (bel_call (bel_call (bel_call (bel_call (bel_call (bel_call (bel_call Hb0.out Hb1.out) Hb2.out) Hb3.out) Hb4.out) Hb5.out) Hb6.out) Hb7.out) Hb8.out) Hb9.out) ‹Below w10.heap.size w10 _›)) (bHh2.out.call (bel_call (bel_call (bel_call (bel_call (bel_call (bel_call (bel_call (bel_call (bel_call (bel_call Hb0.out Hb1.out) Hb2.out) Hb3.out) Hb4.out) Hb5.out) Hb6.out) Hb7.out) Hb8.out) Hb9.out) ‹Below w10.heap.size w10 _›)) bn bm).mono ?_; rintro e wp ⟨mg, mh, rfl, _, mi1, mi2, hb5⟩; have hB5 := bel_call ‹Below w10.heap.size w10 _› hb5; have Mi1 := Lib.hid (mi1.to_below (Nat.le_refl _)); have Mi2 := Lib.hid (mi2.to_below (Nat.le_refl _)); clear mi1 mi2 hb5)
          | (go_at_call 43; refine (eqCalendar_sameZ bf bt' bd _ _ _ _ _ _ _ _ bu bv _ (((bxHi1.out.new_call (bel_call (bel_call (bel_call Hb6.out Hb7.out) Hb8.out) Hb9.out) (Nat.le_refl _)).to_below (by have := (bel_call (bel_call (bel_call Hb6.out Hb7.out) Hb8.out) Hb9.out).size; omega)).call ‹Below w10.heap.size w10 _›) (((bxHi2.out.new_call (bel_call (bel_call (bel_call Hb6.out Hb7.out) Hb8.out) Hb9.out) (Nat.le_refl _)).to_below (by have := (bel_call (bel_call (bel_call Hb6.out Hb7.out) Hb8.out) Hb9.out).size; omega)).call ‹Below w10.heap.size w10 _›) Mi1.out Mi2.out bn bm).mono ?_; rintro e wq ⟨rfl, hb6⟩; have hB6 := bel_call ‹Below w10.heap.size w10 wp› hb6; clear hb6))
      all_goals
        clear hC hD
        have Hb10 := Lib.hid hB6
        have hs10 := hB6.size
        clear hB6 hB5
        generalize wq = w11 at *
        obtain ⟨cb0_0, cb0_1, cb0_2, cb0_3, cb0_4⟩ := aHC.out.below (bel_call (bel_call (bel_call (bel_call (bel_call (bel_call (bel_call (bel_call (bel_call (bel_call Hb0.out Hb1.out) Hb2.out) Hb3.out) Hb4.out) Hb5.out) Hb6.out) Hb7.out) Hb8.out) Hb9.out) Hb10.out) alt
        obtain ⟨cb1_0, cb1_1, cb1_2, cb1_3, cb1_4⟩ := bHC.out.below (bel_call (bel_call (bel_call (bel_call (bel_call (bel_call (bel_call (bel_call (bel_call (bel_call Hb0.out Hb1.out) Hb2.out) Hb3.out) Hb4.out) Hb5.out) Hb6.out) Hb7.out) Hb8.out) Hb9.out) Hb10.out) blt
        obtain ⟨cb2_0, cb2_1, cb2_2, cb2_3, cb2_4⟩ := axHC.out.below (bel_call (bel_call (bel_call (bel_call (bel_call Hb5.out Hb6.out) Hb7.out) Hb8.out) Hb9.out) Hb10.out) axlt
        obtain ⟨cb3_0, cb3_1, cb3_2, cb3_3, cb3_4⟩ := bxHC.out.below (bel_call (bel_call (bel_call Hb7.out Hb8.out) Hb9.out) Hb10.out) bxlt
        have cl0 : w.heap.size < w11.heap.size := by have := alt; have := (bel_call (bel_call (bel_call (bel_call (bel_call (bel_call (bel_call (bel_call (bel_call (bel_call Hb0.out Hb1.out) Hb2.out) Hb3.out) Hb4.out) Hb5.out) Hb6.out) Hb7.out) Hb8.out) Hb9.out) Hb10.out).size; omega
        have cl1 : (w.heap.size + 1) < w11.heap.size := by have := blt; have := (bel_call (bel_call (bel_call (bel_call (bel_call (bel_call (bel_call (bel_call (bel_call (bel_call Hb0.out Hb1.out) Hb2.out) Hb3.out) Hb4.out) Hb5.out) Hb6.out) Hb7.out) Hb8.out) Hb9.out) Hb10.out).size; omega
        have cm0 : w4.heap.size < w11.heap.size := by have := axlt; have := (bel_call (bel_call (bel_call (bel_call (bel_call Hb5.out Hb6.out) Hb7.out) Hb8.out) Hb9.out) Hb10.out).size; omega
        have cm1 : w6.heap.size < w11.heap.size := by have := bxlt; have := (bel_call (bel_call (bel_call Hb7.out Hb8.out) Hb9.out) Hb10.out).size; omega
        have hw0 := HB0.out.size
        go_wp2_with fail
        have hmk := markCalendar_any w3.heap.size w4.heap.size af at' ad _ _ au.length av.length au av 1 _ (axHi1.out.new_call (bel_call (bel_call (bel_call (bel_call (bel_call (bel_call Hb4.out Hb5.out) Hb6.out) Hb7.out) Hb8.out) Hb9.out) Hb10.out) (Nat.le_refl _)) (axHi2.out.new_call (bel_call (bel_call (bel_call (bel_call (bel_call (bel_call Hb4.out Hb5.out) Hb6.out) Hb7.out) Hb8.out) Hb9.out) Hb10.out) (Nat.le_refl _)) (by have := (bel_call (bel_call (bel_call (bel_call (bel_call (bel_call Hb4.out Hb5.out) Hb6.out) Hb7.out) Hb8.out) Hb9.out) Hb10.out).size; omega) an am (by omega)
        push_cast at hmk
        refine hmk.mono ?_
        rintro e w12 ⟨rfl, hm11⟩
        clear hmk
        have HB12 : Hid (Below w.heap.size w w12) := Lib.hid ((bel_of HB0.out (by have := HB0.out.size; omega) (bel_call (bel_call (bel_call (bel_call (bel_call (bel_call (bel_call (bel_call (bel_call (bel_call Hb0.out Hb1.out) Hb2.out) Hb3.out) Hb4.out) Hb5.out) Hb6.out) Hb7.out) Hb8.out) Hb9.out) Hb10.out)).trans ((hm11.below (by have := (bel_call (bel_call (bel_call (bel_call (bel_call (bel_call (bel_call Hb3.out Hb4.out) Hb5.out) Hb6.out) Hb7.out) Hb8.out) Hb9.out) Hb10.out).size; omega)).mono (by have := HB0.out.size; have := (bel_call (bel_call Hb0.out Hb1.out) Hb2.out).size; omega)))
        have HA12 : Hid (Below w0.heap.size w0 w12) := Lib.hid ((bel_call (bel_call (bel_call (bel_call (bel_call (bel_call (bel_call (bel_call (bel_call (bel_call Hb0.out Hb1.out) Hb2.out) Hb3.out) Hb4.out) Hb5.out) Hb6.out) Hb7.out) Hb8.out) Hb9.out) Hb10.out).trans ((hm11.below (by have := (bel_call (bel_call (bel_call (bel_call (bel_call (bel_call (bel_call Hb3.out Hb4.out) Hb5.out) Hb6.out) Hb7.out) Hb8.out) Hb9.out) Hb10.out).size; omega)).mono (bel_call (bel_call Hb0.out Hb1.out) Hb2.out).size))
        have wH12 := Lib.hid ((wH.out.new_call (bel_call (bel_call (bel_call (bel_call (bel_call (bel_call (bel_call Hb3.out Hb4.out) Hb5.out) Hb6.out) Hb7.out) Hb8.out) Hb9.out) Hb10.out) (Nat.le_refl _)).keep fun c hc => hm11.same (.inl (by have := hc.2; have := (Below.refl w3.heap.size w3).size; omega)) (by have := hc.2; have := (bel_call (bel_call (bel_call (bel_call (bel_call (bel_call (bel_call Hb3.out Hb4.out) Hb5.out) Hb6.out) Hb7.out) Hb8.out) Hb9.out) Hb10.out).size; omega))
        have gH12 := Lib.hid ((gH.out.new_call (bel_call (bel_call Hb8.out Hb9.out) Hb10.out) (Nat.le_refl _)).keep fun c hc => hm11.same (.inr (by have := hc.1; have := (bel_call (bel_call Hb4.out Hb5.out) Hb6.out).size; omega)) (by have := hc.2; have := (bel_call (bel_call Hb8.out Hb9.out) Hb10.out).size; omega))
        have bM12_0 := Lib.hid ((bxHi1.out.new_call (bel_call (bel_call (bel_call (bel_call Hb6.out Hb7.out) Hb8.out) Hb9.out) Hb10.out) (Nat.le_refl _)).keep fun c hc => hm11.same (.inr (by have := hc.1; have := Hb4.out.size; omega)) (by have := hc.2; have := (bel_call (bel_call (bel_call (bel_call Hb6.out Hb7.out) Hb8.out) Hb9.out) Hb10.out).size; omega))
        have bM12_1 := Lib.hid ((bxHi2.out.new_call (bel_call (bel_call (bel_call (bel_call Hb6.out Hb7.out) Hb8.out) Hb9.out) Hb10.out) (Nat.le_refl _)).keep fun c hc => hm11.same (.inr (by have := hc.1; have := Hb4.out.size; omega)) (by have := hc.2; have := (bel_call (bel_call (bel_call (bel_call Hb6.out Hb7.out) Hb8.out) Hb9.out) Hb10.out).size; omega))
        have bB12 : Hid (Cal5 w12 w6.heap.size bf bt' bd (some ⟨bxg, 0, none⟩) bu.length bu.length (some ⟨bxh, 0, none⟩) bv.length bv.length) := Lib.hid (by have hcc := (bxHC.out.below (bel_call (bel_call (bel_call Hb7.out Hb8.out) Hb9.out) Hb10.out) bxlt); have := (bel_call Hb4.out Hb5.out).size; have := (bel_call (bel_call (bel_call (bel_call Hb6.out Hb7.out) Hb8.out) Hb9.out) Hb10.out).size; have := bxlt; have := (bel_call (bel_call (bel_call Hb7.out Hb8.out) Hb9.out) Hb10.out).size; unfold Cal5 at hcc ⊢; simp only [(hm11.same (b := w6.heap.size) (.inr (by omega)) (by omega) _).1]; exact hcc)
        have hsz11 := hm11.size
        skip
        clear hm11
        skip
        clear cb0_0 cb0_1 cb0_2 cb0_3 cb0_4
        clear cb1_0 cb1_1 cb1_2 cb1_3 cb1_4
        clear cb2_0 cb2_1 cb2_2 cb2_3 cb2_4
        clear cb3_0 cb3_1 cb3_2 cb3_3 cb3_4
        clear cl0
        clear cl1
        clear cm0
        clear cm1
        obtain ⟨cxb_0, cxb_1, cxb_2, cxb_3, cxb_4⟩ := bB12.out
        go_wp2_with fail
        have hmk := markCalendar_any w5.heap.size w6.heap.size bf bt' bd _ _ bu.length bv.length bu bv (1 + (au.length + av.length)) _ bM12_0.out bM12_1.out (by have := (bel_call (bel_call (bel_call (bel_call Hb6.out Hb7.out) Hb8.out) Hb9.out) Hb10.out).size; omega) bn bm (by omega)
        push_cast at hmk
        refine hmk.mono ?_
        rintro e w13 ⟨rfl, hm12⟩
        clear hmk
        have HB13 : Hid (Below w.heap.size w w13) := Lib.hid (HB12.out.trans ((hm12.below (by have := (bel_call (bel_call (bel_call (bel_call (bel_call Hb5.out Hb6.out) Hb7.out) Hb8.out) Hb9.out) Hb10.out).size; omega)).mono (by have := HB0.out.size; have := (bel_call (bel_call (bel_call (bel_call Hb0.out Hb1.out) Hb2.out) Hb3.out) Hb4.out).size; omega)))
        have HA13 : Hid (Below w0.heap.size w0 w13) := Lib.hid (HA12.out.trans ((hm12.below (by have := (bel_call (bel_call (bel_call (bel_call (bel_call Hb5.out Hb6.out) Hb7.out) Hb8.out) Hb9.out) Hb10.out).size; omega)).mono (bel_call (bel_call (bel_call (bel_call Hb0.out Hb1.out) Hb2.out) Hb3.out) Hb4.out).size))
        have wH13 := Lib.hid (wH12.out.keep fun c hc => hm12.same (.inl (by have := hc.2; have := (bel_call Hb3.out Hb4.out).size; omega)) (by have := hc.2; have := (bel_call (bel_call (bel_call (bel_call (bel_call (bel_call (bel_call Hb3.out Hb4.out) Hb5.out) Hb6.out) Hb7.out) Hb8.out) Hb9.out) Hb10.out).size; omega))
        have gH13 := Lib.hid (gH12.out.keep fun c hc => hm12.same (.inr (by have := hc.1; have := Hb6.out.size; omega)) (by have := hc.2; have := (bel_call (bel_call Hb8.out Hb9.out) Hb10.out).size; omega))
        have hsz12 := hm12.size
        skip
        clear hm12
        skip
        clear cxb_0 cxb_1 cxb_2 cxb_3 cxb_4
        have hkk : decide ((1 : Int) + ((au.length + av.length : Nat) : Int) + ((bu.length + bv.length : Nat) : Int) < 0) = false := by simp; omega
        push_cast at hkk
        obtain ⟨cb0_0, cb0_1, cb0_2, cb0_3, cb0_4⟩ := aHC.out.below HA13.out alt
        obtain ⟨cb1_0, cb1_1, cb1_2, cb1_3, cb1_4⟩ := bHC.out.below HA13.out blt
        go_wp2_with fail
        refine (eqIntS_same _ _ _ _ _ _ (IntsIn.at (gH13.out.to_below (by have := (bel_call (bel_call Hb8.out Hb9.out) Hb10.out).size; omega))) (IntsIn.at (wH13.out.to_below (by have := (bel_call (bel_call (bel_call (bel_call (bel_call (bel_call (bel_call Hb3.out Hb4.out) Hb5.out) Hb6.out) Hb7.out) Hb8.out) Hb9.out) Hb10.out).size; omega))) hlen).mono ?_
        rintro e w14 ⟨rfl, q13, rfl⟩
        go_wp2_with fail
        have hmm := markIntS_any w7.heap.size w8.heap.size gA gc _ 1 (w13.drewN q13) (Sl.keep (w' := w13.drewN q13) gH13.out (fun c _ o => ⟨rfl, rfl⟩)) hlen (by omega)
        push_cast at hmm
        refine hmm.mono ?_
        rintro e w14 ⟨rfl, hm, gi3⟩
        have GH := Lib.hid gi3
        have HBn : Hid (Below w.heap.size w w14) := Lib.hid ((bel_drewN HB13.out q13).trans ((hm.below (by show _ ≤ w13.heap.size; have := (bel_call (bel_call (bel_call Hb7.out Hb8.out) Hb9.out) Hb10.out).size; omega)).mono (by have := HB0.out.size; have := (bel_call (bel_call (bel_call (bel_call (bel_call (bel_call Hb0.out Hb1.out) Hb2.out) Hb3.out) Hb4.out) Hb5.out) Hb6.out).size; omega)))
        have HAn : Hid (Below w0.heap.size w0 w14) := Lib.hid ((bel_drewN HA13.out q13).trans ((hm.below (by show _ ≤ w13.heap.size; have := (bel_call (bel_call (bel_call Hb7.out Hb8.out) Hb9.out) Hb10.out).size; omega)).mono (by have := (bel_call (bel_call (bel_call (bel_call (bel_call (bel_call Hb0.out Hb1.out) Hb2.out) Hb3.out) Hb4.out) Hb5.out) Hb6.out).size; omega)))
        have WH := Lib.hid ((Sl.keep (w' := w13.drewN q13) wH13.out (fun c _ o => ⟨rfl, rfl⟩)).keep fun c hc => hm.same (.inl (by have := hc.2; have := (bel_call (bel_call (bel_call Hb3.out Hb4.out) Hb5.out) Hb6.out).size; omega)) (by show _ < w13.heap.size; have := hc.2; have := (bel_call (bel_call (bel_call (bel_call (bel_call (bel_call (bel_call Hb3.out Hb4.out) Hb5.out) Hb6.out) Hb7.out) Hb8.out) Hb9.out) Hb10.out).size; omega))
        have hsn : w13.heap.size ≤ w14.heap.size := hm.size
        clear hm gi3 hmm
        have hkr : decide ((1 : Int) + ((cdI af at' ad au av bf bt' bd bu bv).length : Nat) < 0) = false := by simp; omega
        clear cb0_0 cb0_1 cb0_2 cb0_3 cb0_4
        clear cb1_0 cb1_1 cb1_2 cb1_3 cb1_4
        obtain ⟨cb0_0, cb0_1, cb0_2, cb0_3, cb0_4⟩ := aHC.out.below HAn.out alt
        obtain ⟨cb1_0, cb1_1, cb1_2, cb1_3, cb1_4⟩ := bHC.out.below HAn.out blt
        go_wp2_with fail
        have hhd := heldIntS_any gA gc _ 1 w14 _ GH.out hlen (by omega)
        push_cast at hhd
        refine hhd.mono ?_
        rintro e w15 ⟨rfl, rfl⟩
        clear hhd
        obtain ⟨y0, hy0⟩ : ∃ y0, y0 = w14 := ⟨_, rfl⟩
        clear hy0
        go_wp2_with fail
        clear cb0_0 cb0_1 cb0_2 cb0_3 cb0_4
        clear cb1_0 cb1_1 cb1_2 cb1_3 cb1_4
        have hC0 : ∀ w', Below w14.heap.size w14 w' → Cal5 w' w.heap.size af at' ad aA au.length aca aR av.length acr := fun w' hb => aHC.out.below (bel_call HAn.out hb) alt
        unfold Cal5 at hC0
        have hC1 : ∀ w', Below w14.heap.size w14 w' → Cal5 w' (w.heap.size + 1) bf bt' bd bA bu.length bca bR bv.length bcr := fun w' hb => bHC.out.below (bel_call HAn.out hb) blt
        unfold Cal5 at hC1
        go_region_held3 (fun w' => Below w14.heap.size w14 w') (repeat' first | assumption | exact Nat.le_refl _ | exact Below.refl _ _ | (refine bel_drew ?_) | (refine bel_alloc ?_ _) | (refine bel_set ?_ ?_ _))
          (first
            | (go_at_call 41; (with_reducible refine (toCalendar_new af at' ad _ _ _ _ au av _ (aHh1.out.call (bel_call HAn.out ‹Below w14.heap.size w14 _›)) (aHh2.out.call (bel_call HAn.out ‹Below w14.heap.size w14 _›)) an am).mono ?_); rintro e wp ⟨ayg, ayh, rfl, _, ayi1, ayi2, hb5⟩; have hB5 := bel_call ‹Below w14.heap.size w14 _› hb5; have ayHi1 := Lib.hid (ayi1.to_below (Nat.le_refl _)); have ayHi2 := Lib.hid (ayi2.to_below (Nat.le_refl _)); clear ayi1 ayi2 hb5)
            | (go_at_call 41; (with_reducible refine (toCalendar_new bf bt' bd _ _ _ _ bu bv _ (bHh1.out.call (bel_call HAn.out ‹Below w14.heap.size w14 _›)) (bHh2.out.call (bel_call HAn.out ‹Below w14.heap.size w14 _›)) bn bm).mono ?_); rintro e wp ⟨byg, byh, rfl, _, byi1, byi2, hb5⟩; have hB5 := bel_call ‹Below w14.heap.size w14 _› hb5; have ayHi1n := Lib.hid (ayHi1.out.call hb5); have ayHi2n := Lib.hid (ayHi2.out.call hb5); have byHi1 := Lib.hid (byi1.to_below (Nat.le_refl _)); have byHi2 := Lib.hid (byi2.to_below (Nat.le_refl _)); clear byi1 byi2 hb5)
            | (go_at_call 42; refine (implCommonDays_any af at' ad _ _ _ _ au av bf bt' bd _ _ _ _ bu bv _ ayHi1n.out ayHi2n.out byHi1.out byHi2.out an am bn bm).mono ?_; rintro e y2 ⟨hA, hc, rfl, hi, hb6⟩; have hB6 := bel_call ‹Below w14.heap.size w14 wp› hb6; have hH := Lib.hid (hi.to_below (Nat.le_refl _)); clear hi hb6))
        all_goals
          clear hC0 hC1
          have Hy2 := Lib.hid hB6
          have hys2 := hB6.size
          clear hB6
          go_wp2_with fail
          refine (eqIntS_same _ _ _ _ _ _ (IntsIn.at hH.out) (IntsIn.at ((WH.out.new_call Hy2.out (by have := (bel_call (bel_call (bel_call (bel_call (bel_call (bel_call (bel_call Hb3.out Hb4.out) Hb5.out) Hb6.out) Hb7.out) Hb8.out) Hb9.out) Hb10.out).size; omega)).to_below (by have := (bel_call (bel_call (bel_call (bel_call (bel_call (bel_call (bel_call Hb3.out Hb4.out) Hb5.out) Hb6.out) Hb7.out) Hb8.out) Hb9.out) Hb10.out).size; omega))) hlen).mono ?_
          rintro e y3 ⟨rfl, qy, rfl⟩
          go_wp2_with fail
          have hhd := heldIntS_any gA gc _ 1 (y2.drewN qy) _ (Sl.keep (w' := y2.drewN qy) (GH.out.new_call Hy2.out (by have := (bel_call (bel_call Hb8.out Hb9.out) Hb10.out).size; omega)) (fun c _ o => ⟨rfl, rfl⟩)) hlen (by omega)
          push_cast at hhd
          refine hhd.mono ?_
          rintro e y4 ⟨rfl, rfl⟩
          clear hhd
          go_wp2_with fail
          go_ret
          exact ⟨rfl, bel_drewN (bel_of HBn.out (by have := HBn.out.size; omega) Hy2.out) _⟩

end Go.Proofs.Ytbneigkgdjcnjaa
