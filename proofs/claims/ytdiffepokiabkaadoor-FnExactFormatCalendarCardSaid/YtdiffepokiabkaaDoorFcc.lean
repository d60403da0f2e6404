/- The text of a calendar: the program. -/
import Derived.Test.YtdiffepokiabkaaDoorFcb
import Derived.Test.YtdiffepokiabkaaDoorBld
import Derived.Test.YtdiffepokiabkaaDoorFmc
namespace Go.Proofs.YtdiffepokiabkaaDoor
open Go.ChangeShapes Go.WideShapes Go.ChangeAt Go.RowKit Go.PlainAid
set_option linter.unusedVariables false
set_option linter.unusedSimpArgs false

theorem empty_add (a : ByteArray) : (⟨#[]⟩ : ByteArray) ++ a = a := by
  apply ByteArray.ext
  rw [ByteArray.data_append]
  simp
theorem wk_get {k : Nat} (h : k < 7) : (⟨#[109, 116, 119, 116, 102, 115, 115]⟩ : ByteArray)[k]'h = wkC k := by
  have h2 : ∀ j : Fin 7, (⟨#[109, 116, 119, 116, 102, 115, 115]⟩ : ByteArray)[j.1]'j.2 = wkC j.1 := by decide +kernel
  exact h2 ⟨k, h⟩

set_option maxRecDepth 100000 in
set_option maxHeartbeats 4000000 in
theorem formatCalendar_any (f tt d : Int) (A R : Option Addr) (ca cr : Nat) (us vs : List Int) (w : World) (h1 : IntsIn w (Zone.below w.heap.size) A us) (h2 : IntsIn w (Zone.below w.heap.size) R vs) (g : calB f tt d us vs = true) (HT0 : Pow10 w) :
    Calls Tryd.prog 45 #[.agg #[.int .i64 f, .int .i64 tt, .int .i64 d, .slice A us.length ca, .slice R vs.length cr]] w fun e w' => e = .returned (.string (calT f tt d us vs)) ∧ Below w.heap.size w w' := by
  have gk : CalOk f tt d us vs := of_decide_eq_true g
  obtain ⟨⟨f0, f1, f2, d0, d1, n1, n2⟩, hu, hv, _, _⟩ := gk
  have HU : Hid (∀ k, k < us.length → 0 ≤ nth us k ∧ nth us k ≤ 3650) := Lib.hid (fun k hk => by have := (hu k hk).1; omega)
  have HV : Hid (∀ k, k < vs.length → 0 ≤ nth vs k ∧ nth vs k ≤ 3650) := Lib.hid (fun k hk => by have := (hv k hk).1; omega)
  have HQ0 : Hid (CalBox w (w.alloc (.cells #[.int .i64 f, .int .i64 tt, .int .i64 d, .slice A us.length ca, .slice R vs.length cr] 44)) w.heap.size f tt d us vs A ca R cr) := Lib.hid (CalBox.box h1 h2)
  have HT := Lib.hid HT0
  have z1 : (⟨#[32]⟩ : ByteArray).size = 1 := rfl
  have z2 : (⟨#[45]⟩ : ByteArray).size = 1 := rfl
  have z3 : (⟨#[46]⟩ : ByteArray).size = 1 := rfl
  have z4 : (⟨#[32, 43]⟩ : ByteArray).size = 2 := rfl
  have z5 : (⟨#[32, 45]⟩ : ByteArray).size = 2 := rfl
  have sf := num_day (n := f) (by omega) (by omega)
  have st := num_day (n := tt) (by omega) (by omega)
  have hhd := hdT_size (f := f) (t := tt) (by omega) (by omega) (by omega) (by omega)
  have hdy := dyT_size d (hdT f tt) 7
  have hd2 := (dlT_size (p := ⟨#[32, 43]⟩) (xs := us) (s := dyT d (hdT f tt) 7) rfl HU.out us.length (Nat.le_refl _)).2
  have hd3 := dlT_size (p := ⟨#[32, 45]⟩) (xs := vs) (s := dlT ⟨#[32, 43]⟩ us (dyT d (hdT f tt) 7) us.length) rfl HV.out vs.length (Nat.le_refl _)
  have hd4 := (dlT_size (p := ⟨#[32, 43]⟩) (xs := us) (s := dyT d (hdT f tt) 7) rfl HU.out us.length (Nat.le_refl _)).1
  have hz0 : (w.alloc (.cells #[.int .i64 f, .int .i64 tt, .int .i64 d, .slice A us.length ca, .slice R vs.length cr] 44)).heap.size = w.heap.size + 1 := by simp
  have BD0 : Hid (BldS (w.alloc (.cells #[.int .i64 f, .int .i64 tt, .int .i64 d, .slice A us.length ca, .slice R vs.length cr] 44)).heap.size (w.alloc (.cells #[.int .i64 f, .int .i64 tt, .int .i64 d, .slice A us.length ca, .slice R vs.length cr] 44)).heap.size ⟨#[]⟩ ((w.alloc (.cells #[.int .i64 f, .int .i64 tt, .int .i64 d, .slice A us.length ca, .slice R vs.length cr] 44)).alloc (.cells #[.pointer none, .slice none 0 0] 106))) := Lib.hid (Lib.fresh_isBuilder 106 5 (w.alloc (.cells #[.int .i64 f, .int .i64 tt, .int .i64 d, .slice A us.length ca, .slice R vs.length cr] 44)))
  have hb1 : Below (w.alloc (.cells #[.int .i64 f, .int .i64 tt, .int .i64 d, .slice A us.length ca, .slice R vs.length cr] 44)).heap.size (w.alloc (.cells #[.int .i64 f, .int .i64 tt, .int .i64 d, .slice A us.length ca, .slice R vs.length cr] 44)) ((w.alloc (.cells #[.int .i64 f, .int .i64 tt, .int .i64 d, .slice A us.length ca, .slice R vs.length cr] 44)).alloc (.cells #[.pointer none, .slice none 0 0] 106)) := by go_grown
  have HQ1 : Hid (CalBox w ((w.alloc (.cells #[.int .i64 f, .int .i64 tt, .int .i64 d, .slice A us.length ca, .slice R vs.length cr] 44)).alloc (.cells #[.pointer none, .slice none 0 0] 106)) w.heap.size f tt d us vs A ca R cr) := Lib.hid (HQ0.out.call hb1)
  have hz1 : w.heap.size + 1 ≤ ((w.alloc (.cells #[.int .i64 f, .int .i64 tt, .int .i64 d, .slice A us.length ca, .slice R vs.length cr] 44)).alloc (.cells #[.pointer none, .slice none 0 0] 106)).heap.size := by simp
  have hgt1 : w.heap.size < w.heap.size + 1 := by omega
  rw [hz0] at BD0 hb1
  clear h1 h2 g hu hv HT0 hb1
  go_enter Tryd.func45, Tryd.ntmps45
  go_wp2_with fail
  generalize ((w.alloc (.cells #[.int .i64 f, .int .i64 tt, .int .i64 d, .slice A us.length ca, .slice R vs.length cr] 44)).alloc (.cells #[.pointer none, .slice none 0 0] 106)) = w1 at *
  clear hz0 HQ0
  have hC : ∀ w', Below (w.heap.size + 1) w1 w' → Cal5 w' w.heap.size f tt d A us.length ca R vs.length cr := fun w' h => (HQ1.out.callB h hgt1).cells
  unfold Cal5 at hC
  have p1 : ¬ 9223372036854775807 < (bs (num f)).size + 1 := by omega
  have p2 : ¬ 9223372036854775807 < (bs (num f)).size + 1 + (bs (num tt)).size := by omega
  have p3 : ¬ 9223372036854775807 < (bs (num f)).size + 1 + (bs (num tt)).size + 1 := by omega
  have q3 : (⟨#[]⟩ : ByteArray).size + (bs (num f) ++ ⟨#[45]⟩ ++ bs (num tt) ++ ⟨#[32]⟩).size ≤ 140737488355328 := by
    have e0 : (⟨#[]⟩ : ByteArray).size = 0 := rfl
    simp only [ByteArray.size_append, z1, z2, e0]; omega
  have Q3 := Lib.hid q3
  clear q3
  go_region_held3 (fun w' => Below (w.heap.size + 1) w1 w') (repeat' first | assumption | exact Below.refl _ _ | (with_reducible refine Below.drew ?_) | (with_reducible refine bel_drewN ?_ _))
    (first
      | (go_at_call 79; (with_reducible refine (itoa_any f _ (by omega) (by omega) (HT.out.call (HQ1.out.callB ‹Below (w.heap.size + 1) w1 _› hgt1).bel)).mono ?_); rintro e w5 ⟨rfl, hb5⟩; have hS5 : Below w1.heap.size w1 w5 := bel_call (by first | assumption | exact Below.refl _ _ | exact (Below.refl _ _).drew | exact (Below.refl _ _).drew.drew) hb5; have hB5 : Below (w.heap.size + 1) w1 w5 := hS5.mono hz1; clear hb5)
      | (go_at_call 79; (with_reducible refine (itoa_any tt _ (by omega) (by omega) (HT.out.call (HQ1.out.callB ‹Below (w.heap.size + 1) w1 _› hgt1).bel)).mono ?_); rintro e w5 ⟨rfl, hb5⟩; have hS5 : Below w1.heap.size w1 w5 := bel_call (by first | assumption | exact Below.refl _ _ | exact (Below.refl _ _).drew | exact (Below.refl _ _).drew.drew) hb5; have hB5 : Below (w.heap.size + 1) w1 w5 := hS5.mono hz1; clear hb5)
      | (go_at_call 78; have hw := writeString_any (w.heap.size + 1) (w.heap.size + 1) ⟨#[]⟩ _ w5 (BD0.out.call ‹Below w1.heap.size w1 w5›) Q3.out (Nat.le_trans hz1 (‹Below w1.heap.size w1 w5› : Below w1.heap.size w1 w5).size); ((with_reducible refine hw.mono ?_); rintro e w6 ⟨rfl, hbd6, hb6, _⟩; clear hw; have hB6 : Below (w.heap.size + 1) w1 w6 := (‹Below (w.heap.size + 1) w1 w5›).trans hb6; clear hb6)))
  all_goals
    have J0 : Hid ((⟨#[]⟩ : ByteArray) ++ (bs (num f) ++ ⟨#[45]⟩ ++ bs (num tt) ++ ⟨#[32]⟩) = dyT d (hdT f tt) 0) := Lib.hid (by rw [empty_add]; rfl)
    rw [J0.out] at hbd6
    have BD := Lib.hid hbd6
    have HB := Lib.hid hB6
    clear hC hbd6 hB6 p1 p2 p3 Q3
    have J1 : Hid (dyT d (hdT f tt) 7 = dlT ⟨#[32, 43]⟩ us (dyT d (hdT f tt) 7) 0) := Lib.hid rfl
    have J2 : Hid (dlT ⟨#[32, 43]⟩ us (dyT d (hdT f tt) 7) us.length = dlT ⟨#[32, 45]⟩ vs (dlT ⟨#[32, 43]⟩ us (dyT d (hdT f tt) 7) us.length) 0) := Lib.hid rfl
    have J3 : Hid (calT f tt d us vs = dlT ⟨#[32, 45]⟩ vs (dlT ⟨#[32, 43]⟩ us (dyT d (hdT f tt) 7) us.length) vs.length) := Lib.hid rfl
    clear hS5 hB5
    go_wp2_with fail
    go_loopw [4, 19] (fun _ j wr => ∃ k : Nat, k ≤ 7 ∧ j = .int .i64 k ∧ BldS (w.heap.size + 1) (w.heap.size + 1) (dyT d (hdT f tt) k) wr ∧ Below (w.heap.size + 1) w1 wr) (fun _ j _ => 7 - (intOf j).toNat)
    case atStart => exact ⟨0, Nat.zero_le _, rfl, BD.out, HB.out⟩
    case round =>
      obtain ⟨k, hk, rfl, hbd, hb⟩ := hrel
      have HB := Lib.hid hb
      have HQ := Lib.hid (HQ1.out.callB hb hgt1)
      have BD := Lib.hid hbd
      have hz := Nat.le_trans hz1 hb.size
      clear hb hbd
      have hss := dyT_size d (hdT f tt) k
      obtain ⟨c0, c1, c2, c3, c4⟩ := HQ.out.cells
      by_cases hlt : k < 7
      · have hk7 : (k : Int) < 7 := by omega
        have hbit : (bits BinOp.and IntKind.i64 (d / 2 ^ k) 1 == 1) = wdB d k := by unfold wdB; rw [show ((k : Int) % 7).toNat = k by omega]
        cases hw : wdB d k
        · have HS : Hid (dyT d (hdT f tt) k ++ ⟨#[46]⟩ = dyT d (hdT f tt) (k + 1)) := Lib.hid (by rw [dyT, dyC, hw]; rfl)
          rw [hw] at hbit
          generalize hsk : dyT d (hdT f tt) k = s at *
          clear hsk hw
          go_wp2_with fail
          have hww := writeByte_any (w.heap.size + 1) (w.heap.size + 1) s 46 wr BD.out (by omega) hz
          refine hww.mono ?_
          rintro e w6 ⟨rfl, hbd6, hb6, _⟩
          clear hww
          rw [HS.out] at hbd6
          have BD6 := Lib.hid hbd6
          have HB6 := Lib.hid (HB.out.trans hb6)
          clear hbd6 hb6 c0 c1 c2 c3 c4
          go_wp2_with fail
          go_roundw
          case rel => exact ⟨k + 1, by omega, by go_num, BD6.out, HB6.out⟩
          case measure => simp [intOf]; omega
        · have HS : Hid (dyT d (hdT f tt) k ++ ⟨#[wkC k]⟩ = dyT d (hdT f tt) (k + 1)) := Lib.hid (by rw [dyT, dyC, hw]; rfl)
          rw [hw] at hbit
          generalize hsk : dyT d (hdT f tt) k = s at *
          have HE := wk_get hlt
          clear hsk hw
          have zl : (⟨#[109, 116, 119, 116, 102, 115, 115]⟩ : ByteArray).size = 7 := rfl
          go_wp2_with fail
          have hww := writeByte_any (w.heap.size + 1) (w.heap.size + 1) s (wkC k) wr BD.out (by omega) hz
          refine hww.mono ?_
          rintro e w6 ⟨rfl, hbd6, hb6, _⟩
          clear hww
          rw [HS.out] at hbd6
          have BD6 := Lib.hid hbd6
          have HB6 := Lib.hid (HB.out.trans hb6)
          clear hbd6 hb6 c0 c1 c2 c3 c4
          go_wp2_with fail
          go_roundw
          case rel => exact ⟨k + 1, by omega, by go_num, BD6.out, HB6.out⟩
          case measure => simp [intOf]; omega
      · have hk7 : ¬ (k : Int) < 7 := by omega
        have HK : Hid (k = 7) := Lib.hid (by omega)
        clear hlt
        rw [HK.out, J1.out] at BD
        go_wp2_with fail
        clear c0 c1 c2 c3 c4
        clear hss
        obtain ⟨c0, c1, c2, c3, c4⟩ := HQ.out.cells
        go_wp2_with fail
        clear c0 c1 c2 c3 c4
        go_loopw [6, 36] (fun _ j wr => ∃ k : Nat, k ≤ us.length ∧ j = .int .i64 k ∧ BldS (w.heap.size + 1) (w.heap.size + 1) (dlT ⟨#[32, 43]⟩ us (dyT d (hdT f tt) 7) k) wr ∧ Below (w.heap.size + 1) w1 wr) (fun _ j _ => us.length - (intOf j).toNat)
        case atStart => exact ⟨0, Nat.zero_le _, rfl, BD.out, HB.out⟩
        case round =>
          obtain ⟨k, hk, rfl, hbd, hb⟩ := hrel
          have HB := Lib.hid hb
          have HQ := Lib.hid (HQ1.out.callB hb hgt1)
          have BD := Lib.hid hbd
          have hz := Nat.le_trans hz1 hb.size
          clear hb hbd
          have hss := (dlT_size (p := ⟨#[32, 43]⟩) (xs := us) (s := (dyT d (hdT f tt) 7)) rfl HU.out k hk).2
          by_cases hlt : k < us.length
          · obtain ⟨b, o, rfl, hbl, hc⟩ := (IntsIn.at HQ.out.us0).get hlt
            have hik : (k : Int) < us.length := by omega
            obtain ⟨e0, e1⟩ := HU.out k hlt
            have HS := Lib.hid (dlT_succ' ⟨#[32, 43]⟩ us (dyT d (hdT f tt) 7) k)
            have hnz := num_day e0 e1
            generalize hsk : dlT ⟨#[32, 43]⟩ us (dyT d (hdT f tt) 7) k = s at *
            clear hsk
            go_wp2_with fail
            refine (itoa_any _ _ (by omega) (by omega) (HT.out.call HQ.out.bel)).mono ?_
            rintro e w5 ⟨rfl, hb5⟩
            have HB5 := Lib.hid (HB.out.trans (hb5.mono (by omega)))
            have BD5 := Lib.hid (BD.out.call hb5)
            have hz5 := Nat.le_trans hz hb5.size
            clear hb5 hc
            go_wp2_with fail
            have hsz : s.size + (⟨#[32, 43]⟩ ++ bs (num (nth us k))).size ≤ 140737488355328 := by
              simp only [ByteArray.size_append, z4, z5]; omega
            have hw := writeString_any (w.heap.size + 1) (w.heap.size + 1) s _ w5 BD5.out hsz hz5
            clear hsz
            refine hw.mono ?_
            rintro e w6 ⟨rfl, hbd6, hb6, _⟩
            clear hw
            rw [HS.out] at hbd6
            have BD6 := Lib.hid hbd6
            have HB6 := Lib.hid (HB5.out.trans hb6)
            clear hbd6 hb6
            go_wp2_with fail
            go_roundw
            case rel => exact ⟨k + 1, by omega, by go_num, BD6.out, HB6.out⟩
            case measure => simp [intOf]; omega
          · obtain rfl : k = us.length := by omega
            rw [J2.out] at BD
            obtain ⟨c0, c1, c2, c3, c4⟩ := HQ.out.cells
            go_wp2_with fail
            clear c0 c1 c2 c3 c4
            clear hss
            go_loopw [8, 48] (fun _ j wr => ∃ k : Nat, k ≤ vs.length ∧ j = .int .i64 k ∧ BldS (w.heap.size + 1) (w.heap.size + 1) (dlT ⟨#[32, 45]⟩ vs (dlT ⟨#[32, 43]⟩ us (dyT d (hdT f tt) 7) us.length) k) wr ∧ Below (w.heap.size + 1) w1 wr) (fun _ j _ => vs.length - (intOf j).toNat)
            case atStart => exact ⟨0, Nat.zero_le _, rfl, BD.out, HB.out⟩
            case round =>
              obtain ⟨k, hk, rfl, hbd, hb⟩ := hrel
              have HB := Lib.hid hb
              have HQ := Lib.hid (HQ1.out.callB hb hgt1)
              have BD := Lib.hid hbd
              have hz := Nat.le_trans hz1 hb.size
              clear hb hbd
              have hss := (dlT_size (p := ⟨#[32, 45]⟩) (xs := vs) (s := (dlT ⟨#[32, 43]⟩ us (dyT d (hdT f tt) 7) us.length)) rfl HV.out k hk).2
              by_cases hlt : k < vs.length
              · obtain ⟨b, o, rfl, hbl, hc⟩ := (IntsIn.at HQ.out.vs0).get hlt
                have hik : (k : Int) < vs.length := by omega
                obtain ⟨e0, e1⟩ := HV.out k hlt
                have HS := Lib.hid (dlT_succ' ⟨#[32, 45]⟩ vs (dlT ⟨#[32, 43]⟩ us (dyT d (hdT f tt) 7) us.length) k)
                have hnz := num_day e0 e1
                generalize hsk : dlT ⟨#[32, 45]⟩ vs (dlT ⟨#[32, 43]⟩ us (dyT d (hdT f tt) 7) us.length) k = s at *
                clear hsk
                go_wp2_with fail
                refine (itoa_any _ _ (by omega) (by omega) (HT.out.call HQ.out.bel)).mono ?_
                rintro e w5 ⟨rfl, hb5⟩
                have HB5 := Lib.hid (HB.out.trans (hb5.mono (by omega)))
                have BD5 := Lib.hid (BD.out.call hb5)
                have hz5 := Nat.le_trans hz hb5.size
                clear hb5 hc
                go_wp2_with fail
                have hsz : s.size + (⟨#[32, 45]⟩ ++ bs (num (nth vs k))).size ≤ 140737488355328 := by
                  simp only [ByteArray.size_append, z4, z5]; omega
                have hw := writeString_any (w.heap.size + 1) (w.heap.size + 1) s _ w5 BD5.out hsz hz5
                clear hsz
                refine hw.mono ?_
                rintro e w6 ⟨rfl, hbd6, hb6, _⟩
                clear hw
                rw [HS.out] at hbd6
                have BD6 := Lib.hid hbd6
                have HB6 := Lib.hid (HB5.out.trans hb6)
                clear hbd6 hb6
                go_wp2_with fail
                go_roundw
                case rel => exact ⟨k + 1, by omega, by go_num, BD6.out, HB6.out⟩
                case measure => simp [intOf]; omega
              · obtain rfl : k = vs.length := by omega
                rw [← J3.out] at BD
                have hw := string_any (w.heap.size + 1) (w.heap.size + 1) (calT f tt d us vs) wr BD.out (by rw [J3.out]; omega)
                go_wp2_with fail
                refine hw.mono ?_
                rintro e w4 ⟨rfl, hb4⟩
                clear hw
                have HBE := Lib.hid (HQ.out.bel.trans (hb4.mono (by omega)))
                clear hb4
                go_wp2_with fail
                go_ret
                exact ⟨rfl, HBE.out⟩
end Go.Proofs.YtdiffepokiabkaaDoor
