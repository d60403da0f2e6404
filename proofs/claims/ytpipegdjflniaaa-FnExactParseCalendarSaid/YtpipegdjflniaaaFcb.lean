/- The text of a calendar: the reference. -/
import Derived.Test.YtpipegdjflniaaaFca
import Derived.Test.YtpipegdjflniaaaCalZ
namespace Go.Proofs.Ytpipegdjflniaaa
open Go.ChangeShapes Go.WideShapes Go.ChangeAt Go.RowKit Go.PlainAid
set_option linter.unusedVariables false
set_option linter.unusedSimpArgs false

theorem CalBox.box {T : TypeId} {w : World} {f tt d : Int} {us vs : List Int} {A R : Option Addr} {ca cr : Nat} (h1 : IntsIn w (Zone.below w.heap.size) A us) (h2 : IntsIn w (Zone.below w.heap.size) R vs) :
    CalBox w (w.alloc (.cells #[.int .i64 f, .int .i64 tt, .int .i64 d, .slice A us.length ca, .slice R vs.length cr] T)) w.heap.size f tt d us vs A ca R cr :=
  have hb : Below w.heap.size w (w.alloc (.cells #[.int .i64 f, .int .i64 tt, .int .i64 d, .slice A us.length ca, .slice R vs.length cr] T)) := by go_grown
  ⟨hb, ⟨by go_simp, by go_simp, by go_simp, by go_simp, by go_simp⟩, h1.at_below hb, h2.at_below hb, by simp, Nat.le_refl _⟩
theorem l1NumB_any (n : Int) (w : World) (h0 : -999999999 ≤ n) (h1 : n ≤ 999999999) :
    Calls Try.prog 20 #[.int .i64 n] w fun e w' => e = .returned (.string (bs (num n))) ∧ Below w.heap.size w w' :=
  (l1Num_any n w h0 h1).mono fun e w' ⟨he, q, hq⟩ => ⟨he, by rw [hq]; exact bel_drewN (Below.refl _ _) _⟩
theorem hdT_size {f t : Int} (f0 : 0 ≤ f) (f1 : f ≤ 3650) (t0 : 0 ≤ t) (t1 : t ≤ 3650) : (hdT f t).size ≤ 10 := by
  have h1 := num_day f0 f1
  have h2 := num_day t0 t1
  have e1 : (⟨#[45]⟩ : ByteArray).size = 1 := rfl
  have e2 : (⟨#[32]⟩ : ByteArray).size = 1 := rfl
  unfold hdT
  rw [ByteArray.size_append, ByteArray.size_append, ByteArray.size_append, e1, e2]
  omega

set_option maxRecDepth 100000 in
set_option maxHeartbeats 4000000 in
theorem l3Text_any (f tt d : Int) (A R : Option Addr) (ca cr : Nat) (us vs : List Int) (w : World) (h1 : IntsIn w (Zone.below w.heap.size) A us) (h2 : IntsIn w (Zone.below w.heap.size) R vs) (g : calB f tt d us vs = true) :
    Calls Try.prog 12 #[.agg #[.int .i64 f, .int .i64 tt, .int .i64 d, .slice A us.length ca, .slice R vs.length cr]] w fun e w' => e = .returned (.string (calT f tt d us vs)) ∧ Below w.heap.size w w' := by
  have gk : CalOk f tt d us vs := of_decide_eq_true g
  obtain ⟨⟨f0, f1, f2, d0, d1, n1, n2⟩, hu, hv, _, _⟩ := gk
  have HU : Hid (∀ k, k < us.length → 0 ≤ nth us k ∧ nth us k ≤ 3650) := Lib.hid (fun k hk => by have := (hu k hk).1; omega)
  have HV : Hid (∀ k, k < vs.length → 0 ≤ nth vs k ∧ nth vs k ≤ 3650) := Lib.hid (fun k hk => by have := (hv k hk).1; omega)
  have HQ0 : Hid (CalBox w (w.alloc (.cells #[.int .i64 f, .int .i64 tt, .int .i64 d, .slice A us.length ca, .slice R vs.length cr] 24)) w.heap.size f tt d us vs A ca R cr) := Lib.hid (CalBox.box h1 h2)
  have hlt0 : w.heap.size < (w.alloc (.cells #[.int .i64 f, .int .i64 tt, .int .i64 d, .slice A us.length ca, .slice R vs.length cr] 24)).heap.size := by simp
  have z1 : (⟨#[32]⟩ : ByteArray).size = 1 := rfl
  have z2 : (⟨#[45]⟩ : ByteArray).size = 1 := rfl
  have z3 : (⟨#[46]⟩ : ByteArray).size = 1 := rfl
  have z4 : (⟨#[32, 43]⟩ : ByteArray).size = 2 := rfl
  have z5 : (⟨#[32, 45]⟩ : ByteArray).size = 2 := rfl
  have sf := num_day (n := f) (by omega) (by omega)
  have st := num_day (n := tt) (by omega) (by omega)
  have hhd := hdT_size (f := f) (t := tt) (by omega) (by omega) (by omega) (by omega)
  have hdy := dyT_size d (hdT f tt) 7
  have hd2 := (dlT_size (p := ⟨#[32, 43]⟩) (xs := us) (s := dyT d (hdT f tt) 7) rfl HU.out us.length (Nat.le_refl _)).2
  clear h1 h2 g hu hv
  go_enter Try.func12, Try.ntmps12
  go_wp2_with fail
  generalize (w.alloc (.cells #[.int .i64 f, .int .i64 tt, .int .i64 d, .slice A us.length ca, .slice R vs.length cr] 24)) = w0 at *
  have hC : ∀ w', Below w0.heap.size w0 w' → Cal5 w' w.heap.size f tt d A us.length ca R vs.length cr := fun w' h => (HQ0.out.call h).cells
  unfold Cal5 at hC
  have p1 : ¬ 9223372036854775807 < (bs (num f)).size + 1 := by omega
  have p2 : ¬ 9223372036854775807 < (bs (num f)).size + 1 + (bs (num tt)).size := by omega
  have p3 : ¬ 9223372036854775807 < (bs (num f)).size + 1 + (bs (num tt)).size + 1 := by omega
  go_region_held3 (fun w' => Below w0.heap.size w0 w') (repeat' first | assumption | exact Nat.le_refl _ | exact Below.refl _ _ | (refine bel_drew ?_) | (refine bel_drewN ?_ _) | (refine bel_alloc ?_ _) | (refine bel_set ?_ ?_ _))
    (first
      | (go_at_call 20; (with_reducible refine (l1NumB_any f _ (by omega) (by omega)).mono ?_); rintro e w5 ⟨rfl, hb5⟩; have hB5 := bel_call ‹Below w0.heap.size w0 _› hb5; clear hb5)
      | (go_at_call 20; (with_reducible refine (l1NumB_any tt _ (by omega) (by omega)).mono ?_); rintro e w5 ⟨rfl, hb5⟩; have hB5 := bel_call ‹Below w0.heap.size w0 _› hb5; clear hb5))
  all_goals
    have HB : Hid (Below w0.heap.size w0 w5) := Lib.hid hB5
    clear hC hB5 p1 p2 p3
    have J1 : Hid (dyT d (hdT f tt) 7 = dlT ⟨#[32, 43]⟩ us (dyT d (hdT f tt) 7) 0) := Lib.hid rfl
    have J2 : Hid (dlT ⟨#[32, 43]⟩ us (dyT d (hdT f tt) 7) us.length = dlT ⟨#[32, 45]⟩ vs (dlT ⟨#[32, 43]⟩ us (dyT d (hdT f tt) 7) us.length) 0) := Lib.hid rfl
    have J3 : Hid (calT f tt d us vs = dlT ⟨#[32, 45]⟩ vs (dlT ⟨#[32, 43]⟩ us (dyT d (hdT f tt) 7) us.length) vs.length) := Lib.hid rfl
    go_wp2_with fail
    go_loopw [3, 4] (fun s j wr => ∃ k : Nat, k ≤ 7 ∧ j = .int .i64 k ∧ s = .string (dyT d (hdT f tt) k) ∧ Below w0.heap.size w0 wr) (fun _ j _ => 7 - (intOf j).toNat)
    case atStart => exact ⟨0, Nat.zero_le _, rfl, rfl, HB.out⟩
    case round =>
      obtain ⟨k, hk, rfl, rfl, hb⟩ := hrel
      have HB := Lib.hid hb
      have HQ := Lib.hid (HQ0.out.callB hb hlt0)
      clear hb
      have hss := dyT_size d (hdT f tt) k
      obtain ⟨c0, c1, c2, c3, c4⟩ := HQ.out.cells
      by_cases hlt : k < 7
      · have hk7 : (k : Int) < 7 := by omega
        have hbit : (bits BinOp.and IntKind.i64 (d / 2 ^ k) 1 == 1) = wdB d k := by unfold wdB; rw [show ((k : Int) % 7).toNat = k by omega]
        have hex := wk_ext ⟨k, hlt⟩
        simp only [] at hex
        cases hw : wdB d k
        · have HS : Hid (dyT d (hdT f tt) k ++ ⟨#[46]⟩ = dyT d (hdT f tt) (k + 1)) := Lib.hid (by rw [dyT, dyC, hw]; rfl)
          rw [hw] at hbit
          generalize hsk : dyT d (hdT f tt) k = s at *
          clear hsk hex hw
          go_wp2_with fail
          go_roundw
          case rel => exact ⟨k + 1, by omega, by go_num, by rw [← HS.out], by repeat (first | exact HB.out | refine bel_drew ?_)⟩
          case measure => simp [intOf]; omega
        · have HS : Hid (dyT d (hdT f tt) k ++ ⟨#[wkC k]⟩ = dyT d (hdT f tt) (k + 1)) := Lib.hid (by rw [dyT, dyC, hw]; rfl)
          rw [hw] at hbit
          generalize hsk : dyT d (hdT f tt) k = s at *
          have HE := Lib.hid hex
          clear hsk hex hw
          have zl : (⟨#[109, 116, 119, 116, 102, 115, 115]⟩ : ByteArray).size = 7 := rfl
          go_wp2_with fail
          go_roundw
          case rel => exact ⟨k + 1, by omega, by go_num, by rw [← HS.out, ← HE.out], by repeat (first | exact HB.out | refine bel_drew ?_)⟩
          case measure => simp [intOf]; omega
      · have hk7 : ¬ (k : Int) < 7 := by omega
        have HK : Hid (k = 7) := Lib.hid (by omega)
        clear hlt
        go_wp2_with fail
        clear c0 c1 c2 c3 c4
        clear hss
        go_loopw [3, 5] (fun s j wr => ∃ k : Nat, k ≤ us.length ∧ j = .int .i64 k ∧ s = .string (dlT ⟨#[32, 43]⟩ us (dyT d (hdT f tt) 7) k) ∧ Below w0.heap.size w0 wr) (fun _ j _ => us.length - (intOf j).toNat)
        case atStart => exact ⟨0, Nat.zero_le _, rfl, by rw [HK.out]; rfl, HB.out⟩
        case round =>
          obtain ⟨k, hk, rfl, rfl, hb⟩ := hrel
          have HB := Lib.hid hb
          have HQ := Lib.hid (HQ0.out.callB hb hlt0)
          clear hb
          have hss := (dlT_size (p := ⟨#[32, 43]⟩) (xs := us) (s := (dyT d (hdT f tt) 7)) rfl HU.out k hk).2
          obtain ⟨c0, c1, c2, c3, c4⟩ := HQ.out.cells
          by_cases hlt : k < us.length
          · obtain ⟨b, o, rfl, hbl, hc⟩ := (IntsIn.at HQ.out.us0).get hlt
            have hik : (k : Int) < us.length := by omega
            obtain ⟨e0, e1⟩ := HU.out k hlt
            have HS := Lib.hid (dlT_succ ⟨#[32, 43]⟩ us (dyT d (hdT f tt) 7) k)
            have hnz := num_day e0 e1
            generalize hsk : dlT ⟨#[32, 43]⟩ us (dyT d (hdT f tt) 7) k = s at *
            clear hsk
            go_wp2_with fail
            refine (l1Num_any _ _ (by omega) (by omega)).mono ?_
            rintro e w5 ⟨rfl, q, rfl⟩
            go_wp2_with fail
            go_roundw
            case rel => exact ⟨k + 1, by omega, by go_num, by rw [← HS.out], by repeat (first | exact HB.out | refine bel_drewN ?_ _ | refine bel_drew ?_)⟩
            case measure => simp [intOf]; omega
          · obtain rfl : k = us.length := by omega
            go_wp2_with fail
            clear c0 c1 c2 c3 c4
            clear hss
            go_loopw [3, 6] (fun s j wr => ∃ k : Nat, k ≤ vs.length ∧ j = .int .i64 k ∧ s = .string (dlT ⟨#[32, 45]⟩ vs (dlT ⟨#[32, 43]⟩ us (dyT d (hdT f tt) 7) us.length) k) ∧ Below w0.heap.size w0 wr) (fun _ j _ => vs.length - (intOf j).toNat)
            case atStart => exact ⟨0, Nat.zero_le _, rfl, by rfl, HB.out⟩
            case round =>
              obtain ⟨k, hk, rfl, rfl, hb⟩ := hrel
              have HB := Lib.hid hb
              have HQ := Lib.hid (HQ0.out.callB hb hlt0)
              clear hb
              have hss := (dlT_size (p := ⟨#[32, 45]⟩) (xs := vs) (s := (dlT ⟨#[32, 43]⟩ us (dyT d (hdT f tt) 7) us.length)) rfl HV.out k hk).2
              obtain ⟨c0, c1, c2, c3, c4⟩ := HQ.out.cells
              by_cases hlt : k < vs.length
              · obtain ⟨b, o, rfl, hbl, hc⟩ := (IntsIn.at HQ.out.vs0).get hlt
                have hik : (k : Int) < vs.length := by omega
                obtain ⟨e0, e1⟩ := HV.out k hlt
                have HS := Lib.hid (dlT_succ ⟨#[32, 45]⟩ vs (dlT ⟨#[32, 43]⟩ us (dyT d (hdT f tt) 7) us.length) k)
                have hnz := num_day e0 e1
                generalize hsk : dlT ⟨#[32, 45]⟩ vs (dlT ⟨#[32, 43]⟩ us (dyT d (hdT f tt) 7) us.length) k = s at *
                clear hsk
                go_wp2_with fail
                refine (l1Num_any _ _ (by omega) (by omega)).mono ?_
                rintro e w5 ⟨rfl, q, rfl⟩
                go_wp2_with fail
                go_roundw
                case rel => exact ⟨k + 1, by omega, by go_num, by rw [← HS.out], by repeat (first | exact HB.out | refine bel_drewN ?_ _ | refine bel_drew ?_)⟩
                case measure => simp [intOf]; omega
              · obtain rfl : k = vs.length := by omega
                go_wp2_with fail
                go_ret
                exact ⟨by rw [J3.out]; rfl, bel_call HQ0.out.bel HB.out⟩
end Go.Proofs.Ytpipegdjflniaaa
