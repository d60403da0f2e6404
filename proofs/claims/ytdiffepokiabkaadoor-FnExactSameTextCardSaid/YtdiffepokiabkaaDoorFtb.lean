/- The text of a timetable: the reference. -/
import Derived.Test.YtdiffepokiabkaaDoorFta
namespace Go.Proofs.YtdiffepokiabkaaDoor
open Go.ChangeShapes Go.WideShapes Go.ChangeAt Go.RowKit Go.PlainAid
set_option linter.unusedVariables false
set_option linter.unusedSimpArgs false

set_option maxRecDepth 100000 in
set_option maxHeartbeats 4000000 in
theorem l6Timetable_any (x : TTD) (A L T : Option Addr) (ca cl ct : Nat) (w : World) (hA : StrsIn w (Zone.below w.heap.size) A x.net.stops) (hL : LinesIn w (Zone.below w.heap.size) L x.net.lines) (hT : I3sIn w (Zone.below w.heap.size) T x.trips) (hx : FitsT x) (g : ttB x = true) :
    Calls Tryd.prog 50 #[.agg #[.slice A x.net.stops.length ca, .slice L x.net.lines.length cl, .slice T x.trips.length ct]] w fun e w' => e = .returned (.string (timT x)) ∧ Below w.heap.size w w' := by
  have H0 : Hid (TtBox w (w.alloc (.cells #[.slice A x.net.stops.length ca, .slice L x.net.lines.length cl, .slice T x.trips.length ct] 33)) w.heap.size x A ca L cl T ct) := Lib.hid (TtBox.box hA hL hT)
  have hn := hx.trips
  have hm := hx.net.lines
  have HXN := Lib.hid hx.net
  have HG := Lib.hid g
  have HGN := Lib.hid (ttB_ok g).1
  have z1 : (⟨#[116, 114, 105, 112, 32]⟩ : ByteArray).size = 5 := rfl
  have z2 : (⟨#[10]⟩ : ByteArray).size = 1 := rfl
  have z3 : (⟨#[32]⟩ : ByteArray).size = 1 := rfl
  clear hA hL hT hx g
  go_enter Tryd.func50, Tryd.ntmps50
  go_wp2_with fail
  generalize (w.alloc (.cells #[.slice A x.net.stops.length ca, .slice L x.net.lines.length cl, .slice T x.trips.length ct] 33)) = w0 at *
  refine (l6Network_any x.net _ _ _ _ _ H0.out.stops H0.out.lines HXN.out HGN.out).mono ?_
  rintro e w1 ⟨rfl, hb1⟩
  have H1 := Lib.hid (H0.out.call hb1)
  clear hb1
  have J0 : Hid (netT x.net = tmT x 0) := Lib.hid rfl
  rw [J0.out]
  go_wp2_with fail
  go_loopw [3, 4] (fun s j wr => ∃ k : Nat, k ≤ x.trips.length ∧ j = .int .i64 k ∧ s = .string (tmT x k) ∧ Below w1.heap.size w1 wr) (fun _ j _ => x.trips.length - (intOf j).toNat)
  case atStart => exact ⟨0, Nat.zero_le _, rfl, rfl, Below.refl _ _⟩
  case round =>
    obtain ⟨k, hk, rfl, rfl, hb⟩ := hrel
    have H2 := Lib.hid (H1.out.call hb)
    have HB := Lib.hid hb
    clear hb
    by_cases hlt : k < x.trips.length
    · have hss := tmT_le HG.out hk
      have HP := Lib.hid (tpX_of HG.out hlt)
      have HTi := Lib.hid (ti_of HG.out hlt)
      have hnm := HP.out.name
      have hin := iN_size HP.out
      have hcn : (cN x k).size = 5 := clk_size _
      have a0 := HP.out.a0
      have a1 := HP.out.a1
      have t0 := HP.out.c0
      have t1 := HP.out.c1
      have HS := Lib.hid (tmT_succ x k)
      obtain ⟨b, o, rfl, hbl, d0, d1, d2⟩ := I3sIn.at H2.out.trips hlt
      have D0 := Lib.hid d0
      have D2 := Lib.hid d2
      have hik : (k : Int) < x.trips.length := by omega
      clear d0 d1 d2
      obtain ⟨wo, rfl⟩ : ∃ wo : World, wo = wr := ⟨_, rfl⟩
      have hC : ∀ w', Below wo.heap.size wo w' → Tt3 w' w.heap.size x A ca L cl (some ⟨b, o, none⟩) ct := fun w' h => (H2.out.call h).cells
      have hE0 : ∀ w', Below wo.heap.size wo w' → w'.cell? ⟨b, o + k * 3, none⟩ = some (.int .i64 (nth3 x.trips k).a) := fun w' h => (h.cell (p := ⟨b, _, none⟩) hbl).trans D0.out
      have hE2 : ∀ w', Below wo.heap.size wo w' → w'.cell? ⟨b, o + k * 3 + 2, none⟩ = some (.int .i64 (nth3 x.trips k).c) := fun w' h => (h.cell (p := ⟨b, _, none⟩) hbl).trans D2.out
      unfold Tt3 at hC
      have HI : Hid (bs (num (nth3 x.trips k).a) = iN x k) := Lib.hid rfl
      have HCN : Hid (clk (nth3 x.trips k).c.toNat = cN x k) := Lib.hid rfl
      generalize hsk : tmT x k = s at *
      generalize hnk : (lnI x k).name = nm at *
      generalize hik0 : iN x k = ia at *
      generalize hck : cN x k = cc at *
      have HNK := Lib.hid hnk
      have p1 : ¬ 9223372036854775807 < s.size + 5 := by omega
      have p2 : ¬ 9223372036854775807 < s.size + 5 + ia.size := by omega
      have p3 : ¬ 9223372036854775807 < s.size + 5 + ia.size + 1 := by omega
      have p4 : ¬ 9223372036854775807 < s.size + 5 + ia.size + 1 + nm.size := by omega
      have p5 : ¬ 9223372036854775807 < s.size + 5 + ia.size + 1 + nm.size + 1 := by omega
      have p6 : ¬ 9223372036854775807 < s.size + 5 + ia.size + 1 + nm.size + 1 + cc.size := by omega
      have p7 : ¬ 9223372036854775807 < s.size + 5 + ia.size + 1 + nm.size + 1 + cc.size + 1 := by omega
      clear hsk hnk hik0 hck hcn
      obtain ⟨c0, c1, c2⟩ := H2.out.cells
      go_wp2_with fail
      clear c0 c1 c2
      go_region_held3 (fun w' => Below wo.heap.size wo w') (repeat' first | assumption | exact Nat.le_refl _ | exact Below.refl _ _ | (refine bel_drew ?_) | (refine bel_drewN ?_ _) | (refine bel_alloc ?_ _) | (refine bel_set ?_ ?_ _))
        (first
          | (go_at_call 73; refine (l1Num_any _ _ (by omega) (by omega)).mono ?_; rintro e w5 ⟨rfl, q5, rfl⟩; rw [HI.out])
          | (go_at_call 88; refine (l5Line_any x _ _ _ _ _ _ k _ ((H2.out.call (by first | assumption | (refine bel_drewN ?_ _; assumption) | exact bel_drewN (bel_drew (Below.refl _ _)) _)).stops) ((H2.out.call (by first | assumption | (refine bel_drewN ?_ _; assumption) | exact bel_drewN (bel_drew (Below.refl _ _)) _)).lines) ((H2.out.call (by first | assumption | (refine bel_drewN ?_ _; assumption) | exact bel_drewN (bel_drew (Below.refl _ _)) _)).trips) HTi.out hn hm).mono ?_; rintro e w6 ⟨S, cs, R, cr, rfl, _, _, _, _, hb6⟩; have hB6 := bel_call (show Below wo.heap.size wo _ by first | assumption | (refine bel_drewN ?_ _; assumption) | exact bel_drewN (bel_drew (Below.refl _ _)) _) hb6; have hfd : ∀ w', (Instr.field 80 (.agg #[.string (lnI x k).name, .slice S (lnI x k).stops.length cs, .slice R (lnI x k).runs.length cr]) 0).run Tryd.prog w' = .ok (.string nm) w' := (fun _ => by rw [← HNK.out]; kernel_rfl); clear hb6)
          | (go_at_call 89; refine (l4Text_any _ _ t0 t1).mono ?_; rintro e w7 ⟨rfl, q7, rfl⟩; rw [HCN.out]))
      all_goals
        have HB6 := Lib.hid (bel_call HB.out hB6)
        clear hC hE0 hE2 hB6 p1 p2 p3 p4 p5 p6 p7
        go_wp2_with fail
        go_roundw
        case rel => exact ⟨k + 1, by omega, by go_num, by rw [← HS.out], by repeat (first | exact HB6.out | refine bel_drewN ?_ _ | refine bel_drew ?_)⟩
        case measure => simp [intOf]; omega
    · obtain rfl : k = x.trips.length := by omega
      obtain ⟨c0, c1, c2⟩ := H2.out.cells
      have JN : Hid (tmT x x.trips.length = timT x) := Lib.hid rfl
      go_wp2_with fail
      go_ret
      exact ⟨by rw [← JN.out]; rfl, H2.out.bel⟩
end Go.Proofs.YtdiffepokiabkaaDoor
