/- FormatTimetable's head: parts -/
import Derived.Test.YtpipegdjflniaaaDoorTtg
import Derived.Test.YtpipegdjflniaaaDoorTti
import Derived.Test.YtpipegdjflniaaaDoorTrr
import Derived.Test.YtpipegdjflniaaaDoorClk
import Derived.Test.YtpipegdjflniaaaDoorFmb
namespace Go.Proofs.YtpipegdjflniaaaDoor

/-! ### The text of a timetable. -/
section
open Go.ChangeShapes Go.WideShapes Go.ChangeAt Go.RowKit Go.PlainAid
set_option linter.unusedVariables false
set_option linter.unusedSimpArgs false

/-- What is known of a valid trip. -/
structure TpX (x : TTD) (i : Nat) : Prop where
  name : (lnI x i).name.size ≤ 8
  a0 : 1 ≤ (nth3 x.trips i).a
  a1 : (nth3 x.trips i).a ≤ 999
  c0 : 0 ≤ (nth3 x.trips i).c
  c1 : (nth3 x.trips i).c ≤ 1799
theorem tpX_of {x : TTD} (h : ttB x = true) {i : Nat} (hi : i < x.trips.length) : TpX x i := by
  have t := ti_of h hi
  have b0 := t.b0
  have b1 := t.b1
  have n := ntX_of t.net
  have hto := ((ttB_ok h).2.2 i hi).1
  exact ⟨(n.line (nth3 x.trips i).b.toNat (by omega)).name, hto.1, hto.2.1, t.c0, t.c1⟩
theorem clk_size (t : Nat) : (clk t).size = 5 := by simp [clk, ByteArray.size_append, two_size]; rfl
/-- A trip's number, its line's name, its start. -/
def iN (x : TTD) (i : Nat) : ByteArray := bs (num (nth3 x.trips i).a)
def cN (x : TTD) (i : Nat) : ByteArray := clk (nth3 x.trips i).c.toNat
theorem iN_size {x : TTD} {i : Nat} (h : TpX x i) : (iN x i).size ≤ 3 := by
  have h0 := h.a0
  have h1 := h.a1
  unfold iN
  rw [bs_size]
  unfold num
  rw [if_neg (by omega)]
  exact dec_length _ 3 (by omega) (by omega)
/-- The text of a timetable up to its k-th trip. -/
def tmT (x : TTD) : Nat → ByteArray
  | 0 => netT x.net
  | k + 1 => tmT x k ++ ⟨#[116, 114, 105, 112, 32]⟩ ++ iN x k ++ ⟨#[32]⟩ ++ (lnI x k).name ++ ⟨#[32]⟩ ++ cN x k ++ ⟨#[10]⟩
theorem tmT_succ (x : TTD) (k : Nat) : tmT x k ++ ⟨#[116, 114, 105, 112, 32]⟩ ++ iN x k ++ ⟨#[32]⟩ ++ (lnI x k).name ++ ⟨#[32]⟩ ++ cN x k ++ ⟨#[10]⟩ = tmT x (k + 1) := rfl
theorem tmT_succ' (x : TTD) (k : Nat) : tmT x k ++ (⟨#[116, 114, 105, 112, 32]⟩ ++ iN x k ++ ⟨#[32]⟩ ++ (lnI x k).name ++ ⟨#[32]⟩ ++ cN x k ++ ⟨#[10]⟩) = tmT x (k + 1) := by rw [← tmT_succ]; simp only [ByteArray.append_assoc]
theorem tmT_size {x : TTD} (h : ttB x = true) : ∀ k, k ≤ x.trips.length → 1 ≤ (tmT x k).size ∧ (tmT x k).size ≤ 542 + 24 * k := by
  intro k
  have e1 : (⟨#[116, 114, 105, 112, 32]⟩ : ByteArray).size = 5 := rfl
  have e2 : (⟨#[10]⟩ : ByteArray).size = 1 := rfl
  have e3 : (⟨#[32]⟩ : ByteArray).size = 1 := rfl
  induction k with
  | zero => intro _; exact netT_size (ntX_of (ttB_ok h).1)
  | succ k ih =>
    intro hk
    have h1 := ih (by omega)
    have hx := tpX_of h (i := k) (by omega)
    have h2 := hx.name
    have h3 := iN_size hx
    have h4 : (cN x k).size = 5 := clk_size _
    rw [tmT]
    simp only [ByteArray.size_append, e1, e2, e3]
    omega
theorem tmT_le {x : TTD} (h : ttB x = true) {k : Nat} (hk : k ≤ x.trips.length) : (tmT x k).size ≤ 900 := by
  have h1 := (tmT_size h k hk).2
  have h2 := (ttB_ok h).2.1
  omega
def timT (x : TTD) : ByteArray := tmT x x.trips.length
end

/-! ### The text of a timetable: the reference. -/
section
open Go.ChangeShapes Go.WideShapes Go.ChangeAt Go.RowKit Go.PlainAid
set_option linter.unusedVariables false
set_option linter.unusedSimpArgs false

set_option maxRecDepth 100000 in
set_option maxHeartbeats 4000000 in
theorem l6Timetable_any (x : TTD) (A L T : Option Addr) (ca cl ct : Nat) (w : World) (hA : StrsIn w (Zone.below w.heap.size) A x.net.stops) (hL : LinesIn w (Zone.below w.heap.size) L x.net.lines) (hT : I3sIn w (Zone.below w.heap.size) T x.trips) (hx : FitsT x) (g : ttB x = true) :
    Calls Tryd.prog 32 #[.agg #[.slice A x.net.stops.length ca, .slice L x.net.lines.length cl, .slice T x.trips.length ct]] w fun e w' => e = .returned (.string (timT x)) ∧ Below w.heap.size w w' := by
  have H0 : Hid (TtBox w (w.alloc (.cells #[.slice A x.net.stops.length ca, .slice L x.net.lines.length cl, .slice T x.trips.length ct] 33)) w.heap.size x A ca L cl T ct) := Lib.hid (TtBox.box hA hL hT)
  have hn := hx.trips
  have hm := hx.net.lines
  have HXN := Lib.hid hx.net
  have HG := Lib.hid g
  have HGN := Lib.hid (ttB_ok g).1
  have z1 : (⟨#[116, 114, 105, 112, 32]⟩ : ByteArray).size = 5 := rfl
  have z2 : (⟨#[10]⟩ : ByteArray).size = 1 := rfl
  have z3 : (⟨#[32]⟩ : ByteArray).size = 1 := rfl
  clear hA hL hT hx g
  go_enter Tryd.func32, Tryd.ntmps32
  go_wp2_with fail
  generalize (w.alloc (.cells #[.slice A x.net.stops.length ca, .slice L x.net.lines.length cl, .slice T x.trips.length ct] 33)) = w0 at *
  refine (l6Network_any x.net _ _ _ _ _ H0.out.stops H0.out.lines HXN.out HGN.out).mono ?_
  rintro e w1 ⟨rfl, hb1⟩
  have H1 := Lib.hid (H0.out.call hb1)
  clear hb1
  have J0 : Hid (netT x.net = tmT x 0) := Lib.hid rfl
  rw [J0.out]
  go_wp2_with fail
  go_loopw [3, 4] (fun s j wr => ∃ k : Nat, k ≤ x.trips.length ∧ j = .int .i64 k ∧ s = .string (tmT x k) ∧ Below w1.heap.size w1 wr) (fun _ j _ => x.trips.length - (intOf j).toNat)
  case atStart => exact ⟨0, Nat.zero_le _, rfl, rfl, Below.refl _ _⟩
  case round =>
    obtain ⟨k, hk, rfl, rfl, hb⟩ := hrel
    have H2 := Lib.hid (H1.out.call hb)
    have HB := Lib.hid hb
    clear hb
    by_cases hlt : k < x.trips.length
    · have hss := tmT_le HG.out hk
      have HP := Lib.hid (tpX_of HG.out hlt)
      have HTi := Lib.hid (ti_of HG.out hlt)
      have hnm := HP.out.name
      have hin := iN_size HP.out
      have hcn : (cN x k).size = 5 := clk_size _
      have a0 := HP.out.a0
      have a1 := HP.out.a1
      have t0 := HP.out.c0
      have t1 := HP.out.c1
      have HS := Lib.hid (tmT_succ x k)
      obtain ⟨b, o, rfl, hbl, d0, d1, d2⟩ := I3sIn.at H2.out.trips hlt
      have D0 := Lib.hid d0
      have D2 := Lib.hid d2
      have hik : (k : Int) < x.trips.length := by omega
      clear d0 d1 d2
      obtain ⟨wo, rfl⟩ : ∃ wo : World, wo = wr := ⟨_, rfl⟩
      have hC : ∀ w', Below wo.heap.size wo w' → Tt3 w' w.heap.size x A ca L cl (some ⟨b, o, none⟩) ct := fun w' h => (H2.out.call h).cells
      have hE0 : ∀ w', Below wo.heap.size wo w' → w'.cell? ⟨b, o + k * 3, none⟩ = some (.int .i64 (nth3 x.trips k).a) := fun w' h => (h.cell (p := ⟨b, _, none⟩) hbl).trans D0.out
      have hE2 : ∀ w', Below wo.heap.size wo w' → w'.cell? ⟨b, o + k * 3 + 2, none⟩ = some (.int .i64 (nth3 x.trips k).c) := fun w' h => (h.cell (p := ⟨b, _, none⟩) hbl).trans D2.out
      unfold Tt3 at hC
      have HI : Hid (bs (num (nth3 x.trips k).a) = iN x k) := Lib.hid rfl
      have HCN : Hid (clk (nth3 x.trips k).c.toNat = cN x k) := Lib.hid rfl
      generalize hsk : tmT x k = s at *
      generalize hnk : (lnI x k).name = nm at *
      generalize hik0 : iN x k = ia at *
      generalize hck : cN x k = cc at *
      have HNK := Lib.hid hnk
      have p1 : ¬ 9223372036854775807 < s.size + 5 := by omega
      have p2 : ¬ 9223372036854775807 < s.size + 5 + ia.size := by omega
      have p3 : ¬ 9223372036854775807 < s.size + 5 + ia.size + 1 := by omega
      have p4 : ¬ 9223372036854775807 < s.size + 5 + ia.size + 1 + nm.size := by omega
      have p5 : ¬ 9223372036854775807 < s.size + 5 + ia.size + 1 + nm.size + 1 := by omega
      have p6 : ¬ 9223372036854775807 < s.size + 5 + ia.size + 1 + nm.size + 1 + cc.size := by omega
      have p7 : ¬ 9223372036854775807 < s.size + 5 + ia.size + 1 + nm.size + 1 + cc.size + 1 := by omega
      clear hsk hnk hik0 hck hcn
      obtain ⟨c0, c1, c2⟩ := H2.out.cells
      go_wp2_with fail
      clear c0 c1 c2
      go_region_held3 (fun w' => Below wo.heap.size wo w') (repeat' first | assumption | exact Nat.le_refl _ | exact Below.refl _ _ | (refine bel_drew ?_) | (refine bel_drewN ?_ _) | (refine bel_alloc ?_ _) | (refine bel_set ?_ ?_ _))
        (first
          | (go_at_call 45; refine (l1Num_any _ _ (by omega) (by omega)).mono ?_; rintro e w5 ⟨rfl, q5, rfl⟩; rw [HI.out])
          | (go_at_call 51; refine (l5Line_any x _ _ _ _ _ _ k _ ((H2.out.call (by first | assumption | (refine bel_drewN ?_ _; assumption) | exact bel_drewN (bel_drew (Below.refl _ _)) _)).stops) ((H2.out.call (by first | assumption | (refine bel_drewN ?_ _; assumption) | exact bel_drewN (bel_drew (Below.refl _ _)) _)).lines) ((H2.out.call (by first | assumption | (refine bel_drewN ?_ _; assumption) | exact bel_drewN (bel_drew (Below.refl _ _)) _)).trips) HTi.out hn hm).mono ?_; rintro e w6 ⟨S, cs, R, cr, rfl, _, _, _, _, hb6⟩; have hB6 := bel_call (show Below wo.heap.size wo _ by first | assumption | (refine bel_drewN ?_ _; assumption) | exact bel_drewN (bel_drew (Below.refl _ _)) _) hb6; have hfd : ∀ w', (Instr.field 47 (.agg #[.string (lnI x k).name, .slice S (lnI x k).stops.length cs, .slice R (lnI x k).runs.length cr]) 0).run Tryd.prog w' = .ok (.string nm) w' := (fun _ => by rw [← HNK.out]; kernel_rfl); clear hb6)
          | (go_at_call 47; refine (l4Text_any _ _ t0 t1).mono ?_; rintro e w7 ⟨rfl, q7, rfl⟩; rw [HCN.out]))
      all_goals
        have HB6 := Lib.hid (bel_call HB.out hB6)
        clear hC hE0 hE2 hB6 p1 p2 p3 p4 p5 p6 p7
        go_wp2_with fail
        go_roundw
        case rel => exact ⟨k + 1, by omega, by go_num, by rw [← HS.out], by repeat (first | exact HB6.out | refine bel_drewN ?_ _ | refine bel_drew ?_)⟩
        case measure => simp [intOf]; omega
    · obtain rfl : k = x.trips.length := by omega
      obtain ⟨c0, c1, c2⟩ := H2.out.cells
      have JN : Hid (tmT x x.trips.length = timT x) := Lib.hid rfl
      go_wp2_with fail
      go_ret
      exact ⟨by rw [← JN.out]; rfl, H2.out.bel⟩
end
end Go.Proofs.YtpipegdjflniaaaDoor
