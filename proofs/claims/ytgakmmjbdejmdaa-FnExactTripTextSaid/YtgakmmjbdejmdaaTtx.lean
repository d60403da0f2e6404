/- TripText. -/
import Derived.Test.YtgakmmjbdejmdaaStu
import Derived.Test.YtgakmmjbdejmdaaClk
namespace Go.Proofs.Ytgakmmjbdejmdaa
open Go.ChangeShapes Go.WideShapes Go.ChangeAt Go.RowKit Go.PlainAid
set_option linter.unusedVariables false
set_option linter.unusedSimpArgs false

/-- What is known of the places of a valid trip. -/
structure TtX (x : TTD) (i : Nat) : Prop where
  name : (lnI x i).name.size ≤ 8
  lo : 2 ≤ (lnI x i).stops.length
  len : (lnI x i).stops.length ≤ 6
  runs : (lnI x i).runs.length + 1 = (lnI x i).stops.length
  stop : ∀ k, k < (lnI x i).stops.length → 0 ≤ nth (lnI x i).stops k ∧ nth (lnI x i).stops k < x.net.stops.length ∧ (nthS x.net.stops (nth (lnI x i).stops k).toNat).size ≤ 8
  time : ∀ k, k < (lnI x i).stops.length → 0 ≤ atI x i k ∧ atI x i k ≤ 1799
theorem names_size {xs : List ByteArray} (h : namesB xs = true) {k : Nat} (hk : k < xs.length) : (nthS xs k).size ≤ 8 := by
  have h1 : AreNames xs := of_decide_eq_true h
  have h2 : IsName (nthS xs k) := of_decide_eq_true (h1 k hk).1
  exact h2.2.1
theorem ttX_of {x : TTD} (h : ttB x = true) {i : Nat} (hi : i < x.trips.length) : TtX x i := by
  have t := ti_of h hi
  have b0 := t.b0
  have b1 := t.b1
  have hl : (nth3 x.trips i).b.toNat < x.net.lines.length := by omega
  have n := netB_ok t.net
  have ln : LineOk x.net.stops.length (lnI x i) := of_decide_eq_true (n.each _ hl)
  have hd := ln.1
  unfold LineHd at hd
  have hr : Runs60 (lnI x i).runs := lineOk_runs ln
  have hto := (ttB_ok h).2.2 i hi
  have he : tmB (endI x (nth3 x.trips i)) = true := hto.1.2.2.2.2.2
  rw [tmB_iff] at he
  refine ⟨?_, hd.1, hd.2.1, hd.2.2, fun k hk => ?_, fun k hk => ?_⟩
  · have h1 := names_size n.lnames (k := (nth3 x.trips i).b.toNat) (by rw [namesOf_length]; exact hl)
    rw [nthS_names hl] at h1
    exact h1
  · have h1 := (ln.2.1 k hk).1
    rw [inB_iff] at h1
    have h2 := h1.1
    have h3 := h1.2
    exact ⟨h2, by omega, names_size n.names (by omega)⟩
  · have h1 := sumI_bd hr k (by omega)
    have h2 := sumI_mono hr k (lnI x i).runs.length (by omega) (Nat.le_refl _)
    have h3 : endI x (nth3 x.trips i) = (nth3 x.trips i).c + sumI (lnI x i).runs (lnI x i).runs.length := rfl
    have h4 := t.c0
    unfold atI
    omega
theorem clk_size (t : Nat) : (clk t).size = 5 := by simp [clk, ByteArray.size_append, two_size]; rfl
/-- The text of a trip up to its k-th place. -/
def ttS (x : TTD) (i : Nat) : Nat → ByteArray
  | 0 => (lnI x i).name ++ ⟨#[58]⟩
  | k + 1 => ttS x i k ++ ⟨#[32]⟩ ++ nthS x.net.stops (nth (lnI x i).stops k).toNat ++ ⟨#[32]⟩ ++ clk (atI x i k).toNat
theorem ttS_succ (x : TTD) (i k : Nat) : ttS x i k ++ ⟨#[32]⟩ ++ nthS x.net.stops (nth (lnI x i).stops k).toNat ++ ⟨#[32]⟩ ++ clk (atI x i k).toNat = ttS x i (k + 1) := rfl
theorem ttS_succ' (x : TTD) (i k : Nat) : ttS x i k ++ (⟨#[32]⟩ ++ nthS x.net.stops (nth (lnI x i).stops k).toNat ++ ⟨#[32]⟩ ++ clk (atI x i k).toNat) = ttS x i (k + 1) := by
  rw [← ttS_succ]; simp only [ByteArray.append_assoc]
theorem ttS_size {x : TTD} {i : Nat} (h : TtX x i) : ∀ k, k ≤ (lnI x i).stops.length → (ttS x i k).size ≤ 9 + 15 * k := by
  intro k
  have e1 : (⟨#[58]⟩ : ByteArray).size = 1 := rfl
  have e2 : (⟨#[32]⟩ : ByteArray).size = 1 := rfl
  induction k with
  | zero => intro _; have := h.name; simp only [ttS, ByteArray.size_append, e1]; omega
  | succ k ih =>
    intro hk
    have h1 := ih (by omega)
    have h2 := (h.stop k (by omega)).2.2
    simp only [ttS, ByteArray.size_append, e2, clk_size]
    omega
/-- The answer of TripText. -/
def ttT (x : TTD) (id : Int) : ByteArray := if stB x id = true then ttS x (idI x.trips id).toNat (lnI x (idI x.trips id).toNat).stops.length else ⟨#[]⟩
theorem ttT_no {x : TTD} {id : Int} (h : stB x id = false) : ttT x id = ⟨#[]⟩ := by unfold ttT; rw [h]; rfl
theorem ttT_yes {x : TTD} {id : Int} (h : stB x id = true) : ttT x id = ttS x (idI x.trips id).toNat (lnI x (idI x.trips id).toNat).stops.length := by unfold ttT; rw [h]; rfl

set_option maxRecDepth 100000 in
set_option maxHeartbeats 4000000 in
theorem specTripText_any (x : TTD) (A L T : Option Addr) (ca cl ct : Nat) (id : Int) (w : World) (hA : StrsIn w (Zone.below w.heap.size) A x.net.stops) (hL : LinesIn w (Zone.below w.heap.size) L x.net.lines) (hT : I3sIn w (Zone.below w.heap.size) T x.trips) (hx : FitsT x) :
    Calls Try.prog 12 #[.agg #[.slice A x.net.stops.length ca, .slice L x.net.lines.length cl, .slice T x.trips.length ct], .int .i64 id] w fun e w' => e = .returned (.tuple #[.string (ttT x id), .bool (stB x id)]) ∧ Below w.heap.size w w' := by
  have H0 : Hid (TtBox w (w.alloc (.cells #[.slice A x.net.stops.length ca, .slice L x.net.lines.length cl, .slice T x.trips.length ct] 42)) w.heap.size x A ca L cl T ct) := Lib.hid (TtBox.box hA hL hT)
  have hn := hx.trips
  have hm := hx.net.lines
  clear hA hL hT
  cases g : ttB x
  · have hcd : stB x id = false := by unfold stB numB; rw [g]; rfl
    have HN := Lib.hid (And.intro (ttT_no hcd) hcd)
    clear hcd
    go_enter Try.func12, Try.ntmps12
    go_wp2_with fail
    refine (l5Find_any x _ _ _ _ _ _ id _ H0.out.trips hn).mono ?_
    rintro e w1 ⟨rfl, hb1⟩
    have H1 := Lib.hid (H0.out.call hb1)
    clear hb1
    (try clear c0 c1 c2)
    obtain ⟨c0, c1, c2⟩ := H1.out.cells
    go_wp2_with fail
    refine (l5Good_any x _ _ _ _ _ _  _ H1.out.stops H1.out.lines H1.out.trips hx).mono ?_
    rintro e w2 ⟨rfl, hb2⟩
    have H2 := Lib.hid (H1.out.call hb2)
    clear hb2
    (try clear c0 c1 c2)
    obtain ⟨c0, c1, c2⟩ := H2.out.cells
    go_wp2_with fail
    go_ret2
    rw [HN.out.1, HN.out.2]
    exact ⟨rfl, H2.out.bel⟩
  by_cases h0 : idI x.trips id < 0
  · have hcd : stB x id = false := by unfold stB; exact (num_no (.inr h0)).2
    have HN := Lib.hid (And.intro (ttT_no hcd) hcd)
    clear hcd
    go_enter Try.func12, Try.ntmps12
    go_wp2_with fail
    refine (l5Find_any x _ _ _ _ _ _ id _ H0.out.trips hn).mono ?_
    rintro e w1 ⟨rfl, hb1⟩
    have H1 := Lib.hid (H0.out.call hb1)
    clear hb1
    (try clear c0 c1 c2)
    obtain ⟨c0, c1, c2⟩ := H1.out.cells
    go_wp2_with fail
    refine (l5Good_any x _ _ _ _ _ _  _ H1.out.stops H1.out.lines H1.out.trips hx).mono ?_
    rintro e w2 ⟨rfl, hb2⟩
    have H2 := Lib.hid (H1.out.call hb2)
    clear hb2
    (try clear c0 c1 c2)
    obtain ⟨c0, c1, c2⟩ := H2.out.cells
    go_wp2_with fail
    go_ret2
    rw [HN.out.1, HN.out.2]
    exact ⟨rfl, H2.out.bel⟩
  obtain ⟨i, hi⟩ : ∃ i : Nat, idI x.trips id = i := ⟨(idI x.trips id).toNat, by omega⟩
  have hil : i < x.trips.length := by have := (idI_bd x.trips id).2; omega
  have HTi := Lib.hid (ti_of g hil)
  have HX := Lib.hid (ttX_of g hil)
  have hcd : stB x id = true := by unfold stB; rw [g]; exact (num_yes (by omega)).2
  have HY := Lib.hid (And.intro (ttT_yes hcd) hcd)
  rw [hi, Int.toNat_natCast] at HY
  have HI := Lib.hid hi
  have hi0 : ¬ ((i : Int) < 0) := by omega
  have hnm := HX.out.name
  have z1 : (⟨#[58]⟩ : ByteArray).size = 1 := rfl
  have z2 : (⟨#[32]⟩ : ByteArray).size = 1 := rfl
  have z3 := clk_size
  clear hcd hi h0
  go_enter Try.func12, Try.ntmps12
  go_wp2_with fail
  refine (l5Find_any x _ _ _ _ _ _ id _ H0.out.trips hn).mono ?_
  rintro e w1 ⟨rfl, hb1⟩
  have H1 := Lib.hid (H0.out.call hb1)
  clear hb1
  (try clear c0 c1 c2)
  obtain ⟨c0, c1, c2⟩ := H1.out.cells
  rw [HI.out]
  go_wp2_with fail
  refine (l5Good_any x _ _ _ _ _ _  _ H1.out.stops H1.out.lines H1.out.trips hx).mono ?_
  rintro e w2 ⟨rfl, hb2⟩
  have H2 := Lib.hid (H1.out.call hb2)
  clear hb2
  (try clear c0 c1 c2)
  obtain ⟨c0, c1, c2⟩ := H2.out.cells
  go_wp2_with fail
  refine (l5Line_any x _ _ _ _ _ _ i _ H2.out.stops H2.out.lines H2.out.trips HTi.out hn hm).mono ?_
  rintro e w3 ⟨S, cs, R, cr, rfl, _, _, _, _, hb3⟩
  have H3 := Lib.hid (H2.out.call hb3)
  clear hb3 c0 c1 c2
  obtain ⟨c0, c1, c2⟩ := H3.out.cells
  have hfd : ∀ w', (Instr.field 57 (.agg #[.string (lnI x i).name, .slice S (lnI x i).stops.length cs, .slice R (lnI x i).runs.length cr]) 0).run Try.prog w' = .ok (.string (lnI x i).name) w' := fun _ => by kernel_rfl
  go_wp2_with fail
  clear hfd
  refine (l5Stops_any x _ _ _ _ _ _ i _ H3.out.stops H3.out.lines H3.out.trips HTi.out hn hm).mono ?_
  rintro e w4 ⟨P, cp, rfl, hp, hb4⟩
  have H4 := Lib.hid (H3.out.call hb4)
  have HP := Lib.hid hp
  clear hb4 hp c0 c1 c2
  go_wp2_with fail
  have HE : Hid ((lnI x i).name ++ (⟨#[58]⟩ : ByteArray) = ttS x i 0) := Lib.hid rfl
  go_loopw [7, 9] (fun s j wr => ∃ k : Nat, k ≤ (lnI x i).stops.length ∧ j = .int .i64 k ∧ s = .string (ttS x i k) ∧ Below w4.heap.size w4 wr) (fun s j _ => (lnI x i).stops.length - (intOf j).toNat)
  case atStart => exact ⟨0, Nat.zero_le _, rfl, rfl, Below.refl _ _⟩
  case round =>
    obtain ⟨k, hk, rfl, rfl, hb⟩ := hrel
    have H5 := Lib.hid (H4.out.call hb)
    have HB := Lib.hid hb
    have hz := hb.size
    by_cases hlt : k < (lnI x i).stops.length
    · have hs := HX.out.stop k hlt
      obtain ⟨s0, s1, s2⟩ := hs
      obtain ⟨t0, t1⟩ := HX.out.time k hlt
      have hss := ttS_size HX.out k hk
      have hln := HX.out.len
      have hkr : k ≤ (lnI x i).runs.length := by have := HX.out.runs; omega
      obtain ⟨m, hmm⟩ : ∃ m : Nat, nth (lnI x i).stops k = m := ⟨(nth (lnI x i).stops k).toNat, by omega⟩
      have hml : m < x.net.stops.length := by omega
      have hmi : (m : Int) < x.net.stops.length := by omega
      have HS : Hid (ttS x i k ++ ⟨#[32]⟩ ++ nthS x.net.stops m ++ ⟨#[32]⟩ ++ clk (atI x i k).toNat = ttS x i (k + 1)) := Lib.hid (by rw [← ttS_succ, hmm]; rfl)
      have s3 : (nthS x.net.stops m).size ≤ 8 := by rw [hmm] at s2; exact s2
      obtain ⟨b, o, rfl, hbl, hc⟩ := (IntsIn.at HP.out).get hlt
      rw [hmm] at hc
      obtain ⟨b2, o2, rfl, hbl2, hc2⟩ := H4.out.stops.get hml
      replace hc2 : w4.cell? ⟨b2, o2 + m, none⟩ = some (.string (nthS x.net.stops m)) := hc2
      have HC1 := Lib.hid hc
      have HC2 := Lib.hid hc2
      have hik : (k : Int) < (lnI x i).stops.length := by omega
      clear hmm hc hc2 s0 s1 s2 hb
      obtain ⟨wo, rfl⟩ : ∃ wo : World, wo = wr := ⟨_, rfl⟩
      have hC : ∀ w', Below wo.heap.size wo w' → Tt3 w' w.heap.size x (some ⟨b2, o2, none⟩) ca L cl T ct := fun w' h => (H5.out.call h).cells
      have hD1 : ∀ w', Below wo.heap.size wo w' → w'.cell? ⟨b, o + k, none⟩ = some (.int .i64 m) := fun w' h => ((bel_call HB.out h).cell (p := ⟨b, _, none⟩) hbl).trans HC1.out
      have hD2 : ∀ w', Below wo.heap.size wo w' → w'.cell? ⟨b2, o2 + m, none⟩ = some (.string (nthS x.net.stops m)) := fun w' h => ((bel_call HB.out h).cell (p := ⟨b2, _, none⟩) hbl2).trans HC2.out
      unfold Tt3 at hC
      have hss2 : (ttS x i k).size ≤ 99 := by omega
      obtain ⟨s, hsx⟩ : ∃ s, s = ttS x i k := ⟨_, rfl⟩
      obtain ⟨nm, hnx⟩ : ∃ nm, nm = nthS x.net.stops m := ⟨_, rfl⟩
      rw [← hsx, ← hnx] at HS
      rw [← hsx] at hss2 ⊢
      rw [← hnx] at s3 hD2
      have cl5 : (clk (atI x i k).toNat).size = 5 := clk_size _
      obtain ⟨cl, hcx⟩ : ∃ cl, cl = clk (atI x i k).toNat := ⟨_, rfl⟩
      rw [← hcx] at HS cl5
      have HCX := Lib.hid hcx
      have HN3 := Lib.hid s3
      have HS3 := Lib.hid hss2
      have p1 : ¬ 9223372036854775807 < s.size + 1 := by omega
      have p2 : ¬ 9223372036854775807 < s.size + 1 + nm.size := by omega
      have p3 : ¬ 9223372036854775807 < s.size + 1 + nm.size + 1 := by omega
      have p4 : ¬ 9223372036854775807 < s.size + 1 + nm.size + 1 + cl.size := by omega
      clear hcx hsx hnx hss cl5 z3
      go_wp2_with fail
      go_region_held3 (fun w' => Below wo.heap.size wo w') (repeat' first | assumption | exact Nat.le_refl _ | exact Below.refl _ _ | (refine bel_drew ?_) | (refine bel_alloc ?_ _) | (refine bel_set ?_ ?_ _))
        (first
          | (go_at_call 31; refine (l5At_any x _ _ _ _ _ _ i k _ _ ((H5.out.call ‹Below wo.heap.size wo _›).stops) ((H5.out.call ‹Below wo.heap.size wo _›).lines) ((H5.out.call ‹Below wo.heap.size wo _›).trips) HTi.out hn hm rfl hkr).mono ?_; rintro e w5 ⟨rfl, hb5⟩; have hB5 := bel_call ‹Below wo.heap.size wo _› hb5; clear hb5)
          | (go_at_call 30; refine (l4Text_any _ _ t0 t1).mono ?_; rintro e w6 ⟨rfl, q6, rfl⟩; rw [← HCX.out]; have hB6 := below_drewNC (‹Below wo.heap.size wo w5›) q6))
      all_goals
        have HB6 := Lib.hid (bel_call HB.out hB6)
        clear hC hD1 hD2 hB6 p1 p2 p3 p4 s3 hss2
        go_wp2_with fail
        go_roundw
        case rel => exact ⟨k + 1, by omega, by go_num, by rw [← HS.out], HB6.out⟩
        case measure => simp [intOf]; omega
    · obtain rfl : k = (lnI x i).stops.length := by omega
      go_wp2_with fail
      go_ret2
      rw [HY.out.1, HY.out.2]
      exact ⟨rfl, H5.out.bel⟩

end Go.Proofs.Ytgakmmjbdejmdaa
