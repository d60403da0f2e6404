/- DeparturesAt: the reference. -/
import Derived.Test.YtambgommeannnaaDpp
import Derived.Test.YtambgommeannnaaApg
import Derived.BigQuiet
import Derived.Deep.CutBlock
import Derived.Deep.DeepCutAuto
namespace Go.Proofs.Ytambgommeannnaa
open Go.ChangeShapes Go.WideShapes Go.ChangeAt Go.RowKit Go.PlainAid
set_option linter.unusedVariables false
set_option linter.unusedSimpArgs false

theorem OwnE.drew1P {α : Type} {e : TypeId} {m : Nat} {enc : α → List Value} {w : World} {B : Nat} {v : Value} {xs : List α} (h : OwnE e m enc w B v xs) : OwnE e m enc w.drew B v xs := h
theorem flatP {w : World} {b o : Nat} {xs : List I2} (h : ∀ j, j < xs.length → w.cell? ⟨b, o + j * 2, none⟩ = some (.int .i64 (nth2 xs j).a) ∧ w.cell? ⟨b, o + j * 2 + 1, none⟩ = some (.int .i64 (nth2 xs j).b)) : ∀ j u, (xs.flatMap encI2)[j]? = some u → w.cell? ⟨b, o + j, none⟩ = some u := by
  intro j u hj
  have hl : j < xs.length * 2 := by have := (List.getElem?_eq_some_iff.1 hj).1; rw [flat_len (m := 2) (enc := encI2) (fun _ => rfl) xs] at this; exact this
  obtain ⟨d0, d1⟩ := h (j / 2) (by omega)
  have hf := flat_get (m := 2) (enc := encI2) (fun _ => rfl) xs (j / 2) (j % 2) (by omega) (by omega)
  rw [show j / 2 * 2 + j % 2 = j by omega] at hf
  rw [hf] at hj
  have hmod : j % 2 = 0 ∨ j % 2 = 1 := by omega
  rcases hmod with hm | hm
  · rw [hm] at hj
    rw [show o + j = o + j / 2 * 2 by omega, d0]
    exact hj
  · rw [hm] at hj
    rw [show o + j = o + j / 2 * 2 + 1 by omega, d1]
    exact hj
theorem flatP_take {w : World} {b o : Nat} {xs : List I2} (h : ∀ j, j < xs.length → w.cell? ⟨b, o + j * 2, none⟩ = some (.int .i64 (nth2 xs j).a) ∧ w.cell? ⟨b, o + j * 2 + 1, none⟩ = some (.int .i64 (nth2 xs j).b)) (m : Nat) : ∀ j u, ((xs.take m).flatMap encI2)[j]? = some u → w.cell? ⟨b, o + j, none⟩ = some u := by
  refine flatP (fun j hj => ?_)
  simp at hj
  have e : nth2 (xs.take m) j = nth2 xs j := by unfold nth2; rw [List.getD_eq_getElem?_getD, List.getD_eq_getElem?_getD, List.getElem?_take_of_lt (by omega)]
  rw [e]
  exact h j (by omega)
theorem flatP_drop {w : World} {b o o2 : Nat} {xs : List I2} (h : ∀ j, j < xs.length → w.cell? ⟨b, o + j * 2, none⟩ = some (.int .i64 (nth2 xs j).a) ∧ w.cell? ⟨b, o + j * 2 + 1, none⟩ = some (.int .i64 (nth2 xs j).b)) (m : Nat) (ho : m < xs.length → o2 = o + m * 2) : ∀ j u, ((xs.drop m).flatMap encI2)[j]? = some u → w.cell? ⟨b, o2 + j, none⟩ = some u := by
  refine flatP (fun j hj => ?_)
  simp at hj
  have e : nth2 (xs.drop m) j = nth2 xs (m + j) := by unfold nth2; rw [List.getD_eq_getElem?_getD, List.getD_eq_getElem?_getD, List.getElem?_drop]
  rw [e, ho (by omega), show o + m * 2 + j * 2 = o + (m + j) * 2 by omega]
  exact h (m + j) (by omega)
theorem zeroPair {W w8 : World} (hb : Below ((W.alloc (.cells #[.int .i64 0, .int .i64 0] 117)).drew).heap.size ((W.alloc (.cells #[.int .i64 0, .int .i64 0] 117)).drew) w8) :
    (w8.cell? ⟨W.heap.size, 0, none⟩ = some (.int .i64 0) ∧ w8.frozen? ⟨W.heap.size, 0, none⟩ = false) ∧ (w8.cell? ⟨W.heap.size, 1, none⟩ = some (.int .i64 0) ∧ w8.frozen? ⟨W.heap.size, 1, none⟩ = false) ∧ W.heap.size < w8.heap.size := by
  have hl : W.heap.size < ((W.alloc (.cells #[.int .i64 0, .int .i64 0] 117)).drew).heap.size := by simp
  refine ⟨⟨(hb.cell (p := ⟨W.heap.size, 0, none⟩) hl).trans ?_, (hb.frozen (p := ⟨W.heap.size, 0, none⟩) hl).trans ?_⟩, ⟨(hb.cell (p := ⟨W.heap.size, 1, none⟩) hl).trans ?_, (hb.frozen (p := ⟨W.heap.size, 1, none⟩) hl).trans ?_⟩, Nat.lt_of_lt_of_le hl hb.size⟩
  all_goals go_simp
theorem I2sIn.to_new {w w' : World} {B : Nat} {A : Option Addr} {xs : List I2} (h : I2sIn w (Zone.new B w.heap.size) A xs) (hb : Below w.heap.size w w') : I2sIn w' (Zone.new B w'.heap.size) A xs :=
  (h.new_call hb (Nat.le_refl _)).mono (Zone.new_le (Nat.le_refl _) hb.size)
set_option maxRecDepth 100000 in
set_option maxHeartbeats 40000000 in
theorem specDepartures_any (x : TTD) (A L T : Option Addr) (ca cl ct : Nat) (s f : Int) (w : World) (hA : StrsIn w (Zone.below w.heap.size) A x.net.stops) (hL : LinesIn w (Zone.below w.heap.size) L x.net.lines) (hT : I3sIn w (Zone.below w.heap.size) T x.trips) (hx : FitsT x) :
    Calls Try.prog 24 #[.agg #[.slice A x.net.stops.length ca, .slice L x.net.lines.length cl, .slice T x.trips.length ct], .int .i64 s, .int .i64 f] w (RetDp (dpL x s f) (dpB x s f) w) := by
  have H0' : Hid (TtBox w (w.alloc (.cells #[.slice A x.net.stops.length ca, .slice L x.net.lines.length cl, .slice T x.trips.length ct] 49)) w.heap.size x A ca L cl T ct) := Lib.hid (TtBox.box hA hL hT)
  have H0 : Hid (TtBox w ((w.alloc (.cells #[.slice A x.net.stops.length ca, .slice L x.net.lines.length cl, .slice T x.trips.length ct] 49)).alloc (.cells #[] 117)) w.heap.size x A ca L cl T ct) := Lib.hid (H0'.out.call (by go_grown))
  have O0 : Hid (OwnP ((w.alloc (.cells #[.slice A x.net.stops.length ca, .slice L x.net.lines.length cl, .slice T x.trips.length ct] 49)).alloc (.cells #[] 117)) (w.heap.size + 1) (.slice (some ⟨w.heap.size + 1, 0, none⟩) 0 0) []) := Lib.hid (by simpa using OwnE.empty (e := 117) (m := 2) (enc := encI2) (w := (w.alloc (.cells #[.slice A x.net.stops.length ca, .slice L x.net.lines.length cl, .slice T x.trips.length ct] 49))) (Nat.le_refl _))
  have I0 : Hid (I2sIn ((w.alloc (.cells #[.slice A x.net.stops.length ca, .slice L x.net.lines.length cl, .slice T x.trips.length ct] 49)).alloc (.cells #[] 117)) (Zone.new (w.heap.size + 1) ((w.alloc (.cells #[.slice A x.net.stops.length ca, .slice L x.net.lines.length cl, .slice T x.trips.length ct] 49)).alloc (.cells #[] 117)).heap.size) (some ⟨w.heap.size + 1, 0, none⟩) []) := Lib.hid (fun h => by simp at h)
  have hn := hx.trips
  have hm := hx.net.lines
  have hns := hx.net.stops
  have hws : IntKind.i64.wrap ((x.net.stops.length : Int) - 1) = (x.net.stops.length : Int) - 1 := IntWalk.i64_in _ (by omega)
  have hz0 : w.heap.size + 2 ≤ ((w.alloc (.cells #[.slice A x.net.stops.length ca, .slice L x.net.lines.length cl, .slice T x.trips.length ct] 49)).alloc (.cells #[] 117)).heap.size := by simp
  clear H0' hA hL hT
  cases g1 : ttB x
  · have hcd : dpB x s f = false := by unfold dpB; rw [g1]; rfl
    have HN := Lib.hid (And.intro (dpL_no hcd) hcd)
    clear hcd
    go_enter Try.func24, Try.ntmps24
    go_wp2_with fail
    generalize ((w.alloc (.cells #[.slice A x.net.stops.length ca, .slice L x.net.lines.length cl, .slice T x.trips.length ct] 49)).alloc (.cells #[] 117)) = w0 at *
    refine (l5Good_any x _ _ _ _ _ _ _ H0.out.stops H0.out.lines H0.out.trips hx).mono ?_
    rintro e w1 ⟨rfl, hb1⟩
    have H1 := Lib.hid (H0.out.call hb1)
    have O1 := Lib.hid (O0.out.call hb1)
    have I1 := Lib.hid (I0.out.new_call hb1 (Nat.le_refl _))
    have hz1 : w.heap.size + 2 ≤ w1.heap.size := Nat.le_trans hz0 hb1.size
    have hz01 := hb1.size
    clear hb1
    obtain ⟨c0, c1, c2⟩ := H1.out.cells
    go_wp2_with (first | (go_at_call 69; refine (l1In_any _ _ _ _).mono ?_; rintro e wt ⟨rfl, rfl⟩) | (go_at_call 81; refine (l4Time_any _ _).mono ?_; rintro e wt ⟨rfl, rfl⟩))
    go_ret2
    rw [HN.out.1, HN.out.2]
    exact ⟨_, 0, rfl, fun h => by simp at h, H1.out.bel⟩
  cases g2 : inB s 0 (x.net.stops.length - 1)
  · have hcd : dpB x s f = false := by unfold dpB; rw [g1, g2]; rfl
    have HN := Lib.hid (And.intro (dpL_no hcd) hcd)
    clear hcd
    go_enter Try.func24, Try.ntmps24
    go_wp2_with fail
    generalize ((w.alloc (.cells #[.slice A x.net.stops.length ca, .slice L x.net.lines.length cl, .slice T x.trips.length ct] 49)).alloc (.cells #[] 117)) = w0 at *
    refine (l5Good_any x _ _ _ _ _ _ _ H0.out.stops H0.out.lines H0.out.trips hx).mono ?_
    rintro e w1 ⟨rfl, hb1⟩
    have H1 := Lib.hid (H0.out.call hb1)
    have O1 := Lib.hid (O0.out.call hb1)
    have I1 := Lib.hid (I0.out.new_call hb1 (Nat.le_refl _))
    have hz1 : w.heap.size + 2 ≤ w1.heap.size := Nat.le_trans hz0 hb1.size
    have hz01 := hb1.size
    clear hb1
    obtain ⟨c0, c1, c2⟩ := H1.out.cells
    go_wp2_with (first | (go_at_call 69; refine (l1In_any _ _ _ _).mono ?_; rintro e wt ⟨rfl, rfl⟩) | (go_at_call 81; refine (l4Time_any _ _).mono ?_; rintro e wt ⟨rfl, rfl⟩))
    go_ret2
    rw [HN.out.1, HN.out.2]
    exact ⟨_, 0, rfl, fun h => by simp at h, H1.out.bel⟩
  cases g3 : tmB f
  · have hcd : dpB x s f = false := by unfold dpB; rw [g1, g2, g3]; rfl
    have HN := Lib.hid (And.intro (dpL_no hcd) hcd)
    clear hcd
    go_enter Try.func24, Try.ntmps24
    go_wp2_with fail
    generalize ((w.alloc (.cells #[.slice A x.net.stops.length ca, .slice L x.net.lines.length cl, .slice T x.trips.length ct] 49)).alloc (.cells #[] 117)) = w0 at *
    refine (l5Good_any x _ _ _ _ _ _ _ H0.out.stops H0.out.lines H0.out.trips hx).mono ?_
    rintro e w1 ⟨rfl, hb1⟩
    have H1 := Lib.hid (H0.out.call hb1)
    have O1 := Lib.hid (O0.out.call hb1)
    have I1 := Lib.hid (I0.out.new_call hb1 (Nat.le_refl _))
    have hz1 : w.heap.size + 2 ≤ w1.heap.size := Nat.le_trans hz0 hb1.size
    have hz01 := hb1.size
    clear hb1
    obtain ⟨c0, c1, c2⟩ := H1.out.cells
    go_wp2_with (first | (go_at_call 69; refine (l1In_any _ _ _ _).mono ?_; rintro e wt ⟨rfl, rfl⟩) | (go_at_call 81; refine (l4Time_any _ _).mono ?_; rintro e wt ⟨rfl, rfl⟩))
    go_ret2
    rw [HN.out.1, HN.out.2]
    exact ⟨_, 0, rfl, fun h => by simp at h, H1.out.bel⟩
  have hcd : dpB x s f = true := by unfold dpB; rw [g1, g2, g3]; rfl
  have HY := Lib.hid (And.intro (dpL_yes hcd) hcd)
  have HTi : Hid (∀ k, k < x.trips.length → Ti x k) := Lib.hid (fun k hk => ti_of g1 hk)
  have hnet := (ttB_ok g1).1
  have ht12 := (ttB_ok g1).2.1
  clear hcd
  go_enter Try.func24, Try.ntmps24
  go_wp2_with fail
  generalize ((w.alloc (.cells #[.slice A x.net.stops.length ca, .slice L x.net.lines.length cl, .slice T x.trips.length ct] 49)).alloc (.cells #[] 117)) = w0 at *
  refine (l5Good_any x _ _ _ _ _ _ _ H0.out.stops H0.out.lines H0.out.trips hx).mono ?_
  rintro e w1 ⟨rfl, hb1⟩
  have H1 := Lib.hid (H0.out.call hb1)
  have O1 := Lib.hid (O0.out.call hb1)
  have I1 := Lib.hid (I0.out.new_call hb1 (Nat.le_refl _))
  have hz1 : w.heap.size + 2 ≤ w1.heap.size := Nat.le_trans hz0 hb1.size
  have hz01 := hb1.size
  clear hb1
  obtain ⟨c0, c1, c2⟩ := H1.out.cells
  go_wp2_with (first | (go_at_call 69; refine (l1In_any _ _ _ _).mono ?_; rintro e wt ⟨rfl, rfl⟩) | (go_at_call 81; refine (l4Time_any _ _).mono ?_; rintro e wt ⟨rfl, rfl⟩))
  clear c0 c1 c2
  go_loopw [8, 9, 10, 11, 12] (fun v i _ _ _ wr => ∃ k b o c : Nat, k ≤ x.trips.length ∧ i = .int .i64 k ∧ v = .slice (some ⟨b, o, none⟩) (inD x s f k).length c ∧ (inD x s f k).length ≤ c ∧ c ≤ 9223372036854775807 ∧ I2sIn wr (Zone.new (w.heap.size + 1) wr.heap.size) (some ⟨b, o, none⟩) (inD x s f k) ∧ Below (w.heap.size + 1) w1 wr) (fun _ i _ _ _ _ => x.trips.length - (intOf i).toNat)
  case atStart => exact ⟨0, w.heap.size + 1, 0, 0, Nat.zero_le _, rfl, rfl, Nat.le_refl _, by omega, fun h => by simp [inD] at h, Below.refl _ _⟩
  case round =>
    obtain ⟨k, b, o, c, hk, rfl, rfl, hc1, hc2, hi, hb⟩ := hrel
    have H3I := Lib.hid hi
    have H3 := Lib.hid (H1.out.callB hb (Nat.lt_succ_self _))
    have H3B := Lib.hid hb
    have hz3 : w.heap.size + 1 ≤ wr.heap.size := Nat.le_trans (by omega) hb.size
    have hxl := inD_len x s f k
    have HC12 := Lib.hid (And.intro hc1 hc2)
    clear hi hb hc1 hc2
    obtain ⟨c0, c1, c2⟩ := H3.out.cells
    by_cases hlt : k < x.trips.length
    · have hik : (k : Int) < (x.trips.length : Int) := by omega
      have HTk := Lib.hid (HTi.out k hlt)
      obtain ⟨hln, hl60⟩ := netB_runs hnet (k := (nth3 x.trips k).b.toNat) (by have := HTk.out.b0; have := HTk.out.b1; omega)
      have HLH : Hid ((lnI x k).runs.length + 1 = (lnI x k).stops.length ∧ (lnI x k).stops.length ≤ 6) := Lib.hid (by unfold LineHd at hln; unfold lnI; omega)
      clear hln hl60
      go_wp2_with fail
      refine (l5Line_any x _ _ _ _ _ _ k _ H3.out.stops H3.out.lines H3.out.trips HTk.out hn hm).mono ?_
      rintro e w4 ⟨S, cs, R, cr, rfl, hs, _, _, _, hb4⟩
      have H4 := Lib.hid (H3.out.call hb4)
      have H4I := Lib.hid (H3I.out.to_new hb4)
      have H4B := Lib.hid (H3B.out.trans (hb4.mono hz3))
      have hz4 : w.heap.size + 1 ≤ w4.heap.size := Nat.le_trans hz3 hb4.size
      have HS4 := Lib.hid hs
      clear hs
      clear hb4 c0 c1 c2
      obtain ⟨c0, c1, c2⟩ := H4.out.cells
      go_wp2_with fail
      refine (l2Place_any (lnI x k) _ _ _ _ s _ HS4.out (by have := HLH.out.2; omega)).mono ?_
      rintro e w5 ⟨rfl, hb5⟩
      have H5 := Lib.hid (H4.out.call hb5)
      have H5I := Lib.hid (H4I.out.to_new hb5)
      have H5B := Lib.hid (H4B.out.trans (hb5.mono hz4))
      have hz5 : w.heap.size + 1 ≤ w5.heap.size := Nat.le_trans hz4 hb5.size
      clear hb5 c0 c1 c2
      obtain ⟨c0, c1, c2⟩ := H5.out.cells
      have HPL : Hid (plI x s k = ixI (lnI x k).stops s) := Lib.hid rfl
      have hpb := (ixI_bd (lnI x k).stops s)
      by_cases t1 : ixI (lnI x k).stops s < 0
      · have HF : Hid (inD x s f (k + 1) = inD x s f k) := Lib.hid (inD_no (dpK_no (by rw [HPL.out]; intro h; omega)))
        go_wp2_with fail
        go_roundw
        case rel => exact ⟨k + 1, b, o, c, by omega, by go_num, by rw [HF.out], by rw [HF.out]; exact HC12.out.1, HC12.out.2, by rw [HF.out]; exact H5I.out, H5B.out⟩
        case measure => simp [intOf]; omega
      · obtain ⟨q, hq⟩ : ∃ q : Nat, ixI (lnI x k).stops s = q := ⟨(ixI (lnI x k).stops s).toNat, by omega⟩
        rw [hq] at HPL hpb t1 ⊢
        clear hq
        have hll := HLH.out.1
        have hl6 := HLH.out.2
        have hrl5 : (lnI x k).runs.length ≤ 5 := by omega
        have HLL := Lib.hid hll
        have hwq : IntKind.i64.wrap (((lnI x k).stops.length : Int) - 1) = ((lnI x k).runs.length : Int) := by rw [IntWalk.i64_in _ (by omega)]; omega
        clear hll
        go_wp2_with fail
        refine (l5Stops_any x _ _ _ _ _ _ k _ H5.out.stops H5.out.lines H5.out.trips HTk.out hn hm).mono ?_
        rintro e w6 ⟨S6, cs6, rfl, _, hb6⟩
        have H6 := Lib.hid (H5.out.call hb6)
        have H6I := Lib.hid (H5I.out.to_new hb6)
        have H6B := Lib.hid (H5B.out.trans (hb6.mono hz5))
        have hz6 : w.heap.size + 1 ≤ w6.heap.size := Nat.le_trans hz5 hb6.size
        clear hb6 c0 c1 c2
        obtain ⟨c0, c1, c2⟩ := H6.out.cells
        by_cases t2 : q = (lnI x k).runs.length
        · have HF : Hid (inD x s f (k + 1) = inD x s f k) := Lib.hid (inD_no (dpK_no (by rw [HPL.out]; intro h; omega)))
          have t2' : ((q : Int) == ((lnI x k).runs.length : Int)) = true := by rw [t2]; simp
          have T2 := Lib.hid t2
          clear t2
          go_wp2_with fail
          go_roundw
          case rel => exact ⟨k + 1, b, o, c, by omega, by go_num, by rw [HF.out], by rw [HF.out]; exact HC12.out.1, HC12.out.2, by rw [HF.out]; exact H6I.out, H6B.out⟩
          case measure => simp [intOf]; omega
        · have t2' : ((q : Int) == ((lnI x k).runs.length : Int)) = false := by simp; omega
          have hqr : q < (lnI x k).runs.length := by have := HLL.out; omega
          go_wp2_with fail
          refine (l5At_any x _ _ _ _ _ _ k q _ _ H6.out.stops H6.out.lines H6.out.trips HTk.out hn hm rfl (by omega)).mono ?_
          rintro e w7 ⟨rfl, hb7⟩
          have H7 := Lib.hid (H6.out.call hb7)
          have H7I := Lib.hid (H6I.out.to_new hb7)
          have H7B := Lib.hid (H6B.out.trans (hb7.mono hz6))
          have hz7 : w.heap.size + 1 ≤ w7.heap.size := Nat.le_trans hz6 hb7.size
          clear hb7 c0 c1 c2
          obtain ⟨c0, c1, c2⟩ := H7.out.cells
          obtain ⟨tq, htq⟩ : ∃ tq, tq = atI x k q := ⟨_, rfl⟩
          rw [← htq]
          have HTQ := Lib.hid htq
          clear htq
          by_cases t3 : tq < f
          · have HF : Hid (inD x s f (k + 1) = inD x s f k) := Lib.hid (inD_no (dpK_no (by rw [HPL.out]; rw [Int.toNat_natCast, ← HTQ.out]; intro h; omega)))
            go_wp2_with fail
            go_roundw
            case rel => exact ⟨k + 1, b, o, c, by omega, by go_num, by rw [HF.out], by rw [HF.out]; exact HC12.out.1, HC12.out.2, by rw [HF.out]; exact H7I.out, H7B.out⟩
            case measure => simp [intOf]; omega
          · have HF : Hid (inD x s f (k + 1) = insG gtP (inD x s f k) ⟨tq, (nth3 x.trips k).a⟩) := Lib.hid (by
              rw [inD_yes (dpK_yes HPL.out hqr (by rw [← HTQ.out]; omega))]
              unfold dpV
              rw [HPL.out, Int.toNat_natCast, ← HTQ.out])
            obtain ⟨b2, o2, rfl, hbl2, d0, _, _⟩ := I3sIn.at H7.out.trips hlt
            have hb2 : b2 < w7.heap.size := hbl2
            have HD0 := Lib.hid d0
            clear d0 c0 c1 c2 t2' hwq hws
            obtain ⟨ya, hya⟩ : ∃ ya, ya = (nth3 x.trips k).a := ⟨_, rfl⟩
            rw [← hya] at HF HD0
            clear hya
            have hC : ∀ w', Below w7.heap.size w7 w' → Tt3 w' w.heap.size x A ca L cl (some ⟨b2, o2, none⟩) ct := fun w' h => (H7.out.call h).cells
            have hD : ∀ w', Below w7.heap.size w7 w' → w'.cell? ⟨b2, o2 + k * 3, none⟩ = some (.int .i64 ya) := fun w' h => (h.cell (p := ⟨b2, _, none⟩) hb2).trans HD0.out
            unfold Tt3 at hC
            go_wp2_with fail
            go_region_held3 (fun w' => Below w7.heap.size w7 w') (repeat' first | assumption | exact Nat.le_refl _ | exact Below.refl _ _ | (refine bel_drew ?_) | (refine bel_alloc ?_ _) | (refine bel_set ?_ ?_ _))
              (first
                | (go_at_call 85; refine (l5At_any x _ _ _ _ _ _ k q _ _ ((H7.out.call ‹Below w7.heap.size w7 _›).stops) ((H7.out.call ‹Below w7.heap.size w7 _›).lines) ((H7.out.call ‹Below w7.heap.size w7 _›).trips) HTk.out hn hm rfl (by omega)).mono ?_; rintro e w8 ⟨rfl, hb8⟩; rw [← HTQ.out]; have hB8 := bel_call ‹Below w7.heap.size w7 _› hb8; (first | (have e8 := zeroPair hb8) | skip))
                | fail)
            · have H9 := Lib.hid (H7.out.call (show Below w7.heap.size w7 (w8.alloc (.cells #[.int .i64 tq, .int .i64 ya] 117)) from bel_alloc hB8 _))
              have H9I : Hid (I2sIn (w8.alloc (.cells #[.int .i64 tq, .int .i64 ya] 117)) (Zone.new (w.heap.size + 1) (w8.alloc (.cells #[.int .i64 tq, .int .i64 ya] 117)).heap.size) (some ⟨b, o, none⟩) (inD x s f k)) := Lib.hid (H7I.out.to_new (bel_alloc hB8 _))
              have H9B : Hid (Below (w.heap.size + 1) w1 (w8.alloc (.cells #[.int .i64 tq, .int .i64 ya] 117))) := Lib.hid (H7B.out.trans ((bel_alloc hB8 _).mono hz7))
              have g0 : (w8.alloc (.cells #[.int .i64 tq, .int .i64 ya] 117)).cell? ⟨w8.heap.size, 0, none⟩ = some (.int .i64 tq) := by go_simp
              have g1 : (w8.alloc (.cells #[.int .i64 tq, .int .i64 ya] 117)).cell? ⟨w8.heap.size, 1, none⟩ = some (.int .i64 ya) := by go_simp
              have hg9 : w8.heap.size < (w8.alloc (.cells #[.int .i64 tq, .int .i64 ya] 117)).heap.size := by simp
              have hz9 : w.heap.size + 1 ≤ (w8.alloc (.cells #[.int .i64 tq, .int .i64 ya] 117)).heap.size := by have := hB8.size; simp; omega
              clear hC hD hb8 hB8
              generalize (w8.alloc (.cells #[.int .i64 tq, .int .i64 ya] 117)) = w9 at *
              obtain ⟨xs, hxs⟩ : ∃ xs, xs = inD x s f k := ⟨_, rfl⟩
              rw [← hxs] at HF H9I HC12 hxl ⊢
              clear hxs
              have hc1 := HC12.out.1
              have hc2 := HC12.out.2
              have G0 := Lib.hid g0
              have G1 := Lib.hid g1
              clear g0 g1
              go_upto_block 2 with fail
              go_cut [12] (fun a wz => ∃ m : Nat, m ≤ xs.length ∧ a = .int .i64 m ∧ posG gtP xs ⟨tq, ya⟩ xs.length = m ∧ Dr w9 wz)
              case first =>
                go_wp2_with fail
                go_loopw [12] (fun a wz => ∃ m : Nat, m ≤ xs.length ∧ a = .int .i64 m ∧ posG gtP xs ⟨tq, ya⟩ xs.length = posG gtP xs ⟨tq, ya⟩ m ∧ Dr w9 wz) (fun a _ => (intOf a).toNat)
                case atStart => exact ⟨xs.length, Nat.le_refl _, rfl, rfl, Dr.refl _⟩
                case round =>
                  obtain ⟨m, hm, rfl, hp, qq, rfl⟩ := hrel
                  have g0 := G0.out
                  have g1 := G1.out
                  by_cases h0 : 0 < m
                  · obtain ⟨m', hm'⟩ : ∃ m', m = m' + 1 := ⟨m - 1, by omega⟩
                    have HM' := Lib.hid hm'
                    have hk' : m' < xs.length := by omega
                    have hik' : (m' : Int) < (xs.length : Int) := by omega
                    have hw : IntKind.i64.wrap ((m : Int) - 1) = (m' : Int) := by rw [IntWalk.i64_in _ (by omega)]; omega
                    obtain ⟨b', o', e, _, ha, hb⟩ := I2sIn.at H9I.out hk'
                    simp only [Option.some.injEq, Addr.mk.injEq, and_true] at e
                    obtain ⟨rfl, rfl⟩ := e
                    have hgt : gtP (xs.getD m' default) ⟨tq, ya⟩ = decide (tq < (nth2 xs m').a ∨ (tq = (nth2 xs m').a ∧ ya < (nth2 xs m').b)) := rfl
                    obtain ⟨pa, hpa⟩ : ∃ pa, pa = (nth2 xs m').a := ⟨_, rfl⟩
                    obtain ⟨pb, hpb⟩ : ∃ pb, pb = (nth2 xs m').b := ⟨_, rfl⟩
                    rw [← hpa, ← hpb] at hgt
                    rw [← hpa] at ha
                    rw [← hpb] at hb
                    have HGT := Lib.hid hgt
                    clear hgt hpa hpb
                    have YES : Hid ((tq < pa ∨ (tq = pa ∧ ya < pb)) → posG gtP xs ⟨tq, ya⟩ xs.length = posG gtP xs ⟨tq, ya⟩ m') := Lib.hid (fun h => by rw [hp, hm']; exact posG_yes (by rw [HGT.out]; exact decide_eq_true h))
                    have NO : Hid (¬ (tq < pa ∨ (tq = pa ∧ ya < pb)) → posG gtP xs ⟨tq, ya⟩ xs.length = m) := Lib.hid (fun h => by rw [hp, hm']; exact posG_no (by rw [HGT.out]; exact decide_eq_false h))
                    clear hp hm'
                    by_cases t4 : tq < pa
                    · have HP := Lib.hid (YES.out (.inl t4))
                      go_wp2_with fail
                      go_quiet (fail)
                      go_wp2_with fail
                      go_roundw
                      case rel => first | exact ⟨m', by omega, by go_num, HP.out, _, rfl⟩ | exact ⟨m', by omega, by go_num, HP.out, Dr.drewN ⟨_, rfl⟩ _⟩
                      case measure => have := HM'.out; simp [intOf]; omega
                    · by_cases t5 : tq = pa
                      · by_cases t6 : ya < pb
                        · have HP := Lib.hid (YES.out (.inr ⟨t5, t6⟩))
                          subst t5
                          have v1 : decide (tq < tq) = false := by simp
                          go_wp2_with fail
                          go_quiet (fail)
                          go_wp2_with fail
                          go_roundw
                          case rel => first | exact ⟨m', by omega, by go_num, HP.out, _, rfl⟩ | exact ⟨m', by omega, by go_num, HP.out, Dr.drewN ⟨_, rfl⟩ _⟩
                          case measure => have := HM'.out; simp [intOf]; omega
                        · have HP := Lib.hid (NO.out (by omega))
                          subst t5
                          have v1 : decide (tq < tq) = false := by simp
                          go_wp2_with fail
                          go_quiet (fail)
                          go_wp2_with fail
                          go_meet
                          first | exact ⟨m, hm, rfl, HP.out, _, rfl⟩ | exact ⟨m, hm, rfl, HP.out, Dr.drewN ⟨_, rfl⟩ _⟩
                      · have HP := Lib.hid (NO.out (by omega))
                        have v2 : (pa == tq) = false := by simp; omega
                        have v3 : (tq == pa) = false := by simp; omega
                        have v4 : decide (tq < pa) = false := decide_eq_false t4
                        clear t5
                        go_wp2_with fail
                        go_quiet (fail)
                        go_wp2_with fail
                        go_meet
                        first | exact ⟨m, hm, rfl, HP.out, _, rfl⟩ | exact ⟨m, hm, rfl, HP.out, Dr.drewN ⟨_, rfl⟩ _⟩
                  · have HP := Lib.hid (show posG gtP xs ⟨tq, ya⟩ xs.length = m by rw [hp]; (have := posG_le gtP xs ⟨tq, ya⟩ m; omega))
                    have v0 : decide (0 < m) = false := decide_eq_false h0
                    clear hp
                    go_wp2_with fail
                    go_quiet (fail)
                    go_wp2_with fail
                    go_meet
                    first | exact ⟨m, hm, rfl, HP.out, _, rfl⟩ | exact ⟨m, hm, rfl, HP.out, Dr.drewN ⟨_, rfl⟩ _⟩
              case rest =>
                obtain ⟨m, hm, rfl, hp, hd⟩ := hcut
                have HP := Lib.hid hp
                have hmc : (m : Int) ≤ (c : Int) := by omega
                have hml : (m : Int) ≤ (xs.length : Int) := by omega
                have hlc : (xs.length : Int) ≤ (c : Int) := by omega
                have hm0i : (0 : Int) ≤ (m : Int) := by omega
                clear hp
                have hd2 := hd
                obtain ⟨qq, hqq⟩ := hd2
                have I5 : Hid (I2sIn wc (Zone.new (w.heap.size + 1) wc.heap.size) (some ⟨b, o, none⟩) xs) := Lib.hid (by rw [hqq]; exact H9I.out)
                have HB5 := Lib.hid (H9B.out.trans (hd.below _))
                have hz5 : w.heap.size + 1 ≤ wc.heap.size := by rw [hqq]; exact hz9
                have e0 : wc.cell? ⟨w8.heap.size, 0, none⟩ = some (.int .i64 tq) := by rw [hqq]; exact G0.out
                have e1 : wc.cell? ⟨w8.heap.size, 1, none⟩ = some (.int .i64 ya) := by rw [hqq]; exact G1.out
                have hg5 : w8.heap.size < wc.heap.size := by rw [hqq]; exact hg9
                clear hqq hd
                obtain ⟨w5, hw5⟩ : ∃ w5, w5 = wc := ⟨_, rfl⟩
                subst hw5
                go_wp2_with fail
                have hC : ∀ w', Below w5.heap.size w5 w' → w'.cell? ⟨w8.heap.size, 0, none⟩ = some (.int .i64 tq) ∧ w'.cell? ⟨w8.heap.size, 1, none⟩ = some (.int .i64 ya) := fun w' h => ⟨(h.cell (p := ⟨w8.heap.size, 0, none⟩) hg5).trans e0, (h.cell (p := ⟨w8.heap.size, 1, none⟩) hg5).trans e1⟩
                have HC : Hid (∀ w', Below w5.heap.size w5 w' → ∀ j, j < xs.length → w'.cell? ⟨b, o + j * 2, none⟩ = some (.int .i64 (nth2 xs j).a) ∧ w'.cell? ⟨b, o + j * 2 + 1, none⟩ = some (.int .i64 (nth2 xs j).b)) := Lib.hid (fun w' h j hj => by
                  obtain ⟨b', o', e, hz, k0, k1⟩ := I2sIn.at I5.out hj
                  simp only [Option.some.injEq, Addr.mk.injEq, and_true] at e
                  obtain ⟨rfl, rfl⟩ := e
                  exact ⟨(h.cell (p := ⟨b, _, none⟩) hz.2).trans k0, (h.cell (p := ⟨b, _, none⟩) hz.2).trans k1⟩)
                clear e0 e1
                have OC : OwnP ((w5.alloc (.cells #[.int .i64 tq, .int .i64 ya] 117)).alloc (.cells #[] 117)) w5.heap.size (.slice (some ⟨w5.heap.size + 1, 0, none⟩) 0 0) [] := by simpa using OwnE.empty (e := 117) (m := 2) (enc := encI2) (B := w5.heap.size) (w := w5.alloc (.cells #[.int .i64 tq, .int .i64 ya] 117)) (by simp)
                obtain ⟨o2', ho2⟩ : ∃ o2 : Nat, (if c = m then some (⟨b, o, none⟩ : Addr) else some ⟨b, o + m * 2, none⟩) = some ⟨b, o2, none⟩ ∧ (m < xs.length → o2 = o + m * 2) := by
                  by_cases e : c = m
                  · exact ⟨o, if_pos e, fun h => by omega⟩
                  · exact ⟨o + m * 2, if_neg e, fun _ => rfl⟩
                have HO2 := Lib.hid ho2
                clear ho2
                obtain ⟨i0, ii, iz0, iz1, iz2⟩ := info_parts Try.infoPair
                go_region_held3 (fun w' => Below w5.heap.size w5 w') (repeat' first | assumption | exact Nat.le_refl _ | exact Below.refl _ _ | (refine bel_drew ?_) | (refine bel_alloc ?_ _) | (refine bel_set ?_ ?_ _))
                  (first
                    | (refine step_apps (by rfl) _ _ 41 (by rfl) 16 Try.underlying41 ii iz0 iz1 iz2 rfl (by omega) (fun _ => rfl) encP_cell (by omega) w5.heap.size _ [] (xs.take m) _ (by first | with_reducible exact OwnE.drew1P (OwnE.empty (w := w5) (Nat.le_refl _)) | with_reducible exact OwnE.drew1P (OwnE.alloc (OwnE.empty (w := w5) (Nat.le_refl _)) _) | with_reducible exact OwnE.drew1P OC) (by rfl) b o _ _ (by rfl) (by simp <;> omega) (flatP_take (HC.out _ (by assumption)) m) (by simp <;> omega) (by simp <;> omega) ?_; intro v1 w1 ho1 hb1 hg1; have hB1 : Below w5.heap.size w5 w1 := Below.trans (by assumption) hb1)
                    | (refine step_apps (by rfl) _ _ 41 (by rfl) 16 Try.underlying41 ii iz0 iz1 iz2 rfl (by omega) (fun _ => rfl) encP_cell (by omega) w5.heap.size _ ([] ++ xs.take m) [⟨tq, ya⟩] _ (by first | exact ho1 | exact OwnE.call ho1 (by (repeat' first | exact Below.refl _ _ | exact Nat.le_refl _ | (refine bel_drew ?_) | (refine bel_alloc ?_ _)))) (by rfl) _ 0 1 1 (by rfl) (by rfl) (pairP_cells (by first | (go_simp; done) | (go_simp; rfl) | exact hg1.cell (v := .int .i64 tq) (by first | (go_simp; done) | (go_simp; rfl)) (by simp [Value.ownBlock])) (by first | (go_simp; done) | (go_simp; rfl) | exact hg1.cell (v := .int .i64 ya) (by first | (go_simp; done) | (go_simp; rfl)) (by simp [Value.ownBlock]))) (by simp <;> omega) (by have := hB1.size; first | omega | (simp <;> omega)) ?_; intro v2 w2 ho2 hb2 hg2; have hB2 : Below w5.heap.size w5 w2 := Below.trans (by assumption) hb2)
                    | (refine step_apps (by rfl) _ _ 41 (by rfl) 16 Try.underlying41 ii iz0 iz1 iz2 rfl (by omega) (fun _ => rfl) encP_cell (by omega) w5.heap.size _ ([] ++ xs.take m ++ [⟨tq, ya⟩]) (xs.drop m) _ ho2 (by rfl) b o2' _ _ (by show Value.slice (ite _ _ _) _ _ = _; rw [HO2.out.1]) (by simp <;> omega) (flatP_drop (HC.out _ (by assumption)) m HO2.out.2) (by simp <;> omega) hB2.size ?_; intro v3 w3 ho3 hb3 hg3; have hB3 : Below w5.heap.size w5 w3 := hB2.trans hb3)
                    | fail)
                all_goals
                  have HE : [] ++ xs.take m ++ [⟨tq, ya⟩] ++ xs.drop m = insG gtP xs ⟨tq, ya⟩ := by unfold insG; rw [HP.out]; simp
                  rw [HE] at ho3
                  have HO3 := Lib.hid ho3
                  have HB3 := Lib.hid (HB5.out.trans (hB3.mono hz5))
                  have hil := insG_len gtP xs ⟨tq, ya⟩
                  clear HE ho1 ho2 ho3 OC hC
                  obtain ⟨A, c3, rfl, h1, h2, hi⟩ := HO3.out.i2s
                  obtain ⟨b3, o3, rfl, _⟩ := hi (by omega)
                  have HI3 := Lib.hid (hi.mono (Zone.new_le hz5 (Nat.le_refl _)))
                  have HIL := Lib.hid hil
                  clear hi hil
                  go_wp2_with fail
                  go_roundw
                  case rel => exact ⟨k + 1, b3, o3, c3, by omega, by go_num, by rw [HF.out], by rw [HF.out]; exact h1, h2, by rw [HF.out]; exact HI3.out, HB3.out⟩
                  case measure => simp [intOf]; omega
            · have hB9 : Below w7.heap.size w7 ((w8.setCell ⟨w7.heap.size, 0, none⟩ (.int .i64 tq)).setCell ⟨w7.heap.size, 1, none⟩ (.int .i64 ya)) := (hB8.setCell (p := ⟨w7.heap.size, 0, none⟩) (Nat.le_refl _) _).setCell (p := ⟨w7.heap.size, 1, none⟩) (Nat.le_refl _) _
              obtain ⟨e80, e81, hz8⟩ := e8
              have H9 := Lib.hid (H7.out.call hB9)
              have H9I : Hid (I2sIn ((w8.setCell ⟨w7.heap.size, 0, none⟩ (.int .i64 tq)).setCell ⟨w7.heap.size, 1, none⟩ (.int .i64 ya)) (Zone.new (w.heap.size + 1) ((w8.setCell ⟨w7.heap.size, 0, none⟩ (.int .i64 tq)).setCell ⟨w7.heap.size, 1, none⟩ (.int .i64 ya)).heap.size) (some ⟨b, o, none⟩) (inD x s f k)) := Lib.hid (H7I.out.to_new hB9)
              have H9B : Hid (Below (w.heap.size + 1) w1 ((w8.setCell ⟨w7.heap.size, 0, none⟩ (.int .i64 tq)).setCell ⟨w7.heap.size, 1, none⟩ (.int .i64 ya))) := Lib.hid (H7B.out.trans (hB9.mono hz7))
              have n1 : (w8.setCell ⟨w7.heap.size, 0, none⟩ (.int .i64 tq)).cell? ⟨w7.heap.size, 1, none⟩ = some (.int .i64 0) := by rw [World.cell?_setCell_other _ _ _ _ (addr_ne (by omega))]; exact e81.1
              have g0 : ((w8.setCell ⟨w7.heap.size, 0, none⟩ (.int .i64 tq)).setCell ⟨w7.heap.size, 1, none⟩ (.int .i64 ya)).cell? ⟨w7.heap.size, 0, none⟩ = some (.int .i64 tq) := by rw [World.cell?_setCell_other _ _ _ _ (addr_ne (by omega)), World.cell?_setCell_same _ _ _ e80.1]
              have g1 : ((w8.setCell ⟨w7.heap.size, 0, none⟩ (.int .i64 tq)).setCell ⟨w7.heap.size, 1, none⟩ (.int .i64 ya)).cell? ⟨w7.heap.size, 1, none⟩ = some (.int .i64 ya) := by rw [World.cell?_setCell_same _ _ _ n1]
              have hg9 : w7.heap.size < ((w8.setCell ⟨w7.heap.size, 0, none⟩ (.int .i64 tq)).setCell ⟨w7.heap.size, 1, none⟩ (.int .i64 ya)).heap.size := by simpa using hz8
              have hz9 : w.heap.size + 1 ≤ ((w8.setCell ⟨w7.heap.size, 0, none⟩ (.int .i64 tq)).setCell ⟨w7.heap.size, 1, none⟩ (.int .i64 ya)).heap.size := by have := hB8.size; simp; omega
              clear hC hD hb8 hB8 hB9 e80 e81 hz8 n1
              generalize ((w8.setCell ⟨w7.heap.size, 0, none⟩ (.int .i64 tq)).setCell ⟨w7.heap.size, 1, none⟩ (.int .i64 ya)) = w9 at *
              obtain ⟨xs, hxs⟩ : ∃ xs, xs = inD x s f k := ⟨_, rfl⟩
              rw [← hxs] at HF H9I HC12 hxl ⊢
              clear hxs
              have hc1 := HC12.out.1
              have hc2 := HC12.out.2
              have G0 := Lib.hid g0
              have G1 := Lib.hid g1
              clear g0 g1
              go_upto_block 2 with fail
              go_cut [12] (fun a wz => ∃ m : Nat, m ≤ xs.length ∧ a = .int .i64 m ∧ posG gtP xs ⟨tq, ya⟩ xs.length = m ∧ Dr w9 wz)
              case first =>
                go_wp2_with fail
                go_loopw [12] (fun a wz => ∃ m : Nat, m ≤ xs.length ∧ a = .int .i64 m ∧ posG gtP xs ⟨tq, ya⟩ xs.length = posG gtP xs ⟨tq, ya⟩ m ∧ Dr w9 wz) (fun a _ => (intOf a).toNat)
                case atStart => exact ⟨xs.length, Nat.le_refl _, rfl, rfl, Dr.refl _⟩
                case round =>
                  obtain ⟨m, hm, rfl, hp, qq, rfl⟩ := hrel
                  have g0 := G0.out
                  have g1 := G1.out
                  by_cases h0 : 0 < m
                  · obtain ⟨m', hm'⟩ : ∃ m', m = m' + 1 := ⟨m - 1, by omega⟩
                    have HM' := Lib.hid hm'
                    have hk' : m' < xs.length := by omega
                    have hik' : (m' : Int) < (xs.length : Int) := by omega
                    have hw : IntKind.i64.wrap ((m : Int) - 1) = (m' : Int) := by rw [IntWalk.i64_in _ (by omega)]; omega
                    obtain ⟨b', o', e, _, ha, hb⟩ := I2sIn.at H9I.out hk'
                    simp only [Option.some.injEq, Addr.mk.injEq, and_true] at e
                    obtain ⟨rfl, rfl⟩ := e
                    have hgt : gtP (xs.getD m' default) ⟨tq, ya⟩ = decide (tq < (nth2 xs m').a ∨ (tq = (nth2 xs m').a ∧ ya < (nth2 xs m').b)) := rfl
                    obtain ⟨pa, hpa⟩ : ∃ pa, pa = (nth2 xs m').a := ⟨_, rfl⟩
                    obtain ⟨pb, hpb⟩ : ∃ pb, pb = (nth2 xs m').b := ⟨_, rfl⟩
                    rw [← hpa, ← hpb] at hgt
                    rw [← hpa] at ha
                    rw [← hpb] at hb
                    have HGT := Lib.hid hgt
                    clear hgt hpa hpb
                    have YES : Hid ((tq < pa ∨ (tq = pa ∧ ya < pb)) → posG gtP xs ⟨tq, ya⟩ xs.length = posG gtP xs ⟨tq, ya⟩ m') := Lib.hid (fun h => by rw [hp, hm']; exact posG_yes (by rw [HGT.out]; exact decide_eq_true h))
                    have NO : Hid (¬ (tq < pa ∨ (tq = pa ∧ ya < pb)) → posG gtP xs ⟨tq, ya⟩ xs.length = m) := Lib.hid (fun h => by rw [hp, hm']; exact posG_no (by rw [HGT.out]; exact decide_eq_false h))
                    clear hp hm'
                    by_cases t4 : tq < pa
                    · have HP := Lib.hid (YES.out (.inl t4))
                      go_wp2_with fail
                      go_quiet (fail)
                      go_wp2_with fail
                      go_roundw
                      case rel => first | exact ⟨m', by omega, by go_num, HP.out, _, rfl⟩ | exact ⟨m', by omega, by go_num, HP.out, Dr.drewN ⟨_, rfl⟩ _⟩
                      case measure => have := HM'.out; simp [intOf]; omega
                    · by_cases t5 : tq = pa
                      · by_cases t6 : ya < pb
                        · have HP := Lib.hid (YES.out (.inr ⟨t5, t6⟩))
                          subst t5
                          have v1 : decide (tq < tq) = false := by simp
                          go_wp2_with fail
                          go_quiet (fail)
                          go_wp2_with fail
                          go_roundw
                          case rel => first | exact ⟨m', by omega, by go_num, HP.out, _, rfl⟩ | exact ⟨m', by omega, by go_num, HP.out, Dr.drewN ⟨_, rfl⟩ _⟩
                          case measure => have := HM'.out; simp [intOf]; omega
                        · have HP := Lib.hid (NO.out (by omega))
                          subst t5
                          have v1 : decide (tq < tq) = false := by simp
                          go_wp2_with fail
                          go_quiet (fail)
                          go_wp2_with fail
                          go_meet
                          first | exact ⟨m, hm, rfl, HP.out, _, rfl⟩ | exact ⟨m, hm, rfl, HP.out, Dr.drewN ⟨_, rfl⟩ _⟩
                      · have HP := Lib.hid (NO.out (by omega))
                        have v2 : (pa == tq) = false := by simp; omega
                        have v3 : (tq == pa) = false := by simp; omega
                        have v4 : decide (tq < pa) = false := decide_eq_false t4
                        clear t5
                        go_wp2_with fail
                        go_quiet (fail)
                        go_wp2_with fail
                        go_meet
                        first | exact ⟨m, hm, rfl, HP.out, _, rfl⟩ | exact ⟨m, hm, rfl, HP.out, Dr.drewN ⟨_, rfl⟩ _⟩
                  · have HP := Lib.hid (show posG gtP xs ⟨tq, ya⟩ xs.length = m by rw [hp]; (have := posG_le gtP xs ⟨tq, ya⟩ m; omega))
                    have v0 : decide (0 < m) = false := decide_eq_false h0
                    clear hp
                    go_wp2_with fail
                    go_quiet (fail)
                    go_wp2_with fail
                    go_meet
                    first | exact ⟨m, hm, rfl, HP.out, _, rfl⟩ | exact ⟨m, hm, rfl, HP.out, Dr.drewN ⟨_, rfl⟩ _⟩
              case rest =>
                obtain ⟨m, hm, rfl, hp, hd⟩ := hcut
                have HP := Lib.hid hp
                have hmc : (m : Int) ≤ (c : Int) := by omega
                have hml : (m : Int) ≤ (xs.length : Int) := by omega
                have hlc : (xs.length : Int) ≤ (c : Int) := by omega
                have hm0i : (0 : Int) ≤ (m : Int) := by omega
                clear hp
                have hd2 := hd
                obtain ⟨qq, hqq⟩ := hd2
                have I5 : Hid (I2sIn wc (Zone.new (w.heap.size + 1) wc.heap.size) (some ⟨b, o, none⟩) xs) := Lib.hid (by rw [hqq]; exact H9I.out)
                have HB5 := Lib.hid (H9B.out.trans (hd.below _))
                have hz5 : w.heap.size + 1 ≤ wc.heap.size := by rw [hqq]; exact hz9
                have e0 : wc.cell? ⟨w7.heap.size, 0, none⟩ = some (.int .i64 tq) := by rw [hqq]; exact G0.out
                have e1 : wc.cell? ⟨w7.heap.size, 1, none⟩ = some (.int .i64 ya) := by rw [hqq]; exact G1.out
                have hg5 : w7.heap.size < wc.heap.size := by rw [hqq]; exact hg9
                clear hqq hd
                obtain ⟨w5, hw5⟩ : ∃ w5, w5 = wc := ⟨_, rfl⟩
                subst hw5
                go_wp2_with fail
                have hC : ∀ w', Below w5.heap.size w5 w' → w'.cell? ⟨w7.heap.size, 0, none⟩ = some (.int .i64 tq) ∧ w'.cell? ⟨w7.heap.size, 1, none⟩ = some (.int .i64 ya) := fun w' h => ⟨(h.cell (p := ⟨w7.heap.size, 0, none⟩) hg5).trans e0, (h.cell (p := ⟨w7.heap.size, 1, none⟩) hg5).trans e1⟩
                have HC : Hid (∀ w', Below w5.heap.size w5 w' → ∀ j, j < xs.length → w'.cell? ⟨b, o + j * 2, none⟩ = some (.int .i64 (nth2 xs j).a) ∧ w'.cell? ⟨b, o + j * 2 + 1, none⟩ = some (.int .i64 (nth2 xs j).b)) := Lib.hid (fun w' h j hj => by
                  obtain ⟨b', o', e, hz, k0, k1⟩ := I2sIn.at I5.out hj
                  simp only [Option.some.injEq, Addr.mk.injEq, and_true] at e
                  obtain ⟨rfl, rfl⟩ := e
                  exact ⟨(h.cell (p := ⟨b, _, none⟩) hz.2).trans k0, (h.cell (p := ⟨b, _, none⟩) hz.2).trans k1⟩)
                clear e0 e1
                have OC : OwnP ((w5.alloc (.cells #[.int .i64 tq, .int .i64 ya] 117)).alloc (.cells #[] 117)) w5.heap.size (.slice (some ⟨w5.heap.size + 1, 0, none⟩) 0 0) [] := by simpa using OwnE.empty (e := 117) (m := 2) (enc := encI2) (B := w5.heap.size) (w := w5.alloc (.cells #[.int .i64 tq, .int .i64 ya] 117)) (by simp)
                obtain ⟨o2', ho2⟩ : ∃ o2 : Nat, (if c = m then some (⟨b, o, none⟩ : Addr) else some ⟨b, o + m * 2, none⟩) = some ⟨b, o2, none⟩ ∧ (m < xs.length → o2 = o + m * 2) := by
                  by_cases e : c = m
                  · exact ⟨o, if_pos e, fun h => by omega⟩
                  · exact ⟨o + m * 2, if_neg e, fun _ => rfl⟩
                have HO2 := Lib.hid ho2
                clear ho2
                obtain ⟨i0, ii, iz0, iz1, iz2⟩ := info_parts Try.infoPair
                go_region_held3 (fun w' => Below w5.heap.size w5 w') (repeat' first | assumption | exact Nat.le_refl _ | exact Below.refl _ _ | (refine bel_drew ?_) | (refine bel_alloc ?_ _) | (refine bel_set ?_ ?_ _))
                  (first
                    | (refine step_apps (by rfl) _ _ 41 (by rfl) 16 Try.underlying41 ii iz0 iz1 iz2 rfl (by omega) (fun _ => rfl) encP_cell (by omega) w5.heap.size _ [] (xs.take m) _ (by first | with_reducible exact OwnE.drew1P (OwnE.empty (w := w5) (Nat.le_refl _)) | with_reducible exact OwnE.drew1P (OwnE.alloc (OwnE.empty (w := w5) (Nat.le_refl _)) _) | with_reducible exact OwnE.drew1P OC) (by rfl) b o _ _ (by rfl) (by simp <;> omega) (flatP_take (HC.out _ (by assumption)) m) (by simp <;> omega) (by simp <;> omega) ?_; intro v1 w1 ho1 hb1 hg1; have hB1 : Below w5.heap.size w5 w1 := Below.trans (by assumption) hb1)
                    | (refine step_apps (by rfl) _ _ 41 (by rfl) 16 Try.underlying41 ii iz0 iz1 iz2 rfl (by omega) (fun _ => rfl) encP_cell (by omega) w5.heap.size _ ([] ++ xs.take m) [⟨tq, ya⟩] _ (by first | exact ho1 | exact OwnE.call ho1 (by (repeat' first | exact Below.refl _ _ | exact Nat.le_refl _ | (refine bel_drew ?_) | (refine bel_alloc ?_ _)))) (by rfl) _ 0 1 1 (by rfl) (by rfl) (pairP_cells (by first | (go_simp; done) | (go_simp; rfl) | exact hg1.cell (v := .int .i64 tq) (by first | (go_simp; done) | (go_simp; rfl)) (by simp [Value.ownBlock])) (by first | (go_simp; done) | (go_simp; rfl) | exact hg1.cell (v := .int .i64 ya) (by first | (go_simp; done) | (go_simp; rfl)) (by simp [Value.ownBlock]))) (by simp <;> omega) (by have := hB1.size; first | omega | (simp <;> omega)) ?_; intro v2 w2 ho2 hb2 hg2; have hB2 : Below w5.heap.size w5 w2 := Below.trans (by assumption) hb2)
                    | (refine step_apps (by rfl) _ _ 41 (by rfl) 16 Try.underlying41 ii iz0 iz1 iz2 rfl (by omega) (fun _ => rfl) encP_cell (by omega) w5.heap.size _ ([] ++ xs.take m ++ [⟨tq, ya⟩]) (xs.drop m) _ ho2 (by rfl) b o2' _ _ (by show Value.slice (ite _ _ _) _ _ = _; rw [HO2.out.1]) (by simp <;> omega) (flatP_drop (HC.out _ (by assumption)) m HO2.out.2) (by simp <;> omega) hB2.size ?_; intro v3 w3 ho3 hb3 hg3; have hB3 : Below w5.heap.size w5 w3 := hB2.trans hb3)
                    | fail)
                all_goals
                  have HE : [] ++ xs.take m ++ [⟨tq, ya⟩] ++ xs.drop m = insG gtP xs ⟨tq, ya⟩ := by unfold insG; rw [HP.out]; simp
                  rw [HE] at ho3
                  have HO3 := Lib.hid ho3
                  have HB3 := Lib.hid (HB5.out.trans (hB3.mono hz5))
                  have hil := insG_len gtP xs ⟨tq, ya⟩
                  clear HE ho1 ho2 ho3 OC hC
                  obtain ⟨A, c3, rfl, h1, h2, hi⟩ := HO3.out.i2s
                  obtain ⟨b3, o3, rfl, _⟩ := hi (by omega)
                  have HI3 := Lib.hid (hi.mono (Zone.new_le hz5 (Nat.le_refl _)))
                  have HIL := Lib.hid hil
                  clear hi hil
                  go_wp2_with fail
                  go_roundw
                  case rel => exact ⟨k + 1, b3, o3, c3, by omega, by go_num, by rw [HF.out], by rw [HF.out]; exact h1, h2, by rw [HF.out]; exact HI3.out, HB3.out⟩
                  case measure => simp [intOf]; omega
    · obtain rfl : k = x.trips.length := by omega
      go_wp2_with fail
      go_ret2
      rw [HY.out.1, HY.out.2]
      exact ⟨some ⟨b, o, none⟩, c, rfl, H3I.out.mono (Zone.new_le (by omega) (Nat.le_refl _)), H3.out.bel⟩

end Go.Proofs.Ytambgommeannnaa
