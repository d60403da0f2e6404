/- The text of a network: the program. -/
import Derived.Test.YtdiffepokiabkaaDoorFma
import Derived.Test.YtdiffepokiabkaaDoorBld
namespace Go.Proofs.YtdiffepokiabkaaDoor
open Go.ChangeShapes Go.WideShapes Go.ChangeAt Go.RowKit Go.PlainAid
set_option linter.unusedVariables false
set_option linter.unusedSimpArgs false

theorem BldS.call {B b : Nat} {s : ByteArray} {w w' : World} (h : BldS B b s w) (hb : Below w.heap.size w w') : BldS B b s w' := by
  have key : ∀ p : Value, Lib.BuilderAt 106 5 B b p (Lib.strCells s) w → Lib.BuilderAt 106 5 B b p (Lib.strCells s) w' := by
    rintro p ⟨hB, v, hbk, hown, hne⟩
    refine ⟨hB, v, ?_, ⟨hown.1, ?_⟩, hne⟩
    · rw [hb.block b (Array.getElem?_eq_some_iff.1 hbk).1]; exact hbk
    · rcases hown.2 with h2 | ⟨g, cap, cur, hv, hg, hh, r⟩
      · exact Or.inl h2
      · exact Or.inr ⟨g, cap, cur, hv, hg, by rw [hb.block g (Array.getElem?_eq_some_iff.1 hh).1]; exact hh, r⟩
  rcases h with h | h
  · exact Or.inl (key _ h)
  · exact Or.inr (key _ h)
theorem BldS.lt {B b : Nat} {s : ByteArray} {w : World} (h : BldS B b s w) : b < w.heap.size := by
  rcases h with h | h
  · exact Lib.BuilderAt.lt h
  · exact Lib.BuilderAt.lt h
/-- A line's box, kept by what writes to a builder. -/
theorem kept_line {b g : Nat} {cs : Array Value} {fr : Nat × Nat} {w w' : World} (h : w.heap[g]? = some (.cells cs 80 fr)) (hk : Lib.OthersKept 5 (some b) w w') (hg : g ≠ b) : w'.heap[g]? = some (.cells cs 80 fr) :=
  hk g _ h (fun e => hg (Option.some.inj e)) (fun c fz e => by injection e with e1 e2 e3; exact absurd e2 (by decide))
theorem heap_alloc_new' (w : World) (o : Obj) : (w.alloc o).heap[w.heap.size]? = some o := by
  show (w.heap.push o)[w.heap.size]? = some o
  rw [Array.getElem?_push_size]
theorem call_line {g : Nat} {o : Obj} {w w' : World} (h : w.heap[g]? = some o) (hb : Below w.heap.size w w') : w'.heap[g]? = some o := by
  rw [hb.block g (Array.getElem?_eq_some_iff.1 h).1]; exact h

set_option maxRecDepth 100000 in
set_option maxHeartbeats 4000000 in
theorem formatNetwork_any (x : NetD) (A L : Option Addr) (ca cl : Nat) (w : World) (hA : StrsIn w (Zone.below w.heap.size) A x.stops) (hL : LinesIn w (Zone.below w.heap.size) L x.lines) (hx : Fits x) (hg : netB x = true) (HT0 : Pow10 w) :
    Calls Tryd.prog 95 #[.agg #[.slice A x.stops.length ca, .slice L x.lines.length cl]] w fun e w' => e = .returned (.string (netT x)) ∧ Below w.heap.size w w' := by
  have H0 : Hid (NetBox w (w.alloc (.cells #[.slice A x.stops.length ca, .slice L x.lines.length cl] 25)) w.heap.size x A ca L cl) := Lib.hid (NetBox.box hA hL)
  have HX := Lib.hid (ntX_of hg)
  have HT := Lib.hid HT0
  have z1 : (⟨#[115, 116, 111, 112, 32]⟩ : ByteArray).size = 5 := rfl
  have z2 : (⟨#[10]⟩ : ByteArray).size = 1 := rfl
  have z3 : (⟨#[108, 105, 110, 101, 32]⟩ : ByteArray).size = 5 := rfl
  have z4 : (⟨#[32]⟩ : ByteArray).size = 1 := rfl
  have hz0 : (w.alloc (.cells #[.slice A x.stops.length ca, .slice L x.lines.length cl] 25)).heap.size = w.heap.size + 1 := by simp
  have BD0 : Hid (BldS (w.alloc (.cells #[.slice A x.stops.length ca, .slice L x.lines.length cl] 25)).heap.size (w.alloc (.cells #[.slice A x.stops.length ca, .slice L x.lines.length cl] 25)).heap.size ⟨#[]⟩ ((w.alloc (.cells #[.slice A x.stops.length ca, .slice L x.lines.length cl] 25)).alloc (.cells #[.pointer none, .slice none 0 0] 106))) := Lib.hid (Lib.fresh_isBuilder 106 5 (w.alloc (.cells #[.slice A x.stops.length ca, .slice L x.lines.length cl] 25)))
  have hb1 : Below (w.alloc (.cells #[.slice A x.stops.length ca, .slice L x.lines.length cl] 25)).heap.size (w.alloc (.cells #[.slice A x.stops.length ca, .slice L x.lines.length cl] 25)) ((w.alloc (.cells #[.slice A x.stops.length ca, .slice L x.lines.length cl] 25)).alloc (.cells #[.pointer none, .slice none 0 0] 106)) := by go_grown
  have H1 : Hid (NetBox w ((w.alloc (.cells #[.slice A x.stops.length ca, .slice L x.lines.length cl] 25)).alloc (.cells #[.pointer none, .slice none 0 0] 106)) w.heap.size x A ca L cl) := Lib.hid (H0.out.call hb1)
  have hz1 : w.heap.size + 1 ≤ ((w.alloc (.cells #[.slice A x.stops.length ca, .slice L x.lines.length cl] 25)).alloc (.cells #[.pointer none, .slice none 0 0] 106)).heap.size := by simp
  have c0 : ((w.alloc (.cells #[.slice A x.stops.length ca, .slice L x.lines.length cl] 25)).alloc (.cells #[.pointer none, .slice none 0 0] 106)).cell? ⟨w.heap.size, 0, none⟩ = some (.slice A x.stops.length ca) := H1.out.cells.1
  rw [hz0] at BD0 hb1
  clear hA hL hg HT0 hb1
  go_enter Tryd.func95, Tryd.ntmps95
  go_wp2_with fail
  generalize ((w.alloc (.cells #[.slice A x.stops.length ca, .slice L x.lines.length cl] 25)).alloc (.cells #[.pointer none, .slice none 0 0] 106)) = w1 at *
  clear hz0 H0 c0
  have J0 : Hid ((⟨#[]⟩ : ByteArray) = stT x 0) := Lib.hid rfl
  rw [J0.out] at BD0
  go_loopw [5, 13] (fun _ j wr => ∃ k : Nat, k ≤ x.stops.length ∧ j = .int .i64 k ∧ BldS (w.heap.size + 1) (w.heap.size + 1) (stT x k) wr ∧ Below (w.heap.size + 1) w1 wr) (fun _ j _ => x.stops.length - (intOf j).toNat)
  case atStart => exact ⟨0, Nat.zero_le _, rfl, BD0.out, Below.refl _ _⟩
  case round =>
    obtain ⟨k, hk, rfl, hbd, hb⟩ := hrel
    have H2 := Lib.hid (H1.out.callB hb (by omega))
    have HB := Lib.hid hb
    have BD := Lib.hid hbd
    have hz := Nat.le_trans hz1 hb.size
    clear hb hbd
    by_cases hlt : k < x.stops.length
    · have hss := (stT_size HX.out k hk).2
      have hns := HX.out.ns
      have hnm := HX.out.stop k hlt
      obtain ⟨b, o, rfl, hbl, hc0⟩ := H2.out.stops0.get hlt
      have hc : wr.cell? ⟨b, o + k, none⟩ = some (.string (nthS x.stops k)) := hc0
      have hik : (k : Int) < x.stops.length := by omega
      have HS := Lib.hid (stT_succ' x k)
      clear hc0
      go_wp2_with fail
      have hsz : (stT x k).size + (⟨#[115, 116, 111, 112, 32]⟩ ++ nthS x.stops k ++ ⟨#[10]⟩).size ≤ 140737488355328 := by
        simp only [ByteArray.size_append, z1, z2]; omega
      have hw := writeString_any (w.heap.size + 1) (w.heap.size + 1) (stT x k) (⟨#[115, 116, 111, 112, 32]⟩ ++ nthS x.stops k ++ ⟨#[10]⟩) wr BD.out hsz hz
      clear hsz
      refine hw.mono ?_
      rintro e w2 ⟨rfl, hbd2, hb2, _⟩
      clear hw
      rw [HS.out] at hbd2
      have BD2 := Lib.hid hbd2
      have HB2 := Lib.hid (HB.out.trans hb2)
      clear hbd2 hb2
      go_wp2_with fail
      go_roundw
      case rel => exact ⟨k + 1, by omega, by go_num, BD2.out, HB2.out⟩
      case measure => simp [intOf]; omega
    · obtain rfl : k = x.stops.length := by omega
      obtain ⟨c0, c1⟩ := H2.out.cells
      have J1 : Hid (stT x x.stops.length = lnT x 0) := Lib.hid rfl
      rw [J1.out] at BD
      go_wp2_with fail
      clear c0 c1
      obtain ⟨wa, rfl⟩ : ∃ wa : World, wa = wr := ⟨_, rfl⟩
      go_loopw [7, 8, 9, 25, 36] (fun _ _ _ j _ wr => ∃ i : Nat, i ≤ x.lines.length ∧ j = .int .i64 i ∧ BldS (w.heap.size + 1) (w.heap.size + 1) (lnT x i) wr ∧ Below (w.heap.size + 1) wa wr) (fun _ _ _ j _ _ => x.lines.length - (intOf j).toNat)
      case atStart => exact ⟨0, Nat.zero_le _, rfl, BD.out, Below.refl _ _⟩
      case round =>
        obtain ⟨i, hi, rfl, hbd, hb⟩ := hrel
        have H3 := Lib.hid (H2.out.callB hb (by omega))
        have HB3 := Lib.hid hb
        have BD3 := Lib.hid hbd
        have hz3 := Nat.le_trans hz hb.size
        clear hb hbd
        by_cases hlt : i < x.lines.length
        · have hls := (lnT_size HX.out i hi).2
          have hln := HX.out.nl
          have HY := Lib.hid (HX.out.line i hlt)
          have hyn := HY.out.name
          obtain ⟨b, o, rfl, hbl, S, cs, R, cr, hc0, hc1, hc2, hi1, hi2, hcs, hcr⟩ := LinesIn.lineC H3.out.lines0 hlt
          have HI1 := Lib.hid hi1
          have HI2 := Lib.hid hi2
          have hik : (i : Int) < x.lines.length := by omega
          have W2B : Hid (Below wr.heap.size wr (wr.alloc (.cells #[.string (nthL x.lines i).name, .slice S (nthL x.lines i).stops.length cs, .slice R (nthL x.lines i).runs.length cr] 80))) := Lib.hid (by go_grown)
          have W2L : Hid ((wr.alloc (.cells #[.string (nthL x.lines i).name, .slice S (nthL x.lines i).stops.length cs, .slice R (nthL x.lines i).runs.length cr] 80)).heap[wr.heap.size]? = some (.cells #[.string (nthL x.lines i).name, .slice S (nthL x.lines i).stops.length cs, .slice R (nthL x.lines i).runs.length cr] 80 (0, 0))) := Lib.hid (heap_alloc_new' _ _)
          have l0 : (wr.alloc (.cells #[.string (nthL x.lines i).name, .slice S (nthL x.lines i).stops.length cs, .slice R (nthL x.lines i).runs.length cr] 80)).cell? ⟨wr.heap.size, 0, none⟩ = some (.string (nthL x.lines i).name) := by go_simp
          have hz2 : wr.heap.size < (wr.alloc (.cells #[.string (nthL x.lines i).name, .slice S (nthL x.lines i).stops.length cs, .slice R (nthL x.lines i).runs.length cr] 80)).heap.size := by simp
          clear hi1 hi2
          go_wp2_with fail
          have W2I1 := Lib.hid (HI1.out.at_below ((Below.refl _ _ : Below w.heap.size wr wr)))
          have BD4 := Lib.hid (BD3.out.call W2B.out)
          have H4 := Lib.hid (H3.out.call W2B.out)
          have HB4 := Lib.hid (bel_of HB3.out (by omega) W2B.out)
          have hne : wr.heap.size ≠ w.heap.size + 1 := by have := BD3.out.lt; omega
          clear hc0 hc1 hc2 l0 W2I1
          generalize hgb : wr.heap.size = gb at *
          generalize (wr.alloc (.cells #[.string (nthL x.lines i).name, .slice S (nthL x.lines i).stops.length cs, .slice R (nthL x.lines i).runs.length cr] 80)) = wb at *
          generalize hyy : nthL x.lines i = y at *
          have HYY := Lib.hid hyy
          clear hyy
          have hsz : (lnT x i).size + (⟨#[108, 105, 110, 101, 32]⟩ ++ y.name).size ≤ 140737488355328 := by
            simp only [ByteArray.size_append, z3]; omega
          have hw := writeString_any (w.heap.size + 1) (w.heap.size + 1) (lnT x i) (⟨#[108, 105, 110, 101, 32]⟩ ++ y.name) wb BD4.out hsz (by omega)
          clear hsz
          refine hw.mono ?_
          rintro e w3 ⟨rfl, hbd3, hb3, hk3⟩
          clear hw
          have hz4 := hb3.size
          have HG3 := Lib.hid (kept_line W2L.out hk3 hne)
          have H5 := Lib.hid (H4.out.callB hb3 (by omega))
          have HB5 := Lib.hid (HB4.out.trans hb3)
          obtain ⟨s0, hs0⟩ : ∃ s0, s0 = lnT x i ++ (⟨#[108, 105, 110, 101, 32]⟩ ++ y.name) := ⟨_, rfl⟩
          have hs0z : s0.size ≤ 600 := by rw [hs0, ByteArray.size_append, ByteArray.size_append, z3]; omega
          have HS0 : Hid (s0 = lnT x i ++ ⟨#[108, 105, 110, 101, 32]⟩ ++ y.name) := Lib.hid (by rw [hs0, ByteArray.append_assoc])
          rw [← hs0] at hbd3
          have J2 : Hid (s0 = wiT x y s0 0) := Lib.hid rfl
          rw [J2.out] at hbd3
          have BD5 := Lib.hid hbd3
          have l1 : w3.cell? ⟨gb, 1, none⟩ = some (.slice S y.stops.length cs) := by rw [Lib.cell_of_heap HG3.out]; rfl
          have I1 := Lib.hid ((HI1.out.at_below (W2B.out.mono (by omega))).at_below (hb3.mono (by omega)))
          have I2 := Lib.hid ((HI2.out.at_below (W2B.out.mono (by omega))).at_below (hb3.mono (by omega)))
          clear hs0 hbd3 hk3 hb3
          go_wp2_with fail
          clear l1
          obtain ⟨wi, rfl⟩ : ∃ wi : World, wi = w3 := ⟨_, rfl⟩
          go_loopw [8, 9, 36] (fun _ _ j wr => ∃ k : Nat, k ≤ y.stops.length ∧ j = .int .i64 k ∧ BldS (w.heap.size + 1) (w.heap.size + 1) (wiT x y s0 k) wr ∧ Below (w.heap.size + 1) wi wr ∧ wr.heap[gb]? = some (.cells #[.string y.name, .slice S y.stops.length cs, .slice R y.runs.length cr] 80 (0, 0))) (fun _ _ j _ => y.stops.length - (intOf j).toNat)
          case atStart => exact ⟨0, Nat.zero_le _, rfl, BD5.out, Below.refl _ _, HG3.out⟩
          case round =>
            obtain ⟨k, hk, rfl, hbd, hbc, hgk⟩ := hrel
            have H6 := Lib.hid (H5.out.callB hbc (by omega))
            have HBC := Lib.hid (HB5.out.trans hbc)
            have HBc := Lib.hid hbc
            have BD6 := Lib.hid hbd
            have HG6 := Lib.hid hgk
            have hz6 := hbc.size
            have hwz := wiT_size HY.out s0 k hk
            have hyl := HY.out.len
            by_cases hlk : k < y.stops.length
            · obtain ⟨m0, m1, m2⟩ := HY.out.stop k hlk
              obtain ⟨m, hmm⟩ : ∃ m : Nat, nth y.stops k = m := ⟨(nth y.stops k).toNat, by omega⟩
              have hml : m < x.stops.length := by omega
              have hmi : (m : Int) < x.stops.length := by omega
              have hsn : nthS x.stops m = sN x y k := by unfold sN; rw [hmm]; rfl
              obtain ⟨b1, o1, rfl, hbl1, hd1⟩ := (IntsIn.at (I1.out.at_below (hbc.mono (by omega)))).get hlk
              rw [hmm] at hd1
              obtain ⟨b2, o2, rfl, hbl2, hd2⟩ := H6.out.stops0.get hml
              replace hd2 : wr.cell? ⟨b2, o2 + m, none⟩ = some (.string (nthS x.stops m)) := hd2
              rw [hsn] at hd2
              have hns := sN_size HY.out hlk
              have hki : (k : Int) < y.stops.length := by omega
              clear m0 m1 m2 hmm hsn
              by_cases hk0 : k = 0
              · have hkn : ¬ ((0 : Int) < (k : Int)) := by omega
                have hkd : decide ((0 : Int) < (k : Int)) = false := decide_eq_false hkn
                have HW : Hid (wiT x y s0 k ++ (⟨#[32]⟩ ++ sN x y k) = wiT x y s0 (k + 1)) := Lib.hid (by subst hk0; rfl)
                obtain ⟨c0, c1⟩ := H6.out.cells
                have hw := writeString_any (w.heap.size + 1) (w.heap.size + 1) (wiT x y s0 k) (⟨#[32]⟩ ++ sN x y k) wr BD6.out (by rw [ByteArray.size_append, z4]; omega) (by omega)
                clear hk0 hbd hgk hbc
                go_wp2_with fail
                refine hw.mono ?_
                rintro e w4 ⟨rfl, hbd4, hb4, hk4⟩
                rw [HW.out] at hbd4
                clear hw
                have BD7 := Lib.hid hbd4
                have HG7 := Lib.hid (kept_line HG6.out hk4 hne)
                have hz7 := hb4.size
                have HB7 := Lib.hid hb4
                clear hbd4 hk4 hb4
                go_wp2_with fail
                go_roundw
                case rel => exact ⟨k + 1, by omega, by go_num, BD7.out, HBc.out.trans HB7.out, HG7.out⟩
                case measure => simp [intOf]; omega
              · have hkp : (0 : Int) < (k : Int) := by omega
                have hkd : decide ((0 : Int) < (k : Int)) = true := decide_eq_true hkp
                have HW : Hid (wiT x y s0 k ++ (⟨#[32]⟩ ++ rN y (k - 1)) ++ (⟨#[32]⟩ ++ sN x y k) = wiT x y s0 (k + 1)) := Lib.hid (wiT_pos (by omega))
                have hrun := HY.out.runs
                have hkr : k - 1 < y.runs.length := by omega
                obtain ⟨r0, r1⟩ := HY.out.run (k - 1) hkr
                have hrz := rN_size HY.out hkr
                have HRN : Hid (bs (num (nth y.runs (k - 1))) = rN y (k - 1)) := Lib.hid rfl
                obtain ⟨b3, o3, rfl, hbl3, hd3⟩ := (IntsIn.at (I2.out.at_below (hbc.mono (by omega)))).get hkr
                have l2 : wr.cell? ⟨gb, 2, none⟩ = some (.slice (some ⟨b3, o3, none⟩) y.runs.length cr) := by rw [Lib.cell_of_heap HG6.out]; rfl
                have hsb : IntKind.i64.wrap ((k : Int) - 1) = ((k - 1 : Nat) : Int) := by rw [IntWalk.i64_in _ (by omega)]; omega
                have hri : ((k - 1 : Nat) : Int) < y.runs.length := by omega
                have E2 := Lib.hid hd2
                have HP := Lib.hid (HT.out.call H6.out.bel)
                have hit := itoa_any (nth y.runs (k - 1)) wr (by omega) (by omega) HP.out
                have hszr : (wiT x y s0 k).size + (⟨#[32]⟩ ++ rN y (k - 1)).size ≤ 140737488355328 := by rw [ByteArray.size_append, z4]; omega
                have hszs : (wiT x y s0 k ++ (⟨#[32]⟩ ++ rN y (k - 1))).size + (⟨#[32]⟩ ++ sN x y k).size ≤ 140737488355328 := by rw [ByteArray.size_append, ByteArray.size_append, ByteArray.size_append, z4]; omega
                have HSR := Lib.hid hszr
                have HSS := Lib.hid hszs
                generalize hrr : rN y (k - 1) = rr at *
                clear hk0 hbd hgk hbc hrun hkr hd2 hszr hszs hrr
                go_wp2_with fail
                refine hit.mono ?_
                rintro e w4 ⟨rfl, hb4⟩
                rw [HRN.out]
                have BD7 := Lib.hid (BD6.out.call hb4)
                have HG7 := Lib.hid (call_line HG6.out hb4)
                have hz7 := hb4.size
                have HB7 := Lib.hid (bel_of HBc.out (by omega) hb4)
                have H7 := Lib.hid (H6.out.call hb4)
                have hw := writeString_any (w.heap.size + 1) (w.heap.size + 1) (wiT x y s0 k) (⟨#[32]⟩ ++ rr) w4 BD7.out HSR.out (by omega)
                have E4 := Lib.hid ((hb4.cell (p := ⟨b2, o2 + m, none⟩) (by have : b2 < w.heap.size := hbl2; show b2 < wr.heap.size; omega)).trans E2.out)
                clear hb4 hit l2
                go_wp2_with fail
                refine hw.mono ?_
                rintro e w5 ⟨rfl, hbd5, hb5, hk5⟩
                clear hw
                have BD8 := Lib.hid hbd5
                have HG8 := Lib.hid (kept_line HG7.out hk5 hne)
                have hz8 := hb5.size
                have HB8 := Lib.hid (HB7.out.trans hb5)
                have H8 := Lib.hid (H7.out.callB hb5 (by omega))
                obtain ⟨c0, c1⟩ := H8.out.cells
                have hd9 : w5.cell? ⟨b2, o2 + m, none⟩ = some (.string (sN x y k)) := (hb5.cell (p := ⟨b2, o2 + m, none⟩) (Nat.lt_succ_of_lt hbl2)).trans E4.out
                have hw := writeString_any (w.heap.size + 1) (w.heap.size + 1) (wiT x y s0 k ++ (⟨#[32]⟩ ++ rr)) (⟨#[32]⟩ ++ sN x y k) w5 BD8.out HSS.out (by omega)
                clear hbd5 hb5 hk5
                go_wp2_with fail
                refine hw.mono ?_
                rintro e w6 ⟨rfl, hbd6, hb6, hk6⟩
                rw [HW.out] at hbd6
                clear hw
                have BD9 := Lib.hid hbd6
                have HG9 := Lib.hid (kept_line HG8.out hk6 hne)
                have HB9 := Lib.hid (HB8.out.trans hb6)
                clear hbd6 hk6 hb6
                go_wp2_with fail
                go_roundw
                case rel => exact ⟨k + 1, by omega, by go_num, BD9.out, HB9.out, HG9.out⟩
                case measure => simp [intOf]; omega
            · obtain rfl : k = y.stops.length := by omega
              have HWE := Lib.hid (wi_end HY.out s0)
              have HLS : Hid (wdT x y s0 y.stops.length ++ ⟨#[10]⟩ = lnT x (i + 1)) := Lib.hid (by rw [← lnT_succ, HYY.out, HS0.out])
              have hw := writeByte_any (w.heap.size + 1) (w.heap.size + 1) (wiT x y s0 y.stops.length) 10 wr BD6.out (by omega) (by omega)
              clear hbd hgk hbc
              go_wp2_with fail
              refine hw.mono ?_
              rintro e w4 ⟨rfl, hbd4, hb4, _⟩
              rw [HWE.out, HLS.out] at hbd4
              clear hw
              have BD7 := Lib.hid hbd4
              have HB7 := Lib.hid (HBC.out.trans hb4)
              clear hbd4 hb4
              go_wp2_with fail
              go_roundw
              case rel => exact ⟨i + 1, by omega, by go_num, BD7.out, HB7.out⟩
              case measure => simp [intOf]; omega
        · obtain rfl : i = x.lines.length := by omega
          have JN : Hid (lnT x x.lines.length = netT x) := Lib.hid rfl
          rw [JN.out] at BD3
          have hn0 := (netT_size HX.out).1
          have hw := string_any (w.heap.size + 1) (w.heap.size + 1) (netT x) wr BD3.out (by omega)
          go_wp2_with fail
          refine hw.mono ?_
          rintro e w4 ⟨rfl, hb4⟩
          clear hw
          have HBE := Lib.hid (H3.out.bel.trans (hb4.mono (by omega)))
          clear hb4
          go_wp2_with fail
          go_ret
          exact ⟨rfl, HBE.out⟩
end Go.Proofs.YtdiffepokiabkaaDoor
