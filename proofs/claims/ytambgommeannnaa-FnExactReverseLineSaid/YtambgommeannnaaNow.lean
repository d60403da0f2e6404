/- Lines and networks that are the call's own, every slice in a block of its own: their marks, and what holds the marks. -/
import Derived.Test.YtambgommeannnaaMrn
namespace Go.Proofs.Ytambgommeannnaa
open Go.ChangeShapes Go.WideShapes Go.ChangeAt Go.RowKit Go.PlainAid
set_option linter.unusedVariables false
set_option linter.unusedSimpArgs false

/-- One block. -/
abbrev Zone.one (b : Nat) : Zone := Zone.new b (b + 1)
theorem Zone.one_ok {b c : Nat} (h : (Zone.one b).ok c) : c = b := by have := h.1; have := h.2; omega
theorem Zone.one_le {lo hi b : Nat} (h1 : lo ≤ b) (h2 : b < hi) : (Zone.one b).le (Zone.new lo hi) := Zone.new_le h1 h2
theorem Zone.one_sub {lo hi b g : Nat} (h1 : lo ≤ b) (h2 : b < hi) (h : b ≠ g) : (Zone.one b).le ((Zone.new lo hi).sub g) :=
  ⟨fun c hc => by have := Zone.one_ok hc; subst this; exact ⟨⟨h1, h2⟩, fun _ => h⟩, fun _ => trivial⟩
theorem Mk.wider {a b lo hi : Nat} {w w' : World} (h : Mk a b w w') (h1 : lo ≤ a) (h2 : b ≤ hi) (h3 : hi ≤ w.heap.size) : Mk lo hi w w' :=
  ⟨h.os, h.tape, h.output, h.size, fun c hc hs => h.out c (by omega) hs, fun c h4 h5 o => by
    by_cases hc : c < a ∨ b ≤ c
    · have := h.same hc (by omega) o
      exact ⟨this.2, Or.inl this.1⟩
    · exact h.ins c (by omega) (by omega) o⟩
theorem Mk.cell_same {a b : Nat} {w w' : World} (h : Mk a b w w') {c o : Nat} {v : Value} (hc : c < a ∨ b ≤ c) (hv : w.cell? ⟨c, o, none⟩ = some v) : w'.cell? ⟨c, o, none⟩ = some v :=
  ((h.same hc (World.block_lt_of_cell? _ _ hv)) o).1.trans hv

/-- Blocks apart. -/
structure Apart (lo hi g n : Nat) (p r : Nat → Nat) : Prop where
  g0 : lo ≤ g
  g1 : g < hi
  p0 : ∀ k, k < n → lo ≤ p k ∧ p k < hi ∧ p k ≠ g
  r0 : ∀ k, k < n → lo ≤ r k ∧ r k < hi ∧ r k ≠ g
  pp : ∀ j k, j < n → k < n → j ≠ k → p j ≠ p k
  rr : ∀ j k, j < n → k < n → j ≠ k → r j ≠ r k
  pr : ∀ j k, j < n → k < n → p j ≠ r k
/-- A block that is none of them. -/
def Off (g n : Nat) (p r : Nat → Nat) (t : Nat) : Prop := t ≠ g ∧ ∀ k, k < n → t ≠ p k ∧ t ≠ r k
theorem Off.of {lo hi g n : Nat} {p r : Nat → Nat} (h : Apart lo hi g n p r) {t : Nat} (ht : t < lo ∨ hi ≤ t) : Off g n p r t :=
  ⟨by have := h.g0; have := h.g1; omega, fun k hk => by have := h.p0 k hk; have := h.r0 k hk; omega⟩
/-- A line at its place. -/
def LnAt (w : World) (g k : Nat) (x : LineD) (p r : Nat) : Prop := ∃ S cs R cr, w.cell? ⟨g, k * 3, none⟩ = some (.string x.name) ∧ w.cell? ⟨g, k * 3 + 1, none⟩ = some (.slice S x.stops.length cs) ∧ w.cell? ⟨g, k * 3 + 2, none⟩ = some (.slice R x.runs.length cr) ∧
  IntsIn w (Zone.one p) S x.stops ∧ IntsIn w (Zone.one r) R x.runs ∧ CapOk x.stops.length cs ∧ CapOk x.runs.length cr
theorem LnAt.keep {w w' : World} {g k : Nat} {x : LineD} {p r : Nat} (h : LnAt w g k x p r) (hc : ∀ i, i < 3 → w'.cell? ⟨g, k * 3 + i, none⟩ = w.cell? ⟨g, k * 3 + i, none⟩) (hp : Same w w' p) (hr : Same w w' r) : LnAt w' g k x p r := by
  obtain ⟨S, cs, R, cr, h0, h1, h2, h3, h4, h5⟩ := h
  exact ⟨S, cs, R, cr, (hc 0 (by omega)).trans h0, (hc 1 (by omega)).trans h1, (hc 2 (by omega)).trans h2, h3.keep fun c hc => by rw [Zone.one_ok hc]; exact hp, h4.keep fun c hc => by rw [Zone.one_ok hc]; exact hr, h5⟩
/-- Lines in block g. -/
structure LOwn (w : World) (g : Nat) (xs : List LineD) (p r : Nat → Nat) : Prop where
  free : ∀ j, w.frozen? ⟨g, j, none⟩ = false
  each : ∀ k, k < xs.length → LnAt w g k (nthL xs k) (p k) (r k)
theorem LOwn.keep {w w' : World} {lo hi g : Nat} {xs : List LineD} {p r : Nat → Nat} (h : LOwn w g xs p r) (ha : Apart lo hi g xs.length p r) (hs : ∀ c, lo ≤ c ∧ c < hi → Same w w' c) : LOwn w' g xs p r :=
  ⟨fun j => (hs g ⟨ha.g0, ha.g1⟩ j).2.trans (h.free j), fun k hk => (h.each k hk).keep (fun i _ => (hs g ⟨ha.g0, ha.g1⟩ _).1) (hs _ ⟨(ha.p0 k hk).1, (ha.p0 k hk).2.1⟩) (hs _ ⟨(ha.r0 k hk).1, (ha.r0 k hk).2.1⟩)⟩
theorem LOwn.call {w w' : World} {lo hi g B : Nat} {xs : List LineD} {p r : Nat → Nat} (h : LOwn w g xs p r) (ha : Apart lo hi g xs.length p r) (hb : Below B w w') (hB : hi ≤ B) : LOwn w' g xs p r :=
  h.keep ha fun c hc => Same.of_below hb (Nat.lt_of_lt_of_le hc.2 hB)
theorem LOwn.lines {w : World} {lo hi g : Nat} {xs : List LineD} {p r : Nat → Nat} (h : LOwn w g xs p r) (ha : Apart lo hi g xs.length p r) : LinesIn w (Zone.new lo hi) (some ⟨g, 0, none⟩) xs := fun _ =>
  ⟨g, 0, rfl, ⟨ha.g0, ha.g1⟩, fun _ => h.free, fun j hj => by
    obtain ⟨S, cs, R, cr, h0, h1, h2, h3, h4, h5⟩ := h.each j hj
    have e : 0 + at3 j = j * 3 := Nat.zero_add _
    rw [e]
    exact ⟨S, cs, R, cr, h0, h1, h2, h3.mono (Zone.one_sub (ha.p0 j hj).1 (ha.p0 j hj).2.1 (ha.p0 j hj).2.2), h4.mono (Zone.one_sub (ha.r0 j hj).1 (ha.r0 j hj).2.1 (ha.r0 j hj).2.2), h5⟩⟩

/-! ### Marks -/
def mkL (K : Nat) (x : LineD) : LineD := ⟨mkT K, marks (K + 1) x.stops.length, marks (K + 1 + x.stops.length) x.runs.length⟩
/-- The lines, of which the first j are marked. -/
def mkdL (xs : List LineD) (K j : Nat) : List LineD := (List.range xs.length).map fun k => if k < j then mkL (K + cntLs xs k) (nthL xs k) else nthL xs k
theorem mkdL_length (xs : List LineD) (K j : Nat) : (mkdL xs K j).length = xs.length := by simp [mkdL]
theorem nth_mkdL {xs : List LineD} {K j k : Nat} (h : k < xs.length) : nthL (mkdL xs K j) k = if k < j then mkL (K + cntLs xs k) (nthL xs k) else nthL xs k := by
  unfold nthL mkdL
  rw [List.getD_eq_getElem?_getD, List.getElem?_map, List.getElem?_range h]
  rfl
theorem mkdL_yes {xs : List LineD} {K j k : Nat} (h : k < xs.length) (hj : k < j) : nthL (mkdL xs K j) k = mkL (K + cntLs xs k) (nthL xs k) := by rw [nth_mkdL h, if_pos hj]
theorem mkdL_no {xs : List LineD} {K j k : Nat} (h : k < xs.length) (hj : ¬ k < j) : nthL (mkdL xs K j) k = nthL xs k := by rw [nth_mkdL h, if_neg hj]
theorem LOwn.zero {w : World} {g : Nat} {xs : List LineD} {p r : Nat → Nat} (h : LOwn w g xs p r) (K : Nat) : LOwn w g (mkdL xs K 0) p r :=
  ⟨h.free, fun k hk => by
    rw [mkdL_length] at hk
    rw [mkdL_no hk (Nat.not_lt_zero _)]
    exact h.each k hk⟩
theorem LOwn.step {w w' : World} {lo hi g : Nat} {xs : List LineD} {p r : Nat → Nat} {K k : Nat} (h : LOwn w g (mkdL xs K k) p r) (ha : Apart lo hi g xs.length p r) (hk : k < xs.length)
    (hS : ∀ c, lo ≤ c ∧ c < hi → c ≠ g → c ≠ p k → c ≠ r k → Same w w' c) (hg : ∀ i, i ≠ k * 3 → w'.cell? ⟨g, i, none⟩ = w.cell? ⟨g, i, none⟩) (hf : ∀ i, w'.frozen? ⟨g, i, none⟩ = w.frozen? ⟨g, i, none⟩)
    (hnew : LnAt w' g k (mkL (K + cntLs xs k) (nthL xs k)) (p k) (r k)) : LOwn w' g (mkdL xs K (k + 1)) p r :=
  ⟨fun j => (hf j).trans (h.free j), fun j hj => by
    rw [mkdL_length] at hj
    by_cases e : j = k
    · subst e
      rw [mkdL_yes hj (by omega)]
      exact hnew
    · have hj' := h.each j (by rw [mkdL_length]; exact hj)
      have e2 : nthL (mkdL xs K (k + 1)) j = nthL (mkdL xs K k) j := by
        rw [nth_mkdL hj, nth_mkdL hj]
        by_cases hlt : j < k
        · rw [if_pos hlt, if_pos (by omega)]
        · rw [if_neg hlt, if_neg (by omega)]
      rw [e2]
      have hp := ha.p0 j hj
      have hr := ha.r0 j hj
      refine hj'.keep (fun i hi => hg _ (by omega)) (hS _ ⟨hp.1, hp.2.1⟩ hp.2.2 (ha.pp j k hj hk e) (ha.pr j k hj hk)) (hS _ ⟨hr.1, hr.2.1⟩ hr.2.2 (fun h => ha.pr k j hk hj h.symm) (ha.rr j k hj hk e))⟩

set_option maxRecDepth 100000 in
set_option maxHeartbeats 1000000 in
theorem markLineS_own (lo hi g : Nat) (p r : Nat → Nat) (c : Nat) (xs : List LineD) (K : Nat) (w : World) (h : LOwn w g xs p r) (ha : Apart lo hi g xs.length p r) (hh : hi ≤ w.heap.size) (hn : cntLs xs xs.length ≤ 1048576) (hxl : xs.length ≤ 1048576) (h0 : 0 < K) (hK : K ≤ 1048576 * 1048576 - 3 * 1048576) :
    Calls Try.prog 118 #[.slice (some ⟨g, 0, none⟩) xs.length c, .int .i64 (K : Nat)] w fun e w' => e = .returned (.int .i64 ((K + cntLs xs xs.length : Nat) : Int)) ∧ Mk lo hi w w' ∧ LOwn w' g (mkdL xs K xs.length) p r ∧ ∀ t, Off g xs.length p r t → t < w.heap.size → Same w w' t := by
  have HX := Lib.hid (h.zero K)
  have HA := Lib.hid ha
  have HLe : Hid (∀ k, k < xs.length → cntLs xs (k + 1) ≤ cntLs xs xs.length) := Lib.hid (fun k hk => upto_le _ hk)
  clear h ha
  go_enter Try.func118, Try.ntmps118
  go_wp2
  go_loopw [1, 5] (fun s i wr => ∃ j : Nat, j ≤ xs.length ∧ i = .int .i64 j ∧ s = .int .i64 ((K + cntLs xs j : Nat) : Int) ∧ Mk lo hi w wr ∧ LOwn wr g (mkdL xs K j) p r ∧ ∀ t, Off g xs.length p r t → t < w.heap.size → Same w wr t) (fun _ i _ => xs.length - (intOf i).toNat)
  case atStart => exact ⟨0, Nat.zero_le _, rfl, rfl, Mk.refl _ _ _, HX.out, fun _ _ _ => Same.refl _ _⟩
  case round =>
    obtain ⟨k, hk, rfl, rfl, hm, ho, ht⟩ := hrel
    have HM := Lib.hid hm
    have HO := Lib.hid ho
    have HT := Lib.hid ht
    clear ho ht
    by_cases hlt : k < xs.length
    · have hat := HO.out.each k (by rw [mkdL_length]; exact hlt)
      rw [mkdL_no hlt (by omega)] at hat
      obtain ⟨S, cs, R, cr, hc0, hc1, hc2, hi1, hi2, hca, hcb⟩ := hat
      have HI1 := Lib.hid hi1
      have HI2 := Lib.hid hi2
      have HCA := Lib.hid hca
      have HCB := Lib.hid hcb
      have hp0 := HA.out.p0 k hlt
      have hr0 := HA.out.r0 k hlt
      have hpr := HA.out.pr k k hlt hlt
      have hg0 := HA.out.g0
      have hg1 := HA.out.g1
      have hsz := hm.size
      have hle := HLe.out k hlt
      have hu : cntLs xs (k + 1) = cntLs xs k + (1 + (nthL xs k).stops.length + (nthL xs k).runs.length) := rfl
      have hfr0 := HO.out.free (k * 3)
      have hs1 : (nthL xs k).stops.length ≤ 1048576 := by omega
      have hs2 : (nthL xs k).runs.length ≤ 1048576 := by omega
      obtain ⟨P, hP⟩ : ∃ P : Nat, P = K + cntLs xs k := ⟨_, rfl⟩
      rw [← hP]
      have HPP := Lib.hid hP
      have HU := Lib.hid (show K + cntLs xs (k + 1) = P + 1 + (nthL xs k).stops.length + (nthL xs k).runs.length by omega)
      have hPl : P ≤ 1048576 * 1048576 - 2 * 1048576 := by omega
      have hP0 : 0 < P := by omega
      obtain ⟨wo, hwo⟩ : ∃ wo : World, wo = wr := ⟨_, rfl⟩
      rw [← hwo] at hm HM HO HT hc0 hc1 hc2 HI1 HI2 hfr0 hsz ⊢
      clear hi1 hi2 hca hcb hu hP hle hwo
      go_wp2_with fail
      refine (markText_any P _ hP0 (by omega)).mono ?_
      rintro e w1 ⟨rfl, hb1⟩
      have hgw : g < wo.heap.size := by omega
      have HB1 := Lib.hid hb1
      have hv : w1.cell? ⟨g, k * 3, none⟩ = some (.string (nthL xs k).name) := (hb1.cell (p := ⟨g, _, none⟩) hgw).trans hc0
      have d1 : w1.cell? ⟨g, k * 3 + 1, none⟩ = some (.slice S (nthL xs k).stops.length cs) := (hb1.cell (p := ⟨g, _, none⟩) hgw).trans hc1
      have d2 : w1.cell? ⟨g, k * 3 + 2, none⟩ = some (.slice R (nthL xs k).runs.length cr) := (hb1.cell (p := ⟨g, _, none⟩) hgw).trans hc2
      have hfr : w1.frozen? ⟨g, k * 3, none⟩ = false := (hb1.frozen (p := ⟨g, _, none⟩) hgw).trans hfr0
      have hs1' := hb1.size
      have HV := Lib.hid hv
      have e1 : (w1.setCell ⟨g, k * 3, none⟩ (.string (mkT P))).cell? ⟨g, k * 3 + 1, none⟩ = some (.slice S (nthL xs k).stops.length cs) := by rw [World.cell?_setCell_other _ _ _ _ (addr_ne (by omega))]; exact d1
      have e2 : (w1.setCell ⟨g, k * 3, none⟩ (.string (mkT P))).cell? ⟨g, k * 3 + 2, none⟩ = some (.slice R (nthL xs k).runs.length cr) := by rw [World.cell?_setCell_other _ _ _ _ (addr_ne (by omega))]; exact d2
      have E1 := Lib.hid e1
      have E2 := Lib.hid e2
      have HI1b : Hid (IntsIn (w1.setCell ⟨g, k * 3, none⟩ (.string (mkT P))) (Zone.one (p k)) S (nthL xs k).stops) := Lib.hid ((HI1.out.new_call hb1 (by omega)).new_set (p := ⟨g, _, none⟩) (by show g < _ ∨ _ ≤ g; omega) _)
      have HI2b : Hid (IntsIn (w1.setCell ⟨g, k * 3, none⟩ (.string (mkT P))) (Zone.one (r k)) R (nthL xs k).runs) := Lib.hid ((HI2.out.new_call hb1 (by omega)).new_set (p := ⟨g, _, none⟩) (by show g < _ ∨ _ ≤ g; omega) _)
      have hq := markIntS_any (p k) (p k + 1) S cs (nthL xs k).stops (P + 1) _ HI1b.out (by omega) (by omega)
      push_cast at hq
      have HQ := Lib.hid hq
      clear hm hb1 hc0 hc1 hc2 hq hfr0 d1 d2 e2
      go_wp2_with fail
      refine HQ.out.mono ?_
      rintro e w2 ⟨rfl, hm2, hi3⟩
      have HM2 := Lib.hid hm2
      have HI3 := Lib.hid hi3
      have hs2' := hm2.size
      rw [size_set] at hs2'
      have hc2 : w2.cell? ⟨g, k * 3 + 2, none⟩ = some (.slice R (nthL xs k).runs.length cr) := hm2.cell_same (by omega) E2.out
      have HI2c : Hid (IntsIn w2 (Zone.one (r k)) R (nthL xs k).runs) := Lib.hid (hm2.sl_keep HI2b.out (fun b hb => by have := Zone.one_ok hb; subst this; rw [size_set]; omega))
      have hq := markIntS_any (r k) (r k + 1) R cr (nthL xs k).runs (P + 1 + (nthL xs k).stops.length) _ HI2c.out (by omega) (by omega)
      push_cast at hq
      have HQ2 := Lib.hid hq
      clear hm2 hi3 hq e1 hv hfr
      go_wp2_with fail
      refine HQ2.out.mono ?_
      rintro e w3 ⟨rfl, hm3, hi4⟩
      have HM3 := Lib.hid hm3
      have HI4 := Lib.hid hi4
      have hs3' := hm3.size
      clear hm3 hi4 hc2
      go_wp2_with fail
      have hfree : ∀ c, c ≠ g → c ≠ p k → c ≠ r k → c < wo.heap.size → Same wo w3 c := fun c n1 n2 n3 hc =>
        (((Same.of_below HB1.out hc).trans (Same.set w1 (p := ⟨g, k * 3, none⟩) n1 _)).trans (HM2.out.same (by omega) (by rw [size_set]; omega))).trans (HM3.out.same (by omega) (by omega))
      have hgs : ∀ i, i ≠ k * 3 → w3.cell? ⟨g, i, none⟩ = wo.cell? ⟨g, i, none⟩ := fun i hi => by
        rw [(HM3.out.same (b := g) (by omega) (by omega) i).1, (HM2.out.same (b := g) (by omega) (by rw [size_set]; omega) i).1, World.cell?_setCell_other _ _ _ _ (addr_ne (by omega)), HB1.out.cell (p := ⟨g, i, none⟩) hgw]
      have hgf : ∀ i, w3.frozen? ⟨g, i, none⟩ = wo.frozen? ⟨g, i, none⟩ := fun i => by
        rw [(HM3.out.same (b := g) (by omega) (by omega) i).2, (HM2.out.same (b := g) (by omega) (by rw [size_set]; omega) i).2, World.frozen?_setCell, HB1.out.frozen (p := ⟨g, i, none⟩) hgw]
      have hMall : Mk lo hi w w3 := ((((HM.out.trans (Mk.of_below HB1.out (by omega))).trans (Mk.set_str (t := mkT P) hg0 hg1 HV.out)).trans (HM2.out.wider (by omega) (by omega) (by rw [size_set]; omega))).trans (HM3.out.wider (by omega) (by omega) (by omega)))
      have hname : w3.cell? ⟨g, k * 3, none⟩ = some (.string (mkT P)) := HM3.out.cell_same (by omega) (HM2.out.cell_same (by omega) (World.cell?_setCell_same _ _ _ HV.out))
      have hst : w3.cell? ⟨g, k * 3 + 1, none⟩ = some (.slice S (nthL xs k).stops.length cs) := HM3.out.cell_same (by omega) (HM2.out.cell_same (by omega) E1.out)
      have hru : w3.cell? ⟨g, k * 3 + 2, none⟩ = some (.slice R (nthL xs k).runs.length cr) := HM3.out.cell_same (by omega) (HM2.out.cell_same (by omega) E2.out)
      have hI3 : IntsIn w3 (Zone.one (p k)) S (marks (P + 1) (nthL xs k).stops.length) := HM3.out.sl_keep HI3.out (fun b hb => by have := Zone.one_ok hb; subst this; omega)
      have hNew : LnAt w3 g k (mkL (K + cntLs xs k) (nthL xs k)) (p k) (r k) := by
        rw [← HPP.out]
        refine ⟨S, cs, R, cr, hname, ?_, ?_, hI3, HI4.out, ?_, ?_⟩
        · show _ = some (Value.slice S (marks _ _).length cs); rw [marks_length]; exact hst
        · show _ = some (Value.slice R (marks _ _).length cr); rw [marks_length]; exact hru
        · show CapOk (marks _ _).length cs; rw [marks_length]; exact HCA.out
        · show CapOk (marks _ _).length cr; rw [marks_length]; exact HCB.out
      have HEND := Lib.hid (And.intro hMall (And.intro (LOwn.step HO.out HA.out hlt (fun c hc n1 n2 n3 => hfree c n1 n2 n3 (by omega)) hgs hgf hNew) (fun t (ho : Off g xs.length p r t) htw => (HT.out t ho htw).trans (hfree t ho.1 (ho.2 k hlt).1 (ho.2 k hlt).2 (by omega)))))
      clear hfree hgs hgf hMall hname hst hru hI3 hNew
      go_roundw
      case rel => exact ⟨k + 1, by omega, by go_num, by rw [HU.out]; push_cast; rfl, HEND.out.1, HEND.out.2.1, HEND.out.2.2⟩
      case measure => simp [intOf]; omega
    · obtain rfl : k = xs.length := by omega
      clear hm
      go_wp2
      go_ret
      exact ⟨rfl, HM.out, HO.out, HT.out⟩
end Go.Proofs.Ytambgommeannnaa
