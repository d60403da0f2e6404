/- Networks of a call's own: marks and what holds them. -/
import Derived.Test.YtpipegdjflniaaaDoorMrn
import Derived.Test.YtpipegdjflniaaaDoorHst
namespace Go.Proofs.YtpipegdjflniaaaDoor

/-! ### Lines and networks that are the call's own, every slice in a block of its own: their marks, and what holds the marks. -/
section
open Go.ChangeShapes Go.WideShapes Go.ChangeAt Go.RowKit Go.PlainAid
set_option linter.unusedVariables false
set_option linter.unusedSimpArgs false

/-- One block. -/
abbrev Zone.one (b : Nat) : Zone := Zone.new b (b + 1)
theorem Zone.one_ok {b c : Nat} (h : (Zone.one b).ok c) : c = b := by have := h.1; have := h.2; omega
theorem Zone.one_le {lo hi b : Nat} (h1 : lo ≤ b) (h2 : b < hi) : (Zone.one b).le (Zone.new lo hi) := Zone.new_le h1 h2
theorem Zone.one_sub {lo hi b g : Nat} (h1 : lo ≤ b) (h2 : b < hi) (h : b ≠ g) : (Zone.one b).le ((Zone.new lo hi).sub g) :=
  ⟨fun c hc => by have := Zone.one_ok hc; subst this; exact ⟨⟨h1, h2⟩, fun _ => h⟩, fun _ => trivial⟩
theorem Mk.wider {a b lo hi : Nat} {w w' : World} (h : Mk a b w w') (h1 : lo ≤ a) (h2 : b ≤ hi) (h3 : hi ≤ w.heap.size) : Mk lo hi w w' :=
  ⟨h.os, h.tape, h.output, h.size, fun c hc hs => h.out c (by omega) hs, fun c h4 h5 o => by
    by_cases hc : c < a ∨ b ≤ c
    · have := h.same hc (by omega) o
      exact ⟨this.2, Or.inl this.1⟩
    · exact h.ins c (by omega) (by omega) o⟩
theorem Mk.cell_same {a b : Nat} {w w' : World} (h : Mk a b w w') {c o : Nat} {v : Value} (hc : c < a ∨ b ≤ c) (hv : w.cell? ⟨c, o, none⟩ = some v) : w'.cell? ⟨c, o, none⟩ = some v :=
  ((h.same hc (World.block_lt_of_cell? _ _ hv)) o).1.trans hv

/-- Blocks apart. -/
structure Apart (lo hi g n : Nat) (p r : Nat → Nat) : Prop where
  g0 : lo ≤ g
  g1 : g < hi
  p0 : ∀ k, k < n → lo ≤ p k ∧ p k < hi ∧ p k ≠ g
  r0 : ∀ k, k < n → lo ≤ r k ∧ r k < hi ∧ r k ≠ g
  pp : ∀ j k, j < n → k < n → j ≠ k → p j ≠ p k
  rr : ∀ j k, j < n → k < n → j ≠ k → r j ≠ r k
  pr : ∀ j k, j < n → k < n → p j ≠ r k
/-- A block that is none of them. -/
def Off (g n : Nat) (p r : Nat → Nat) (t : Nat) : Prop := t ≠ g ∧ ∀ k, k < n → t ≠ p k ∧ t ≠ r k
theorem Off.of {lo hi g n : Nat} {p r : Nat → Nat} (h : Apart lo hi g n p r) {t : Nat} (ht : t < lo ∨ hi ≤ t) : Off g n p r t :=
  ⟨by have := h.g0; have := h.g1; omega, fun k hk => by have := h.p0 k hk; have := h.r0 k hk; omega⟩
/-- A line at its place. -/
def LnAt (w : World) (g k : Nat) (x : LineD) (p r : Nat) : Prop := ∃ S cs R cr, w.cell? ⟨g, k * 3, none⟩ = some (.string x.name) ∧ w.cell? ⟨g, k * 3 + 1, none⟩ = some (.slice S x.stops.length cs) ∧ w.cell? ⟨g, k * 3 + 2, none⟩ = some (.slice R x.runs.length cr) ∧
  IntsIn w (Zone.one p) S x.stops ∧ IntsIn w (Zone.one r) R x.runs ∧ CapOk x.stops.length cs ∧ CapOk x.runs.length cr
theorem LnAt.keep {w w' : World} {g k : Nat} {x : LineD} {p r : Nat} (h : LnAt w g k x p r) (hc : ∀ i, i < 3 → w'.cell? ⟨g, k * 3 + i, none⟩ = w.cell? ⟨g, k * 3 + i, none⟩) (hp : Same w w' p) (hr : Same w w' r) : LnAt w' g k x p r := by
  obtain ⟨S, cs, R, cr, h0, h1, h2, h3, h4, h5⟩ := h
  exact ⟨S, cs, R, cr, (hc 0 (by omega)).trans h0, (hc 1 (by omega)).trans h1, (hc 2 (by omega)).trans h2, h3.keep fun c hc => by rw [Zone.one_ok hc]; exact hp, h4.keep fun c hc => by rw [Zone.one_ok hc]; exact hr, h5⟩
/-- Lines in block g. -/
structure LOwn (w : World) (g : Nat) (xs : List LineD) (p r : Nat → Nat) : Prop where
  free : ∀ j, w.frozen? ⟨g, j, none⟩ = false
  each : ∀ k, k < xs.length → LnAt w g k (nthL xs k) (p k) (r k)
theorem LOwn.keep {w w' : World} {lo hi g : Nat} {xs : List LineD} {p r : Nat → Nat} (h : LOwn w g xs p r) (ha : Apart lo hi g xs.length p r) (hs : ∀ c, lo ≤ c ∧ c < hi → Same w w' c) : LOwn w' g xs p r :=
  ⟨fun j => (hs g ⟨ha.g0, ha.g1⟩ j).2.trans (h.free j), fun k hk => (h.each k hk).keep (fun i _ => (hs g ⟨ha.g0, ha.g1⟩ _).1) (hs _ ⟨(ha.p0 k hk).1, (ha.p0 k hk).2.1⟩) (hs _ ⟨(ha.r0 k hk).1, (ha.r0 k hk).2.1⟩)⟩
theorem LOwn.call {w w' : World} {lo hi g B : Nat} {xs : List LineD} {p r : Nat → Nat} (h : LOwn w g xs p r) (ha : Apart lo hi g xs.length p r) (hb : Below B w w') (hB : hi ≤ B) : LOwn w' g xs p r :=
  h.keep ha fun c hc => Same.of_below hb (Nat.lt_of_lt_of_le hc.2 hB)
theorem LOwn.lines {w : World} {lo hi g : Nat} {xs : List LineD} {p r : Nat → Nat} (h : LOwn w g xs p r) (ha : Apart lo hi g xs.length p r) : LinesIn w (Zone.new lo hi) (some ⟨g, 0, none⟩) xs := fun _ =>
  ⟨g, 0, rfl, ⟨ha.g0, ha.g1⟩, fun _ => h.free, fun j hj => by
    obtain ⟨S, cs, R, cr, h0, h1, h2, h3, h4, h5⟩ := h.each j hj
    have e : 0 + at3 j = j * 3 := Nat.zero_add _
    rw [e]
    exact ⟨S, cs, R, cr, h0, h1, h2, h3.mono (Zone.one_sub (ha.p0 j hj).1 (ha.p0 j hj).2.1 (ha.p0 j hj).2.2), h4.mono (Zone.one_sub (ha.r0 j hj).1 (ha.r0 j hj).2.1 (ha.r0 j hj).2.2), h5⟩⟩

/-! ### Marks -/
def mkL (K : Nat) (x : LineD) : LineD := ⟨mkT K, marks (K + 1) x.stops.length, marks (K + 1 + x.stops.length) x.runs.length⟩
/-- The lines, of which the first j are marked. -/
def mkdL (xs : List LineD) (K j : Nat) : List LineD := (List.range xs.length).map fun k => if k < j then mkL (K + cntLs xs k) (nthL xs k) else nthL xs k
theorem mkdL_length (xs : List LineD) (K j : Nat) : (mkdL xs K j).length = xs.length := by simp [mkdL]
theorem nth_mkdL {xs : List LineD} {K j k : Nat} (h : k < xs.length) : nthL (mkdL xs K j) k = if k < j then mkL (K + cntLs xs k) (nthL xs k) else nthL xs k := by
  unfold nthL mkdL
  rw [List.getD_eq_getElem?_getD, List.getElem?_map, List.getElem?_range h]
  rfl
theorem mkdL_yes {xs : List LineD} {K j k : Nat} (h : k < xs.length) (hj : k < j) : nthL (mkdL xs K j) k = mkL (K + cntLs xs k) (nthL xs k) := by rw [nth_mkdL h, if_pos hj]
theorem mkdL_no {xs : List LineD} {K j k : Nat} (h : k < xs.length) (hj : ¬ k < j) : nthL (mkdL xs K j) k = nthL xs k := by rw [nth_mkdL h, if_neg hj]
theorem LOwn.zero {w : World} {g : Nat} {xs : List LineD} {p r : Nat → Nat} (h : LOwn w g xs p r) (K : Nat) : LOwn w g (mkdL xs K 0) p r :=
  ⟨h.free, fun k hk => by
    rw [mkdL_length] at hk
    rw [mkdL_no hk (Nat.not_lt_zero _)]
    exact h.each k hk⟩
theorem LOwn.step {w w' : World} {lo hi g : Nat} {xs : List LineD} {p r : Nat → Nat} {K k : Nat} (h : LOwn w g (mkdL xs K k) p r) (ha : Apart lo hi g xs.length p r) (hk : k < xs.length)
    (hS : ∀ c, lo ≤ c ∧ c < hi → c ≠ g → c ≠ p k → c ≠ r k → Same w w' c) (hg : ∀ i, i ≠ k * 3 → w'.cell? ⟨g, i, none⟩ = w.cell? ⟨g, i, none⟩) (hf : ∀ i, w'.frozen? ⟨g, i, none⟩ = w.frozen? ⟨g, i, none⟩)
    (hnew : LnAt w' g k (mkL (K + cntLs xs k) (nthL xs k)) (p k) (r k)) : LOwn w' g (mkdL xs K (k + 1)) p r :=
  ⟨fun j => (hf j).trans (h.free j), fun j hj => by
    rw [mkdL_length] at hj
    by_cases e : j = k
    · subst e
      rw [mkdL_yes hj (by omega)]
      exact hnew
    · have hj' := h.each j (by rw [mkdL_length]; exact hj)
      have e2 : nthL (mkdL xs K (k + 1)) j = nthL (mkdL xs K k) j := by
        rw [nth_mkdL hj, nth_mkdL hj]
        by_cases hlt : j < k
        · rw [if_pos hlt, if_pos (by omega)]
        · rw [if_neg hlt, if_neg (by omega)]
      rw [e2]
      have hp := ha.p0 j hj
      have hr := ha.r0 j hj
      refine hj'.keep (fun i hi => hg _ (by omega)) (hS _ ⟨hp.1, hp.2.1⟩ hp.2.2 (ha.pp j k hj hk e) (ha.pr j k hj hk)) (hS _ ⟨hr.1, hr.2.1⟩ hr.2.2 (fun h => ha.pr k j hk hj h.symm) (ha.rr j k hj hk e))⟩

set_option maxRecDepth 100000 in
set_option maxHeartbeats 1000000 in
theorem markLineS_own (lo hi g : Nat) (p r : Nat → Nat) (c : Nat) (xs : List LineD) (K : Nat) (w : World) (h : LOwn w g xs p r) (ha : Apart lo hi g xs.length p r) (hh : hi ≤ w.heap.size) (hn : cntLs xs xs.length ≤ 1048576) (hxl : xs.length ≤ 1048576) (h0 : 0 < K) (hK : K ≤ 1048576 * 1048576 - 3 * 1048576) :
    Calls Tryd.prog 20 #[.slice (some ⟨g, 0, none⟩) xs.length c, .int .i64 (K : Nat)] w fun e w' => e = .returned (.int .i64 ((K + cntLs xs xs.length : Nat) : Int)) ∧ Mk lo hi w w' ∧ LOwn w' g (mkdL xs K xs.length) p r ∧ ∀ t, Off g xs.length p r t → t < w.heap.size → Same w w' t := by
  have HX := Lib.hid (h.zero K)
  have HA := Lib.hid ha
  have HLe : Hid (∀ k, k < xs.length → cntLs xs (k + 1) ≤ cntLs xs xs.length) := Lib.hid (fun k hk => upto_le _ hk)
  clear h ha
  go_enter Tryd.func20, Tryd.ntmps20
  go_wp2
  go_loopw [1, 5] (fun s i wr => ∃ j : Nat, j ≤ xs.length ∧ i = .int .i64 j ∧ s = .int .i64 ((K + cntLs xs j : Nat) : Int) ∧ Mk lo hi w wr ∧ LOwn wr g (mkdL xs K j) p r ∧ ∀ t, Off g xs.length p r t → t < w.heap.size → Same w wr t) (fun _ i _ => xs.length - (intOf i).toNat)
  case atStart => exact ⟨0, Nat.zero_le _, rfl, rfl, Mk.refl _ _ _, HX.out, fun _ _ _ => Same.refl _ _⟩
  case round =>
    obtain ⟨k, hk, rfl, rfl, hm, ho, ht⟩ := hrel
    have HM := Lib.hid hm
    have HO := Lib.hid ho
    have HT := Lib.hid ht
    clear ho ht
    by_cases hlt : k < xs.length
    · have hat := HO.out.each k (by rw [mkdL_length]; exact hlt)
      rw [mkdL_no hlt (by omega)] at hat
      obtain ⟨S, cs, R, cr, hc0, hc1, hc2, hi1, hi2, hca, hcb⟩ := hat
      have HI1 := Lib.hid hi1
      have HI2 := Lib.hid hi2
      have HCA := Lib.hid hca
      have HCB := Lib.hid hcb
      have hp0 := HA.out.p0 k hlt
      have hr0 := HA.out.r0 k hlt
      have hpr := HA.out.pr k k hlt hlt
      have hg0 := HA.out.g0
      have hg1 := HA.out.g1
      have hsz := hm.size
      have hle := HLe.out k hlt
      have hu : cntLs xs (k + 1) = cntLs xs k + (1 + (nthL xs k).stops.length + (nthL xs k).runs.length) := rfl
      have hfr0 := HO.out.free (k * 3)
      have hs1 : (nthL xs k).stops.length ≤ 1048576 := by omega
      have hs2 : (nthL xs k).runs.length ≤ 1048576 := by omega
      obtain ⟨P, hP⟩ : ∃ P : Nat, P = K + cntLs xs k := ⟨_, rfl⟩
      rw [← hP]
      have HPP := Lib.hid hP
      have HU := Lib.hid (show K + cntLs xs (k + 1) = P + 1 + (nthL xs k).stops.length + (nthL xs k).runs.length by omega)
      have hPl : P ≤ 1048576 * 1048576 - 2 * 1048576 := by omega
      have hP0 : 0 < P := by omega
      obtain ⟨wo, hwo⟩ : ∃ wo : World, wo = wr := ⟨_, rfl⟩
      rw [← hwo] at hm HM HO HT hc0 hc1 hc2 HI1 HI2 hfr0 hsz ⊢
      clear hi1 hi2 hca hcb hu hP hle hwo
      go_wp2_with fail
      refine (markText_any P _ hP0 (by omega)).mono ?_
      rintro e w1 ⟨rfl, hb1⟩
      have hgw : g < wo.heap.size := by omega
      have HB1 := Lib.hid hb1
      have hv : w1.cell? ⟨g, k * 3, none⟩ = some (.string (nthL xs k).name) := (hb1.cell (p := ⟨g, _, none⟩) hgw).trans hc0
      have d1 : w1.cell? ⟨g, k * 3 + 1, none⟩ = some (.slice S (nthL xs k).stops.length cs) := (hb1.cell (p := ⟨g, _, none⟩) hgw).trans hc1
      have d2 : w1.cell? ⟨g, k * 3 + 2, none⟩ = some (.slice R (nthL xs k).runs.length cr) := (hb1.cell (p := ⟨g, _, none⟩) hgw).trans hc2
      have hfr : w1.frozen? ⟨g, k * 3, none⟩ = false := (hb1.frozen (p := ⟨g, _, none⟩) hgw).trans hfr0
      have hs1' := hb1.size
      have HV := Lib.hid hv
      have e1 : (w1.setCell ⟨g, k * 3, none⟩ (.string (mkT P))).cell? ⟨g, k * 3 + 1, none⟩ = some (.slice S (nthL xs k).stops.length cs) := by rw [World.cell?_setCell_other _ _ _ _ (addr_ne (by omega))]; exact d1
      have e2 : (w1.setCell ⟨g, k * 3, none⟩ (.string (mkT P))).cell? ⟨g, k * 3 + 2, none⟩ = some (.slice R (nthL xs k).runs.length cr) := by rw [World.cell?_setCell_other _ _ _ _ (addr_ne (by omega))]; exact d2
      have E1 := Lib.hid e1
      have E2 := Lib.hid e2
      have HI1b : Hid (IntsIn (w1.setCell ⟨g, k * 3, none⟩ (.string (mkT P))) (Zone.one (p k)) S (nthL xs k).stops) := Lib.hid ((HI1.out.new_call hb1 (by omega)).new_set (p := ⟨g, _, none⟩) (by show g < _ ∨ _ ≤ g; omega) _)
      have HI2b : Hid (IntsIn (w1.setCell ⟨g, k * 3, none⟩ (.string (mkT P))) (Zone.one (r k)) R (nthL xs k).runs) := Lib.hid ((HI2.out.new_call hb1 (by omega)).new_set (p := ⟨g, _, none⟩) (by show g < _ ∨ _ ≤ g; omega) _)
      have hq := markIntS_any (p k) (p k + 1) S cs (nthL xs k).stops (P + 1) _ HI1b.out (by omega) (by omega)
      push_cast at hq
      have HQ := Lib.hid hq
      clear hm hb1 hc0 hc1 hc2 hq hfr0 d1 d2 e2
      go_wp2_with fail
      refine HQ.out.mono ?_
      rintro e w2 ⟨rfl, hm2, hi3⟩
      have HM2 := Lib.hid hm2
      have HI3 := Lib.hid hi3
      have hs2' := hm2.size
      rw [size_set] at hs2'
      have hc2 : w2.cell? ⟨g, k * 3 + 2, none⟩ = some (.slice R (nthL xs k).runs.length cr) := hm2.cell_same (by omega) E2.out
      have HI2c : Hid (IntsIn w2 (Zone.one (r k)) R (nthL xs k).runs) := Lib.hid (hm2.sl_keep HI2b.out (fun b hb => by have := Zone.one_ok hb; subst this; rw [size_set]; omega))
      have hq := markIntS_any (r k) (r k + 1) R cr (nthL xs k).runs (P + 1 + (nthL xs k).stops.length) _ HI2c.out (by omega) (by omega)
      push_cast at hq
      have HQ2 := Lib.hid hq
      clear hm2 hi3 hq e1 hv hfr
      go_wp2_with fail
      refine HQ2.out.mono ?_
      rintro e w3 ⟨rfl, hm3, hi4⟩
      have HM3 := Lib.hid hm3
      have HI4 := Lib.hid hi4
      have hs3' := hm3.size
      clear hm3 hi4 hc2
      go_wp2_with fail
      have hfree : ∀ c, c ≠ g → c ≠ p k → c ≠ r k → c < wo.heap.size → Same wo w3 c := fun c n1 n2 n3 hc =>
        (((Same.of_below HB1.out hc).trans (Same.set w1 (p := ⟨g, k * 3, none⟩) n1 _)).trans (HM2.out.same (by omega) (by rw [size_set]; omega))).trans (HM3.out.same (by omega) (by omega))
      have hgs : ∀ i, i ≠ k * 3 → w3.cell? ⟨g, i, none⟩ = wo.cell? ⟨g, i, none⟩ := fun i hi => by
        rw [(HM3.out.same (b := g) (by omega) (by omega) i).1, (HM2.out.same (b := g) (by omega) (by rw [size_set]; omega) i).1, World.cell?_setCell_other _ _ _ _ (addr_ne (by omega)), HB1.out.cell (p := ⟨g, i, none⟩) hgw]
      have hgf : ∀ i, w3.frozen? ⟨g, i, none⟩ = wo.frozen? ⟨g, i, none⟩ := fun i => by
        rw [(HM3.out.same (b := g) (by omega) (by omega) i).2, (HM2.out.same (b := g) (by omega) (by rw [size_set]; omega) i).2, World.frozen?_setCell, HB1.out.frozen (p := ⟨g, i, none⟩) hgw]
      have hMall : Mk lo hi w w3 := ((((HM.out.trans (Mk.of_below HB1.out (by omega))).trans (Mk.set_str (t := mkT P) hg0 hg1 HV.out)).trans (HM2.out.wider (by omega) (by omega) (by rw [size_set]; omega))).trans (HM3.out.wider (by omega) (by omega) (by omega)))
      have hname : w3.cell? ⟨g, k * 3, none⟩ = some (.string (mkT P)) := HM3.out.cell_same (by omega) (HM2.out.cell_same (by omega) (World.cell?_setCell_same _ _ _ HV.out))
      have hst : w3.cell? ⟨g, k * 3 + 1, none⟩ = some (.slice S (nthL xs k).stops.length cs) := HM3.out.cell_same (by omega) (HM2.out.cell_same (by omega) E1.out)
      have hru : w3.cell? ⟨g, k * 3 + 2, none⟩ = some (.slice R (nthL xs k).runs.length cr) := HM3.out.cell_same (by omega) (HM2.out.cell_same (by omega) E2.out)
      have hI3 : IntsIn w3 (Zone.one (p k)) S (marks (P + 1) (nthL xs k).stops.length) := HM3.out.sl_keep HI3.out (fun b hb => by have := Zone.one_ok hb; subst this; omega)
      have hNew : LnAt w3 g k (mkL (K + cntLs xs k) (nthL xs k)) (p k) (r k) := by
        rw [← HPP.out]
        refine ⟨S, cs, R, cr, hname, ?_, ?_, hI3, HI4.out, ?_, ?_⟩
        · show _ = some (Value.slice S (marks _ _).length cs); rw [marks_length]; exact hst
        · show _ = some (Value.slice R (marks _ _).length cr); rw [marks_length]; exact hru
        · show CapOk (marks _ _).length cs; rw [marks_length]; exact HCA.out
        · show CapOk (marks _ _).length cr; rw [marks_length]; exact HCB.out
      have HEND := Lib.hid (And.intro hMall (And.intro (LOwn.step HO.out HA.out hlt (fun c hc n1 n2 n3 => hfree c n1 n2 n3 (by omega)) hgs hgf hNew) (fun t (ho : Off g xs.length p r t) htw => (HT.out t ho htw).trans (hfree t ho.1 (ho.2 k hlt).1 (ho.2 k hlt).2 (by omega)))))
      clear hfree hgs hgf hMall hname hst hru hI3 hNew
      go_roundw
      case rel => exact ⟨k + 1, by omega, by go_num, by rw [HU.out]; push_cast; rfl, HEND.out.1, HEND.out.2.1, HEND.out.2.2⟩
      case measure => simp [intOf]; omega
    · obtain rfl : k = xs.length := by omega
      clear hm
      go_wp2
      go_ret
      exact ⟨rfl, HM.out, HO.out, HT.out⟩
end

/-! ### Networks that are the call's own: marked and held. -/
section
open Go.ChangeShapes Go.WideShapes Go.ChangeAt Go.RowKit Go.PlainAid
set_option linter.unusedVariables false
set_option linter.unusedSimpArgs false

set_option maxRecDepth 100000 in
set_option maxHeartbeats 2000000 in
theorem heldLineS_any (A : Option Addr) (c : Nat) (xs : List LineD) (K : Nat) (w : World) (h : LinesIn w (Zone.below w.heap.size) A (mkdL xs K xs.length)) (hn : cntLs xs xs.length ≤ 1048576) (hxl : xs.length ≤ 1048576) (h0 : 0 < K) (hK : K ≤ 1048576 * 1048576 - 3 * 1048576) :
    Calls Tryd.prog 22 #[.slice A xs.length c, .int .i64 (K : Nat)] w fun e w' => e = .returned (.int .i64 ((K + cntLs xs xs.length : Nat) : Int)) ∧ Below w.heap.size w w' := by
  have HX := Lib.hid h
  have HLe : Hid (∀ k, k < xs.length → cntLs xs (k + 1) ≤ cntLs xs xs.length) := Lib.hid (fun k hk => upto_le _ hk)
  clear h
  go_enter Tryd.func22, Tryd.ntmps22
  go_wp2_with fail
  go_loopw [1, 5] (fun s i wr => ∃ j : Nat, j ≤ xs.length ∧ i = .int .i64 j ∧ s = .int .i64 ((K + cntLs xs j : Nat) : Int) ∧ Below w.heap.size w wr) (fun _ i _ => xs.length - (intOf i).toNat)
  case atStart => exact ⟨0, Nat.zero_le _, rfl, rfl, Below.refl _ _⟩
  case round =>
    obtain ⟨k, hk, rfl, rfl, hb⟩ := hrel
    have HB := Lib.hid hb
    clear hb
    by_cases hlt : k < xs.length
    · obtain ⟨b, o, rfl, hbl, S, cs, R, cr, hc0', hc1', hc2', hi1', hi2'⟩ := LinesIn.line HX.out (k := k) (by rw [mkdL_length]; exact hlt)
      rw [mkdL_yes hlt hlt] at hc0' hc1' hc2' hi1' hi2'
      have hle := HLe.out k hlt
      have hu : cntLs xs (k + 1) = cntLs xs k + (1 + (nthL xs k).stops.length + (nthL xs k).runs.length) := rfl
      obtain ⟨P, hP⟩ : ∃ P : Nat, P = K + cntLs xs k := ⟨_, rfl⟩
      rw [← hP] at hc0' hc1' hc2' hi1' hi2' ⊢
      have HU := Lib.hid (show K + cntLs xs (k + 1) = P + 1 + (nthL xs k).stops.length + (nthL xs k).runs.length by omega)
      have hPl : P ≤ 1099511627776 - 2 * 1048576 := by omega
      have hP0 : 0 < P := by omega
      have hs1 : (nthL xs k).stops.length ≤ 1048576 := by omega
      have hs2 : (nthL xs k).runs.length ≤ 1048576 := by omega
      have HC0 : Hid (w.cell? ⟨b, o + k * 3, none⟩ = some (.string (mkT P))) := Lib.hid hc0'
      have HC1 : Hid (w.cell? ⟨b, o + k * 3 + 1, none⟩ = some (.slice S (nthL xs k).stops.length cs)) := Lib.hid (by rw [hc1']; show some (Value.slice S (marks _ _).length cs) = _; rw [marks_length])
      have HC2 : Hid (w.cell? ⟨b, o + k * 3 + 2, none⟩ = some (.slice R (nthL xs k).runs.length cr)) := Lib.hid (by rw [hc2']; show some (Value.slice R (marks _ _).length cr) = _; rw [marks_length])
      have HI1 : Hid (IntsIn w (Zone.below w.heap.size) S (marks (P + 1) (nthL xs k).stops.length)) := Lib.hid hi1'
      have HI2 : Hid (IntsIn w (Zone.below w.heap.size) R (marks (P + 1 + (nthL xs k).stops.length) (nthL xs k).runs.length)) := Lib.hid hi2'
      clear hc0' hc1' hc2' hi1' hi2' hu hP hle
      obtain ⟨wo, rfl⟩ : ∃ wo : World, wo = wr := ⟨_, rfl⟩
      have hD : ∀ w', Below wo.heap.size wo w' → w'.cell? ⟨b, o + k * 3, none⟩ = some (.string (mkT P)) := fun w' h => ((bel_call HB.out h).cell (p := ⟨b, _, none⟩) hbl).trans HC0.out
      have hik : (k : Int) < xs.length := by omega
      go_wp2_with fail
      go_region_held3 (fun w' => Below wo.heap.size wo w') (repeat' first | assumption | exact Nat.le_refl _ | exact Below.refl _ _ | (refine bel_drew ?_) | (refine bel_alloc ?_ _) | (refine bel_set ?_ ?_ _))
        (first
          | (go_at_call 39; refine (markText_any P _ hP0 (by omega)).mono ?_; rintro e w5 ⟨rfl, hb5⟩; have hB5 := bel_call ‹Below wo.heap.size wo _› hb5; clear hb5))
      all_goals
        have HB5 := Lib.hid (bel_call HB.out hB5)
        clear hD hB5
        generalize w5 = w6 at *
        have hc1 : w6.cell? ⟨b, o + k * 3 + 1, none⟩ = some (.slice S (nthL xs k).stops.length cs) := (HB5.out.cell (p := ⟨b, _, none⟩) hbl).trans HC1.out
        have hc2 : w6.cell? ⟨b, o + k * 3 + 2, none⟩ = some (.slice R (nthL xs k).runs.length cr) := (HB5.out.cell (p := ⟨b, _, none⟩) hbl).trans HC2.out
        have hq1 := heldIntS_any S cs (nthL xs k).stops.length (P + 1) w6 _ (HI1.out.at_below HB5.out) hs1 (by omega)
        have hq2 := heldIntS_any R cr (nthL xs k).runs.length (P + 1 + (nthL xs k).stops.length) w6 _ (HI2.out.at_below HB5.out) hs2 (by omega)
        push_cast at hq1 hq2
        have HQ1 := Lib.hid hq1
        have HQ2 := Lib.hid hq2
        clear hq1 hq2
        go_wp2_with fail
        refine HQ1.out.mono ?_
        rintro e w7 ⟨rfl, rfl⟩
        go_wp2_with fail
        refine HQ2.out.mono ?_
        rintro e w7 ⟨rfl, rfl⟩
        go_wp2_with fail
        go_roundw
        case rel => exact ⟨k + 1, by omega, by go_num, by rw [HU.out]; push_cast; rfl, HB5.out⟩
        case measure => simp [intOf]; omega
    · obtain rfl : k = xs.length := by omega
      go_wp2_with fail
      go_ret
      exact ⟨rfl, HB.out⟩

/-- A network of the call's own: stops in block s, lines in block g. -/
structure NOwn (w : World) (lo hi : Nat) (x : NetD) (A L : Option Addr) (s g : Nat) (p r : Nat → Nat) : Prop where
  at0 : L = some ⟨g, 0, none⟩
  stops : StrsIn w (Zone.one s) A x.stops
  lines : LOwn w g x.lines p r
  apart : Apart lo hi g x.lines.length p r
  s0 : lo ≤ s
  s1 : s < hi
  off : Off g x.lines.length p r s
theorem LOwn.keepP {w w' : World} {g : Nat} {xs : List LineD} {p r : Nat → Nat} (h : LOwn w g xs p r) (hg : Same w w' g) (hp : ∀ k, k < xs.length → Same w w' (p k)) (hr : ∀ k, k < xs.length → Same w w' (r k)) : LOwn w' g xs p r :=
  ⟨fun j => (hg j).2.trans (h.free j), fun k hk => (h.each k hk).keep (fun i _ => (hg _).1) (hp k hk) (hr k hk)⟩
theorem NOwn.keep {w w' : World} {lo hi : Nat} {x : NetD} {A L : Option Addr} {s g : Nat} {p r : Nat → Nat} (h : NOwn w lo hi x A L s g p r) (hs : ∀ c, lo ≤ c ∧ c < hi → Same w w' c) : NOwn w' lo hi x A L s g p r :=
  ⟨h.at0, h.stops.keep fun c hc => by rw [Zone.one_ok hc]; exact hs _ ⟨h.s0, h.s1⟩, h.lines.keep h.apart hs, h.apart, h.s0, h.s1, h.off⟩
theorem NOwn.stopsIn {w : World} {lo hi : Nat} {x : NetD} {A L : Option Addr} {s g : Nat} {p r : Nat → Nat} (h : NOwn w lo hi x A L s g p r) : StrsIn w (Zone.new lo hi) A x.stops := h.stops.mono (Zone.one_le h.s0 h.s1)
theorem NOwn.linesIn {w : World} {lo hi : Nat} {x : NetD} {A L : Option Addr} {s g : Nat} {p r : Nat → Nat} (h : NOwn w lo hi x A L s g p r) : LinesIn w (Zone.new lo hi) L x.lines := by rw [h.at0]; exact h.lines.lines h.apart

set_option maxRecDepth 100000 in
set_option maxHeartbeats 1000000 in
theorem markNetwork_own (lo hi : Nat) (x : NetD) (A L : Option Addr) (ca cl K s g : Nat) (p r : Nat → Nat) (w : World) (h : NOwn w lo hi x A L s g p r) (hh : hi ≤ w.heap.size) (hn : szNet x ≤ 1048576) (h0 : 0 < K) (hK : K ≤ 1048576 * 1048576 - 4 * 1048576) :
    Calls Tryd.prog 8 #[.agg #[.slice A x.stops.length ca, .slice L x.lines.length cl], .int .i64 (K : Nat)] w fun e w' => e = .returned (.int .i64 ((K + cntN x : Nat) : Int)) ∧ Mk lo hi w w' ∧ StrsIn w' (Zone.one s) A (marksS K x.stops.length) ∧ LOwn w' g (mkdL x.lines (K + x.stops.length) x.lines.length) p r ∧ ∀ t, t ≠ s → Off g x.lines.length p r t → t < w.heap.size → Same w w' t := by
  have hb : Below w.heap.size w (w.alloc (.cells #[.slice A x.stops.length ca, .slice L x.lines.length cl] 25)) := by go_grown
  have HB := Lib.hid hb
  have hs0 := h.s0
  have hs1 := h.s1
  have HOff := Lib.hid h.off
  have HAp := Lib.hid h.apart
  have HA : Hid (StrsIn (w.alloc (.cells #[.slice A x.stops.length ca, .slice L x.lines.length cl] 25)) (Zone.one s) A x.stops) := Lib.hid (h.stops.new_call hb (by omega))
  have HLO := Lib.hid (h.lines.call h.apart hb hh)
  obtain rfl := h.at0
  have hsn : szNet x = szSs x.stops + szLns x.lines := rfl
  have hss : szSs x.stops = x.stops.length + upto (fun j => (nthS x.stops j).size) x.stops.length := rfl
  have HM0 : Hid (Mk lo hi w (w.alloc (.cells #[.slice A x.stops.length ca, .slice (some ⟨g, 0, none⟩) x.lines.length cl] 25))) := Lib.hid (Mk.of_below hb hh)
  have hlo : szLns x.lines ≤ 1048576 := by omega
  have hst : x.stops.length ≤ 1048576 := by omega
  have hzz : w.heap.size < (w.alloc (.cells #[.slice A x.stops.length ca, .slice (some ⟨g, 0, none⟩) x.lines.length cl] 25)).heap.size := by simp
  have hcn : cntN x = x.stops.length + cntLs x.lines x.lines.length := rfl
  have HCn := Lib.hid hcn
  have hq := markStringS_any s (s + 1) A ca x.stops K _ HA.out (by omega) hst h0 (by omega)
  have hc1 : (w.alloc (.cells #[.slice A x.stops.length ca, .slice (some ⟨g, 0, none⟩) x.lines.length cl] 25)).cell? ⟨w.heap.size, 1, none⟩ = some (.slice (some ⟨g, 0, none⟩) x.lines.length cl) := by go_simp
  push_cast at hq
  have HQ := Lib.hid hq
  have HC1 := Lib.hid hc1
  clear h hb hsn hss hcn hq hc1
  go_enter Tryd.func8, Tryd.ntmps8
  go_wp2_with fail
  generalize (w.alloc (.cells #[.slice A x.stops.length ca, .slice (some ⟨g, 0, none⟩) x.lines.length cl] 25)) = w0 at *
  refine HQ.out.mono ?_
  rintro e w1 ⟨rfl, hm1, hst1⟩
  have HS1 := Lib.hid hst1
  have HM1 := Lib.hid hm1
  have hc1 : w1.cell? ⟨w.heap.size, 1, none⟩ = some (.slice (some ⟨g, 0, none⟩) x.lines.length cl) := hm1.cell_same (by omega) HC1.out
  have hz1 := hm1.size
  have hgo := HAp.out.g1
  have HL1 : Hid (LOwn w1 g x.lines p r) := Lib.hid (HLO.out.keepP (hm1.same (by have := HOff.out.1; omega) (by omega)) (fun k hk => hm1.same (by have := (HOff.out.2 k hk).1; omega) (by have := HAp.out.p0 k hk; omega)) (fun k hk => hm1.same (by have := (HOff.out.2 k hk).2; omega) (by have := HAp.out.r0 k hk; omega)))
  have hcl := cntLs_le x.lines
  have hxl : x.lines.length ≤ szLns x.lines := by unfold szLns; omega
  have hq := markLineS_own lo hi g p r cl x.lines (K + x.stops.length) _ HL1.out HAp.out (by omega) (by omega) (by omega) (by omega) (by omega)
  push_cast at hq
  have HQ2 := Lib.hid hq
  clear hm1 hcl hxl hq hst1
  go_wp2_with fail
  refine HQ2.out.mono ?_
  rintro e w2 ⟨rfl, hm2, hl2, ht2⟩
  have HM2 := Lib.hid hm2
  have HL2 := Lib.hid hl2
  have HT2 := Lib.hid ht2
  clear hm2 hc1 hl2 ht2
  go_wp2_with fail
  go_ret
  refine ⟨retI (by rw [HCn.out]; push_cast; omega), (HM0.out.trans (HM1.out.wider hs0 hs1 (by omega))).trans HM2.out, HS1.out.keep fun c hc => by rw [Zone.one_ok hc]; exact HT2.out _ HOff.out (by omega), HL2.out, fun t hts hto htw => ?_⟩
  exact ((Same.of_below HB.out htw).trans (HM1.out.same (by omega) (by omega))).trans (HT2.out t hto (by omega))

set_option maxRecDepth 100000 in
set_option maxHeartbeats 1000000 in
theorem heldNetwork_any (x : NetD) (A L : Option Addr) (ca cl K : Nat) (w : World) (hA : StrsIn w (Zone.below w.heap.size) A (marksS K x.stops.length)) (hL : LinesIn w (Zone.below w.heap.size) L (mkdL x.lines (K + x.stops.length) x.lines.length)) (hn : szNet x ≤ 1048576) (h0 : 0 < K) (hK : K ≤ 1048576 * 1048576 - 4 * 1048576) :
    Calls Tryd.prog 9 #[.agg #[.slice A x.stops.length ca, .slice L x.lines.length cl], .int .i64 (K : Nat)] w fun e w' => e = .returned (.int .i64 ((K + cntN x : Nat) : Int)) ∧ Below w.heap.size w w' := by
  have hb : Below w.heap.size w (w.alloc (.cells #[.slice A x.stops.length ca, .slice L x.lines.length cl] 25)) := by go_grown
  have HB := Lib.hid hb
  have HA := Lib.hid (hA.call hb)
  have HL := Lib.hid (hL.call hb)
  have hsn : szNet x = szSs x.stops + szLns x.lines := rfl
  have hss : szSs x.stops = x.stops.length + upto (fun j => (nthS x.stops j).size) x.stops.length := rfl
  have hlo : szLns x.lines ≤ 1048576 := by omega
  have hst : x.stops.length ≤ 1048576 := by omega
  have hzz : w.heap.size < (w.alloc (.cells #[.slice A x.stops.length ca, .slice L x.lines.length cl] 25)).heap.size := by simp
  have hcn : cntN x = x.stops.length + cntLs x.lines x.lines.length := rfl
  have HCn := Lib.hid hcn
  have hcl := cntLs_le x.lines
  have hxl : x.lines.length ≤ szLns x.lines := by unfold szLns; omega
  have hq := heldStringS_any A ca x.stops.length K _ HA.out hst h0 (by omega)
  have hc1 : (w.alloc (.cells #[.slice A x.stops.length ca, .slice L x.lines.length cl] 25)).cell? ⟨w.heap.size, 1, none⟩ = some (.slice L x.lines.length cl) := by go_simp
  push_cast at hq
  have HQ := Lib.hid hq
  have HC1 := Lib.hid hc1
  clear hA hL hb hsn hss hcn hq hc1
  go_enter Tryd.func9, Tryd.ntmps9
  go_wp2_with fail
  generalize (w.alloc (.cells #[.slice A x.stops.length ca, .slice L x.lines.length cl] 25)) = w0 at *
  refine HQ.out.mono ?_
  rintro e w1 ⟨rfl, hb1⟩
  have HB1 := Lib.hid (bel_call HB.out hb1)
  have hc1 : w1.cell? ⟨w.heap.size, 1, none⟩ = some (.slice L x.lines.length cl) := (hb1.cell (p := ⟨w.heap.size, 1, none⟩) hzz).trans HC1.out
  have hq := heldLineS_any L cl x.lines (K + x.stops.length) w1 (HL.out.call hb1) (by omega) (by omega) (by omega) (by omega)
  push_cast at hq
  have HQ2 := Lib.hid hq
  clear hb1 hq
  go_wp2_with fail
  refine HQ2.out.mono ?_
  rintro e w2 ⟨rfl, hb2⟩
  have HB2 := Lib.hid (bel_call HB1.out hb2)
  clear hb2 hc1
  go_wp2_with fail
  go_ret
  exact ⟨retI (by rw [HCn.out]; push_cast; omega), HB2.out⟩
end

/-! ### Networks that a law's function returns. -/
section
open Go.ChangeShapes Go.WideShapes Go.ChangeAt Go.RowKit Go.PlainAid
set_option linter.unusedVariables false
set_option linter.unusedSimpArgs false

/-- A network, read only. -/
structure NetR (w : World) (Z : Zone) (A L : Option Addr) (x : NetD) : Prop where
  s : StrsIn w Z A x.stops
  l : LinesIn w Z L x.lines
/-- Its marks. -/
structure NetM (w : World) (Z : Zone) (A L : Option Addr) (x : NetD) (K : Nat) : Prop where
  s : StrsIn w Z A (marksS K x.stops.length)
  l : LinesIn w Z L (mkdL x.lines (K + x.stops.length) x.lines.length)
/-- A network of the call's own, or an empty one. -/
def NetO (w : World) (lo hi : Nat) (x : NetD) (A L : Option Addr) : Prop := (x.stops = [] ∧ x.lines = []) ∨ ∃ s g p r, NOwn w lo hi x A L s g p r
section
variable {w w' : World} {Z Z' : Zone} {A L : Option Addr} {x : NetD} {lo hi B K : Nat}
theorem NetR.keep (h : NetR w Z A L x) (hs : ∀ c, Z.ok c → Same w w' c) : NetR w' Z A L x := ⟨h.s.keep hs, h.l.keep hs⟩
theorem NetR.mono (h : NetR w Z A L x) (hz : Z.le Z') : NetR w Z' A L x := ⟨h.s.mono hz, h.l.mono hz⟩
theorem NetR.new_call (h : NetR w (Zone.new lo hi) A L x) (hb : Below B w w') (hB : hi ≤ B) : NetR w' (Zone.new lo hi) A L x := ⟨h.s.new_call hb hB, h.l.new_call hb hB⟩
theorem NetR.to_below (h : NetR w (Zone.new lo hi) A L x) (hB : hi ≤ B) : NetR w (Zone.below B) A L x := ⟨h.s.to_below hB, h.l.to_below hB⟩
theorem NetM.keep (h : NetM w Z A L x K) (hs : ∀ c, Z.ok c → Same w w' c) : NetM w' Z A L x K := ⟨h.s.keep hs, h.l.keep hs⟩
theorem NetM.new_call (h : NetM w (Zone.new lo hi) A L x K) (hb : Below B w w') (hB : hi ≤ B) : NetM w' (Zone.new lo hi) A L x K := ⟨h.s.new_call hb hB, h.l.new_call hb hB⟩
theorem NetM.to_below (h : NetM w (Zone.new lo hi) A L x K) (hB : hi ≤ B) : NetM w (Zone.below B) A L x K := ⟨h.s.to_below hB, h.l.to_below hB⟩
theorem NetO.keep (h : NetO w lo hi x A L) (hs : ∀ c, lo ≤ c ∧ c < hi → Same w w' c) : NetO w' lo hi x A L := by
  rcases h with h | ⟨s, g, p, r, h⟩
  · exact .inl h
  · exact .inr ⟨s, g, p, r, h.keep hs⟩
theorem NetO.new_call (h : NetO w lo hi x A L) (hb : Below B w w') (hB : hi ≤ B) : NetO w' lo hi x A L := h.keep fun c hc => Same.of_below hb (by omega)
theorem NetO.to_new (h : NetO w lo hi x A L) : NetR w (Zone.new lo hi) A L x := by
  rcases h with h | ⟨s, g, p, r, h⟩
  · refine ⟨?_, ?_⟩
    · rw [h.1]; exact fun h => by simp at h
    · rw [h.2]; exact fun h => by simp at h
  · exact ⟨h.stopsIn, h.linesIn⟩
theorem NetO.s (h : NetO w lo hi x A L) : StrsIn w (Zone.new lo hi) A x.stops := h.to_new.s
theorem NetO.l (h : NetO w lo hi x A L) : LinesIn w (Zone.new lo hi) L x.lines := h.to_new.l
theorem NetO.to_below (h : NetO w lo hi x A L) (hB : hi ≤ B) : NetR w (Zone.below B) A L x := h.to_new.to_below hB
theorem Apart.wide {lo' hi' g n : Nat} {p r : Nat → Nat} (h : Apart lo hi g n p r) (h1 : lo' ≤ lo) (h2 : hi ≤ hi') : Apart lo' hi' g n p r :=
  ⟨Nat.le_trans h1 h.g0, Nat.lt_of_lt_of_le h.g1 h2, fun k hk => by have := h.p0 k hk; omega, fun k hk => by have := h.r0 k hk; omega, h.pp, h.rr, h.pr⟩
theorem NOwn.wide {lo' hi' s g : Nat} {p r : Nat → Nat} (h : NOwn w lo hi x A L s g p r) (h1 : lo' ≤ lo) (h2 : hi ≤ hi') : NOwn w lo' hi' x A L s g p r :=
  ⟨h.at0, h.stops, h.lines, h.apart.wide h1 h2, Nat.le_trans h1 h.s0, Nat.lt_of_lt_of_le h.s1 h2, h.off⟩
theorem NetO.mono {lo' hi' : Nat} (h : NetO w lo hi x A L) (hz : (Zone.new lo hi).le (Zone.new lo' hi')) (h1 : lo' ≤ lo) (h2 : hi ≤ hi') : NetO w lo' hi' x A L := by
  rcases h with h | ⟨s, g, p, r, h⟩
  · exact .inl h
  · exact .inr ⟨s, g, p, r, h.wide h1 h2⟩
theorem NetO.wide {lo' hi' : Nat} (h : NetO w lo hi x A L) (h1 : lo' ≤ lo) (h2 : hi ≤ hi') : NetO w lo' hi' x A L := by
  rcases h with h | ⟨s, g, p, r, h⟩
  · exact .inl h
  · exact .inr ⟨s, g, p, r, h.wide h1 h2⟩
end
theorem szNet_nil {x : NetD} (h : x.stops = [] ∧ x.lines = []) : szNet x = 0 := by
  unfold szNet szSs szLns
  rw [h.1, h.2]
  rfl
theorem markNetwork_res (lo hi : Nat) (x : NetD) (A L : Option Addr) (ca cl K : Nat) (w : World) (h : NetO w lo hi x A L) (hh : hi ≤ w.heap.size) (hn : szNet x ≤ 1048576) (h0 : 0 < K) (hK : K ≤ 1048576 * 1048576 - 4 * 1048576) :
    Calls Tryd.prog 8 #[.agg #[.slice A x.stops.length ca, .slice L x.lines.length cl], .int .i64 (K : Nat)] w fun e w' => e = .returned (.int .i64 ((K + cntN x : Nat) : Int)) ∧ Mk lo hi w w' ∧ NetM w' (Zone.new lo hi) A L x K := by
  rcases h with h | ⟨s, g, p, r, h⟩
  · refine (markNetwork_any lo hi x A L ca cl K w (by rw [h.1]; exact fun h => by simp at h) (by rw [h.2]; exact fun h => by simp at h) hh hn h0 hK).mono ?_
    rintro e w' ⟨h1, h2⟩
    refine ⟨h1, h2, ?_, ?_⟩
    · intro hq; rw [marksS_length, h.1] at hq; simp at hq
    · intro hq; rw [mkdL_length, h.2] at hq; simp at hq
  · refine (markNetwork_own lo hi x A L ca cl K s g p r w h hh hn h0 hK).mono ?_
    rintro e w' ⟨h1, h2, h3, h4, _⟩
    refine ⟨h1, h2, h3.mono (Zone.one_le h.s0 h.s1), ?_⟩
    rw [h.at0]
    refine h4.lines (lo := lo) (hi := hi) ?_
    rw [mkdL_length]
    exact h.apart
theorem heldNetwork_res (x : NetD) (A L : Option Addr) (ca cl K : Nat) (w : World) (h : NetM w (Zone.below w.heap.size) A L x K) (hn : szNet x ≤ 1048576) (h0 : 0 < K) (hK : K ≤ 1048576 * 1048576 - 4 * 1048576) :
    Calls Tryd.prog 9 #[.agg #[.slice A x.stops.length ca, .slice L x.lines.length cl], .int .i64 (K : Nat)] w fun e w' => e = .returned (.int .i64 ((K + cntN x : Nat) : Int)) ∧ Below w.heap.size w w' :=
  heldNetwork_any x A L ca cl K w h.s h.l hn h0 hK
/-- What a function hands back that makes a network: its own. -/
def RetNet (x : NetD) (b : Bool) (w : World) (e : Ending) (w' : World) : Prop :=
  ∃ A ca L cl, e = .returned (.tuple #[.agg #[.slice A x.stops.length ca, .slice L x.lines.length cl], .bool b]) ∧ NetO w' w.heap.size w'.heap.size x A L ∧ Below w.heap.size w w'
/-- The same without the boolean. -/
def RetNet1 (x : NetD) (w : World) (e : Ending) (w' : World) : Prop :=
  ∃ A ca g cl s p r, e = .returned (.agg #[.slice A x.stops.length ca, .slice (some ⟨g, 0, none⟩) x.lines.length cl]) ∧ NOwn w' w.heap.size w'.heap.size x A (some ⟨g, 0, none⟩) s g p r ∧ Below w.heap.size w w'
end
end Go.Proofs.YtpipegdjflniaaaDoor
