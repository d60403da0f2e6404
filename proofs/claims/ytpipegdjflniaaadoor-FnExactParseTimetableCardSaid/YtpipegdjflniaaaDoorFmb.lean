/- FormatNetwork's head: parts -/
import Derived.Test.YtpipegdjflniaaaDoorNetC
import Derived.Test.YtpipegdjflniaaaDoorLnA
import Derived.Test.YtpipegdjflniaaaDoorNumW
namespace Go.Proofs.YtpipegdjflniaaaDoor

/-! ### The text of a network. -/
section
open Go.ChangeShapes Go.WideShapes Go.ChangeAt Go.RowKit Go.PlainAid
set_option linter.unusedVariables false
set_option linter.unusedSimpArgs false

/-- What is known of a valid network's line. -/
structure LnX (x : NetD) (y : LineD) : Prop where
  name : y.name.size ≤ 8
  lo : 2 ≤ y.stops.length
  len : y.stops.length ≤ 6
  runs : y.runs.length + 1 = y.stops.length
  stop : ∀ k, k < y.stops.length → 0 ≤ nth y.stops k ∧ nth y.stops k < x.stops.length ∧ (nthS x.stops (nth y.stops k).toNat).size ≤ 8
  run : ∀ k, k < y.runs.length → 1 ≤ nth y.runs k ∧ nth y.runs k ≤ 60
/-- .. and of the network. -/
structure NtX (x : NetD) : Prop where
  lo : 2 ≤ x.stops.length
  ns : x.stops.length ≤ 8
  nl : x.lines.length ≤ 5
  stop : ∀ k, k < x.stops.length → (nthS x.stops k).size ≤ 8
  line : ∀ i, i < x.lines.length → LnX x (nthL x.lines i)
theorem names_size {xs : List ByteArray} (h : namesB xs = true) {k : Nat} (hk : k < xs.length) : (nthS xs k).size ≤ 8 := by
  have h1 : AreNames xs := of_decide_eq_true h
  have h2 : IsName (nthS xs k) := of_decide_eq_true (h1 k hk).1
  exact h2.2.1
theorem ntX_of {x : NetD} (h : netB x = true) : NtX x := by
  have n := netB_ok h
  have hs := inB_iff.mp n.stops
  have hl := inB_iff.mp n.lines
  refine ⟨by omega, by omega, by omega, fun k hk => names_size n.names hk, fun i hi => ?_⟩
  have ln : LineOk x.stops.length (nthL x.lines i) := of_decide_eq_true (n.each i hi)
  have hd := ln.1
  unfold LineHd at hd
  refine ⟨?_, hd.1, hd.2.1, hd.2.2, fun k hk => ?_, fun k hk => ?_⟩
  · have h1 := names_size n.lnames (k := i) (by rw [namesOf_length]; exact hi)
    rw [nthS_names hi] at h1
    exact h1
  · have h1 := (ln.2.1 k hk).1
    rw [inB_iff] at h1
    exact ⟨h1.1, by omega, names_size n.names (by omega)⟩
  · have h1 := ln.2.2 k hk
    unfold RunOk at h1
    rw [inB_iff] at h1
    exact h1
theorem num_run {n : Int} (h0 : 1 ≤ n) (h1 : n ≤ 60) : (bs (num n)).size ≤ 2 := by
  rw [bs_size]
  unfold num
  rw [if_neg (by omega)]
  exact dec_length _ 2 (by omega) (by omega)
/-- The name of a line's k-th stop. -/
def sN (x : NetD) (y : LineD) (k : Nat) : ByteArray := nthS x.stops (nth y.stops k).toNat
def rN (y : LineD) (k : Nat) : ByteArray := bs (num (nth y.runs k))
/-- The text of the first k stops. -/
def stT (x : NetD) : Nat → ByteArray
  | 0 => ⟨#[]⟩
  | k + 1 => stT x k ++ ⟨#[115, 116, 111, 112, 32]⟩ ++ nthS x.stops k ++ ⟨#[10]⟩
/-- A line's words behind s, as the reference builds them. -/
def wdT (x : NetD) (y : LineD) (s : ByteArray) : Nat → ByteArray
  | 0 => s
  | k + 1 => if k < y.runs.length then wdT x y s k ++ ⟨#[32]⟩ ++ sN x y k ++ ⟨#[32]⟩ ++ rN y k else wdT x y s k ++ ⟨#[32]⟩ ++ sN x y k
/-- .. and as the program does. -/
def wiT (x : NetD) (y : LineD) (s : ByteArray) : Nat → ByteArray
  | 0 => s
  | k + 1 => (if 0 < k then wiT x y s k ++ (⟨#[32]⟩ ++ rN y (k - 1)) else wiT x y s k) ++ (⟨#[32]⟩ ++ sN x y k)
/-- The text of the first i lines. -/
def lnT (x : NetD) : Nat → ByteArray
  | 0 => stT x x.stops.length
  | i + 1 => wdT x (nthL x.lines i) (lnT x i ++ ⟨#[108, 105, 110, 101, 32]⟩ ++ (nthL x.lines i).name) (nthL x.lines i).stops.length ++ ⟨#[10]⟩
def netT (x : NetD) : ByteArray := lnT x x.lines.length
theorem stT_succ (x : NetD) (k : Nat) : stT x k ++ ⟨#[115, 116, 111, 112, 32]⟩ ++ nthS x.stops k ++ ⟨#[10]⟩ = stT x (k + 1) := rfl
theorem stT_succ' (x : NetD) (k : Nat) : stT x k ++ (⟨#[115, 116, 111, 112, 32]⟩ ++ nthS x.stops k ++ ⟨#[10]⟩) = stT x (k + 1) := by rw [← stT_succ]; simp only [ByteArray.append_assoc]
theorem lnT_succ (x : NetD) (i : Nat) : wdT x (nthL x.lines i) (lnT x i ++ ⟨#[108, 105, 110, 101, 32]⟩ ++ (nthL x.lines i).name) (nthL x.lines i).stops.length ++ ⟨#[10]⟩ = lnT x (i + 1) := rfl
theorem wdT_yes {x : NetD} {y : LineD} {s : ByteArray} {k : Nat} (h : k < y.runs.length) : wdT x y s k ++ ⟨#[32]⟩ ++ sN x y k ++ ⟨#[32]⟩ ++ rN y k = wdT x y s (k + 1) := by rw [wdT, if_pos h]
theorem wdT_no {x : NetD} {y : LineD} {s : ByteArray} {k : Nat} (h : ¬ k < y.runs.length) : wdT x y s k ++ ⟨#[32]⟩ ++ sN x y k = wdT x y s (k + 1) := by rw [wdT, if_neg h]
theorem wi_wd (x : NetD) (y : LineD) (s : ByteArray) : ∀ k, k ≤ y.runs.length → wdT x y s (k + 1) = if k < y.runs.length then wiT x y s (k + 1) ++ (⟨#[32]⟩ ++ rN y k) else wiT x y s (k + 1) := by
  intro k
  induction k with
  | zero =>
    intro _
    rw [wdT, wiT, if_neg (Nat.lt_irrefl 0)]
    split
    · simp only [wdT, wiT, ByteArray.append_assoc]
    · simp only [wdT, wiT, ByteArray.append_assoc]
  | succ k ih =>
    intro hk
    have ih := ih (by omega)
    rw [if_pos (by omega)] at ih
    rw [wdT, wiT, if_pos (Nat.succ_pos k), Nat.add_sub_cancel, ih]
    split
    · simp only [ByteArray.append_assoc]
    · simp only [ByteArray.append_assoc]
theorem wi_end {x : NetD} {y : LineD} (h : LnX x y) (s : ByteArray) : wiT x y s y.stops.length = wdT x y s y.stops.length := by
  have h1 := wi_wd x y s y.runs.length (Nat.le_refl _)
  rw [if_neg (Nat.lt_irrefl _), h.runs] at h1
  exact h1.symm
theorem wiT_pos {x : NetD} {y : LineD} {s : ByteArray} {k : Nat} (h : 0 < k) : wiT x y s k ++ (⟨#[32]⟩ ++ rN y (k - 1)) ++ (⟨#[32]⟩ ++ sN x y k) = wiT x y s (k + 1) := by rw [wiT, if_pos h]
theorem wiT_zero {x : NetD} {y : LineD} {s : ByteArray} : s ++ (⟨#[32]⟩ ++ sN x y 0) = wiT x y s 1 := rfl
theorem sN_size {x : NetD} {y : LineD} (h : LnX x y) {k : Nat} (hk : k < y.stops.length) : (sN x y k).size ≤ 8 := (h.stop k hk).2.2
theorem rN_size {x : NetD} {y : LineD} (h : LnX x y) {k : Nat} (hk : k < y.runs.length) : (rN y k).size ≤ 2 := num_run (h.run k hk).1 (h.run k hk).2
theorem wdT_size {x : NetD} {y : LineD} (h : LnX x y) (s : ByteArray) : ∀ k, k ≤ y.stops.length → s.size ≤ (wdT x y s k).size ∧ (wdT x y s k).size ≤ s.size + 12 * k := by
  intro k
  have e : (⟨#[32]⟩ : ByteArray).size = 1 := rfl
  induction k with
  | zero => intro _; exact ⟨Nat.le_refl _, Nat.le_refl _⟩
  | succ k ih =>
    intro hk
    have h1 := ih (by omega)
    have h2 := sN_size h (k := k) (by omega)
    rw [wdT]
    split
    · have h3 := rN_size h (k := k) (by assumption)
      simp only [ByteArray.size_append, e]
      omega
    · simp only [ByteArray.size_append, e]
      omega
theorem wiT_size {x : NetD} {y : LineD} (h : LnX x y) (s : ByteArray) : ∀ k, k ≤ y.stops.length → (wiT x y s k).size ≤ s.size + 12 * k := by
  intro k
  have e : (⟨#[32]⟩ : ByteArray).size = 1 := rfl
  have hr := h.runs
  induction k with
  | zero => intro _; exact Nat.le_refl _
  | succ k ih =>
    intro hk
    have h1 := ih (by omega)
    have h2 := sN_size h (k := k) (by omega)
    rw [wiT]
    split
    · have h3 := rN_size h (k := k - 1) (by omega)
      simp only [ByteArray.size_append, e]
      omega
    · simp only [ByteArray.size_append, e]
      omega
theorem stT_size {x : NetD} (h : NtX x) : ∀ k, k ≤ x.stops.length → k ≤ (stT x k).size ∧ (stT x k).size ≤ 14 * k := by
  intro k
  have e1 : (⟨#[115, 116, 111, 112, 32]⟩ : ByteArray).size = 5 := rfl
  have e2 : (⟨#[10]⟩ : ByteArray).size = 1 := rfl
  induction k with
  | zero => intro _; exact ⟨Nat.le_refl _, Nat.le_refl _⟩
  | succ k ih =>
    intro hk
    have h1 := ih (by omega)
    have h2 := h.stop k (by omega)
    rw [stT]
    simp only [ByteArray.size_append, e1, e2]
    omega
theorem lnT_size {x : NetD} (h : NtX x) : ∀ i, i ≤ x.lines.length → 1 ≤ (lnT x i).size ∧ (lnT x i).size ≤ 112 + 86 * i := by
  intro i
  have e1 : (⟨#[108, 105, 110, 101, 32]⟩ : ByteArray).size = 5 := rfl
  have e2 : (⟨#[10]⟩ : ByteArray).size = 1 := rfl
  induction i with
  | zero =>
    intro _
    have h1 := stT_size h x.stops.length (Nat.le_refl _)
    have := h.ns
    have := h.lo
    rw [lnT]
    omega
  | succ i ih =>
    intro hk
    have h1 := ih (by omega)
    have hl := h.line i (by omega)
    have h2 := wdT_size hl (lnT x i ++ ⟨#[108, 105, 110, 101, 32]⟩ ++ (nthL x.lines i).name) _ (Nat.le_refl _)
    have h3 := hl.name
    have h4 := hl.len
    rw [lnT]
    simp only [ByteArray.size_append, e1, e2] at h2 ⊢
    omega
theorem netT_size {x : NetD} (h : NtX x) : 1 ≤ (netT x).size ∧ (netT x).size ≤ 542 := by
  have h1 := lnT_size h x.lines.length (Nat.le_refl _)
  have := h.nl
  unfold netT
  omega
end

/-! ### The text of a network: the reference. -/
section
open Go.ChangeShapes Go.WideShapes Go.ChangeAt Go.RowKit Go.PlainAid
set_option linter.unusedVariables false
set_option linter.unusedSimpArgs false

set_option maxRecDepth 100000 in
set_option maxHeartbeats 4000000 in
theorem l6Network_any (x : NetD) (A L : Option Addr) (ca cl : Nat) (w : World) (hA : StrsIn w (Zone.below w.heap.size) A x.stops) (hL : LinesIn w (Zone.below w.heap.size) L x.lines) (hx : Fits x) (hg : netB x = true) :
    Calls Tryd.prog 50 #[.agg #[.slice A x.stops.length ca, .slice L x.lines.length cl]] w fun e w' => e = .returned (.string (netT x)) ∧ Below w.heap.size w w' := by
  have H0 : Hid (NetBox w (w.alloc (.cells #[.slice A x.stops.length ca, .slice L x.lines.length cl] 25)) w.heap.size x A ca L cl) := Lib.hid (NetBox.box hA hL)
  have HX := Lib.hid (ntX_of hg)
  have z1 : (⟨#[115, 116, 111, 112, 32]⟩ : ByteArray).size = 5 := rfl
  have z2 : (⟨#[10]⟩ : ByteArray).size = 1 := rfl
  have z3 : (⟨#[108, 105, 110, 101, 32]⟩ : ByteArray).size = 5 := rfl
  have z4 : (⟨#[32]⟩ : ByteArray).size = 1 := rfl
  clear hA hL hg
  go_enter Tryd.func50, Tryd.ntmps50
  go_wp2_with fail
  generalize (w.alloc (.cells #[.slice A x.stops.length ca, .slice L x.lines.length cl] 25)) = w0 at *
  have J0 : Hid ((⟨#[]⟩ : ByteArray) = stT x 0) := Lib.hid rfl
  go_loopw [3, 4] (fun s j wr => ∃ k : Nat, k ≤ x.stops.length ∧ j = .int .i64 k ∧ s = .string (stT x k) ∧ Below w0.heap.size w0 wr) (fun _ j _ => x.stops.length - (intOf j).toNat)
  case atStart => exact ⟨0, Nat.zero_le _, rfl, rfl, Below.refl _ _⟩
  case round =>
    obtain ⟨k, hk, rfl, rfl, hb⟩ := hrel
    have H1 := Lib.hid (H0.out.call hb)
    have HB := Lib.hid hb
    clear hb
    by_cases hlt : k < x.stops.length
    · have hss := (stT_size HX.out k hk).2
      have hns := HX.out.ns
      have hnm := HX.out.stop k hlt
      obtain ⟨b, o, rfl, hbl, hc0⟩ := H1.out.stops.get hlt
      have hc : wr.cell? ⟨b, o + k, none⟩ = some (.string (nthS x.stops k)) := hc0
      obtain ⟨c0, c1⟩ := H1.out.cells
      have hik : (k : Int) < x.stops.length := by omega
      have HS := Lib.hid (stT_succ x k)
      clear hc0
      go_wp2_with fail
      go_roundw
      case rel => exact ⟨k + 1, by omega, by go_num, by rw [← HS.out], by repeat (first | exact HB.out | refine bel_drew ?_)⟩
      case measure => simp [intOf]; omega
    · obtain rfl : k = x.stops.length := by omega
      obtain ⟨c0, c1⟩ := H1.out.cells
      go_wp2_with fail
      clear c0 c1
      have J1 : Hid (stT x x.stops.length = lnT x 0) := Lib.hid rfl
      obtain ⟨wa, rfl⟩ : ∃ wa : World, wa = wr := ⟨_, rfl⟩
      go_loopw [3, 5, 6, 7] (fun s j _ _ wr => ∃ i : Nat, i ≤ x.lines.length ∧ j = .int .i64 i ∧ s = .string (lnT x i) ∧ Below wa.heap.size wa wr) (fun _ j _ _ _ => x.lines.length - (intOf j).toNat)
      case atStart => exact ⟨0, Nat.zero_le _, rfl, by rw [J1.out], Below.refl _ _⟩
      case round =>
        obtain ⟨i, hi, rfl, rfl, hb⟩ := hrel
        have H2 := Lib.hid (H1.out.call hb)
        have HB2 := Lib.hid hb
        clear hb
        by_cases hlt : i < x.lines.length
        · have hls := (lnT_size HX.out i hi).2
          have hln := HX.out.nl
          have HY := Lib.hid (HX.out.line i hlt)
          have hyn := HY.out.name
          obtain ⟨b, o, rfl, hbl, S, cs, R, cr, hc0, hc1, hc2, hi1, hi2, hcs, hcr⟩ := LinesIn.lineC H2.out.lines hlt
          have HI1 := Lib.hid hi1
          have HI2 := Lib.hid hi2
          obtain ⟨c0, c1⟩ := H2.out.cells
          have hik : (i : Int) < x.lines.length := by omega
          have hz := H2.out.lt
          have W2B : Hid (Below wr.heap.size wr (wr.alloc (.cells #[.string (nthL x.lines i).name, .slice S (nthL x.lines i).stops.length cs, .slice R (nthL x.lines i).runs.length cr] 47))) := Lib.hid (by go_grown)
          have W2L : Hid (Lin3 (wr.alloc (.cells #[.string (nthL x.lines i).name, .slice S (nthL x.lines i).stops.length cs, .slice R (nthL x.lines i).runs.length cr] 47)) wr.heap.size (nthL x.lines i) S cs R cr) := Lib.hid ⟨by go_simp, by go_simp, by go_simp⟩
          have hz2 : wr.heap.size < (wr.alloc (.cells #[.string (nthL x.lines i).name, .slice S (nthL x.lines i).stops.length cs, .slice R (nthL x.lines i).runs.length cr] 47)).heap.size := by simp
          clear hi1 hi2
          go_wp2_with fail
          have HB3 := Lib.hid (bel_call HB2.out W2B.out)
          have H3 := Lib.hid (H2.out.call W2B.out)
          clear hc0 hc1 hc2 c0 c1
          generalize (wr.alloc (.cells #[.string (nthL x.lines i).name, .slice S (nthL x.lines i).stops.length cs, .slice R (nthL x.lines i).runs.length cr] 47)) = wb at *
          generalize hyy : nthL x.lines i = y at *
          have HYY := Lib.hid hyy
          clear hyy
          obtain ⟨s0, hs0⟩ : ∃ s0, s0 = lnT x i ++ ⟨#[108, 105, 110, 101, 32]⟩ ++ y.name := ⟨_, rfl⟩
          have hs0z : s0.size ≤ 600 := by rw [hs0, ByteArray.size_append, ByteArray.size_append, z3]; omega
          have HS0 := Lib.hid hs0
          rw [← hs0]
          clear hs0
          have J2 : Hid (s0 = wdT x y s0 0) := Lib.hid rfl
          obtain ⟨wi, rfl⟩ : ∃ wi : World, wi = wr := ⟨_, rfl⟩
          go_loopw [3, 7] (fun s j wc => ∃ k : Nat, k ≤ y.stops.length ∧ j = .int .i64 k ∧ s = .string (wdT x y s0 k) ∧ Below wb.heap.size wb wc) (fun _ j _ => y.stops.length - (intOf j).toNat)
          case atStart => exact ⟨0, Nat.zero_le _, rfl, by rw [← J2.out], Below.refl _ _⟩
          case round =>
            obtain ⟨k, hk, rfl, rfl, hbc⟩ := hrel
            have HB4 := Lib.hid hbc
            have H4 := Lib.hid (H3.out.call hbc)
            have HL4 := Lib.hid (W2L.out.below hbc hz2)
            have hzc := hbc.size
            clear hbc
            obtain ⟨l0, l1, l2⟩ := HL4.out
            have hwz := (wdT_size HY.out s0 k hk).2
            have hyl := HY.out.len
            have hwz2 : (wdT x y s0 k).size ≤ 800 := by omega
            clear hwz
            by_cases hlk : k < y.stops.length
            · obtain ⟨m0, m1, m2⟩ := HY.out.stop k hlk
              obtain ⟨m, hmm⟩ : ∃ m : Nat, nth y.stops k = m := ⟨(nth y.stops k).toNat, by omega⟩
              have hml : m < x.stops.length := by omega
              have hmi : (m : Int) < x.stops.length := by omega
              have hsn : nthS x.stops m = sN x y k := by unfold sN; rw [hmm]; rfl
              obtain ⟨b1, o1, rfl, hbl1, hd1⟩ := (IntsIn.at HI1.out).get hlk
              rw [hmm] at hd1
              obtain ⟨b2, o2, rfl, hbl2, hd2⟩ := H2.out.stops.get hml
              replace hd2 : wi.cell? ⟨b2, o2 + m, none⟩ = some (.string (nthS x.stops m)) := hd2
              rw [hsn] at hd2
              have E1 := Lib.hid hd1
              have E2 := Lib.hid hd2
              have hns := sN_size HY.out hlk
              have hki : (k : Int) < y.stops.length := by omega
              have HW1 : Hid (∀ (h : k < y.runs.length), wdT x y s0 k ++ ⟨#[32]⟩ ++ sN x y k ++ ⟨#[32]⟩ ++ rN y k = wdT x y s0 (k + 1)) := Lib.hid (fun h => wdT_yes h)
              have HW2 : Hid (∀ (h : ¬ k < y.runs.length), wdT x y s0 k ++ ⟨#[32]⟩ ++ sN x y k = wdT x y s0 (k + 1)) := Lib.hid (fun h => wdT_no h)
              clear m0 m1 m2 hmm hsn hd1 hd2 z3
              obtain ⟨wo, rfl⟩ : ∃ wo : World, wo = wr := ⟨_, rfl⟩
              have HBo := Lib.hid (bel_call W2B.out HB4.out)
              have hC : ∀ w', Below wo.heap.size wo w' → Net2 w' w.heap.size x (some ⟨b2, o2, none⟩) ca (some ⟨b, o, none⟩) cl := fun w' h => (H4.out.call h).cells
              have hE : ∀ w', Below wo.heap.size wo w' → Lin3 w' wi.heap.size y (some ⟨b1, o1, none⟩) cs R cr := fun w' h => HL4.out.below h (by have := HB4.out.size; omega)
              have hD1 : ∀ w', Below wo.heap.size wo w' → w'.cell? ⟨b1, o1 + k, none⟩ = some (.int .i64 m) := fun w' h => ((bel_call HBo.out h).cell (p := ⟨b1, _, none⟩) hbl1).trans E1.out
              have hD2 : ∀ w', Below wo.heap.size wo w' → w'.cell? ⟨b2, o2 + m, none⟩ = some (.string (sN x y k)) := fun w' h => ((bel_call HBo.out h).cell (p := ⟨b2, _, none⟩) hbl2).trans E2.out
              unfold Net2 at hC
              unfold Lin3 at hE
              generalize hsk : wdT x y s0 k = s at *
              generalize hnk : sN x y k = nm at *
              clear hsk hnk l0 l1 l2
              have p1 : ¬ 9223372036854775807 < s.size + 1 := by omega
              have p2 : ¬ 9223372036854775807 < s.size + 1 + nm.size := by omega
              have l1 := (hE wo (Below.refl _ _)).2.1
              go_wp2_with fail
              clear l1
              go_region_held3 (fun w' => Below wo.heap.size wo w') (repeat' first | assumption | exact Nat.le_refl _ | exact Below.refl _ _ | (refine bel_drew ?_) | (refine bel_alloc ?_ _) | (refine bel_set ?_ ?_ _)) (fail)
              all_goals
                have l2 := (hE wo (Below.refl _ _)).2.2
                clear hC hE hD1 hD2
                by_cases hr : k < y.runs.length
                · have HW := Lib.hid (HW1.out hr)
                  obtain ⟨b3, o3, rfl, hbl3, hd3⟩ := (IntsIn.at HI2.out).get hr
                  have e3 := ((HBo.out).cell (p := ⟨b3, o3 + k, none⟩) hbl3).trans hd3
                  have hri : (k : Int) < y.runs.length := by omega
                  obtain ⟨r0, r1⟩ := HY.out.run k hr
                  have hrz := rN_size HY.out hr
                  have HRN : Hid (bs (num (nth y.runs k)) = rN y k) := Lib.hid rfl
                  clear hd3 hr HW1 HW2
                  go_wp2_with fail
                  refine (l1Num_any _ _ (by omega) (by omega)).mono ?_
                  rintro e w5 ⟨rfl, q, rfl⟩
                  rw [HRN.out]
                  go_wp2_with fail
                  go_roundw
                  case rel => exact ⟨k + 1, by omega, by go_num, by rw [← HW.out], by repeat (first | exact HB4.out | refine bel_drewN ?_ _ | refine bel_drew ?_)⟩
                  case measure => simp [intOf]; omega
                · have HW := Lib.hid (HW2.out hr)
                  have hri : ¬ (k : Int) < y.runs.length := by omega
                  clear hr HW1 HW2
                  go_wp2_with fail
                  go_roundw
                  case rel => exact ⟨k + 1, by omega, by go_num, by rw [← HW.out], by repeat (first | exact HB4.out | refine bel_drewN ?_ _ | refine bel_drew ?_)⟩
                  case measure => simp [intOf]; omega
            · obtain rfl : k = y.stops.length := by omega
              have HLS : Hid (wdT x y s0 y.stops.length ++ ⟨#[10]⟩ = lnT x (i + 1)) := Lib.hid (by rw [← lnT_succ, HYY.out, HS0.out])
              go_wp2_with fail
              go_roundw
              case rel => exact ⟨i + 1, by omega, by go_num, by rw [← HLS.out], by repeat (first | exact bel_call HB3.out HB4.out | refine bel_drewN ?_ _ | refine bel_drew ?_)⟩
              case measure => simp [intOf]; omega
        · obtain rfl : i = x.lines.length := by omega
          obtain ⟨c0, c1⟩ := H2.out.cells
          have JN : Hid (lnT x x.lines.length = netT x) := Lib.hid rfl
          go_wp2_with fail
          go_ret
          exact ⟨by rw [← JN.out]; rfl, H2.out.bel⟩
end
end Go.Proofs.YtpipegdjflniaaaDoor
