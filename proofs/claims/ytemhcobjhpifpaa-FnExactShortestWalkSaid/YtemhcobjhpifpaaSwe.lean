/- spec.ShortestWalk: what it answers. -/
import Derived.Test.YtemhcobjhpifpaaSwd
import Derived.Test.YtemhcobjhpifpaaWkt
import Derived.Deep.RegionHeld3
namespace Go.Proofs.Ytemhcobjhpifpaa
open Go.ChangeShapes Go.WideShapes Go.ChangeAt Go.RowKit Go.PlainAid
set_option linter.unusedVariables false
set_option linter.unusedSimpArgs false

/-! ### The answer -/
def swK (n : Nat) (xs : List I3) (f t : Nat) : Nat := ((List.range 50000).find? (fun k => decide (wF n xs t k [f] f (fw xs n f t) ≠ []))).getD 0
def swL (n : Nat) (xs : List I3) (f t : Nat) : List Nat := wF n xs t (swK n xs f t) [f] f (fw xs n f t)
def swB (x : NetD) (xs : List I3) (f t : Int) : Bool := wtB x xs f && inB t 0 (x.stops.length - 1) && decide (0 ≤ fw xs x.stops.length f.toNat t.toNat)
def swI (x : NetD) (xs : List I3) (f t : Int) : List Int := if swB x xs f t = true then iL (swL x.stops.length xs f.toNat t.toNat) else []
theorem swB_no {x : NetD} {xs : List I3} {f t : Int} (h : wtB x xs f = false ∨ inB t 0 (x.stops.length - 1) = false ∨ fw xs x.stops.length f.toNat t.toNat < 0) : swB x xs f t = false := by
  unfold swB
  rcases h with h | h | h
  · rw [h]; rfl
  · rw [h]; simp
  · rw [decide_eq_false (by omega)]; simp
theorem swB_yes {x : NetD} {xs : List I3} {f t : Int} (h : wtB x xs f = true) (h' : inB t 0 (x.stops.length - 1) = true) (h2 : 0 ≤ fw xs x.stops.length f.toNat t.toNat) : swB x xs f t = true := by
  unfold swB
  rw [h, h', decide_eq_true h2]
  rfl
theorem swI_no {x : NetD} {xs : List I3} {f t : Int} (h : swB x xs f t = false) : swI x xs f t = [] := by unfold swI; rw [h]; rfl
theorem swI_yes {x : NetD} {xs : List I3} {f t : Int} (h : swB x xs f t = true) : swI x xs f t = iL (swL x.stops.length xs f.toNat t.toNat) := by unfold swI; rw [if_pos h]
theorem swK_eq {n : Nat} {xs : List I3} {f t k : Nat} (hk : k < 50000) (h : wF n xs t k [f] f (fw xs n f t) ≠ []) (hl : ∀ j, j < k → wF n xs t j [f] f (fw xs n f t) = []) : swK n xs f t = k := by
  unfold swK
  have : (List.range 50000).find? (fun k => decide (wF n xs t k [f] f (fw xs n f t) ≠ [])) = some k := by
    rw [List.find?_range_eq_some]
    exact ⟨by simp [h], List.mem_range.2 hk, fun j hj => by simp [hl j hj]⟩
  rw [this]
  rfl
/-- There is a way of some number of steps. -/
theorem wF_some {n : Nat} {xs : List I3} (h : Wks n xs) {t : Nat} (ht : t < n) : ∀ (m : Nat) (a : Nat) (way : List Nat), a < n → 0 ≤ fw xs n a t → fw xs n a t ≤ m → way ≠ [] → (∀ v ∈ way, fw xs n a t ≤ fw xs n v t) → ∃ k, k ≤ m ∧ wF n xs t k way a (fw xs n a t) ≠ [] := by
  intro m
  induction m with
  | zero =>
    intro a way ha h0 hm hne hv
    have e0 : fw xs n t a = 0 := by rw [fw_symm h ht ha]; omega
    obtain ⟨k, hw⟩ := (fw_dist h ht).way a ha (by omega)
    cases k with
    | zero =>
      obtain ⟨rfl, _⟩ := hw
      exact ⟨0, Nat.le_refl _, by rw [wF_zero, if_pos ⟨rfl, e0⟩]; exact hne⟩
    | succ k =>
      obtain ⟨u, m, hu, h1, h2⟩ := hw
      have h3 := (fw_dist h ht).le hu ⟨k, h1⟩
      have h4 := wm_edge h h2
      omega
  | succ m ih =>
    intro a way ha h0 hm hne hv
    by_cases hlt : fw xs n a t ≤ m
    · obtain ⟨k, hk, hw⟩ := ih a way ha h0 hlt hne hv
      exact ⟨k, by omega, hw⟩
    · have e0 : fw xs n t a = fw xs n a t := fw_symm h ht ha
      obtain ⟨k, hw⟩ := (fw_dist h ht).way a ha (by omega)
      cases k with
      | zero =>
        obtain ⟨rfl, hq⟩ := hw
        omega
      | succ k =>
        obtain ⟨u, c, hu, h1, h2⟩ := hw
        have h3 := (fw_dist h ht).le hu ⟨k, h1⟩
        have h4 := wm_edge h (edge_symm h2)
        have e1 : fw xs n u t = fw xs n t u := fw_symm h hu ht
        have h5 := fw_step h ht (edge_symm h2) (by omega : 0 ≤ fw xs n u t)
        have hnu : u ∉ way := fun hm => by have := hv u hm; omega
        obtain ⟨k2, hk2, hw2⟩ := ih u (way ++ [u]) hu (by omega) (by omega) (by simp) (fun v hvm => by
          rcases List.mem_append.1 hvm with hvm | hvm
          · have := hv v hvm; omega
          · rw [List.mem_singleton.1 hvm]; exact Int.le_refl _)
        refine ⟨k2 + 1, by omega, fun e => ?_⟩
        rw [wF_succ] at e
        have hg : wG n xs t k2 way a (fw xs n a t) u ≠ [] := by
          unfold wG
          rw [h4.1, if_neg (by rintro (q | q | q); omega; omega; exact hnu q)]
          have e3 : fw xs n a t - c = fw xs n u t := by omega
          rw [e3]
          exact hw2
        unfold scanF at e
        cases hf : (List.range n).find? (fun s => decide (wG n xs t k2 way a (fw xs n a t) s ≠ [])) with
        | some s =>
          rw [hf] at e
          have := List.find?_some hf
          simp at this
          exact this e
        | none =>
          have := List.find?_eq_none.1 hf u (List.mem_range.2 hu)
          simp at this
          exact hg this
theorem oneW (w : World) (f : Nat) (T : TypeId) : IntsIn (w.alloc (.cells #[.int .i64 (f : Nat)] T)) (Zone.new w.heap.size (w.alloc (.cells #[.int .i64 (f : Nat)] T)).heap.size) (some ⟨w.heap.size, 0, none⟩) (iL [f]) := fun _ =>
  ⟨w.heap.size, 0, rfl, ⟨Nat.le_refl _, by simp⟩, fun _ j => by simp, fun j hj => by
    have : j = 0 := by simp [iL] at hj; omega
    subst this
    show (w.alloc _).cell? ⟨w.heap.size, 0 + 0, none⟩ = _
    go_simp
    rfl⟩

set_option maxRecDepth 100000 in
set_option maxHeartbeats 4000000 in
theorem specShortest_any (x : NetD) (A L V : Option Addr) (ca cl cv : Nat) (xs : List I3) (f t : Int) (w : World) (hA : StrsIn w (Zone.below w.heap.size) A x.stops) (hL : LinesIn w (Zone.below w.heap.size) L x.lines) (hV : I3sIn w (Zone.below w.heap.size) V xs) (hx : Fits x) (hv : xs.length ≤ 1048576) :
    Calls Try.prog 6 #[.agg #[.slice A x.stops.length ca, .slice L x.lines.length cl], .slice V xs.length cv, .int .i64 f, .int .i64 t] w (RetInts (swI x xs f t) (swB x xs f t) w) := by
  have H0 : Hid (NetBox w (w.alloc (.cells #[.slice A x.stops.length ca, .slice L x.lines.length cl] 34)) w.heap.size x A ca L cl) := Lib.hid (NetBox.box hA hL)
  have HV0 := Lib.hid (hV.call H0.out.bel)
  have hn := hx.stops
  clear hA hL hV
  have HWT := Lib.hid (specWalking_any x A L V ca cl cv xs f _ H0.out.stops H0.out.lines HV0.out hx hv)
  cases g0 : wtB x xs f
  · have HG := Lib.hid (swB_no (t := t) (.inl g0))
    have H := Lib.hid (swI_no HG.out)
    rw [g0] at HWT
    clear g0
    go_enter Try.func6, Try.ntmps6
    go_wp2_with fail
    refine HWT.out.mono ?_
    rintro e w1 ⟨TA, tc, rfl, hi1, hb1⟩
    have H1 := Lib.hid (H0.out.call hb1)
    clear hi1 hb1
    have HB9 : Hid (Below w.heap.size w (w1.alloc (.cells #[] 3))) := Lib.hid (H1.out.bel.alloc (by have := H1.out.bel.size; omega) _)
    go_wp2_with fail
    go_ret2
    rw [HG.out]
    exact ⟨some ⟨w1.heap.size, 0, none⟩, 0, retL (by rw [H.out]; rfl), by rw [H.out]; exact fun h => absurd h (by simp), HB9.out⟩
  · rw [g0] at HWT
    cases g1 : inB t 0 (x.stops.length - 1)
    · have HG := Lib.hid (swB_no (xs := xs) (f := f) (.inr (.inl g1)))
      have H := Lib.hid (swI_no HG.out)
      clear g0
      go_enter Try.func6, Try.ntmps6
      go_wp2_with fail
      refine HWT.out.mono ?_
      rintro e w1 ⟨TA, tc, rfl, hi1, hb1⟩
      have H1 := Lib.hid (H0.out.call hb1)
      clear hi1 hb1
      obtain ⟨c0, c1⟩ := H1.out.cells
      have HB9 : Hid (Below w.heap.size w (w1.alloc (.cells #[] 3))) := Lib.hid (H1.out.bel.alloc (by have := H1.out.bel.size; omega) _)
      go_wp2_with (go_at_call 20; refine (l1In_any _ _ _ _).mono ?_; rintro e w6 ⟨rfl, rfl⟩)
      go_ret2
      rw [HG.out]
      exact ⟨some ⟨w1.heap.size, 0, none⟩, 0, retL (by rw [H.out]; rfl), by rw [H.out]; exact fun h => absurd h (by simp), HB9.out⟩
    · have HWI := wtI_yes g0
      have g0' := g0
      unfold wtB at g0'
      rw [Bool.and_eq_true] at g0'
      obtain ⟨gw, gf⟩ := g0'
      obtain ⟨hnet, hwk⟩ := wvB_ok gw
      have HWK := Lib.hid hwk.wks
      have h28 := inB_iff.1 (netB_ok hnet).stops
      have h8 : x.stops.length ≤ 8 := by omega
      obtain ⟨j1, j2⟩ := inB_iff.1 gf
      obtain ⟨j3, j4⟩ := inB_iff.1 g1
      obtain ⟨a, rfl⟩ : ∃ a : Nat, f = a := ⟨f.toNat, by omega⟩
      obtain ⟨b, rfl⟩ : ∃ b : Nat, t = b := ⟨t.toNat, by omega⟩
      have ha : a < x.stops.length := by omega
      have hb : b < x.stops.length := by omega
      rw [Int.toNat_natCast] at HWI
      have HWI := Lib.hid HWI
      have hbi : (b : Int) < (x.stops.length : Int) := by omega
      have hb0 : (0 : Int) ≤ (b : Int) := by omega
      have HY : Hid (0 ≤ fw xs x.stops.length a b → swB x xs a b = true) := Lib.hid (fun h => swB_yes g0 g1 (by simpa using h))
      have HNo : Hid (fw xs x.stops.length a b < 0 → swB x xs a b = false) := Lib.hid (fun h => swB_no (.inr (.inr (by simpa using h))))
      have hbd := fw_bd HWK.out h8 (m := x.stops.length) (i := a) (j := b) (Nat.le_refl _) ha
      obtain ⟨d, hd⟩ : ∃ d, d = fw xs x.stops.length a b := ⟨_, rfl⟩
      have HD := Lib.hid hd
      rw [← hd] at hbd HY HNo
      have HLen : Hid ((wtI x xs a).length = x.stops.length) := Lib.hid (by rw [HWI.out]; simp [listOf])
      have HNT : Hid (nth (wtI x xs a) b = d) := Lib.hid (by rw [HWI.out, nth_listOf hb, hd])
      clear hnet hwk h28 g0 gw gf hd j1 j2 j3 j4
      go_enter Try.func6, Try.ntmps6
      go_wp2_with fail
      refine HWT.out.mono ?_
      rintro e w1 ⟨TA, tc, rfl, hi1, hb1⟩
      rw [HLen.out]
      obtain ⟨bt, ot, rfl, hzt, _, hct⟩ := hi1 (by rw [HLen.out]; omega)
      have HT1 : Hid (w1.cell? ⟨bt, ot + b, none⟩ = some (.int .i64 d)) := Lib.hid (by
        have h1 : w1.cell? ⟨bt, ot + b, none⟩ = some (.int .i64 (nth (wtI x xs a) b)) := hct b (by rw [HLen.out]; exact hb)
        rw [h1, HNT.out])
      have hbt : bt < w1.heap.size := hzt.2
      have H1 := Lib.hid (H0.out.call hb1)
      have HV1 := Lib.hid (HV0.out.call hb1)
      have hw1 : w.heap.size < w1.heap.size := by have := hb1.size; simp at this; omega
      clear hi1 hb1 hzt hct
      obtain ⟨c0, c1⟩ := H1.out.cells
      have ct := HT1.out
      by_cases hd0 : d < 0
      · have HG := Lib.hid (HNo.out hd0)
        have H := Lib.hid (swI_no HG.out)
        have HB9 : Hid (Below w.heap.size w (w1.alloc (.cells #[] 3))) := Lib.hid (H1.out.bel.alloc (by have := H1.out.bel.size; omega) _)
        go_wp2_with (go_at_call 20; refine (l1In_any _ _ _ _).mono ?_; rintro e w6 ⟨rfl, rfl⟩)
        go_ret2
        rw [HG.out]
        exact ⟨some ⟨w1.heap.size, 0, none⟩, 0, retL (by rw [H.out]; rfl), by rw [H.out]; exact fun h => absurd h (by simp), HB9.out⟩
      · have HG := Lib.hid (HY.out (by omega))
        have HR : Hid (swI x xs a b = iL (swL x.stops.length xs a b)) := Lib.hid (by have := swI_yes HG.out; simpa using this)
        obtain ⟨K0, hK0, hW0⟩ := wF_some HWK.out hb 30720 a [a] ha (by rw [← HD.out]; omega) (by rw [← HD.out]; omega) (by simp) (fun v hvm => by rw [List.mem_singleton.1 hvm]; exact Int.le_refl _)
        rw [← HD.out] at hW0
        have HW0 := Lib.hid hW0
        clear hW0
        go_wp2_with (go_at_call 20; refine (l1In_any _ _ _ _).mono ?_; rintro e w6 ⟨rfl, rfl⟩)
        clear c0 c1 ct
        go_loopw [12] (fun v wr => ∃ k : Nat, v = .int .i64 k ∧ k ≤ K0 ∧ (∀ j, j < k → wF x.stops.length xs b j [a] a d = []) ∧ Below w1.heap.size w1 wr) (fun v _ => K0 + 1 - (intOf v).toNat)
        case atStart => exact ⟨0, by go_num, Nat.zero_le _, fun j hj => by omega, Below.refl _ _⟩
        case round =>
          obtain ⟨k, rfl, hk, hno, hbr⟩ := hrel
          have HN := Lib.hid hno
          have HB := Lib.hid hbr
          have hsz := hbr.size
          clear hno hbr
          obtain ⟨wo, hwo⟩ : ∃ wo, wo = wr := ⟨_, rfl⟩
          rw [← hwo] at HB hsz ⊢
          clear hwo
          have hC0 : ∀ w', Below wo.heap.size wo w' → w'.cell? ⟨w.heap.size, 0, none⟩ = some (.slice A x.stops.length ca) := fun w' h => ((HB.out.trans (h.mono hsz)).cell (p := ⟨w.heap.size, 0, none⟩) hw1).trans H1.out.cells.1
          have hCT : ∀ w', Below wo.heap.size wo w' → w'.cell? ⟨bt, ot + b, none⟩ = some (.int .i64 d) := fun w' h => ((HB.out.trans (h.mono hsz)).cell (p := ⟨bt, ot + b, none⟩) hbt).trans HT1.out
          obtain ⟨r, hr⟩ : ∃ r, r = wF x.stops.length xs b k [a] a d := ⟨_, rfl⟩
          have HRR := Lib.hid hr
          have HV4 := Lib.hid (HV1.out.at_below HB.out)
          clear hr
          go_wp2_with fail
          go_region_held3 (fun w' => Below wo.heap.size wo w') (repeat' first | assumption | exact Nat.le_refl _ | exact Below.refl _ _ | (refine bel_drew ?_) | (refine bel_alloc ?_ _) | (refine bel_set ?_ ?_ _))
            (first
              | (go_at_call 21; have hq := l7Way_any x.stops.length xs V cv b h8 hv HWK.out k [a] a d (some ⟨wo.heap.size, 0, none⟩) 1 wo.heap.size _ ((HV4.out.mono (Zone.below_le hsz)).call ‹Below wo.heap.size wo _›) (oneW wo.drew a 3) (by simp) (by omega) (by simp; omega) (by simp) rfl (by omega) (by omega); rw [← HRR.out] at hq; refine hq.mono ?_; rintro e w5 ⟨A5, c5, rfl, hi5, hb5⟩; have hB5 := bel_call ‹Below wo.heap.size wo _› hb5; clear hb5 hq))
          have HB5 := Lib.hid (HB.out.trans (hB5.mono hsz))
          have HI5 := Lib.hid (hi5.mono (Zone.new_le (show w.heap.size ≤ wo.heap.size by omega) (Nat.le_refl _)))
          clear hB5 hi5 hC0 hCT
          by_cases hr0 : r.length = 0
          · have hre : wF x.stops.length xs b k [a] a d = [] := by rw [← HRR.out]; exact List.length_eq_zero_iff.1 hr0
            have hkk : k < K0 := Nat.lt_of_le_of_ne hk (fun e => HW0.out (e ▸ hre))
            have HN2 : Hid (∀ j, j < k + 1 → wF x.stops.length xs b j [a] a d = []) := Lib.hid (fun j hj => by (by_cases e : j = k; (rw [e]; exact hre); exact HN.out j (by omega)))
            have hr0i : ¬ ((0 : Int) < (r.length : Int)) := by omega
            clear hr0 hre
            go_wp2_with fail
            go_roundw
            case rel => exact ⟨k + 1, by go_num, by omega, HN2.out, HB5.out⟩
            case measure => simp [intOf]; omega
          · have HEQ : Hid (swI x xs a b = iL r) := Lib.hid (by
              have h1 : wF x.stops.length xs b k [a] a d ≠ [] := by rw [← HRR.out]; exact fun e => hr0 (by rw [e]; rfl)
              have h2 : swK x.stops.length xs a b = k := swK_eq (by omega) (by rw [← HD.out]; exact h1) (fun j hj => by rw [← HD.out]; exact HN.out j hj)
              rw [HR.out]
              unfold swL
              rw [h2, ← HD.out, ← HRR.out])
            have hr0i : (0 : Int) < (r.length : Int) := by omega
            clear hr0
            go_wp2_with fail
            go_ret2
            rw [HG.out, HEQ.out]
            exact ⟨A5, c5, retL (by simp [iL]), HI5.out, H1.out.bel.trans (HB5.out.mono (by have := H1.out.bel.size; omega))⟩
end Go.Proofs.Ytemhcobjhpifpaa
