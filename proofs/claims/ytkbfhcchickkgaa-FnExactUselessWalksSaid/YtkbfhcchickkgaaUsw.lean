/- UselessWalks: contracts. -/
import Derived.Test.YtkbfhcchickkgaaWkt
import Derived.Deep.RegionHeld3
import Derived.Deep.DrawnRows
namespace Go.Proofs.Ytkbfhcchickkgaa
open Go.ChangeShapes Go.WideShapes Go.ChangeAt Go.RowKit Go.PlainAid
set_option linter.unusedVariables false
set_option linter.unusedSimpArgs false

/-- Is walk k longer than need be? -/
def uwB (x : NetD) (xs : List I3) (k : Nat) : Bool := decide (fw xs x.stops.length (nth3 xs k).a.toNat (nth3 xs k).b.toNat < (nth3 xs k).c)
def uwI (x : NetD) (xs : List I3) : List Int := if wvB x xs = true then filt xs.length (uwB x xs) else []
theorem uwI_no {x : NetD} {xs : List I3} (h : wvB x xs = false) : uwI x xs = [] := by unfold uwI; rw [h]; rfl
theorem uwI_yes {x : NetD} {xs : List I3} (h : wvB x xs = true) : uwI x xs = filt xs.length (uwB x xs) := by unfold uwI; rw [h]; rfl
theorem uwI_len (x : NetD) (xs : List I3) : (uwI x xs).length ≤ xs.length := by
  unfold uwI
  split
  · exact filt_len _ _
  · simp

set_option maxRecDepth 100000 in
set_option maxHeartbeats 2000000 in
theorem implUseless_any (x : NetD) (A L V : Option Addr) (ca cl cv : Nat) (xs : List I3)  (w : World) (hA : StrsIn w (Zone.below w.heap.size) A x.stops) (hL : LinesIn w (Zone.below w.heap.size) L x.lines) (hV : I3sIn w (Zone.below w.heap.size) V xs) (hx : Fits x) (hv : xs.length ≤ 1048576) :
    Calls Try.prog 26 #[.agg #[.slice A x.stops.length ca, .slice L x.lines.length cl], .slice V xs.length cv] w (RetInts (uwI x xs) (wvB x xs) w) := by
  have H0 : Hid (NetBox w (w.alloc (.cells #[.slice A x.stops.length ca, .slice L x.lines.length cl] 34)) w.heap.size x A ca L cl) := Lib.hid (NetBox.box hA hL)
  have HV0 := Lib.hid (hV.call H0.out.bel)
  have hn := hx.stops
  have hm := hx.lines
  clear hA hL hV
  cases g0 : wvB x xs
  · have H := Lib.hid (uwI_no g0)
    go_enter Try.func26, Try.ntmps26
    go_wp2_with fail
    refine (implWv_any x _ _ _ _ _ _ xs _ H0.out.stops H0.out.lines HV0.out hx hv).mono ?_
    rintro e w1 ⟨rfl, hb1⟩
    have H1 := Lib.hid (H0.out.call hb1)
    have HV1 := Lib.hid (HV0.out.call hb1)
    have hz1 := hb1.size
    clear hb1
    (try clear c0 c1)
    obtain ⟨c0, c1⟩ := H1.out.cells
    go_wp2_with fail
    go_ret2
    exact retNil H.out H1.out.bel
  have H := Lib.hid (uwI_yes g0)
  have HG := Lib.hid g0
  obtain ⟨hnet, hwk⟩ := wvB_ok g0
  have HN := Lib.hid hnet
  have HWK := Lib.hid hwk.wks
  have h28 := inB_iff.1 (netB_ok hnet).stops
  have h2 : 2 ≤ x.stops.length := by omega
  have h8 : x.stops.length ≤ 8 := by omega
  have h0 : 0 < x.stops.length := by omega
  clear hnet hwk h28
  go_enter Try.func26, Try.ntmps26
  go_wp2_with fail
  refine (implWv_any x _ _ _ _ _ _ xs _ H0.out.stops H0.out.lines HV0.out hx hv).mono ?_
  rintro e w1 ⟨rfl, hb1⟩
  have H1 := Lib.hid (H0.out.call hb1)
  have HV1 := Lib.hid (HV0.out.call hb1)
  have hz1 := hb1.size
  clear hb1
  (try clear c0 c1)
  obtain ⟨c0, c1⟩ := H1.out.cells
  go_wp2_with fail
  refine (walkTable_any x _ _ _ _ _ _ xs _ HV1.out h0 h8 hv HWK.out).mono ?_
  rintro e w3 ⟨G, rfl, hm3, hg3, hb3⟩
  have H3 := Lib.hid (H1.out.call hb3)
  have HV3 := Lib.hid (HV1.out.call hb3)
  have HM := Lib.hid hm3
  have hz3 := hb3.size
  clear hb3 hm3 c0 c1
  go_wp2_with fail
  go_loopw [7, 19] (fun v i wr => ∃ k : Nat, k ≤ xs.length ∧ i = .int .i64 k ∧ OwnI wr w3.heap.size v (filt k (uwB x xs)) ∧ Below w3.heap.size w3 wr) (fun _ i _ => xs.length - (intOf i).toNat)
  case atStart => exact ⟨0, Nat.zero_le _, rfl, OwnE.nil, Below.refl _ _⟩
  case round =>
    obtain ⟨k, hk, rfl, ho, hb⟩ := hrel
    have HO := Lib.hid ho
    have HB := Lib.hid hb
    have hz := hb.size
    have hfl := filt_len k (uwB x xs)
    by_cases hlt : k < xs.length
    · have hik : (k : Int) < (xs.length : Int) := by omega
      obtain ⟨b, o, rfl, hbl, hc0, hc1, hc2⟩ := I3sIn.at (HV3.out.call hb) hlt
      have hok := HWK.out.ok k hlt
      unfold WkOk at hok
      obtain ⟨a', ha'⟩ : ∃ a' : Nat, (nth3 xs k).a = (a' : Int) := ⟨(nth3 xs k).a.toNat, by omega⟩
      obtain ⟨b', hb'⟩ : ∃ b' : Nat, (nth3 xs k).b = (b' : Int) := ⟨(nth3 xs k).b.toNat, by omega⟩
      obtain ⟨c, hc⟩ : ∃ c, c = (nth3 xs k).c := ⟨_, rfl⟩
      rw [ha'] at hc0
      rw [hb'] at hc1
      rw [← hc] at hc2
      have hal : a' < x.stops.length := by omega
      have hbl2 : b' < x.stops.length := by omega
      have hai : (a' : Int) < (x.stops.length : Int) := by omega
      have hbi : (b' : Int) < (x.stops.length : Int) := by omega
      have HUB : Hid (uwB x xs k = decide (fw xs x.stops.length a' b' < c)) := Lib.hid (by unfold uwB; rw [ha', hb', hc, Int.toNat_natCast, Int.toNat_natCast])
      clear hok ha' hb' hc
      have HW4 : Hid (Below w3.heap.size w3 (wr.alloc (.cells #[.int .i64 (a' : Int), .int .i64 (b' : Int), .int .i64 c] 93))) := Lib.hid (hb.alloc hz _)
      have HO4 := Lib.hid (ho.alloc (.cells #[.int .i64 (a' : Int), .int .i64 (b' : Int), .int .i64 c] 93))
      have b0 : (wr.alloc (.cells #[.int .i64 (a' : Int), .int .i64 (b' : Int), .int .i64 c] 93)).cell? ⟨wr.heap.size, 0, none⟩ = some (.int .i64 (a' : Int)) := by go_simp
      have b1 : (wr.alloc (.cells #[.int .i64 (a' : Int), .int .i64 (b' : Int), .int .i64 c] 93)).cell? ⟨wr.heap.size, 1, none⟩ = some (.int .i64 (b' : Int)) := by go_simp
      have b2 : (wr.alloc (.cells #[.int .i64 (a' : Int), .int .i64 (b' : Int), .int .i64 c] 93)).cell? ⟨wr.heap.size, 2, none⟩ = some (.int .i64 c) := by go_simp
      have B0 := Lib.hid b0
      have B1 := Lib.hid b1
      have B2 := Lib.hid b2
      clear ho hb b0 b1 b2
      go_wp2_with fail
      generalize (wr.alloc (.cells #[.int .i64 (a' : Int), .int .i64 (b' : Int), .int .i64 c] 93)) = wl at *
      have hm4 := HM.out.call HW4.out
      have d0 := hm4.hd a' hal
      have d1 := hm4.at' hal hbl2
      have b0 := B0.out
      have b1 := B1.out
      have b2 := B2.out
      have hz4 := HW4.out.size
      clear hm4 hc0 hc1 hc2
      go_quiet (fail)
      have HO5 := Lib.hid (HO4.out.drewN nq)
      have HB5 := Lib.hid (bel_drewN HW4.out nq)
      have hz5 : w3.heap.size ≤ (wl.drewN nq).heap.size := hz4
      clear b0 b1 b2 d0 d1
      generalize wl.drewN nq = wq at *
      by_cases t : fw xs x.stops.length a' b' < c
      · have HF := Lib.hid (filt_yes (k := k) (p := uwB x xs) (by rw [HUB.out]; exact decide_eq_true t))
        go_wp2_with (at_builtin; refine wp_appI rfl _ _ rfl w3.heap.size _ (filt k (uwB x xs)) k _ HO5.out rfl _ rfl (by simp) (by omega) hz5 ?_; intro v' w' ho' hb'; have HO' := Lib.hid ho'; have HB' := Lib.hid (HB5.out.trans hb'); clear ho' hb')
        go_roundw
        case rel => exact ⟨k + 1, by omega, by go_num, by rw [HF.out]; exact HO'.out, HB'.out⟩
        case measure => simp [intOf]; omega
      · have HF := Lib.hid (filt_no (k := k) (p := uwB x xs) (by rw [HUB.out]; exact decide_eq_false t))
        go_wp2_with fail
        go_roundw
        case rel => exact ⟨k + 1, by omega, by go_num, by rw [HF.out]; exact HO5.out, HB5.out⟩
        case measure => simp [intOf]; omega
    · obtain rfl : k = xs.length := by omega
      clear ho hb
      go_wp2_with fail
      go_ret2
      first | rw [H.out, HG.out] | rw [H.out]
      exact HO.out.ret H3.out.bel.size (bel_of H3.out.bel H3.out.bel.size HB.out)

set_option maxRecDepth 100000 in
set_option maxHeartbeats 2000000 in
theorem specUseless_any (x : NetD) (A L V : Option Addr) (ca cl cv : Nat) (xs : List I3)  (w : World) (hA : StrsIn w (Zone.below w.heap.size) A x.stops) (hL : LinesIn w (Zone.below w.heap.size) L x.lines) (hV : I3sIn w (Zone.below w.heap.size) V xs) (hx : Fits x) (hv : xs.length ≤ 1048576) :
    Calls Try.prog 25 #[.agg #[.slice A x.stops.length ca, .slice L x.lines.length cl], .slice V xs.length cv] w (RetInts (uwI x xs) (wvB x xs) w) := by
  have H0 : Hid (NetBox w (w.alloc (.cells #[.slice A x.stops.length ca, .slice L x.lines.length cl] 34)) w.heap.size x A ca L cl) := Lib.hid (NetBox.box hA hL)
  have HV0 := Lib.hid (hV.call H0.out.bel)
  have hn := hx.stops
  have hm := hx.lines
  have hV0 := hV
  clear hA hL hV
  have H1 : Hid (NetBox w ((w.alloc (.cells #[.slice A x.stops.length ca, .slice L x.lines.length cl] 34)).alloc (.cells #[] 3)) w.heap.size x A ca L cl) := Lib.hid (H0.out.call (by go_grown))
  have HV1 : Hid (I3sIn ((w.alloc (.cells #[.slice A x.stops.length ca, .slice L x.lines.length cl] 34)).alloc (.cells #[] 3)) (Zone.below ((w.alloc (.cells #[.slice A x.stops.length ca, .slice L x.lines.length cl] 34)).alloc (.cells #[] 3)).heap.size) V xs) := Lib.hid (HV0.out.call (by go_grown))
  have HO1 : Hid (OwnI ((w.alloc (.cells #[.slice A x.stops.length ca, .slice L x.lines.length cl] 34)).alloc (.cells #[] 3)) (w.heap.size + 1) (.slice (some ⟨w.heap.size + 1, 0, none⟩) 0 0) []) := Lib.hid (by simpa using OwnE.empty (e := 3) (m := 1) (enc := encI) (w := w.alloc (.cells #[.slice A x.stops.length ca, .slice L x.lines.length cl] 34)) (Nat.le_refl _))
  have hw1 : w.heap.size + 1 < ((w.alloc (.cells #[.slice A x.stops.length ca, .slice L x.lines.length cl] 34)).alloc (.cells #[] 3)).heap.size := by simp
  clear H0 HV0
  cases g0 : wvB x xs
  · have H := Lib.hid (uwI_no g0)
    go_enter Try.func25, Try.ntmps25
    go_wp2_with fail
    generalize ((w.alloc (.cells #[.slice A x.stops.length ca, .slice L x.lines.length cl] 34)).alloc (.cells #[] 3)) = w1 at *
    refine (specWv_any x _ _ _ _ _ _ xs _ H1.out.stops H1.out.lines HV1.out hx hv).mono ?_
    rintro e w2 ⟨rfl, hb2⟩
    have H2 := Lib.hid (H1.out.call hb2)
    have HV2 := Lib.hid (HV1.out.call hb2)
    have HO2 := Lib.hid (HO1.out.call hb2)
    have hw2 := hb2.size
    clear hb2
    go_wp2_with fail
    go_ret2
    rw [H.out]
    exact HO2.out.ret (by omega) H2.out.bel
  have H := Lib.hid (uwI_yes g0)
  have HG := Lib.hid g0
  obtain ⟨hnet, hwk⟩ := wvB_ok g0
  have HN := Lib.hid hnet
  have HWK := Lib.hid hwk.wks
  have h28 := inB_iff.1 (netB_ok hnet).stops
  have h2 : 2 ≤ x.stops.length := by omega
  have h8 : x.stops.length ≤ 8 := by omega
  have h0 : 0 < x.stops.length := by omega
  clear hnet hwk h28
  go_enter Try.func25, Try.ntmps25
  go_wp2_with fail
  generalize ((w.alloc (.cells #[.slice A x.stops.length ca, .slice L x.lines.length cl] 34)).alloc (.cells #[] 3)) = w1 at *
  refine (specWv_any x _ _ _ _ _ _ xs _ H1.out.stops H1.out.lines HV1.out hx hv).mono ?_
  rintro e w2 ⟨rfl, hb2⟩
  have H2 := Lib.hid (H1.out.call hb2)
  have HV2 := Lib.hid (HV1.out.call hb2)
  have HO2 := Lib.hid (HO1.out.call hb2)
  have hw2 := hb2.size
  clear hb2
  have hw3 : w.heap.size + 1 ≤ w2.heap.size := by omega
  have HVB : Hid (I3sIn w2 (Zone.below (w.heap.size + 1)) V xs) := Lib.hid ((hV0.at_below H2.out.bel).mono (Zone.below_le (by omega)))
  go_wp2_with fail
  go_loopw [6, 7] (fun v i wr => ∃ k : Nat, k ≤ xs.length ∧ i = .int .i64 k ∧ OwnI wr (w.heap.size + 1) v (filt k (uwB x xs)) ∧ Below (w.heap.size + 1) w2 wr) (fun _ i _ => xs.length - (intOf i).toNat)
  case atStart => exact ⟨0, Nat.zero_le _, rfl, HO2.out, Below.refl _ _⟩
  case round =>
    obtain ⟨k, hk, rfl, ho, hb⟩ := hrel
    have HO := Lib.hid ho
    have HB := Lib.hid hb
    have hz := hb.size
    have hfl := filt_len k (uwB x xs)
    have H3 := Lib.hid (H2.out.callB hb (Nat.lt_succ_self _))
    have HV3 : Hid (I3sIn wr (Zone.below (w.heap.size + 1)) V xs) := Lib.hid ((HVB.out).at_below hb)
    by_cases hlt : k < xs.length
    · have hik : (k : Int) < (xs.length : Int) := by omega
      obtain ⟨b, o, rfl, hbl, hc0, hc1, hc2⟩ := I3sIn.at HV3.out hlt
      have hok := HWK.out.ok k hlt
      unfold WkOk at hok
      obtain ⟨a', ha'⟩ : ∃ a' : Nat, (nth3 xs k).a = (a' : Int) := ⟨(nth3 xs k).a.toNat, by omega⟩
      obtain ⟨b', hb'⟩ : ∃ b' : Nat, (nth3 xs k).b = (b' : Int) := ⟨(nth3 xs k).b.toNat, by omega⟩
      obtain ⟨c, hc⟩ : ∃ c, c = (nth3 xs k).c := ⟨_, rfl⟩
      rw [ha'] at hc0
      rw [hb'] at hc1
      rw [← hc] at hc2
      have hal : a' < x.stops.length := by omega
      have hbl2 : b' < x.stops.length := by omega
      have hai : (a' : Int) < (x.stops.length : Int) := by omega
      have hbi : (b' : Int) < (x.stops.length : Int) := by omega
      have HUB : Hid (uwB x xs k = decide (fw xs x.stops.length a' b' < c)) := Lib.hid (by unfold uwB; rw [ha', hb', hc, Int.toNat_natCast, Int.toNat_natCast])
      clear hok ha' hb' hc
      have hblw : b < wr.heap.size := by have : b < w.heap.size + 1 := hbl; omega
      have HCC : Hid (wr.cell? ⟨b, o + k * 3, none⟩ = some (.int .i64 (a' : Int)) ∧ wr.cell? ⟨b, o + k * 3 + 1, none⟩ = some (.int .i64 (b' : Int)) ∧ wr.cell? ⟨b, o + k * 3 + 2, none⟩ = some (.int .i64 c)) := Lib.hid ⟨hc0, hc1, hc2⟩
      have HV4 := Lib.hid (HV3.out.mono (Zone.below_le (B' := wr.heap.size) (by omega)))
      have hC : ∀ w', Below wr.heap.size wr w' → w'.cell? ⟨b, o + k * 3, none⟩ = some (.int .i64 (a' : Int)) ∧ w'.cell? ⟨b, o + k * 3 + 1, none⟩ = some (.int .i64 (b' : Int)) ∧ w'.cell? ⟨b, o + k * 3 + 2, none⟩ = some (.int .i64 c) := fun w' h =>
        ⟨(h.cell (p := ⟨b, _, none⟩) hblw).trans HCC.out.1, (h.cell (p := ⟨b, _, none⟩) hblw).trans HCC.out.2.1, (h.cell (p := ⟨b, _, none⟩) hblw).trans HCC.out.2.2⟩
      have hN : ∀ w', Below wr.heap.size wr w' → Net2 w' w.heap.size x A ca L cl := fun w' h => H3.out.cells.below h H3.out.lt
      unfold Net2 at hN
      have hzr : w.heap.size + 1 ≤ wr.heap.size := by omega
      clear ho hb hc0 hc1 hc2
      go_wp2_with fail
      refine wp_region_held_drew (S := fun w' => Below wr.heap.size wr w') (by kernel_rfl) (bel_drew (Below.refl _ _)) (fun hHeld => ?_)
      refine wpAnyH_take (i := 0) (v := ?_) rfl (by kernel_rfl) (by kernel_rfl) (by kernel_rfl) (fun _ _ _ h => h) (Or.inl ⟨by rfl, ?_⟩) hHeld ?_
      rotate_left 1
      · intro w hSw; (try dsimp only at hSw); first | (go_simp; done) | (go_simp; with_reducible rfl) | (go_simp; rfl)
      try simp only [Act.put, List.getElem_toArray, List.getElem_cons_succ, List.getElem_cons_zero, List.setIfInBounds_toArray, List.set_cons_zero, List.set_cons_succ]
      refine wpAnyH_take (i := 1) (v := ?_) rfl (by kernel_rfl) (by kernel_rfl) (by kernel_rfl) (fun _ _ _ h => h) (Or.inl ⟨by rfl, ?_⟩) hHeld ?_
      rotate_left 1
      · intro w hSw; (try dsimp only at hSw); first | (go_simp; done) | (go_simp; with_reducible rfl) | (go_simp; rfl)
      try simp only [Act.put, List.getElem_toArray, List.getElem_cons_succ, List.getElem_cons_zero, List.setIfInBounds_toArray, List.set_cons_zero, List.set_cons_succ]
      refine wpAnyH_take (i := 2) (v := ?_) rfl (by kernel_rfl) (by kernel_rfl) (by kernel_rfl) (fun _ _ _ h => h) (Or.inl ⟨by rfl, ?_⟩) hHeld ?_
      rotate_left 1
      · intro w hSw; (try dsimp only at hSw); first | (go_simp; done) | (go_simp; with_reducible rfl) | (go_simp; rfl)
      try simp only [Act.put, List.getElem_toArray, List.getElem_cons_succ, List.getElem_cons_zero, List.setIfInBounds_toArray, List.set_cons_zero, List.set_cons_succ]
      refine wpAnyH_take (i := 3) (v := ?_) rfl (by kernel_rfl) (by kernel_rfl) (by kernel_rfl) (fun _ _ _ h => h) (Or.inl ⟨by rfl, ?_⟩) hHeld ?_
      rotate_left 1
      · intro w hSw; (try dsimp only at hSw); first | (go_simp; done) | (go_simp; with_reducible rfl) | (go_simp; rfl)
      try simp only [Act.put, List.getElem_toArray, List.getElem_cons_succ, List.getElem_cons_zero, List.setIfInBounds_toArray, List.set_cons_zero, List.set_cons_succ]
      refine wpAnyH_take (i := 4) (v := ?_) rfl (by kernel_rfl) (by kernel_rfl) (by kernel_rfl) (fun _ _ _ h => h) (Or.inl ⟨by rfl, ?_⟩) hHeld ?_
      rotate_left 1
      · intro w hSw; (try dsimp only at hSw); first | (go_simp; done) | (go_simp; with_reducible rfl) | (go_simp; rfl)
      try simp only [Act.put, List.getElem_toArray, List.getElem_cons_succ, List.getElem_cons_zero, List.setIfInBounds_toArray, List.set_cons_zero, List.set_cons_succ]
      refine wpAnyH_take (i := 5) (v := ?_) rfl (by kernel_rfl) (by kernel_rfl) (by kernel_rfl) (fun _ _ _ h => h) (Or.inl ⟨by rfl, ?_⟩) hHeld ?_
      rotate_left 1
      · intro w hSw; (try dsimp only at hSw); first | (go_simp; done) | (go_simp; with_reducible rfl) | (go_simp; rfl)
      try simp only [Act.put, List.getElem_toArray, List.getElem_cons_succ, List.getElem_cons_zero, List.setIfInBounds_toArray, List.set_cons_zero, List.set_cons_succ]
      refine wpAnyH_take (i := 6) (v := ?_) rfl (by kernel_rfl) (by kernel_rfl) (by kernel_rfl) (fun _ _ _ h => h) (Or.inl ⟨by rfl, ?_⟩) hHeld ?_
      rotate_left 1
      · intro w hSw; (try dsimp only at hSw); first | (go_simp; done) | (go_simp; with_reducible rfl) | (go_simp; rfl)
      try simp only [Act.put, List.getElem_toArray, List.getElem_cons_succ, List.getElem_cons_zero, List.setIfInBounds_toArray, List.set_cons_zero, List.set_cons_succ]
      refine wpAnyH_take (i := 7) (v := ?_) rfl (by kernel_rfl) (by kernel_rfl) (by kernel_rfl) (fun _ _ _ h => h) (Or.inl ⟨by rfl, ?_⟩) hHeld ?_
      rotate_left 1
      · intro w hSw; (try dsimp only at hSw); first | (go_simp; done) | (go_simp; with_reducible rfl) | (go_simp; rfl)
      try simp only [Act.put, List.getElem_toArray, List.getElem_cons_succ, List.getElem_cons_zero, List.setIfInBounds_toArray, List.set_cons_zero, List.set_cons_succ]
      refine wpAnyH_take (i := 8) (v := ?_) rfl (by kernel_rfl) (by kernel_rfl) (by kernel_rfl) (fun _ _ _ h => h) (Or.inl ⟨by rfl, ?_⟩) hHeld ?_
      rotate_left 1
      · intro w hSw; (try dsimp only at hSw); first | (go_simp; done) | (go_simp; with_reducible rfl) | (go_simp; rfl)
      try simp only [Act.put, List.getElem_toArray, List.getElem_cons_succ, List.getElem_cons_zero, List.setIfInBounds_toArray, List.set_cons_zero, List.set_cons_succ]
      refine wpAnyH_take (i := 10) (v := ?_) rfl (by kernel_rfl) (by kernel_rfl) (by kernel_rfl) (fun _ _ _ h => h) (Or.inl ⟨by rfl, ?_⟩) hHeld ?_
      rotate_left 1
      · intro w hSw; (try dsimp only at hSw); first | (go_simp; done) | (go_simp; with_reducible rfl) | (go_simp; rfl)
      try simp only [Act.put, List.getElem_toArray, List.getElem_cons_succ, List.getElem_cons_zero, List.setIfInBounds_toArray, List.set_cons_zero, List.set_cons_succ]
      refine wpAnyH_take (i := 11) (v := ?_) rfl (by kernel_rfl) (by kernel_rfl) (by kernel_rfl) (fun _ _ _ h => h) (Or.inl ⟨by rfl, ?_⟩) hHeld ?_
      rotate_left 1
      · intro w hSw; (try dsimp only at hSw); first | (go_simp; done) | (go_simp; with_reducible rfl) | (go_simp; rfl)
      try simp only [Act.put, List.getElem_toArray, List.getElem_cons_succ, List.getElem_cons_zero, List.setIfInBounds_toArray, List.set_cons_zero, List.set_cons_succ]
      refine wpAnyH_take (i := 12) (v := ?_) rfl (by kernel_rfl) (by kernel_rfl) (by kernel_rfl) (fun _ _ _ h => h) (Or.inl ⟨by rfl, ?_⟩) hHeld ?_
      rotate_left 1
      · intro w hSw; (try dsimp only at hSw); first | (go_simp; done) | (go_simp; with_reducible rfl) | (go_simp; rfl)
      try simp only [Act.put, List.getElem_toArray, List.getElem_cons_succ, List.getElem_cons_zero, List.setIfInBounds_toArray, List.set_cons_zero, List.set_cons_succ]
      refine wpAnyH_take (i := 13) (v := ?_) rfl (by kernel_rfl) (by kernel_rfl) (by kernel_rfl) (fun _ _ _ h => h) (Or.inl ⟨by rfl, ?_⟩) hHeld ?_
      rotate_left 1
      · intro w hSw; (try dsimp only at hSw); first | (go_simp; done) | (go_simp; with_reducible rfl) | (go_simp; rfl)
      try simp only [Act.put, List.getElem_toArray, List.getElem_cons_succ, List.getElem_cons_zero, List.setIfInBounds_toArray, List.set_cons_zero, List.set_cons_succ]
      refine wpAnyH_take (i := 14) (v := ?_) rfl (by kernel_rfl) (by kernel_rfl) (by kernel_rfl) (fun _ _ _ h => h) (Or.inl ⟨by rfl, ?_⟩) hHeld ?_
      rotate_left 1
      · intro w hSw; (try dsimp only at hSw); first | (go_simp; done) | (go_simp; with_reducible rfl) | (go_simp; rfl)
      try simp only [Act.put, List.getElem_toArray, List.getElem_cons_succ, List.getElem_cons_zero, List.setIfInBounds_toArray, List.set_cons_zero, List.set_cons_succ]
      refine wpAnyH_take (i := 17) (v := ?_) rfl (by kernel_rfl) (by kernel_rfl) (by kernel_rfl) (fun _ _ _ h => h) (Or.inl ⟨by rfl, ?_⟩) hHeld ?_
      rotate_left 1
      · intro w hSw; (try dsimp only at hSw); first | (go_simp; done) | (go_simp; with_reducible rfl) | (go_simp; rfl)
      try simp only [Act.put, List.getElem_toArray, List.getElem_cons_succ, List.getElem_cons_zero, List.setIfInBounds_toArray, List.set_cons_zero, List.set_cons_succ]
      refine wpAnyH_take (i := 18) (v := ?_) rfl (by kernel_rfl) (by kernel_rfl) (by kernel_rfl) (fun _ _ _ h => h) (Or.inl ⟨by rfl, ?_⟩) hHeld ?_
      rotate_left 1
      · intro w hSw; (try dsimp only at hSw); first | (go_simp; done) | (go_simp; with_reducible rfl) | (go_simp; rfl)
      try simp only [Act.put, List.getElem_toArray, List.getElem_cons_succ, List.getElem_cons_zero, List.setIfInBounds_toArray, List.set_cons_zero, List.set_cons_succ]
      refine wpAnyH_take (i := 19) (v := ?_) rfl (by kernel_rfl) (by kernel_rfl) (by kernel_rfl) (fun _ _ _ h => h) (Or.inl ⟨by rfl, ?_⟩) hHeld ?_
      rotate_left 1
      · intro w hSw; (try dsimp only at hSw); first | (go_simp; done) | (go_simp; with_reducible rfl) | (go_simp; rfl)
      try simp only [Act.put, List.getElem_toArray, List.getElem_cons_succ, List.getElem_cons_zero, List.setIfInBounds_toArray, List.set_cons_zero, List.set_cons_succ]
      refine wpAnyH_take (i := 20) (v := ?_) rfl (by kernel_rfl) (by kernel_rfl) (by kernel_rfl) (fun _ _ _ h => h) (Or.inl ⟨by rfl, ?_⟩) hHeld ?_
      rotate_left 1
      · intro w hSw; (try dsimp only at hSw); first | (go_simp; done) | (go_simp; with_reducible rfl) | (go_simp; rfl)
      try simp only [Act.put, List.getElem_toArray, List.getElem_cons_succ, List.getElem_cons_zero, List.setIfInBounds_toArray, List.set_cons_zero, List.set_cons_succ]
      refine wpAnyH_take (i := 21) (v := ?_) rfl (by kernel_rfl) (by kernel_rfl) (by kernel_rfl) (fun _ _ _ h => h) (Or.inl ⟨by rfl, ?_⟩) hHeld ?_
      rotate_left 1
      · intro w hSw; (try dsimp only at hSw); first | (go_simp; done) | (go_simp; with_reducible rfl) | (go_simp; rfl)
      try simp only [Act.put, List.getElem_toArray, List.getElem_cons_succ, List.getElem_cons_zero, List.setIfInBounds_toArray, List.set_cons_zero, List.set_cons_succ]
      refine wpAnyH_ready (rs := [9]) (by kernel_rfl) (by simp) ?_
      refine AllReadyH.cons rfl (fun K hK => ?_) AllReadyH.nil
      go_simp
      go_at_call 59; (with_reducible refine (l7Times_any x.stops.length _ _ a' xs _ (HV4.out.call ‹Below wr.heap.size wr _›) h8 hv HWK.out hal).mono ?_); rintro e w5 ⟨g5, c5, rfl, ha5, hg5, hl5, hm5, hb5⟩; have hB5 := bel_call ‹Below wr.heap.size wr _› hb5; have hc5 := ha5.cells b' hbl2; clear ha5 hb5
      refine hK.out _ _ ?_ (fun hHeld => ?_)
      · exact hB5
      clear hK K
      try simp only [Act.put, List.getElem_toArray, List.getElem_cons_succ, List.getElem_cons_zero, List.setIfInBounds_toArray, List.set_cons_zero, List.set_cons_succ]
      refine wpAnyH_take (i := 15) (v := ?_) rfl (by kernel_rfl) (by kernel_rfl) (by kernel_rfl) (fun _ _ _ h => h) (Or.inl ⟨by rfl, ?_⟩) hHeld ?_
      rotate_left 1
      · intro w hSw; (try dsimp only at hSw); first | (go_simp; done) | (go_simp; with_reducible rfl) | (go_simp; rfl)
      try simp only [Act.put, List.getElem_toArray, List.getElem_cons_succ, List.getElem_cons_zero, List.setIfInBounds_toArray, List.set_cons_zero, List.set_cons_succ]
      refine wpAnyH_ready (rs := [16]) (by kernel_rfl) (by simp) ?_
      refine AllReadyH.cons rfl (fun K hK => ?_) AllReadyH.nil
      go_simp
      refine hK.out _ _ ?_ (fun hHeld => ?_)
      · exact hB5
      clear hK K
      try simp only [Act.put, List.getElem_toArray, List.getElem_cons_succ, List.getElem_cons_zero, List.setIfInBounds_toArray, List.set_cons_zero, List.set_cons_succ]
      refine wpAnyH_take (i := 22) (v := ?_) rfl (by kernel_rfl) (by kernel_rfl) (by kernel_rfl) (fun _ _ _ h => h) (Or.inl ⟨by rfl, ?_⟩) hHeld ?_
      rotate_left 1
      · intro w hSw; (try dsimp only at hSw); first | (go_simp; done) | (go_simp; with_reducible rfl) | (go_simp; rfl)
      try simp only [Act.put, List.getElem_toArray, List.getElem_cons_succ, List.getElem_cons_zero, List.setIfInBounds_toArray, List.set_cons_zero, List.set_cons_succ]
      refine wpAnyH_done (by kernel_rfl) ?_ _
      all_goals
        have HO5 := Lib.hid (HO.out.call hB5)
        have HB5 := Lib.hid (HB.out.trans (hB5.mono hzr))
        have hz5 : w.heap.size + 1 ≤ w5.heap.size := by have := hB5.size; omega
        clear hC hN hB5
        by_cases t : fw xs x.stops.length a' b' < c
        · have HF := Lib.hid (filt_yes (k := k) (p := uwB x xs) (by rw [HUB.out]; exact decide_eq_true t))
          go_wp2_with (at_builtin; refine wp_appI rfl _ _ rfl (w.heap.size + 1) _ (filt k (uwB x xs)) k _ HO5.out rfl _ rfl (by simp) (by omega) hz5 ?_; intro v' w' ho' hb'; have HO' := Lib.hid ho'; have HB' := Lib.hid (HB5.out.trans hb'); clear ho' hb')
          go_roundw
          case rel => exact ⟨k + 1, by omega, by go_num, by rw [HF.out]; exact HO'.out, HB'.out⟩
          case measure => simp [intOf]; omega
        · have HF := Lib.hid (filt_no (k := k) (p := uwB x xs) (by rw [HUB.out]; exact decide_eq_false t))
          go_wp2_with fail
          go_roundw
          case rel => exact ⟨k + 1, by omega, by go_num, by rw [HF.out]; exact HO5.out, HB5.out⟩
          case measure => simp [intOf]; omega
    · obtain rfl : k = xs.length := by omega
      clear ho hb
      go_wp2_with fail
      go_ret2
      first | rw [H.out, HG.out] | rw [H.out]
      exact HO.out.ret (by omega) H3.out.bel

end Go.Proofs.Ytkbfhcchickkgaa
