/- spec.ReverseLine: the answer. -/
import Derived.Test.YtambgommeannnaaNoo
import Derived.Deep.DeepCutAuto
namespace Go.Proofs.Ytambgommeannnaa
open Go.ChangeShapes Go.WideShapes Go.ChangeAt Go.RowKit Go.PlainAid
set_option linter.unusedVariables false
set_option linter.unusedSimpArgs false

set_option maxRecDepth 100000 in
set_option maxHeartbeats 4000000 in
theorem specReverseLine_go (x : NetD) (k : Nat) (nm : ByteArray) (b o ca bl ol cl : Nat) (w : World) (hA : StrsIn w (Zone.below w.heap.size) (some ⟨b, o, none⟩) x.stops) (hL : LinesIn w (Zone.below w.heap.size) (some ⟨bl, ol, none⟩) x.lines) (hx : Fits x) (hb : netB x = true) (hk : k < x.lines.length) (hnm : nm.size ≤ 1048576) :
    Calls Try.prog 37 #[.agg #[.slice (some ⟨b, o, none⟩) x.stops.length ca, .slice (some ⟨bl, ol, none⟩) x.lines.length cl], .int .i64 k, .string nm] w (RetNet (revR x k nm).1 (revR x k nm).2 w) := by
  obtain ⟨W0, hW0⟩ : ∃ W0, W0 = ((w.alloc (.cells #[.slice (some ⟨b, o, none⟩) x.stops.length ca, .slice (some ⟨bl, ol, none⟩) x.lines.length cl] 46)).alloc (.cells #[.slice none 0 0, .slice none 0 0] 46)) := ⟨_, rfl⟩
  have H0 : Hid (NetBox w W0 w.heap.size x (some ⟨b, o, none⟩) ca (some ⟨bl, ol, none⟩) cl) := Lib.hid (by rw [hW0]; exact (NetBox.box hA hL).call ((Below.refl _ _).alloc (Nat.le_refl _) _))
  have hz0 : w.heap.size + 1 < W0.heap.size := by rw [hW0]; simp
  have hT0 : W0.cell? ⟨w.heap.size + 1, 0, none⟩ = some (.slice none 0 0) ∧ W0.cell? ⟨w.heap.size + 1, 1, none⟩ = some (.slice none 0 0) ∧ ∀ j, W0.frozen? ⟨w.heap.size + 1, j, none⟩ = false := by rw [hW0]; exact ⟨by go_simp, by go_simp, fun j => by go_simp⟩
  have HT0 := Lib.hid hT0
  have hm := hx.lines
  have HX := Lib.hid (netX_of hb)
  have HLN := Lib.hid hL
  have HI : Hid (inB (k : Int) 0 (x.lines.length - 1) = true) := Lib.hid (inB_yes (by omega) (by omega))
  have HNB := Lib.hid hb
  clear hA hL hT0
  go_enter Try.func37, Try.ntmps37
  go_upto_region 1 with fail
  rw [← hW0]
  clear hW0
  obtain ⟨c0, c1⟩ := H0.out.cells
  have HG := Lib.hid (l2Good_any x _ _ ca cl W0 H0.out.stops H0.out.lines hx)
  go_wp2_with fail
  refine HG.out.mono ?_
  rintro e w1 ⟨rfl, hb1⟩
  rw [hb]
  have H1 := Lib.hid (H0.out.call hb1)
  have hz1 := hb1.size
  have HB1 := Lib.hid (bel_call H0.out.bel hb1)
  have hw1 := HB1.out.size
  have s1 : Same W0 w1 (w.heap.size + 1) := Same.of_below hb1 hz0
  have HT1 : Hid (w1.cell? ⟨w.heap.size + 1, 0, none⟩ = some (.slice none 0 0) ∧ w1.cell? ⟨w.heap.size + 1, 1, none⟩ = some (.slice none 0 0) ∧ ∀ j, w1.frozen? ⟨w.heap.size + 1, j, none⟩ = false) := Lib.hid ⟨(s1 0).1.trans HT0.out.1, (s1 1).1.trans HT0.out.2.1, fun j => (s1 j).2.trans (HT0.out.2.2 j)⟩
  obtain ⟨d0, d1⟩ := H1.out.cells
  have HO := Lib.hid (l2Own_any x b o ca bl ol cl w1 H1.out.stops H1.out.lines hx (by have := HX.out.s; omega) (by omega) (fun j hj => by have := HX.out.ln j hj; omega))
  clear hb1 s1 hb c0 c1
  go_wp2_with (go_at_call 69; refine (l1In_any _ _ _ _).mono ?_; rintro e w2 ⟨rfl, rfl⟩; rw [HI.out])
  refine HO.out.mono ?_
  rintro e w2 ⟨gs, ks, g, cap, ys, rfl, hv, hb2⟩
  have HV := Lib.hid hv
  have HB2 := Lib.hid hb2
  have hz2 := hb2.size
  have H2 := Lib.hid (H1.out.call hb2)
  have d0 : w2.cell? ⟨w.heap.size, 1, none⟩ = some (.slice (some ⟨bl, ol, none⟩) x.lines.length cl) := H2.out.cells.2
  obtain ⟨b', o', e, hbl, S, cs, R, cr, l0, l1, l2, i1, i2⟩ := LinesIn.line (HLN.out.at_below (HB1.out.trans (hb2.mono hw1))) hk
  simp only [Option.some.injEq, Addr.mk.injEq, and_true] at e
  obtain ⟨rfl, rfl⟩ := e
  have hl := HX.out.ln k hk
  obtain ⟨bs, os, rfl, _⟩ := i1 (by omega)
  obtain ⟨br, or, rfl, _⟩ := i2 (by omega)
  have hik : (k : Int) < (x.lines.length : Int) := by omega
  have hblw : bl < w2.heap.size := by have : bl < w.heap.size := hbl; omega
  have hws : w.heap.size < w2.heap.size := by omega
  clear hv hb2
  go_upto_region 5 with fail
  obtain ⟨W4, hW4⟩ : ∃ W4, W4 = ((w2.alloc (.cells #[.slice (some ⟨gs, 0, none⟩) x.stops.length ks, .slice (some ⟨g, 0, none⟩) x.lines.length cap] 46)).alloc (.cells #[.string (nthL x.lines k).name, .slice (some ⟨bs, os, none⟩) (nthL x.lines k).stops.length cs, .slice (some ⟨br, or, none⟩) (nthL x.lines k).runs.length cr] 113)) := ⟨_, rfl⟩
  rw [← hW4]
  have hb4 : Below w2.heap.size w2 W4 := by rw [hW4]; go_grown
  have hB4 := Lib.hid hb4
  have hz4 : w2.heap.size + 1 < W4.heap.size := by rw [hW4]; simp
  have hHas : HasC W4 w2.heap.size 2 := ⟨by omega, fun j => by
    rw [hW4]
    refine ⟨fun hj => ?_, by go_simp⟩
    have : j = 0 ∨ j = 1 := by omega
    rcases this with rfl | rfl <;> go_simp⟩
  have hV : W4.cell? ⟨w2.heap.size, 1, none⟩ = some (.slice (some ⟨g, 0, none⟩) x.lines.length cap) := by rw [hW4]; go_simp
  have HV0 : Hid (W4.cell? ⟨w2.heap.size, 0, none⟩ = some (.slice (some ⟨gs, 0, none⟩) x.stops.length ks)) := Lib.hid (by rw [hW4]; go_simp)
  have HLX : Hid (W4.cell? ⟨w2.heap.size + 1, 1, none⟩ = some (.slice (some ⟨bs, os, none⟩) (nthL x.lines k).stops.length cs) ∧ W4.cell? ⟨w2.heap.size + 1, 2, none⟩ = some (.slice (some ⟨br, or, none⟩) (nthL x.lines k).runs.length cr)) := Lib.hid (by rw [hW4]; exact ⟨by go_simp, by go_simp⟩)
  have hgl := (World.ownsRow.lt HV.out.lv.own) g rfl
  have hbg : w2.heap.size ≠ g := by omega
  have hS0 : SY w1.heap.size W4 w2.heap.size 2 g W4 := SY.start hHas hz2 hgl.1
  have hC : ∀ w', SY w1.heap.size W4 w2.heap.size 2 g w' → w'.cell? ⟨w2.heap.size + 1, 1, none⟩ = some (.slice (some ⟨bs, os, none⟩) (nthL x.lines k).stops.length cs) ∧ w'.cell? ⟨w2.heap.size + 1, 2, none⟩ = some (.slice (some ⟨br, or, none⟩) (nthL x.lines k).runs.length cr) := fun w' h =>
    have s := h.same hz4 (by omega) (by omega)
    ⟨(s 1).1.trans HLX.out.1, (s 2).1.trans HLX.out.2⟩
  have HI4 : Hid (IntsIn W4 (Zone.below w.heap.size) (some ⟨bs, os, none⟩) (nthL x.lines k).stops ∧ IntsIn W4 (Zone.below w.heap.size) (some ⟨br, or, none⟩) (nthL x.lines k).runs) := Lib.hid ⟨i1.at_below (hb4.mono (by omega)), i2.at_below (hb4.mono (by omega))⟩
  have HIs : Hid (∀ w', SY w1.heap.size W4 w2.heap.size 2 g w' → IntsIn w' (Zone.below w'.heap.size) (some ⟨bs, os, none⟩) (nthL x.lines k).stops ∧ IntsIn w' (Zone.below w'.heap.size) (some ⟨br, or, none⟩) (nthL x.lines k).runs) := Lib.hid (fun w' h => ⟨h.ints HI4.out.1 (by omega), h.ints HI4.out.2 (by omega)⟩)
  have HV4 := Lib.hid (HV.out.call hb4)
  obtain ⟨il, hil, hlz0, hlz1, hlz2⟩ := info_parts Try.infoLineC
  have lp1 : 0 < (nthL x.lines k).stops.length := by omega
  have lp2 : 0 < (nthL x.lines k).runs.length := by omega
  have lf1 : (nthL x.lines k).stops.length ≤ 1048576 := by omega
  have lf2 : (nthL x.lines k).runs.length ≤ 1048576 := by omega
  have hyl : ys.length + 1 ≤ 16777216 := by have := HV4.out.lv.len; omega
  clear hW4 hHas hb4 i1 i2 l0 l1 l2 hl d0
  go_cut [] (fun wx => ∃ v8 ys8 w8, wx = w8.setCell ⟨w2.heap.size, 1, none⟩ v8 ∧ NVal (w8.setCell ⟨w2.heap.size, 1, none⟩ v8) w1.heap.size (revN x k nm) gs v8 ys8 ∧ Below w1.heap.size W4 w8 ∧ w8.cell? ⟨w2.heap.size, 0, none⟩ = some (.slice (some ⟨gs, 0, none⟩) x.stops.length ks) ∧ w8.cell? ⟨w2.heap.size, 1, none⟩ = some (.slice (some ⟨g, 0, none⟩) x.lines.length cap))
  case first =>
    -- ROUND
    refine wp_region_held_drew (S := fun w' => SY w1.heap.size W4 w2.heap.size 2 g w') (by kernel_rfl) (SY.drew hS0) (fun hHeld => ?_)
    refine wpAnyH_take (i := 0) (v := ?_) rfl (by kernel_rfl) (by kernel_rfl) (by kernel_rfl) (fun _ _ _ h => h) (Or.inl ⟨by rfl, ?_⟩) hHeld ?_
    rotate_left 1
    · intro w hSw; (try dsimp only at hSw); first | (go_simp; done) | (go_simp; with_reducible rfl) | (go_simp; rfl)
    try simp only [Act.put, List.getElem_toArray, List.getElem_cons_succ, List.getElem_cons_zero, List.setIfInBounds_toArray, List.set_cons_zero, List.set_cons_succ]
    refine wpAnyH_take (i := 2) (v := ?_) rfl (by kernel_rfl) (by kernel_rfl) (by kernel_rfl) (fun _ _ _ h => h) (Or.inl ⟨by rfl, ?_⟩) hHeld ?_
    rotate_left 1
    · intro w hSw; (try dsimp only at hSw); first | (go_simp; done) | (go_simp; with_reducible rfl) | (go_simp; rfl)
    try simp only [Act.put, List.getElem_toArray, List.getElem_cons_succ, List.getElem_cons_zero, List.setIfInBounds_toArray, List.set_cons_zero, List.set_cons_succ]
    refine wpAnyH_take (i := 3) (v := ?_) rfl (by kernel_rfl) (by kernel_rfl) (by kernel_rfl) (fun _ _ _ h => h) (Or.inl ⟨by rfl, ?_⟩) hHeld ?_
    rotate_left 1
    · intro w hSw; (try dsimp only at hSw); first | (go_simp; done) | (go_simp; with_reducible rfl) | (go_simp; rfl)
    try simp only [Act.put, List.getElem_toArray, List.getElem_cons_succ, List.getElem_cons_zero, List.setIfInBounds_toArray, List.set_cons_zero, List.set_cons_succ]
    refine wpAnyH_take (i := 4) (v := ?_) rfl (by kernel_rfl) (by kernel_rfl) (by kernel_rfl) (fun _ _ _ h => h) (Or.inl ⟨by rfl, ?_⟩) hHeld ?_
    rotate_left 1
    · intro w hSw; (try dsimp only at hSw); first | (go_simp; done) | (go_simp; with_reducible rfl) | (go_simp; rfl)
    try simp only [Act.put, List.getElem_toArray, List.getElem_cons_succ, List.getElem_cons_zero, List.setIfInBounds_toArray, List.set_cons_zero, List.set_cons_succ]
    refine wpAnyH_take (i := 6) (v := ?_) rfl (by kernel_rfl) (by kernel_rfl) (by kernel_rfl) (fun _ _ _ h => h) (Or.inl ⟨by rfl, ?_⟩) hHeld ?_
    rotate_left 1
    · intro w hSw; (try dsimp only at hSw); first | (go_simp; done) | (go_simp; with_reducible rfl) | (go_simp; rfl)
    try simp only [Act.put, List.getElem_toArray, List.getElem_cons_succ, List.getElem_cons_zero, List.setIfInBounds_toArray, List.set_cons_zero, List.set_cons_succ]
    refine wpAnyH_take (i := 7) (v := ?_) rfl (by kernel_rfl) (by kernel_rfl) (by kernel_rfl) (fun _ _ _ h => h) (Or.inl ⟨by rfl, ?_⟩) hHeld ?_
    rotate_left 1
    · intro w hSw; (try dsimp only at hSw); first | (go_simp; done) | (go_simp; with_reducible rfl) | (go_simp; rfl)
    try simp only [Act.put, List.getElem_toArray, List.getElem_cons_succ, List.getElem_cons_zero, List.setIfInBounds_toArray, List.set_cons_zero, List.set_cons_succ]
    refine wpAnyH_ready (rs := [1, 5]) (by kernel_rfl) (by simp) ?_
    refine AllReadyH.cons rfl (fun K hK => ?_) (AllReadyH.cons rfl (fun K hK => ?_) (AllReadyH.nil))
    · go_simp
      refine hK.out _ _ ?_ (fun hHeld => ?_)
      · repeat' first | assumption | (refine SY.drew ?_) | (refine SY.alloc ?_ _) | (refine SY.set ?_ _ _)
      clear hK K
      try simp only [Act.put, List.getElem_toArray, List.getElem_cons_succ, List.getElem_cons_zero, List.setIfInBounds_toArray, List.set_cons_zero, List.set_cons_succ]
      refine wpAnyH_ready (rs := [5]) (by kernel_rfl) (by simp) ?_
      refine AllReadyH.cons rfl (fun K hK => ?_) (AllReadyH.nil)
      go_simp
      refine (l2Back_any bs os cs (nthL x.lines k).stops _ (HIs.out _ hHeld).1 lp1 lf1).mono ?_
      rintro e w5 ⟨g5, k5, rfl, ho5, hb5⟩
      have hS5 := SY.call hHeld hb5
      have hVa : w5.cell? ⟨w2.heap.size, 1, none⟩ = some (.slice (some ⟨g, 0, none⟩) x.lines.length cap) := (hb5.cell (p := ⟨w2.heap.size, 1, none⟩) (SY.lt hHeld)).trans hV
      have hza := SY.lt hS5
      have hBa : Below W4.heap.size W4 w5 := bel_call (Below.refl W4.heap.size W4).drew hb5
      refine hK.out _ _ ?_ (fun hHeld => ?_)
      · repeat' first | assumption | (refine SY.drew ?_) | (refine SY.alloc ?_ _) | (refine SY.set ?_ _ _)
      clear hK K
      try simp only [Act.put, List.getElem_toArray, List.getElem_cons_succ, List.getElem_cons_zero, List.setIfInBounds_toArray, List.set_cons_zero, List.set_cons_succ]
      refine wpAnyH_ready (rs := [8]) (by kernel_rfl) (by simp) ?_
      refine AllReadyH.cons rfl (fun K hK => ?_) (AllReadyH.nil)
      go_simp
      refine (l2Back_any br or cr (nthL x.lines k).runs _ (HIs.out _ hHeld).2 lp2 lf2).mono ?_
      rintro e w6 ⟨g6, k6, rfl, ho6, hb6⟩
      have hS6 := SY.call hHeld hb6
      have hVb : w6.cell? ⟨w2.heap.size, 1, none⟩ = some (.slice (some ⟨g, 0, none⟩) x.lines.length cap) := (hb6.cell (p := ⟨w2.heap.size, 1, none⟩) (SY.lt hHeld)).trans hVa
      have hzb6 := SY.lt hS6
      have hBb : Below W4.heap.size W4 w6 := bel_call hBa hb6
      have ho5' := OwnE.call ho5 hb6
      refine hK.out _ _ ?_ (fun hHeld => ?_)
      · repeat' first | assumption | (refine SY.drew ?_) | (refine SY.alloc ?_ _) | (refine SY.set ?_ _ _)
      clear hK K
      try simp only [Act.put, List.getElem_toArray, List.getElem_cons_succ, List.getElem_cons_zero, List.setIfInBounds_toArray, List.set_cons_zero, List.set_cons_succ]
      refine wpAnyH_take (i := 9) (v := ?_) rfl (by kernel_rfl) (by kernel_rfl) (by kernel_rfl) (fun _ _ _ h => h) (Or.inl ⟨by rfl, ?_⟩) hHeld ?_
      rotate_left 1
      · intro w hSw; (try dsimp only at hSw); first | (go_simp; done) | (go_simp; with_reducible rfl) | (go_simp; rfl)
      try simp only [Act.put, List.getElem_toArray, List.getElem_cons_succ, List.getElem_cons_zero, List.setIfInBounds_toArray, List.set_cons_zero, List.set_cons_succ]
      refine wpAnyH_ready (rs := [10]) (by kernel_rfl) (by simp) ?_
      refine AllReadyH.cons rfl (fun K hK => ?_) (AllReadyH.nil)
      go_simp
      refine hK.out _ _ ?_ (fun hHeld => ?_)
      · repeat' first | assumption | (refine SY.drew ?_) | (refine SY.alloc ?_ _) | (refine SY.set ?_ _ _)
      clear hK K
      try simp only [Act.put, List.getElem_toArray, List.getElem_cons_succ, List.getElem_cons_zero, List.setIfInBounds_toArray, List.set_cons_zero, List.set_cons_succ]
      refine wpAnyH_ready (rs := [11]) (by kernel_rfl) (by simp) ?_
      refine AllReadyH.cons rfl (fun K hK => ?_) (AllReadyH.nil)
      have hz6 := hBb.size
      refine step_appsG (enc := encLV) (by rfl) _ _ 44 (by rfl) 64 Try.underlying44 hil hlz0 hlz1 hlz2 rfl (by omega) (fun _ => rfl) encLV_cell (by omega) w1.heap.size _ ys [⟨nm, g5, (nthL x.lines k).stops.length, k5, g6, (nthL x.lines k).runs.length, k6⟩] _ (OwnE.call HV4.out.lv.own (bel_alloc hBb _)) (by rfl) _ 0 1 1 (by rfl) (by rfl) (line_cells (by go_simp) (by go_simp) (by go_simp)) (by simpa using hyl) (by simp; omega) ?_
      intro v8 w8 ho8 hb8 hg8 hat8
      have hS8 := SY.grown hHeld hg8 rfl hbg hb8
      have hF8 := (hS8.has.2 1).2
      have hV8 : w8.cell? ⟨w2.heap.size, 1, none⟩ = some (.slice (some ⟨g, 0, none⟩) x.lines.length cap) := ((Same.of_blk (hg8.block w2.heap.size (by simp; omega) (by simpa [Value.ownBlock] using hbg))) 1).1.trans (by go_simp)
      obtain ⟨A8, n8, c8, rfl⟩ := OwnE.formE ho8
      refine hK.out _ _ ?_ (fun hHeld => ?_)
      · repeat' first | assumption | (refine SY.drew ?_) | (refine SY.alloc ?_ _) | (refine SY.set ?_ _ _)
      clear hK K
      try simp only [Act.put, List.getElem_toArray, List.getElem_cons_succ, List.getElem_cons_zero, List.setIfInBounds_toArray, List.set_cons_zero, List.set_cons_succ]
      refine wpAnyH_take (i := 12) (v := ?_) rfl (by kernel_rfl) (by kernel_rfl) (by kernel_rfl) (fun _ _ _ h => h) (Or.inl ⟨by rfl, ?_⟩) hHeld ?_
      rotate_left 1
      · intro w hSw; (try dsimp only at hSw); first | (go_simp; done) | (go_simp; with_reducible rfl) | (go_simp; rfl)
      try simp only [Act.put, List.getElem_toArray, List.getElem_cons_succ, List.getElem_cons_zero, List.setIfInBounds_toArray, List.set_cons_zero, List.set_cons_succ]
      refine wpAnyH_ready (rs := [13]) (by kernel_rfl) (by simp) ?_
      refine AllReadyH.cons rfl (fun K hK => ?_) (AllReadyH.nil)
      go_simp
      refine hK.out _ _ ?_ (fun hHeld => ?_)
      · repeat' first | assumption | (refine SY.drew ?_) | (refine SY.alloc ?_ _) | (refine SY.set ?_ _ _)
      clear hK K
      try simp only [Act.put, List.getElem_toArray, List.getElem_cons_succ, List.getElem_cons_zero, List.setIfInBounds_toArray, List.set_cons_zero, List.set_cons_succ]
      refine wpAnyH_done (by kernel_rfl) ?_ _
      have ho5r : OwnI w6 W4.heap.size (.slice (some ⟨g5, 0, none⟩) (revL (nthL x.lines k) nm).stops.length k5) (revL (nthL x.lines k) nm).stops := by simpa [revL] using ho5'
      have ho6r : OwnI w6 w5.heap.size (.slice (some ⟨g6, 0, none⟩) (revL (nthL x.lines k) nm).runs.length k6) (revL (nthL x.lines k) nm).runs := by simpa [revL] using ho6
      have hv := lvat ho5r ho6r (by simpa [revL] using lp1) (by simpa [revL] using lp2) (.cells #[.string nm, .slice (some ⟨g5, 0, none⟩) (nthL x.lines k).stops.length k5, .slice (some ⟨g6, 0, none⟩) (nthL x.lines k).runs.length k6] 113)
      have hy : LvAt (w6.alloc (.cells #[.string nm, .slice (some ⟨g5, 0, none⟩) (nthL x.lines k).stops.length k5, .slice (some ⟨g6, 0, none⟩) (nthL x.lines k).runs.length k6] 113)) ⟨nm, g5, (nthL x.lines k).stops.length, k5, g6, (nthL x.lines k).runs.length, k6⟩ (revL (nthL x.lines k) nm) := by simpa [revL] using hv.1
      have z5 := ((World.ownsRow.lt ho5) g5 rfl).2
      have z1 : W4.heap.size ≤ g5 := hv.2.1.1
      have z2 := hBa.size
      have z3 : w5.heap.size ≤ g6 := hv.2.2.1
      have hs4 := HV4.out.s1
      have HN := Lib.hid (NVal.add (y := ⟨nm, g5, (nthL x.lines k).stops.length, k5, g6, (nthL x.lines k).runs.length, k6⟩) (l := revL (nthL x.lines k) nm) HV4.out (show w1.heap.size ≤ W4.heap.size by omega) (bel_alloc hBb _) hy (show g5 ≠ g6 by omega) ⟨(show w1.heap.size ≤ g5 by omega), hv.2.1.2⟩ ⟨(show w1.heap.size ≤ g6 by omega), hv.2.2.2⟩ (LvOwn.off_above HV4.out.lv (show W4.heap.size ≤ g5 by omega)) (LvOwn.off_above HV4.out.lv (show W4.heap.size ≤ g6 by omega)) (show g5 ≠ gs by omega) (show g6 ≠ gs by omega) ho8 hg8 hat8)
      have hq0 := Lib.hid (((Same.of_blk (hg8.block w2.heap.size (by simp; omega) (by simpa [Value.ownBlock] using hbg))) 0).1.trans (((bel_alloc hBb _).cell (p := ⟨w2.heap.size, 0, none⟩) (show w2.heap.size < W4.heap.size by omega)).trans HV0.out))
      have hq1 := Lib.hid hV8
      have hof := HV.out.lv.off_box (y := ⟨nm, g5, (nthL x.lines k).stops.length, k5, g6, (nthL x.lines k).runs.length, k6⟩) hat8 (by simp; omega) (show w2.heap.size < g5 by omega) (show w2.heap.size < g6 by omega)
      have hgs2 := HV.out.s1
      have HN2 := Lib.hid (NVal.setOff (p := ⟨w2.heap.size, 1, none⟩) HN.out (by rw [show ({ stops := x.stops, lines := x.lines ++ [revL (nthL x.lines k) nm] } : NetD).lines.length = x.lines.length + 1 by simp]; exact hof) (show gs ≠ w2.heap.size by omega) (.slice A8 n8 c8))
      have hq2 := Lib.hid hS8.bel
      clear hof hgs2 hC hV hS5 hS6 hS8 hF8 hV8 hVa hVb ho5 ho6 ho5' ho5r ho6r ho8 hb5 hb6 hb8 hg8 hat8 hv hy hBa hBb hS0 hHeld
      go_wp2_with fail
      go_meet
      exact ⟨_, _, _, rfl, HN2.out, hq2.out, hq0.out, hq1.out⟩
    · go_simp
      refine (l2Back_any bs os cs (nthL x.lines k).stops _ (HIs.out _ hHeld).1 lp1 lf1).mono ?_
      rintro e w5 ⟨g5, k5, rfl, ho5, hb5⟩
      have hS5 := SY.call hHeld hb5
      have hVa : w5.cell? ⟨w2.heap.size, 1, none⟩ = some (.slice (some ⟨g, 0, none⟩) x.lines.length cap) := (hb5.cell (p := ⟨w2.heap.size, 1, none⟩) (SY.lt hHeld)).trans hV
      have hza := SY.lt hS5
      have hBa : Below W4.heap.size W4 w5 := bel_call (Below.refl W4.heap.size W4).drew hb5
      refine hK.out _ _ ?_ (fun hHeld => ?_)
      · repeat' first | assumption | (refine SY.drew ?_) | (refine SY.alloc ?_ _) | (refine SY.set ?_ _ _)
      clear hK K
      try simp only [Act.put, List.getElem_toArray, List.getElem_cons_succ, List.getElem_cons_zero, List.setIfInBounds_toArray, List.set_cons_zero, List.set_cons_succ]
      refine wpAnyH_ready (rs := [1, 8]) (by kernel_rfl) (by simp) ?_
      refine AllReadyH.cons rfl (fun K hK => ?_) (AllReadyH.cons rfl (fun K hK => ?_) (AllReadyH.nil))
      · go_simp
        refine hK.out _ _ ?_ (fun hHeld => ?_)
        · repeat' first | assumption | (refine SY.drew ?_) | (refine SY.alloc ?_ _) | (refine SY.set ?_ _ _)
        clear hK K
        try simp only [Act.put, List.getElem_toArray, List.getElem_cons_succ, List.getElem_cons_zero, List.setIfInBounds_toArray, List.set_cons_zero, List.set_cons_succ]
        refine wpAnyH_ready (rs := [8]) (by kernel_rfl) (by simp) ?_
        refine AllReadyH.cons rfl (fun K hK => ?_) (AllReadyH.nil)
        go_simp
        refine (l2Back_any br or cr (nthL x.lines k).runs _ (HIs.out _ hHeld).2 lp2 lf2).mono ?_
        rintro e w6 ⟨g6, k6, rfl, ho6, hb6⟩
        have hS6 := SY.call hHeld hb6
        have hVb : w6.cell? ⟨w2.heap.size, 1, none⟩ = some (.slice (some ⟨g, 0, none⟩) x.lines.length cap) := (hb6.cell (p := ⟨w2.heap.size, 1, none⟩) (SY.lt hHeld)).trans hVa
        have hzb6 := SY.lt hS6
        have hBb : Below W4.heap.size W4 w6 := bel_call hBa hb6
        have ho5' := OwnE.call ho5 hb6
        refine hK.out _ _ ?_ (fun hHeld => ?_)
        · repeat' first | assumption | (refine SY.drew ?_) | (refine SY.alloc ?_ _) | (refine SY.set ?_ _ _)
        clear hK K
        try simp only [Act.put, List.getElem_toArray, List.getElem_cons_succ, List.getElem_cons_zero, List.setIfInBounds_toArray, List.set_cons_zero, List.set_cons_succ]
        refine wpAnyH_take (i := 9) (v := ?_) rfl (by kernel_rfl) (by kernel_rfl) (by kernel_rfl) (fun _ _ _ h => h) (Or.inl ⟨by rfl, ?_⟩) hHeld ?_
        rotate_left 1
        · intro w hSw; (try dsimp only at hSw); first | (go_simp; done) | (go_simp; with_reducible rfl) | (go_simp; rfl)
        try simp only [Act.put, List.getElem_toArray, List.getElem_cons_succ, List.getElem_cons_zero, List.setIfInBounds_toArray, List.set_cons_zero, List.set_cons_succ]
        refine wpAnyH_ready (rs := [10]) (by kernel_rfl) (by simp) ?_
        refine AllReadyH.cons rfl (fun K hK => ?_) (AllReadyH.nil)
        go_simp
        refine hK.out _ _ ?_ (fun hHeld => ?_)
        · repeat' first | assumption | (refine SY.drew ?_) | (refine SY.alloc ?_ _) | (refine SY.set ?_ _ _)
        clear hK K
        try simp only [Act.put, List.getElem_toArray, List.getElem_cons_succ, List.getElem_cons_zero, List.setIfInBounds_toArray, List.set_cons_zero, List.set_cons_succ]
        refine wpAnyH_ready (rs := [11]) (by kernel_rfl) (by simp) ?_
        refine AllReadyH.cons rfl (fun K hK => ?_) (AllReadyH.nil)
        have hz6 := hBb.size
        refine step_appsG (enc := encLV) (by rfl) _ _ 44 (by rfl) 64 Try.underlying44 hil hlz0 hlz1 hlz2 rfl (by omega) (fun _ => rfl) encLV_cell (by omega) w1.heap.size _ ys [⟨nm, g5, (nthL x.lines k).stops.length, k5, g6, (nthL x.lines k).runs.length, k6⟩] _ (OwnE.call HV4.out.lv.own (bel_alloc hBb _)) (by rfl) _ 0 1 1 (by rfl) (by rfl) (line_cells (by go_simp) (by go_simp) (by go_simp)) (by simpa using hyl) (by simp; omega) ?_
        intro v8 w8 ho8 hb8 hg8 hat8
        have hS8 := SY.grown hHeld hg8 rfl hbg hb8
        have hF8 := (hS8.has.2 1).2
        have hV8 : w8.cell? ⟨w2.heap.size, 1, none⟩ = some (.slice (some ⟨g, 0, none⟩) x.lines.length cap) := ((Same.of_blk (hg8.block w2.heap.size (by simp; omega) (by simpa [Value.ownBlock] using hbg))) 1).1.trans (by go_simp)
        obtain ⟨A8, n8, c8, rfl⟩ := OwnE.formE ho8
        refine hK.out _ _ ?_ (fun hHeld => ?_)
        · repeat' first | assumption | (refine SY.drew ?_) | (refine SY.alloc ?_ _) | (refine SY.set ?_ _ _)
        clear hK K
        try simp only [Act.put, List.getElem_toArray, List.getElem_cons_succ, List.getElem_cons_zero, List.setIfInBounds_toArray, List.set_cons_zero, List.set_cons_succ]
        refine wpAnyH_take (i := 12) (v := ?_) rfl (by kernel_rfl) (by kernel_rfl) (by kernel_rfl) (fun _ _ _ h => h) (Or.inl ⟨by rfl, ?_⟩) hHeld ?_
        rotate_left 1
        · intro w hSw; (try dsimp only at hSw); first | (go_simp; done) | (go_simp; with_reducible rfl) | (go_simp; rfl)
        try simp only [Act.put, List.getElem_toArray, List.getElem_cons_succ, List.getElem_cons_zero, List.setIfInBounds_toArray, List.set_cons_zero, List.set_cons_succ]
        refine wpAnyH_ready (rs := [13]) (by kernel_rfl) (by simp) ?_
        refine AllReadyH.cons rfl (fun K hK => ?_) (AllReadyH.nil)
        go_simp
        refine hK.out _ _ ?_ (fun hHeld => ?_)
        · repeat' first | assumption | (refine SY.drew ?_) | (refine SY.alloc ?_ _) | (refine SY.set ?_ _ _)
        clear hK K
        try simp only [Act.put, List.getElem_toArray, List.getElem_cons_succ, List.getElem_cons_zero, List.setIfInBounds_toArray, List.set_cons_zero, List.set_cons_succ]
        refine wpAnyH_done (by kernel_rfl) ?_ _
        have ho5r : OwnI w6 W4.heap.size (.slice (some ⟨g5, 0, none⟩) (revL (nthL x.lines k) nm).stops.length k5) (revL (nthL x.lines k) nm).stops := by simpa [revL] using ho5'
        have ho6r : OwnI w6 w5.heap.size (.slice (some ⟨g6, 0, none⟩) (revL (nthL x.lines k) nm).runs.length k6) (revL (nthL x.lines k) nm).runs := by simpa [revL] using ho6
        have hv := lvat ho5r ho6r (by simpa [revL] using lp1) (by simpa [revL] using lp2) (.cells #[.string nm, .slice (some ⟨g5, 0, none⟩) (nthL x.lines k).stops.length k5, .slice (some ⟨g6, 0, none⟩) (nthL x.lines k).runs.length k6] 113)
        have hy : LvAt (w6.alloc (.cells #[.string nm, .slice (some ⟨g5, 0, none⟩) (nthL x.lines k).stops.length k5, .slice (some ⟨g6, 0, none⟩) (nthL x.lines k).runs.length k6] 113)) ⟨nm, g5, (nthL x.lines k).stops.length, k5, g6, (nthL x.lines k).runs.length, k6⟩ (revL (nthL x.lines k) nm) := by simpa [revL] using hv.1
        have z5 := ((World.ownsRow.lt ho5) g5 rfl).2
        have z1 : W4.heap.size ≤ g5 := hv.2.1.1
        have z2 := hBa.size
        have z3 : w5.heap.size ≤ g6 := hv.2.2.1
        have hs4 := HV4.out.s1
        have HN := Lib.hid (NVal.add (y := ⟨nm, g5, (nthL x.lines k).stops.length, k5, g6, (nthL x.lines k).runs.length, k6⟩) (l := revL (nthL x.lines k) nm) HV4.out (show w1.heap.size ≤ W4.heap.size by omega) (bel_alloc hBb _) hy (show g5 ≠ g6 by omega) ⟨(show w1.heap.size ≤ g5 by omega), hv.2.1.2⟩ ⟨(show w1.heap.size ≤ g6 by omega), hv.2.2.2⟩ (LvOwn.off_above HV4.out.lv (show W4.heap.size ≤ g5 by omega)) (LvOwn.off_above HV4.out.lv (show W4.heap.size ≤ g6 by omega)) (show g5 ≠ gs by omega) (show g6 ≠ gs by omega) ho8 hg8 hat8)
        have hq0 := Lib.hid (((Same.of_blk (hg8.block w2.heap.size (by simp; omega) (by simpa [Value.ownBlock] using hbg))) 0).1.trans (((bel_alloc hBb _).cell (p := ⟨w2.heap.size, 0, none⟩) (show w2.heap.size < W4.heap.size by omega)).trans HV0.out))
        have hq1 := Lib.hid hV8
        have hof := HV.out.lv.off_box (y := ⟨nm, g5, (nthL x.lines k).stops.length, k5, g6, (nthL x.lines k).runs.length, k6⟩) hat8 (by simp; omega) (show w2.heap.size < g5 by omega) (show w2.heap.size < g6 by omega)
        have hgs2 := HV.out.s1
        have HN2 := Lib.hid (NVal.setOff (p := ⟨w2.heap.size, 1, none⟩) HN.out (by rw [show ({ stops := x.stops, lines := x.lines ++ [revL (nthL x.lines k) nm] } : NetD).lines.length = x.lines.length + 1 by simp]; exact hof) (show gs ≠ w2.heap.size by omega) (.slice A8 n8 c8))
        have hq2 := Lib.hid hS8.bel
        clear hof hgs2 hC hV hS5 hS6 hS8 hF8 hV8 hVa hVb ho5 ho6 ho5' ho5r ho6r ho8 hb5 hb6 hb8 hg8 hat8 hv hy hBa hBb hS0 hHeld
        go_wp2_with fail
        go_meet
        exact ⟨_, _, _, rfl, HN2.out, hq2.out, hq0.out, hq1.out⟩
      · go_simp
        refine (l2Back_any br or cr (nthL x.lines k).runs _ (HIs.out _ hHeld).2 lp2 lf2).mono ?_
        rintro e w6 ⟨g6, k6, rfl, ho6, hb6⟩
        have hS6 := SY.call hHeld hb6
        have hVb : w6.cell? ⟨w2.heap.size, 1, none⟩ = some (.slice (some ⟨g, 0, none⟩) x.lines.length cap) := (hb6.cell (p := ⟨w2.heap.size, 1, none⟩) (SY.lt hHeld)).trans hVa
        have hzb6 := SY.lt hS6
        have hBb : Below W4.heap.size W4 w6 := bel_call hBa hb6
        have ho5' := OwnE.call ho5 hb6
        refine hK.out _ _ ?_ (fun hHeld => ?_)
        · repeat' first | assumption | (refine SY.drew ?_) | (refine SY.alloc ?_ _) | (refine SY.set ?_ _ _)
        clear hK K
        try simp only [Act.put, List.getElem_toArray, List.getElem_cons_succ, List.getElem_cons_zero, List.setIfInBounds_toArray, List.set_cons_zero, List.set_cons_succ]
        refine wpAnyH_take (i := 9) (v := ?_) rfl (by kernel_rfl) (by kernel_rfl) (by kernel_rfl) (fun _ _ _ h => h) (Or.inl ⟨by rfl, ?_⟩) hHeld ?_
        rotate_left 1
        · intro w hSw; (try dsimp only at hSw); first | (go_simp; done) | (go_simp; with_reducible rfl) | (go_simp; rfl)
        try simp only [Act.put, List.getElem_toArray, List.getElem_cons_succ, List.getElem_cons_zero, List.setIfInBounds_toArray, List.set_cons_zero, List.set_cons_succ]
        refine wpAnyH_ready (rs := [1, 10]) (by kernel_rfl) (by simp) ?_
        refine AllReadyH.cons rfl (fun K hK => ?_) (AllReadyH.cons rfl (fun K hK => ?_) (AllReadyH.nil))
        · go_simp
          refine hK.out _ _ ?_ (fun hHeld => ?_)
          · repeat' first | assumption | (refine SY.drew ?_) | (refine SY.alloc ?_ _) | (refine SY.set ?_ _ _)
          clear hK K
          try simp only [Act.put, List.getElem_toArray, List.getElem_cons_succ, List.getElem_cons_zero, List.setIfInBounds_toArray, List.set_cons_zero, List.set_cons_succ]
          refine wpAnyH_ready (rs := [10]) (by kernel_rfl) (by simp) ?_
          refine AllReadyH.cons rfl (fun K hK => ?_) (AllReadyH.nil)
          go_simp
          refine hK.out _ _ ?_ (fun hHeld => ?_)
          · repeat' first | assumption | (refine SY.drew ?_) | (refine SY.alloc ?_ _) | (refine SY.set ?_ _ _)
          clear hK K
          try simp only [Act.put, List.getElem_toArray, List.getElem_cons_succ, List.getElem_cons_zero, List.setIfInBounds_toArray, List.set_cons_zero, List.set_cons_succ]
          refine wpAnyH_ready (rs := [11]) (by kernel_rfl) (by simp) ?_
          refine AllReadyH.cons rfl (fun K hK => ?_) (AllReadyH.nil)
          have hz6 := hBb.size
          refine step_appsG (enc := encLV) (by rfl) _ _ 44 (by rfl) 64 Try.underlying44 hil hlz0 hlz1 hlz2 rfl (by omega) (fun _ => rfl) encLV_cell (by omega) w1.heap.size _ ys [⟨nm, g5, (nthL x.lines k).stops.length, k5, g6, (nthL x.lines k).runs.length, k6⟩] _ (OwnE.call HV4.out.lv.own (bel_alloc hBb _)) (by rfl) _ 0 1 1 (by rfl) (by rfl) (line_cells (by go_simp) (by go_simp) (by go_simp)) (by simpa using hyl) (by simp; omega) ?_
          intro v8 w8 ho8 hb8 hg8 hat8
          have hS8 := SY.grown hHeld hg8 rfl hbg hb8
          have hF8 := (hS8.has.2 1).2
          have hV8 : w8.cell? ⟨w2.heap.size, 1, none⟩ = some (.slice (some ⟨g, 0, none⟩) x.lines.length cap) := ((Same.of_blk (hg8.block w2.heap.size (by simp; omega) (by simpa [Value.ownBlock] using hbg))) 1).1.trans (by go_simp)
          obtain ⟨A8, n8, c8, rfl⟩ := OwnE.formE ho8
          refine hK.out _ _ ?_ (fun hHeld => ?_)
          · repeat' first | assumption | (refine SY.drew ?_) | (refine SY.alloc ?_ _) | (refine SY.set ?_ _ _)
          clear hK K
          try simp only [Act.put, List.getElem_toArray, List.getElem_cons_succ, List.getElem_cons_zero, List.setIfInBounds_toArray, List.set_cons_zero, List.set_cons_succ]
          refine wpAnyH_take (i := 12) (v := ?_) rfl (by kernel_rfl) (by kernel_rfl) (by kernel_rfl) (fun _ _ _ h => h) (Or.inl ⟨by rfl, ?_⟩) hHeld ?_
          rotate_left 1
          · intro w hSw; (try dsimp only at hSw); first | (go_simp; done) | (go_simp; with_reducible rfl) | (go_simp; rfl)
          try simp only [Act.put, List.getElem_toArray, List.getElem_cons_succ, List.getElem_cons_zero, List.setIfInBounds_toArray, List.set_cons_zero, List.set_cons_succ]
          refine wpAnyH_ready (rs := [13]) (by kernel_rfl) (by simp) ?_
          refine AllReadyH.cons rfl (fun K hK => ?_) (AllReadyH.nil)
          go_simp
          refine hK.out _ _ ?_ (fun hHeld => ?_)
          · repeat' first | assumption | (refine SY.drew ?_) | (refine SY.alloc ?_ _) | (refine SY.set ?_ _ _)
          clear hK K
          try simp only [Act.put, List.getElem_toArray, List.getElem_cons_succ, List.getElem_cons_zero, List.setIfInBounds_toArray, List.set_cons_zero, List.set_cons_succ]
          refine wpAnyH_done (by kernel_rfl) ?_ _
          have ho5r : OwnI w6 W4.heap.size (.slice (some ⟨g5, 0, none⟩) (revL (nthL x.lines k) nm).stops.length k5) (revL (nthL x.lines k) nm).stops := by simpa [revL] using ho5'
          have ho6r : OwnI w6 w5.heap.size (.slice (some ⟨g6, 0, none⟩) (revL (nthL x.lines k) nm).runs.length k6) (revL (nthL x.lines k) nm).runs := by simpa [revL] using ho6
          have hv := lvat ho5r ho6r (by simpa [revL] using lp1) (by simpa [revL] using lp2) (.cells #[.string nm, .slice (some ⟨g5, 0, none⟩) (nthL x.lines k).stops.length k5, .slice (some ⟨g6, 0, none⟩) (nthL x.lines k).runs.length k6] 113)
          have hy : LvAt (w6.alloc (.cells #[.string nm, .slice (some ⟨g5, 0, none⟩) (nthL x.lines k).stops.length k5, .slice (some ⟨g6, 0, none⟩) (nthL x.lines k).runs.length k6] 113)) ⟨nm, g5, (nthL x.lines k).stops.length, k5, g6, (nthL x.lines k).runs.length, k6⟩ (revL (nthL x.lines k) nm) := by simpa [revL] using hv.1
          have z5 := ((World.ownsRow.lt ho5) g5 rfl).2
          have z1 : W4.heap.size ≤ g5 := hv.2.1.1
          have z2 := hBa.size
          have z3 : w5.heap.size ≤ g6 := hv.2.2.1
          have hs4 := HV4.out.s1
          have HN := Lib.hid (NVal.add (y := ⟨nm, g5, (nthL x.lines k).stops.length, k5, g6, (nthL x.lines k).runs.length, k6⟩) (l := revL (nthL x.lines k) nm) HV4.out (show w1.heap.size ≤ W4.heap.size by omega) (bel_alloc hBb _) hy (show g5 ≠ g6 by omega) ⟨(show w1.heap.size ≤ g5 by omega), hv.2.1.2⟩ ⟨(show w1.heap.size ≤ g6 by omega), hv.2.2.2⟩ (LvOwn.off_above HV4.out.lv (show W4.heap.size ≤ g5 by omega)) (LvOwn.off_above HV4.out.lv (show W4.heap.size ≤ g6 by omega)) (show g5 ≠ gs by omega) (show g6 ≠ gs by omega) ho8 hg8 hat8)
          have hq0 := Lib.hid (((Same.of_blk (hg8.block w2.heap.size (by simp; omega) (by simpa [Value.ownBlock] using hbg))) 0).1.trans (((bel_alloc hBb _).cell (p := ⟨w2.heap.size, 0, none⟩) (show w2.heap.size < W4.heap.size by omega)).trans HV0.out))
          have hq1 := Lib.hid hV8
          have hof := HV.out.lv.off_box (y := ⟨nm, g5, (nthL x.lines k).stops.length, k5, g6, (nthL x.lines k).runs.length, k6⟩) hat8 (by simp; omega) (show w2.heap.size < g5 by omega) (show w2.heap.size < g6 by omega)
          have hgs2 := HV.out.s1
          have HN2 := Lib.hid (NVal.setOff (p := ⟨w2.heap.size, 1, none⟩) HN.out (by rw [show ({ stops := x.stops, lines := x.lines ++ [revL (nthL x.lines k) nm] } : NetD).lines.length = x.lines.length + 1 by simp]; exact hof) (show gs ≠ w2.heap.size by omega) (.slice A8 n8 c8))
          have hq2 := Lib.hid hS8.bel
          clear hof hgs2 hC hV hS5 hS6 hS8 hF8 hV8 hVa hVb ho5 ho6 ho5' ho5r ho6r ho8 hb5 hb6 hb8 hg8 hat8 hv hy hBa hBb hS0 hHeld
          go_wp2_with fail
          go_meet
          exact ⟨_, _, _, rfl, HN2.out, hq2.out, hq0.out, hq1.out⟩
        · go_simp
          refine hK.out _ _ ?_ (fun hHeld => ?_)
          · repeat' first | assumption | (refine SY.drew ?_) | (refine SY.alloc ?_ _) | (refine SY.set ?_ _ _)
          clear hK K
          try simp only [Act.put, List.getElem_toArray, List.getElem_cons_succ, List.getElem_cons_zero, List.setIfInBounds_toArray, List.set_cons_zero, List.set_cons_succ]
          refine wpAnyH_ready (rs := [1]) (by kernel_rfl) (by simp) ?_
          refine AllReadyH.cons rfl (fun K hK => ?_) (AllReadyH.nil)
          go_simp
          refine hK.out _ _ ?_ (fun hHeld => ?_)
          · repeat' first | assumption | (refine SY.drew ?_) | (refine SY.alloc ?_ _) | (refine SY.set ?_ _ _)
          clear hK K
          try simp only [Act.put, List.getElem_toArray, List.getElem_cons_succ, List.getElem_cons_zero, List.setIfInBounds_toArray, List.set_cons_zero, List.set_cons_succ]
          refine wpAnyH_ready (rs := [11]) (by kernel_rfl) (by simp) ?_
          refine AllReadyH.cons rfl (fun K hK => ?_) (AllReadyH.nil)
          have hz6 := hBb.size
          refine step_appsG (enc := encLV) (by rfl) _ _ 44 (by rfl) 64 Try.underlying44 hil hlz0 hlz1 hlz2 rfl (by omega) (fun _ => rfl) encLV_cell (by omega) w1.heap.size _ ys [⟨nm, g5, (nthL x.lines k).stops.length, k5, g6, (nthL x.lines k).runs.length, k6⟩] _ (OwnE.call HV4.out.lv.own (bel_alloc hBb _)) (by rfl) _ 0 1 1 (by rfl) (by rfl) (line_cells (by go_simp) (by go_simp) (by go_simp)) (by simpa using hyl) (by simp; omega) ?_
          intro v8 w8 ho8 hb8 hg8 hat8
          have hS8 := SY.grown hHeld hg8 rfl hbg hb8
          have hF8 := (hS8.has.2 1).2
          have hV8 : w8.cell? ⟨w2.heap.size, 1, none⟩ = some (.slice (some ⟨g, 0, none⟩) x.lines.length cap) := ((Same.of_blk (hg8.block w2.heap.size (by simp; omega) (by simpa [Value.ownBlock] using hbg))) 1).1.trans (by go_simp)
          obtain ⟨A8, n8, c8, rfl⟩ := OwnE.formE ho8
          refine hK.out _ _ ?_ (fun hHeld => ?_)
          · repeat' first | assumption | (refine SY.drew ?_) | (refine SY.alloc ?_ _) | (refine SY.set ?_ _ _)
          clear hK K
          try simp only [Act.put, List.getElem_toArray, List.getElem_cons_succ, List.getElem_cons_zero, List.setIfInBounds_toArray, List.set_cons_zero, List.set_cons_succ]
          refine wpAnyH_take (i := 12) (v := ?_) rfl (by kernel_rfl) (by kernel_rfl) (by kernel_rfl) (fun _ _ _ h => h) (Or.inl ⟨by rfl, ?_⟩) hHeld ?_
          rotate_left 1
          · intro w hSw; (try dsimp only at hSw); first | (go_simp; done) | (go_simp; with_reducible rfl) | (go_simp; rfl)
          try simp only [Act.put, List.getElem_toArray, List.getElem_cons_succ, List.getElem_cons_zero, List.setIfInBounds_toArray, List.set_cons_zero, List.set_cons_succ]
          refine wpAnyH_ready (rs := [13]) (by kernel_rfl) (by simp) ?_
          refine AllReadyH.cons rfl (fun K hK => ?_) (AllReadyH.nil)
          go_simp
          refine hK.out _ _ ?_ (fun hHeld => ?_)
          · repeat' first | assumption | (refine SY.drew ?_) | (refine SY.alloc ?_ _) | (refine SY.set ?_ _ _)
          clear hK K
          try simp only [Act.put, List.getElem_toArray, List.getElem_cons_succ, List.getElem_cons_zero, List.setIfInBounds_toArray, List.set_cons_zero, List.set_cons_succ]
          refine wpAnyH_done (by kernel_rfl) ?_ _
          have ho5r : OwnI w6 W4.heap.size (.slice (some ⟨g5, 0, none⟩) (revL (nthL x.lines k) nm).stops.length k5) (revL (nthL x.lines k) nm).stops := by simpa [revL] using ho5'
          have ho6r : OwnI w6 w5.heap.size (.slice (some ⟨g6, 0, none⟩) (revL (nthL x.lines k) nm).runs.length k6) (revL (nthL x.lines k) nm).runs := by simpa [revL] using ho6
          have hv := lvat ho5r ho6r (by simpa [revL] using lp1) (by simpa [revL] using lp2) (.cells #[.string nm, .slice (some ⟨g5, 0, none⟩) (nthL x.lines k).stops.length k5, .slice (some ⟨g6, 0, none⟩) (nthL x.lines k).runs.length k6] 113)
          have hy : LvAt (w6.alloc (.cells #[.string nm, .slice (some ⟨g5, 0, none⟩) (nthL x.lines k).stops.length k5, .slice (some ⟨g6, 0, none⟩) (nthL x.lines k).runs.length k6] 113)) ⟨nm, g5, (nthL x.lines k).stops.length, k5, g6, (nthL x.lines k).runs.length, k6⟩ (revL (nthL x.lines k) nm) := by simpa [revL] using hv.1
          have z5 := ((World.ownsRow.lt ho5) g5 rfl).2
          have z1 : W4.heap.size ≤ g5 := hv.2.1.1
          have z2 := hBa.size
          have z3 : w5.heap.size ≤ g6 := hv.2.2.1
          have hs4 := HV4.out.s1
          have HN := Lib.hid (NVal.add (y := ⟨nm, g5, (nthL x.lines k).stops.length, k5, g6, (nthL x.lines k).runs.length, k6⟩) (l := revL (nthL x.lines k) nm) HV4.out (show w1.heap.size ≤ W4.heap.size by omega) (bel_alloc hBb _) hy (show g5 ≠ g6 by omega) ⟨(show w1.heap.size ≤ g5 by omega), hv.2.1.2⟩ ⟨(show w1.heap.size ≤ g6 by omega), hv.2.2.2⟩ (LvOwn.off_above HV4.out.lv (show W4.heap.size ≤ g5 by omega)) (LvOwn.off_above HV4.out.lv (show W4.heap.size ≤ g6 by omega)) (show g5 ≠ gs by omega) (show g6 ≠ gs by omega) ho8 hg8 hat8)
          have hq0 := Lib.hid (((Same.of_blk (hg8.block w2.heap.size (by simp; omega) (by simpa [Value.ownBlock] using hbg))) 0).1.trans (((bel_alloc hBb _).cell (p := ⟨w2.heap.size, 0, none⟩) (show w2.heap.size < W4.heap.size by omega)).trans HV0.out))
          have hq1 := Lib.hid hV8
          have hof := HV.out.lv.off_box (y := ⟨nm, g5, (nthL x.lines k).stops.length, k5, g6, (nthL x.lines k).runs.length, k6⟩) hat8 (by simp; omega) (show w2.heap.size < g5 by omega) (show w2.heap.size < g6 by omega)
          have hgs2 := HV.out.s1
          have HN2 := Lib.hid (NVal.setOff (p := ⟨w2.heap.size, 1, none⟩) HN.out (by rw [show ({ stops := x.stops, lines := x.lines ++ [revL (nthL x.lines k) nm] } : NetD).lines.length = x.lines.length + 1 by simp]; exact hof) (show gs ≠ w2.heap.size by omega) (.slice A8 n8 c8))
          have hq2 := Lib.hid hS8.bel
          clear hof hgs2 hC hV hS5 hS6 hS8 hF8 hV8 hVa hVb ho5 ho6 ho5' ho5r ho6r ho8 hb5 hb6 hb8 hg8 hat8 hv hy hBa hBb hS0 hHeld
          go_wp2_with fail
          go_meet
          exact ⟨_, _, _, rfl, HN2.out, hq2.out, hq0.out, hq1.out⟩
    -- END
  case rest =>
    obtain ⟨v8, ys8, w8, hwc, hn8, hb8, q0, q1⟩ := hcut
    subst hwc
    have hl8 : (revN x k nm).lines.length = x.lines.length + 1 := by simp [revN]
    obtain ⟨g8, cap8, hv8⟩ := own_some hn8.lv.own (by rw [hn8.lv.len, hl8]; omega)
    rw [hn8.lv.len] at hv8
    subst hv8
    obtain ⟨p, r, hno⟩ := hn8.nown (by rw [hl8]; omega)
    obtain ⟨W8, hW8⟩ : ∃ W8, W8 = w8.setCell ⟨w2.heap.size, 1, none⟩ (.slice (some ⟨g8, 0, none⟩) (revN x k nm).lines.length cap8) := ⟨_, rfl⟩
    rw [← hW8] at hno
    have m0 : W8.cell? ⟨w2.heap.size, 0, none⟩ = some (.slice (some ⟨gs, 0, none⟩) x.stops.length ks) := by
      rw [hW8, World.cell?_setCell_other _ _ _ _ (addr_ne (by omega))]; exact q0
    have m1 : W8.cell? ⟨w2.heap.size, 1, none⟩ = some (.slice (some ⟨g8, 0, none⟩) (revN x k nm).lines.length cap8) := by
      rw [hW8]; exact World.cell?_setCell_same _ _ _ q1
    have hB8 : Below w1.heap.size w1 W8 := by
      rw [hW8]
      exact ((HB2.out.trans (hB4.out.mono hz2)).trans hb8).setCell (p := ⟨w2.heap.size, 1, none⟩) hz2 _
    have HB8 : Hid (Below w.heap.size w W8) := Lib.hid (HB1.out.trans (hB8.mono hw1))
    have hbx8 : w2.heap.size < W8.heap.size := by
      have := hb8.size; rw [hW8, size_set]; omega
    have HNO := Lib.hid hno
    have HF := revN_fits HX.out hx hk hnm
    have HG8 := Lib.hid (l2Good_any (revN x k nm) (some ⟨gs, 0, none⟩) (some ⟨g8, 0, none⟩) ks cap8 W8 (hno.stopsIn.to_below (Nat.le_refl _)) (hno.linesIn.to_below (Nat.le_refl _)) HF)
    have s8 : Same w1 W8 (w.heap.size + 1) := Same.of_below hB8 (by omega)
    have HT8 : Hid (W8.cell? ⟨w.heap.size + 1, 0, none⟩ = some (.slice none 0 0) ∧ W8.cell? ⟨w.heap.size + 1, 1, none⟩ = some (.slice none 0 0) ∧ ∀ j, W8.frozen? ⟨w.heap.size + 1, j, none⟩ = false) := Lib.hid ⟨(s8 0).1.trans HT1.out.1, (s8 1).1.trans HT1.out.2.1, fun j => (s8 j).2.trans (HT1.out.2.2 j)⟩
    have hi8 : w.heap.size + 1 < W8.heap.size := by omega
    have HM := Lib.hid (And.intro m0 m1)
    rw [← hW8]
    clear hW8 hno hn8 hb8 q0 q1 hB8 s8 hl8 hC hV hS0
    go_wp2_with fail
    refine HG8.out.mono ?_
    rintro e w9 ⟨rfl, hb9⟩
    have HB9 := Lib.hid (bel_call HB8.out hb9)
    have HN9 := Lib.hid (HNO.out.keep (w' := w9) (fun c hc => Same.of_below hb9 hc.2))
    have s9 : Same W8 w9 (w.heap.size + 1) := Same.of_below hb9 hi8
    have t0 := (s9 0).1.trans HT8.out.1
    have t1 := (s9 1).1.trans HT8.out.2.1
    have f0 := (s9 0).2.trans (HT8.out.2.2 0)
    have f1 := (s9 1).2.trans (HT8.out.2.2 1)
    have m0' : w9.cell? ⟨w2.heap.size, 0, none⟩ = some (.slice (some ⟨gs, 0, none⟩) x.stops.length ks) := ((Same.of_below hb9 hbx8) 0).1.trans HM.out.1
    have m1' : w9.cell? ⟨w2.heap.size, 1, none⟩ = some (.slice (some ⟨g8, 0, none⟩) (revN x k nm).lines.length cap8) := ((Same.of_below hb9 hbx8) 1).1.trans HM.out.2
    have hz9 := hb9.size
    clear hb9 s9 m0 m1
    cases hb3 : netB (revN x k nm)
    · have HR := Lib.hid (revR_no (x := x) (i := (k : Int)) (nm := nm) (.inr (.inr hb3)))
      clear hb3
      go_wp2_with fail
      refine bodyPost_ret (v := .tuple #[.agg #[.slice none 0 0, .slice none 0 0], .bool false]) (by simp [results, Try.results37, go_sem, t0, t1]) rfl ?_
      refine retNet_eq HR.out (retNet_zero ?_)
      repeat' (refine Below.setCell ?_ (by simp) _)
      exact HB9.out
    · have HR := Lib.hid (revR_yes (x := x) (i := (k : Int)) (nm := nm) HNB.out HI.out hb3)
      clear hb3
      go_wp2_with fail
      refine bodyPost_ret (v := .tuple #[.agg #[.slice (some ⟨gs, 0, none⟩) x.stops.length ks, .slice (some ⟨g8, 0, none⟩) (revN x k nm).lines.length cap8], .bool true]) (by simp [results, Try.results37, go_sem, t0, t1]) rfl ?_
      refine retNet_eq HR.out ⟨some ⟨gs, 0, none⟩, ks, some ⟨g8, 0, none⟩, cap8, rfl, .inr ⟨gs, g8, p, r, ?_⟩, ?_⟩
      · simp only [size_set]
        refine NOwn.wide (lo := w1.heap.size) (hi := W8.heap.size) ?_ (by omega) hz9
        repeat' (refine NOwn.set ?_ (by show w.heap.size + 1 < w1.heap.size; omega) _)
        exact HN9.out
      · repeat' (refine Below.setCell ?_ (by simp) _)
        exact HB9.out
end Go.Proofs.Ytambgommeannnaa
