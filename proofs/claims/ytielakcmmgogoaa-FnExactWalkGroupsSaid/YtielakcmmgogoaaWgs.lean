/- WalkGroups: the reference's contract. -/
import Derived.Test.YtielakcmmgogoaaWgr
import Derived.Test.YtielakcmmgogoaaHas
namespace Go.Proofs.Ytielakcmmgogoaa
open Go.ChangeShapes Go.WideShapes Go.ChangeAt Go.RowKit Go.PlainAid
set_option linter.unusedVariables false
set_option linter.unusedSimpArgs false

set_option maxRecDepth 100000 in
set_option maxHeartbeats 2000000 in
theorem specGroups_any (x : NetD) (A L V : Option Addr) (ca cl cv : Nat) (xs : List I3) (lim : Int) (w : World) (hA : StrsIn w (Zone.below w.heap.size) A x.stops) (hL : LinesIn w (Zone.below w.heap.size) L x.lines) (hV : I3sIn w (Zone.below w.heap.size) V xs) (hx : Fits x) (hv : xs.length ≤ 1048576) :
    Calls Try.prog 7 #[.agg #[.slice A x.stops.length ca, .slice L x.lines.length cl], .slice V xs.length cv, .int .i64 lim] w (RetRows (wgL x xs lim) (wgB x xs lim) w) := by
  have H0 : Hid (NetBox w (w.alloc (.cells #[.slice A x.stops.length ca, .slice L x.lines.length cl] 34)) w.heap.size x A ca L cl) := Lib.hid (NetBox.box hA hL)
  have HV0 := Lib.hid (hV.call H0.out.bel)
  have hn := hx.stops
  have hm := hx.lines
  clear hA hL hV
  have H1 : Hid (NetBox w ((w.alloc (.cells #[.slice A x.stops.length ca, .slice L x.lines.length cl] 34)).alloc (.cells #[] 45)) w.heap.size x A ca L cl) := Lib.hid (H0.out.call (by go_grown))
  have HV1 : Hid (I3sIn ((w.alloc (.cells #[.slice A x.stops.length ca, .slice L x.lines.length cl] 34)).alloc (.cells #[] 45)) (Zone.below ((w.alloc (.cells #[.slice A x.stops.length ca, .slice L x.lines.length cl] 34)).alloc (.cells #[] 45)).heap.size) V xs) := Lib.hid (HV0.out.call (by go_grown))
  have HO1 : Hid (ROut ((w.alloc (.cells #[.slice A x.stops.length ca, .slice L x.lines.length cl] 34)).alloc (.cells #[] 45)) (w.heap.size + 1) (.slice (some ⟨w.heap.size + 1, 0, none⟩) 0 0) [] [] (fun _ => 0)) := Lib.hid (by simpa using ROut.empty (w := w.alloc (.cells #[.slice A x.stops.length ca, .slice L x.lines.length cl] 34)) (Nat.le_refl _) (fun _ => 0))
  have hw1 : w.heap.size + 1 < ((w.alloc (.cells #[.slice A x.stops.length ca, .slice L x.lines.length cl] 34)).alloc (.cells #[] 45)).heap.size := by simp
  clear H0 HV0
  cases g0 : wvB x xs
  · have HG := Lib.hid (wgB_no (lim := lim) (.inl g0))
    have H := Lib.hid (wgL_no HG.out)
    go_enter Try.func7, Try.ntmps7
    go_wp2_with fail
    generalize ((w.alloc (.cells #[.slice A x.stops.length ca, .slice L x.lines.length cl] 34)).alloc (.cells #[] 45)) = w1 at *
    refine (specWv_any x _ _ _ _ _ _ xs _ H1.out.stops H1.out.lines HV1.out hx hv).mono ?_
    rintro e w2 ⟨rfl, hb2⟩
    have H2 := Lib.hid (H1.out.call hb2)
    have HV2 := Lib.hid (HV1.out.call hb2)
    have HO2 := Lib.hid (HO1.out.call hb2)
    have hw2 := hb2.size
    clear hb2
    go_wp2_with fail
    go_ret2
    rw [HG.out]
    exact ⟨some ⟨w.heap.size + 1, 0, none⟩, 0, retLr (by rw [H.out]; rfl), .inl H.out, H2.out.bel⟩
  cases g1 : inB lim 0 120
  · have HG := Lib.hid (wgB_no (xs := xs) (x := x) (.inr g1))
    have H := Lib.hid (wgL_no HG.out)
    go_enter Try.func7, Try.ntmps7
    go_wp2_with fail
    generalize ((w.alloc (.cells #[.slice A x.stops.length ca, .slice L x.lines.length cl] 34)).alloc (.cells #[] 45)) = w1 at *
    refine (specWv_any x _ _ _ _ _ _ xs _ H1.out.stops H1.out.lines HV1.out hx hv).mono ?_
    rintro e w2 ⟨rfl, hb2⟩
    have H2 := Lib.hid (H1.out.call hb2)
    have HV2 := Lib.hid (HV1.out.call hb2)
    have HO2 := Lib.hid (HO1.out.call hb2)
    have hw2 := hb2.size
    clear hb2
    go_wp2_with (go_at_call 26; refine (l1In_any _ _ _ _).mono ?_; rintro e w6 ⟨rfl, rfl⟩)
    go_ret2
    rw [HG.out]
    exact ⟨some ⟨w.heap.size + 1, 0, none⟩, 0, retLr (by rw [H.out]; rfl), .inl H.out, H2.out.bel⟩
  have HG := Lib.hid (wgB_yes g0 g1)
  have H := Lib.hid (wgL_yes HG.out)
  obtain ⟨hnet, hwk⟩ := wvB_ok g0
  have HN := Lib.hid hnet
  have HWK := Lib.hid hwk.wks
  have h28 := inB_iff.1 (netB_ok hnet).stops
  have h2 : 2 ≤ x.stops.length := by omega
  have h8 : x.stops.length ≤ 8 := by omega
  have h0 : 0 < x.stops.length := by omega
  clear hnet hwk h28
  have HWS := Lib.hid (shF_wks HWK.out lim xs.length (Nat.le_refl _))
  have hsl := shF_len xs lim xs.length
  go_enter Try.func7, Try.ntmps7
  go_wp2_with fail
  generalize ((w.alloc (.cells #[.slice A x.stops.length ca, .slice L x.lines.length cl] 34)).alloc (.cells #[] 45)) = w1 at *
  refine (specWv_any x _ _ _ _ _ _ xs _ H1.out.stops H1.out.lines HV1.out hx hv).mono ?_
  rintro e w2 ⟨rfl, hb2⟩
  have H2 := Lib.hid (H1.out.call hb2)
  have HV2 := Lib.hid (HV1.out.call hb2)
  have HO2 := Lib.hid (HO1.out.call hb2)
  have hw2 := hb2.size
  clear hb2
  have hw3 : w2.heap.size < (w2.alloc (.cells #[] 56)).heap.size := by simp
  have HB3 : Hid (Below w2.heap.size w2 (w2.alloc (.cells #[] 56))) := Lib.hid (by go_grown)
  have HS3 : Hid (OwnW (w2.alloc (.cells #[] 56)) w2.heap.size (.slice (some ⟨w2.heap.size, 0, none⟩) 0 0) []) := Lib.hid (by simpa using OwnE.empty (e := 56) (m := 3) (enc := encI3) (w := w2) (Nat.le_refl _))
  go_wp2_with (go_at_call 26; refine (l1In_any _ _ _ _).mono ?_; rintro e w6 ⟨rfl, rfl⟩)
  generalize (w2.alloc (.cells #[] 56)) = w3 at *
  have H3 := Lib.hid (H2.out.call HB3.out)
  have HV3 : Hid (I3sIn w3 (Zone.below w2.heap.size) V xs) := Lib.hid (HV2.out.at_below HB3.out)
  have HO3 := Lib.hid (HO2.out.call HB3.out)
  go_loopw [9, 10] (fun v i wr => ∃ k : Nat, k ≤ xs.length ∧ i = .int .i64 k ∧ OwnW wr w2.heap.size v (shF xs lim k) ∧ Below w2.heap.size w3 wr) (fun _ i _ => xs.length - (intOf i).toNat)
  case atStart => exact ⟨0, Nat.zero_le _, rfl, HS3.out, Below.refl _ _⟩
  case round =>
    obtain ⟨k, hk, rfl, ho, hb⟩ := hrel
    have HO := Lib.hid ho
    have HB := Lib.hid hb
    have hz := hb.size
    have hfl := shF_len xs lim k
    by_cases hlt : k < xs.length
    · skip
      obtain ⟨b, o, rfl, hbl, hc0, hc1, hc2⟩ := I3sIn.at (HV3.out.at_below hb) hlt
      have hik : (k : Int) < (xs.length : Int) := by omega
      obtain ⟨y, hy⟩ : ∃ y, y = nth3 xs k := ⟨_, rfl⟩
      rw [← hy] at hc0 hc1 hc2
      obtain ⟨ya, yb, yc⟩ := y
      simp only [] at hc0 hc1 hc2
      have HYE := Lib.hid hy
      clear hy
      have hblw : b < wr.heap.size := by have : b < w2.heap.size := hbl; omega
      clear ho hb
      by_cases t : yc ≤ lim
      · have HF := Lib.hid (shF_yes (xs := xs) (k := k) (lim := lim) (by rw [← HYE.out]; exact t))
        go_wp2_with (at_builtin; refine wp_appW1 rfl _ _ rfl w2.heap.size _ (shF xs lim k) ⟨ya, yb, yc⟩ _ HO.out rfl _ rfl (by simp) (by omega) (by omega) ?_; intro v' w' ho' hb'; have HO' := Lib.hid ho'; have HB' := Lib.hid (HB.out.trans hb'); clear ho' hb')
        go_roundw
        case rel => exact ⟨k + 1, by omega, by go_num, by rw [HF.out, ← HYE.out]; exact HO'.out, HB'.out⟩
        case measure => simp [intOf]; omega
      · have HF := Lib.hid (shF_no (xs := xs) (k := k) (lim := lim) (by rw [← HYE.out]; exact t))
        go_wp2_with fail
        go_roundw
        case rel => exact ⟨k + 1, by omega, by go_num, by rw [HF.out]; exact HO.out, HB.out⟩
        case measure => simp [intOf]; omega
    · obtain rfl : k = xs.length := by omega
      obtain ⟨AV, cv2, rfl, _, _, hi2⟩ := ho.i3s
      have HI4 : Hid (I3sIn (wr.alloc (.cells #[] 3)) (Zone.new w2.heap.size wr.heap.size) AV (shF xs lim xs.length)) := Lib.hid (hi2.new_call (by go_grown) (Nat.le_refl _))
      have HB4 : Hid (Below w2.heap.size w3 (wr.alloc (.cells #[] 3))) := Lib.hid (hb.alloc (by omega) _)
      have H4 := Lib.hid (H3.out.callB HB4.out (by omega))
      have HE4 : Hid (OwnI (wr.alloc (.cells #[] 3)) (w.heap.size + 1) (.slice (some ⟨wr.heap.size, 0, none⟩) 0 0) []) := Lib.hid (by simpa using OwnE.empty (e := 3) (m := 1) (enc := encI) (w := wr) (by omega))
      have hob : w.heap.size + 1 < w2.heap.size := by omega
      have HO4 : Hid (ROut (wr.alloc (.cells #[] 3)) (w.heap.size + 1) (.slice (some ⟨w.heap.size + 1, 0, none⟩) 0 0) [] [] (fun _ => 0)) := Lib.hid (HO3.out.kept HB4.out.size (fun X hX => by simp [Value.ownBlock] at hX; subst hX; exact HB4.out.block _ hob) (fun k hk => by simp at hk))
      obtain ⟨s0, hs0⟩ : ∃ s0, s0 = wr.heap.size := ⟨_, rfl⟩
      rw [← hs0] at HI4 HE4
      have hz4 : s0 < (wr.alloc (.cells #[] 3)).heap.size := by rw [hs0]; simp
      have hws : w2.heap.size ≤ s0 := by omega
      obtain ⟨f, hf⟩ : ∃ f, f = wgF x xs lim := ⟨_, rfl⟩
      have HFE := Lib.hid hf
      have HF0 : Hid (∀ a, a < x.stops.length → f a a = 0) := Lib.hid (fun a ha => by rw [hf]; exact fw_self HWS.out ha)
      have HFS : Hid (∀ a, a < x.stops.length → ((a : Int) ∈ seF f x.stops.length a ↔ ¬ fstP f a)) := Lib.hid (fun a ha => by rw [hf]; exact seen_iff HWS.out ha)
      clear ho hi2 hb hf
      go_wp2_with fail
      rw [← hs0]
      generalize (wr.alloc (.cells #[] 3)) = w4 at *
      clear hs0 hz hw3
      go_loopw [8, 11, 12] (fun vo vs i wr => ∃ a : Nat, a ≤ x.stops.length ∧ i = .int .i64 a ∧ GSt (w.heap.size + 1) w4 (w.heap.size + 1) s0 wr vo vs (gsF f x.stops.length a) (seF f x.stops.length a)) (fun _ _ i _ => x.stops.length - (intOf i).toNat)
      case atStart =>
        exact ⟨0, Nat.zero_le _, rfl, ⟨[], fun _ => 0, HO4.out, fun X hX => ⟨fun e => by simp [Value.ownBlock] at hX e; omega, fun k hk => by simp [gsF] at hk⟩⟩, HE4.out, Below.refl _ _, fun X hX => by simp [Value.ownBlock] at hX; exact .inl hX.symm, fun X hX => by simp [Value.ownBlock] at hX; exact .inl hX.symm, fun X _ _ _ => rfl⟩
      case round =>
        obtain ⟨a, ha, rfl, hst⟩ := hrel
        have HST := Lib.hid hst
        have hz5 := hst.bel.size
        have HN5 := Lib.hid (H4.out.callB hst.bel (Nat.lt_succ_self _))
        have hgl := gsF_len f x.stops.length a
        have hsel := seF_len f x.stops.length a
        have hsm : a * x.stops.length ≤ 8 * 8 := Nat.mul_le_mul (by omega) h8
        obtain ⟨c0, c1⟩ := HN5.out.cells
        by_cases hlt : a < x.stops.length
        · have hai : (a : Int) < (x.stops.length : Int) := by omega
          obtain ⟨AS, cS, rfl, _, _, hiS⟩ := hst.own.ints
          have HIS := Lib.hid (IntsIn.at (hiS.to_below (Nat.le_refl _)))
          have hseb : (seF f x.stops.length a).length ≤ 1048576 := by omega
          have HSE := Lib.hid (HFS.out a hlt)
          clear hiS hst
          by_cases t : fstP f a
          · have hno : hasB (seF f x.stops.length a) a = false := by
              cases hh : hasB (seF f x.stops.length a) a
              · rfl
              · exact absurd (HSE.out.1 (hasB_iff.1 hh)) (fun h => h t)
            have HGE := Lib.hid (gsF_yes (n := x.stops.length) t)
            have HSF := Lib.hid (seF_yes (n := x.stops.length) t)
            have HF00 := Lib.hid (HF0.out a hlt)
            obtain ⟨wo, rfl⟩ : ∃ wo : World, wo = wr := ⟨_, rfl⟩
            have HIV : Hid (I3sIn (wo.alloc (.cells #[] 3)) (Zone.below (wo.alloc (.cells #[] 3)).heap.size) AV (shF xs lim xs.length)) := Lib.hid ((((HI4.out.keep fun c hc => Same.of_blk (HST.out.kept c (by have := hc.2; omega) (by have := hc.1; omega) (by have := hc.2; omega))).to_below (B := wo.heap.size) (by omega))).call (by go_grown))
            have HBo : Hid (Below wo.heap.size wo (wo.alloc (.cells #[] 3))) := Lib.hid (by go_grown)
            have HEo : Hid (OwnI (wo.alloc (.cells #[] 3)) wo.heap.size (.slice (some ⟨wo.heap.size, 0, none⟩) 0 0) []) := Lib.hid (by simpa using OwnE.empty (e := 3) (m := 1) (enc := encI) (w := wo) (Nat.le_refl _))
            have hzo : wo.heap.size < (wo.alloc (.cells #[] 3)).heap.size := by simp
            have hgx : w.heap.size < wo.heap.size := by omega
            go_wp2_with (first | (go_at_call 27; refine (l1Has_any _ _ _ _ _ HIS.out hseb).mono ?_; rintro e w6 ⟨rfl, rfl⟩; rw [hno]) | fail)
            refine (l7Times_any x.stops.length _ _ a (shF xs lim xs.length) _ HIV.out h8 (by omega) HWS.out hlt).mono ?_
            rintro e w5 ⟨g5, c5, rfl, ha5, hg5, hc5, hc6, hb5⟩
            have HBB := Lib.hid (bel_call HBo.out hb5)
            have HEE := Lib.hid (HEo.out.call hb5)
            have hz6 := hb5.size
            have hg5l := ha5.lt
            have HA5 : Hid (ArrI w5 g5 x.stops.length (f a)) := Lib.hid (by rw [HFE.out]; exact ha5)
            have HV50 : Hid ((Value.slice AS (seF f x.stops.length a).length cS).ownBlock ≠ some wo.heap.size ∧ (Value.slice AS (seF f x.stops.length a).length cS).ownBlock ≠ some g5) := Lib.hid ⟨fun e => by have := (own_lt HST.out.own e).2; omega, fun e => by have := (own_lt HST.out.own e).2; omega⟩
            have HS5 := Lib.hid (HST.out.own.call HBB.out)
            clear ha5 hb5 c0 c1
            go_wp2_with fail
            obtain ⟨g0', hg0'⟩ : ∃ g0', g0' = wo.heap.size := ⟨_, rfl⟩
            have HEE2 : Hid (OwnI w5 wo.heap.size (.slice (some ⟨g0', 0, none⟩) 0 0) []) := by rw [hg0']; exact HEE
            rw [← hg0'] at HV50 ⊢
            have hgo : wo.heap.size ≤ g0' := by omega
            have hg50 : g5 ≠ g0' := by omega
            have hw50 : g0' < w5.heap.size := by omega
            have hBo2 : w.heap.size + 1 ≤ wo.heap.size := by omega
            clear hg0'
            go_loopw [11, 13, 15] (fun vs vg i wi => ∃ k : Nat, k ≤ x.stops.length ∧ i = .int .i64 k ∧ GIn (w.heap.size + 1) wo.heap.size w5 g0' (.slice AS (seF f x.stops.length a).length cS) wi vs vg (seF f x.stops.length a ++ grI f a k) (grI f a k)) (fun _ _ i _ => x.stops.length - (intOf i).toNat)
            case atStart =>
              exact ⟨0, Nat.zero_le _, rfl, by simpa [grI] using HS5.out, HEE2.out, fun X hX e => HV50.out.1 (by rw [hX]; simp [Value.ownBlock] at e; rw [e]), .inl rfl, fun X hX => by simp [Value.ownBlock] at hX; exact .inl hX.symm, Below.refl _ _, fun X _ _ _ => rfl⟩
            case round =>
              obtain ⟨k, hk, rfl, hin⟩ := hrel
              have HIN := Lib.hid hin
              have hz7 := hin.bel.size
              have hgr := grI_len f a k
              by_cases hkl : k < x.stops.length
              · have hki : (k : Int) < (x.stops.length : Int) := by omega
                have d1 : wr.cell? ⟨g5, k, none⟩ = some (.int .i64 (f a k)) := (Same.of_blk (hin.kept g5 hg5l HV50.out.2 hg50) k).1.trans (HA5.out.cells k hkl)
                obtain ⟨q, hq⟩ : ∃ q, q = f a k := ⟨_, rfl⟩
                rw [← hq] at d1
                have HQ := Lib.hid hq
                clear hin hq
                by_cases tq : 0 ≤ q
                · have HF := Lib.hid (grI_yes (f := f) (a := a) (k := k) (by rw [← HQ.out]; exact tq))
                  have hl2 : (seF f x.stops.length a ++ grI f a k).length ≤ 16777216 := by rw [List.length_append]; omega
                  have e2 : wo.heap.size ≤ wr.heap.size := by omega
                  have e3 : w.heap.size + 1 ≤ wr.heap.size := by omega
                  have e4 : (grI f a k).length ≤ 16777216 := by omega
                  go_wp2_with (at_builtin; first | (refine wp_appGI rfl _ _ rfl wo.heap.size _ (grI f a k) k _ HIN.out.grp rfl _ rfl (by simp) e4 e2 ?_; intro v' w' ho' hb' hs' hat' hz'; have HIN2 := Lib.hid (HIN.out.growG hBo2 ho' hb' hs' hat'); have e5 : w.heap.size + 1 ≤ w'.heap.size := Nat.le_trans e3 hz'; clear ho' hb' hs' hat' hz') | (refine wp_appGI rfl _ _ rfl (w.heap.size + 1) _ (seF f x.stops.length a ++ grI f a k) k _ HIN2.out.own rfl _ rfl (by simp) hl2 e5 ?_; intro v'' w'' ho' hb' hs' hat' hz'; have HIN3 := Lib.hid (HIN2.out.growS HS5.out HV50.out.1 ho' hb' hs' hat'); clear ho' hb' hs' hat' hz'))
                  go_roundw
                  case rel => exact ⟨k + 1, by omega, by go_num, by rw [HF.out, ← List.append_assoc]; exact HIN3.out⟩
                  case measure => simp [intOf]; omega
                · have HF := Lib.hid (grI_no (f := f) (a := a) (k := k) (by rw [← HQ.out]; exact tq))
                  go_wp2_with fail
                  go_roundw
                  case rel => exact ⟨k + 1, by omega, by go_num, by rw [HF.out]; exact HIN.out⟩
                  case measure => simp [intOf]; omega
              · obtain rfl : k = x.stops.length := by omega
                obtain ⟨svs, p, hro, hv9, hp9, ha9⟩ := HST.out.inner HBB.out hin hgo
                obtain ⟨k0, hk0, hkl0, hka, hkf⟩ := grI_hd HF00.out hlt
                obtain ⟨g7, c7, rfl, hA7, hg7, _, _⟩ := hin.grp.arr hkl0
                have HI7 : Hid (IntsIn wr (Zone.new g7 (g7 + 1)) (some ⟨g7, 0, none⟩) (grI f a x.stops.length)) := Lib.hid (hA7.ints rfl (fun j hj => rfl) (Nat.le_refl _) (Nat.lt_succ_self _))
                have hgl7 := hA7.lt
                have HRO := Lib.hid hro
                have HP7 : Hid (∀ k, k < (gsF f x.stops.length a).length → p k ≠ g7) := Lib.hid (fun k hk e => by have := hp9 k hk; omega)
                have HN7 : Hid (u8.ownBlock ≠ some g7) := Lib.hid (fun e => by have := hv9 g7 e; omega)
                have HV9 := Lib.hid hv9
                have HP9 := Lib.hid hp9
                have HA9 := Lib.hid ha9
                have e2 : w.heap.size + 1 ≤ wr.heap.size := by omega
                have e3 : (gsF f x.stops.length a).length ≤ 16777216 := by omega
                have e4 : w.heap.size + 1 ≤ g7 := by omega
                clear hin hro hv9 hp9 ha9 hA7 hk0 hkf
                go_wp2_with (at_builtin; refine wp_appRow rfl _ _ rfl (w.heap.size + 1) _ (gsF f x.stops.length a) svs p (grI f a x.stops.length) _ _ g7 _ HRO.out rfl _ rfl (by simp) HI7.out ⟨e4, hgl7⟩ HP7.out HN7.out e3 e2 ?_; intro v' w' ho' hb' hs' hat' hz'; have HD := Lib.hid (HST.out.done HBB.out HIN.out hgo hz5 hBo2 HV9.out HP9.out HA9.out rfl ho' hb' hs' hat'); clear ho' hb' hs' hat' hz')
                go_roundw
                case rel => exact ⟨a + 1, by omega, by go_num, by rw [HGE.out, HSF.out]; exact HD.out⟩
                case measure => simp [intOf]; omega
          · have hyes : hasB (seF f x.stops.length a) a = true := hasB_iff.2 (HSE.out.2 t)
            have HGE := Lib.hid (gsF_no (n := x.stops.length) t)
            have HSF := Lib.hid (seF_no (n := x.stops.length) t)
            go_wp2_with (first | (go_at_call 27; refine (l1Has_any _ _ _ _ _ HIS.out hseb).mono ?_; rintro e w6 ⟨rfl, rfl⟩; rw [hyes]) | fail)
            go_roundw
            case rel => exact ⟨a + 1, by omega, by go_num, by rw [HGE.out, HSF.out]; exact HST.out⟩
            case measure => simp [intOf]; omega
        · obtain rfl : a = x.stops.length := by omega
          obtain ⟨svs, p, hro, _⟩ := hst.out
          obtain ⟨A9, c9, rfl, h9⟩ := hro.rowsO (B0 := w.heap.size) (Nat.le_succ _)
          have HR9 := Lib.hid h9
          have HX : Hid (wgL x xs lim = gsF f x.stops.length x.stops.length) := Lib.hid (by rw [H.out, HFE.out])
          clear h9 hro hst
          go_wp2_with fail
          go_ret2
          rw [HG.out]
          exact ⟨A9, c9, retLr (by rw [HX.out]), by rw [HX.out]; exact HR9.out, HN5.out.bel⟩

end Go.Proofs.Ytielakcmmgogoaa
