/- WalkGroups: the program's contract. -/
import Derived.Test.YtielakcmmgogoaaWgr
namespace Go.Proofs.Ytielakcmmgogoaa
open Go.ChangeShapes Go.WideShapes Go.ChangeAt Go.RowKit Go.PlainAid
set_option linter.unusedVariables false
set_option linter.unusedSimpArgs false

set_option maxRecDepth 100000 in
set_option maxHeartbeats 2000000 in
theorem implGroups_any (x : NetD) (A L V : Option Addr) (ca cl cv : Nat) (xs : List I3) (lim : Int) (w : World) (hA : StrsIn w (Zone.below w.heap.size) A x.stops) (hL : LinesIn w (Zone.below w.heap.size) L x.lines) (hV : I3sIn w (Zone.below w.heap.size) V xs) (hx : Fits x) (hv : xs.length ≤ 1048576) :
    Calls Try.prog 10 #[.agg #[.slice A x.stops.length ca, .slice L x.lines.length cl], .slice V xs.length cv, .int .i64 lim] w (RetRows (wgL x xs lim) (wgB x xs lim) w) := by
  have H0 : Hid (NetBox w (w.alloc (.cells #[.slice A x.stops.length ca, .slice L x.lines.length cl] 34)) w.heap.size x A ca L cl) := Lib.hid (NetBox.box hA hL)
  have HV0 := Lib.hid (hV.call H0.out.bel)
  have hn := hx.stops
  have hm := hx.lines
  clear hA hL hV
  cases g0 : wvB x xs
  · have HG := Lib.hid (wgB_no (lim := lim) (.inl g0))
    have H := Lib.hid (wgL_no HG.out)
    go_enter Try.func10, Try.ntmps10
    go_wp2_with fail
    refine (implWv_any x _ _ _ _ _ _ xs _ H0.out.stops H0.out.lines HV0.out hx hv).mono ?_
    rintro e w1 ⟨rfl, hb1⟩
    have H1 := Lib.hid (H0.out.call hb1)
    have HV1 := Lib.hid (HV0.out.call hb1)
    have hz1 := hb1.size
    clear hb1
    (try clear c0 c1)
    obtain ⟨c0, c1⟩ := H1.out.cells
    go_wp2_with fail
    go_ret2
    rw [HG.out]
    exact retRnil H.out H1.out.bel
  cases g1 : inB lim 0 120
  · have HG := Lib.hid (wgB_no (xs := xs) (x := x) (.inr g1))
    have H := Lib.hid (wgL_no HG.out)
    go_enter Try.func10, Try.ntmps10
    go_wp2_with fail
    refine (implWv_any x _ _ _ _ _ _ xs _ H0.out.stops H0.out.lines HV0.out hx hv).mono ?_
    rintro e w1 ⟨rfl, hb1⟩
    have H1 := Lib.hid (H0.out.call hb1)
    have HV1 := Lib.hid (HV0.out.call hb1)
    have hz1 := hb1.size
    clear hb1
    (try clear c0 c1)
    obtain ⟨c0, c1⟩ := H1.out.cells
    go_wp2_with (go_at_call 33; refine (within_any _ _ _ _).mono ?_; rintro e w6 ⟨rfl, rfl⟩)
    go_ret2
    rw [HG.out]
    exact retRnil H.out H1.out.bel
  have HG := Lib.hid (wgB_yes g0 g1)
  have H := Lib.hid (wgL_yes HG.out)
  obtain ⟨hnet, hwk⟩ := wvB_ok g0
  have HN := Lib.hid hnet
  have HWK := Lib.hid hwk.wks
  have h28 := inB_iff.1 (netB_ok hnet).stops
  have h2 : 2 ≤ x.stops.length := by omega
  have h8 : x.stops.length ≤ 8 := by omega
  have h0 : 0 < x.stops.length := by omega
  clear hnet hwk h28
  have HWS := Lib.hid (shF_wks HWK.out lim xs.length (Nat.le_refl _))
  have hsl := shF_len xs lim xs.length
  go_enter Try.func10, Try.ntmps10
  go_wp2_with fail
  refine (implWv_any x _ _ _ _ _ _ xs _ H0.out.stops H0.out.lines HV0.out hx hv).mono ?_
  rintro e w1 ⟨rfl, hb1⟩
  have H1 := Lib.hid (H0.out.call hb1)
  have HV1 := Lib.hid (HV0.out.call hb1)
  have hz1 := hb1.size
  clear hb1
  (try clear c0 c1)
  obtain ⟨c0, c1⟩ := H1.out.cells
  go_wp2_with (go_at_call 33; refine (within_any _ _ _ _).mono ?_; rintro e w6 ⟨rfl, rfl⟩)
  go_loopw [8, 27] (fun v i wr => ∃ k : Nat, k ≤ xs.length ∧ i = .int .i64 k ∧ OwnW wr w1.heap.size v (shF xs lim k) ∧ Below w1.heap.size w1 wr) (fun _ i _ => xs.length - (intOf i).toNat)
  case atStart => exact ⟨0, Nat.zero_le _, rfl, OwnE.nil, Below.refl _ _⟩
  case round =>
    obtain ⟨k, hk, rfl, ho, hb⟩ := hrel
    have HO := Lib.hid ho
    have HB := Lib.hid hb
    have hz := hb.size
    have hfl := shF_len xs lim k
    by_cases hlt : k < xs.length
    · skip
      obtain ⟨b, o, rfl, hbl, hc0, hc1, hc2⟩ := I3sIn.at (HV1.out.call hb) hlt
      have hik : (k : Int) < (xs.length : Int) := by omega
      obtain ⟨y, hy⟩ : ∃ y, y = nth3 xs k := ⟨_, rfl⟩
      rw [← hy] at hc0 hc1 hc2
      obtain ⟨ya, yb, yc⟩ := y
      simp only [] at hc0 hc1 hc2
      have HYE := Lib.hid hy
      clear hy
      have HW4 : Hid (Below w1.heap.size w1 (wr.alloc (.cells #[.int .i64 ya, .int .i64 yb, .int .i64 yc] 56))) := Lib.hid (hb.alloc hz _)
      have HO4 := Lib.hid (ho.alloc (.cells #[.int .i64 ya, .int .i64 yb, .int .i64 yc] 56))
      have hz4 : w1.heap.size ≤ (wr.alloc (.cells #[.int .i64 ya, .int .i64 yb, .int .i64 yc] 56)).heap.size := HW4.out.size
      clear ho hb
      by_cases t : yc ≤ lim
      · have HF := Lib.hid (shF_yes (xs := xs) (k := k) (lim := lim) (by rw [← HYE.out]; exact t))
        go_wp2_with (at_builtin; refine wp_appW1 rfl _ _ rfl w1.heap.size _ (shF xs lim k) ⟨ya, yb, yc⟩ _ HO4.out rfl _ rfl (by simp) (by omega) hz4 ?_; intro v' w' ho' hb'; have HO' := Lib.hid ho'; have HB' := Lib.hid (HW4.out.trans hb'); clear ho' hb')
        go_roundw
        case rel => exact ⟨k + 1, by omega, by go_num, by rw [HF.out, ← HYE.out]; exact HO'.out, HB'.out⟩
        case measure => simp [intOf]; omega
      · have HF := Lib.hid (shF_no (xs := xs) (k := k) (lim := lim) (by rw [← HYE.out]; exact t))
        go_wp2_with fail
        go_roundw
        case rel => exact ⟨k + 1, by omega, by go_num, by rw [HF.out]; exact HO4.out, HW4.out⟩
        case measure => simp [intOf]; omega
    · obtain rfl : k = xs.length := by omega
      obtain ⟨A2, c2, rfl, _, _, hi2⟩ := ho.i3s
      have HI2 := Lib.hid (hi2.to_below (Nat.le_refl _))
      have H2 := Lib.hid (H1.out.call hb)
      clear ho hi2 c0 c1 hb
      obtain ⟨c0, c1⟩ := H2.out.cells
      go_wp2_with fail
      refine (walkTable_any x _ _ _ _ _ _ (shF xs lim xs.length) _ HI2.out h0 h8 (by omega) HWS.out).mono ?_
      rintro e w3 ⟨G, rfl, hm3, hg3, hb3⟩
      have H3 := Lib.hid (H2.out.call hb3)
      have HM := Lib.hid hm3
      have hz3 := hb3.size
      have hGl := hm3.lt
      obtain ⟨f, hf⟩ : ∃ f, f = wgF x xs lim := ⟨_, rfl⟩
      have HFE := Lib.hid hf
      have HF0 : Hid (∀ a, a < x.stops.length → f a a = 0) := Lib.hid (fun a ha => by rw [hf]; exact fw_self HWS.out ha)
      have HMM : Hid (MatI w3 G x.stops.length f) := Lib.hid (by rw [hf]; exact hm3)
      clear hb3 hm3 c0 c1 hf HM
      obtain ⟨c0, c1⟩ := H3.out.cells
      go_wp2_with fail
      clear c0 c1
      go_loopw [12, 46] (fun v i wr => ∃ a : Nat, a ≤ x.stops.length ∧ i = .int .i64 a ∧ (∃ svs p, ROut wr w3.heap.size v (gsF f x.stops.length a) svs p) ∧ Below w3.heap.size w3 wr) (fun _ i _ => x.stops.length - (intOf i).toNat)
      case atStart => exact ⟨0, Nat.zero_le _, rfl, ⟨[], fun _ => 0, ROut.nil _ _ _⟩, Below.refl _ _⟩
      case round =>
        obtain ⟨a, ha, rfl, ⟨svs, p, ho⟩, hb⟩ := hrel
        have HO := Lib.hid ho
        have HB := Lib.hid hb
        have hz4 := hb.size
        have HN4 := Lib.hid (H3.out.call hb)
        have hgl := gsF_len f x.stops.length a
        clear ho hb
        by_cases hlt : a < x.stops.length
        · have hai : (a : Int) < (x.stops.length : Int) := by omega
          obtain ⟨c0, c1⟩ := HN4.out.cells
          go_wp2_with fail
          clear c0 c1
          obtain ⟨wo, rfl⟩ : ∃ wo : World, wo = wr := ⟨_, rfl⟩
          go_loopw [14, 52] (fun gv i wi => ∃ b : Nat, b ≤ x.stops.length ∧ i = .int .i64 b ∧ OwnI wi wo.heap.size gv (grI f a b) ∧ Below wo.heap.size wo wi) (fun _ i _ => x.stops.length - (intOf i).toNat)
          case atStart => exact ⟨0, Nat.zero_le _, rfl, OwnE.nil, Below.refl _ _⟩
          case round =>
            obtain ⟨b, hbn, rfl, hg, hb⟩ := hrel
            have HG6 := Lib.hid hg
            have HB6 := Lib.hid hb
            have hz6 := hb.size
            have hgrl := grI_len f a b
            by_cases hbl : b < x.stops.length
            · have hbi : (b : Int) < (x.stops.length : Int) := by omega
              have hm6 := HMM.out.call (HB.out.trans (hb.mono hz4))
              have d0 := hm6.hd a hlt
              have d1 := hm6.at' hlt hbl
              obtain ⟨q, hq⟩ : ∃ q, q = f a b := ⟨_, rfl⟩
              rw [← hq] at d1
              have HQ := Lib.hid hq
              clear hg hb hm6 hq
              by_cases t : 0 ≤ q
              · have HF := Lib.hid (grI_yes (f := f) (a := a) (k := b) (by rw [← HQ.out]; exact t))
                go_wp2_with (at_builtin; refine wp_appI rfl _ _ rfl wo.heap.size _ (grI f a b) b _ HG6.out rfl _ rfl (by simp) (by omega) hz6 ?_; intro v' w' ho' hb'; have HO' := Lib.hid ho'; have HB' := Lib.hid (HB6.out.trans hb'); clear ho' hb')
                go_roundw
                case rel => exact ⟨b + 1, by omega, by go_num, by rw [HF.out]; exact HO'.out, HB'.out⟩
                case measure => simp [intOf]; omega
              · have HF := Lib.hid (grI_no (f := f) (a := a) (k := b) (by rw [← HQ.out]; exact t))
                go_wp2_with fail
                go_roundw
                case rel => exact ⟨b + 1, by omega, by go_num, by rw [HF.out]; exact HG6.out, HB6.out⟩
                case measure => simp [intOf]; omega
            · obtain rfl : b = x.stops.length := by omega
              obtain ⟨k, hk0, hkl, hka, hkf⟩ := grI_hd (HF0.out a hlt) hlt
              obtain ⟨g7, c7, rfl, hA7, hg7, _, _⟩ := hg.arr hkl
              have hc7 := hA7.cells 0 hkl
              rw [hk0] at hc7
              have HK := Lib.hid hkf
              have HI7 : Hid (IntsIn wr (Zone.new g7 (g7 + 1)) (some ⟨g7, 0, none⟩) (grI f a x.stops.length)) := Lib.hid (hA7.ints rfl (fun j hj => rfl) (Nat.le_refl _) (Nat.lt_succ_self _))
              have hgl7 := hA7.lt
              have HOw := Lib.hid (HO.out.call hb)
              have HP7 : Hid (∀ k, k < (gsF f x.stops.length a).length → p k ≠ g7) := Lib.hid (fun k hk e => by have := (HO.out.p0 k hk).2; omega)
              have HN7 : Hid (u12.ownBlock ≠ some g7) := Lib.hid (fun e => by have := (own_lt HO.out.own e).2; omega)
              have hkl0 : (0 : Int) < (((grI f a x.stops.length).length : Nat) : Int) := by omega
              clear hb hA7 hkf hk0 hg
              by_cases t : k = a
              · have HF := Lib.hid (gsF_yes (n := x.stops.length) (HK.out.1 t))
                subst t
                go_wp2_with (at_builtin; refine wp_appRow rfl _ _ rfl w3.heap.size _ (gsF f x.stops.length k) svs p (grI f k x.stops.length) _ _ g7 _ HOw.out rfl _ rfl (by simp) HI7.out ⟨by omega, hgl7⟩ HP7.out HN7.out (by omega) (by omega) ?_; intro v' w' ho' hb' _ _ _; have HO' := Lib.hid ho'; have HB' := Lib.hid ((HB.out.trans (HB6.out.mono hz4)).trans hb'); clear ho' hb')
                go_roundw
                case rel => exact ⟨k + 1, by omega, by go_num, by rw [HF.out]; exact ⟨_, _, HO'.out⟩, HB'.out⟩
                case measure => simp [intOf]; omega
              · have HF := Lib.hid (gsF_no (n := x.stops.length) (fun h => t (HK.out.2 h)))
                have hne : ¬ (k : Int) = (a : Int) := by omega
                go_wp2_with fail
                go_roundw
                case rel => exact ⟨a + 1, by omega, by go_num, by rw [HF.out]; exact ⟨_, _, HOw.out⟩, HB.out.trans (HB6.out.mono hz4)⟩
                case measure => simp [intOf]; omega
        · obtain rfl : a = x.stops.length := by omega
          obtain ⟨A9, c9, rfl, h9⟩ := HO.out.rowsO (B0 := w.heap.size) (Nat.le_trans H3.out.bel.size (Nat.le_refl _))
          have HR9 := Lib.hid h9
          have HX : Hid (wgL x xs lim = gsF f x.stops.length x.stops.length) := Lib.hid (by rw [H.out, HFE.out])
          clear h9
          go_wp2_with fail
          go_ret2
          rw [HG.out]
          exact ⟨A9, c9, retLr (by rw [HX.out]), by rw [HX.out]; exact HR9.out, bel_of H3.out.bel H3.out.bel.size HB.out⟩

end Go.Proofs.Ytielakcmmgogoaa
