/- LineTable: the reference's order. -/
import Derived.Test.YtdiffepokiabkaaLtp
import Derived.Test.YtdiffepokiabkaaPut
import Derived.Test.YtdiffepokiabkaaStt
import Derived.BigQuiet
namespace Go.Proofs.Ytdiffepokiabkaa
open Go.ChangeShapes Go.WideShapes Go.ChangeAt Go.RowKit Go.PlainAid
set_option linter.unusedVariables false
set_option linter.unusedSimpArgs false

theorem OwnE.drew1 {α : Type} {e : TypeId} {m : Nat} {enc : α → List Value} {w : World} {B : Nat} {v : Value} {xs : List α} (h : OwnE e m enc w B v xs) : OwnE e m enc w.drew B v xs := h
set_option maxRecDepth 100000 in
set_option maxHeartbeats 4000000 in
theorem l6Trips_any (x : TTD) (A L T : Option Addr) (ca cl ct : Nat) (l : Int) (w : World) (hA : StrsIn w (Zone.below w.heap.size) A x.net.stops) (hL : LinesIn w (Zone.below w.heap.size) L x.net.lines) (hT : I3sIn w (Zone.below w.heap.size) T x.trips) (hn : x.trips.length ≤ 12) :
    Calls Try.prog 33 #[.agg #[.slice A x.net.stops.length ca, .slice L x.net.lines.length cl, .slice T x.trips.length ct], .int .i64 l] w (RetI1 (ixF x l x.trips.length) w) := by
  have H0' : Hid (TtBox w (w.alloc (.cells #[.slice A x.net.stops.length ca, .slice L x.net.lines.length cl, .slice T x.trips.length ct] 45)) w.heap.size x A ca L cl T ct) := Lib.hid (TtBox.box hA hL hT)
  have H0 : Hid (TtBox w ((w.alloc (.cells #[.slice A x.net.stops.length ca, .slice L x.net.lines.length cl, .slice T x.trips.length ct] 45)).alloc (.cells #[] 3)) w.heap.size x A ca L cl T ct) := Lib.hid (H0'.out.call (by go_grown))
  have hz0 : w.heap.size + 1 ≤ ((w.alloc (.cells #[.slice A x.net.stops.length ca, .slice L x.net.lines.length cl, .slice T x.trips.length ct] 45)).alloc (.cells #[] 3)).heap.size := by simp
  have I0 : Hid (IntsIn ((w.alloc (.cells #[.slice A x.net.stops.length ca, .slice L x.net.lines.length cl, .slice T x.trips.length ct] 45)).alloc (.cells #[] 3)) (Zone.new (w.heap.size + 1) ((w.alloc (.cells #[.slice A x.net.stops.length ca, .slice L x.net.lines.length cl, .slice T x.trips.length ct] 45)).alloc (.cells #[] 3)).heap.size) (some ⟨w.heap.size + 1, 0, none⟩) []) := Lib.hid (fun h => by simp at h)
  clear H0' hA hL hT
  go_enter Try.func33, Try.ntmps33
  go_wp2_with fail
  generalize ((w.alloc (.cells #[.slice A x.net.stops.length ca, .slice L x.net.lines.length cl, .slice T x.trips.length ct] 45)).alloc (.cells #[] 3)) = w0 at *
  go_loopw [5, 6, 7] (fun v i _ wr => ∃ k b o c : Nat, k ≤ x.trips.length ∧ i = .int .i64 k ∧ v = .slice (some ⟨b, o, none⟩) (ixF x l k).length c ∧ (ixF x l k).length ≤ c ∧ c ≤ 9223372036854775807 ∧ IntsIn wr (Zone.new (w.heap.size + 1) wr.heap.size) (some ⟨b, o, none⟩) (ixF x l k) ∧ Below (w.heap.size + 1) w0 wr) (fun _ i _ _ => x.trips.length - (intOf i).toNat)
  case atStart => exact ⟨0, w.heap.size + 1, 0, 0, Nat.zero_le _, rfl, rfl, Nat.le_refl _, by omega, I0.out, Below.refl _ _⟩
  case round =>
    obtain ⟨k, b, o, c, hk, rfl, rfl, hc1, hc2, hi, hb⟩ := hrel
    have HI := Lib.hid hi
    have H3 := Lib.hid (H0.out.callB hb (Nat.lt_succ_self _))
    have HB := Lib.hid hb
    have hz3 : w.heap.size + 1 ≤ wr.heap.size := Nat.le_trans hz0 hb.size
    have hxl : (ixF x l k).length ≤ k := by rw [ixF_len]; exact stF_len x l k
    clear hi hb
    obtain ⟨c0, c1, c2⟩ := H3.out.cells
    by_cases hlt : k < x.trips.length
    · obtain ⟨b2, o2, rfl, hbl, d0, d1, d2⟩ := I3sIn.at H3.out.trips hlt
      have hik : (k : Int) < (x.trips.length : Int) := by omega
      have hb2l : b2 < wr.heap.size := hbl
      clear hbl
      obtain ⟨y, hy⟩ : ∃ y, y = nth3 x.trips k := ⟨_, rfl⟩
      rw [← hy] at d0 d1 d2
      have HY3 := Lib.hid hy
      clear hy
      obtain ⟨ya, yb, yc⟩ := y
      simp only [] at d0 d1 d2
      by_cases t1 : yb = l
      · subst t1
        have HF : Hid (ixF x yb (k + 1) = insG (gtX x) (ixF x yb k) (k : Int)) := Lib.hid (ixF_yes (by rw [← HY3.out]))
        have hmem : ∀ j, j < (ixF x yb k).length → ∃ i : Nat, i < k ∧ nth (ixF x yb k) j = i := fun j hj => by
          obtain ⟨i, hi, e, _⟩ := ixF_at hj
          exact ⟨i, hi, e⟩
        obtain ⟨xs, hxs⟩ : ∃ xs, xs = ixF x yb k := ⟨_, rfl⟩
        rw [← hxs] at HF HI hc1 hxl hmem ⊢
        have HMEM := Lib.hid hmem
        clear hxs hmem
        go_wp2_with fail
        clear c0 c1 c2 d0 d1
        obtain ⟨wo, rfl⟩ : ∃ wo : World, wo = wr := ⟨_, rfl⟩
        have HD2 := Lib.hid d2
        clear d2
        go_loopw [7] (fun a wz => ∃ m : Nat, m ≤ xs.length ∧ a = .int .i64 m ∧ posG (gtX x) xs (k : Int) xs.length = posG (gtX x) xs (k : Int) m ∧ Dr wo wz) (fun a _ => (intOf a).toNat)
        case atStart => exact ⟨xs.length, Nat.le_refl _, rfl, rfl, Dr.refl _⟩
        case round =>
          obtain ⟨m, hm, rfl, hp, hd⟩ := hrel
          have H4 := Lib.hid (H3.out.callB (hd.below _) (Nat.lt_succ_self _))
          have I4 : Hid (IntsIn wr (Zone.new (w.heap.size + 1) wr.heap.size) (some ⟨b, o, none⟩) xs) := Lib.hid (by obtain ⟨q, rfl⟩ := hd; exact HI.out)
          have HB4 := Lib.hid (HB.out.trans (hd.below _))
          have hz4 : w.heap.size + 1 ≤ wr.heap.size := Nat.le_trans hz3 (hd.below 0).size
          have hb24 : b2 < wr.heap.size := Nat.lt_of_lt_of_le hb2l (hd.below 0).size
          have d2 : wr.cell? ⟨b2, o2 + k * 3 + 2, none⟩ = some (.int .i64 yc) := by obtain ⟨q, rfl⟩ := hd; exact HD2.out
          have HDR := Lib.hid hd
          have hmc : (m : Int) ≤ (c : Int) := by omega
          have hml : (m : Int) ≤ (xs.length : Int) := by omega
          have hlc : (xs.length : Int) ≤ (c : Int) := by omega
          have hm0i : (0 : Int) ≤ (m : Int) := by omega
          obtain ⟨c0, c1, c2⟩ := H4.out.cells
          clear hd
          by_cases h0 : 0 < m
          · obtain ⟨m', hm'⟩ : ∃ m', m = m' + 1 := ⟨m - 1, by omega⟩
            have HM' := Lib.hid hm'
            have hk' : m' < xs.length := by omega
            have hik' : (m' : Int) < (xs.length : Int) := by omega
            have hw : IntKind.i64.wrap ((m : Int) - 1) = (m' : Int) := by rw [IntWalk.i64_in _ (by omega)]; omega
            obtain ⟨b', o', e, _, hcx⟩ := (IntsIn.at (I4.out.to_below (Nat.le_refl _))).get hk'
            simp only [Option.some.injEq, Addr.mk.injEq, and_true] at e
            obtain ⟨rfl, rfl⟩ := e
            obtain ⟨q, hq, hqe⟩ := HMEM.out m' hk'
            rw [hqe] at hcx
            have hql : q < x.trips.length := by omega
            have hqi : (q : Int) < (x.trips.length : Int) := by omega
            obtain ⟨b3, o3, e, _, _, _, d3⟩ := I3sIn.at H4.out.trips hql
            simp only [Option.some.injEq, Addr.mk.injEq, and_true] at e
            obtain ⟨rfl, rfl⟩ := e
            obtain ⟨zc, hzc⟩ : ∃ zc, zc = (nth3 x.trips q).c := ⟨_, rfl⟩
            rw [← hzc] at d3
            have hgt : gtX x (nth xs m') (k : Int) = decide (yc < zc) := by
              unfold gtX
              rw [hqe, Int.toNat_natCast, Int.toNat_natCast, ← hzc, ← HY3.out]
            have HGT := Lib.hid hgt
            clear hgt hqe hzc
            by_cases t2 : yc < zc
            · have HP := Lib.hid (show posG (gtX x) xs (k : Int) xs.length = posG (gtX x) xs (k : Int) m' by rw [hp, hm']; exact posG_yes (by rw [show xs.getD m' default = nth xs m' from rfl, HGT.out]; exact decide_eq_true t2))
              clear hp hm'
              go_wp2_with fail
              go_quiet (fail)
              go_wp2_with fail
              go_roundw
              case rel => exact ⟨m', by omega, by go_num, HP.out, HDR.out.drewN _⟩
              case measure => have := HM'.out; simp [intOf]; omega
            · have HP := Lib.hid (show posG (gtX x) xs (k : Int) xs.length = m by rw [hp, hm']; exact posG_no (by rw [show xs.getD m' default = nth xs m' from rfl, HGT.out]; exact decide_eq_false t2))
              clear hp hm'
              go_wp2_with fail
              go_quiet (fail)
              go_wp2_with fail
              have I5 : Hid (IntsIn (wr.drewN nq) (Zone.new (w.heap.size + 1) (wr.drewN nq).heap.size) (some ⟨b, o, none⟩) xs) := Lib.hid I4.out
              have HB5 := Lib.hid (bel_drewN HB4.out nq)
              have hz5 : w.heap.size + 1 ≤ (wr.drewN nq).heap.size := hz4
              clear c0 c1 c2 d2 H4 I4 HB4 hz4 hb24
              generalize wr.drewN nq = w5 at *
              have HC : ∀ w', Below w5.heap.size w5 w' → ∀ j, j < xs.length → w'.cell? ⟨b, o + j, none⟩ = some (.int .i64 (nth xs j)) := fun w' h j hj => by
                obtain ⟨b', o', e, hz, _, h'⟩ := I5.out (by omega)
                simp only [Option.some.injEq, Addr.mk.injEq, and_true] at e
                obtain ⟨rfl, rfl⟩ := e
                exact (h.cell (p := ⟨b, _, none⟩) hz.2).trans (h' j hj)
              have OC : OwnI ((w5.alloc (.cells #[.int .i64 (k : Int)] 3)).alloc (.cells #[] 3)) w5.heap.size (.slice (some ⟨w5.heap.size + 1, 0, none⟩) 0 0) [] := by simpa using OwnE.empty (e := 3) (m := 1) (enc := encI) (B := w5.heap.size) (w := w5.alloc (.cells #[.int .i64 (k : Int)] 3)) (by simp)
              obtain ⟨o2', ho2⟩ : ∃ o2 : Nat, (if c = m then some (⟨b, o, none⟩ : Addr) else some ⟨b, o + m, none⟩) = some ⟨b, o2, none⟩ ∧ (m < xs.length → o2 = o + m) := by
                by_cases e : c = m
                · exact ⟨o, if_pos e, fun h => by omega⟩
                · exact ⟨o + m, if_neg e, fun _ => rfl⟩
              have HO2 := Lib.hid ho2
              clear ho2
              go_region_held3 (fun w' => Below w5.heap.size w5 w') (repeat' first | assumption | exact Nat.le_refl _ | exact Below.refl _ _ | (refine bel_drew ?_) | (refine bel_alloc ?_ _) | (refine bel_set ?_ ?_ _))
                (first
                  | (refine step_appsI (by rfl) _ _ (by rfl) w5.heap.size _ [] (xs.take m) _ (by first | with_reducible exact OwnE.drew1 (OwnE.empty (w := w5) (Nat.le_refl _)) | with_reducible exact OwnE.drew1 (OwnE.alloc (OwnE.empty (w := w5) (Nat.le_refl _)) _) | with_reducible exact OwnE.drew1 OC) (by rfl) b o _ _ (by rfl) (by simp <;> omega) (fun j hj => by rw [nth_take (by simp at hj; omega)]; exact HC _ (by assumption) j (by simp at hj; omega)) (by simp <;> omega) (by simp <;> omega) ?_; intro v1 w1 ho1 hb1 hg1; have hB1 : Below w5.heap.size w5 w1 := Below.trans (by assumption) hb1)
                  | (refine step_appsI (by rfl) _ _ (by rfl) w5.heap.size _ ([] ++ xs.take m) [(k : Int)] _ (by first | exact ho1 | exact OwnE.call ho1 (by (repeat' first | exact Below.refl _ _ | exact Nat.le_refl _ | (refine bel_drew ?_) | (refine bel_alloc ?_ _)))) (by rfl) _ 0 1 1 (by rfl) (by rfl) (fun j hj => by (obtain rfl : j = 0 := by simpa using hj); first | (go_simp; done) | (go_simp; rfl) | exact hg1.cell (v := .int .i64 (k : Int)) (by first | (go_simp; done) | (go_simp; rfl)) (by simp [Value.ownBlock])) (by simp <;> omega) (by have := hB1.size; first | omega | (simp <;> omega)) ?_; intro v2 w2 ho2 hb2 hg2; have hB2 : Below w5.heap.size w5 w2 := Below.trans (by assumption) hb2)
                  | (refine step_appsI (by rfl) _ _ (by rfl) w5.heap.size _ ([] ++ xs.take m ++ [(k : Int)]) (xs.drop m) _ ho2 (by rfl) b o2' _ _ (by show Value.slice (ite _ _ _) _ _ = _; rw [HO2.out.1]) (by simp <;> omega) (fun j hj => by (have hj' : m + j < xs.length := by simp at hj <;> omega); rw [nth_drop, show o2' + j = o + (m + j) from by (have e := HO2.out.2 (by omega); omega)]; exact HC _ (by assumption) _ hj') (by simp <;> omega) hB2.size ?_; intro v3 w3 ho3 hb3 hg3; have hB3 : Below w5.heap.size w5 w3 := hB2.trans hb3)
                  | fail)
              all_goals
                have HE : [] ++ xs.take m ++ [(k : Int)] ++ xs.drop m = insG (gtX x) xs (k : Int) := by unfold insG; rw [HP.out]; simp
                rw [HE] at ho3
                have HO3 := Lib.hid ho3
                have HB3 := Lib.hid (HB5.out.trans (hB3.mono hz5))
                have hil := insG_len (gtX x) xs (k : Int)
                clear HC HE ho1 ho2 ho3 OC
                obtain ⟨A, c3, rfl, h1, h2, hi⟩ := HO3.out.ints
                obtain ⟨b3, o3, rfl, _⟩ := hi (by omega)
                have HI3 := Lib.hid (hi.mono (Zone.new_le hz5 (Nat.le_refl _)))
                have HIL := Lib.hid hil
                clear hi hil
                go_wp2_with fail
                go_roundw
                case rel => exact ⟨k + 1, b3, o3, c3, by omega, by go_num, by rw [HF.out], by rw [HF.out]; exact h1, h2, by rw [HF.out]; exact HI3.out, HB3.out⟩
                case measure => simp [intOf]; omega
          · have HP := Lib.hid (show posG (gtX x) xs (k : Int) xs.length = m by rw [hp]; (have := posG_le (gtX x) xs (k : Int) m; omega))
            have g0 : decide (0 < m) = false := decide_eq_false h0
            clear hp
            go_wp2_with fail
            go_quiet (fail)
            go_wp2_with fail
            have I5 : Hid (IntsIn (wr.drewN nq) (Zone.new (w.heap.size + 1) (wr.drewN nq).heap.size) (some ⟨b, o, none⟩) xs) := Lib.hid I4.out
            have HB5 := Lib.hid (bel_drewN HB4.out nq)
            have hz5 : w.heap.size + 1 ≤ (wr.drewN nq).heap.size := hz4
            clear c0 c1 c2 d2 H4 I4 HB4 hz4 hb24
            generalize wr.drewN nq = w5 at *
            have HC : ∀ w', Below w5.heap.size w5 w' → ∀ j, j < xs.length → w'.cell? ⟨b, o + j, none⟩ = some (.int .i64 (nth xs j)) := fun w' h j hj => by
              obtain ⟨b', o', e, hz, _, h'⟩ := I5.out (by omega)
              simp only [Option.some.injEq, Addr.mk.injEq, and_true] at e
              obtain ⟨rfl, rfl⟩ := e
              exact (h.cell (p := ⟨b, _, none⟩) hz.2).trans (h' j hj)
            have OC : OwnI ((w5.alloc (.cells #[.int .i64 (k : Int)] 3)).alloc (.cells #[] 3)) w5.heap.size (.slice (some ⟨w5.heap.size + 1, 0, none⟩) 0 0) [] := by simpa using OwnE.empty (e := 3) (m := 1) (enc := encI) (B := w5.heap.size) (w := w5.alloc (.cells #[.int .i64 (k : Int)] 3)) (by simp)
            obtain ⟨o2', ho2⟩ : ∃ o2 : Nat, (if c = m then some (⟨b, o, none⟩ : Addr) else some ⟨b, o + m, none⟩) = some ⟨b, o2, none⟩ ∧ (m < xs.length → o2 = o + m) := by
              by_cases e : c = m
              · exact ⟨o, if_pos e, fun h => by omega⟩
              · exact ⟨o + m, if_neg e, fun _ => rfl⟩
            have HO2 := Lib.hid ho2
            clear ho2
            go_region_held3 (fun w' => Below w5.heap.size w5 w') (repeat' first | assumption | exact Nat.le_refl _ | exact Below.refl _ _ | (refine bel_drew ?_) | (refine bel_alloc ?_ _) | (refine bel_set ?_ ?_ _))
              (first
                | (refine step_appsI (by rfl) _ _ (by rfl) w5.heap.size _ [] (xs.take m) _ (by first | with_reducible exact OwnE.drew1 (OwnE.empty (w := w5) (Nat.le_refl _)) | with_reducible exact OwnE.drew1 (OwnE.alloc (OwnE.empty (w := w5) (Nat.le_refl _)) _) | with_reducible exact OwnE.drew1 OC) (by rfl) b o _ _ (by rfl) (by simp <;> omega) (fun j hj => by rw [nth_take (by simp at hj; omega)]; exact HC _ (by assumption) j (by simp at hj; omega)) (by simp <;> omega) (by simp <;> omega) ?_; intro v1 w1 ho1 hb1 hg1; have hB1 : Below w5.heap.size w5 w1 := Below.trans (by assumption) hb1)
                | (refine step_appsI (by rfl) _ _ (by rfl) w5.heap.size _ ([] ++ xs.take m) [(k : Int)] _ (by first | exact ho1 | exact OwnE.call ho1 (by (repeat' first | exact Below.refl _ _ | exact Nat.le_refl _ | (refine bel_drew ?_) | (refine bel_alloc ?_ _)))) (by rfl) _ 0 1 1 (by rfl) (by rfl) (fun j hj => by (obtain rfl : j = 0 := by simpa using hj); first | (go_simp; done) | (go_simp; rfl) | exact hg1.cell (v := .int .i64 (k : Int)) (by first | (go_simp; done) | (go_simp; rfl)) (by simp [Value.ownBlock])) (by simp <;> omega) (by have := hB1.size; first | omega | (simp <;> omega)) ?_; intro v2 w2 ho2 hb2 hg2; have hB2 : Below w5.heap.size w5 w2 := Below.trans (by assumption) hb2)
                | (refine step_appsI (by rfl) _ _ (by rfl) w5.heap.size _ ([] ++ xs.take m ++ [(k : Int)]) (xs.drop m) _ ho2 (by rfl) b o2' _ _ (by show Value.slice (ite _ _ _) _ _ = _; rw [HO2.out.1]) (by simp <;> omega) (fun j hj => by (have hj' : m + j < xs.length := by simp at hj <;> omega); rw [nth_drop, show o2' + j = o + (m + j) from by (have e := HO2.out.2 (by omega); omega)]; exact HC _ (by assumption) _ hj') (by simp <;> omega) hB2.size ?_; intro v3 w3 ho3 hb3 hg3; have hB3 : Below w5.heap.size w5 w3 := hB2.trans hb3)
                | fail)
            all_goals
              have HE : [] ++ xs.take m ++ [(k : Int)] ++ xs.drop m = insG (gtX x) xs (k : Int) := by unfold insG; rw [HP.out]; simp
              rw [HE] at ho3
              have HO3 := Lib.hid ho3
              have HB3 := Lib.hid (HB5.out.trans (hB3.mono hz5))
              have hil := insG_len (gtX x) xs (k : Int)
              clear HC HE ho1 ho2 ho3 OC
              obtain ⟨A, c3, rfl, h1, h2, hi⟩ := HO3.out.ints
              obtain ⟨b3, o3, rfl, _⟩ := hi (by omega)
              have HI3 := Lib.hid (hi.mono (Zone.new_le hz5 (Nat.le_refl _)))
              have HIL := Lib.hid hil
              clear hi hil
              go_wp2_with fail
              go_roundw
              case rel => exact ⟨k + 1, b3, o3, c3, by omega, by go_num, by rw [HF.out], by rw [HF.out]; exact h1, h2, by rw [HF.out]; exact HI3.out, HB3.out⟩
              case measure => simp [intOf]; omega
      · have HF : Hid (ixF x l (k + 1) = ixF x l k) := Lib.hid (ixF_no (by rw [← HY3.out]; exact t1))
        have HC12 := Lib.hid (And.intro hc1 hc2)
        clear hc1 hc2
        go_wp2_with fail
        go_roundw
        case rel => exact ⟨k + 1, b, o, c, by omega, by go_num, by rw [HF.out], by rw [HF.out]; exact HC12.out.1, HC12.out.2, by rw [HF.out]; exact HI.out, HB.out⟩
        case measure => simp [intOf]; omega
    · obtain rfl : k = x.trips.length := by omega
      go_wp2_with fail
      go_ret
      exact ⟨some ⟨b, o, none⟩, c, rfl, HI.out.mono (Zone.new_le (by omega) (Nat.le_refl _)), H3.out.bel⟩

end Go.Proofs.Ytdiffepokiabkaa
