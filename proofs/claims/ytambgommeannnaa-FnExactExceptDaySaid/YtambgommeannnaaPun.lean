/- spec.l1Put of a number that is not there; spec.l3Without. -/
import Derived.Test.YtambgommeannnaaExp
import Derived.Test.YtambgommeannnaaKpt
import Derived.Deep.RegionHeld3
import Derived.Deep.DrawnRows
import Derived.Test.YtambgommeannnaaFiu
namespace Go.Proofs.Ytambgommeannnaa
open Go.ChangeShapes Go.WideShapes Go.ChangeAt Go.RowKit Go.PlainAid
set_option linter.unusedVariables false
set_option linter.unusedSimpArgs false

set_option maxRecDepth 100000 in
set_option maxHeartbeats 2000000 in
theorem l1Put_new (B b o c : Nat) (xs : List Int) (v : Int) (w : World) (hx : IntsIn w (Zone.new B w.heap.size) (some ⟨b, o, none⟩) xs) (hB : B ≤ w.heap.size) (hc1 : xs.length ≤ c) (hc2 : c ≤ 9223372036854775807) (hn : xs.length ≤ 1048576) (hne : ∀ j, j < xs.length → nth xs j ≠ v) :
    Calls Try.prog 101 #[.slice (some ⟨b, o, none⟩) xs.length c, .int .i64 v] w (RetN w.heap.size (putI xs v) w) := by
  have HNE := Lib.hid hne
  clear hne
  have hcc : ∀ j, j < xs.length → b < w.heap.size ∧ w.cell? ⟨b, o + j, none⟩ = some (.int .i64 (nth xs j)) := by
    intro j hj
    obtain ⟨b', o', e, hz, _, h⟩ := hx (by omega)
    simp at e
    obtain ⟨rfl, rfl⟩ := e
    exact ⟨hz.2, h j hj⟩
  have HX := Lib.hid hx
  clear hx
  go_enter Try.func101, Try.ntmps101
  go_wp2_with fail
  go_loopw [5] (fun i wr => ∃ k : Nat, k ≤ xs.length ∧ i = .int .i64 k ∧ (∀ j, j < k → nth xs j < v) ∧ wr = w) (fun i _ => xs.length - (intOf i).toNat)
  case atStart => exact ⟨0, Nat.zero_le _, rfl, fun j hj => by omega, rfl⟩
  case round =>
    obtain ⟨k, hk, rfl, ha, rfl⟩ := hrel
    have HA := Lib.hid ha
    have hkl : (k : Int) ≤ (xs.length : Int) := by omega
    have hkc : (k : Int) ≤ (c : Int) := by omega
    have hlc : (xs.length : Int) ≤ (c : Int) := by omega
    have hk0 : (0 : Int) ≤ (k : Int) := by omega
    have hz0 := HX.out
    clear ha
    by_cases hlt : k < xs.length
    · obtain ⟨hbl, hck⟩ := hcc k hlt
      have hik : (k : Int) < (xs.length : Int) := by omega
      by_cases t1 : nth xs k < v
      · clear hz0
        go_wp2_with fail
        go_roundw
        case rel => exact ⟨k + 1, by omega, by go_num, fun j hj => by (by_cases e : j = k; (rw [e]; exact t1); exact HA.out j (by omega)), trivial⟩
        case measure => simp [intOf]; omega
      · by_cases t2 : nth xs k = v
        · exact absurd t2 (HNE.out k hlt)
        · have HP := Lib.hid (put_at HA.out hk (fun _ => by omega))
          clear hz0
          go_wp2_with fail
          have OC : OwnI ((wr.alloc (.cells #[.int .i64 v] 3)).alloc (.cells #[] 3)) wr.heap.size (.slice (some ⟨wr.heap.size + 1, 0, none⟩) 0 0) [] := by simpa using OwnE.empty (e := 3) (m := 1) (enc := encI) (B := wr.heap.size) (w := wr.alloc (.cells #[.int .i64 v] 3)) (by simp)
          have HC : ∀ w', Below wr.heap.size wr w' → ∀ j, j < xs.length → w'.cell? ⟨b, o + j, none⟩ = some (.int .i64 (nth xs j)) := fun w' h j hj => (h.cell (p := ⟨b, _, none⟩) (hcc j hj).1).trans (hcc j hj).2
          obtain ⟨o2, ho2⟩ : ∃ o2 : Nat, (if c = k then some (⟨b, o, none⟩ : Addr) else some ⟨b, o + k, none⟩) = some ⟨b, o2, none⟩ ∧ (k < xs.length → o2 = o + k) := by
            by_cases e : c = k
            · exact ⟨o, if_pos e, fun h => by omega⟩
            · exact ⟨o + k, if_neg e, fun _ => rfl⟩
          have HO2 := Lib.hid ho2
          clear ho2
          go_region_held3 (fun w' => Below wr.heap.size wr w') (repeat' first | assumption | exact Nat.le_refl _ | exact Below.refl _ _ | (refine bel_drew ?_) | (refine bel_alloc ?_ _) | (refine bel_set ?_ ?_ _))
            (first
              | (refine step_appsI (by rfl) _ _ (by rfl) wr.heap.size _ [] (xs.take k) _ (by first | exact OwnE.empty (w := wr) (Nat.le_refl _) | exact (OwnE.empty (w := wr) (Nat.le_refl _)).alloc _ | exact OC) (by rfl) b o _ _ (by rfl) (by simp <;> omega) (fun j hj => by rw [nth_take (by simp at hj; omega)]; exact HC _ (by assumption) j (by simp at hj; omega)) (by simp <;> omega) (by simp <;> omega) ?_; intro v1 w1 ho1 hb1 hg1; have hB1 : Below wr.heap.size wr w1 := Below.trans (by assumption) hb1)
              | (refine step_appsI (by rfl) _ _ (by rfl) wr.heap.size _ ([] ++ xs.take k) [v] _ (by first | exact ho1 | exact ho1.alloc _) (by rfl) _ 0 1 1 (by rfl) (by rfl) (fun j hj => by (obtain rfl : j = 0 := by simpa using hj); first | (go_simp; done) | (go_simp; rfl) | exact hg1.cell (v := .int .i64 v) (by first | (go_simp; done) | (go_simp; rfl)) (by simp [Value.ownBlock])) (by simp <;> omega) (by have := hB1.size; first | omega | (simp <;> omega)) ?_; intro v2 w2 ho2 hb2 hg2; have hB2 : Below wr.heap.size wr w2 := Below.trans (by assumption) hb2)
              | (refine step_appsI (by rfl) _ _ (by rfl) wr.heap.size _ ([] ++ xs.take k ++ [v]) (xs.drop k) _ ho2 (by rfl) b o2 _ _ (by show Value.slice (ite _ _ _) _ _ = _; rw [HO2.out.1]) (by simp <;> omega) (fun j hj => by (have hj' : k + j < xs.length := by simp at hj <;> omega); rw [nth_drop, show o2 + j = o + (k + j) from by (have e := HO2.out.2 (by omega); omega)]; exact HC _ (by assumption) _ hj') (by simp <;> omega) hB2.size ?_; intro v3 w3 ho3 hb3 hg3; have hB3 : Below wr.heap.size wr w3 := hB2.trans hb3)
              | fail)
          all_goals
            have HE : [] ++ xs.take k ++ [v] ++ xs.drop k = putI xs v := by rw [HP.out]; simp
            rw [HE] at ho3
            have HO3 := Lib.hid ho3
            have HB3 := Lib.hid hB3
            clear HC HE ho1 ho2 ho3 OC
            go_wp2_with fail
            all_goals obtain ⟨A, c3, rfl, h1, h2, hi⟩ := HO3.out.ints
            all_goals have hpos : 0 < (putI xs v).length := by rw [HP.out]; simp <;> omega
            all_goals obtain ⟨b3, o3, rfl, _⟩ := hi hpos
            all_goals go_ret
            all_goals exact ⟨b3, o3, c3, rfl, hi, h1, h2, HB3.out⟩
    · obtain rfl : k = xs.length := by omega
      have HP := Lib.hid (put_at HA.out (Nat.le_refl _) (fun h => absurd h (by omega)))
      clear hz0
      go_wp2_with fail
      have OC : OwnI ((wr.alloc (.cells #[.int .i64 v] 3)).alloc (.cells #[] 3)) wr.heap.size (.slice (some ⟨wr.heap.size + 1, 0, none⟩) 0 0) [] := by simpa using OwnE.empty (e := 3) (m := 1) (enc := encI) (B := wr.heap.size) (w := wr.alloc (.cells #[.int .i64 v] 3)) (by simp)
      have HC : ∀ w', Below wr.heap.size wr w' → ∀ j, j < xs.length → w'.cell? ⟨b, o + j, none⟩ = some (.int .i64 (nth xs j)) := fun w' h j hj => (h.cell (p := ⟨b, _, none⟩) (hcc j hj).1).trans (hcc j hj).2
      obtain ⟨o2, ho2⟩ : ∃ o2 : Nat, (if c = xs.length then some (⟨b, o, none⟩ : Addr) else some ⟨b, o + xs.length, none⟩) = some ⟨b, o2, none⟩ ∧ (xs.length < xs.length → o2 = o + xs.length) := by
        by_cases e : c = xs.length
        · exact ⟨o, if_pos e, fun h => by omega⟩
        · exact ⟨o + xs.length, if_neg e, fun _ => rfl⟩
      have HO2 := Lib.hid ho2
      clear ho2
      go_region_held3 (fun w' => Below wr.heap.size wr w') (repeat' first | assumption | exact Nat.le_refl _ | exact Below.refl _ _ | (refine bel_drew ?_) | (refine bel_alloc ?_ _) | (refine bel_set ?_ ?_ _))
        (first
          | (refine step_appsI (by rfl) _ _ (by rfl) wr.heap.size _ [] (xs.take xs.length) _ (by first | exact OwnE.empty (w := wr) (Nat.le_refl _) | exact (OwnE.empty (w := wr) (Nat.le_refl _)).alloc _ | exact OC) (by rfl) b o _ _ (by rfl) (by simp <;> omega) (fun j hj => by rw [nth_take (by simp at hj; omega)]; exact HC _ (by assumption) j (by simp at hj; omega)) (by simp <;> omega) (by simp <;> omega) ?_; intro v1 w1 ho1 hb1 hg1; have hB1 : Below wr.heap.size wr w1 := Below.trans (by assumption) hb1)
          | (refine step_appsI (by rfl) _ _ (by rfl) wr.heap.size _ ([] ++ xs.take xs.length) [v] _ (by first | exact ho1 | exact ho1.alloc _) (by rfl) _ 0 1 1 (by rfl) (by rfl) (fun j hj => by (obtain rfl : j = 0 := by simpa using hj); first | (go_simp; done) | (go_simp; rfl) | exact hg1.cell (v := .int .i64 v) (by first | (go_simp; done) | (go_simp; rfl)) (by simp [Value.ownBlock])) (by simp <;> omega) (by have := hB1.size; first | omega | (simp <;> omega)) ?_; intro v2 w2 ho2 hb2 hg2; have hB2 : Below wr.heap.size wr w2 := Below.trans (by assumption) hb2)
          | (refine step_appsI (by rfl) _ _ (by rfl) wr.heap.size _ ([] ++ xs.take xs.length ++ [v]) (xs.drop xs.length) _ ho2 (by rfl) b o2 _ _ (by show Value.slice (ite _ _ _) _ _ = _; rw [HO2.out.1]) (by simp <;> omega) (fun j hj => by (have hj' : xs.length + j < xs.length := by simp at hj <;> omega); rw [nth_drop, show o2 + j = o + (xs.length + j) from by (have e := HO2.out.2 (by omega); omega)]; exact HC _ (by assumption) _ hj') (by simp <;> omega) hB2.size ?_; intro v3 w3 ho3 hb3 hg3; have hB3 : Below wr.heap.size wr w3 := hB2.trans hb3)
          | fail)
      all_goals
        have HE : [] ++ xs.take xs.length ++ [v] ++ xs.drop xs.length = putI xs v := by rw [HP.out]; simp
        rw [HE] at ho3
        have HO3 := Lib.hid ho3
        have HB3 := Lib.hid hB3
        clear HC HE ho1 ho2 ho3 OC
        go_wp2_with fail
        all_goals obtain ⟨A, c3, rfl, h1, h2, hi⟩ := HO3.out.ints
        all_goals have hpos : 0 < (putI xs v).length := by rw [HP.out]; simp <;> omega
        all_goals obtain ⟨b3, o3, rfl, _⟩ := hi hpos
        all_goals go_ret
        all_goals exact ⟨b3, o3, c3, rfl, hi, h1, h2, HB3.out⟩

set_option maxRecDepth 100000 in
set_option maxHeartbeats 2000000 in
theorem l3Without_any (b o c : Nat) (xs : List Int) (d : Int) (w : World) (h : IntsIn w (Zone.below w.heap.size) (some ⟨b, o, none⟩) xs) (hn : xs.length ≤ 1048576) :
    Calls Try.prog 100 #[.slice (some ⟨b, o, none⟩) xs.length c, .int .i64 d] w (RetN w.heap.size (woL xs d) w) := by
  have HX := Lib.hid h
  have HO0 : Hid (OwnI (w.alloc (.cells #[] 3)) w.heap.size (.slice (some ⟨w.heap.size, 0, none⟩) 0 0) []) := Lib.hid (by simpa using OwnE.empty (e := 3) (m := 1) (enc := encI) (w := w) (Nat.le_refl _))
  have HB0 : Hid (Below w.heap.size w (w.alloc (.cells #[] 3))) := Lib.hid (by go_grown)
  clear h
  go_enter Try.func100, Try.ntmps100
  go_wp2_with fail
  generalize (w.alloc (.cells #[] 3)) = w0 at *
  go_loopw [5, 6] (fun v i wr => ∃ k : Nat, k ≤ xs.length ∧ i = .int .i64 k ∧ OwnI wr w.heap.size v (woF xs d k) ∧ (∃ g o n c, v = .slice (some ⟨g, o, none⟩) n c) ∧ Below w.heap.size w wr) (fun _ i _ => xs.length - (intOf i).toNat)
  case atStart => exact ⟨0, Nat.zero_le _, rfl, HO0.out, ⟨_, _, _, _, rfl⟩, HB0.out⟩
  case round =>
    obtain ⟨k, hk, rfl, ho, ⟨g, og, n, cg, rfl⟩, hb⟩ := hrel
    have HO := Lib.hid ho
    have HB := Lib.hid hb
    have hz := hb.size
    have hl := woF_len xs d k
    by_cases hlt : k < xs.length
    · have hik : (k : Int) < (xs.length : Int) := by omega
      obtain ⟨b', o', e, hz', _, hc⟩ := (HX.out.at_below hb) (by omega)
      simp only [Option.some.injEq, Addr.mk.injEq, and_true] at e
      obtain ⟨rfl, rfl⟩ := e
      have hck : wr.cell? ⟨b, o + k, none⟩ = some (.int .i64 (nth xs k)) := hc k hlt
      obtain ⟨y, hy⟩ : ∃ y, y = nth xs k := ⟨_, rfl⟩
      rw [← hy] at hck
      have HY := Lib.hid hy
      clear hc ho hb hy hz'
      by_cases t : y = d
      · have HW := Lib.hid (woF_skip (xs := xs) (k := k) (HY.out.symm.trans t))
        subst t
        go_wp2_with fail
        go_roundw
        case rel => exact ⟨k + 1, by omega, by go_num, by rw [HW.out]; exact HO.out, ⟨_, _, _, _, rfl⟩, HB.out⟩
        case measure => simp [intOf]; omega
      · have HW := Lib.hid (woF_take (xs := xs) (d := d) (k := k) (by rw [← HY.out]; exact t))
        have t1 : (y == d) = false := by simpa using t
        have e1 : (woF xs d k).length ≤ 16777216 := by omega
        clear t
        go_wp2_with (at_builtin; refine wp_appI rfl _ _ rfl w.heap.size _ (woF xs d k) y _ HO.out rfl _ rfl (by simp) e1 hz ?_; intro v' w' ho' hb'; obtain ⟨A', c', rfl, _, _, hi'⟩ := OwnE.ints ho'; obtain ⟨b9, o9, rfl, _⟩ := hi' (by simp); have HO' := Lib.hid ho'; have HB' := Lib.hid (HB.out.trans hb'); clear ho' hb' hi')
        go_roundw
        case rel => exact ⟨k + 1, by omega, by go_num, by rw [HW.out, ← HY.out]; simpa using HO'.out, ⟨_, _, _, _, rfl⟩, HB'.out⟩
        case measure => simp [intOf]; omega
    · obtain rfl : k = xs.length := by omega
      obtain ⟨A', c', e, h1, h2, hi'⟩ := ho.ints
      simp only [Value.slice.injEq] at e
      obtain ⟨rfl, rfl, rfl⟩ := e
      have HI := Lib.hid hi'
      clear ho hb hi'
      have HWA := Lib.hid (woF_all xs d)
      go_wp2_with fail
      go_ret
      rw [← HWA.out]
      exact ⟨g, og, cg, rfl, HI.out, h1, h2, HB.out⟩
end Go.Proofs.Ytambgommeannnaa
