/- A number put into a rising list (spec.l1Put). -/
import Derived.Test.YtambgommeannnaaLnA
import Derived.Deep.RegionHeld3
import Derived.Deep.DrawnRows
namespace Go.Proofs.Ytambgommeannnaa
open Go.ChangeShapes Go.WideShapes Go.ChangeAt Go.RowKit Go.PlainAid
set_option linter.unusedVariables false

theorem flat_int (ys : List Int) (j : Nat) (u : Value) (h : (ys.flatMap encI)[j]? = some u) : j < ys.length ∧ u = .int .i64 (nth ys j) := by
  induction ys generalizing j with
  | nil => simp at h
  | cons y ys ih =>
    rw [List.flatMap_cons] at h
    cases j with
    | zero => simp [encI] at h; exact ⟨by simp, by rw [← h]; rfl⟩
    | succ j =>
      rw [show encI y ++ ys.flatMap encI = .int .i64 y :: ys.flatMap encI from rfl, List.getElem?_cons_succ] at h
      obtain ⟨h1, h2⟩ := ih j h
      exact ⟨by simp; omega, h2⟩
theorem flat_int_len (ys : List Int) : (ys.flatMap encI).length = ys.length := by
  induction ys with
  | nil => rfl
  | cons y ys ih => rw [List.flatMap_cons, List.length_append, ih]; simp [encI]; omega
/-- append(v, ys...) of integers, at a step of a drawn region. -/
theorem step_appsI {ops : Array Oper} {o : Oper} {a : Act} {K : Act → World → Prop} {Q : Exit → Act → World → Prop} {E : Prop} (hgd : o.guard = none) (s x : Operand)
    (ho : o.op = .call { callee := .builtin .append, args := #[s, x], argTypes := #[22, 22] })
    (B : Nat) (v : Value) (xs ys : List Int) (w : World) (hown : OwnI w B v xs) (hs : a.eval s = v) (b i c n : Nat) (hx : a.eval x = .slice (some ⟨b, i, none⟩) n c) (hn : ys.length = n)
    (hc : ∀ j, j < ys.length → w.cell? ⟨b, i + j, none⟩ = some (.int .i64 (nth ys j))) (hl : xs.length + ys.length ≤ 16777216) (hB : B ≤ w.heap.size)
    (h : ∀ v' w', OwnI w' B v' (xs ++ ys) → Below B w w' → w.grownBy w' v.ownBlock → K (a.put o.dst v') w') :
    if Region.wanted o (yielded ops a.tmps) = true then Oper.wp Try.prog o a w K Q else E := by
  have hw : Region.wanted o (yielded ops a.tmps) = true := by simp [Region.wanted, hgd]
  rw [if_pos hw]
  subst hn
  obtain ⟨i0, hi, hz0, hz1, hz2⟩ := info_parts Try.infoI
  refine wp_append_own w s x 22 ho B 3 i0 _ 1 8 Try.underlying22 hi hz0 hz1 hz2 rfl (by omega) v xs.length (xs.flatMap encI) hs hown ⟨b, i, none⟩ ys.length c (ys.flatMap encI) hx (by rw [flat_int_len]; omega) (fun j u hj => ?_) (fun u hu => ?_) (by unfold maxLen; omega) (by omega) hB (fun v' w' ho' hg _ => ?_)
  · obtain ⟨h1, rfl⟩ := flat_int ys j u hj
    rw [show (⟨b, i, none⟩ : Addr).add j = ⟨b, i + j, none⟩ by unfold Addr.add; split <;> simp_all]
    exact hc j h1
  · obtain ⟨y, _, hu⟩ := List.mem_flatMap.1 hu
    simp [encI] at hu
    subst hu
    rfl
  · refine h v' w' ?_ ((Below.refl B w).grown hg hB (fun k hk => ((World.ownsRow.lt hown) k hk).1)) hg
    show w'.ownsRow B 3 1 v' (xs ++ ys).length ((xs ++ ys).flatMap encI)
    rw [List.length_append, List.flatMap_append]
    exact ho'

/-! ### A number put into a rising list -/
def putI : List Int → Int → List Int
  | [], v => [v]
  | x :: xs, v => if x < v then x :: putI xs v else if x = v then x :: xs else v :: x :: xs
theorem put_len (xs : List Int) (v : Int) : (putI xs v).length ≤ xs.length + 1 := by
  induction xs with
  | nil => simp [putI]
  | cons x xs ih =>
    simp only [putI]
    split
    · simp only [List.length_cons]; omega
    · split <;> simp
theorem put_has {xs : List Int} {v : Int} {k : Nat} (h : ∀ j, j < k → nth xs j < v) (hk : k < xs.length) (he : nth xs k = v) : putI xs v = xs := by
  induction xs generalizing k with
  | nil => simp at hk
  | cons x xs ih =>
    cases k with
    | zero => have : x = v := he
              simp [putI, this]
    | succ k =>
      have h0 : x < v := h 0 (by omega)
      simp only [putI]
      rw [if_pos h0, ih (k := k) (fun j hj => h (j + 1) (by omega)) (by simpa using hk) he]
theorem put_at {xs : List Int} {v : Int} {k : Nat} (h : ∀ j, j < k → nth xs j < v) (hk : k ≤ xs.length) (he : k < xs.length → v < nth xs k) : putI xs v = xs.take k ++ ([v] ++ xs.drop k) := by
  induction xs generalizing k with
  | nil => simp at hk; subst hk; rfl
  | cons x xs ih =>
    cases k with
    | zero => have h1 : v < x := he (by simp)
              simp only [putI]
              rw [if_neg (by omega), if_neg (by omega)]; rfl
    | succ k =>
      have h0 : x < v := h 0 (by omega)
      simp only [putI]
      rw [if_pos h0, ih (k := k) (fun j hj => h (j + 1) (by omega)) (by simpa using hk) (fun hlt => he (by simpa using hlt))]
      rfl
theorem nth_take {xs : List Int} {k j : Nat} (h : j < k) : nth (xs.take k) j = nth xs j := by
  unfold nth
  rw [List.getD_eq_getElem?_getD, List.getD_eq_getElem?_getD, List.getElem?_take_of_lt h]
theorem nth_drop (xs : List Int) (k j : Nat) : nth (xs.drop k) j = nth xs (k + j) := by
  unfold nth
  rw [List.getD_eq_getElem?_getD, List.getD_eq_getElem?_getD, List.getElem?_drop]

/-- A slice of numbers in memory from block B on, not nil. -/
def RetN (B : Nat) (xs : List Int) (w : World) (e : Ending) (w' : World) : Prop :=
  ∃ b o c, e = .returned (.slice (some ⟨b, o, none⟩) xs.length c) ∧ IntsIn w' (Zone.new B w'.heap.size) (some ⟨b, o, none⟩) xs ∧ xs.length ≤ c ∧ c ≤ 9223372036854775807 ∧ Below w.heap.size w w'

set_option maxRecDepth 100000 in
set_option maxHeartbeats 2000000 in
theorem l1Put_any (B b o c : Nat) (xs : List Int) (v : Int) (w : World) (hx : IntsIn w (Zone.new B w.heap.size) (some ⟨b, o, none⟩) xs) (hB : B ≤ w.heap.size) (hc1 : xs.length ≤ c) (hc2 : c ≤ 9223372036854775807) (hn : xs.length ≤ 1048576) :
    Calls Try.prog 101 #[.slice (some ⟨b, o, none⟩) xs.length c, .int .i64 v] w (RetN B (putI xs v) w) := by
  have hcc : ∀ j, j < xs.length → b < w.heap.size ∧ w.cell? ⟨b, o + j, none⟩ = some (.int .i64 (nth xs j)) := by
    intro j hj
    obtain ⟨b', o', e, hz, _, h⟩ := hx (by omega)
    simp at e
    obtain ⟨rfl, rfl⟩ := e
    exact ⟨hz.2, h j hj⟩
  have HX := Lib.hid hx
  clear hx
  go_enter Try.func101, Try.ntmps101
  go_wp2_with fail
  go_loopw [5] (fun i wr => ∃ k : Nat, k ≤ xs.length ∧ i = .int .i64 k ∧ (∀ j, j < k → nth xs j < v) ∧ wr = w) (fun i _ => xs.length - (intOf i).toNat)
  case atStart => exact ⟨0, Nat.zero_le _, rfl, fun j hj => by omega, rfl⟩
  case round =>
    obtain ⟨k, hk, rfl, ha, rfl⟩ := hrel
    have HA := Lib.hid ha
    have hkl : (k : Int) ≤ (xs.length : Int) := by omega
    have hkc : (k : Int) ≤ (c : Int) := by omega
    have hlc : (xs.length : Int) ≤ (c : Int) := by omega
    have hk0 : (0 : Int) ≤ (k : Int) := by omega
    have hz0 := HX.out
    clear ha
    by_cases hlt : k < xs.length
    · obtain ⟨hbl, hck⟩ := hcc k hlt
      have hik : (k : Int) < (xs.length : Int) := by omega
      by_cases t1 : nth xs k < v
      · clear hz0
        go_wp2_with fail
        go_roundw
        case rel => exact ⟨k + 1, by omega, by go_num, fun j hj => by (by_cases e : j = k; (rw [e]; exact t1); exact HA.out j (by omega)), trivial⟩
        case measure => simp [intOf]; omega
      · by_cases t2 : nth xs k = v
        · have HP := Lib.hid (put_has HA.out hlt t2)
          clear hz0
          go_wp2_with fail
          go_ret
          rw [HP.out]
          exact ⟨b, o, c, rfl, HX.out, hc1, hc2, Below.refl _ _⟩
        · have HP := Lib.hid (put_at HA.out hk (fun _ => by omega))
          clear hz0
          go_wp2_with fail
          have OC : OwnI ((wr.alloc (.cells #[.int .i64 v] 3)).alloc (.cells #[] 3)) wr.heap.size (.slice (some ⟨wr.heap.size + 1, 0, none⟩) 0 0) [] := by simpa using OwnE.empty (e := 3) (m := 1) (enc := encI) (B := wr.heap.size) (w := wr.alloc (.cells #[.int .i64 v] 3)) (by simp)
          have HC : ∀ w', Below wr.heap.size wr w' → ∀ j, j < xs.length → w'.cell? ⟨b, o + j, none⟩ = some (.int .i64 (nth xs j)) := fun w' h j hj => (h.cell (p := ⟨b, _, none⟩) (hcc j hj).1).trans (hcc j hj).2
          obtain ⟨o2, ho2⟩ : ∃ o2 : Nat, (if c = k then some (⟨b, o, none⟩ : Addr) else some ⟨b, o + k, none⟩) = some ⟨b, o2, none⟩ ∧ (k < xs.length → o2 = o + k) := by
            by_cases e : c = k
            · exact ⟨o, if_pos e, fun h => by omega⟩
            · exact ⟨o + k, if_neg e, fun _ => rfl⟩
          have HO2 := Lib.hid ho2
          clear ho2
          go_region_held3 (fun w' => Below wr.heap.size wr w') (repeat' first | assumption | exact Nat.le_refl _ | exact Below.refl _ _ | (refine bel_drew ?_) | (refine bel_alloc ?_ _) | (refine bel_set ?_ ?_ _))
            (first
              | (refine step_appsI (by rfl) _ _ (by rfl) wr.heap.size _ [] (xs.take k) _ (by first | exact OwnE.empty (w := wr) (Nat.le_refl _) | exact (OwnE.empty (w := wr) (Nat.le_refl _)).alloc _ | exact OC) (by rfl) b o _ _ (by rfl) (by simp <;> omega) (fun j hj => by rw [nth_take (by simp at hj; omega)]; exact HC _ (by assumption) j (by simp at hj; omega)) (by simp <;> omega) (by simp <;> omega) ?_; intro v1 w1 ho1 hb1 hg1; have hB1 : Below wr.heap.size wr w1 := Below.trans (by assumption) hb1)
              | (refine step_appsI (by rfl) _ _ (by rfl) wr.heap.size _ ([] ++ xs.take k) [v] _ (by first | exact ho1 | exact ho1.alloc _) (by rfl) _ 0 1 1 (by rfl) (by rfl) (fun j hj => by (obtain rfl : j = 0 := by simpa using hj); first | (go_simp; done) | (go_simp; rfl) | exact hg1.cell (v := .int .i64 v) (by first | (go_simp; done) | (go_simp; rfl)) (by simp [Value.ownBlock])) (by simp <;> omega) (by have := hB1.size; first | omega | (simp <;> omega)) ?_; intro v2 w2 ho2 hb2 hg2; have hB2 : Below wr.heap.size wr w2 := Below.trans (by assumption) hb2)
              | (refine step_appsI (by rfl) _ _ (by rfl) wr.heap.size _ ([] ++ xs.take k ++ [v]) (xs.drop k) _ ho2 (by rfl) b o2 _ _ (by show Value.slice (ite _ _ _) _ _ = _; rw [HO2.out.1]) (by simp <;> omega) (fun j hj => by (have hj' : k + j < xs.length := by simp at hj <;> omega); rw [nth_drop, show o2 + j = o + (k + j) from by (have e := HO2.out.2 (by omega); omega)]; exact HC _ (by assumption) _ hj') (by simp <;> omega) hB2.size ?_; intro v3 w3 ho3 hb3 hg3; have hB3 : Below wr.heap.size wr w3 := hB2.trans hb3)
              | fail)
          all_goals
            have HE : [] ++ xs.take k ++ [v] ++ xs.drop k = putI xs v := by rw [HP.out]; simp
            rw [HE] at ho3
            have HO3 := Lib.hid ho3
            have HB3 := Lib.hid hB3
            clear HC HE ho1 ho2 ho3 OC
            go_wp2_with fail
            all_goals obtain ⟨A, c3, rfl, h1, h2, hi⟩ := HO3.out.ints
            all_goals have hpos : 0 < (putI xs v).length := by rw [HP.out]; simp <;> omega
            all_goals obtain ⟨b3, o3, rfl, _⟩ := hi hpos
            all_goals go_ret
            all_goals exact ⟨b3, o3, c3, rfl, hi.mono (Zone.new_le hB (Nat.le_refl _)), h1, h2, HB3.out⟩
    · obtain rfl : k = xs.length := by omega
      have HP := Lib.hid (put_at HA.out (Nat.le_refl _) (fun h => absurd h (by omega)))
      clear hz0
      go_wp2_with fail
      have OC : OwnI ((wr.alloc (.cells #[.int .i64 v] 3)).alloc (.cells #[] 3)) wr.heap.size (.slice (some ⟨wr.heap.size + 1, 0, none⟩) 0 0) [] := by simpa using OwnE.empty (e := 3) (m := 1) (enc := encI) (B := wr.heap.size) (w := wr.alloc (.cells #[.int .i64 v] 3)) (by simp)
      have HC : ∀ w', Below wr.heap.size wr w' → ∀ j, j < xs.length → w'.cell? ⟨b, o + j, none⟩ = some (.int .i64 (nth xs j)) := fun w' h j hj => (h.cell (p := ⟨b, _, none⟩) (hcc j hj).1).trans (hcc j hj).2
      obtain ⟨o2, ho2⟩ : ∃ o2 : Nat, (if c = xs.length then some (⟨b, o, none⟩ : Addr) else some ⟨b, o + xs.length, none⟩) = some ⟨b, o2, none⟩ ∧ (xs.length < xs.length → o2 = o + xs.length) := by
        by_cases e : c = xs.length
        · exact ⟨o, if_pos e, fun h => by omega⟩
        · exact ⟨o + xs.length, if_neg e, fun _ => rfl⟩
      have HO2 := Lib.hid ho2
      clear ho2
      go_region_held3 (fun w' => Below wr.heap.size wr w') (repeat' first | assumption | exact Nat.le_refl _ | exact Below.refl _ _ | (refine bel_drew ?_) | (refine bel_alloc ?_ _) | (refine bel_set ?_ ?_ _))
        (first
          | (refine step_appsI (by rfl) _ _ (by rfl) wr.heap.size _ [] (xs.take xs.length) _ (by first | exact OwnE.empty (w := wr) (Nat.le_refl _) | exact (OwnE.empty (w := wr) (Nat.le_refl _)).alloc _ | exact OC) (by rfl) b o _ _ (by rfl) (by simp <;> omega) (fun j hj => by rw [nth_take (by simp at hj; omega)]; exact HC _ (by assumption) j (by simp at hj; omega)) (by simp <;> omega) (by simp <;> omega) ?_; intro v1 w1 ho1 hb1 hg1; have hB1 : Below wr.heap.size wr w1 := Below.trans (by assumption) hb1)
          | (refine step_appsI (by rfl) _ _ (by rfl) wr.heap.size _ ([] ++ xs.take xs.length) [v] _ (by first | exact ho1 | exact ho1.alloc _) (by rfl) _ 0 1 1 (by rfl) (by rfl) (fun j hj => by (obtain rfl : j = 0 := by simpa using hj); first | (go_simp; done) | (go_simp; rfl) | exact hg1.cell (v := .int .i64 v) (by first | (go_simp; done) | (go_simp; rfl)) (by simp [Value.ownBlock])) (by simp <;> omega) (by have := hB1.size; first | omega | (simp <;> omega)) ?_; intro v2 w2 ho2 hb2 hg2; have hB2 : Below wr.heap.size wr w2 := Below.trans (by assumption) hb2)
          | (refine step_appsI (by rfl) _ _ (by rfl) wr.heap.size _ ([] ++ xs.take xs.length ++ [v]) (xs.drop xs.length) _ ho2 (by rfl) b o2 _ _ (by show Value.slice (ite _ _ _) _ _ = _; rw [HO2.out.1]) (by simp <;> omega) (fun j hj => by (have hj' : xs.length + j < xs.length := by simp at hj <;> omega); rw [nth_drop, show o2 + j = o + (xs.length + j) from by (have e := HO2.out.2 (by omega); omega)]; exact HC _ (by assumption) _ hj') (by simp <;> omega) hB2.size ?_; intro v3 w3 ho3 hb3 hg3; have hB3 : Below wr.heap.size wr w3 := hB2.trans hb3)
          | fail)
      all_goals
        have HE : [] ++ xs.take xs.length ++ [v] ++ xs.drop xs.length = putI xs v := by rw [HP.out]; simp
        rw [HE] at ho3
        have HO3 := Lib.hid ho3
        have HB3 := Lib.hid hB3
        clear HC HE ho1 ho2 ho3 OC
        go_wp2_with fail
        all_goals obtain ⟨A, c3, rfl, h1, h2, hi⟩ := HO3.out.ints
        all_goals have hpos : 0 < (putI xs v).length := by rw [HP.out]; simp <;> omega
        all_goals obtain ⟨b3, o3, rfl, _⟩ := hi hpos
        all_goals go_ret
        all_goals exact ⟨b3, o3, c3, rfl, hi.mono (Zone.new_le hB (Nat.le_refl _)), h1, h2, HB3.out⟩

end Go.Proofs.Ytambgommeannnaa
