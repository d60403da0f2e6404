/- Headways: the reference's starts. -/
import Derived.Test.YtambgommeannnaaHdp
import Derived.Test.YtambgommeannnaaPut
import Derived.Test.YtambgommeannnaaStt
import Derived.Maps.AppendAt
import Derived.BigQuiet
namespace Go.Proofs.Ytambgommeannnaa
open Go.ChangeShapes Go.WideShapes Go.ChangeAt Go.RowKit Go.PlainAid
set_option linter.unusedVariables false
set_option linter.unusedSimpArgs false

/-- append(v, ys...) of integers, at a step of a drawn region; where the new slice lies. -/
theorem step_appsIX {ops : Array Oper} {o : Oper} {a : Act} {K : Act → World → Prop} {Q : Exit → Act → World → Prop} {E : Prop} (hgd : o.guard = none) (s x : Operand)
    (ho : o.op = .call { callee := .builtin .append, args := #[s, x], argTypes := #[22, 22] })
    (B : Nat) (v : Value) (xs ys : List Int) (w : World) (hown : OwnI w B v xs) (hs : a.eval s = v) (b i c n : Nat) (hx : a.eval x = .slice (some ⟨b, i, none⟩) n c) (hn : ys.length = n)
    (hc : ∀ j, j < ys.length → w.cell? ⟨b, i + j, none⟩ = some (.int .i64 (nth ys j))) (hl : xs.length + ys.length ≤ 16777216) (hB : B ≤ w.heap.size)
    (h : ∀ v' w', OwnI w' B v' (xs ++ ys) → Below B w w' → w.grownBy w' v.ownBlock → (v'.ownBlock = v.ownBlock ∨ v'.ownBlock = some w.heap.size) → K (a.put o.dst v') w') :
    if Region.wanted o (yielded ops a.tmps) = true then Oper.wp Try.prog o a w K Q else E := by
  have hw : Region.wanted o (yielded ops a.tmps) = true := by simp [Region.wanted, hgd]
  rw [if_pos hw]
  subst hn
  obtain ⟨i0, hi, hz0, hz1, hz2⟩ := info_parts Try.infoI
  obtain ⟨v', w', hr, h2, h3, h4, h5⟩ := run_append_own_at (P := Try.prog) w B 22 o.type 3 i0 _ 1 8 Try.underlying22 hi hz0 hz1 hz2 rfl (by omega) v xs.length (xs.flatMap encI) hown ⟨b, i, none⟩ ys.length c (ys.flatMap encI) (by rw [flat_int_len]; omega) (fun j u hj => by
    obtain ⟨h1, rfl⟩ := flat_int ys j u hj
    rw [show (⟨b, i, none⟩ : Addr).add j = ⟨b, i + j, none⟩ by unfold Addr.add; split <;> simp_all]
    exact hc j h1) (fun u hu => by
    obtain ⟨y, _, hu⟩ := List.mem_flatMap.1 hu
    simp [encI] at hu
    subst hu
    rfl) (by unfold maxLen; omega) (by omega) hB
  unfold Oper.wp execOp
  simp only [ho, resolve, invoke, builtin, Sem.run_bind, Sem.run_pure, Result.andThen_ok, List.map_toArray, List.map_cons, List.map_nil, hs, hx, hr]
  refine h v' w' ?_ ((Below.refl B w).grown h3 hB (fun k hk => ((World.ownsRow.lt hown) k hk).1)) h3 h5
  show w'.ownsRow B 3 1 v' (xs ++ ys).length ((xs ++ ys).flatMap encI)
  rw [List.length_append, List.flatMap_append]
  exact h2
theorem OwnE.drew1 {α : Type} {e : TypeId} {m : Nat} {enc : α → List Value} {w : World} {B : Nat} {v : Value} {xs : List α} (h : OwnE e m enc w B v xs) : OwnE e m enc w.drew B v xs := h
/-- Below M the world is as it was, and so is block X. -/
def Stay (X M : Nat) (w w' : World) : Prop := Below M w w' ∧ ∀ o, w'.cell? ⟨X, o, none⟩ = w.cell? ⟨X, o, none⟩
section
variable {X M : Nat} {w w' w'' : World}
theorem Stay.refl (X M : Nat) (w : World) : Stay X M w w := ⟨Below.refl _ _, fun _ => rfl⟩
theorem Stay.trans (h : Stay X M w w') (k : Stay X M w' w'') : Stay X M w w'' := ⟨h.1.trans k.1, fun o => (k.2 o).trans (h.2 o)⟩
theorem Stay.drew (h : Stay X M w w') : Stay X M w w'.drew := ⟨h.1.drew, h.2⟩
theorem Stay.drewN (h : Stay X M w w') (n : Nat) : Stay X M w (w'.drewN n) := ⟨bel_drewN h.1 n, h.2⟩
theorem Stay.alloc (h : Stay X M w w') (hM : M ≤ w.heap.size) (hX : X < w.heap.size) (o : Obj) : Stay X M w (w'.alloc o) :=
  ⟨h.1.alloc (Nat.le_trans hM h.1.size) o, fun i => (((Below.refl w'.heap.size w').alloc (Nat.le_refl _) o).cell (p := ⟨X, i, none⟩) (Nat.lt_of_lt_of_le hX h.1.size)).trans (h.2 i)⟩
theorem Stay.grown {v : Value} (h : Stay X M w w') (hb : Below M w' w'') (hg : w'.grownBy w'' v.ownBlock) (hv : v.ownBlock ≠ some X) (hX : X < w'.heap.size) : Stay X M w w'' :=
  ⟨h.1.trans hb, fun i => (World.cell?_of_block (a := ⟨X, i, none⟩) (hg.block X hX (fun e => hv e.symm))).trans (h.2 i)⟩
theorem Stay.below {B : Nat} (h : Below B w w') (hM : M ≤ B) (hX : X < B) : Stay X M w w' := ⟨h.mono hM, fun i => h.cell (p := ⟨X, i, none⟩) hX⟩
end

set_option maxRecDepth 100000 in
set_option maxHeartbeats 4000000 in
theorem l5Starts_any (x : TTD) (A L T : Option Addr) (ca cl ct : Nat) (l : Int) (w : World) (hA : StrsIn w (Zone.below w.heap.size) A x.net.stops) (hL : LinesIn w (Zone.below w.heap.size) L x.net.lines) (hT : I3sIn w (Zone.below w.heap.size) T x.trips) (hn : x.trips.length ≤ 12) :
    Calls Try.prog 138 #[.agg #[.slice A x.net.stops.length ca, .slice L x.net.lines.length cl, .slice T x.trips.length ct], .int .i64 l] w (RetI1 (stF x l x.trips.length) w) := by
  have H0' : Hid (TtBox w (w.alloc (.cells #[.slice A x.net.stops.length ca, .slice L x.net.lines.length cl, .slice T x.trips.length ct] 49)) w.heap.size x A ca L cl T ct) := Lib.hid (TtBox.box hA hL hT)
  have H0 : Hid (TtBox w ((w.alloc (.cells #[.slice A x.net.stops.length ca, .slice L x.net.lines.length cl, .slice T x.trips.length ct] 49)).alloc (.cells #[] 3)) w.heap.size x A ca L cl T ct) := Lib.hid (H0'.out.call (by go_grown))
  have hz0 : w.heap.size + 1 ≤ ((w.alloc (.cells #[.slice A x.net.stops.length ca, .slice L x.net.lines.length cl, .slice T x.trips.length ct] 49)).alloc (.cells #[] 3)).heap.size := by simp
  have I0 : Hid (IntsIn ((w.alloc (.cells #[.slice A x.net.stops.length ca, .slice L x.net.lines.length cl, .slice T x.trips.length ct] 49)).alloc (.cells #[] 3)) (Zone.new (w.heap.size + 1) ((w.alloc (.cells #[.slice A x.net.stops.length ca, .slice L x.net.lines.length cl, .slice T x.trips.length ct] 49)).alloc (.cells #[] 3)).heap.size) (some ⟨w.heap.size + 1, 0, none⟩) []) := Lib.hid (fun h => by simp at h)
  clear H0' hA hL hT
  go_enter Try.func138, Try.ntmps138
  go_wp2_with fail
  generalize ((w.alloc (.cells #[.slice A x.net.stops.length ca, .slice L x.net.lines.length cl, .slice T x.trips.length ct] 49)).alloc (.cells #[] 3)) = w0 at *
  go_loopw [5, 6, 7] (fun v i _ wr => ∃ k b o c : Nat, k ≤ x.trips.length ∧ i = .int .i64 k ∧ v = .slice (some ⟨b, o, none⟩) (stF x l k).length c ∧ (stF x l k).length ≤ c ∧ c ≤ 9223372036854775807 ∧ IntsIn wr (Zone.new (w.heap.size + 1) wr.heap.size) (some ⟨b, o, none⟩) (stF x l k) ∧ Below (w.heap.size + 1) w0 wr) (fun _ i _ _ => x.trips.length - (intOf i).toNat)
  case atStart => exact ⟨0, w.heap.size + 1, 0, 0, Nat.zero_le _, rfl, rfl, Nat.le_refl _, by omega, I0.out, Below.refl _ _⟩
  case round =>
    obtain ⟨k, b, o, c, hk, rfl, rfl, hc1, hc2, hi, hb⟩ := hrel
    have HI := Lib.hid hi
    have H3 := Lib.hid (H0.out.callB hb (Nat.lt_succ_self _))
    have HB := Lib.hid hb
    have hz3 : w.heap.size + 1 ≤ wr.heap.size := Nat.le_trans hz0 hb.size
    have hxl := stF_len x l k
    clear hi hb
    obtain ⟨c0, c1, c2⟩ := H3.out.cells
    by_cases hlt : k < x.trips.length
    · obtain ⟨b2, o2, rfl, hbl, d0, d1, d2⟩ := I3sIn.at H3.out.trips hlt
      have hik : (k : Int) < (x.trips.length : Int) := by omega
      have hb2l : b2 < wr.heap.size := hbl
      clear hbl
      obtain ⟨y, hy⟩ : ∃ y, y = nth3 x.trips k := ⟨_, rfl⟩
      rw [← hy] at d0 d1 d2
      have HY3 := Lib.hid hy
      clear hy
      obtain ⟨ya, yb, yc⟩ := y
      simp only [] at d0 d1 d2
      by_cases t1 : yb = l
      · subst t1
        have HF : Hid (stF x yb (k + 1) = insG gtI (stF x yb k) yc) := Lib.hid (by rw [stF_yes (by rw [← HY3.out]), ← HY3.out])
        obtain ⟨xs, hxs⟩ : ∃ xs, xs = stF x yb k := ⟨_, rfl⟩
        rw [← hxs] at HF HI hc1 hxl ⊢
        clear hxs
        go_wp2_with fail
        clear c0 c1 c2 d0 d1
        obtain ⟨wo, rfl⟩ : ∃ wo : World, wo = wr := ⟨_, rfl⟩
        have HD2 := Lib.hid d2
        clear d2
        go_loopw [7] (fun a wz => ∃ m : Nat, m ≤ xs.length ∧ a = .int .i64 m ∧ posG gtI xs yc xs.length = posG gtI xs yc m ∧ Dr wo wz) (fun a _ => (intOf a).toNat)
        case atStart => exact ⟨xs.length, Nat.le_refl _, rfl, rfl, Dr.refl _⟩
        case round =>
          obtain ⟨m, hm, rfl, hp, hd⟩ := hrel
          have H4 := Lib.hid (H3.out.callB (hd.below _) (Nat.lt_succ_self _))
          have I4 : Hid (IntsIn wr (Zone.new (w.heap.size + 1) wr.heap.size) (some ⟨b, o, none⟩) xs) := Lib.hid (by obtain ⟨q, rfl⟩ := hd; exact HI.out)
          have HB4 := Lib.hid (HB.out.trans (hd.below _))
          have hz4 : w.heap.size + 1 ≤ wr.heap.size := Nat.le_trans hz3 (hd.below 0).size
          have hb24 : b2 < wr.heap.size := Nat.lt_of_lt_of_le hb2l (hd.below 0).size
          have d2 : wr.cell? ⟨b2, o2 + k * 3 + 2, none⟩ = some (.int .i64 yc) := by obtain ⟨q, rfl⟩ := hd; exact HD2.out
          have HDR := Lib.hid hd
          have hmc : (m : Int) ≤ (c : Int) := by omega
          have hml : (m : Int) ≤ (xs.length : Int) := by omega
          have hlc : (xs.length : Int) ≤ (c : Int) := by omega
          have hm0i : (0 : Int) ≤ (m : Int) := by omega
          obtain ⟨c0, c1, c2⟩ := H4.out.cells
          clear hd
          by_cases h0 : 0 < m
          · obtain ⟨m', hm'⟩ : ∃ m', m = m' + 1 := ⟨m - 1, by omega⟩
            have HM' := Lib.hid hm'
            have hk' : m' < xs.length := by omega
            have hik' : (m' : Int) < (xs.length : Int) := by omega
            have hw : IntKind.i64.wrap ((m : Int) - 1) = (m' : Int) := by rw [IntWalk.i64_in _ (by omega)]; omega
            obtain ⟨b', o', e, _, hcx⟩ := (IntsIn.at (I4.out.to_below (Nat.le_refl _))).get hk'
            simp only [Option.some.injEq, Addr.mk.injEq, and_true] at e
            obtain ⟨rfl, rfl⟩ := e
            by_cases t2 : yc < nth xs m'
            · have HP := Lib.hid (show posG gtI xs yc xs.length = posG gtI xs yc m' by rw [hp, hm']; exact posG_yes (by unfold gtI; exact decide_eq_true t2))
              clear hp hm'
              go_wp2_with fail
              go_quiet (fail)
              go_wp2_with fail
              go_roundw
              case rel => exact ⟨m', by omega, by go_num, HP.out, HDR.out.drewN _⟩
              case measure => have := HM'.out; simp [intOf]; omega
            · have HP := Lib.hid (show posG gtI xs yc xs.length = m by rw [hp, hm']; exact posG_no (by unfold gtI; exact decide_eq_false t2))
              clear hp hm'
              go_wp2_with fail
              go_quiet (fail)
              go_wp2_with fail
              have H5 := Lib.hid (H4.out.call (bel_drewN (Below.refl _ _) nq))
              have I5 : Hid (IntsIn (wr.drewN nq) (Zone.new (w.heap.size + 1) (wr.drewN nq).heap.size) (some ⟨b, o, none⟩) xs) := Lib.hid I4.out
              have HB5 := Lib.hid (bel_drewN HB4.out nq)
              have hz5 : w.heap.size + 1 ≤ (wr.drewN nq).heap.size := hz4
              have e2 : (wr.drewN nq).cell? ⟨b2, o2 + k * 3 + 2, none⟩ = some (.int .i64 yc) := d2
              have hb25 : b2 < (wr.drewN nq).heap.size := hb24
              clear c0 c1 c2 d2 H4 I4 HB4 hz4 hb24
              generalize wr.drewN nq = w5 at *
              obtain ⟨f0, f1, f2⟩ := H5.out.cells
              have hgr5 : w.heap.size < w5.heap.size := by omega
              have hC : ∀ w', Below w5.heap.size w5 w' → w'.cell? ⟨w.heap.size, 2, none⟩ = some (.slice (some ⟨b2, o2, none⟩) x.trips.length ct) ∧ w'.cell? ⟨b2, o2 + k * 3 + 2, none⟩ = some (.int .i64 yc) := fun w' h => ⟨(h.cell (p := ⟨w.heap.size, 2, none⟩) hgr5).trans f2, (h.cell (p := ⟨b2, _, none⟩) hb25).trans e2⟩
              have HC : ∀ w', Below w5.heap.size w5 w' → ∀ j, j < xs.length → w'.cell? ⟨b, o + j, none⟩ = some (.int .i64 (nth xs j)) := fun w' h j hj => by
                obtain ⟨b', o', e, hz, _, h'⟩ := I5.out (by omega)
                simp only [Option.some.injEq, Addr.mk.injEq, and_true] at e
                obtain ⟨rfl, rfl⟩ := e
                exact (h.cell (p := ⟨b, _, none⟩) hz.2).trans (h' j hj)
              clear f0 f1 f2 e2
              have OC : OwnI ((w5.alloc (.cells #[.int .i64 yc] 3)).alloc (.cells #[] 3)) w5.heap.size (.slice (some ⟨w5.heap.size + 1, 0, none⟩) 0 0) [] := by simpa using OwnE.empty (e := 3) (m := 1) (enc := encI) (B := w5.heap.size) (w := w5.alloc (.cells #[.int .i64 yc] 3)) (by simp)
              obtain ⟨o2', ho2⟩ : ∃ o2 : Nat, (if c = m then some (⟨b, o, none⟩ : Addr) else some ⟨b, o + m, none⟩) = some ⟨b, o2, none⟩ ∧ (m < xs.length → o2 = o + m) := by
                by_cases e : c = m
                · exact ⟨o, if_pos e, fun h => by omega⟩
                · exact ⟨o + m, if_neg e, fun _ => rfl⟩
              have HO2 := Lib.hid ho2
              clear ho2
              go_region_held3 (fun w' => Below w5.heap.size w5 w') (repeat' first | assumption | exact Nat.le_refl _ | exact Below.refl _ _ | (refine bel_drew ?_) | (refine bel_alloc ?_ _) | (refine bel_set ?_ ?_ _))
                (first
                  | (refine step_appsI (by rfl) _ _ (by rfl) w5.heap.size _ [] (xs.take m) _ (by first | with_reducible exact OwnE.drew1 (OwnE.empty (w := w5) (Nat.le_refl _)) | with_reducible exact OwnE.drew1 (OwnE.alloc (OwnE.empty (w := w5) (Nat.le_refl _)) _) | with_reducible exact OwnE.drew1 OC) (by rfl) b o _ _ (by rfl) (by simp <;> omega) (fun j hj => by rw [nth_take (by simp at hj; omega)]; exact HC _ (by assumption) j (by simp at hj; omega)) (by simp <;> omega) (by simp <;> omega) ?_; intro v1 w1 ho1 hb1 hg1; have hB1 : Below w5.heap.size w5 w1 := Below.trans (by assumption) hb1)
                  | (refine step_appsI (by rfl) _ _ (by rfl) w5.heap.size _ ([] ++ xs.take m) [yc] _ (by first | exact ho1 | exact OwnE.call ho1 (by (repeat' first | exact Below.refl _ _ | exact Nat.le_refl _ | (refine bel_drew ?_) | (refine bel_alloc ?_ _)))) (by rfl) _ 0 1 1 (by rfl) (by rfl) (fun j hj => by (obtain rfl : j = 0 := by simpa using hj); first | (go_simp; done) | (go_simp; rfl) | exact hg1.cell (v := .int .i64 yc) (by first | (go_simp; done) | (go_simp; rfl)) (by simp [Value.ownBlock])) (by simp <;> omega) (by have := hB1.size; first | omega | (simp <;> omega)) ?_; intro v2 w2 ho2 hb2 hg2; have hB2 : Below w5.heap.size w5 w2 := Below.trans (by assumption) hb2)
                  | (refine step_appsI (by rfl) _ _ (by rfl) w5.heap.size _ ([] ++ xs.take m ++ [yc]) (xs.drop m) _ ho2 (by rfl) b o2' _ _ (by show Value.slice (ite _ _ _) _ _ = _; rw [HO2.out.1]) (by simp <;> omega) (fun j hj => by (have hj' : m + j < xs.length := by simp at hj <;> omega); rw [nth_drop, show o2' + j = o + (m + j) from by (have e := HO2.out.2 (by omega); omega)]; exact HC _ (by assumption) _ hj') (by simp <;> omega) hB2.size ?_; intro v3 w3 ho3 hb3 hg3; have hB3 : Below w5.heap.size w5 w3 := hB2.trans hb3)
                  | fail)
              all_goals
                have HE : [] ++ xs.take m ++ [yc] ++ xs.drop m = insG gtI xs yc := by unfold insG; rw [HP.out]; simp
                rw [HE] at ho3
                have HO3 := Lib.hid ho3
                have HB3 := Lib.hid (HB5.out.trans (hB3.mono hz5))
                have hil := insG_len gtI xs yc
                clear HC HE ho1 ho2 ho3 OC hC
                obtain ⟨A, c3, rfl, h1, h2, hi⟩ := HO3.out.ints
                obtain ⟨b3, o3, rfl, _⟩ := hi (by omega)
                have HI3 := Lib.hid (hi.mono (Zone.new_le hz5 (Nat.le_refl _)))
                have HIL := Lib.hid hil
                clear hi hil
                go_wp2_with fail
                go_roundw
                case rel => exact ⟨k + 1, b3, o3, c3, by omega, by go_num, by rw [HF.out], by rw [HF.out]; exact h1, h2, by rw [HF.out]; exact HI3.out, HB3.out⟩
                case measure => simp [intOf]; omega
          · have HP := Lib.hid (show posG gtI xs yc xs.length = m by rw [hp]; (have := posG_le gtI xs yc m; omega))
            have g0 : decide (0 < m) = false := decide_eq_false h0
            clear hp
            go_wp2_with fail
            go_quiet (fail)
            go_wp2_with fail
            have H5 := Lib.hid (H4.out.call (bel_drewN (Below.refl _ _) nq))
            have I5 : Hid (IntsIn (wr.drewN nq) (Zone.new (w.heap.size + 1) (wr.drewN nq).heap.size) (some ⟨b, o, none⟩) xs) := Lib.hid I4.out
            have HB5 := Lib.hid (bel_drewN HB4.out nq)
            have hz5 : w.heap.size + 1 ≤ (wr.drewN nq).heap.size := hz4
            have e2 : (wr.drewN nq).cell? ⟨b2, o2 + k * 3 + 2, none⟩ = some (.int .i64 yc) := d2
            have hb25 : b2 < (wr.drewN nq).heap.size := hb24
            clear c0 c1 c2 d2 H4 I4 HB4 hz4 hb24
            generalize wr.drewN nq = w5 at *
            obtain ⟨f0, f1, f2⟩ := H5.out.cells
            have hgr5 : w.heap.size < w5.heap.size := by omega
            have hC : ∀ w', Below w5.heap.size w5 w' → w'.cell? ⟨w.heap.size, 2, none⟩ = some (.slice (some ⟨b2, o2, none⟩) x.trips.length ct) ∧ w'.cell? ⟨b2, o2 + k * 3 + 2, none⟩ = some (.int .i64 yc) := fun w' h => ⟨(h.cell (p := ⟨w.heap.size, 2, none⟩) hgr5).trans f2, (h.cell (p := ⟨b2, _, none⟩) hb25).trans e2⟩
            have HC : ∀ w', Below w5.heap.size w5 w' → ∀ j, j < xs.length → w'.cell? ⟨b, o + j, none⟩ = some (.int .i64 (nth xs j)) := fun w' h j hj => by
              obtain ⟨b', o', e, hz, _, h'⟩ := I5.out (by omega)
              simp only [Option.some.injEq, Addr.mk.injEq, and_true] at e
              obtain ⟨rfl, rfl⟩ := e
              exact (h.cell (p := ⟨b, _, none⟩) hz.2).trans (h' j hj)
            clear f0 f1 f2 e2
            have OC : OwnI ((w5.alloc (.cells #[.int .i64 yc] 3)).alloc (.cells #[] 3)) w5.heap.size (.slice (some ⟨w5.heap.size + 1, 0, none⟩) 0 0) [] := by simpa using OwnE.empty (e := 3) (m := 1) (enc := encI) (B := w5.heap.size) (w := w5.alloc (.cells #[.int .i64 yc] 3)) (by simp)
            obtain ⟨o2', ho2⟩ : ∃ o2 : Nat, (if c = m then some (⟨b, o, none⟩ : Addr) else some ⟨b, o + m, none⟩) = some ⟨b, o2, none⟩ ∧ (m < xs.length → o2 = o + m) := by
              by_cases e : c = m
              · exact ⟨o, if_pos e, fun h => by omega⟩
              · exact ⟨o + m, if_neg e, fun _ => rfl⟩
            have HO2 := Lib.hid ho2
            clear ho2
            go_region_held3 (fun w' => Below w5.heap.size w5 w') (repeat' first | assumption | exact Nat.le_refl _ | exact Below.refl _ _ | (refine bel_drew ?_) | (refine bel_alloc ?_ _) | (refine bel_set ?_ ?_ _))
              (first
                | (refine step_appsI (by rfl) _ _ (by rfl) w5.heap.size _ [] (xs.take m) _ (by first | with_reducible exact OwnE.drew1 (OwnE.empty (w := w5) (Nat.le_refl _)) | with_reducible exact OwnE.drew1 (OwnE.alloc (OwnE.empty (w := w5) (Nat.le_refl _)) _) | with_reducible exact OwnE.drew1 OC) (by rfl) b o _ _ (by rfl) (by simp <;> omega) (fun j hj => by rw [nth_take (by simp at hj; omega)]; exact HC _ (by assumption) j (by simp at hj; omega)) (by simp <;> omega) (by simp <;> omega) ?_; intro v1 w1 ho1 hb1 hg1; have hB1 : Below w5.heap.size w5 w1 := Below.trans (by assumption) hb1)
                | (refine step_appsI (by rfl) _ _ (by rfl) w5.heap.size _ ([] ++ xs.take m) [yc] _ (by first | exact ho1 | exact OwnE.call ho1 (by (repeat' first | exact Below.refl _ _ | exact Nat.le_refl _ | (refine bel_drew ?_) | (refine bel_alloc ?_ _)))) (by rfl) _ 0 1 1 (by rfl) (by rfl) (fun j hj => by (obtain rfl : j = 0 := by simpa using hj); first | (go_simp; done) | (go_simp; rfl) | exact hg1.cell (v := .int .i64 yc) (by first | (go_simp; done) | (go_simp; rfl)) (by simp [Value.ownBlock])) (by simp <;> omega) (by have := hB1.size; first | omega | (simp <;> omega)) ?_; intro v2 w2 ho2 hb2 hg2; have hB2 : Below w5.heap.size w5 w2 := Below.trans (by assumption) hb2)
                | (refine step_appsI (by rfl) _ _ (by rfl) w5.heap.size _ ([] ++ xs.take m ++ [yc]) (xs.drop m) _ ho2 (by rfl) b o2' _ _ (by show Value.slice (ite _ _ _) _ _ = _; rw [HO2.out.1]) (by simp <;> omega) (fun j hj => by (have hj' : m + j < xs.length := by simp at hj <;> omega); rw [nth_drop, show o2' + j = o + (m + j) from by (have e := HO2.out.2 (by omega); omega)]; exact HC _ (by assumption) _ hj') (by simp <;> omega) hB2.size ?_; intro v3 w3 ho3 hb3 hg3; have hB3 : Below w5.heap.size w5 w3 := hB2.trans hb3)
                | fail)
            all_goals
              have HE : [] ++ xs.take m ++ [yc] ++ xs.drop m = insG gtI xs yc := by unfold insG; rw [HP.out]; simp
              rw [HE] at ho3
              have HO3 := Lib.hid ho3
              have HB3 := Lib.hid (HB5.out.trans (hB3.mono hz5))
              have hil := insG_len gtI xs yc
              clear HC HE ho1 ho2 ho3 OC hC
              obtain ⟨A, c3, rfl, h1, h2, hi⟩ := HO3.out.ints
              obtain ⟨b3, o3, rfl, _⟩ := hi (by omega)
              have HI3 := Lib.hid (hi.mono (Zone.new_le hz5 (Nat.le_refl _)))
              have HIL := Lib.hid hil
              clear hi hil
              go_wp2_with fail
              go_roundw
              case rel => exact ⟨k + 1, b3, o3, c3, by omega, by go_num, by rw [HF.out], by rw [HF.out]; exact h1, h2, by rw [HF.out]; exact HI3.out, HB3.out⟩
              case measure => simp [intOf]; omega
      · have HF : Hid (stF x l (k + 1) = stF x l k) := Lib.hid (stF_no (by rw [← HY3.out]; exact t1))
        have HC12 := Lib.hid (And.intro hc1 hc2)
        clear hc1 hc2
        go_wp2_with fail
        go_roundw
        case rel => exact ⟨k + 1, b, o, c, by omega, by go_num, by rw [HF.out], by rw [HF.out]; exact HC12.out.1, HC12.out.2, by rw [HF.out]; exact HI.out, HB.out⟩
        case measure => simp [intOf]; omega
    · obtain rfl : k = x.trips.length := by omega
      go_wp2_with fail
      go_ret
      exact ⟨some ⟨b, o, none⟩, c, rfl, HI.out.mono (Zone.new_le (by omega) (Nat.le_refl _)), H3.out.bel⟩

end Go.Proofs.Ytambgommeannnaa
