/- The reference's search for a way: what it answers. -/
import Derived.Test.YtemhcobjhpifpaaSwc
import Derived.Test.YtemhcobjhpifpaaOwr
import Derived.Test.YtemhcobjhpifpaaRet
namespace Go.Proofs.Ytemhcobjhpifpaa
open Go.ChangeShapes Go.WideShapes Go.ChangeAt Go.RowKit Go.PlainAid
set_option linter.unusedVariables false
set_option linter.unusedSimpArgs false

def iL (l : List Nat) : List Int := l.map (fun x : Nat => (x : Int))
theorem iL_len (l : List Nat) : (iL l).length = l.length := by simp [iL]
theorem iL_nth {l : List Nat} {k : Nat} (h : k < l.length) : nth (iL l) k = ((l.getD k 0 : Nat) : Int) := by
  unfold nth iL
  rw [List.getD_eq_getElem?_getD, List.getElem?_map, List.getD_eq_getElem?_getD, List.getElem?_eq_getElem h]
  rfl
theorem iL_app (l : List Nat) (s : Nat) : iL (l ++ [s]) = iL l ++ [(s : Int)] := by simp [iL]
theorem iL_mem {l : List Nat} {s : Nat} : hasB (iL l) (s : Int) = true ↔ s ∈ l := by
  rw [hasB_iff]
  unfold iL
  rw [List.mem_map]
  constructor
  · rintro ⟨a, ha, e⟩
    rwa [show s = a by omega]
  · intro h
    exact ⟨s, h, rfl⟩
/-- append(v, ys..) of what lies in another slice. -/
theorem wp_appsW {α : Type} {e : TypeId} {m : Nat} {enc : α → List Value} {P : Program} {ops : Array Oper} {rest : List Oper} {o : Oper} {a : Act} {Q : Exit → Act → World → Prop} (hgd : o.guard = none) (s x : Operand) (t : TypeId)
    (ho : o.op = .call { callee := .builtin .append, args := #[s, x], argTypes := #[t, t] }) (bytes : Nat) {z : Value} {i0 : TypeInfo} (ht : P.underlying t = some (.slice e)) (hi : P.info? e = some i0) (hz : i0.zero = some z) (hsize : i0.size = m) (hby : i0.bytes = bytes) (hzs : z.cells.size = m) (hsz : 0 < m)
    (hm : ∀ y, (enc y).length = m) (h1 : ∀ y, ∀ u ∈ enc y, u.oneCell' = true) (hb16 : bytes ≤ 1024)
    (B : Nat) (v : Value) (xs ys : List α) (w : World) (hown : OwnE e m enc w B v xs) (hs : a.eval s = v) (b i c n : Nat) (hx : a.eval x = .slice (some ⟨b, i, none⟩) n c) (hn : ys.length = n)
    (hc : ∀ j u, (ys.flatMap enc)[j]? = some u → w.cell? ⟨b, i + j, none⟩ = some u) (hl : xs.length + ys.length ≤ 16777216) (hB : B ≤ w.heap.size)
    (h : ∀ v' w', OwnE e m enc w' B v' (xs ++ ys) → Below B w w' → wpList P ops Q rest (a.put o.dst v') w') : wpList P ops Q (o :: rest) a w := by
  subst hn
  refine wpList_append_own _ hgd s x t ho B e i0 z m bytes ht hi hz hsize hby hzs hsz v xs.length (xs.flatMap enc) hs hown ⟨b, i, none⟩ ys.length c (ys.flatMap enc) hx (flat_len hm ys) (fun j u hj => ?_) (fun u hu => ?_) (by unfold maxLen; omega) ?_ hB (fun v' w' ho' hg _ => ?_)
  · rw [show (⟨b, i, none⟩ : Addr).add j = ⟨b, i + j, none⟩ by unfold Addr.add; split <;> simp_all]
    exact hc j u hj
  · obtain ⟨y, _, hu⟩ := List.mem_flatMap.1 hu
    exact h1 y u hu
  · have : (xs.length + ys.length) * bytes ≤ 16777216 * 1024 := Nat.mul_le_mul hl hb16
    omega
  · refine h v' w' ?_ ((Below.refl B w).grown hg hB (fun k hk => ((World.ownsRow.lt hown) k hk).1))
    show w'.ownsRow B e m v' (xs ++ ys).length ((xs ++ ys).flatMap enc)
    rw [List.length_append, List.flatMap_append]
    exact ho'
theorem flatI_get (xs : List Int) (j : Nat) (u : Value) (h : (xs.flatMap encI)[j]? = some u) : j < xs.length ∧ u = .int .i64 (nth xs j) := by
  have e : xs.flatMap encI = xs.map fun x => Value.int .i64 x := by
    clear h
    induction xs with
    | nil => rfl
    | cons a r ih => rw [List.flatMap_cons, List.map_cons, ih]; rfl
  rw [e, List.getElem?_map] at h
  cases hq : xs[j]? with
  | none => rw [hq] at h; cases h
  | some v =>
    rw [hq] at h
    simp at h
    obtain ⟨hl, hv⟩ := List.getElem?_eq_some_iff.1 hq
    refine ⟨hl, ?_⟩
    unfold nth
    rw [List.getD_eq_getElem?_getD, hq, ← h]
    rfl
set_option maxHeartbeats 1000000 in
theorem l1OwnW_any (b o c : Nat) (xs : List Int) (w : World) (h : IntsIn w (Zone.below w.heap.size) (some ⟨b, o, none⟩) xs) (h0 : 0 < xs.length) (hn : xs.length ≤ 1048576) :
    Calls Try.prog 40 #[.slice (some ⟨b, o, none⟩) xs.length c] w fun e w' => ∃ v, e = .returned v ∧ OwnI w' w.heap.size v xs ∧ Below w.heap.size w w' := by
  obtain ⟨i0, hi, hz0, hz1, hz2⟩ := info_parts Try.infoI
  have hc : ∀ j u, (xs.flatMap encI)[j]? = some u → (w.alloc (.cells #[] 3)).cell? ⟨b, o + j, none⟩ = some u := fun j u hj => by
    obtain ⟨hl, rfl⟩ := flatI_get _ _ _ hj
    obtain ⟨b', o', e, hb, _, hc⟩ := h (by omega)
    simp only [Option.some.injEq, Addr.mk.injEq, and_true] at e
    obtain ⟨rfl, rfl⟩ := e
    exact (((Below.refl w.heap.size w).alloc (Nat.le_refl _) _).cell (p := ⟨b, _, none⟩) hb).trans (hc j hl)
  have HC := Lib.hid hc
  have HO : Hid (OwnI (w.alloc (.cells #[] 3)) w.heap.size (.slice (some ⟨w.heap.size, 0, none⟩) 0 0) []) := Lib.hid (by simpa using OwnE.empty (e := 3) (m := 1) (enc := encI) (w := w) (Nat.le_refl _))
  have hzw : w.heap.size ≤ (w.alloc (.cells #[] 3)).heap.size := by simp
  have hll : ([] : List Int).length + xs.length ≤ 16777216 := by simp; omega
  clear hc h
  go_enter Try.func40, Try.ntmps40
  go_wp2_with (at_builtin; go_loud (refine wp_appsW rfl _ _ 29 rfl 8 Try.underlying29 hi hz0 hz1 hz2 rfl (by omega) (fun _ => rfl) (fun y u hu => by simp [encI] at hu; subst hu; rfl) (by omega) w.heap.size _ [] xs _ HO.out rfl b o c xs.length rfl rfl HC.out hll hzw ?_; intro v' w' ho' hb'; obtain ⟨A', c', rfl, _, _, _⟩ := OwnE.ints ho'; have HO' := Lib.hid ho'; have HB' := Lib.hid (((Below.refl w.heap.size w).alloc (Nat.le_refl _) (.cells #[] 3)).trans hb'); clear ho' hb'))
  go_ret
  exact ⟨_, rfl, by simpa using HO'.out, HB'.out⟩

theorem scanF_hit {g : Nat → List Nat} {n s : Nat} (hs : s < n) (hg : g s ≠ []) (h : ∀ j, j < s → g j = []) : scanF g n = g s := by
  unfold scanF
  have : (List.range n).find? (fun s => decide (g s ≠ [])) = some s := by
    rw [List.find?_range_eq_some]
    exact ⟨by simp [hg], List.mem_range.2 hs, fun j hj => by simp [h j hj]⟩
  rw [this]
theorem scanF_none {g : Nat → List Nat} {n : Nat} (h : ∀ j, j < n → g j = []) : scanF g n = [] := by
  by_cases hq : scanF g n = []
  · exact hq
  · obtain ⟨s, hs, hg, _⟩ := scanF_ne hq
    exact absurd (h s hs) hg
/-- A list of stops in a slice, from block lo on. -/
def RetW (l : List Nat) (lo : Nat) (w : World) (e : Ending) (w' : World) : Prop :=
  ∃ A c, e = .returned (.slice A l.length c) ∧ IntsIn w' (Zone.new lo w'.heap.size) A (iL l) ∧ Below w.heap.size w w'
theorem retW_nil {lo : Nat} {w w' : World} {l : List Nat} {A : Option Addr} {c : Nat} (h : l = []) (hb : Below w.heap.size w w') : RetW l lo w (.returned (.slice A 0 c)) w' := by
  subst h
  exact ⟨A, c, rfl, fun hx => by simp [iL] at hx, hb⟩
def wG (n : Nat) (xs : List I3) (t k : Nat) (way : List Nat) (a : Nat) (d : Int) (s : Nat) : List Nat := if wmO xs a s < 0 ∨ d < wmO xs a s ∨ s ∈ way then [] else wF n xs t k (way ++ [s]) s (d - wmO xs a s)
theorem wF_succ (n : Nat) (xs : List I3) (t k : Nat) (way : List Nat) (a : Nat) (d : Int) : wF n xs t (k + 1) way a d = scanF (wG n xs t k way a d) n := rfl
theorem wF_zero (n : Nat) (xs : List I3) (t : Nat) (way : List Nat) (a : Nat) (d : Int) : wF n xs t 0 way a d = if a = t ∧ d = 0 then way else [] := rfl

set_option maxRecDepth 100000 in
set_option maxHeartbeats 4000000 in
theorem l7Way_any (n : Nat) (xs : List I3) (V : Option Addr) (cv t : Nat) (hn : n ≤ 8) (hv : xs.length ≤ 1048576) (hw : Wks n xs) : ∀ (k : Nat) (way : List Nat) (a : Nat) (d : Int) (W : Option Addr) (cw lo : Nat) (w : World),
    I3sIn w (Zone.below w.heap.size) V xs → IntsIn w (Zone.new lo w.heap.size) W (iL way) → lo ≤ w.heap.size → k ≤ 50000 → way.length + k ≤ 100000 → 0 < way.length → way.getD (way.length - 1) 0 = a → 0 ≤ d → d ≤ 1000000 →
    Calls Try.prog 21 #[.int .i64 (n : Nat), .slice V xs.length cv, .slice W way.length cw, .int .i64 (t : Nat), .int .i64 (k : Nat), .int .i64 d] w (RetW (wF n xs t k way a d) lo w) := by
  intro k
  induction k with
  | zero =>
    intro way a d W cw lo w hV hW hlo hk hlen hpos hlast hd0 hd1
    obtain ⟨b, o, rfl, hz, _, hc⟩ := hW (by rw [iL_len]; exact hpos)
    have hca : w.cell? ⟨b, o + (way.length - 1), none⟩ = some (.int .i64 (a : Nat)) := by
      have h1 : w.cell? ⟨b, o + (way.length - 1), none⟩ = some (.int .i64 (nth (iL way) (way.length - 1))) := hc _ (by rw [iL_len]; omega)
      rw [h1, iL_nth (by omega), hlast]
    have HWW := Lib.hid hW
    obtain ⟨N, hN⟩ : ∃ N, way.length = N + 1 := ⟨way.length - 1, by omega⟩
    have HNN := Lib.hid hN
    rw [hN, Nat.add_sub_cancel] at hca
    rw [hN]
    have hNb : N ≤ 1000000 := by omega
    clear hW hc hz hV hlast hpos hlen hN
    by_cases h1 : a = t
    · by_cases h2 : d = 0
      · have HR : Hid (wF n xs t 0 way a d = way) := Lib.hid (by rw [wF_zero, if_pos ⟨h1, h2⟩])
        subst h1 h2
        go_enter Try.func21, Try.ntmps21
        go_wp2_with fail
        go_ret
        rw [HR.out]
        exact ⟨_, _, by rw [HNN.out]; rfl, HWW.out, Below.refl _ _⟩
      · have HR : Hid (wF n xs t 0 way a d = []) := Lib.hid (by rw [wF_zero, if_neg (fun h => h2 h.2)])
        have h2b : (d == 0) = false := by simpa using h2
        subst h1
        clear h2
        go_enter Try.func21, Try.ntmps21
        go_wp2_with fail
        go_ret
        exact retW_nil HR.out (by go_grown)
    · have HR : Hid (wF n xs t 0 way a d = []) := Lib.hid (by rw [wF_zero, if_neg (fun h => h1 h.1)])
      have h1b : ((a : Int) == (t : Int)) = false := by simp; omega
      clear h1
      go_enter Try.func21, Try.ntmps21
      go_wp2_with fail
      go_ret
      exact retW_nil HR.out (by go_grown)
  | succ k ih =>
    intro way a d W cw lo w hV hW hlo hk hlen hpos hlast hd0 hd1
    obtain ⟨b, o, rfl, hz, _, hc⟩ := hW (by rw [iL_len]; exact hpos)
    have hca : w.cell? ⟨b, o + (way.length - 1), none⟩ = some (.int .i64 (a : Nat)) := by
      have h1 : w.cell? ⟨b, o + (way.length - 1), none⟩ = some (.int .i64 (nth (iL way) (way.length - 1))) := hc _ (by rw [iL_len]; omega)
      rw [h1, iL_nth (by omega), hlast]
    have HV := Lib.hid hV
    have HWW := Lib.hid hW
    obtain ⟨N, hN⟩ : ∃ N, way.length = N + 1 := ⟨way.length - 1, by omega⟩
    have HNN := Lib.hid hN
    rw [hN, Nat.add_sub_cancel] at hca
    rw [hN]
    have hNb : N ≤ 1000000 := by omega
    have HLS : Hid (∀ s : Nat, (iL way ++ [(s : Int)]).length = N + 1 + 1) := Lib.hid (fun s => by rw [List.length_append, iL_len, hN]; rfl)
    have HLW : Hid (∀ s : Nat, (way ++ [s]).length = N + 1 + 1) := Lib.hid (fun s => by rw [List.length_append, hN]; rfl)
    have HLA : Hid (∀ s : Nat, (way ++ [s]).getD ((way ++ [s]).length - 1) 0 = s) := Lib.hid (fun s => by
      rw [List.getD_eq_getElem?_getD, List.length_append, List.length_singleton, Nat.add_sub_cancel, List.getElem?_append_right (Nat.le_refl _)]
      simp)
    have HLi : Hid ((iL way).length = N + 1) := Lib.hid (by rw [iL_len, hN])
    have hNk : N + 1 + (k + 1) ≤ 100000 := by omega
    have hk1 : ((k : Int) + 1 == 0) = false := by simp; omega
    have hbz : b < w.heap.size := hz.2
    clear hW hc hz hV hlast hpos hlen hN
    rw [wF_succ]
    go_enter Try.func21, Try.ntmps21
    go_wp2_with fail
    go_loopw [14] (fun v wr => ∃ s : Nat, s ≤ n ∧ v = .int .i64 s ∧ (∀ j, j < s → wG n xs t k way a d j = []) ∧ Below w.heap.size w wr) (fun v _ => n - (intOf v).toNat)
    case atStart => exact ⟨0, Nat.zero_le _, rfl, fun j hj => by omega, Below.refl _ _⟩
    case round =>
      obtain ⟨s, hs, rfl, ha, hb⟩ := hrel
      have HA := Lib.hid ha
      have HB := Lib.hid hb
      have hsz := hb.size
      clear ha hb
      obtain ⟨wo, hwo⟩ : ∃ wo, wo = wr := ⟨_, rfl⟩
      rw [← hwo] at HB hsz ⊢
      clear hwo
      by_cases hlt : s < n
      · have hsi : (s : Int) < (n : Int) := by omega
        obtain ⟨mm, hmm⟩ : ∃ mm, mm = wmO xs a s := ⟨_, rfl⟩
        have HM := l7Minutes_any n xs V cv a s wo (HV.out.call HB.out) hw hv
        rw [← hmm] at HM
        have HM := Lib.hid HM
        have HG : Hid (wG n xs t k way a d s = if mm < 0 ∨ d < mm ∨ s ∈ way then [] else wF n xs t k (way ++ [s]) s (d - mm)) := Lib.hid (by rw [hmm]; rfl)
        have HNX : Hid (wG n xs t k way a d s = [] → ∀ j, j < s + 1 → wG n xs t k way a d j = []) := Lib.hid (fun h j hj => by (by_cases e : j = s; (rw [e]; exact h); exact HA.out j (by omega)))
        clear hmm
        go_wp2_with fail
        refine HM.out.mono ?_
        rintro e w4 ⟨rfl, hb4⟩
        have HB4 := Lib.hid (HB.out.trans (hb4.mono hsz))
        have hz4 := hb4.size
        clear hb4
        by_cases m0 : mm < 0
        · have HN := Lib.hid (HNX.out (by rw [HG.out, if_pos (.inl m0)]))
          go_wp2_with fail
          refine ⟨?_, ?measure⟩
          iterate 60 (try apply Exists.intro)
          refine ⟨?rel, ?xx⟩
          case xx => rfl
          case rel => exact ⟨s + 1, by omega, by go_num, HN.out, HB4.out⟩
          case measure => simp [intOf]; omega
        · by_cases m1 : d < mm
          · have HN := Lib.hid (HNX.out (by rw [HG.out, if_pos (.inr (.inl m1))]))
            go_wp2_with fail
            refine ⟨?_, ?measure⟩
            iterate 60 (try apply Exists.intro)
            refine ⟨?rel, ?xx⟩
            case xx => rfl
            case rel => exact ⟨s + 1, by omega, by go_num, HN.out, HB4.out⟩
            case measure => simp [intOf]; omega
          · have HI4 : Hid (IntsIn w4 (Zone.new lo w4.heap.size) (some ⟨b, o, none⟩) (iL way)) := Lib.hid ((HWW.out.new_call HB4.out (Nat.le_refl _)).mono (Zone.new_le (Nat.le_refl _) HB4.out.size))
            have HHas := l1Has_any (some ⟨b, o, none⟩) cw (iL way) (s : Int) w4 (IntsIn.at (HI4.out.to_below (Nat.le_refl _))) (by rw [HLi.out]; omega)
            rw [HLi.out] at HHas
            cases hin : hasB (iL way) (s : Int)
            · rw [hin] at HHas
              have HHas := Lib.hid HHas
              have hnin : s ∉ way := fun h => by rw [iL_mem.2 h] at hin; cases hin
              have HG2 : Hid (wG n xs t k way a d s = wF n xs t k (way ++ [s]) s (d - mm)) := Lib.hid (by rw [HG.out, if_neg (by rintro (q | q | q); exact m0 q; exact m1 q; exact hnin q)])
              have HOw := l1OwnW_any b o cw (iL way) w4 (HI4.out.to_below (Nat.le_refl _)) (by rw [HLi.out]; omega) (by rw [HLi.out]; omega)
              rw [HLi.out] at HOw
              have HOw := Lib.hid HOw
              clear hin hnin
              go_wp2_with fail
              refine HHas.out.mono ?_
              rintro e w5 ⟨rfl, rfl⟩
              go_wp2_with fail
              refine HOw.out.mono ?_
              rintro e w6 ⟨v6, rfl, ho6, hb6⟩
              obtain ⟨A6, c6, e6, _, _, _⟩ := OwnE.ints ho6
              rw [HLi.out] at e6
              subst e6
              have HO6 := Lib.hid ho6
              have HB6 := Lib.hid (HB4.out.trans (hb6.mono (by omega)))
              have hz6 := hb6.size
              have hlw : (iL way).length ≤ 16777216 := by rw [HLi.out]; omega
              clear ho6 hb6
              go_wp2_with (at_builtin; go_loud (refine wp_appI rfl _ _ rfl w4.heap.size _ (iL way) (s : Int) _ HO6.out rfl _ rfl (by simp) hlw hz6 ?_; intro v' w' ho' hb'; obtain ⟨A7, c7, e7, _, _, hi7⟩ := OwnE.ints ho'; rw [HLS.out] at e7; subst e7; have HI7 := Lib.hid hi7; have HB7 := Lib.hid (HB6.out.trans (hb'.mono (by omega))); have hz7 := hb'.size; clear ho' hb' hi7))
              have HIH := ih (way ++ [s]) s (d - mm) A7 c7 lo w' (HV.out.call HB7.out) (by rw [iL_app]; exact HI7.out.mono (Zone.new_le (show lo ≤ w4.heap.size by omega) (Nat.le_refl _))) (by omega) (by omega) (by rw [HLW.out]; omega) (by rw [HLW.out]; omega) (HLA.out s) (by omega) (by omega)
              rw [HLW.out, ← HG2.out] at HIH
              obtain ⟨r, hr⟩ : ∃ r, r = wG n xs t k way a d s := ⟨_, rfl⟩
              rw [← hr] at HIH
              have HRR := Lib.hid hr
              clear hr
              refine HIH.mono ?_
              rintro e w8 ⟨A8, c8, rfl, hi8, hb8⟩
              have HI8 := Lib.hid hi8
              have HB8 := Lib.hid (HB7.out.trans (hb8.mono (by omega)))
              clear hi8 hb8 HIH
              by_cases hr0 : r.length = 0
              · have HN := Lib.hid (HNX.out (by rw [← HRR.out]; exact List.length_eq_zero_iff.1 hr0))
                have hr0i : ¬ ((0 : Int) < (r.length : Int)) := by omega
                clear hr0
                go_wp2_with fail
                refine ⟨?_, ?measure⟩
                iterate 60 (try apply Exists.intro)
                refine ⟨?rel, ?xx⟩
                case xx => rfl
                case rel => exact ⟨s + 1, by omega, by go_num, HN.out, HB8.out⟩
                case measure => simp [intOf]; omega
              · have hr0i : (0 : Int) < (r.length : Int) := by omega
                have HRS : Hid (scanF (wG n xs t k way a d) n = r) := Lib.hid (by
                  rw [scanF_hit hlt (by rw [← HRR.out]; intro e; exact hr0 (by rw [e]; rfl)) HA.out, ← HRR.out])
                clear hr0
                go_wp2_with fail
                go_ret
                rw [HRS.out]
                exact ⟨A8, c8, rfl, HI8.out, HB8.out⟩
            · rw [hin] at HHas
              have HHas := Lib.hid HHas
              have HN := Lib.hid (HNX.out (by rw [HG.out, if_pos (.inr (.inr (iL_mem.1 hin)))]))
              clear hin
              go_wp2_with fail
              refine HHas.out.mono ?_
              rintro e w5 ⟨rfl, rfl⟩
              go_wp2_with fail
              refine ⟨?_, ?measure⟩
              iterate 60 (try apply Exists.intro)
              refine ⟨?rel, ?xx⟩
              case xx => rfl
              case rel => exact ⟨s + 1, by omega, by go_num, HN.out, HB4.out⟩
              case measure => simp [intOf]; omega
      · obtain rfl : s = n := by omega
        have HR := Lib.hid (scanF_none HA.out)
        go_wp2_with fail
        go_ret
        exact retW_nil HR.out (HB.out.alloc hsz _)
end Go.Proofs.Ytemhcobjhpifpaa
