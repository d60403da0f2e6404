/- A list from behind; a copied network, open to appends. -/
import Derived.Test.YtambgommeannnaaNog
import Derived.Shelf.SlicesE.Reverse
import Derived.Test.YtambgommeannnaaShelh
import Derived.Test.YtambgommeannnaaNev
namespace Go.Proofs.Ytambgommeannnaa

/-! ### A list from behind: the reference's. -/
section
open Go.ChangeShapes Go.WideShapes Go.ChangeAt Go.RowKit Go.PlainAid
set_option linter.unusedVariables false
set_option linter.unusedSimpArgs false

def bkL (xs : List Int) (k : Nat) : List Int := (xs.drop k).reverse
theorem bkL_end (xs : List Int) : bkL xs xs.length = [] := by unfold bkL; simp
theorem bkL_zero (xs : List Int) : bkL xs 0 = xs.reverse := rfl
theorem bkL_length (xs : List Int) (k : Nat) : (bkL xs k).length = xs.length - k := by unfold bkL; simp
theorem bkL_step {xs : List Int} {k : Nat} (hk : k < xs.length) : bkL xs (k + 1) ++ [nth xs k] = bkL xs k := by
  unfold bkL nth
  rw [List.drop_eq_getElem_cons hk, List.reverse_cons, List.getD_eq_getElem?_getD, List.getElem?_eq_getElem hk]
  rfl
set_option maxRecDepth 100000 in
set_option maxHeartbeats 1000000 in
theorem l2Back_any (b o c : Nat) (xs : List Int) (w : World) (h : IntsIn w (Zone.below w.heap.size) (some ⟨b, o, none⟩) xs) (h0 : 0 < xs.length) (hn : xs.length ≤ 1048576) :
    Calls Try.prog 107 #[.slice (some ⟨b, o, none⟩) xs.length c] w fun e w' => ∃ g cap, e = .returned (.slice (some ⟨g, 0, none⟩) xs.length cap) ∧ OwnI w' w.heap.size (.slice (some ⟨g, 0, none⟩) xs.length cap) xs.reverse ∧ Below w.heap.size w w' := by
  have hcc : ∀ j, j < xs.length → b < w.heap.size ∧ w.cell? ⟨b, o + j, none⟩ = some (.int .i64 (nth xs j)) := by
    intro j hj
    obtain ⟨b', o', e, hz, _, hx⟩ := h (by omega)
    simp at e
    obtain ⟨rfl, rfl⟩ := e
    exact ⟨hz, hx j hj⟩
  have HO : Hid (OwnI (w.alloc (.cells #[] 3)) w.heap.size (.slice (some ⟨w.heap.size, 0, none⟩) 0 0) (bkL xs xs.length)) := Lib.hid (by rw [bkL_end]; simpa using OwnE.empty (e := 3) (m := 1) (enc := encI) (w := w) (Nat.le_refl _))
  have HB0 : Hid (Below w.heap.size w (w.alloc (.cells #[] 3))) := Lib.hid ((Below.refl _ _).alloc (Nat.le_refl _) _)
  have HCC := Lib.hid hcc
  clear h hcc
  go_enter Try.func107, Try.ntmps107
  go_wp2_with fail
  go_loopw [3, 4] (fun v i wr => ∃ k : Nat, k ≤ xs.length ∧ i = .int .i64 ((k : Int) - 1) ∧ OwnI wr w.heap.size v (bkL xs k) ∧ Below w.heap.size w wr) (fun _ i _ => (intOf i + 1).toNat)
  case atStart => exact ⟨xs.length, Nat.le_refl _, by first | rfl | go_num, HO.out, HB0.out⟩
  case round =>
    obtain ⟨k, hk, rfl, ho, hb⟩ := hrel
    have HOV := Lib.hid ho
    have HB := Lib.hid hb
    have hz := hb.size
    rcases Nat.eq_zero_or_pos k with rfl | hk0
    · obtain ⟨g, cap, rfl⟩ := own_some ho (by rw [bkL_length]; omega)
      clear ho hb
      rw [show (((0 : Nat) : Int) - 1) = -1 by rfl]
      go_wp2_with fail
      go_ret
      refine ⟨g, cap, by rw [bkL_length]; rfl, ?_, HB.out⟩
      have := HOV.out
      rw [bkL_length, bkL_zero] at this
      exact this
    · obtain ⟨m, rfl⟩ : ∃ m, k = m + 1 := ⟨k - 1, by omega⟩
      obtain ⟨hbl, hq⟩ := HCC.out m (by omega)
      have hck : wr.cell? ⟨b, o + m, none⟩ = some (.int .i64 (nth xs m)) := (hb.cell (p := ⟨b, _, none⟩) hbl).trans hq
      have hm1 : (m : Int) < (xs.length : Int) := by omega
      have hm0 : (0 : Int) ≤ (m : Int) := by omega
      have hll : (bkL xs (m + 1)).length ≤ 16777216 := by rw [bkL_length]; omega
      have HS := Lib.hid (bkL_step (xs := xs) (k := m) (by omega))
      rw [show (((m + 1 : Nat) : Int) - 1) = (m : Int) by omega]
      clear ho hb hq
      go_wp2_with (at_builtin; go_loud (refine wp_appI rfl _ _ rfl w.heap.size _ (bkL xs (m + 1)) (nth xs m) _ HOV.out rfl _ rfl (by simp) hll hz ?_; intro v' w' ho' hb'; rw [HS.out] at ho'; have HO' := Lib.hid ho'; have HB' := Lib.hid (HB.out.trans hb'); clear ho' hb'))
      go_roundw
      case rel => exact ⟨m, by omega, by first | rfl | go_num, HO'.out, HB'.out⟩
      case measure => simp [intOf] <;> omega
end

/-! ### slices.Reverse of integers in a block of the call's own. -/
section
open Go.ChangeShapes Go.WideShapes Go.ChangeAt Go.RowKit Go.PlainAid
set_option linter.unusedVariables false
set_option linter.unusedSimpArgs false

theorem getBangI {α : Type} [Inhabited α] {xs : List α} {i : Nat} (h : i < xs.length) : xs.toArray[i]! = xs.getD i default := by
  rw [getElem!_pos xs.toArray i (by simpa using h), List.getElem_toArray, List.getD_eq_getElem?_getD, List.getElem?_eq_getElem h]
  rfl
theorem holds_ints {w : World} {g : Nat} {xs : List Int} (h : IntsIn w (Zone.one g) (some ⟨g, 0, none⟩) xs) (h0 : 0 < xs.length) : Go.Sort.Holds (Value.int .i64) w g 0 xs.toArray := fun j hj => by
  obtain ⟨b, o, e, hz, hf, hc⟩ := h h0
  simp only [Option.some.injEq, Addr.mk.injEq, and_true] at e
  obtain ⟨rfl, rfl⟩ := e
  have hj' : j < xs.length := by simpa using hj
  refine ⟨(hc j hj').trans ?_, hf trivial _⟩
  rw [show (xs.toArray)[j]! = xs.getD j default by rw [← getBangI hj']]
theorem reverseI_any (g cap : Nat) (xs : List Int) (w : World) (h : IntsIn w (Zone.one g) (some ⟨g, 0, none⟩) xs) (h0 : 0 < xs.length) (hn : xs.length ≤ 1048576) (hg : g < w.heap.size) :
    Calls Try.prog 113 #[.slice (some ⟨g, 0, none⟩) xs.length cap] w fun e w' => e = .returned (.tuple #[]) ∧ IntsIn w' (Zone.one g) (some ⟨g, 0, none⟩) xs.reverse ∧ (∀ X, X ≠ g → w'.heap[X]? = w.heap[X]?) ∧ w'.heap.size = w.heap.size ∧ Below g w w' := by
  have hH := holds_ints h h0
  have hc := AnyE.slices_Reverse Try.laysReverseIntE (Value.int .i64) (fun _ => rfl) g 0 cap xs w hH (by omega)
  change Calls Try.prog 113 _ _ _ at hc
  refine hc.mono ?_
  rintro e w' ⟨rfl, n, rfl⟩
  have hb : ∀ X, X ≠ g → (Go.Sort.putRow (Value.int .i64) (Go.Sort.ahead w n) g 0 xs.reverse.toArray).heap[X]? = w.heap[X]? := fun X hX => by
    unfold Go.Sort.putRow Go.Sort.mapBlock
    simp only [Array.getElem?_modify]
    rw [if_neg (fun e => hX e.symm)]
    rfl
  have hs : (Go.Sort.putRow (Value.int .i64) (Go.Sort.ahead w n) g 0 xs.reverse.toArray).heap.size = w.heap.size := by
    unfold Go.Sort.putRow Go.Sort.mapBlock
    simp [Go.Sort.ahead]
  refine ⟨rfl, fun _ => ⟨g, 0, rfl, ⟨Nat.le_refl _, Nat.lt_succ_self _⟩, fun _ j => ?_, fun j hj => ?_⟩, hb, hs, ⟨rfl, rfl, rfl, by rw [hs]; exact Nat.le_refl _, fun j hj => hb j (by omega)⟩⟩
  · obtain ⟨b, o, e, hz, hf, _⟩ := h h0
    simp only [Option.some.injEq, Addr.mk.injEq, and_true] at e
    obtain ⟨rfl, rfl⟩ := e
    rw [Go.Sort.frozen?_putRow, Go.Sort.frozen?_ahead]
    exact hf trivial _
  · have hj' : j < xs.reverse.toArray.size := by simpa using hj
    have := Go.Sort.cell?_putRow (Value.int .i64) (Go.Sort.ahead w n) g 0 xs.toArray xs.reverse.toArray (Go.Sort.holds_ahead _ _ _ _ _ _ hH) (by simp) j hj'
    refine this.trans ?_
    rw [show (xs.reverse.toArray)[j]! = xs.reverse.getD j default by rw [← getBangI (by simpa using hj)]]
end

/-! ### A copied network, open to appends. -/
section
open Go.ChangeShapes Go.WideShapes Go.ChangeAt Go.RowKit Go.PlainAid
set_option linter.unusedVariables false
set_option linter.unusedSimpArgs false

/-- The line j of x as cells. -/
def lvR (x : NetD) (p r : Nat → Nat) (f : Nat → Nat × Nat) (j : Nat) : LV := ⟨(nthL x.lines j).name, p j, (nthL x.lines j).stops.length, (f j).1, r j, (nthL x.lines j).runs.length, (f j).2⟩
def lvs (x : NetD) (p r : Nat → Nat) (f : Nat → Nat × Nat) : List LV := (List.range x.lines.length).map (lvR x p r f)
theorem lvs_length (x : NetD) (p r : Nat → Nat) (f : Nat → Nat × Nat) : (lvs x p r f).length = x.lines.length := by simp [lvs]
theorem lvs_at {x : NetD} {p r : Nat → Nat} {f : Nat → Nat × Nat} {j : Nat} (hj : j < x.lines.length) : atV (lvs x p r f) j = lvR x p r f j := by
  unfold atV lvs
  rw [List.getD_eq_getElem?_getD, List.getElem?_map, List.getElem?_range hj]
  rfl
theorem nval_of {x : NetD} {w : World} {B gs g : Nat} {p r : Nat → Nat} (h : NOwn w B w.heap.size x (some ⟨gs, 0, none⟩) (some ⟨g, 0, none⟩) gs g p r) (ha : NAdr w x g p r) (hl : x.lines.length ≤ maxLen) : ∃ ys, NVal w B x gs (.slice (some ⟨g, 0, none⟩) x.lines.length x.lines.length) ys := by
  obtain ⟨f, hf⟩ : ∃ f : Nat → Nat × Nat, ∀ j, j < x.lines.length → w.cell? ⟨g, j * 3 + 1, none⟩ = some (.slice (some ⟨p j, 0, none⟩) (nthL x.lines j).stops.length (f j).1) ∧ w.cell? ⟨g, j * 3 + 2, none⟩ = some (.slice (some ⟨r j, 0, none⟩) (nthL x.lines j).runs.length (f j).2) :=
    ⟨fun j => if hj : j < x.lines.length then ((ha.adr j hj).choose, (ha.adr j hj).choose_spec.choose) else (0, 0), fun j hj => by
      simp only [hj, dif_pos]
      exact (ha.adr j hj).choose_spec.choose_spec⟩
  obtain ⟨cells, hr⟩ := ha.raw hl
  have hlen := hr.1
  have hce : cells = (lvs x p r f).flatMap encLV := by
    apply List.ext_getElem?
    intro i
    by_cases hi : i < x.lines.length * 3
    · have h3 : i / 3 < x.lines.length := by omega
      have e : i = i / 3 * 3 + i % 3 := by omega
      have hm3 : i % 3 < 3 := by omega
      rw [← World.ownsRow.cellAt hr i hi]
      generalize hq : i / 3 = q at *
      generalize hs : i % 3 = s at *
      subst e
      rw [flat_get (enc := encLV) (m := 3) (fun _ => rfl) (lvs x p r f) q s (by rw [lvs_length]; exact h3) hm3]
      have hat : (lvs x p r f).getD q default = lvR x p r f q := lvs_at h3
      rw [hat]
      obtain ⟨S, cs, R, cr, n0, n1, n2, _⟩ := h.lines.each q h3
      have : s = 0 ∨ s = 1 ∨ s = 2 := by omega
      rcases this with rfl | rfl | rfl
      · exact n0
      · exact (hf q h3).1
      · exact (hf q h3).2
    · rw [List.getElem?_eq_none (by omega), List.getElem?_eq_none (by rw [flat_len (m := 3) (fun _ => rfl), lvs_length]; omega)]
  have hap := h.apart
  have hof := h.off
  refine ⟨lvs x p r f, h.stops, h.s0, h.s1, ⟨?_, lvs_length x p r f, fun j hj => ?_, fun j hj => ?_, fun i j hi hj hij => ?_, fun i j hi hj hij => ?_, fun i j hi hj => ?_⟩, fun e => ?_, fun j hj => ?_⟩
  · unfold OwnE
    rw [lvs_length, ← hce]
    obtain ⟨h1, h2⟩ := hr
    refine ⟨h1, ?_⟩
    rcases h2 with h2 | ⟨g', cap, cur, hv, hg, hh, rr⟩
    · exact Or.inl h2
    · have hv' := hv
      simp only [Value.slice.injEq, Option.some.injEq, Addr.mk.injEq, and_true, true_and] at hv'
      obtain ⟨rfl, rfl⟩ := hv'
      exact Or.inr ⟨g, _, cur, hv, hap.g0, hh, rr⟩
  · rw [lvs_at hj]
    obtain ⟨S, cs, R, cr, n0, n1, n2, i1, i2, c1, c2⟩ := h.lines.each j hj
    have e1 := n1.symm.trans (hf j hj).1
    have e2 := n2.symm.trans (hf j hj).2
    simp only [Option.some.injEq, Value.slice.injEq] at e1 e2
    obtain ⟨rfl, _, rfl⟩ := e1
    obtain ⟨rfl, _, rfl⟩ := e2
    exact ⟨rfl, rfl, rfl, i1, i2, c1, c2⟩
  · rw [lvs_at hj]
    have a := hap.p0 j hj
    have b := hap.r0 j hj
    refine ⟨⟨a.1, a.2.1, fun e => a.2.2 ?_⟩, b.1, b.2.1, fun e => b.2.2 ?_⟩
    · exact (Option.some.inj e).symm
    · exact (Option.some.inj e).symm
  · rw [lvs_at hi, lvs_at hj]; exact hap.pp i j hi hj hij
  · rw [lvs_at hi, lvs_at hj]; exact hap.rr i j hi hj hij
  · rw [lvs_at hi, lvs_at hj]; exact hap.pr i j hi hj
  · exact hof.1 (Option.some.inj e).symm
  · rw [lvs_at hj]
    exact ⟨Ne.symm (hof.2 j hj).1, Ne.symm (hof.2 j hj).2⟩
theorem RetNetA.v {x : NetD} {w w' : World} {e : Ending} (h : RetNetA x w e w') (hl : x.lines.length ≤ 1048576) : RetNetV x w e w' := by
  obtain ⟨gs, ks, g, p, r, rfl, h1, h2, h3⟩ := h
  obtain ⟨ys, hv⟩ := nval_of h1 h2 (by unfold maxLen; omega)
  exact ⟨gs, ks, g, _, ys, rfl, hv, h3⟩
end

/-! ### One more line to a network of the call's own. -/
section
open Go.ChangeShapes Go.WideShapes Go.ChangeAt Go.RowKit Go.PlainAid
set_option linter.unusedVariables false
set_option linter.unusedSimpArgs false

theorem LvOwn.cast {w : World} {B : Nat} {v : Value} {xs xs' : List LineD} {ys : List LV} {k : Nat} (h : LvOwn w B v xs ys k) (he : ∀ j, j < k → nthL xs' j = nthL xs j) : LvOwn w B v xs' ys k :=
  ⟨h.own, h.len, fun j hj => by rw [he j hj]; exact h.each j hj, h.blk, h.pp, h.rr, h.pr⟩
/-- Block b is none of the slice's, nor its lines'. -/
def OffV (v : Value) (ys : List LV) (k b : Nat) : Prop := v.ownBlock ≠ some b ∧ ∀ j, j < k → (atV ys j).gs ≠ b ∧ (atV ys j).gr ≠ b
theorem LvOwn.off_below {w : World} {B : Nat} {v : Value} {xs : List LineD} {ys : List LV} {k b : Nat} (h : LvOwn w B v xs ys k) (hb : b < B) : OffV v ys k b :=
  ⟨fun e => by have := (World.ownsRow.lt h.own) _ e; omega, fun j hj => by have := h.blk j hj; omega⟩
theorem LvOwn.off_above {w : World} {B : Nat} {v : Value} {xs : List LineD} {ys : List LV} {k b : Nat} (h : LvOwn w B v xs ys k) (hb : w.heap.size ≤ b) : OffV v ys k b :=
  ⟨fun e => by have := (World.ownsRow.lt h.own) _ e; omega, fun j hj => by have := h.blk j hj; omega⟩
theorem LvOwn.stepG {wr wA w8 : World} {B : Nat} {v v8 : Value} {xs : List LineD} {ys : List LV} {k : Nat} {y : LV} (h : LvOwn wr B v xs ys k) (hBr : B ≤ wr.heap.size) (hb : Below wr.heap.size wr wA) (hy : LvAt wA y (nthL xs k)) (hne : y.gs ≠ y.gr) (b1 : B ≤ y.gs ∧ y.gs < wA.heap.size) (b2 : B ≤ y.gr ∧ y.gr < wA.heap.size) (o1 : OffV v ys k y.gs) (o2 : OffV v ys k y.gr)
    (ho : OwnE 113 3 encLV w8 B v8 (ys ++ [y])) (hg : wA.grownBy w8 v.ownBlock) (hat : v8.ownBlock = v.ownBlock ∨ v8.ownBlock = some wA.heap.size) : LvOwn w8 B v8 xs (ys ++ [y]) (k + 1) := by
  have hz := hb.size
  have hz8 := hg.size
  have hl := h.len
  have hkp : ∀ X, X < wA.heap.size → v.ownBlock ≠ some X → Same wA w8 X := fun X hX hne => Same.of_blk (hg.block X hX (fun e => hne e.symm))
  have hv8 : ∀ X, X < wA.heap.size → v.ownBlock ≠ some X → v8.ownBlock ≠ some X := fun X hX hne e => by
    rcases hat with q | q
    · rw [q] at e; exact hne e
    · rw [q] at e; simp at e; omega
  have n1 := o1.1
  have n2 := o2.1
  have hold : ∀ j, j < k → atV (ys ++ [y]) j = atV ys j := fun j hj => atV_old (by omega)
  have hnew : atV (ys ++ [y]) k = y := by rw [← hl]; exact atV_new
  refine ⟨ho, by simp [hl], fun j hj => ?_, fun j hj => ?_, fun i j hi hj hij => ?_, fun i j hi hj hij => ?_, fun i j hi hj => ?_⟩
  · by_cases e : j = k
    · subst e; rw [hnew]; exact hy.keep (hkp _ b1.2 n1) (hkp _ b2.2 n2)
    · have hj' : j < k := by omega
      rw [hold j hj']
      obtain ⟨c1, c2⟩ := h.blk j hj'
      exact (h.each j hj').keep ((Same.of_below hb c1.2.1).trans (hkp _ (by omega) c1.2.2)) ((Same.of_below hb c2.2.1).trans (hkp _ (by omega) c2.2.2))
  · by_cases e : j = k
    · subst e; rw [hnew]; exact ⟨⟨by omega, by omega, hv8 _ b1.2 n1⟩, by omega, by omega, hv8 _ b2.2 n2⟩
    · have hj' : j < k := by omega
      rw [hold j hj']
      obtain ⟨c1, c2⟩ := h.blk j hj'
      exact ⟨⟨c1.1, by omega, hv8 _ (by omega) c1.2.2⟩, c2.1, by omega, hv8 _ (by omega) c2.2.2⟩
  · by_cases ei : i = k
    · have hj' : j < k := by omega
      subst ei; rw [hnew, hold j hj']; exact Ne.symm (o1.2 j hj').1
    · have hi' : i < k := by omega
      rw [hold i hi']
      by_cases ej : j = k
      · subst ej; rw [hnew]; exact (o1.2 i hi').1
      · rw [hold j (by omega)]; exact h.pp i j hi' (by omega) hij
  · by_cases ei : i = k
    · have hj' : j < k := by omega
      subst ei; rw [hnew, hold j hj']; exact Ne.symm (o2.2 j hj').2
    · have hi' : i < k := by omega
      rw [hold i hi']
      by_cases ej : j = k
      · subst ej; rw [hnew]; exact (o2.2 i hi').2
      · rw [hold j (by omega)]; exact h.rr i j hi' (by omega) hij
  · by_cases ei : i = k
    · subst ei; rw [hnew]
      by_cases ej : j = i
      · subst ej; rw [hnew]; exact hne
      · have hj' : j < i := by omega
        rw [hold j hj']; exact Ne.symm (o1.2 j hj').2
    · have hi' : i < k := by omega
      rw [hold i hi']
      by_cases ej : j = k
      · subst ej; rw [hnew]; exact (o2.2 i hi').1
      · rw [hold j (by omega)]; exact h.pr i j hi' (by omega)
theorem nthL_app {xs : List LineD} {l : LineD} {j : Nat} (hj : j < xs.length) : nthL (xs ++ [l]) j = nthL xs j := by
  unfold nthL
  rw [List.getD_eq_getElem?_getD, List.getD_eq_getElem?_getD, List.getElem?_append_left hj]
theorem nthL_new {xs : List LineD} {l : LineD} : nthL (xs ++ [l]) xs.length = l := by
  unfold nthL
  rw [List.getD_eq_getElem?_getD, List.getElem?_append_right (Nat.le_refl _)]
  simp
/-- .. and so is a network with one more line. -/
theorem NVal.add {wr wA w8 : World} {B : Nat} {x : NetD} {gs : Nat} {v v8 : Value} {ys : List LV} {y : LV} {l : LineD} (h : NVal wr B x gs v ys) (hBr : B ≤ wr.heap.size) (hb : Below wr.heap.size wr wA) (hy : LvAt wA y l) (hne : y.gs ≠ y.gr) (b1 : B ≤ y.gs ∧ y.gs < wA.heap.size) (b2 : B ≤ y.gr ∧ y.gr < wA.heap.size) (o1 : OffV v ys x.lines.length y.gs) (o2 : OffV v ys x.lines.length y.gr) (g1 : y.gs ≠ gs) (g2 : y.gr ≠ gs)
    (ho : OwnE 113 3 encLV w8 B v8 (ys ++ [y])) (hg : wA.grownBy w8 v.ownBlock) (hat : v8.ownBlock = v.ownBlock ∨ v8.ownBlock = some wA.heap.size) : NVal w8 B ⟨x.stops, x.lines ++ [l]⟩ gs v8 (ys ++ [y]) := by
  have hz := hb.size
  have hz8 := hg.size
  have hs1 := h.s1
  have hl := h.lv.len
  have hl2 : (x.lines ++ [l]).length = x.lines.length + 1 := by simp
  have hstep := (h.lv.cast (xs' := x.lines ++ [l]) (fun j hj => nthL_app hj)).stepG hBr hb (by rw [nthL_new]; exact hy) hne b1 b2 o1 o2 ho hg hat
  have hkp : Same wA w8 gs := Same.of_blk (hg.block gs (by omega) (fun e => h.offv e.symm))
  refine ⟨h.st.keep fun c hc => by rw [Zone.one_ok hc]; exact (Same.of_below hb hs1).trans hkp, h.s0, by omega, by rw [hl2]; exact hstep, fun e => ?_, fun j hj => ?_⟩
  · rcases hat with q | q
    · rw [q] at e; exact h.offv e
    · rw [q] at e; simp at e; omega
  · rw [hl2] at hj
    by_cases e : j = x.lines.length
    · subst e
      rw [← hl, atV_new]
      exact ⟨g1, g2⟩
    · rw [atV_old (by omega)]
      exact h.off j (by omega)
end

/-! ### A line from behind: the plain law of ReverseLine. -/
section
open Go.ChangeShapes Go.WideShapes Go.ChangeAt Go.RowKit Go.PlainAid
set_option linter.unusedVariables false
set_option linter.unusedSimpArgs false

/-- What a valid network is large. -/
structure NetX (x : NetD) : Prop where
  s : 2 ≤ x.stops.length ∧ x.stops.length ≤ 8
  l : 1 ≤ x.lines.length ∧ x.lines.length ≤ 5
  sn : ∀ k, k < x.stops.length → (nthS x.stops k).size ≤ 8
  ln : ∀ k, k < x.lines.length → (nthL x.lines k).name.size ≤ 8 ∧ 2 ≤ (nthL x.lines k).stops.length ∧ (nthL x.lines k).stops.length ≤ 6 ∧ (nthL x.lines k).runs.length + 1 = (nthL x.lines k).stops.length
theorem nm_size {xs : List ByteArray} (h : namesB xs = true) {k : Nat} (hk : k < xs.length) : (nthS xs k).size ≤ 8 := by
  have h1 : AreNames xs := of_decide_eq_true h
  have h2 : IsName (nthS xs k) := of_decide_eq_true (h1 k hk).1
  exact h2.2.1
theorem netX_of {x : NetD} (h : netB x = true) : NetX x := by
  have n := netB_ok h
  have hs := inB_iff.mp n.stops
  have hl := inB_iff.mp n.lines
  refine ⟨⟨by omega, by omega⟩, ⟨by omega, by omega⟩, fun k hk => nm_size n.names hk, fun i hi => ?_⟩
  have ln : LineOk x.stops.length (nthL x.lines i) := of_decide_eq_true (n.each i hi)
  have hd := ln.1
  unfold LineHd at hd
  refine ⟨?_, hd.1, hd.2.1, hd.2.2⟩
  have h1 := nm_size n.lnames (k := i) (by rw [namesOf_length]; exact hi)
  rw [nthS_names hi] at h1
  exact h1
theorem upto_bound (f : Nat → Nat) (c : Nat) : ∀ n : Nat, (∀ k, k < n → f k ≤ c) → upto f n ≤ n * c
  | 0, _ => by simp [upto]
  | n + 1, h => by
    have h1 := upto_bound f c n (fun k hk => h k (by omega))
    have h2 := h n (by omega)
    show upto f n + f n ≤ (n + 1) * c
    rw [Nat.succ_mul]
    omega
theorem NetX.sz {x : NetD} (h : NetX x) : szNet x ≤ 1048576 := by
  have h1 := upto_bound (fun j => (nthS x.stops j).size) 8 x.stops.length h.sn
  have h2 := upto_bound (fun j => szLn (nthL x.lines j)) 20 x.lines.length (fun k hk => by
    have := h.ln k hk
    show (nthL x.lines k).name.size + (nthL x.lines k).stops.length + (nthL x.lines k).runs.length ≤ 20
    omega)
  have := h.s
  have := h.l
  unfold szNet szSs szLns
  omega
def revL (l : LineD) (nm : ByteArray) : LineD := { name := nm, stops := l.stops.reverse, runs := l.runs.reverse }
def revN (x : NetD) (k : Nat) (nm : ByteArray) : NetD := ⟨x.stops, x.lines ++ [revL (nthL x.lines k) nm]⟩
theorem revN_fits {x : NetD} {k : Nat} {nm : ByteArray} (h : NetX x) (hf : Fits x) (hk : k < x.lines.length) (hn : nm.size ≤ 1048576) : Fits (revN x k nm) := by
  have hl := h.l
  have hl2 : (revN x k nm).lines.length = x.lines.length + 1 := by simp [revN]
  refine ⟨hf.stops, by rw [hl2]; omega, hf.names, fun j hj => ?_⟩
  rw [hl2] at hj
  by_cases e : j = x.lines.length
  · subst e
    have := h.ln k hk
    show (nthL (x.lines ++ [revL (nthL x.lines k) nm]) x.lines.length).name.size ≤ _ ∧ _
    unfold revN
    rw [nthL_new]
    refine ⟨hn, ?_, ?_⟩
    · show (nthL x.lines k).stops.reverse.length ≤ _
      rw [List.length_reverse]; omega
    · show (nthL x.lines k).runs.reverse.length ≤ _
      rw [List.length_reverse]; omega
  · unfold revN
    rw [nthL_app (by omega)]
    exact hf.each j (by omega)
/-- What ReverseLine answers. -/
def revR (x : NetD) (i : Int) (nm : ByteArray) : NetD × Bool :=
  if netB x = true ∧ inB i 0 (x.lines.length - 1) = true ∧ netB (revN x i.toNat nm) = true then (revN x i.toNat nm, true) else (⟨[], []⟩, false)
theorem revR_no {x : NetD} {i : Int} {nm : ByteArray} (h : netB x = false ∨ inB i 0 (x.lines.length - 1) = false ∨ netB (revN x i.toNat nm) = false) : revR x i nm = (⟨[], []⟩, false) := by
  unfold revR
  rw [if_neg]
  rintro ⟨h1, h2, h3⟩
  rcases h with h | h | h
  · rw [h1] at h; cases h
  · rw [h2] at h; cases h
  · rw [h3] at h; cases h
theorem revR_yes {x : NetD} {i : Int} {nm : ByteArray} (h1 : netB x = true) (h2 : inB i 0 (x.lines.length - 1) = true) (h3 : netB (revN x i.toNat nm) = true) : revR x i nm = (revN x i.toNat nm, true) := by
  unfold revR
  rw [if_pos ⟨h1, h2, h3⟩]
theorem revR_sz (x : NetD) (i : Int) (nm : ByteArray) : szNet (revR x i nm).1 ≤ 1048576 := by
  unfold revR
  split
  · next h => exact (netX_of h.2.2).sz
  · show szNet ⟨[], []⟩ ≤ _
    rw [szNet_nil ⟨rfl, rfl⟩]
    omega
end
end Go.Proofs.Ytambgommeannnaa
