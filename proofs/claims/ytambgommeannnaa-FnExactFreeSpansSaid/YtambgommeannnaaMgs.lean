/- mergeSpans: the walk. -/
import Derived.Test.YtambgommeannnaaSrt
import Derived.Test.YtambgommeannnaaOwr
import Derived.Test.YtambgommeannnaaSmg
import Derived.Test.YtambgommeannnaaSpn
import Derived.Test.YtambgommeannnaaSpv
import Derived.Test.YtambgommeannnaaShelf
namespace Go.Proofs.Ytambgommeannnaa
open Go.ChangeShapes Go.WideShapes Go.ChangeAt Go.RowKit Go.PlainAid
open Go.Sort (HoldsK SWO PermIn SortedIn grow)
set_option linter.unusedVariables false
set_option linter.unusedSimpArgs false

abbrev OwnS (w : World) (B : Nat) (v : Value) (xs : List I2) : Prop := OwnE 82 2 encI2 w B v xs
theorem encI2_cell (y : I2) : ∀ u ∈ encI2 y, u.oneCell' = true := fun u hu => by
  simp [encI2] at hu
  rcases hu with rfl | rfl <;> rfl
theorem wp_appS {ops : Array Oper} {rest : List Oper} {o : Oper} {a : Act} {Q : Exit → Act → World → Prop} (hgd : o.guard = none) (s x : Operand)
    (ho : o.op = .call { callee := .builtin .append, args := #[s, x], argTypes := #[72, 72] })
    (B : Nat) (v : Value) (xs : List I2) (y : I2) (w : World) (hown : OwnS w B v xs) (hs : a.eval s = v) (n : Nat) (hx : a.eval x = .slice (some ⟨n, 0, none⟩) 1 1) (hnw : n = w.heap.size) (hl : xs.length ≤ 16777216) (hB : B ≤ w.heap.size)
    (h : ∀ v' w', OwnS w' B v' (xs ++ [y]) → Below B w w' → wpList Try.prog ops Q rest (a.put o.dst v') w') : wpList Try.prog ops Q (o :: rest) a (w.alloc (.cells #[.int .i64 y.a, .int .i64 y.b] 82)) := by
  obtain ⟨i0, hi, hz0, hz1, hz2⟩ := info_parts Try.infoSpan
  exact wp_app hgd s x 72 ho 16 Try.underlying72 hi hz0 hz1 hz2 rfl (by omega) (fun _ => rfl) encI2_cell (by omega) B v xs y _ w rfl hs n hx hnw hown hl hB h
/-- How spans are compared. -/
def spC (x y : I2) : Int := Lib.compareInt x.a y.a
theorem spC_lt (x y : I2) : ltOf spC x y = decide (x.a < y.a) := by
  unfold ltOf spC Lib.compareInt
  by_cases h1 : x.a < y.a
  · simp [h1]
  · by_cases h2 : y.a < x.a <;> simp [h1, h2]
theorem spC_swo : SWO (ltOf spC) where
  irrefl x := by rw [spC_lt]; simp
  trans x y z h1 h2 := by rw [spC_lt] at *; simp at *; omega
  ntrans x y z h1 h2 := by rw [spC_lt] at *; simp at *; omega
set_option maxHeartbeats 1000000 in
theorem spCmp_any (x y : I2) (W : World) : Calls Try.prog 170 #[.agg #[.int .i64 x.a, .int .i64 x.b], .agg #[.int .i64 y.a, .int .i64 y.b]] W fun e w' => e = .returned (.int .i64 (spC x y)) ∧ ∃ q os', w' = grow (W.drewN q) os' := by
  have hcon := fun W' => AnyG.cmp_Compare_int Try.laysCmpInt x.a y.a W'
  change ∀ W', Calls Try.prog 149 _ _ _ at hcon
  unfold spC
  generalize Lib.compareInt x.a y.a = r at hcon ⊢
  go_enter Try.func170, Try.ntmps170
  go_wp2_with (go_at_call 149; refine (hcon _).mono ?_; rintro e w' ⟨rfl, rfl⟩)
  go_ret
  exact ⟨rfl, 0, _, by rw [Go.Sort.alloc_eq_grow, Go.Sort.alloc_eq_grow, Go.Sort.grow_grow]; rfl⟩
theorem spCmp_lays (blk off size : Nat) (w : World) : CmpLays Try.prog 170 #[] encI2 2 spC blk off size w := fun _ _ _ _ x y => spCmp_any x y _
/-- Clone of spans. -/
theorem cloneSpans_any (b o c : Nat) (xs : List I2) (w : World) (h : I2sIn w (Zone.below w.heap.size) (some ⟨b, o, none⟩) xs) (hn : xs.length ≤ 1048576) :
    Calls Try.prog 168 #[.slice (some ⟨b, o, none⟩) xs.length c] w fun e w' => ∃ v, e = .returned v ∧ OwnS w' w.heap.size v xs ∧ Below w.heap.size w w' := by
  obtain ⟨i0, hi, hz0, hz1, hz2⟩ := info_parts Try.infoSpan
  have hc := AnyE.slices_Clone Try.laysCloneSpan i0 _ 2 16 hi hz0 hz1 hz2 rfl (by omega) Try.sizeOf82 b o xs.length c (xs.flatMap encI2) w (flat_len (m := 2) (enc := encI2) (fun _ => rfl) xs) (by unfold maxLen; omega) (by omega)
    (fun j u hj => by
      have hl : j < xs.length * 2 := by have := (List.getElem?_eq_some_iff.1 hj).1; rw [flat_len (m := 2) (enc := encI2) (fun _ => rfl) xs] at this; exact this
      obtain ⟨b', o', e, hb, d0, d1⟩ := I2sIn.at h (k := j / 2) (by omega)
      simp only [Option.some.injEq, Addr.mk.injEq, and_true] at e
      obtain ⟨rfl, rfl⟩ := e
      have hf := flat_get (m := 2) (enc := encI2) (fun _ => rfl) xs (j / 2) (j % 2) (by omega) (by omega)
      rw [show j / 2 * 2 + j % 2 = j by omega] at hf
      rw [hf] at hj
      have hmod : j % 2 = 0 ∨ j % 2 = 1 := by omega
      rcases hmod with hm | hm
      · rw [hm] at hj
        rw [show o + j = o + j / 2 * 2 by omega, d0]
        exact hj
      · rw [hm] at hj
        rw [show o + j = o + j / 2 * 2 + 1 by omega, d1]
        exact hj)
    (fun u hu => by
      obtain ⟨y, _, hy⟩ := List.mem_flatMap.1 hu
      exact encI2_cell y u hy)
  change Calls Try.prog 168 _ _ _ at hc
  exact hc.mono fun e w' ⟨v, he, ho, _, hb⟩ => ⟨v, he, ho, hb⟩
/-- The spans, sorted. -/
theorem sortSpans_any (B : Nat) (v : Value) (xs : List I2) (w : World) (h : OwnS w B v xs) (hB : B ≤ w.heap.size) (hn : xs.length ≤ 1048576) :
    Calls Try.prog 169 #[v, .func (.func 170) #[] #[]] w fun e w' => e = .returned (.tuple #[]) ∧ ∃ ys A c, v = .slice A ys.length c ∧ ys.length = xs.length ∧ (∀ s, s ∈ ys ↔ s ∈ xs) ∧ Asc2 ys ∧ I2sIn w' (Zone.new B w'.heap.size) A ys ∧ Below B w w' := by
  by_cases h0 : 0 < xs.length
  · obtain ⟨g, o, cap, rfl, hBg, hlt, hc1, hc2, hH, hf⟩ := h.holds (fun _ => rfl) h0
    have eg : ∀ args w, (callFunc 170 args).run Try.prog w = .ok (.enter 170 args) w := enters_of Try.func170 (by kernel_rfl) rfl
    have hcon := AnyQ.slices_SortFunc Try.laysSortSpan 2 Try.isAgg82 Try.sizeOf82 encI2 (fun _ => rfl) encI2_cell spC spC_swo 170 #[] g o cap xs.toArray w eg (spCmp_lays g o _ w) hH hlt (by simp; omega)
    change Calls Try.prog 169 _ _ _ at hcon
    have e0 : xs.toArray.size = xs.length := by simp
    rw [e0] at hcon
    refine hcon.mono ?_
    rintro e w' ⟨he, d', n, os, hp, hs, rfl⟩
    have hp' : PermIn 0 xs.toArray.size xs.toArray d' := by rw [e0]; exact hp
    have hperm := permIn_perm hp'
    have hsz : d'.size = xs.length := by rw [hp.1]; simp
    have hll : d'.toList.length = xs.length := by simpa using hsz
    refine ⟨he, d'.toList, some ⟨g, o, none⟩, cap, by rw [hll], hll, fun s => by have := hperm.mem_iff (a := s); simpa using this, fun i j hij hj => ?_, ?_, sw_below w g o n d' os hBg hB⟩
    · rw [hll] at hj
      by_cases e : i = j
      · subst e; exact Int.le_refl _
      · have h1 := sortedIn_at hs (i := i) (j := j) (by omega) hj (by omega)
        rw [spC_lt] at h1
        have h2 := of_decide_eq_false h1
        show (d'.toList.getD i default).a ≤ (d'.toList.getD j default).a
        omega
    · refine HoldsK.sl (k := 2) (enc := encI2) (holdsK_sortWorldK_c encI2 2 w g o xs.toArray d' n os hH hlt (by rw [hsz]; simp)) ⟨hBg, Nat.lt_of_lt_of_le hlt (sw_size w g o n d' os)⟩ (fun j => by rw [sw_frozen _ _ _ _ _ _ _ hlt]; exact hf j) (fun j => rfl) (fun _ => rfl) (fun w Z b o y hc => ⟨hc 0 (by omega), hc 1 (by omega)⟩)
  · have hx : xs = [] := List.eq_nil_of_length_eq_zero (by omega)
    subst hx
    obtain ⟨A, c, rfl, _, _, _⟩ := h.i2s
    have hcon := AnyF.slices_SortFunc_none { Try.laysSortSpan with } A c (.func (.func 170) #[] #[]) w
    change Calls Try.prog 169 _ _ _ at hcon
    exact hcon.mono fun e w' ⟨he, hw⟩ => ⟨he, [], A, c, rfl, rfl, fun s => Iff.rfl, fun i j _ hj => by simp at hj, fun h => by simp at h, by rw [hw]; exact Below.refl _ _⟩
end Go.Proofs.Ytambgommeannnaa
