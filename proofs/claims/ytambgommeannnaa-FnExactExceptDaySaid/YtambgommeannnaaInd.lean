/- slices.Insert and slices.Delete of one integer, at a slice of the call's own. -/
import Derived.Test.YtambgommeannnaaExp
import Derived.Test.YtambgommeannnaaKpt
import Derived.Test.YtambgommeannnaaFiu
import Derived.Test.YtambgommeannnaaShelf
import Derived.Test.YtambgommeannnaaShelg
import Derived.Shelf.Spec.SlicesInsertGrow
import Derived.Lib.RowBridge
import Derived.Laws.IdiomCopy
namespace Go.Proofs.Ytambgommeannnaa
open Go.ChangeShapes Go.WideShapes Go.ChangeAt Go.RowKit Go.PlainAid
set_option linter.unusedVariables false
set_option linter.unusedSimpArgs false

theorem bel_setCells {B b : Nat} {a : World} (hb : B ≤ b) : ∀ (vs : List Value) (o : Nat) (w : World), Below B a w → Below B a (w.setCells b o vs)
  | [], _, _, h => h
  | v :: r, o, _, h => bel_setCells hb r (o + 1) _ (h.setCell (p := ⟨b, o, none⟩) hb v)
theorem sizeSC (b : Nat) : ∀ (vs : List Value) (o : Nat) (w : World), (w.setCells b o vs).heap.size = w.heap.size
  | [], _, _ => rfl
  | v :: r, o, w => by rw [World.setCells, sizeSC b r, size_set]
theorem heap_alloc' (w : World) (o : Obj) : (w.alloc o).heap = w.heap.push o := rfl
theorem frozen_fresh (w : World) (c : Array Value) (t : TypeId) (j : Nat) : (w.alloc (.cells c t)).frozen? ⟨w.heap.size, j, none⟩ = false := by
  unfold World.frozen?
  rw [heap_alloc']
  simp
theorem heap_fresh (w : World) (o : Obj) : (w.alloc o).heap[w.heap.size]? = some o := by rw [heap_alloc']; simp
/-- A list with a number put in. -/
def insL (xs : List Int) (d : Int) (i : Nat) : List Int := xs.take i ++ ([d] ++ xs.drop i)
theorem insL_len {xs : List Int} {d : Int} {i : Nat} (h : i ≤ xs.length) : (insL xs d i).length = xs.length + 1 := by
  unfold insL
  rw [List.length_append, List.length_append, List.length_take, List.length_drop]
  simp
  omega
theorem nth_insL {xs : List Int} {d : Int} {i j : Nat} (h : i ≤ xs.length) : nth (insL xs d i) j = if j < i then nth xs j else if j = i then d else nth xs (j - 1) := by
  have lt : (xs.take i).length = i := by rw [List.length_take]; omega
  by_cases h1 : j < i
  · rw [if_pos h1]
    unfold insL nth
    rw [List.getD_eq_getElem?_getD, List.getElem?_append_left (by omega), List.getElem?_take_of_lt h1, ← List.getD_eq_getElem?_getD]
  · rw [if_neg h1]
    by_cases h2 : j = i
    · rw [if_pos h2]
      unfold insL nth
      rw [List.getD_eq_getElem?_getD, List.getElem?_append_right (by omega), lt, h2, Nat.sub_self]
      rfl
    · rw [if_neg h2]
      unfold insL nth
      rw [List.getD_eq_getElem?_getD, List.getElem?_append_right (by omega), lt, List.getElem?_append_right (by simp; omega), List.getElem?_drop, ← List.getD_eq_getElem?_getD]
      congr 1
      simp
      omega
def csI (xs : List Int) : List Value := xs.map (fun y => Value.int .i64 y)
theorem csI_len (xs : List Int) : (csI xs).length = xs.length := by simp [csI]
theorem csI_get {xs : List Int} {j : Nat} (h : j < xs.length) : (csI xs)[j]? = some (.int .i64 (nth xs j)) := by
  unfold csI nth
  rw [List.getElem?_map, List.getElem?_eq_getElem h, List.getD_eq_getElem?_getD, List.getElem?_eq_getElem h]
  rfl
theorem csI_at {xs : List Int} {j : Nat} (h : j < (csI xs).length) : (csI xs)[j] = .int .i64 (nth xs j) := by
  have := csI_get (xs := xs) (j := j) (by rw [← csI_len]; exact h)
  rw [List.getElem?_eq_getElem h] at this
  simpa using this
theorem csI_some {xs : List Int} {j : Nat} {v : Value} (h : (csI xs)[j]? = some v) : j < xs.length ∧ v = .int .i64 (nth xs j) := by
  have hj : j < xs.length := by have := (List.getElem?_eq_some_iff.1 h).1; rwa [csI_len] at this
  rw [csI_get hj] at h
  exact ⟨hj, by simpa using h.symm⟩
theorem csI_one {xs : List Int} : ∀ v ∈ csI xs, v.oneCell' = true := fun v hv => by
  unfold csI at hv
  obtain ⟨y, _, e⟩ := List.mem_map.1 hv
  subst e
  rfl
theorem csI_drop (xs : List Int) (i : Nat) : (csI xs).drop i = csI (xs.drop i) := by unfold csI; rw [List.map_drop]
theorem csI_take (xs : List Int) (i : Nat) : (csI xs).take i = csI (xs.take i) := by unfold csI; rw [List.map_take]
theorem ints_only {w : World} {a : Nat} {ys : List Int} (h : ∀ j, j < ys.length → w.cell? ⟨a, j, none⟩ = some (.int .i64 (nth ys j))) (hf : ∀ j, w.frozen? ⟨a, j, none⟩ = false) : IntsIn w (Zone.only a) (some ⟨a, 0, none⟩) ys :=
  fun _ => ⟨a, 0, rfl, ⟨Nat.le_refl _, Nat.lt_succ_self _⟩, fun _ => hf, fun j hj => by
    show w.cell? ⟨a, 0 + j, none⟩ = _
    rw [Nat.zero_add]
    exact h j hj⟩
/-- One integer more or less, in a block from B on. -/
def InsR (B : Nat) (ys : List Int) (W : World) (e : Ending) (w' : World) : Prop :=
  ∃ a n c, e = .returned (.slice (some ⟨a, 0, none⟩) n c) ∧ n = ys.length ∧ IntsIn w' (Zone.only a) (some ⟨a, 0, none⟩) ys ∧ B ≤ a ∧ a < w'.heap.size ∧ Below B W w'
set_option maxHeartbeats 1000000 in
theorem ins_any (B g cap i : Nat) (xs : List Int) (d : Int) (w : World) (hown : OwnI w B (.slice (some ⟨g, 0, none⟩) xs.length cap) xs) (hi : i ≤ xs.length) (hn : xs.length ≤ 1048576) (hB : B ≤ w.heap.size) :
    Calls Try.prog 153 #[.slice (some ⟨g, 0, none⟩) xs.length cap, .int .i64 (i : Int), .slice (some ⟨w.heap.size, 0, none⟩) 1 1] (w.alloc (.cells #[.int .i64 d] 3)) (InsR B (insL xs d i) (w.alloc (.cells #[.int .i64 d] 3))) := by
  have hints := hown.ints
  obtain ⟨hlen, hq | ⟨g', cap', cur, hv, hBg, hh, hle, hcap, hsz, _⟩⟩ := hown
  · exact absurd hq.1 (by simp)
  simp only [Value.slice.injEq, Option.some.injEq, Addr.mk.injEq, true_and, and_true] at hv
  obtain ⟨rfl, rfl⟩ := hv
  have hgw : g < w.heap.size := (Array.getElem?_eq_some_iff.1 hh).1
  unfold maxLen at hcap
  rw [Nat.mul_one] at hsz
  obtain ⟨W, hW⟩ : ∃ W, W = w.alloc (.cells #[.int .i64 d] 3) := ⟨_, rfl⟩
  have WS : W.heap.size = w.heap.size + 1 := by rw [hW]; simp
  have WH : W.heap[g]? = some (.cells cur 3 (0, 0)) := by rw [hW]; exact (((Below.refl _ _).alloc (Nat.le_refl _) _).block g hgw).trans hh
  have WV : W.heap[w.heap.size]? = some (.cells #[.int .i64 d] 3 (0, 0)) := by rw [hW]; exact heap_fresh _ _
  have hcW : ∀ j, W.cell? ⟨g, j, none⟩ = cur[j]? := fun j => by unfold World.cell?; rw [WH]; rfl
  have hfW : ∀ j, W.frozen? ⟨g, j, none⟩ = false := fun j => by unfold World.frozen?; rw [WH]; simp
  have hfV : ∀ j, W.frozen? ⟨w.heap.size, j, none⟩ = false := fun j => by unfold World.frozen?; rw [WV]; simp
  have hcV : W.cell? ⟨w.heap.size, 0, none⟩ = some (.int .i64 d) := by unfold World.cell?; rw [WV]; rfl
  have hx : ∀ j, j < xs.length → W.cell? ⟨g, j, none⟩ = some (.int .i64 (nth xs j)) := fun j hj => by
    obtain ⟨A, c, e, _, _, hin⟩ := hints
    obtain ⟨b, o, e2, _, _, hc⟩ := hin (by omega)
    simp only [Value.slice.injEq] at e
    rw [← e.1] at e2
    simp only [Option.some.injEq, Addr.mk.injEq, and_true] at e2
    obtain ⟨rfl, rfl⟩ := e2
    have h1 := hc j hj
    have h2 : w.cell? ⟨g, 0 + j, none⟩ = some (.int .i64 (nth xs j)) := h1
    rw [Nat.zero_add] at h2
    rw [hW]
    exact (((Below.refl _ _).alloc (Nat.le_refl _) _).cell (p := ⟨g, j, none⟩) hgw).trans h2
  have hcs : ∀ j v, (csI xs)[j]? = some v → W.cell? ⟨g, 0 + j, none⟩ = some v := fun j v h => by
    obtain ⟨hj, e⟩ := csI_some h
    rw [Nat.zero_add, e]
    exact hx j hj
  have hvs : ∀ j v, [Value.int .i64 d][j]? = some v → W.cell? ⟨w.heap.size, 0 + j, none⟩ = some v := fun j v h => by
    obtain ⟨hj, e⟩ := List.getElem?_eq_some_iff.1 h
    simp at hj
    subst hj
    simp at e
    rw [← e]
    exact hcV
  have h1v : ∀ v ∈ [Value.int .i64 d], v.oneCell' = true := fun v hv => by simp at hv; subst hv; rfl
  have hbl : Below B W W := Below.refl _ _
  have hll := insL_len (d := d) hi
  rw [← hW]
  by_cases hin : i < xs.length
  · by_cases hroom : xs.length + 1 ≤ cap
    · have hc := Any2.slices_Insert_int_shift Try.laysInsertInt g 0 xs.length cap i w.heap.size 0 1 1 (csI xs) [.int .i64 d] W hin (by omega) hroom (by omega) (by omega) (csI_len xs) rfl hcs
        (fun j hj => by rw [Nat.zero_add, hcW, Array.getElem?_eq_getElem (by omega)]; rfl) (fun j _ => hfW _) hvs csI_one h1v 3 3 1 cap (by unfold World.shape?; rw [WV]; rfl) (by unfold World.shape?; rw [WH]; show some (_, cur.size) = _; rw [hsz]) (by omega) (hfV _) (hfV _)
      change Calls Try.prog 153 _ _ _ at hc
      refine hc.mono ?_
      rintro e w' ⟨rfl, rfl⟩
      refine ⟨g, xs.length + 1, cap, rfl, hll.symm, ints_only (fun j hj => ?_) (fun j => by rw [World.frozen?_setCells, World.frozen?_setCells]; exact hfW j), hBg, by rw [sizeSC, sizeSC]; show g < W.heap.size; omega, bel_setCells hBg _ _ _ (bel_setCells hBg _ _ _ hbl.drew)⟩
      rw [hll] at hj
      rw [nth_insL hi]
      by_cases h1 : j < i
      · rw [if_pos h1, World.cell?_setCells_out _ _ _ _ _ (fun _ _ => .inl (by simp; omega)), World.cell?_setCells_out _ _ _ _ _ (fun _ _ => .inl (by simp; omega))]
        exact hx j (by omega)
      · rw [if_neg h1]
        by_cases h2 : j = i
        · subst h2
          rw [if_pos rfl]
          have := World.cell?_setCells_in g [Value.int .i64 d] (0 + j) (W.drew.setCells g (0 + (j + 1)) ((csI xs).drop j)) (fun k hk => by
            simp at hk
            subst hk
            rw [World.cell?_setCells_out _ _ _ _ _ (fun _ _ => .inl (by simp))]
            show (W.cell? _).isSome = true
            rw [hcW, Array.getElem?_eq_getElem (by omega)]; rfl) 0 (by simp)
          simpa using this
        · rw [if_neg h2, World.cell?_setCells_out _ _ _ _ _ (fun _ _ => .inr (by simp; omega))]
          have hdl : ((csI xs).drop i).length = xs.length - i := by rw [List.length_drop, csI_len]
          have := World.cell?_setCells_in g ((csI xs).drop i) (0 + (i + 1)) W.drew (fun k hk => by
            rw [hdl] at hk
            show (W.cell? _).isSome = true
            rw [hcW, Array.getElem?_eq_getElem (by omega)]; rfl) (j - (i + 1)) (by rw [hdl]; omega)
          rw [show 0 + (i + 1) + (j - (i + 1)) = j by omega] at this
          rw [this, List.getElem_drop, csI_at]
          congr 3
          omega
    · have hc := Any2.slices_Insert_int_grow Try.laysInsertInt g 0 xs.length cap i w.heap.size 0 1 1 (csI xs) [.int .i64 d] W hin (by omega) hle (by omega) (by omega) (csI_len xs) rfl hcs hvs csI_one h1v
      change Calls Try.prog 153 _ _ _ at hc
      refine hc.mono ?_
      rintro e w' ⟨rfl, hw'⟩
      rw [show Try.laysInsertInt_ren.t 3 = 3 from rfl] at hw' ⊢
      subst hw'
      obtain ⟨z1, hz1⟩ : ∃ z, z = Builtin.zeroCells (Value.int .i64 0).cells (xs.length + 1 - i) := ⟨_, rfl⟩
      have hzs : z1.size = xs.length + 1 - i := by rw [hz1, size_zeroCells]; simp [Value.cells]
      rw [← hz1]
      generalize Builtin.zeroCells (Value.int .i64 0).cells (grownCap W (xs.length + 1) cap 3 - (xs.length + 1)) = z2
      have hct : ((csI xs).take i).length = i := by rw [List.length_take, csI_len]; omega
      have hsome : ∀ j, j < xs.length + 1 → ((((csI xs).take i).toArray ++ z1 ++ z2)[j]?).isSome = true := fun j hj => by
        rw [Array.getElem?_eq_getElem (by simp only [Array.size_append, List.size_toArray, hct, hzs]; omega)]; rfl
      have hcell : ∀ j, (W.alloc (.cells (((csI xs).take i).toArray ++ z1 ++ z2) 3)).cell? ⟨W.heap.size, j, none⟩ = (((csI xs).take i).toArray ++ z1 ++ z2)[j]? := fun j => World.cell?_alloc_mark _ _ _ _ j
      have hfrz : ∀ j, (W.alloc (.cells (((csI xs).take i).toArray ++ z1 ++ z2) 3)).frozen? ⟨W.heap.size, j, none⟩ = false := fun j => frozen_fresh _ _ _ j
      refine ⟨W.heap.size, xs.length + 1, _, rfl, hll.symm, ints_only (fun j hj => ?_) (fun j => ?_), by omega, ?_, ?_⟩
      · rw [hll] at hj
        rw [nth_insL hi]
        by_cases h1 : j < i
        · rw [if_pos h1, World.cell?_setCells_out _ _ _ _ _ (fun _ _ => .inl (by simp; omega))]
          show ((_ : World).setCells _ _ _).cell? _ = _
          rw [World.cell?_setCells_out _ _ _ _ _ (fun _ _ => .inl (by simp; omega))]
          show (W.alloc _).cell? _ = _
          rw [hcell, Array.getElem?_append_left (by simp only [Array.size_append, List.size_toArray, hct, hzs]; omega), Array.getElem?_append_left (by simp only [List.size_toArray, hct]; omega)]
          rw [List.getElem?_toArray, List.getElem?_take_of_lt h1]
          exact csI_get (by omega)
        · rw [if_neg h1]
          by_cases h2 : j = i
          · subst h2
            rw [if_pos rfl, World.cell?_setCells_out _ _ _ _ _ (fun _ _ => .inl (by simp))]
            show ((_ : World).setCells _ _ _).cell? _ = _
            have := World.cell?_setCells_in W.heap.size [Value.int .i64 d] j (W.alloc (.cells (((csI xs).take j).toArray ++ z1 ++ z2) 3)).drew (fun k hk => by
              simp at hk
              subst hk
              show ((W.alloc _).cell? _).isSome = true
              rw [hcell]
              exact hsome _ (by omega)) 0 (by simp)
            simpa using this
          · rw [if_neg h2]
            have hdl : ((csI xs).drop i).length = xs.length - i := by rw [List.length_drop, csI_len]
            have := World.cell?_setCells_in W.heap.size ((csI xs).drop i) (i + 1) ((W.alloc (.cells (((csI xs).take i).toArray ++ z1 ++ z2) 3)).drew.setCells W.heap.size i [Value.int .i64 d]).drew (fun k hk => by
              rw [hdl] at hk
              show (((_ : World).setCells _ _ _).cell? _).isSome = true
              rw [World.cell?_setCells_out _ _ _ _ _ (fun _ _ => .inr (by simp <;> omega))]
              show ((W.alloc _).cell? _).isSome = true
              rw [hcell]
              exact hsome _ (by omega)) (j - (i + 1)) (by rw [hdl]; omega)
            rw [show i + 1 + (j - (i + 1)) = j by omega] at this
            rw [this, List.getElem_drop, csI_at]
            congr 3
            omega
      · rw [World.frozen?_setCells]
        show ((_ : World).setCells _ _ _).frozen? _ = _
        rw [World.frozen?_setCells]
        exact hfrz j
      · rw [sizeSC]
        show _ < ((_ : World).setCells _ _ _).heap.size
        rw [sizeSC]
        show _ < (W.alloc _).heap.size
        simp
      · refine bel_setCells (by omega) _ _ _ (Below.drew (bel_setCells (by omega) _ _ _ (Below.drew ((Below.refl B W).alloc (by omega) _))))
  · obtain rfl : i = xs.length := by omega
    have hil : insL xs d xs.length = xs ++ [d] := by unfold insL; simp
    by_cases hroom : xs.length + 1 ≤ cap
    · have hc := Any2.slices_Insert_int_end_room Try.laysInsertInt g 0 xs.length cap w.heap.size 0 1 1 [.int .i64 d] W (by omega) hroom (by omega) rfl
        (fun j hj => by rw [hcW, Array.getElem?_eq_getElem (by omega)]; rfl) (fun j _ => hfW _) hvs h1v
      change Calls Try.prog 153 _ _ _ at hc
      refine hc.mono ?_
      rintro e w' ⟨rfl, rfl⟩
      refine ⟨g, xs.length + 1, cap, rfl, hll.symm, ints_only (fun j hj => ?_) (fun j => by rw [World.frozen?_setCells]; exact hfW j), hBg, by rw [sizeSC]; omega, bel_setCells hBg _ _ _ hbl⟩
      rw [hll] at hj
      rw [nth_insL hi]
      by_cases h1 : j < xs.length
      · rw [if_pos h1, World.cell?_setCells_out _ _ _ _ _ (fun _ _ => .inl (by simp; omega))]
        exact hx j h1
      · obtain rfl : j = xs.length := by omega
        rw [if_neg h1, if_pos rfl]
        have := World.cell?_setCells_in g [Value.int .i64 d] (0 + xs.length) W (fun k hk => by
          simp at hk
          subst hk
          rw [hcW, Array.getElem?_eq_getElem (by omega)]; rfl) 0 (by simp)
        simpa using this
    · have hc := Any2.slices_Insert_int_end_grow Try.laysInsertInt (some ⟨g, 0, none⟩) xs.length cap w.heap.size 0 1 1 (csI xs) [.int .i64 d] W (by omega) hle (by omega) (by omega) (csI_len xs) rfl (fun h => by simp at h)
        (fun a ha j v h => by
          simp only [Option.some.injEq] at ha
          subst ha
          have := hcs j v h
          rw [Nat.zero_add] at this
          rw [show (⟨g, 0, none⟩ : Addr).add j = ⟨g, j, none⟩ by unfold Addr.add; split <;> simp_all]
          exact this) hvs h1v
      change Calls Try.prog 153 _ _ _ at hc
      refine hc.mono ?_
      rintro e w' ⟨rfl, hw'⟩
      rw [show Try.laysInsertInt_ren.t 3 = 3 from rfl] at hw' ⊢
      subst hw'
      generalize Builtin.zeroCells (Value.int .i64 0).cells (grownCap W (xs.length + 1) cap 3 - (xs.length + 1)) = z2
      refine ⟨W.heap.size, xs.length + 1, _, rfl, hll.symm, ints_only (fun j hj => ?_) (fun j => ?_), by omega, ?_, (hbl.drew).alloc (by show B ≤ W.heap.size; omega) _⟩
      · rw [hll] at hj
        have := World.cell?_alloc_mark W.drew ((csI xs ++ [Value.int .i64 d]).toArray ++ z2) 3 (0, 0) j
        have e : (W.drew.alloc (.cells ((csI xs ++ [Value.int .i64 d]).toArray ++ z2) 3)).cell? ⟨W.heap.size, j, none⟩ = ((csI xs ++ [Value.int .i64 d]).toArray ++ z2)[j]? := this
        rw [e, Array.getElem?_append_left (by simp [csI_len]; omega), List.getElem?_toArray, nth_insL hi]
        by_cases h1 : j < xs.length
        · rw [if_pos h1, List.getElem?_append_left (by rw [csI_len]; exact h1)]
          exact csI_get h1
        · obtain rfl : j = xs.length := by omega
          rw [if_neg h1, if_pos rfl, List.getElem?_append_right (by rw [csI_len]; exact Nat.le_refl _), csI_len, Nat.sub_self]
          rfl
      · exact frozen_fresh W.drew _ _ j
      · show W.heap.size < (W.drew.alloc _).heap.size
        simp
set_option maxHeartbeats 1000000 in
theorem del_any (B g cap i : Nat) (xs : List Int) (w : World) (hown : OwnI w B (.slice (some ⟨g, 0, none⟩) xs.length cap) xs) (hi : i < xs.length) (hn : xs.length ≤ 1048576) :
    Calls Try.prog 154 #[.slice (some ⟨g, 0, none⟩) xs.length cap, .int .i64 (i : Int), .int .i64 ((i : Int) + 1)] w (InsR B (xs.take i ++ xs.drop (i + 1)) w) := by
  have hints := hown.ints
  have hfz := World.ownsRow.frozenAt hown
  have hlt := (World.ownsRow.lt hown) g rfl
  obtain ⟨hlen, hq | ⟨g', cap', cur, hv, hBg, hh, hle, hcap, hsz, _⟩⟩ := hown
  · exact absurd hq.1 (by simp)
  simp only [Value.slice.injEq, Option.some.injEq, Addr.mk.injEq, true_and, and_true] at hv
  obtain ⟨rfl, rfl⟩ := hv
  unfold maxLen at hcap
  have hx : ∀ j, j < xs.length → w.cell? ⟨g, j, none⟩ = some (.int .i64 (nth xs j)) := fun j hj => by
    obtain ⟨A, c, e, _, _, hin⟩ := hints
    obtain ⟨b, o, e2, _, _, hc⟩ := hin (by omega)
    simp only [Value.slice.injEq] at e
    rw [← e.1] at e2
    simp only [Option.some.injEq, Addr.mk.injEq, and_true] at e2
    obtain ⟨rfl, rfl⟩ := e2
    have h2 : w.cell? ⟨g, 0 + j, none⟩ = some (.int .i64 (nth xs j)) := hc j hj
    rw [Nat.zero_add] at h2
    exact h2
  obtain ⟨i0, hii, hz0, hz1, hz2⟩ := info_parts Try.infoI
  have hH : Go.Sort.Holds (Value.int .i64) w g 0 xs.toArray := fun j hj => by
    have hj' : j < xs.length := by simpa using hj
    rw [Nat.zero_add]
    refine ⟨(hx j hj').trans ?_, hfz j⟩
    have : xs.toArray[j]! = nth xs j := by
      unfold nth
      rw [getElem!_pos xs.toArray j hj, List.getD_eq_getElem?_getD, List.getElem?_eq_getElem hj']
      simp
    rw [this]
  have hc := AnyE.slices_Delete Try.laysDeleteInt (Value.int .i64) (fun _ => rfl) 0 Try.zeroValue3 i0 hii hz1 g 0 cap i (i + 1) xs.toArray w hH (by simpa using hle) (by omega) (by omega) (by simp; omega)
  change Calls Try.prog 154 _ _ _ at hc
  simp only [List.size_toArray] at hc
  push_cast at hc
  refine hc.mono ?_
  rintro e w' ⟨rfl, q, rfl⟩
  have hyl : (xs.take i ++ xs.drop (i + 1) ++ List.replicate (i + 1 - i) (0 : Int)).length = xs.toArray.size := by
    simp only [List.length_append, List.length_take, List.length_drop, List.length_replicate, List.size_toArray]
    omega
  have e0 := Go.Lib.putRow_eq_setCells (Value.int .i64) w g 0 xs.toArray (xs.take i ++ xs.drop (i + 1) ++ List.replicate (i + 1 - i) (0 : Int)) q hH hyl
  have e1 : Go.Sort.putRow (Value.int .i64) (Go.Sort.ahead w q) g 0 (xs.take i ++ xs.drop (i + 1) ++ List.replicate (i + 1 - i) (0 : Int)).toArray = (w.drewN q).setCells g 0 (csI (xs.take i ++ xs.drop (i + 1) ++ List.replicate (i + 1 - i) (0 : Int))) := e0
  rw [e1]
  have hll : (xs.take i ++ xs.drop (i + 1)).length = xs.length - 1 := by
    simp only [List.length_append, List.length_take, List.length_drop]
    omega
  refine ⟨g, xs.length - (i + 1 - i), cap, rfl, by rw [hll]; omega, ints_only (fun j hj => ?_) (fun j => by rw [World.frozen?_setCells]; exact hfz j), hBg, by rw [sizeSC]; exact hlt.2, bel_setCells hBg _ _ _ (bel_drewN (Below.refl _ _) q)⟩
  have hj2 : j < (csI (xs.take i ++ xs.drop (i + 1) ++ List.replicate (i + 1 - i) (0 : Int))).length := by rw [csI_len, List.length_append]; omega
  have := World.cell?_setCells_in g (csI (xs.take i ++ xs.drop (i + 1) ++ List.replicate (i + 1 - i) (0 : Int))) 0 (w.drewN q) (fun k hk => by
    rw [csI_len, hyl] at hk
    have hk' : k < xs.length := by simpa using hk
    show (w.cell? _).isSome = true
    rw [Nat.zero_add, hx k hk']; rfl) j hj2
  rw [Nat.zero_add] at this
  rw [this, csI_at]
  refine congrArg (fun z => some (Value.int .i64 z)) ?_
  unfold nth
  rw [List.getD_eq_getElem?_getD, List.getElem?_append_left hj, ← List.getD_eq_getElem?_getD]
end Go.Proofs.Ytambgommeannnaa
