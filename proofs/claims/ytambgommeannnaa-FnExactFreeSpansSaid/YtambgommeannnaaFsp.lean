/- FreeSpans. -/
import Derived.Test.YtambgommeannnaaRns
import Derived.Test.YtambgommeannnaaApg
import Derived.Test.YtambgommeannnaaApx
namespace Go.Proofs.Ytambgommeannnaa
open Go.ChangeShapes Go.WideShapes Go.ChangeAt Go.RowKit Go.PlainAid
set_option linter.unusedVariables false
set_option linter.unusedSimpArgs false

/-- The answer. -/
def fsL (xs : List I2) (fa fb : Int) : List I2 := if (spansB xs && spB fa fb) = true then freeL xs ⟨fa, fb⟩ else []
theorem fsL_1 {xs : List I2} {fa fb : Int} (h : spansB xs = false) : fsL xs fa fb = [] := by unfold fsL; rw [h]; rfl
theorem fsL_2 {xs : List I2} {fa fb : Int} (h : spB fa fb = false) : fsL xs fa fb = [] := by unfold fsL; rw [h]; simp
theorem fsL_3 {xs : List I2} {fa fb : Int} (h : spansB xs = true) (h' : spB fa fb = true) : fsL xs fa fb = freeL xs ⟨fa, fb⟩ := by unfold fsL; rw [h, h']; rfl
theorem fsL_len (xs : List I2) (fa fb : Int) : (fsL xs fa fb).length ≤ 1048576 := by
  unfold fsL
  split
  · rename_i h
    have h2 : spB fa fb = true := by simp only [Bool.and_eq_true] at h; exact h.2
    obtain ⟨q0, q1, q2⟩ := spB_iff.1 h2
    have := runU_len (freeP xs) fa (fb - fa).toNat
    show (runU (freeP xs) fa (fb - fa).toNat).length ≤ _
    omega
  · simp
theorem pair_cells {W : World} {nb : Nat} {x : I2} (h0 : W.cell? ⟨nb, 0, none⟩ = some (.int .i64 x.a)) (h1 : W.cell? ⟨nb, 1, none⟩ = some (.int .i64 x.b)) : ∀ j u, ([x].flatMap encI2)[j]? = some u → W.cell? ⟨nb, 0 + j, none⟩ = some u := by
  intro j u hj
  rw [Nat.zero_add]
  match j, hj with
  | 0, hj => simp [encI2] at hj; rw [← hj]; exact h0
  | 1, hj => simp [encI2] at hj; rw [← hj]; exact h1
  | j + 2, hj => simp [encI2] at hj
theorem wp_appSX {ops : Array Oper} {rest : List Oper} {o : Oper} {a : Act} {Q : Exit → Act → World → Prop} (hgd : o.guard = none) (s x : Operand)
    (ho : o.op = .call { callee := .builtin .append, args := #[s, x], argTypes := #[72, 72] })
    (B X : Nat) (v : Value) (xs : List I2) (y : I2) (w : World) (hown : OwnX 82 2 encI2 w B X v xs) (hs : a.eval s = v) (n : Nat) (hx : a.eval x = .slice (some ⟨n, 0, none⟩) 1 1) (hnw : n = w.heap.size) (hl : xs.length ≤ 16777216) (hB : B ≤ w.heap.size) (hX : X < w.heap.size)
    (h : ∀ v' w', OwnX 82 2 encI2 w' B X v' (xs ++ [y]) → Below B w w' → Same w w' X → w.heap.size ≤ w'.heap.size → wpList Try.prog ops Q rest (a.put o.dst v') w') : wpList Try.prog ops Q (o :: rest) a (w.alloc (.cells #[.int .i64 y.a, .int .i64 y.b] 82)) := by
  obtain ⟨i0, hi, hz0, hz1, hz2⟩ := info_parts Try.infoSpan
  exact wp_appX hgd s x 72 ho 16 Try.underlying72 hi hz0 hz1 hz2 rfl (by omega) (fun _ => rfl) encI2_cell (by omega) B X v xs y _ w rfl hs n hx hnw hown hl hB hX h
theorem freU_pre (w : I2) (ms : List I2) (s : I2) : ∀ k, k ≤ ms.length → freU w (ms ++ [s]) k = freU w ms k := by
  intro k
  induction k with
  | zero => intro _; rfl
  | succ k ih =>
    intro hk
    have e : nth2 (ms ++ [s]) k = nth2 ms k := by unfold nth2; rw [List.getD_eq_getElem?_getD, List.getElem?_append_left (by omega), ← List.getD_eq_getElem?_getD]
    rw [freU, freU, ih (by omega), e]
theorem freU_all (w : I2) (ms : List I2) : (freU w (ms ++ [⟨w.b, w.b⟩]) (ms ++ [(⟨w.b, w.b⟩ : I2)]).length).1 = freL w ms := by
  have e : (ms ++ [(⟨w.b, w.b⟩ : I2)]).length = ms.length + 1 := by simp
  rw [e, freU, freU_pre _ _ _ _ (Nat.le_refl _), nth2_snoc]
  rfl
theorem freU_len (w : I2) (ms : List I2) (k : Nat) : (freU w ms k).1.length ≤ k := by
  induction k with
  | zero => exact Nat.le_refl _
  | succ k ih =>
    rw [freU]
    unfold freS
    simp only []
    split
    · simp; omega
    · omega

set_option maxRecDepth 100000 in
set_option maxHeartbeats 2000000 in
theorem specFree_any (A : Option Addr) (c : Nat) (xs : List I2) (fa fb : Int) (w : World) (h : I2sIn w (Zone.below w.heap.size) A xs) (hn : xs.length ≤ 1048576) :
    Calls Try.prog 52 #[.slice A xs.length c, .agg #[.int .i64 fa, .int .i64 fb]] w (RetSp (fsL xs fa fb) (spansB xs && spB fa fb) w) := by
  have HX0 := Lib.hid h
  have hb0 : Below w.heap.size w (w.alloc (.cells #[.int .i64 fa, .int .i64 fb] 82)) := by go_grown
  have HX := Lib.hid (HX0.out.call hb0)
  have HB0 := Lib.hid hb0
  have HC0 : Hid ((w.alloc (.cells #[.int .i64 fa, .int .i64 fb] 82)).cell? ⟨w.heap.size, 0, none⟩ = some (.int .i64 fa)) := Lib.hid (by go_simp)
  have HC1 : Hid ((w.alloc (.cells #[.int .i64 fa, .int .i64 fb] 82)).cell? ⟨w.heap.size, 1, none⟩ = some (.int .i64 fb)) := Lib.hid (by go_simp)
  have hlt0 : w.heap.size < (w.alloc (.cells #[.int .i64 fa, .int .i64 fb] 82)).heap.size := by simp
  clear h hb0 HX0
  cases g : spansB xs
  · have HS := Lib.hid (fsL_1 (fa := fa) (fb := fb) g)
    go_enter Try.func52, Try.ntmps52
    have c0 := HC0.out
    have c1 := HC1.out
    go_wp2_with fail
    clear c0 c1
    generalize (w.alloc (.cells #[.int .i64 fa, .int .i64 fb] 82)) = w0 at *
    refine (l4Spans_any _ _ xs _ HX.out hn).mono ?_
    rintro e w1 ⟨rfl, hb1⟩
    have HB1 := Lib.hid hb1
    have HX1 := Lib.hid (HX.out.call hb1)
    have hz1 := hb1.size
    clear hb1
    rw [g]
    go_wp2_with fail
    go_ret2
    exact retSpNil _ 0 HS.out ((bel_call HB0.out HB1.out).alloc (by have := ((bel_call HB0.out HB1.out)).size; omega) _)
  cases g' : spB fa fb
  · have HS := Lib.hid (fsL_2 (xs := xs) g')
    go_enter Try.func52, Try.ntmps52
    have c0 := HC0.out
    have c1 := HC1.out
    go_wp2_with fail
    clear c0 c1
    generalize (w.alloc (.cells #[.int .i64 fa, .int .i64 fb] 82)) = w0 at *
    refine (l4Spans_any _ _ xs _ HX.out hn).mono ?_
    rintro e w1 ⟨rfl, hb1⟩
    have HB1 := Lib.hid hb1
    have HX1 := Lib.hid (HX.out.call hb1)
    have hz1 := hb1.size
    clear hb1
    have c0 : w1.cell? ⟨w.heap.size, 0, none⟩ = some (.int .i64 fa) := (HB1.out.cell (p := ⟨w.heap.size, 0, none⟩) hlt0).trans HC0.out
    have c1 : w1.cell? ⟨w.heap.size, 1, none⟩ = some (.int .i64 fb) := (HB1.out.cell (p := ⟨w.heap.size, 1, none⟩) hlt0).trans HC1.out
    rw [g]
    go_wp2_with fail
    clear c0 c1
    refine (l4Span_any fa fb _).mono ?_
    rintro e w2 ⟨rfl, hb2⟩
    have HB2 := Lib.hid (bel_call HB1.out hb2)
    have HX2 := Lib.hid (HX1.out.call hb2)
    have hz2 := hb2.size
    clear hb2
    rw [g']
    go_wp2_with fail
    go_ret2
    exact retSpNil _ 0 HS.out ((bel_call HB0.out HB2.out).alloc (by have := ((bel_call HB0.out HB2.out)).size; omega) _)
  · have HS := Lib.hid (fsL_3 g g')
    have HV := Lib.hid (spansB_ok g)
    obtain ⟨q0, q1, q2⟩ := spB_iff.1 g'
    go_enter Try.func52, Try.ntmps52
    have c0 := HC0.out
    have c1 := HC1.out
    go_wp2_with fail
    clear c0 c1
    generalize (w.alloc (.cells #[.int .i64 fa, .int .i64 fb] 82)) = w0 at *
    refine (l4Spans_any _ _ xs _ HX.out hn).mono ?_
    rintro e w1 ⟨rfl, hb1⟩
    have HB1 := Lib.hid hb1
    have HX1 := Lib.hid (HX.out.call hb1)
    have hz1 := hb1.size
    clear hb1
    have c0 : w1.cell? ⟨w.heap.size, 0, none⟩ = some (.int .i64 fa) := (HB1.out.cell (p := ⟨w.heap.size, 0, none⟩) hlt0).trans HC0.out
    have c1 : w1.cell? ⟨w.heap.size, 1, none⟩ = some (.int .i64 fb) := (HB1.out.cell (p := ⟨w.heap.size, 1, none⟩) hlt0).trans HC1.out
    rw [g]
    go_wp2_with fail
    clear c0 c1
    refine (l4Span_any fa fb _).mono ?_
    rintro e w2 ⟨rfl, hb2⟩
    have HB2 := Lib.hid (bel_call HB1.out hb2)
    have HX2 := Lib.hid (HX1.out.call hb2)
    have hz2 := hb2.size
    clear hb2
    rw [g']
    go_wp2_with fail
    have hC : ∀ w', Below w2.heap.size w2 w' → w'.cell? ⟨w.heap.size, 0, none⟩ = some (.int .i64 fa) ∧ w'.cell? ⟨w.heap.size, 1, none⟩ = some (.int .i64 fb) := fun w' h => ⟨((bel_call HB2.out h).cell (p := ⟨w.heap.size, 0, none⟩) hlt0).trans HC0.out, ((bel_call HB2.out h).cell (p := ⟨w.heap.size, 1, none⟩) hlt0).trans HC1.out⟩
    go_region_held3 (fun w' => Below w2.heap.size w2 w') (repeat' first | assumption | exact Nat.le_refl _ | exact Below.refl _ _ | (refine bel_drew ?_) | (refine bel_alloc ?_ _) | (refine bel_set ?_ ?_ _))
      (first
        | (go_at_call 122; refine (l4Counts_any _ _ xs _ (HX2.out.call ‹Below w2.heap.size w2 _›) HV.out).mono ?_; rintro e w5 ⟨rfl, ha5, hb5⟩; have hB5 := bel_call ‹Below w2.heap.size w2 _› hb5; clear hb5)
        | (go_at_call 126; refine (l4Runs_any _ xs fa fb false _ (by first | exact ha5 | exact ha5.drewN 1) q0 q1 q2 hn).mono ?_; rintro e w6 ⟨v6, rfl, ho6, hb6⟩; have hB6 := bel_call ‹Below w2.heap.size w2 w5› hb6; have hO6 := OwnE.sub ho6 (‹Below w2.heap.size w2 w5› : Below w2.heap.size w2 w5).size; clear hb6 ho6))
    all_goals
      have HO := Lib.hid (OwnE.sub hO6 (by have := HB0.out.size; omega : w.heap.size ≤ w2.heap.size))
      have HB6 := Lib.hid (bel_call HB0.out (bel_call HB2.out hB6))
      clear hC hO6 hB6
      go_wp2_with fail
      go_ret2
      exact HO.out.retSp (by rw [HS.out]; rfl) HB6.out

set_option maxRecDepth 100000 in
set_option maxHeartbeats 4000000 in
theorem implFree_any (b o c : Nat) (xs : List I2) (fa fb : Int) (w : World) (h : I2sIn w (Zone.below w.heap.size) (some ⟨b, o, none⟩) xs) (hn : xs.length ≤ 1048576) :
    Calls Try.prog 54 #[.slice (some ⟨b, o, none⟩) xs.length c, .agg #[.int .i64 fa, .int .i64 fb]] w (RetSp (fsL xs fa fb) (spansB xs && spB fa fb) w) := by
  have HX0 := Lib.hid h
  have hb0 : Below w.heap.size w (w.alloc (.cells #[.int .i64 fa, .int .i64 fb] 82)) := by go_grown
  have HX := Lib.hid (HX0.out.call hb0)
  have HB0 := Lib.hid hb0
  have HC0 : Hid ((w.alloc (.cells #[.int .i64 fa, .int .i64 fb] 82)).cell? ⟨w.heap.size, 0, none⟩ = some (.int .i64 fa)) := Lib.hid (by go_simp)
  have HC1 : Hid ((w.alloc (.cells #[.int .i64 fa, .int .i64 fb] 82)).cell? ⟨w.heap.size, 1, none⟩ = some (.int .i64 fb)) := Lib.hid (by go_simp)
  have hlt0 : w.heap.size < (w.alloc (.cells #[.int .i64 fa, .int .i64 fb] 82)).heap.size := by simp
  clear h hb0 HX0
  cases g : spansB xs
  · have HS := Lib.hid (fsL_1 (fa := fa) (fb := fb) g)
    go_enter Try.func54, Try.ntmps54
    have c0 := HC0.out
    have c1 := HC1.out
    go_wp2_with fail
    clear c0 c1
    generalize (w.alloc (.cells #[.int .i64 fa, .int .i64 fb] 82)) = w0 at *
    refine (areSpans_any _ _ xs _ HX.out hn).mono ?_
    rintro e w1 ⟨rfl, hb1⟩
    have HB1 := Lib.hid hb1
    have HX1 := Lib.hid (HX.out.call hb1)
    have hz1 := hb1.size
    clear hb1
    rw [g]
    go_wp2_with fail
    go_ret2
    exact retSpNil none 0 HS.out (bel_call HB0.out HB1.out)
  cases g' : spB fa fb
  · have HS := Lib.hid (fsL_2 (xs := xs) g')
    go_enter Try.func54, Try.ntmps54
    have c0 := HC0.out
    have c1 := HC1.out
    go_wp2_with fail
    clear c0 c1
    generalize (w.alloc (.cells #[.int .i64 fa, .int .i64 fb] 82)) = w0 at *
    refine (areSpans_any _ _ xs _ HX.out hn).mono ?_
    rintro e w1 ⟨rfl, hb1⟩
    have HB1 := Lib.hid hb1
    have HX1 := Lib.hid (HX.out.call hb1)
    have hz1 := hb1.size
    clear hb1
    have c0 : w1.cell? ⟨w.heap.size, 0, none⟩ = some (.int .i64 fa) := (HB1.out.cell (p := ⟨w.heap.size, 0, none⟩) hlt0).trans HC0.out
    have c1 : w1.cell? ⟨w.heap.size, 1, none⟩ = some (.int .i64 fb) := (HB1.out.cell (p := ⟨w.heap.size, 1, none⟩) hlt0).trans HC1.out
    rw [g]
    go_wp2_with fail
    clear c0 c1
    refine (isSpan_any fa fb _).mono ?_
    rintro e w2 ⟨rfl, hb2⟩
    have HB2 := Lib.hid (bel_call HB1.out hb2)
    have HX2 := Lib.hid (HX1.out.call hb2)
    have hz2 := hb2.size
    clear hb2
    rw [g']
    go_wp2_with fail
    go_ret2
    exact retSpNil none 0 HS.out (bel_call HB0.out HB2.out)
  · have HS := Lib.hid (fsL_3 g g')
    have HV := Lib.hid (spansB_ok g)
    obtain ⟨q0, q1, q2⟩ := spB_iff.1 g'
    go_enter Try.func54, Try.ntmps54
    have c0 := HC0.out
    have c1 := HC1.out
    go_wp2_with fail
    clear c0 c1
    generalize (w.alloc (.cells #[.int .i64 fa, .int .i64 fb] 82)) = w0 at *
    refine (areSpans_any _ _ xs _ HX.out hn).mono ?_
    rintro e w1 ⟨rfl, hb1⟩
    have HB1 := Lib.hid hb1
    have HX1 := Lib.hid (HX.out.call hb1)
    have hz1 := hb1.size
    clear hb1
    have c0 : w1.cell? ⟨w.heap.size, 0, none⟩ = some (.int .i64 fa) := (HB1.out.cell (p := ⟨w.heap.size, 0, none⟩) hlt0).trans HC0.out
    have c1 : w1.cell? ⟨w.heap.size, 1, none⟩ = some (.int .i64 fb) := (HB1.out.cell (p := ⟨w.heap.size, 1, none⟩) hlt0).trans HC1.out
    rw [g]
    go_wp2_with fail
    clear c0 c1
    refine (isSpan_any fa fb _).mono ?_
    rintro e w2 ⟨rfl, hb2⟩
    have HB2 := Lib.hid (bel_call HB1.out hb2)
    have HX2 := Lib.hid (HX1.out.call hb2)
    have hz2 := hb2.size
    clear hb2
    rw [g']
    have c0 : w2.cell? ⟨w.heap.size, 0, none⟩ = some (.int .i64 fa) := (HB2.out.cell (p := ⟨w.heap.size, 0, none⟩) hlt0).trans HC0.out
    have c1 : w2.cell? ⟨w.heap.size, 1, none⟩ = some (.int .i64 fb) := (HB2.out.cell (p := ⟨w.heap.size, 1, none⟩) hlt0).trans HC1.out
    go_wp2_with fail
    clear c0 c1
    have hC : ∀ w', Below w2.heap.size w2 w' → w'.cell? ⟨w.heap.size, 0, none⟩ = some (.int .i64 fa) ∧ w'.cell? ⟨w.heap.size, 1, none⟩ = some (.int .i64 fb) := fun w' h => ⟨((bel_call HB2.out h).cell (p := ⟨w.heap.size, 0, none⟩) hlt0).trans HC0.out, ((bel_call HB2.out h).cell (p := ⟨w.heap.size, 1, none⟩) hlt0).trans HC1.out⟩
    have HLN : Hid ((busyL xs ++ [(⟨fb, fb⟩ : I2)]).length = (busyL xs).length + 1) := Lib.hid (by simp)
    have hbl := busyL_len xs
    have hz20 := HB0.out.size
    obtain ⟨i0, ii, iz0, iz1, iz2⟩ := info_parts Try.infoSpan
    go_region_held3 (fun w' => Below w2.heap.size w2 w') (repeat' first | assumption | exact Nat.le_refl _ | exact Below.refl _ _ | (refine bel_drew ?_) | (refine bel_alloc ?_ _) | (refine bel_set ?_ ?_ _))
      (first
        | (go_at_call 124; refine (mergeSpans_any b o c xs _ (HX2.out.call ‹Below w2.heap.size w2 _›) HV.out).mono ?_; rintro e w5 ⟨v5, rfl, ho5, hb5⟩; have hB5 := bel_call ‹Below w2.heap.size w2 _› hb5; have hO5 := OwnE.sub ho5 (‹Below w2.heap.size w2 _› : Below w2.heap.size w2 _).size)
        | (refine step_apps (by rfl) _ _ 72 (by rfl) 16 Try.underlying72 ii iz0 iz1 iz2 rfl (by omega) (fun _ => rfl) encI2_cell (by omega) w2.heap.size v5 (busyL xs) [⟨fb, fb⟩] _ (by first | exact hO5 | exact OwnE.alloc hO5 _) (by rfl) _ 0 1 1 (by rfl) (by rfl) (pair_cells (by first | (go_simp; done) | exact (hb5.cell (p := ⟨_, 0, none⟩) (by simp)).trans (by go_simp)) (by first | (go_simp; done) | exact (hb5.cell (p := ⟨_, 1, none⟩) (by simp)).trans (by go_simp))) (by simp; omega) (by have := hB5.size; first | omega | (simp; omega)) ?_; intro v6 w6 ho6 hb6 _; obtain ⟨A6, c6, rfl, _, _, hi6⟩ := OwnE.i2s ho6; have hB6 : Below w2.heap.size w2 w6 := Below.trans (by assumption) hb6))
    all_goals
      have HI := Lib.hid (hi6.to_below (Nat.le_refl _))
      have HBE := Lib.hid (bel_call HB0.out (bel_call HB2.out hB6))
      have HC6 := Lib.hid (hC w6 hB6).2
      have hz6 := hB6.size
      have hfd := q1
      clear hC ho6 hi6 hb6 hB6 hO5 ho5 hB5 hb5
      obtain ⟨L, hL⟩ : ∃ L, L = busyL xs ++ [(⟨fb, fb⟩ : I2)] := ⟨_, rfl⟩
      rw [← hL] at HI HLN ⊢
      have HALL : Hid ((freU ⟨fa, fb⟩ L L.length).1 = freeL xs ⟨fa, fb⟩) := Lib.hid (by rw [hL]; exact (freU_all ⟨fa, fb⟩ (busyL xs)).trans (freeL_eq HV.out hfd))
      obtain ⟨n, hnn⟩ : ∃ n, n = (busyL xs).length := ⟨_, rfl⟩
      rw [← hnn] at HLN hbl ⊢
      clear hL hnn
      go_wp2_with fail
      go_loopw [6, 7, 9, 10, 31] (fun out fr _ _ j wr => ∃ k : Nat, k ≤ n + 1 ∧ j = .int .i64 k ∧ OwnS wr w6.heap.size out (freU ⟨fa, fb⟩ L k).1 ∧ fr = .int .i64 (freU ⟨fa, fb⟩ L k).2 ∧ Below w6.heap.size w6 wr) (fun _ _ _ _ j _ => n + 1 - (intOf j).toNat)
      case atStart => exact ⟨0, Nat.zero_le _, rfl, OwnE.nil, rfl, Below.refl _ _⟩
      case round =>
        obtain ⟨k, hk, rfl, ho, rfl, hb⟩ := hrel
        have HO := Lib.hid ho
        have HB := Lib.hid hb
        have hz := hb.size
        have hfl := freU_len ⟨fa, fb⟩ L k
        clear ho hb
        by_cases hlt : k < n + 1
        · have hkl : k < L.length := by rw [HLN.out]; exact hlt
          obtain ⟨b1, o1, rfl, hbl1, d0, d1⟩ := I2sIn.at HI.out hkl
          have e0 : wr.cell? ⟨b1, o1 + k * 2, none⟩ = some (.int .i64 (nth2 L k).a) := (HB.out.cell (p := ⟨b1, _, none⟩) hbl1).trans d0
          have e1 : wr.cell? ⟨b1, o1 + k * 2 + 1, none⟩ = some (.int .i64 (nth2 L k).b) := (HB.out.cell (p := ⟨b1, _, none⟩) hbl1).trans d1
          have hik : (k : Int) < L.length := by omega
          have hik2 : (k : Int) < (n : Int) + 1 := by omega
          have hwl : w.heap.size < w6.heap.size := by omega
          have cw : wr.cell? ⟨w.heap.size, 1, none⟩ = some (.int .i64 fb) := (HB.out.cell (p := ⟨w.heap.size, 1, none⟩) hwl).trans HC6.out
          have hwr : w.heap.size < wr.heap.size := by omega
          have HS2 : Hid (freU ⟨fa, fb⟩ L (k + 1) = freS ⟨fa, fb⟩ (freU ⟨fa, fb⟩ L k) (nth2 L k)) := Lib.hid rfl
          generalize hs : nth2 L k = s at *
          obtain ⟨sa, sb⟩ := s
          simp only [] at e0 e1
          have W2B : Hid (Below wr.heap.size wr (wr.alloc (.cells #[.int .i64 sa, .int .i64 sb] 82))) := Lib.hid (by go_grown)
          have W2A : Hid ((wr.alloc (.cells #[.int .i64 sa, .int .i64 sb] 82)).cell? ⟨wr.heap.size, 0, none⟩ = some (.int .i64 sa)) := Lib.hid (by go_simp)
          have W2C : Hid ((wr.alloc (.cells #[.int .i64 sa, .int .i64 sb] 82)).cell? ⟨wr.heap.size, 1, none⟩ = some (.int .i64 sb)) := Lib.hid (by go_simp)
          have W2W : Hid ((wr.alloc (.cells #[.int .i64 sa, .int .i64 sb] 82)).cell? ⟨w.heap.size, 1, none⟩ = some (.int .i64 fb)) := Lib.hid ((W2B.out.cell (p := ⟨w.heap.size, 1, none⟩) hwr).trans cw)
          have hzb : wr.heap.size < (wr.alloc (.cells #[.int .i64 sa, .int .i64 sb] 82)).heap.size := by simp
          have HO2 := Lib.hid ((HO.out.apart (Nat.le_refl _)).call W2B.out)
          have HB3 := Lib.hid (HB.out.trans (W2B.out.mono hz))
          have HF1 : Hid (freS ⟨fa, fb⟩ (freU ⟨fa, fb⟩ L k) ⟨sa, sb⟩ = (if (freU ⟨fa, fb⟩ L k).2 < min sa fb then (freU ⟨fa, fb⟩ L k).1 ++ [⟨(freU ⟨fa, fb⟩ L k).2, min sa fb⟩] else (freU ⟨fa, fb⟩ L k).1, max (freU ⟨fa, fb⟩ L k).2 sb)) := Lib.hid rfl
          rw [HF1.out] at HS2
          clear hs d0 d1 HF1
          generalize hF : (freU ⟨fa, fb⟩ L k).2 = fr at *
          generalize hOo : (freU ⟨fa, fb⟩ L k).1 = out at *
          have hll : out.length ≤ 16777216 := by omega
          have hmn : sa ≤ fb ∨ ¬ sa ≤ fb := by omega
          clear hF hOo hfl
          by_cases hc : fr < min sa fb
          · have HP : Hid ((freU ⟨fa, fb⟩ L (k + 1)).1 = out ++ [⟨fr, min sa fb⟩] ∧ (freU ⟨fa, fb⟩ L (k + 1)).2 = max fr sb) := Lib.hid (by rw [HS2.out, if_pos hc]; exact ⟨rfl, rfl⟩)
            go_wp2_with (at_builtin; refine wp_appSX rfl _ _ rfl w6.heap.size wr.heap.size _ _ ⟨fr, min sa fb⟩ _ HO2.out rfl _ rfl (by simp) hll (by omega) (by omega) ?_; intro v' w' ho' hb' hs' hz'; have HO' := Lib.hid ho'.1; have HB' := Lib.hid (HB3.out.trans hb'); have f1 := (hs' 1).1.trans W2C.out; clear ho' hb' hs')
            go_roundw
            case rel => exact ⟨k + 1, by omega, by go_num, by rw [HP.out.1]; exact HO'.out, by rw [HP.out.2], HB'.out⟩
            case measure => simp [intOf]; omega
          · have HP : Hid ((freU ⟨fa, fb⟩ L (k + 1)).1 = out ∧ (freU ⟨fa, fb⟩ L (k + 1)).2 = max fr sb) := Lib.hid (by rw [HS2.out, if_neg hc]; exact ⟨rfl, rfl⟩)
            go_wp2_with fail
            go_roundw
            case rel => exact ⟨k + 1, by omega, by go_num, by rw [HP.out.1]; exact HO2.out.1, by rw [HP.out.2], HB3.out⟩
            case measure => simp [intOf]; omega
        · have hkn : k = L.length := by rw [HLN.out]; omega
          have hlt' : ¬ (k : Int) < (n : Int) + 1 := by omega
          have HKN := Lib.hid hkn
          clear hkn
          go_wp2_with fail
          go_ret2
          exact (OwnE.sub HO.out (by omega)).retSp (by rw [HKN.out, HALL.out, HS.out]) (bel_call HBE.out HB.out)
end Go.Proofs.Ytambgommeannnaa
