/- Stop times: the program's words. -/
import Derived.Test.YtambgommeannnaaTrr
namespace Go.Proofs.Ytambgommeannnaa
open Go.ChangeShapes Go.WideShapes Go.ChangeAt Go.RowKit Go.PlainAid
set_option linter.unusedVariables false
set_option linter.unusedSimpArgs false

/-- A line's value whose slices lie below block B0. -/
def RetLineB (B0 : Nat) (y : LineD) (w : World) (e : Ending) (w' : World) : Prop :=
  ∃ S cs R cr, e = .returned (.agg #[.string y.name, .slice S y.stops.length cs, .slice R y.runs.length cr]) ∧ IntsIn w' (Zone.below B0) S y.stops ∧ IntsIn w' (Zone.below B0) R y.runs ∧ CapOk y.stops.length cs ∧ CapOk y.runs.length cr ∧ Below w.heap.size w w'

set_option maxRecDepth 100000 in
set_option maxHeartbeats 2000000 in
theorem lineOf_any (B0 : Nat) (x : TTD) (A L T : Option Addr) (ca cl ct : Nat) (t : I3) (w : World) (hL : LinesIn w (Zone.below B0) L x.net.lines) (hB : B0 ≤ w.heap.size) (h0 : 0 ≤ t.b) (h1 : t.b < x.net.lines.length) (hm : x.net.lines.length ≤ 1048576) :
    Calls Try.prog 92 #[.agg #[.slice A x.net.stops.length ca, .slice L x.net.lines.length cl, .slice T x.trips.length ct], .agg #[.int .i64 t.a, .int .i64 t.b, .int .i64 t.c]] w (RetLineB B0 (nthL x.net.lines t.b.toNat) w) := by
  obtain ⟨k, hk⟩ : ∃ k : Nat, t.b = k := ⟨t.b.toNat, by omega⟩
  have hkl : k < x.net.lines.length := by omega
  have hln : t.b.toNat = k := by omega
  rw [hln]
  obtain ⟨b, o, rfl, hbl, S, cs, R, cr, hc0, hc1, hc2, hi1, hi2, hcs, hcr⟩ := LinesIn.lineC hL hkl
  have HI1 := Lib.hid hi1
  have HI2 := Lib.hid hi2
  have HCP := Lib.hid (And.intro hcs hcr)
  have hkk : (k : Int) < x.net.lines.length := by omega
  have hlb : b < w.heap.size := Nat.lt_of_lt_of_le hbl hB
  obtain ⟨ta, tb, tc⟩ := t
  simp only [] at hk
  subst hk
  have hb0 : Below w.heap.size w (((w.alloc (.cells #[.slice A x.net.stops.length ca, .slice (some ⟨b, o, none⟩) x.net.lines.length cl, .slice T x.trips.length ct] 49)).alloc (.cells #[.int .i64 ta, .int .i64 k, .int .i64 tc] 94)).alloc (.cells #[.string ⟨#[]⟩, .slice none 0 0, .slice none 0 0] 113)) := by go_grown
  have HB0 := Lib.hid hb0
  have e1 : (((w.alloc (.cells #[.slice A x.net.stops.length ca, .slice (some ⟨b, o, none⟩) x.net.lines.length cl, .slice T x.trips.length ct] 49)).alloc (.cells #[.int .i64 ta, .int .i64 k, .int .i64 tc] 94)).alloc (.cells #[.string ⟨#[]⟩, .slice none 0 0, .slice none 0 0] 113)).cell? ⟨w.heap.size, 1, none⟩ = some (.slice (some ⟨b, o, none⟩) x.net.lines.length cl) := by go_simp
  have g1 : (((w.alloc (.cells #[.slice A x.net.stops.length ca, .slice (some ⟨b, o, none⟩) x.net.lines.length cl, .slice T x.trips.length ct] 49)).alloc (.cells #[.int .i64 ta, .int .i64 k, .int .i64 tc] 94)).alloc (.cells #[.string ⟨#[]⟩, .slice none 0 0, .slice none 0 0] 113)).cell? ⟨w.heap.size + 1, 1, none⟩ = some (.int .i64 k) := by go_simp
  have f0 : (((w.alloc (.cells #[.slice A x.net.stops.length ca, .slice (some ⟨b, o, none⟩) x.net.lines.length cl, .slice T x.trips.length ct] 49)).alloc (.cells #[.int .i64 ta, .int .i64 k, .int .i64 tc] 94)).alloc (.cells #[.string ⟨#[]⟩, .slice none 0 0, .slice none 0 0] 113)).cell? ⟨w.heap.size + 1 + 1, 0, none⟩ = some (.string ⟨#[]⟩) := by go_simp
  have f1 : (((w.alloc (.cells #[.slice A x.net.stops.length ca, .slice (some ⟨b, o, none⟩) x.net.lines.length cl, .slice T x.trips.length ct] 49)).alloc (.cells #[.int .i64 ta, .int .i64 k, .int .i64 tc] 94)).alloc (.cells #[.string ⟨#[]⟩, .slice none 0 0, .slice none 0 0] 113)).cell? ⟨w.heap.size + 1 + 1, 1, none⟩ = some (.slice none 0 0) := by go_simp
  have f2 : (((w.alloc (.cells #[.slice A x.net.stops.length ca, .slice (some ⟨b, o, none⟩) x.net.lines.length cl, .slice T x.trips.length ct] 49)).alloc (.cells #[.int .i64 ta, .int .i64 k, .int .i64 tc] 94)).alloc (.cells #[.string ⟨#[]⟩, .slice none 0 0, .slice none 0 0] 113)).cell? ⟨w.heap.size + 1 + 1, 2, none⟩ = some (.slice none 0 0) := by go_simp
  have fz : ∀ j, (((w.alloc (.cells #[.slice A x.net.stops.length ca, .slice (some ⟨b, o, none⟩) x.net.lines.length cl, .slice T x.trips.length ct] 49)).alloc (.cells #[.int .i64 ta, .int .i64 k, .int .i64 tc] 94)).alloc (.cells #[.string ⟨#[]⟩, .slice none 0 0, .slice none 0 0] 113)).frozen? ⟨w.heap.size + 1 + 1, j, none⟩ = false := fun j => by go_simp
  have l0 := (hb0.cell (p := ⟨b, o + k * 3, none⟩) hlb).trans hc0
  have l1 := (hb0.cell (p := ⟨b, o + k * 3 + 1, none⟩) hlb).trans hc1
  have l2 := (hb0.cell (p := ⟨b, o + k * 3 + 2, none⟩) hlb).trans hc2
  have hzz : w.heap.size + 1 + 1 < (((w.alloc (.cells #[.slice A x.net.stops.length ca, .slice (some ⟨b, o, none⟩) x.net.lines.length cl, .slice T x.trips.length ct] 49)).alloc (.cells #[.int .i64 ta, .int .i64 k, .int .i64 tc] 94)).alloc (.cells #[.string ⟨#[]⟩, .slice none 0 0, .slice none 0 0] 113)).heap.size := by simp
  clear hL h0 h1 hln hi1 hi2 hcs hcr hc0 hc1 hc2 hb0
  go_enter Try.func92, Try.ntmps92
  go_wp2_with fail
  refine bodyPost_ret (v := .agg #[.string (nthL x.net.lines k).name, .slice S (nthL x.net.lines k).stops.length cs, .slice R (nthL x.net.lines k).runs.length cr]) (by simp [results, Try.results92, go_sem, f0, f1, f2]) rfl ?_
  have hb : Below w.heap.size w (((w.alloc (.cells #[.slice A x.net.stops.length ca, .slice (some ⟨b, o, none⟩) x.net.lines.length cl, .slice T x.trips.length ct] 49)).alloc (.cells #[.int .i64 ta, .int .i64 k, .int .i64 tc] 94)).alloc (.cells #[.string (nthL x.net.lines k).name, .slice S (nthL x.net.lines k).stops.length cs, .slice R (nthL x.net.lines k).runs.length cr] 113)) := by go_grown
  have hbB : Below B0 w _ := hb.mono hB
  exact ⟨S, cs, R, cr, rfl, HI1.out.at_below hbB, HI2.out.at_below hbB, HCP.out.1, HCP.out.2, hb⟩

/-- A slice of integers in new memory. -/
def RetI1 (xs : List Int) (w : World) (e : Ending) (w' : World) : Prop :=
  ∃ A c, e = .returned (.slice A xs.length c) ∧ IntsIn w' (Zone.new w.heap.size w'.heap.size) A xs ∧ Below w.heap.size w w'
theorem OwnE.ret1 {w0 w : World} {B : Nat} {v : Value} {xs : List Int} (h : OwnI w B v xs) (hB : w0.heap.size ≤ B) (hb : Below w0.heap.size w0 w) : RetI1 xs w0 (.returned v) w := by
  obtain ⟨A, c, rfl, _, _, hi⟩ := h.ints
  exact ⟨A, c, rfl, hi.mono (Zone.new_le hB (Nat.le_refl _)), hb⟩
theorem OwnI.one {B : Nat} (w : World) (y : Int) (hb : B ≤ w.heap.size) : OwnI (w.alloc (.cells #[.int .i64 y] 3)) B (.slice (some ⟨w.heap.size, 0, none⟩) 1 1) [y] :=
  World.ownsRow_lit w #[.int .i64 y] 1 hb (by unfold maxLen; omega) rfl

/-- The first n stop times of a trip. -/
def atT (x : TTD) (t : I3) (k : Nat) : Int := t.c + sumI (nthL x.net.lines t.b.toNat).runs k
def yesN (_ : Nat) : Bool := true
theorem all_step (f : Nat → Int) (k : Nat) : pickI f yesN (k + 1) = pickI f yesN k ++ [f k] := pick_yes rfl
theorem all_len (f : Nat → Int) (n : Nat) : (pickI f yesN n).length = n := by
  induction n with
  | zero => rfl
  | succ n ih => rw [all_step, List.length_append, ih]; rfl
theorem nth_all (f : Nat → Int) {n k : Nat} (h : k < n) : nth (pickI f yesN n) k = f k := by
  induction n with
  | zero => omega
  | succ n ih =>
    rw [all_step]
    unfold nth
    rw [List.getD_eq_getElem?_getD]
    by_cases e : k = n
    · subst e
      rw [List.getElem?_append_right (by rw [all_len]; omega), all_len, Nat.sub_self]
      rfl
    · rw [List.getElem?_append_left (by rw [all_len]; omega)]
      have := ih (by omega)
      unfold nth at this
      rw [List.getD_eq_getElem?_getD] at this
      exact this

set_option maxRecDepth 100000 in
set_option maxHeartbeats 4000000 in
theorem stopTimes_any (x : TTD) (A L T : Option Addr) (ca cl ct : Nat) (t : I3) (w : World) (hA : StrsIn w (Zone.below w.heap.size) A x.net.stops) (hL : LinesIn w (Zone.below w.heap.size) L x.net.lines) (hT : I3sIn w (Zone.below w.heap.size) T x.trips) (hg : netB x.net = true) (h0 : 0 ≤ t.b) (h1 : t.b < x.net.lines.length) (c0 : 0 ≤ t.c) (c1 : t.c ≤ 1799) (hm : x.net.lines.length ≤ 1048576) :
    Calls Try.prog 90 #[.agg #[.slice A x.net.stops.length ca, .slice L x.net.lines.length cl, .slice T x.trips.length ct], .agg #[.int .i64 t.a, .int .i64 t.b, .int .i64 t.c]] w (RetI1 (pickI (atT x t) yesN ((nthL x.net.lines t.b.toNat).runs.length + 1)) w) := by
  obtain ⟨hd, hr⟩ := netB_runs hg (k := t.b.toNat) (by omega)
  unfold LineHd at hd
  have HR := Lib.hid hr
  have HAT : Hid (∀ k, atT x t k = t.c + sumI (nthL x.net.lines t.b.toNat).runs k) := Lib.hid (fun _ => rfl)
  have H0 : Hid (TtBox w (w.alloc (.cells #[.slice A x.net.stops.length ca, .slice L x.net.lines.length cl, .slice T x.trips.length ct] 49)) w.heap.size x A ca L cl T ct) := Lib.hid (TtBox.box hA hL hT)
  have H1 : Hid (TtBox w (((w.alloc (.cells #[.slice A x.net.stops.length ca, .slice L x.net.lines.length cl, .slice T x.trips.length ct] 49)).alloc (.cells #[.int .i64 t.a, .int .i64 t.b, .int .i64 t.c] 94)).alloc (.cells #[.int .i64 t.c] 3)) w.heap.size x A ca L cl T ct) := Lib.hid (H0.out.call (by go_grown))
  have HT : Hid (Tr3 (((w.alloc (.cells #[.slice A x.net.stops.length ca, .slice L x.net.lines.length cl, .slice T x.trips.length ct] 49)).alloc (.cells #[.int .i64 t.a, .int .i64 t.b, .int .i64 t.c] 94)).alloc (.cells #[.int .i64 t.c] 3)) (w.heap.size + 1) t) := Lib.hid ⟨by go_simp, by go_simp, by go_simp⟩
  have O1 : Hid (OwnI (((w.alloc (.cells #[.slice A x.net.stops.length ca, .slice L x.net.lines.length cl, .slice T x.trips.length ct] 49)).alloc (.cells #[.int .i64 t.a, .int .i64 t.b, .int .i64 t.c] 94)).alloc (.cells #[.int .i64 t.c] 3)) (w.heap.size + 2) (.slice (some ⟨w.heap.size + 1 + 1, 0, none⟩) 1 1) [t.c]) := Lib.hid (by simpa using OwnI.one (B := w.heap.size + 2) ((w.alloc (.cells #[.slice A x.net.stops.length ca, .slice L x.net.lines.length cl, .slice T x.trips.length ct] 49)).alloc (.cells #[.int .i64 t.a, .int .i64 t.b, .int .i64 t.c] 94)) t.c (by simp))
  have hz1 : w.heap.size + 2 ≤ (((w.alloc (.cells #[.slice A x.net.stops.length ca, .slice L x.net.lines.length cl, .slice T x.trips.length ct] 49)).alloc (.cells #[.int .i64 t.a, .int .i64 t.b, .int .i64 t.c] 94)).alloc (.cells #[.int .i64 t.c] 3)).heap.size := by simp
  clear hA hL hT hr H0
  go_enter Try.func90, Try.ntmps90
  go_wp2_with fail
  generalize (((w.alloc (.cells #[.slice A x.net.stops.length ca, .slice L x.net.lines.length cl, .slice T x.trips.length ct] 49)).alloc (.cells #[.int .i64 t.a, .int .i64 t.b, .int .i64 t.c] 94)).alloc (.cells #[.int .i64 t.c] 3)) = w1 at *
  have hz1' : w.heap.size + 1 + 1 ≤ w1.heap.size := hz1
  refine (lineOf_any w.heap.size x _ _ _ _ _ _ t _ H1.out.lines0 (by omega) h0 h1 hm).mono ?_
  rintro e w2 ⟨S, cs, R, cr, rfl, _, hi2, _, _, hb2⟩
  have H2 := Lib.hid (H1.out.call hb2)
  have O2 := Lib.hid (O1.out.call hb2)
  have hz2 : w.heap.size + 2 ≤ w2.heap.size := Nat.le_trans hz1 hb2.size
  have HI := Lib.hid hi2
  have hfd : ∀ w', (Instr.field 113 (.agg #[.string (nthL x.net.lines t.b.toNat).name, .slice S (nthL x.net.lines t.b.toNat).stops.length cs, .slice R (nthL x.net.lines t.b.toNat).runs.length cr]) 2).run Try.prog w' = .ok (.slice R (nthL x.net.lines t.b.toNat).runs.length cr) w' := fun _ => by kernel_rfl
  clear hb2 hi2 hg h0 h1
  generalize nthL x.net.lines t.b.toNat = y at *
  go_wp2_with fail
  clear hfd
  go_loopw [5, 6, 7, 16] (fun v _ _ i wr => ∃ k : Nat, k ≤ y.runs.length ∧ i = .int .i64 k ∧ OwnI wr (w.heap.size + 2) v (pickI (atT x t) yesN (k + 1)) ∧ Below (w.heap.size + 2) w2 wr) (fun _ _ _ i _ => y.runs.length - (intOf i).toNat)
  case atStart => exact ⟨0, Nat.zero_le _, rfl, by rw [all_step, HAT.out]; simpa [pickI, sumI] using O2.out, Below.refl _ _⟩
  case round =>
    obtain ⟨k, hk, rfl, ho, hb⟩ := hrel
    obtain ⟨A3, c3, rfl, _, _, hia⟩ := ho.ints
    have O3 := Lib.hid ho
    have HB := Lib.hid hb
    have H3 := Lib.hid (H2.out.callB hb (by omega))
    have hz3 : w.heap.size + 2 ≤ wr.heap.size := Nat.le_trans hz2 hb.size
    have hal := all_len (atT x t) (k + 1)
    have HI3 := Lib.hid (HI.out.at_below (hb.mono (by omega)))
    clear ho hb
    by_cases hlt : k < y.runs.length
    · obtain ⟨b, o, rfl, _, hc⟩ := (IntsIn.at HI3.out).get hlt
      obtain ⟨b2, o2, rfl, _, _, hcc⟩ := hia (by omega)
      have hck : wr.cell? ⟨b2, o2 + k, none⟩ = some (.int .i64 (t.c + sumI y.runs k)) := by
        have h := hcc k (by omega)
        have e : (pickI (atT x t) yesN (k + 1)).getD k default = t.c + sumI y.runs k := by rw [← HAT.out k]; exact nth_all (atT x t) (Nat.lt_succ_self k)
        rw [e] at h
        exact h
      have h4 := HR.out k hlt
      have h5 := sumI_bd HR.out k hk
      have hik : (k : Int) < y.runs.length := by omega
      have hik2 : (k : Int) < ((pickI (atT x t) yesN (k + 1)).length : Nat) := by omega
      have HF : Hid (pickI (atT x t) yesN (k + 1 + 1) = pickI (atT x t) yesN (k + 1) ++ [t.c + sumI y.runs k + nth y.runs k]) := Lib.hid (by rw [all_step _ (k + 1), HAT.out]; congr 2; simp only [sumI]; omega)
      have HAL := Lib.hid hal
      clear hcc hal hia
      go_wp2_with (at_builtin; refine wp_appI rfl _ _ rfl (w.heap.size + 2) _ (pickI (atT x t) yesN (k + 1)) (t.c + sumI y.runs k + nth y.runs k) _ O3.out rfl _ rfl (by simp) (by have := HAL.out; omega) (by omega) ?_; intro v' w' ho' hb'; have O6 := Lib.hid ho'; have HB6 := Lib.hid (HB.out.trans hb'); clear ho' hb')
      go_roundw
      case rel => exact ⟨k + 1, by omega, by go_num, by rw [HF.out]; exact O6.out, HB6.out⟩
      case measure => simp [intOf]; omega
    · obtain rfl : k = y.runs.length := by omega
      clear hal hia
      go_wp2_with fail
      go_ret
      exact O3.out.ret1 (by omega) H3.out.bel
end Go.Proofs.Ytambgommeannnaa
