/- Calendars that are the call's own: marked and held. -/
import Derived.Test.YtpipegdjflniaaaCalZ
import Derived.Test.YtpipegdjflniaaaMrk
import Derived.Test.YtpipegdjflniaaaRet
namespace Go.Proofs.Ytpipegdjflniaaa
open Go.ChangeShapes Go.WideShapes Go.ChangeAt Go.RowKit Go.PlainAid
set_option linter.unusedVariables false
set_option linter.unusedSimpArgs false

/-- One block. -/
abbrev Zone.only (b : Nat) : Zone := Zone.new b (b + 1)
theorem Zone.only_ok {b c : Nat} (h : (Zone.only b).ok c) : c = b := by have := h.1; have := h.2; omega
theorem Mk.broad {a b lo hi : Nat} {w w' : World} (h : Mk a b w w') (h1 : lo ≤ a) (h2 : b ≤ hi) (h3 : hi ≤ w.heap.size) : Mk lo hi w w' :=
  ⟨h.os, h.tape, h.output, h.size, fun c hc hs => h.out c (by omega) hs, fun c h4 h5 o => by
    by_cases hc : c < a ∨ b ≤ c
    · have := h.same hc (by omega) o
      exact ⟨this.2, Or.inl this.1⟩
    · exact h.ins c (by omega) (by omega) o⟩
/-- Marks in a slice that lies in a block of its own, or is empty. -/
theorem markIntS_own (a lo hi : Nat) (A : Option Addr) (c : Nat) (xs : List Int) (K : Nat) (w : World) (h : IntsIn w (Zone.only a) A xs) (h0 : 0 < xs.length → lo ≤ a ∧ a < hi) (hh : hi ≤ w.heap.size) (hn : xs.length ≤ 1048576) (hK : K ≤ 1099511627776) :
    Calls Try.prog 17 #[.slice A xs.length c, .int .i64 (K : Nat)] w fun e w' => e = .returned (.int .i64 ((K + xs.length : Nat) : Int)) ∧ Mk lo hi w w' ∧ IntsIn w' (Zone.only a) A (marks K xs.length) ∧ ∀ t, (0 < xs.length → t ≠ a) → t < w.heap.size → Same w w' t := by
  by_cases hx : 0 < xs.length
  · have h1 := h0 hx
    refine (markIntS_any a (a + 1) A c xs K w h hn hK).mono ?_
    rintro e w' ⟨he, hm, hi'⟩
    exact ⟨he, hm.broad h1.1 h1.2 hh, hi', fun t ht hs => hm.same (by have := ht hx; omega) hs⟩
  · have h2 : IntsIn w (Zone.new w.heap.size w.heap.size) A xs := fun h => absurd h hx
    refine (markIntS_any w.heap.size w.heap.size A c xs K w h2 hn hK).mono ?_
    rintro e w' ⟨he, hm, hi'⟩
    exact ⟨he, Mk.of_below (hm.below (Nat.le_refl _)) hh, fun h => absurd h (by rw [marks_length]; exact hx), fun t _ hs => hm.same (.inl hs) hs⟩

/-- A calendar's two slices. -/
structure CalR (w : World) (Z : Zone) (A R : Option Addr) (us vs : List Int) : Prop where
  u : IntsIn w Z A us
  v : IntsIn w Z R vs
section
variable {w w' : World} {Z Z' : Zone} {A R : Option Addr} {us vs : List Int} {lo hi B : Nat}
theorem CalR.keep (h : CalR w Z A R us vs) (hs : ∀ c, Z.ok c → Same w w' c) : CalR w' Z A R us vs := ⟨h.u.keep hs, h.v.keep hs⟩
theorem CalR.mono (h : CalR w Z A R us vs) (hz : Z.le Z') : CalR w Z' A R us vs := ⟨h.u.mono hz, h.v.mono hz⟩
theorem CalR.new_call (h : CalR w (Zone.new lo hi) A R us vs) (hb : Below B w w') (hB : hi ≤ B) : CalR w' (Zone.new lo hi) A R us vs := ⟨h.u.new_call hb hB, h.v.new_call hb hB⟩
theorem CalR.to_below (h : CalR w (Zone.new lo hi) A R us vs) (hB : hi ≤ B) : CalR w (Zone.below B) A R us vs := ⟨h.u.to_below hB, h.v.to_below hB⟩
/-- The two slices in blocks of their own. -/
structure COwn (w : World) (lo hi : Nat) (A R : Option Addr) (us vs : List Int) (a b : Nat) : Prop where
  u : IntsIn w (Zone.only a) A us
  v : IntsIn w (Zone.only b) R vs
  a0 : 0 < us.length → lo ≤ a ∧ a < hi
  b0 : 0 < vs.length → lo ≤ b ∧ b < hi
  ne : 0 < us.length → 0 < vs.length → a ≠ b
theorem only_keep {xs : List Int} {a : Nat} (h : IntsIn w (Zone.only a) A xs) (hs : 0 < xs.length → Same w w' a) : IntsIn w' (Zone.only a) A xs := fun hx => (h.keep fun c hc => by rw [Zone.only_ok hc]; exact hs hx) hx
theorem only_in {xs : List Int} {a : Nat} (h : IntsIn w (Zone.only a) A xs) (h0 : 0 < xs.length → lo ≤ a ∧ a < hi) : IntsIn w (Zone.new lo hi) A xs := fun hx => (h.mono (Zone.new_le (h0 hx).1 (h0 hx).2)) hx
def CalO (w : World) (lo hi : Nat) (A R : Option Addr) (us vs : List Int) : Prop := ∃ a b, COwn w lo hi A R us vs a b
theorem CalO.keep (h : CalO w lo hi A R us vs) (hs : ∀ c, lo ≤ c ∧ c < hi → Same w w' c) : CalO w' lo hi A R us vs := by
  obtain ⟨a, b, h⟩ := h
  exact ⟨a, b, only_keep h.u (fun hx => hs _ (h.a0 hx)), only_keep h.v (fun hx => hs _ (h.b0 hx)), h.a0, h.b0, h.ne⟩
theorem CalO.new_call (h : CalO w lo hi A R us vs) (hb : Below B w w') (hB : hi ≤ B) : CalO w' lo hi A R us vs := h.keep fun c hc => Same.of_below hb (by omega)
theorem CalO.to_new (h : CalO w lo hi A R us vs) : CalR w (Zone.new lo hi) A R us vs := by
  obtain ⟨a, b, h⟩ := h
  exact ⟨only_in h.u h.a0, only_in h.v h.b0⟩
theorem CalO.to_below (h : CalO w lo hi A R us vs) (hB : hi ≤ B) : CalR w (Zone.below B) A R us vs := h.to_new.to_below hB
theorem CalO.nil : CalO w lo hi A R [] [] := ⟨0, 1, fun h => by simp at h, fun h => by simp at h, fun h => by simp at h, fun h => by simp at h, fun h => by simp at h⟩
theorem CalO.wide {lo' hi' : Nat} (h : CalO w lo hi A R us vs) (h1 : lo' ≤ lo) (h2 : hi ≤ hi') : CalO w lo' hi' A R us vs := by
  obtain ⟨a, b, h⟩ := h
  exact ⟨a, b, h.u, h.v, fun hx => by have := h.a0 hx; omega, fun hx => by have := h.b0 hx; omega, h.ne⟩
end

set_option maxRecDepth 100000 in
set_option maxHeartbeats 1000000 in
theorem markCalendar_own (lo hi : Nat) (f t d : Int) (A R : Option Addr) (ca cr : Nat) (us vs : List Int) (K : Nat) (w : World) (h : CalO w lo hi A R us vs) (hh : hi ≤ w.heap.size) (hn : us.length ≤ 1048576) (hm : vs.length ≤ 1048576) (hK : K ≤ 1048576 * 1048576 - 4 * 1048576) :
    Calls Try.prog 7 #[.agg #[.int .i64 f, .int .i64 t, .int .i64 d, .slice A us.length ca, .slice R vs.length cr], .int .i64 (K : Nat)] w fun e w' => e = .returned (.int .i64 ((K + (us.length + vs.length) : Nat) : Int)) ∧ Mk lo hi w w' ∧ CalR w' (Zone.new lo hi) A R (marks K us.length) (marks (K + us.length) vs.length) := by
  have hb : Below w.heap.size w (w.alloc (.cells #[.int .i64 f, .int .i64 t, .int .i64 d, .slice A us.length ca, .slice R vs.length cr] 24)) := by go_grown
  have hz : w.heap.size < (w.alloc (.cells #[.int .i64 f, .int .i64 t, .int .i64 d, .slice A us.length ca, .slice R vs.length cr] 24)).heap.size := by simp
  have HM0 : Hid (Mk lo hi w (w.alloc (.cells #[.int .i64 f, .int .i64 t, .int .i64 d, .slice A us.length ca, .slice R vs.length cr] 24))) := Lib.hid (Mk.of_below hb hh)
  obtain ⟨a, b, hO⟩ := h.new_call hb hh
  have HO := Lib.hid hO
  have hq := markIntS_own a lo hi A ca us K _ hO.u hO.a0 (by omega) hn (by omega)
  push_cast at hq
  have HQ := Lib.hid hq
  have hc : (w.alloc (.cells #[.int .i64 f, .int .i64 t, .int .i64 d, .slice A us.length ca, .slice R vs.length cr] 24)).cell? ⟨w.heap.size, 4, none⟩ = some (.slice R vs.length cr) := by go_simp
  have HC := Lib.hid hc
  clear hq hb h hc hO
  go_enter Try.func7, Try.ntmps7
  go_wp2_with fail
  generalize (w.alloc (.cells #[.int .i64 f, .int .i64 t, .int .i64 d, .slice A us.length ca, .slice R vs.length cr] 24)) = w0 at *
  refine HQ.out.mono ?_
  rintro e w1 ⟨rfl, hm1, hi1, hs1⟩
  have HM1 := Lib.hid (HM0.out.trans hm1)
  have HI1 := Lib.hid hi1
  have HS1 := Lib.hid hs1
  have hz1 := hm1.size
  have hc : w1.cell? ⟨w.heap.size, 4, none⟩ = some (.slice R vs.length cr) := (hm1.same (b := w.heap.size) (.inr hh) hz 4).1.trans HC.out
  have hv1 : IntsIn w1 (Zone.only b) R vs := fun hx => (only_keep HO.out.v (fun hx => hs1 b (fun hu e => HO.out.ne hu hx e.symm) (by have := HO.out.b0 hx; omega))) hx
  have hq := markIntS_own b lo hi R cr vs (K + us.length) _ hv1 HO.out.b0 (by omega) hm (by omega)
  push_cast at hq
  have HQ2 := Lib.hid hq
  clear hm1 hi1 hq hs1 hv1
  go_wp2_with fail
  refine HQ2.out.mono ?_
  rintro e w2 ⟨rfl, hm2, hi2, hs2⟩
  have HM2 := Lib.hid (HM1.out.trans hm2)
  have HI2 := Lib.hid hi2
  have HS2 := Lib.hid hs2
  clear hm2 hc hi2 hs2
  go_wp2_with fail
  go_ret
  refine ⟨retI (by push_cast; omega), HM2.out, ?_, ?_⟩
  · refine only_in (a := a) (only_keep HI1.out (fun hx => HS2.out a (fun hv e => HO.out.ne (by rw [marks_length] at hx; exact hx) hv e) (by rw [marks_length] at hx; have := HO.out.a0 hx; omega))) (fun hx => HO.out.a0 (by rw [marks_length] at hx; exact hx))
  · exact only_in (a := b) HI2.out (fun hx => HO.out.b0 (by rw [marks_length] at hx; exact hx))

set_option maxRecDepth 100000 in
set_option maxHeartbeats 1000000 in
theorem heldCalendar_any (f t d : Int) (A R : Option Addr) (ca cr : Nat) (na nr : Nat) (K : Nat) (w : World) (h : CalR w (Zone.below w.heap.size) A R (marks K na) (marks (K + na) nr)) (hn : na ≤ 1048576) (hm : nr ≤ 1048576) (hK : K ≤ 1048576 * 1048576 - 4 * 1048576) :
    Calls Try.prog 8 #[.agg #[.int .i64 f, .int .i64 t, .int .i64 d, .slice A na ca, .slice R nr cr], .int .i64 (K : Nat)] w fun e w' => e = .returned (.int .i64 ((K + (na + nr) : Nat) : Int)) ∧ Below w.heap.size w w' := by
  have hb : Below w.heap.size w (w.alloc (.cells #[.int .i64 f, .int .i64 t, .int .i64 d, .slice A na ca, .slice R nr cr] 24)) := by go_grown
  have HB := Lib.hid hb
  have hq := heldIntS_any A ca na K _ _ (h.u.at_below hb) hn (by omega)
  have hq2 := heldIntS_any R cr nr (K + na) _ _ (h.v.at_below hb) hm (by omega)
  push_cast at hq hq2
  have HQ := Lib.hid hq
  have HQ2 := Lib.hid hq2
  have hc : (w.alloc (.cells #[.int .i64 f, .int .i64 t, .int .i64 d, .slice A na ca, .slice R nr cr] 24)).cell? ⟨w.heap.size, 4, none⟩ = some (.slice R nr cr) := by go_simp
  clear hq hq2 hb h
  go_enter Try.func8, Try.ntmps8
  go_wp2_with fail
  generalize (w.alloc (.cells #[.int .i64 f, .int .i64 t, .int .i64 d, .slice A na ca, .slice R nr cr] 24)) = w0 at *
  refine HQ.out.mono ?_
  rintro e w1 ⟨rfl, rfl⟩
  go_wp2_with fail
  refine HQ2.out.mono ?_
  rintro e w2 ⟨rfl, rfl⟩
  clear hc
  go_wp2_with fail
  go_ret
  exact ⟨retI (by push_cast; omega), HB.out⟩

/-- What a function hands back that makes a calendar: its own. -/
def RetCal (f t d : Int) (us vs : List Int) (b : Bool) (w : World) (e : Ending) (w' : World) : Prop :=
  ∃ A ca R cr, e = .returned (.tuple #[.agg #[.int .i64 f, .int .i64 t, .int .i64 d, .slice A us.length ca, .slice R vs.length cr], .bool b]) ∧ CalO w' w.heap.size w'.heap.size A R us vs ∧ Below w.heap.size w w'
/-- The same, read only. -/
def RetCalR (f t d : Int) (us vs : List Int) (b : Bool) (w : World) (e : Ending) (w' : World) : Prop :=
  ∃ A ca R cr, e = .returned (.tuple #[.agg #[.int .i64 f, .int .i64 t, .int .i64 d, .slice A us.length ca, .slice R vs.length cr], .bool b]) ∧ CalR w' (Zone.new w.heap.size w'.heap.size) A R us vs ∧ Below w.heap.size w w'
end Go.Proofs.Ytpipegdjflniaaa
