/- Contracts of the functions that tell whether a calendar is valid. -/
import Derived.Test.YtpipegdjflniaaaCalA
namespace Go.Proofs.Ytpipegdjflniaaa
open Go.ChangeShapes Go.WideShapes Go.ChangeAt Go.RowKit Go.PlainAid
set_option linter.unusedVariables false

/-- Is the weekday of a day in a set? -/
def wdB (d day : Int) : Bool := bits BinOp.and IntKind.i64 (d / 2 ^ (day % 7).toNat) 1 == 1

theorem byWeekday_any (d day : Int) (w : World) (h0 : 0 ≤ day) (h1 : day ≤ 3650) (h2 : 0 ≤ d) (h3 : d ≤ 127) :
    Calls Try.prog 27 #[.int .i64 d, .int .i64 day] w fun e w' => e = .returned (.bool (wdB d day)) ∧ w = w' := by
  go_enter Try.func27, Try.ntmps27
  go_wp2
  go_ret
  exact ⟨rfl, rfl⟩
theorem l3Regular_any (f t d : Int) (A R : Option Addr) (na ca nr cr : Nat) (day : Int) (w : World) (h0 : 0 ≤ day) (h1 : day ≤ 3650) (h2 : 0 ≤ d) (h3 : d ≤ 127) :
    Calls Try.prog 22 #[.agg #[.int .i64 f, .int .i64 t, .int .i64 d, .slice A na ca, .slice R nr cr], .int .i64 day] w fun e w' => e = .returned (.bool (inB day f t && wdB d day)) ∧ w' = w.alloc (.cells #[.int .i64 f, .int .i64 t, .int .i64 d, .slice A na ca, .slice R nr cr] 24) := by
  cases hb : inB day f t
  all_goals
    go_enter Try.func22, Try.ntmps22
    go_wp2_with (go_at_call 19; refine (l1In_any _ _ _ _).mono ?_; rintro e w1 ⟨rfl, rfl⟩)
    go_ret
    exact ⟨rfl, rfl⟩

/-- The first k numbers lie within bounds and rise. -/
def RiseTo (xs : List Int) (lo hi : Int) (k : Nat) : Prop := ∀ i, i < k → (lo ≤ nth xs i ∧ nth xs i ≤ hi) ∧ (0 < i → nth xs (i - 1) < nth xs i)
instance (xs : List Int) (lo hi : Int) (k : Nat) : Decidable (RiseTo xs lo hi k) := by unfold RiseTo; infer_instance
def riseB (xs : List Int) (lo hi : Int) : Bool := decide (RiseTo xs lo hi xs.length)
theorem riseB_iff {xs : List Int} {lo hi : Int} : riseB xs lo hi = true ↔ RiseTo xs lo hi xs.length := by simp [riseB]
theorem riseB_no {xs : List Int} {lo hi : Int} (h : ¬ RiseTo xs lo hi xs.length) : riseB xs lo hi = false := by simp [riseB, h]
theorem RiseTo.step {xs : List Int} {lo hi : Int} {k : Nat} (h : RiseTo xs lo hi k) (h1 : lo ≤ nth xs k) (h2 : nth xs k ≤ hi) (h3 : 0 < k → nth xs (k - 1) < nth xs k) : RiseTo xs lo hi (k + 1) := fun i hi => by
  by_cases e : i = k
  · subst e; exact ⟨⟨h1, h2⟩, h3⟩
  · exact h i (by omega)

set_option maxHeartbeats 1000000 in
theorem l1Rising_any (A : Option Addr) (c : Nat) (xs : List Int) (lo hi : Int) (w : World) (h : IntsAt w w.heap.size A xs) (hn : xs.length ≤ 1048576) :
    Calls Try.prog 21 #[.slice A xs.length c, .int .i64 lo, .int .i64 hi] w fun e w' => e = .returned (.bool (riseB xs lo hi)) ∧ Dr w w' := by
  have HX := Lib.hid h
  clear h
  go_enter Try.func21, Try.ntmps21
  go_wp2
  go_loopw [7] (fun i wr => ∃ k : Nat, k ≤ xs.length ∧ i = .int .i64 k ∧ RiseTo xs lo hi k ∧ Dr w wr) (fun i _ => xs.length - (intOf i).toNat)
  case atStart => exact ⟨0, Nat.zero_le _, rfl, fun i hi => by omega, Dr.refl _⟩
  case round =>
    obtain ⟨k, hk, rfl, hr, hd⟩ := hrel
    have HR := Lib.hid hr
    have HD := Lib.hid hd
    clear hr hd
    by_cases hlt : k < xs.length
    · obtain ⟨b, o, rfl, hbl, hc0⟩ := (HD.out.ints HX.out) (by omega)
      have hc := hc0 k hlt
      have hi1 : (k : Int) < (xs.length : Int) := by omega
      cases hin : inB (nth xs k) lo hi
      · have HF := Lib.hid (riseB_no (xs := xs) (lo := lo) (hi := hi) (fun hr => inB_iff'.1 hin (hr k hlt).1))
        clear hc0
        go_wp2
        go_quiet ((go_at_call 19; exact quietS (l1In_any _ _ _ _)))
        go_wp2
        go_ret
        exact ⟨retB HF.out.symm, HD.out.drewN _⟩
      · have hin2 := inB_iff.1 hin
        rcases Nat.eq_zero_or_pos k with rfl | hk0
        · have hcz : wr.cell? ⟨b, o, none⟩ = some (.int .i64 (nth xs 0)) := by simpa using hc
          have hi2 : (0 : Int) < (xs.length : Int) := by omega
          have HI := Lib.hid hin2
          clear hin2 hc0 hc hi1
          go_wp2
          go_quiet ((go_at_call 19; exact quietS (l1In_any _ _ _ _)))
          go_wp2
          go_roundw
          case rel => exact ⟨1, by omega, by go_num, HR.out.step HI.out.1 HI.out.2 (fun h => by omega), HD.out.drewN _⟩
          case measure => simp [intOf]; omega
        · obtain ⟨m, rfl⟩ : ∃ m, k = m + 1 := ⟨k - 1, by omega⟩
          have hc2 := hc0 m (by omega)
          have HI := Lib.hid hin2
          clear hin2 hc0
          by_cases hle : nth xs (m + 1) ≤ nth xs m
          · have HF := Lib.hid (riseB_no (xs := xs) (lo := lo) (hi := hi) (fun hr => by have := (hr (m + 1) hlt).2 (by omega); simp at this; omega))
            go_wp2
            go_quiet ((go_at_call 19; exact quietS (l1In_any _ _ _ _)))
            go_wp2
            go_ret
            exact ⟨retB HF.out.symm, HD.out.drewN _⟩
          · go_wp2
            go_quiet ((go_at_call 19; exact quietS (l1In_any _ _ _ _)))
            go_wp2
            go_roundw
            case rel => exact ⟨m + 1 + 1, by omega, by go_num, HR.out.step HI.out.1 HI.out.2 (fun _ => by simp; omega), HD.out.drewN _⟩
            case measure => simp [intOf]; omega
    · obtain rfl : k = xs.length := by omega
      have HF := Lib.hid (riseB_iff.2 HR.out)
      go_wp2
      go_ret
      exact ⟨retB HF.out.symm, HD.out⟩

set_option maxHeartbeats 1000000 in
theorem areDays_any (A : Option Addr) (c : Nat) (xs : List Int) (lo hi : Int) (w : World) (h : IntsAt w w.heap.size A xs) (hn : xs.length ≤ 1048576) (hl : -9000000000 ≤ lo) (hl2 : lo ≤ 9000000000) :
    Calls Try.prog 26 #[.slice A xs.length c, .int .i64 lo, .int .i64 hi] w fun e w' => e = .returned (.bool (riseB xs lo hi)) ∧ Dr w w' := by
  have HX := Lib.hid h
  clear h
  go_enter Try.func26, Try.ntmps26
  go_wp2
  go_loopw [7, 14] (fun l i wr => ∃ k : Nat, k ≤ xs.length ∧ i = .int .i64 k ∧ (∃ z, l = .int .i64 z ∧ ((k = 0 ∧ z = lo - 1) ∨ (0 < k ∧ z = nth xs (k - 1)))) ∧ RiseTo xs lo hi k ∧ Dr w wr) (fun _ i _ => xs.length - (intOf i).toNat)
  case atStart => exact ⟨0, Nat.zero_le _, rfl, ⟨_, rfl, .inl ⟨rfl, rfl⟩⟩, fun i hi => by omega, Dr.refl _⟩
  case round =>
    obtain ⟨k, hk, rfl, ⟨z, rfl, hz⟩, hr, hd⟩ := hrel
    have HR := Lib.hid hr
    have HD := Lib.hid hd
    have HZ := Lib.hid hz
    clear hr hd hz
    by_cases hlt : k < xs.length
    · obtain ⟨b, o, rfl, hbl, hc⟩ := (HD.out.ints HX.out).get hlt
      by_cases h1 : nth xs k ≤ z
      · have HF := Lib.hid (riseB_no (xs := xs) (lo := lo) (hi := hi) (fun hr => by
          have := hr k hlt
          rcases HZ.out with ⟨h0, h2⟩ | ⟨h0, h2⟩
          · omega
          · have := this.2 h0; omega))
        go_wp2
        go_ret
        exact ⟨retB HF.out.symm, HD.out⟩
      · by_cases h2 : nth xs k ≤ hi
        · have hlo : lo ≤ nth xs k := by
            rcases HZ.out with ⟨h0, h2⟩ | ⟨h0, h2⟩
            · omega
            · have := (HR.out (k - 1) (by omega)).1.1; omega
          go_wp2
          go_roundw
          case rel => exact ⟨k + 1, by omega, by go_num, ⟨_, rfl, .inr ⟨by omega, rfl⟩⟩, HR.out.step hlo h2 (fun h => by rcases HZ.out with ⟨h0, h2⟩ | ⟨h0, h2⟩ <;> omega), HD.out⟩
          case measure => simp [intOf]; omega
        · have HF := Lib.hid (riseB_no (xs := xs) (lo := lo) (hi := hi) (fun hr => h2 (hr k hlt).1.2))
          go_wp2
          go_ret
          exact ⟨retB HF.out.symm, HD.out⟩
    · obtain rfl : k = xs.length := by omega
      have HF := Lib.hid (riseB_iff.2 HR.out)
      go_wp2
      go_ret
      exact ⟨retB HF.out.symm, HD.out⟩

/-- Is it a calendar? -/
def HeadB (f t d : Int) (na nr : Nat) : Prop := 0 ≤ f ∧ f ≤ t ∧ t ≤ 3650 ∧ 0 ≤ d ∧ d ≤ 127 ∧ na ≤ 8 ∧ nr ≤ 8
def AllWd (d : Int) (xs : List Int) (b : Bool) (k : Nat) : Prop := ∀ i, i < k → wdB d (nth xs i) = b
instance (d : Int) (xs : List Int) (b : Bool) (k : Nat) : Decidable (AllWd d xs b k) := by unfold AllWd; infer_instance
instance (f t d : Int) (na nr : Nat) : Decidable (HeadB f t d na nr) := by unfold HeadB; infer_instance
def CalOk (f t d : Int) (us vs : List Int) : Prop := HeadB f t d us.length vs.length ∧ RiseTo us f t us.length ∧ RiseTo vs f t vs.length ∧ AllWd d us false us.length ∧ AllWd d vs true vs.length
instance (f t d : Int) (us vs : List Int) : Decidable (CalOk f t d us vs) := by unfold CalOk; infer_instance
def calB (f t d : Int) (us vs : List Int) : Bool := decide (CalOk f t d us vs)
theorem calB_no {f t d : Int} {us vs : List Int} (h : ¬ CalOk f t d us vs) : calB f t d us vs = false := by simp [calB, h]
theorem calB_yes {f t d : Int} {us vs : List Int} (h : CalOk f t d us vs) : calB f t d us vs = true := by simp [calB, h]
end Go.Proofs.Ytpipegdjflniaaa
