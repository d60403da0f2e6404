/- Contracts of the functions that read a time of day, and the walk of the law of ParseTime. -/
import Derived.Test.YtpipegdjflniaaaDoorClk
import Derived.PlainAid
namespace Go.Proofs.YtpipegdjflniaaaDoor
open Go.ChangeShapes Go.WideShapes Go.ChangeAt Go.RowKit Go.PlainAid
set_option linter.unusedVariables false

/-- The bytes of a time of day. -/
def ptOk (a b c d e : Int) : Prop := c = 58 ∧ (48 ≤ a ∧ a ≤ 57) ∧ (48 ≤ b ∧ b ≤ 57) ∧ (48 ≤ d ∧ d ≤ 53) ∧ (48 ≤ e ∧ e ≤ 57) ∧ ((a - 48) * 10 + (b - 48)) * 60 + (d - 48) * 10 + (e - 48) ≤ 1799
def ptVal (a b d e : Int) : Int := ((a - 48) * 10 + (b - 48)) * 60 + (d - 48) * 10 + (e - 48)

/-- What a reader of times returns. -/
def PtEnd (ok : Prop) (t : Int) (w : World) (en : Ending) (w' : World) : Prop :=
  (∃ n : Nat, w' = w.drewN n) ∧ ((ok ∧ en = .returned (.tuple #[.int .i64 t, .bool true])) ∨ (¬ ok ∧ en = .returned (.tuple #[.int .i64 0, .bool false])))
theorem PtEnd.no {ok : Prop} {t : Int} {w w' : World} {en : Ending} (h : ¬ ok) (hn : ∃ n : Nat, w' = w.drewN n) (he : en = .returned (.tuple #[.int .i64 0, .bool false])) : PtEnd ok t w en w' := ⟨hn, .inr ⟨h, he⟩⟩
theorem PtEnd.yes {ok : Prop} {t u : Int} {w w' : World} {en : Ending} (h : ok) (hn : ∃ n : Nat, w' = w.drewN n) (hu : u = t) (he : en = .returned (.tuple #[.int .i64 u, .bool true])) : PtEnd ok t w en w' := ⟨hn, .inl ⟨h, by rw [he, hu]⟩⟩

theorem PtEnd.to_yes {ok : Prop} {t : Int} {w w' : World} {en : Ending} (h : PtEnd ok t w en w') (hok : ok) : en = .returned (.tuple #[.int .i64 t, .bool true]) ∧ ∃ n : Nat, w' = w.drewN n := by
  obtain ⟨hn, h | h⟩ := h
  · exact ⟨h.2, hn⟩
  · exact absurd hok h.1
theorem PtEnd.to_no {ok : Prop} {t : Int} {w w' : World} {en : Ending} (h : PtEnd ok t w en w') (hok : ¬ ok) : en = .returned (.tuple #[.int .i64 0, .bool false]) ∧ ∃ n : Nat, w' = w.drewN n := by
  obtain ⟨hn, h | h⟩ := h
  · exact absurd h.1 hok
  · exact ⟨h.2, hn⟩

set_option maxHeartbeats 1000000 in
theorem parseTime_any (s : ByteArray) (h5 : s.size = 5) (w : World) :
    Calls Tryd.prog 57 #[.string s] w (PtEnd (ptOk (bt s 0) (bt s 1) (bt s 2) (bt s 3) (bt s 4)) (ptVal (bt s 0) (bt s 1) (bt s 3) (bt s 4)) w) := by
  have i0 : ∀ w, (Instr.index 86 (.agg #[.int .i64 0, .int .i64 1, .int .i64 3, .int .i64 4]) (.int .i64 0)).run Tryd.prog w = .ok (.int .i64 0) w := fun _ => by kernel_rfl
  have i1 : ∀ w, (Instr.index 86 (.agg #[.int .i64 0, .int .i64 1, .int .i64 3, .int .i64 4]) (.int .i64 1)).run Tryd.prog w = .ok (.int .i64 1) w := fun _ => by kernel_rfl
  have i2 : ∀ w, (Instr.index 86 (.agg #[.int .i64 0, .int .i64 1, .int .i64 3, .int .i64 4]) (.int .i64 2)).run Tryd.prog w = .ok (.int .i64 3) w := fun _ => by kernel_rfl
  have i3 : ∀ w, (Instr.index 86 (.agg #[.int .i64 0, .int .i64 1, .int .i64 3, .int .i64 4]) (.int .i64 3)).run Tryd.prog w = .ok (.int .i64 4) w := fun _ => by kernel_rfl
  have hg := get_bt s
  have a1 := bt_nonneg s 0
  have a2 := bt_le s 0
  have b1 := bt_nonneg s 1
  have b2 := bt_le s 1
  have d1 := bt_nonneg s 3
  have d2 := bt_le s 3
  have e1 := bt_nonneg s 4
  have e2 := bt_le s 4
  by_cases h2 : bt s 2 = 58
  · have hc : (bt s 2 != 58) = false := by simp [h2]
    have H2 := Lib.hid h2
    clear h2
    go_enter Tryd.func57, Tryd.ntmps57
    go_wp2
    refine wp_loop_rounds 5 ?_
    repeat any_goals (rw [rounds_succ]; go_wp2)
    any_goals (go_ret2; refine PtEnd.no ?_ ⟨0, rfl⟩ rfl; unfold ptOk; omega)
    go_quiet (fail)
    go_wp2
    all_goals (try simp only [Bool.not_eq_true', Bool.not_eq_false', decide_eq_false_iff_not, decide_eq_true_eq] at *)
    all_goals go_ret2
    all_goals first
      | (refine PtEnd.no ?_ ⟨_, rfl⟩ rfl; unfold ptOk; omega)
      | (refine PtEnd.yes ?_ ⟨_, rfl⟩ ?_ rfl
         · unfold ptOk; have := H2.out; omega
         · unfold ptVal; omega)
  · have hc : (bt s 2 != 58) = true := by simp [h2]
    have H2 := Lib.hid h2
    clear h2
    go_enter Tryd.func57, Tryd.ntmps57
    go_wp2
    go_ret2
    exact PtEnd.no (fun h => H2.out h.1) ⟨0, rfl⟩ rfl

theorem ba_toList (s : ByteArray) : s.toList = s.data.toList := ByteArray.toList_eq s
theorem ba_toList_inj {s t : ByteArray} (h : s.toList = t.toList) : s = t := by
  rw [ba_toList, ba_toList] at h
  obtain ⟨⟨a⟩⟩ := s
  obtain ⟨⟨b⟩⟩ := t
  simp at h
  rw [h]

theorem ba_size5 (s : ByteArray) (h : s.size = 5) : ∃ a b c d e : UInt8, s = ⟨#[a, b, c, d, e]⟩ := by
  obtain ⟨⟨l⟩⟩ := s
  match l, h with
  | [a, b, c, d, e], _ => exact ⟨a, b, c, d, e, rfl⟩

theorem clk_eq (n : Nat) : clk n = ⟨#[UInt8.ofNat (48 + n / 60 / 10), UInt8.ofNat (48 + n / 60 % 10), 58, UInt8.ofNat (48 + n % 60 / 10), UInt8.ofNat (48 + n % 60 % 10)]⟩ := rfl

theorem bt5 (a b c d e : UInt8) : bt ⟨#[a, b, c, d, e]⟩ 0 = a.toNat ∧ bt ⟨#[a, b, c, d, e]⟩ 1 = b.toNat ∧ bt ⟨#[a, b, c, d, e]⟩ 2 = c.toNat ∧ bt ⟨#[a, b, c, d, e]⟩ 3 = d.toNat ∧ bt ⟨#[a, b, c, d, e]⟩ 4 = e.toNat := ⟨rfl, rfl, rfl, rfl, rfl⟩

/-- A text of five bytes is the text of the time that its bytes give just where the bytes are a time's. -/
theorem clk_iff (s : ByteArray) (h : s.size = 5) :
    (0 ≤ ptVal (bt s 0) (bt s 1) (bt s 3) (bt s 4) ∧ ptVal (bt s 0) (bt s 1) (bt s 3) (bt s 4) ≤ 1799 ∧ clk (ptVal (bt s 0) (bt s 1) (bt s 3) (bt s 4)).toNat = s) ↔ ptOk (bt s 0) (bt s 1) (bt s 2) (bt s 3) (bt s 4) := by
  obtain ⟨a, b, c, d, e, rfl⟩ := ba_size5 s h
  obtain ⟨e0, e1, e2, e3, e4⟩ := bt5 a b c d e
  rw [e0, e1, e2, e3, e4]
  have la := a.toNat_lt
  have lb := b.toNat_lt
  have lc := c.toNat_lt
  have ld := d.toNat_lt
  have le := e.toNat_lt
  constructor
  · rintro ⟨h0, h1, h2⟩
    generalize hv : ptVal a.toNat b.toNat d.toNat e.toNat = v at h0 h1 h2
    obtain ⟨n, rfl⟩ := Int.eq_ofNat_of_zero_le h0
    rw [Int.toNat_natCast, clk_eq] at h2
    injection h2 with h2
    have h2 := congrArg Array.toList h2
    simp only [List.cons.injEq, and_true] at h2
    obtain ⟨ha, hb, hc, hd, he⟩ := h2
    have ka : a.toNat = 48 + n / 60 / 10 := by rw [← ha, UInt8.toNat_ofNat']; omega
    have kb : b.toNat = 48 + n / 60 % 10 := by rw [← hb, UInt8.toNat_ofNat']; omega
    have kc : c.toNat = 58 := by rw [← hc]; rfl
    have kd : d.toNat = 48 + n % 60 / 10 := by rw [← hd, UInt8.toNat_ofNat']; omega
    have ke : e.toNat = 48 + n % 60 % 10 := by rw [← he, UInt8.toNat_ofNat']; omega
    unfold ptOk
    omega
  · unfold ptOk ptVal
    rintro ⟨hc, ha, hb, hd, he, hm⟩
    refine ⟨by omega, hm, ?_⟩
    obtain ⟨n, hn⟩ := Int.eq_ofNat_of_zero_le (show 0 ≤ ((a.toNat - 48 : Int) * 10 + (b.toNat - 48)) * 60 + (d.toNat - 48) * 10 + (e.toNat - 48) by omega)
    rw [hn, Int.toNat_natCast, clk_eq]
    have ka : UInt8.ofNat (48 + n / 60 / 10) = a := by apply UInt8.toNat.inj; rw [UInt8.toNat_ofNat']; omega
    have kb : UInt8.ofNat (48 + n / 60 % 10) = b := by apply UInt8.toNat.inj; rw [UInt8.toNat_ofNat']; omega
    have kc : 58 = c := by apply UInt8.toNat.inj; show 58 = _; omega
    have kd : UInt8.ofNat (48 + n % 60 / 10) = d := by apply UInt8.toNat.inj; rw [UInt8.toNat_ofNat']; omega
    have ke : UInt8.ofNat (48 + n % 60 % 10) = e := by apply UInt8.toNat.inj; rw [UInt8.toNat_ofNat']; omega
    rw [ka, kb, kd, ke, ← kc]

set_option maxHeartbeats 1000000 in
theorem l4Parse_any (s : ByteArray) (h5 : s.size = 5) (w : World) :
    Calls Tryd.prog 29 #[.string s] w (PtEnd (ptOk (bt s 0) (bt s 1) (bt s 2) (bt s 3) (bt s 4)) (ptVal (bt s 0) (bt s 1) (bt s 3) (bt s 4)) w) := by
  have hg := get_bt s
  have a1 := bt_nonneg s 0
  have a2 := bt_le s 0
  have b1 := bt_nonneg s 1
  have b2 := bt_le s 1
  have d1 := bt_nonneg s 3
  have d2 := bt_le s 3
  have e1 := bt_nonneg s 4
  have e2 := bt_le s 4
  have HI := Lib.hid (clk_iff s h5)
  have HV := Lib.hid (show ptVal (bt s 0) (bt s 1) (bt s 3) (bt s 4) = ((bt s 0 - 48) * 10 + bt s 1 - 48) * 60 + (bt s 3 - 48) * 10 + bt s 4 - 48 by unfold ptVal; omega)
  go_enter Tryd.func29, Tryd.ntmps29
  go_wp2
  go_quiet (fail)
  go_wp2_with (first
        | (go_at_call 47; refine (l4Text_any _ _ (by omega) (by omega)).mono ?_; rintro e w' ⟨rfl, k, rfl⟩)
        | go_in)
  · go_ret2
    refine PtEnd.no ?_ ⟨_, rfl⟩ rfl
    intro hok
    have h := (HI.out.2 hok).2.2
    rw [HV.out] at h
    have hne : (!(clk (((bt s 0 - 48) * 10 + bt s 1 - 48) * 60 + (bt s 3 - 48) * 10 + bt s 4 - 48).toNat).toList == s.toList) = true := by assumption
    rw [h] at hne
    simp at hne
  · go_ret2
    have hne : (!(clk (((bt s 0 - 48) * 10 + bt s 1 - 48) * 60 + (bt s 3 - 48) * 10 + bt s 4 - 48).toNat).toList == s.toList) = false := by assumption
    refine PtEnd.yes (HI.out.1 ⟨by rw [HV.out]; omega, by rw [HV.out]; omega, ?_⟩) ⟨_, rfl⟩ HV.out.symm rfl
    rw [HV.out]
    simp only [Bool.not_eq_false', beq_iff_eq] at hne
    exact ba_toList_inj hne
  · go_ret2
    refine PtEnd.no (fun hok => ?_) ⟨_, rfl⟩ rfl
    have h := (HI.out.2 hok).2.1
    rw [HV.out] at h
    omega
  · go_ret2
    refine PtEnd.no (fun hok => ?_) ⟨_, rfl⟩ rfl
    have h := (HI.out.2 hok).1
    rw [HV.out] at h
    omega

end Go.Proofs.YtpipegdjflniaaaDoor
