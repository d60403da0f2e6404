/- RepeatTrips: the plain law; the first free id. -/
import Derived.Test.YtambgommeannnaaAdt
import Derived.Deep.CutBlock
namespace Go.Proofs.Ytambgommeannnaa
open Go.ChangeShapes Go.WideShapes Go.ChangeAt Go.RowKit Go.PlainAid
set_option linter.unusedVariables false
set_option linter.unusedSimpArgs false

/-! ### The first free id -/
/-- How many trips bear the ids c, c + 1, .. from the front. -/
def prN : List I3 → Int → Nat
  | [], _ => 0
  | t :: ts, c => if t.a = c then prN ts (c + 1) + 1 else 0
theorem prN_le : ∀ (xs : List I3) (c : Int), prN xs c ≤ xs.length
  | [], _ => Nat.le_refl _
  | t :: ts, c => by
    have := prN_le ts (c + 1)
    unfold prN
    split
    · simp; omega
    · omega
theorem prN_lt : ∀ (xs : List I3) (c : Int) (j : Nat), j < prN xs c → (nth3 xs j).a = c + j
  | [], _, j, h => by simp [prN] at h
  | t :: ts, c, j, h => by
    unfold prN at h
    split at h
    · rename_i ht
      cases j with
      | zero => show t.a = _; omega
      | succ j =>
        have := prN_lt ts (c + 1) j (by omega)
        show (nth3 ts j).a = _
        rw [this]
        push_cast
        omega
    · omega
theorem prN_stop : ∀ (xs : List I3) (c : Int), prN xs c < xs.length → (nth3 xs (prN xs c)).a ≠ c + prN xs c
  | [], _, h => by simp at h
  | t :: ts, c, h => by
    unfold prN at h ⊢
    split
    · rename_i ht
      rw [if_pos ht] at h
      have := prN_stop ts (c + 1) (by simp at h; omega)
      show (nth3 ts (prN ts (c + 1))).a ≠ _
      push_cast
      omega
    · rename_i ht
      show t.a ≠ _
      simpa using ht
def frI (xs : List I3) : Int := prN xs 1 + 1
/-- Ascending ids from 1 on. -/
theorem trips_up {x : TTD} (h : ttB x = true) : ∀ {k : Nat}, k < x.trips.length → (k : Int) + 1 ≤ (nth3 x.trips k).a
  | 0, hk => by
    have := (((ttB_ok h).2.2 0 hk).1).1
    simpa using this
  | k + 1, hk => by
    have h1 := trips_up h (k := k) (by omega)
    have h2 := ((ttB_ok h).2.2 (k + 1) hk).2 (by omega)
    have e : k + 1 - 1 = k := by omega
    rw [e] at h2
    push_cast
    omega
theorem trips_lt {x : TTD} (h : ttB x = true) {j : Nat} : ∀ {k : Nat}, j < k → k < x.trips.length → (nth3 x.trips j).a < (nth3 x.trips k).a
  | 0, hj, _ => by omega
  | k + 1, hj, hk => by
    have h2 := ((ttB_ok h).2.2 (k + 1) hk).2 (by omega)
    have e : k + 1 - 1 = k := by omega
    rw [e] at h2
    rcases Nat.lt_or_ge j k with h3 | h3
    · have := trips_lt h (j := j) (k := k) h3 (by omega)
      omega
    · obtain rfl : j = k := by omega
      exact h2
theorem idI_none {xs : List I3} {id : Int} (h : ∀ k, k < xs.length → (nth3 xs k).a ≠ id) : idI xs id < 0 := by
  unfold idI
  rcases ixN_cases xs.length (idAt xs id) with ⟨k, hk, h1, _, e⟩ | ⟨_, e⟩
  · unfold idAt at h1
    exact absurd (by simpa using h1) (h k hk)
  · rw [e]; omega
theorem idI_some {xs : List I3} {id : Int} {k : Nat} (hk : k < xs.length) (h : (nth3 xs k).a = id) : 0 ≤ idI xs id := by
  unfold idI
  rcases ixN_cases xs.length (idAt xs id) with ⟨k, hk, h1, _, e⟩ | ⟨h1, e⟩
  · rw [e]; omega
  · have := h1 k hk
    unfold idAt at this
    rw [h] at this
    simp at this
/-- Is the id m + 1 taken? -/
theorem fr_taken {x : TTD} {m : Nat} (hm : m < prN x.trips 1) : 0 ≤ idI x.trips ((m : Int) + 1) :=
  idI_some (k := m) (by have := prN_le x.trips 1; omega) (by rw [prN_lt _ _ _ hm]; omega)
theorem fr_free {x : TTD} (h : ttB x = true) : idI x.trips ((prN x.trips 1 : Int) + 1) < 0 := by
  refine idI_none fun k hk e => ?_
  rcases Nat.lt_trichotomy k (prN x.trips 1) with h1 | h1 | h1
  · have := prN_lt x.trips 1 k h1
    omega
  · subst h1
    have := prN_stop x.trips 1 hk
    omega
  · have h2 := prN_stop x.trips 1 (by omega)
    have h3 := trips_up h (k := prN x.trips 1) (by omega)
    have h4 := trips_lt h h1 hk
    omega

/-! ### The loop -/
def rpS : Nat → TTD → Int → Int → Int → Int → Int → TTD × Int × Bool
  | 0, _, _, _, _, _, _ => (zeroT, 0, false)
  | f + 1, x, l, s, t, h, n =>
    if s ≤ t then
      if ttB (adX x ⟨frI x.trips, l, s⟩) = true then
        if t - s < h then (adX x ⟨frI x.trips, l, s⟩, n + 1, true)
        else rpS f (adX x ⟨frI x.trips, l, s⟩) l (s + h) t h (n + 1)
      else (zeroT, 0, false)
    else (x, n, true)
theorem rpS_end {f : Nat} {x : TTD} {l s t h n : Int} (h1 : ¬ s ≤ t) : rpS (f + 1) x l s t h n = (x, n, true) := by
  unfold rpS
  rw [if_neg h1]
theorem rpS_bad {f : Nat} {x : TTD} {l s t h n : Int} (h1 : s ≤ t) (h2 : ttB (adX x ⟨frI x.trips, l, s⟩) = false) : rpS (f + 1) x l s t h n = (zeroT, 0, false) := by
  unfold rpS
  rw [if_pos h1, if_neg (by rw [h2]; simp)]
theorem rpS_last {f : Nat} {x : TTD} {l s t h n : Int} (h1 : s ≤ t) (h2 : ttB (adX x ⟨frI x.trips, l, s⟩) = true) (h3 : t - s < h) : rpS (f + 1) x l s t h n = (adX x ⟨frI x.trips, l, s⟩, n + 1, true) := by
  unfold rpS
  rw [if_pos h1, if_pos h2, if_pos h3]
theorem rpS_go {f : Nat} {x : TTD} {l s t h n : Int} (h1 : s ≤ t) (h2 : ttB (adX x ⟨frI x.trips, l, s⟩) = true) (h3 : ¬ t - s < h) : rpS (f + 1) x l s t h n = rpS f (adX x ⟨frI x.trips, l, s⟩) l (s + h) t h (n + 1) := by
  conv => lhs; unfold rpS
  rw [if_pos h1, if_pos h2, if_neg h3]
def rpB (x : TTD) (l s h : Int) : Bool := ttB x && inB l 0 (x.net.lines.length - 1) && tmB s && decide (1 ≤ h)
def rpR (x : TTD) (l s t h : Int) : TTD × Int × Bool := if rpB x l s h = true then rpS 14 x l s t h 0 else (zeroT, 0, false)
theorem rpR_no {x : TTD} {l s t h : Int} (hb : ttB x = false ∨ inB l 0 (x.net.lines.length - 1) = false ∨ tmB s = false ∨ h < 1) : rpR x l s t h = (zeroT, 0, false) := by
  unfold rpR
  rw [if_neg]
  unfold rpB
  rcases hb with hb | hb | hb | hb
  · simp [hb]
  · simp [hb]
  · simp [hb]
  · have : ¬ 1 ≤ h := by omega
    simp [this]
theorem rpR_yes {x : TTD} {l s t h : Int} (h1 : ttB x = true) (h2 : inB l 0 (x.net.lines.length - 1) = true) (h3 : tmB s = true) (h4 : 1 ≤ h) : rpR x l s t h = rpS 14 x l s t h 0 := by
  unfold rpR rpB
  rw [if_pos (by simp [h1, h2, h3, h4])]
theorem rpS_ok : ∀ (f : Nat) (x : TTD) (l s t h n : Int), ttB x = true → (rpS f x l s t h n).1 = zeroT ∨ ttB (rpS f x l s t h n).1 = true
  | 0, _, _, _, _, _, _, _ => .inl rfl
  | f + 1, x, l, s, t, h, n, hx => by
    unfold rpS
    split
    · split
      · rename_i h2
        split
        · exact .inr h2
        · exact rpS_ok f _ _ _ _ _ _ h2
      · exact .inl rfl
    · exact .inr hx
theorem ttB_sz {x : TTD} (h : ttB x = true) : szTT x ≤ 1048576 := by
  have h1 := withTr_sz (x := x) (ys := x.trips) (ttB_net h) (by have := ttB_trips h; omega)
  exact h1
theorem rpR_sz (x : TTD) (l s t h : Int) : szTT (rpR x l s t h).1 ≤ 1048576 := by
  unfold rpR
  split
  · rename_i hb
    unfold rpB at hb
    simp only [Bool.and_eq_true] at hb
    rcases rpS_ok 14 x l s t h 0 hb.1.1.1 with e | e
    · rw [e, zeroT_sz]; omega
    · exact ttB_sz e
  · rw [zeroT_sz]; omega
/-- The trips' number tells the rounds. -/
theorem adX_len (x : TTD) (t : I3) : (adX x t).trips.length = x.trips.length + 1 := inL_len x.trips t
theorem frI_bd (xs : List I3) : 1 ≤ frI xs ∧ frI xs ≤ xs.length + 1 := by
  have := prN_le xs 1
  unfold frI
  omega
/-- What RepeatTrips hands back. -/
def RetTtI (x : TTD) (n : Int) (b : Bool) (w : World) (e : Ending) (w' : World) : Prop :=
  ∃ A ca L cl T ct, e = .returned (.tuple #[.agg #[.slice A x.net.stops.length ca, .slice L x.net.lines.length cl, .slice T x.trips.length ct], .int .i64 n, .bool b]) ∧ TtO w' w.heap.size w'.heap.size x A L T ∧ Below w.heap.size w w'
theorem retTtI_zero {w w' : World} (hb : Below w.heap.size w w') : RetTtI zeroT 0 false w (.returned (.tuple #[.agg #[.slice none 0 0, .slice none 0 0, .slice none 0 0], .int .i64 0, .bool false])) w' :=
  ⟨none, 0, none, 0, none, 0, rfl, .inl ⟨rfl, rfl, rfl⟩, hb⟩
theorem retTtI_eq {x y : TTD} {n m : Int} {b c : Bool} {w w' : World} {e : Ending} (h : (x, n, b) = (y, m, c)) (hr : RetTtI y m c w e w') : RetTtI x n b w e w' := by
  cases h; exact hr
set_option maxRecDepth 100000 in
set_option maxHeartbeats 2000000 in
theorem freeId_any (x : TTD) (A L T : Option Addr) (ca cl ct : Nat) (w : World) (hA : StrsIn w (Zone.below w.heap.size) A x.net.stops) (hL : LinesIn w (Zone.below w.heap.size) L x.net.lines) (hT : I3sIn w (Zone.below w.heap.size) T x.trips) (hn : x.trips.length ≤ 1048576) (hb : ttB x = true) :
    Calls Try.prog 143 #[.agg #[.slice A x.net.stops.length ca, .slice L x.net.lines.length cl, .slice T x.trips.length ct]] w fun e w' => e = .returned (.int .i64 (frI x.trips)) ∧ Below w.heap.size w w' := by
  have H0 : Hid (TtBox w (w.alloc (.cells #[.slice A x.net.stops.length ca, .slice L x.net.lines.length cl, .slice T x.trips.length ct] 49)) w.heap.size x A ca L cl T ct) := Lib.hid (TtBox.box hA hL hT)
  have HT : Hid (∀ m, m < prN x.trips 1 → 0 ≤ idI x.trips ((m : Int) + 1)) := Lib.hid (fun m hm => fr_taken hm)
  have HF := Lib.hid (fr_free hb)
  have hpl := prN_le x.trips 1
  clear hA hL hT hb
  go_enter Try.func143, Try.ntmps143
  go_wp2_with fail
  generalize (w.alloc (.cells #[.slice A x.net.stops.length ca, .slice L x.net.lines.length cl, .slice T x.trips.length ct] 49)) = w0 at *
  go_loopw [3] (fun i wr => ∃ m : Nat, m ≤ prN x.trips 1 ∧ i = .int .i64 ((m : Int) + 1) ∧ TtBox w wr w.heap.size x A ca L cl T ct) (fun i _ => x.trips.length + 2 - (intOf i).toNat)
  case atStart => exact ⟨0, Nat.zero_le _, rfl, H0.out⟩
  case round =>
    obtain ⟨m, hm, rfl, h0⟩ := hrel
    have H1 := Lib.hid h0
    obtain ⟨n0, n1, n2⟩ := h0.cells
    have HG := Lib.hid (tripIndex_any x A L T ca cl ct ((m : Int) + 1) wr h0.trips hn)
    clear h0
    have hwr : IntKind.i64.wrap ((m : Int) + 1 + 1) = (m : Int) + 1 + 1 := IntWalk.i64_in _ (by omega)
    by_cases hlt : m < prN x.trips 1
    · have hd : decide (0 ≤ idI x.trips ((m : Int) + 1)) = true := decide_eq_true (HT.out m hlt)
      go_wp2_with fail
      refine HG.out.mono ?_
      rintro e w1 ⟨rfl, hb1⟩
      have H2 := Lib.hid (H1.out.call hb1)
      clear hb1 n0 n1 n2
      go_wp2_with fail
      go_roundw
      case rel => exact ⟨m + 1, by omega, by push_cast; rfl, H2.out⟩
      case measure => simp [intOf]; omega
    · obtain rfl : m = prN x.trips 1 := by omega
      have hd : decide (0 ≤ idI x.trips ((prN x.trips 1 : Int) + 1)) = false := decide_eq_false (by have := HF.out; omega)
      go_wp2_with fail
      refine HG.out.mono ?_
      rintro e w1 ⟨rfl, hb1⟩
      have H2 := Lib.hid (H1.out.call hb1)
      clear hb1 n0 n1 n2
      go_wp2_with fail
      go_ret
      exact ⟨rfl, H2.out.bel⟩
set_option maxRecDepth 100000 in
set_option maxHeartbeats 2000000 in
theorem l5Id_any (x : TTD) (A L T : Option Addr) (ca cl ct : Nat) (w : World) (hA : StrsIn w (Zone.below w.heap.size) A x.net.stops) (hL : LinesIn w (Zone.below w.heap.size) L x.net.lines) (hT : I3sIn w (Zone.below w.heap.size) T x.trips) (hn : x.trips.length ≤ 1048576) :
    Calls Try.prog 142 #[.agg #[.slice A x.net.stops.length ca, .slice L x.net.lines.length cl, .slice T x.trips.length ct]] w fun e w' => e = .returned (.int .i64 (frI x.trips)) ∧ Below w.heap.size w w' := by
  have H0 : Hid (TtBox w (w.alloc (.cells #[.slice A x.net.stops.length ca, .slice L x.net.lines.length cl, .slice T x.trips.length ct] 49)) w.heap.size x A ca L cl T ct) := Lib.hid (TtBox.box hA hL hT)
  have hpl := prN_le x.trips 1
  clear hA hL hT
  go_enter Try.func142, Try.ntmps142
  go_wp2_with fail
  generalize (w.alloc (.cells #[.slice A x.net.stops.length ca, .slice L x.net.lines.length cl, .slice T x.trips.length ct] 49)) = w0 at *
  go_loopw [3, 4] (fun c i wr => ∃ m : Nat, m ≤ prN x.trips 1 ∧ c = .int .i64 ((m : Int) + 1) ∧ i = .int .i64 m ∧ Dr w0 wr) (fun _ i _ => x.trips.length + 2 - (intOf i).toNat)
  case atStart => exact ⟨0, Nat.zero_le _, rfl, rfl, Dr.refl _⟩
  case round =>
    obtain ⟨m, hm, rfl, rfl, qq, rfl⟩ := hrel
    obtain ⟨n0, n1, n2⟩ := H0.out.cells
    have hwr : IntKind.i64.wrap ((m : Int) + 1 + 1) = (m : Int) + 1 + 1 := IntWalk.i64_in _ (by omega)
    by_cases hlt : m < x.trips.length
    · obtain ⟨b, o, rfl, _, e0, e1, e2⟩ := I3sIn.at H0.out.trips0 hlt
      have hik : (m : Int) < (x.trips.length : Int) := by omega
      have hm0 : (0 : Int) ≤ (m : Int) := by omega
      by_cases hpa : (nth3 x.trips m).a = (m : Int) + 1
      · have HPL : Hid (m + 1 ≤ prN x.trips 1) := Lib.hid (by
          rcases Nat.lt_or_ge m (prN x.trips 1) with h | h
          · exact h
          · have he : prN x.trips 1 = m := by omega
            have := prN_stop x.trips 1 (by omega)
            rw [he] at this
            omega)
        have e0' : w0.cell? ⟨b, o + m * 3, none⟩ = some (.int .i64 ((m : Int) + 1)) := by rw [← hpa]; exact e0
        have v1 : ((m : Int) + 1 == (m : Int) + 1) = true := by simp
        clear hpl hm hpa e0
        go_wp2_with fail
        go_roundw
        case rel => first | exact ⟨m + 1, HPL.out, by push_cast; rfl, by go_num, _, rfl⟩ | exact ⟨m + 1, HPL.out, by push_cast; rfl, by go_num, Dr.drewN ⟨_, rfl⟩ _⟩
        case measure => simp [intOf]; omega
      · have HPL : Hid (prN x.trips 1 = m) := Lib.hid (by
          rcases Nat.lt_or_ge m (prN x.trips 1) with h | h
          · exact absurd (prN_lt x.trips 1 m h) (by omega)
          · omega)
        obtain ⟨pa, hq⟩ : ∃ pa, pa = (nth3 x.trips m).a := ⟨_, rfl⟩
        rw [← hq] at hpa e0
        have v1 : (pa == (m : Int) + 1) = false := by simpa using hpa
        have v2 : ((m : Int) + 1 == pa) = false := by simpa using (Ne.symm hpa)
        clear hpl hm hpa hq
        go_wp2_with fail
        go_ret
        refine ⟨retI (by unfold frI; rw [HPL.out]), ?_⟩
        exact bel_call H0.out.bel (by first | exact (Dr.below ⟨_, rfl⟩ _) | exact (Dr.below (Dr.drewN ⟨_, rfl⟩ _) _))
    · have HPL : Hid (prN x.trips 1 = m) := Lib.hid (by omega)
      have v0 : decide ((m : Int) < (x.trips.length : Int)) = false := decide_eq_false (by omega)
      clear hpl hm
      go_wp2_with fail
      go_ret
      refine ⟨retI (by unfold frI; rw [HPL.out]), ?_⟩
      exact bel_call H0.out.bel (by first | exact (Dr.below ⟨_, rfl⟩ _) | exact (Dr.below (Dr.drewN ⟨_, rfl⟩ _) _))
end Go.Proofs.Ytambgommeannnaa
