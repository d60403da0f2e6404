/- SplitString. -/
import Derived.Test.YtgakmmjbdejmdaaDoorHst
import Derived.Test.YtgakmmjbdejmdaaDoorSpq
import Derived.Test.YtgakmmjbdejmdaaDoorShelf
namespace Go.Proofs.YtgakmmjbdejmdaaDoor
open Go.ChangeShapes Go.WideShapes Go.ChangeAt Go.RowKit Go.PlainAid
set_option linter.unusedVariables false
set_option linter.unusedSimpArgs false

/-- strings.Split at a separator of one byte. -/
theorem split_any (s : ByteArray) (c : UInt8) (m : Int) (w : World) (hs : s.size ≤ 1048576) (hm : w.cell? ⟨0, 0, none⟩ = some (.int .i64 m)) :
    Calls Tryd.prog 71 #[.string s, .string ⟨#[c]⟩] w (RetS1 (splL s c) w) := by
  refine (Tryd.strings_Split s ⟨#[c]⟩ m w (by omega) hm (Nat.le_refl _)).mono ?_
  rintro e w' ⟨rfl, rfl⟩
  rw [spl_split c _ s (Nat.le_refl _), ← spl_len]
  refine ⟨_, _, rfl, fun _ => ⟨w.heap.size, 0, rfl, ⟨Nat.le_refl _, by simp⟩, fun _ j => by simp, fun j hj => ?_⟩, (Below.refl _ _).alloc (Nat.le_refl _) _⟩
  show (w.alloc _).cell? ⟨w.heap.size, 0 + j, none⟩ = some (.string (nthS (splL s c) j))
  rw [Nat.zero_add, World.cell?_alloc_mark, List.getElem?_toArray, List.getElem?_map, List.getElem?_eq_getElem hj]
  unfold nthS
  rw [List.getD_eq_getElem?_getD, List.getElem?_eq_getElem hj]
  rfl
/-- A slice of strings in new memory, and whether it is one. -/
def RetSS (xs : List ByteArray) (b : Bool) (w : World) (e : Ending) (w' : World) : Prop :=
  ∃ A c, e = .returned (.tuple #[.slice A xs.length c, .bool b]) ∧ StrsIn w' (Zone.new w.heap.size w'.heap.size) A xs ∧ Below w.heap.size w w'
/-- The answer of SplitString. -/
def spB (s sep : ByteArray) : Bool := decide (sep.size = 1) && decide (s.size ≤ 4000)
def spX (s sep : ByteArray) : List ByteArray := if spB s sep = true then splL s (sep.data.getD 0 0) else []
theorem spX_no {s sep : ByteArray} (h : spB s sep = false) : spX s sep = [] := by unfold spX; rw [h]; rfl
theorem spX_yes {s : ByteArray} {c : UInt8} (h : spB s ⟨#[c]⟩ = true) : spX s ⟨#[c]⟩ = splL s c := by unfold spX; rw [if_pos h]; rfl
theorem spX_len (s sep : ByteArray) (hs : s.size ≤ 1048576) : (spX s sep).length ≤ 1048576 := by
  cases h : spB s sep
  · rw [spX_no h]; simp
  · unfold spX
    rw [if_pos h]
    have := spl_le s (sep.data.getD 0 0)
    unfold spB at h
    simp only [Bool.and_eq_true, decide_eq_true_eq] at h
    omega
theorem size_one {s : ByteArray} (h : s.size = 1) : ∃ c, s = ⟨#[c]⟩ := by
  obtain ⟨⟨l⟩⟩ := s
  match l, h with
  | [c], _ => exact ⟨c, rfl⟩
theorem specSplit_any (s sep : ByteArray) (w : World) (hs : s.size ≤ 1048576) (hp : sep.size ≤ 1048576) :
    Calls Tryd.prog 34 #[.string s, .string sep] w (RetSS (spX s sep) (spB s sep) w) := by
  by_cases h1 : sep.size = 1
  · obtain ⟨c, rfl⟩ := size_one h1
    by_cases h2 : 4000 < s.size
    · have HB : Hid (spB s ⟨#[c]⟩ = false) := Lib.hid (by unfold spB; rw [decide_eq_false (p := s.size ≤ 4000) (by omega)]; simp)
      go_enter Tryd.func34, Tryd.ntmps34
      go_wp2_with fail
      go_ret2
      rw [spX_no HB.out, HB.out]
      exact ⟨_, _, rfl, fun h => absurd h (by simp), by go_grown⟩
    · have HB : Hid (spB s ⟨#[c]⟩ = true) := Lib.hid (by unfold spB; rw [decide_eq_true (p := s.size ≤ 4000) (by omega), h1]; rfl)
      clear h1
      go_enter Tryd.func34, Tryd.ntmps34
      go_wp2_with fail
      refine (l1Split_any s c _ hs).mono ?_
      rintro e w1 ⟨A, cc, rfl, hi, hb⟩
      have HI := Lib.hid hi
      have HW := Lib.hid hb
      clear hi hb
      go_wp2_with fail
      go_ret2
      rw [spX_yes HB.out, HB.out]
      exact ⟨_, _, rfl, HI.out, HW.out⟩
  · have HB : Hid (spB s sep = false) := Lib.hid (by unfold spB; rw [decide_eq_false h1]; rfl)
    have hq : ¬ ((sep.size : Int) = 1) := by omega
    go_enter Tryd.func34, Tryd.ntmps34
    go_wp2_with fail
    go_ret2
    rw [spX_no HB.out, HB.out]
    exact ⟨_, _, rfl, fun h => absurd h (by simp), by go_grown⟩
theorem implSplit_any (s sep : ByteArray) (w : World) (hs : s.size ≤ 1048576) (hp : sep.size ≤ 1048576) (m : Int) (hm : w.cell? ⟨0, 0, none⟩ = some (.int .i64 m)) :
    Calls Tryd.prog 35 #[.string s, .string sep] w (RetSS (spX s sep) (spB s sep) w) := by
  have HMM := Lib.hid hm
  clear hm
  by_cases h2 : 4000 < s.size
  · have HB : Hid (spB s sep = false) := Lib.hid (by unfold spB; rw [decide_eq_false (p := s.size ≤ 4000) (by omega)]; simp)
    go_enter Tryd.func35, Tryd.ntmps35
    go_wp2_with fail
    go_ret2
    rw [spX_no HB.out, HB.out]
    exact ⟨none, 0, rfl, fun h => absurd h (by simp), by repeat (first | exact Below.refl _ _ | refine bel_drew ?_)⟩
  by_cases h1 : sep.size = 1
  · obtain ⟨c, rfl⟩ := size_one h1
    have HB : Hid (spB s ⟨#[c]⟩ = true) := Lib.hid (by unfold spB; rw [decide_eq_true (p := s.size ≤ 4000) (by omega), h1]; rfl)
    clear h1
    go_enter Tryd.func35, Tryd.ntmps35
    go_wp2_with fail
    refine (split_any s c m _ hs HMM.out).mono ?_
    rintro e w1 ⟨A, cc, rfl, hi, hb⟩
    have HI := Lib.hid hi
    have HW := Lib.hid hb
    clear hi hb
    go_wp2_with fail
    go_ret2
    rw [spX_yes HB.out, HB.out]
    exact ⟨_, _, rfl, HI.out, HW.out⟩
  · have HB : Hid (spB s sep = false) := Lib.hid (by unfold spB; rw [decide_eq_false h1]; rfl)
    have hq : (((sep.size : Nat) : Int) != 1) = true := by simp; omega
    go_enter Tryd.func35, Tryd.ntmps35
    go_wp2_with fail
    go_ret2
    rw [spX_no HB.out, HB.out]
    exact ⟨none, 0, rfl, fun h => absurd h (by simp), by repeat (first | exact Below.refl _ _ | refine bel_drew ?_)⟩
set_option maxRecDepth 100000 in
set_option maxHeartbeats 4000000 in
theorem fnSplitString_walk (s : ByteArray) (ws : s.size ≤ maxLen) (sep : ByteArray) (wp : sep.size ≤ maxLen) (w : World) (m : Int) (HM : ∀ w', Below w.heap.size w w' → w'.cell? ⟨0, 0, none⟩ = some (.int .i64 m)) :
    Calls Tryd.prog 10 #[.string s, .string sep] w fun e w' => e = .returned (.bool true) ∧ Below w.heap.size w w' := by
  have HMH := Lib.hid HM
  clear HM
  by_cases hs : 1048576 < s.size
  · go_enter Tryd.func10, Tryd.ntmps10
    go_wp2
    go_ret
    exact ⟨rfl, Below.refl _ _⟩
  by_cases hp : 1048576 < sep.size
  · go_enter Tryd.func10, Tryd.ntmps10
    go_wp2
    go_ret
    exact ⟨rfl, Below.refl _ _⟩
  have hs' : s.size ≤ 1048576 := by omega
  have hp' : sep.size ≤ 1048576 := by omega
  have hlen := spX_len s sep hs'
  go_enter Tryd.func10, Tryd.ntmps10
  go_wp2_with fail
  refine (specSplit_any _ _ _ hs' hp').mono ?_
  rintro e w1 ⟨wA, wc, rfl, wi, hb0⟩
  have WI := Lib.hid wi
  have B1 := Lib.hid hb0
  have z1 := hb0.size
  clear wi hb0
  go_wp2_with fail
  refine (implSplit_any _ _ _ hs' hp' m (HMH.out _ B1.out)).mono ?_
  rintro e w2 ⟨gA, gc, rfl, gi, hb1⟩
  have GI := Lib.hid gi
  have B2 := Lib.hid hb1
  have z2 := hb1.size
  have WI2 := Lib.hid (WI.out.new_call hb1 (Nat.le_refl _))
  clear gi hb1
  go_wp2_with fail
  refine (eqStringS_same _ _ _ _ _ _ _ _ GI.out WI2.out hlen).mono ?_
  rintro e w3 ⟨rfl, q, rfl⟩
  go_wp2_with fail
  have hmm := markStringS_any w1.heap.size w2.heap.size gA gc _ 1 (w2.drewN q) (Sl.keep (w' := w2.drewN q) GI.out (fun c _ o => ⟨rfl, rfl⟩)) (Nat.le_refl _) hlen (by omega) (by omega)
  push_cast at hmm
  refine hmm.mono ?_
  rintro e w4 ⟨rfl, hm, gi3⟩
  have GH := Lib.hid gi3
  have z4 : w2.heap.size ≤ w4.heap.size := hm.size
  have B4 : Hid (Below w.heap.size w w4) := Lib.hid ((bel_drewN (bel_call B1.out B2.out) q).trans ((hm.below (by show _ ≤ w2.heap.size; exact z2)).mono z1))
  have WH := Lib.hid ((Sl.keep (w' := w2.drewN q) WI2.out (fun c _ o => ⟨rfl, rfl⟩)).keep fun c hc => hm.same (.inl hc.2) (by show _ < w2.heap.size; have := hc.2; omega))
  clear hm gi3 hmm
  have hkr : decide ((1 : Int) + (((spX s sep).length : Nat) : Int) < 0) = false := by simp; omega
  go_wp2_with fail
  have hhd := heldStringS_any gA gc _ 1 w4 (GH.out.to_below z4) hlen (by omega) (by omega)
  push_cast at hhd
  refine hhd.mono ?_
  rintro e w5 ⟨rfl, hb5⟩
  have z5 := hb5.size
  have GH5 := Lib.hid (GH.out.new_call hb5 z4)
  have WH5 := Lib.hid (WH.out.new_call hb5 (by omega))
  have B5 := Lib.hid (bel_of B4.out (by have := B4.out.size; omega) hb5)
  clear hhd hb5
  go_wp2_with fail
  refine (implSplit_any _ _ _ hs' hp' m (HMH.out _ B5.out)).mono ?_
  rintro e w6 ⟨hA, hc, rfl, hi, hb6⟩
  have z6 := hb6.size
  have HI := Lib.hid hi
  have GH6 := Lib.hid (GH5.out.new_call hb6 (by omega))
  have WH6 := Lib.hid (WH5.out.new_call hb6 (by omega))
  have B6 := Lib.hid (bel_of B5.out (by have := B5.out.size; omega) hb6)
  clear hi hb6
  go_wp2_with fail
  refine (eqStringS_same _ _ _ _ _ _ _ _ HI.out WH6.out hlen).mono ?_
  rintro e w7 ⟨rfl, q2, rfl⟩
  go_wp2_with fail
  have hhd := heldStringS_any gA gc _ 1 (w6.drewN q2) ((Sl.keep (w' := w6.drewN q2) GH6.out (fun c _ o => ⟨rfl, rfl⟩)).to_below (by show _ ≤ w6.heap.size; omega)) hlen (by omega) (by omega)
  push_cast at hhd
  refine hhd.mono ?_
  rintro e w8 ⟨rfl, hb8⟩
  have B8 := Lib.hid (bel_of (bel_drewN B6.out q2) (by have := B6.out.size; show _ ≤ w6.heap.size; omega) hb8)
  clear hhd hb8
  go_wp2_with fail
  go_ret
  exact ⟨rfl, B8.out⟩
end Go.Proofs.YtgakmmjbdejmdaaDoor
