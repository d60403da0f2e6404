/- JoinStrings. -/
import Derived.Test.YtgakmmjbdejmdaaStd
import Derived.Test.YtgakmmjbdejmdaaRet
import Derived.Test.YtgakmmjbdejmdaaOpenN
import Derived.Test.YtgakmmjbdejmdaaShelf
import Derived.Lib.Join
namespace Go.Proofs.Ytgakmmjbdejmdaa
open Go.ChangeShapes Go.WideShapes Go.ChangeAt Go.RowKit Go.PlainAid
set_option linter.unusedVariables false
set_option linter.unusedSimpArgs false

/-- The first k parts, joined. -/
def jn (c : UInt8) (xs : List ByteArray) : Nat → ByteArray
  | 0 => ⟨#[]⟩
  | k + 1 => (if 0 < k then jn c xs k ++ ⟨#[c]⟩ else jn c xs k) ++ nthS xs k
theorem jn_one (c : UInt8) (xs : List ByteArray) : jn c xs 1 = ⟨#[]⟩ ++ nthS xs 0 := rfl
theorem jn_succ (c : UInt8) (xs : List ByteArray) {k : Nat} (h : 0 < k) : jn c xs (k + 1) = jn c xs k ++ ⟨#[c]⟩ ++ nthS xs k := by rw [jn, if_pos h]
theorem jn_size (c : UInt8) (xs : List ByteArray) {k : Nat} (h : 0 < k) : (jn c xs (k + 1)).size = (jn c xs k).size + 1 + (nthS xs k).size := by
  rw [jn_succ c xs h, ByteArray.size_append, ByteArray.size_append]; rfl
theorem jn_size1 (c : UInt8) (xs : List ByteArray) : (jn c xs 1).size = (nthS xs 0).size := by
  rw [jn_one, ByteArray.size_append]; show 0 + _ = _; omega
theorem jn_list (c : UInt8) (x : ByteArray) (r : List ByteArray) : ∀ k, k ≤ r.length → (jn c (x :: r) (k + 1)).data.toList = x.data.toList ++ Lib.joinTail [c] ((r.map (·.data.toList)).take k) := by
  intro k
  induction k with
  | zero =>
    intro _
    rw [jn_one, ByteArray.data_append, Array.toList_append]
    show [] ++ x.data.toList = x.data.toList ++ Lib.joinTail [c] []
    simp [Lib.joinTail]
  | succ k ih =>
    intro hk
    have e : (r.map (·.data.toList))[k]? = some (nthS r k).data.toList := by
      rw [List.getElem?_map, List.getElem?_eq_getElem (by omega)]
      unfold nthS
      rw [List.getD_eq_getElem?_getD, List.getElem?_eq_getElem (by omega)]
      rfl
    rw [jn_succ c _ (Nat.succ_pos k), ByteArray.data_append, ByteArray.data_append, Array.toList_append, Array.toList_append, ih (by omega), Lib.joinTail_take_succ _ _ _ _ e]
    simp only [List.append_assoc]
    rfl
theorem jn_join (c : UInt8) (xs : List ByteArray) (h : 0 < xs.length) : (Lib.join (xs.map (·.data.toList)) [c]) = (jn c xs xs.length).data.toList := by
  cases xs with
  | nil => simp at h
  | cons x r =>
    rw [List.map_cons, Lib.join_cons]
    show _ = (jn c (x :: r) (r.length + 1)).data.toList
    rw [jn_list c x r r.length (Nat.le_refl _), List.take_of_length_le (by rw [List.length_map]; exact Nat.le_refl _)]
/-- The parts up to k are fine. -/
def JOk (c : UInt8) (xs : List ByteArray) (k : Nat) : Prop := ∀ i, i < k → hasB (nthS xs i) c = false ∧ (jn c xs (i + 1)).size ≤ 4000
instance (c : UInt8) (xs : List ByteArray) (k : Nat) : Decidable (JOk c xs k) := by unfold JOk; exact inferInstance
theorem JOk.succ {c : UInt8} {xs : List ByteArray} {k : Nat} (h : JOk c xs k) (h1 : hasB (nthS xs k) c = false) (h2 : (jn c xs (k + 1)).size ≤ 4000) : JOk c xs (k + 1) := fun i hi => by
  by_cases e : i = k
  · subst e; exact ⟨h1, h2⟩
  · exact h i (by omega)
theorem JOk.size {c : UInt8} {xs : List ByteArray} {k : Nat} (h : JOk c xs k) : (jn c xs k).size ≤ 4000 := by
  cases k with
  | zero => show 0 ≤ 4000; omega
  | succ k => exact (h k (Nat.lt_succ_self k)).2
/-- The answer of JoinStrings. -/
def jB (xs : List ByteArray) (sep : ByteArray) : Bool := decide (sep.size = 1) && decide (0 < xs.length) && decide (JOk (sep.data.getD 0 0) xs xs.length)
def jS (xs : List ByteArray) (sep : ByteArray) : ByteArray := if jB xs sep = true then jn (sep.data.getD 0 0) xs xs.length else ⟨#[]⟩
theorem jS_no {xs : List ByteArray} {sep : ByteArray} (h : jB xs sep = false) : jS xs sep = ⟨#[]⟩ := by unfold jS; rw [h]; rfl
theorem jS_yes {xs : List ByteArray} {c : UInt8} (h : jB xs ⟨#[c]⟩ = true) : jS xs ⟨#[c]⟩ = jn c xs xs.length := by unfold jS; rw [if_pos h]; rfl
theorem jB_1 {xs : List ByteArray} {sep : ByteArray} (h : ¬ sep.size = 1) : jB xs sep = false := by unfold jB; rw [decide_eq_false h]; rfl
theorem jB_2 {xs : List ByteArray} {sep : ByteArray} (h : xs.length = 0) : jB xs sep = false := by unfold jB; rw [decide_eq_false (p := 0 < xs.length) (by omega)]; simp
theorem jB_3 {xs : List ByteArray} {c : UInt8} (h : ¬ JOk c xs xs.length) : jB xs ⟨#[c]⟩ = false := by
  have e : (⟨#[c]⟩ : ByteArray).data.getD 0 0 = c := rfl
  unfold jB
  rw [e, decide_eq_false h]
  simp
theorem jB_y {xs : List ByteArray} {c : UInt8} (h0 : 0 < xs.length) (h : JOk c xs xs.length) : jB xs ⟨#[c]⟩ = true := by
  have e : (⟨#[c]⟩ : ByteArray).data.getD 0 0 = c := rfl
  unfold jB
  rw [e, decide_eq_true h0, decide_eq_true h]
  rfl
theorem retSB {a b : ByteArray} {p q : Bool} (h : a = b) (h' : p = q) : Ending.returned (.tuple #[.string a, .bool p]) = .returned (.tuple #[.string b, .bool q]) := by rw [h, h']
theorem size_one {s : ByteArray} (h : s.size = 1) : ∃ c, s = ⟨#[c]⟩ := by
  obtain ⟨⟨l⟩⟩ := s
  match l, h with
  | [c], _ => exact ⟨c, rfl⟩
/-- The sizes of the parts. -/
structure FitsS (xs : List ByteArray) : Prop where
  len : xs.length ≤ 1048576
  each : ∀ k, k < xs.length → (nthS xs k).size ≤ 1048576
theorem fitsS_of {xs : List ByteArray} (h : ¬ szI (szSs xs) 1048576 < 0) : FitsS xs := by
  have h2 : szSs xs ≤ 1048576 := by unfold szI at h; split at h <;> omega
  unfold szSs at h2
  refine ⟨by omega, fun k hk => ?_⟩
  have := le_upto (fun j => (nthS xs j).size) hk
  omega

set_option maxRecDepth 100000 in
set_option maxHeartbeats 4000000 in
theorem specJoin_any (A : Option Addr) (ca : Nat) (xs : List ByteArray) (sep : ByteArray) (w : World) (h : StrsIn w (Zone.below w.heap.size) A xs) (hx : FitsS xs) (hs : sep.size ≤ 1048576) :
    Calls Try.prog 7 #[.slice A xs.length ca, .string sep] w fun e w' => e = .returned (.tuple #[.string (jS xs sep), .bool (jB xs sep)]) ∧ Below w.heap.size w w' := by
  have HX := Lib.hid h
  have hn := hx.len
  have HE := Lib.hid hx.each
  clear h hx
  by_cases h1 : sep.size = 1
  case neg =>
    have HB := Lib.hid (jB_1 (xs := xs) h1)
    have hq : (((sep.size : Nat) : Int) != 1) = true := by simp; omega
    go_enter Try.func7, Try.ntmps7
    go_wp2_with fail
    go_ret2
    exact ⟨retSB (jS_no HB.out).symm HB.out.symm, by repeat (first | exact Below.refl _ _ | refine bel_drew ?_)⟩
  obtain ⟨c, rfl⟩ := size_one h1
  clear h1
  by_cases h0 : xs.length = 0
  · have HB := Lib.hid (jB_2 (sep := ⟨#[c]⟩) h0)
    have hq : (((xs.length : Nat) : Int) == 0) = true := beq_iff_eq.2 (by omega)
    clear h0
    go_enter Try.func7, Try.ntmps7
    go_wp2_with fail
    go_ret2
    exact ⟨retSB (jS_no HB.out).symm HB.out.symm, by repeat (first | exact Below.refl _ _ | refine bel_drew ?_)⟩
  have hp : 0 < xs.length := by omega
  have hq : (((xs.length : Nat) : Int) == 0) = false := beq_eq_false_iff_ne.2 (by omega)
  have z1 : (⟨#[c]⟩ : ByteArray).size = 1 := rfl
  clear h0
  go_enter Try.func7, Try.ntmps7
  go_wp2_with fail
  clear hq
  have J0 : Hid ((⟨#[]⟩ : ByteArray) = jn c xs 0) := Lib.hid rfl
  go_loopw [6, 7] (fun s j wr => ∃ k : Nat, k ≤ xs.length ∧ j = .int .i64 k ∧ s = .string (jn c xs k) ∧ JOk c xs k ∧ Below w.heap.size w wr) (fun _ j _ => xs.length - (intOf j).toNat)
  case atStart => exact ⟨0, Nat.zero_le _, rfl, rfl, fun i hi => absurd hi (Nat.not_lt_zero _), Below.refl _ _⟩
  case round =>
    obtain ⟨k, hk, rfl, rfl, hj, hb⟩ := hrel
    have HB := Lib.hid hb
    have HJ := Lib.hid hj
    have hjs := hj.size
    have hz := hb.size
    clear hb hj
    by_cases hlt : k < xs.length
    · obtain ⟨b, o, rfl, hbl, hc0⟩ := HX.out.get hlt
      have hes := HE.out k hlt
      have hc : w.cell? ⟨b, o + k, none⟩ = some (.string (nthS xs k)) := hc0
      have HC := Lib.hid hc
      clear hc hc0
      obtain ⟨wo, rfl⟩ : ∃ wo : World, wo = wr := ⟨_, rfl⟩
      have hik : (k : Int) < xs.length := by omega
      have HS1 : Hid (k = 0 → (jn c xs k) ++ nthS xs k = jn c xs (k + 1)) := Lib.hid (fun h => by subst h; rfl)
      have HS2 : Hid (0 < k → (jn c xs k) ++ ⟨#[c]⟩ ++ nthS xs k = jn c xs (k + 1)) := Lib.hid (fun h => (jn_succ c xs h).symm)
      have HZ1 : Hid (k = 0 → (jn c xs (k + 1)).size = (jn c xs k).size + (nthS xs k).size) := Lib.hid (fun h => by rw [← HS1.out h, ByteArray.size_append])
      have HZ2 : Hid (0 < k → (jn c xs (k + 1)).size = (jn c xs k).size + 1 + (nthS xs k).size) := Lib.hid (fun h => jn_size c xs h)
      have HSU := Lib.hid (fun (h1 : hasB (nthS xs k) c = false) (h2 : (jn c xs (k + 1)).size ≤ 4000) => HJ.out.succ h1 h2)
      have HNO : Hid (hasB (nthS xs k) c = true ∨ 4000 < (jn c xs (k + 1)).size → jB xs ⟨#[c]⟩ = false) := Lib.hid (fun h => jB_3 (fun hj => by
        have h2 := hj k hlt
        rcases h with h | h
        · rw [h2.1] at h; exact absurd h (by simp)
        · have := h2.2; omega))
      obtain ⟨s, hs0⟩ : ∃ s, s = jn c xs k := ⟨_, rfl⟩
      rw [← hs0] at hjs HS1 HS2 HZ1 HZ2 ⊢
      generalize hxk : nthS xs k = x at *
      clear hs0
      have hD : ∀ w', Below wo.heap.size wo w' → w'.cell? ⟨b, o + k, none⟩ = some (.string x) := fun w' h => ((bel_call HB.out h).cell (p := ⟨b, _, none⟩) hbl).trans HC.out
      cases hst : hasB x c
      · go_wp2_with fail
        go_region_held3 (fun w' => Below wo.heap.size wo w') (repeat' first | assumption | exact Nat.le_refl _ | exact Below.refl _ _ | (refine bel_drew ?_) | (refine bel_alloc ?_ _) | (refine bel_set ?_ ?_ _))
          (first
            | (go_at_call 21; refine (l1Stands_any x c _ (by omega)).mono ?_; rintro e w5 ⟨rfl, rfl⟩; rw [hst]))
        all_goals
          have hcx := hD wo (Below.refl _ _)
          clear hD
          by_cases hk0 : k = 0
          · have hz1 := HZ1.out hk0
            have hkn : decide ((0 : Int) < (k : Int)) = false := decide_eq_false (by omega)
            have hkn2 : ¬ ((0 : Int) < (k : Int)) := by omega
            have HT := Lib.hid (HS1.out hk0)
            clear HS1 HS2 HZ1 HZ2
            by_cases h4 : 4000 < (jn c xs (k + 1)).size
            · have HNX := Lib.hid (HNO.out (.inr h4))
              have h4' : 4000 < s.size + x.size := by omega
              clear hk0 hz1 h4
              go_wp2_with fail
              go_ret2
              exact ⟨retSB (jS_no HNX.out).symm HNX.out.symm, HB.out.drew⟩
            · have HJ2 := Lib.hid (HSU.out hst (by omega))
              have h4' : s.size + x.size ≤ 4000 := by omega
              clear hk0 hz1 h4
              go_wp2_with fail
              go_roundw
              case rel => exact ⟨k + 1, by omega, by go_num, by rw [← HT.out], HJ2.out, HB.out.drew⟩
              case measure => simp [intOf]; omega
          · have hkp : (0 : Int) < k := by omega
            have hz1 := HZ2.out (by omega)
            have HT := Lib.hid (HS2.out (by omega))
            clear HS1 HS2 HZ1 HZ2
            by_cases h4 : 4000 < (jn c xs (k + 1)).size
            · have HNX := Lib.hid (HNO.out (.inr h4))
              have h4' : 4000 < s.size + 1 + x.size := by omega
              clear hz1 h4
              go_wp2_with fail
              go_ret2
              exact ⟨retSB (jS_no HNX.out).symm HNX.out.symm, HB.out.drew⟩
            · have HJ2 := Lib.hid (HSU.out hst (by omega))
              have h4' : s.size + 1 + x.size ≤ 4000 := by omega
              clear hz1 h4
              go_wp2_with fail
              go_roundw
              case rel => exact ⟨k + 1, by omega, by go_num, by rw [← HT.out], HJ2.out, HB.out.drew⟩
              case measure => simp [intOf]; omega
      · have HNX := Lib.hid (HNO.out (.inl hst))
        go_wp2_with fail
        go_region_held3 (fun w' => Below wo.heap.size wo w') (repeat' first | assumption | exact Nat.le_refl _ | exact Below.refl _ _ | (refine bel_drew ?_) | (refine bel_alloc ?_ _) | (refine bel_set ?_ ?_ _))
          (first
            | (go_at_call 21; refine (l1Stands_any x c _ (by omega)).mono ?_; rintro e w5 ⟨rfl, rfl⟩; rw [hst]))
        all_goals
          clear hD
          go_wp2_with fail
          go_ret2
          exact ⟨retSB (jS_no HNX.out).symm HNX.out.symm, HB.out.drew⟩
    · obtain rfl : k = xs.length := by omega
      have HY := Lib.hid (jB_y hp HJ.out)
      go_wp2_with fail
      go_ret2
      exact ⟨retSB (jS_yes HY.out).symm HY.out.symm, HB.out⟩

set_option maxRecDepth 100000 in
set_option maxHeartbeats 4000000 in
theorem implJoin_any (A : Option Addr) (ca : Nat) (xs : List ByteArray) (sep : ByteArray) (w : World) (h : StrsIn w (Zone.below w.heap.size) A xs) (hca : xs.length ≤ ca) (hx : FitsS xs) (hs : sep.size ≤ 1048576) :
    Calls Try.prog 9 #[.slice A xs.length ca, .string sep] w fun e w' => e = .returned (.tuple #[.string (jS xs sep), .bool (jB xs sep)]) ∧ Below w.heap.size w w' := by
  have HX := Lib.hid h
  have hn := hx.len
  have HE := Lib.hid hx.each
  clear h hx
  by_cases h0 : xs.length = 0
  · have HB := Lib.hid (jB_2 (sep := sep) h0)
    have hq : (((xs.length : Nat) : Int) == 0) = true := beq_iff_eq.2 (by omega)
    clear h0
    go_enter Try.func9, Try.ntmps9
    go_wp2_with fail
    go_ret2
    exact ⟨retSB (jS_no HB.out).symm HB.out.symm, by repeat (first | exact Below.refl _ _ | refine bel_drew ?_)⟩
  have hp : 0 < xs.length := by omega
  have hq : (((xs.length : Nat) : Int) == 0) = false := beq_eq_false_iff_ne.2 (by omega)
  clear h0
  by_cases h1 : sep.size = 1
  case neg =>
    have HB := Lib.hid (jB_1 (xs := xs) h1)
    have hq2 : (((sep.size : Nat) : Int) != 1) = true := by simp; omega
    go_enter Try.func9, Try.ntmps9
    go_wp2_with fail
    go_ret2
    exact ⟨retSB (jS_no HB.out).symm HB.out.symm, by repeat (first | exact Below.refl _ _ | refine bel_drew ?_)⟩
  obtain ⟨c, rfl⟩ := size_one h1
  clear h1
  have z1 : (⟨#[c]⟩ : ByteArray).size = 1 := rfl
  obtain ⟨b, o, rfl, hbl, hfz, hcc⟩ := HX.out hp
  have hcells : ∀ (j : Nat) x, xs[j]? = some x → w.cell? ⟨b, o + j, none⟩ = some (.string x) := fun j x hj => by
    obtain ⟨h1, h2⟩ := List.getElem?_eq_some_iff.1 hj
    have h3 : w.cell? ⟨b, o + j, none⟩ = some (.string (xs.getD j default)) := hcc j h1
    rw [h3, List.getD_eq_getElem?_getD, hj]
    rfl
  have HCC := Lib.hid hcells
  clear hfz hcc hcells
  go_enter Try.func9, Try.ntmps9
  go_wp2_with fail
  clear hq
  go_loopw [6, 8, 19] (fun v _ j wr => ∃ k : Nat, k ≤ xs.length ∧ j = .int .i64 k ∧ v = .int .i64 (if 0 < k then ((jn c xs k).size : Int) else -1) ∧ JOk c xs k ∧ Below w.heap.size w wr) (fun _ _ j _ => xs.length - (intOf j).toNat)
  case atStart => exact ⟨0, Nat.zero_le _, rfl, rfl, fun i hi => absurd hi (Nat.not_lt_zero _), Below.refl _ _⟩
  case round =>
    obtain ⟨k, hk, rfl, rfl, hj, hb⟩ := hrel
    have HB := Lib.hid hb
    have HJ := Lib.hid hj
    have hjs := hj.size
    have hz := hb.size
    clear hb hj
    by_cases hlt : k < xs.length
    · have hes := HE.out k hlt
      have hc : w.cell? ⟨b, o + k, none⟩ = some (.string (nthS xs k)) := by
        refine HCC.out k _ ?_
        unfold nthS
        rw [List.getD_eq_getElem?_getD, List.getElem?_eq_getElem hlt]
        rfl
      have hcw := (HB.out.cell (p := ⟨b, o + k, none⟩) hbl).trans hc
      clear hc
      obtain ⟨wo, rfl⟩ : ∃ wo : World, wo = wr := ⟨_, rfl⟩
      have hik : (k : Int) < xs.length := by omega
      have hv : (if 0 < k then ((jn c xs k).size : Int) else -1) + (((nthS xs k).size : Int) + 1) = ((jn c xs (k + 1)).size : Int) := by
        split
        · rename_i h
          rw [jn_size c xs h]
          omega
        · rename_i h
          obtain rfl : k = 0 := by omega
          rw [jn_size1]
          omega
      have hv1 : -1 ≤ (if 0 < k then ((jn c xs k).size : Int) else -1) ∧ (if 0 < k then ((jn c xs k).size : Int) else -1) ≤ 4000 := by split <;> omega
      have HSU := Lib.hid (fun (h1 : hasB (nthS xs k) c = false) (h2 : (jn c xs (k + 1)).size ≤ 4000) => HJ.out.succ h1 h2)
      have HNO : Hid (hasB (nthS xs k) c = true ∨ 4000 < (jn c xs (k + 1)).size → jB xs ⟨#[c]⟩ = false) := Lib.hid (fun h => jB_3 (fun hj => by
        have h2 := hj k hlt
        rcases h with h | h
        · rw [h2.1] at h; exact absurd h (by simp)
        · have := h2.2; omega))
      have HR : Hid (∀ z : Int, z = ((jn c xs (k + 1)).size : Int) → Value.int .i64 z = .int .i64 (if 0 < k + 1 then ((jn c xs (k + 1)).size : Int) else -1)) := Lib.hid (fun z hz => by rw [if_pos (Nat.succ_pos k), hz])
      generalize hV : (if 0 < k then ((jn c xs k).size : Int) else -1) = V at *
      generalize hxk : nthS xs k = x at *
      generalize hjk : jn c xs (k + 1) = y at *
      have HV := Lib.hid hv
      have HJK := Lib.hid hjk
      have hw1 : IntKind.i64.wrap ((x.size : Int) + 1) = (x.size : Int) + 1 := IntWalk.i64_in _ (by omega)
      have hw2 : IntKind.i64.wrap (V + ((x.size : Int) + 1)) = (y.size : Int) := by rw [hv]; exact IntWalk.i64_in _ (by omega)
      clear hV hxk hjk hv hv1 hjs
      by_cases h4 : 4000 < y.size
      · have HNX := Lib.hid (HNO.out (.inr h4))
        have h4' : (4000 : Int) < y.size := by omega
        go_wp2_with fail
        go_ret2
        exact ⟨retSB (jS_no HNX.out).symm HNX.out.symm, by repeat (first | exact HB.out | refine bel_drew ?_)⟩
      · have h4' : (y.size : Int) ≤ 4000 := by omega
        cases hst : hasB x c
        · have HJ2 := Lib.hid (HSU.out hst (by omega))
          have hd : decide (0 ≤ Lib.indexByte x.data.toList c) = false := hst
          go_wp2_with (go_at_call 22; refine (Try.strings_Contains_one _ c _).mono ?_; rintro e w5 ⟨rfl, rfl⟩; rw [hd])
          go_roundw
          case rel => exact ⟨k + 1, by omega, by go_num, by rw [HJK.out]; exact HR.out _ rfl, HJ2.out, by repeat (first | exact HB.out | refine bel_drew ?_)⟩
          case measure => simp [intOf]; omega
        · have HNX := Lib.hid (HNO.out (.inl hst))
          have hd : decide (0 ≤ Lib.indexByte x.data.toList c) = true := hst
          go_wp2_with (go_at_call 22; refine (Try.strings_Contains_one _ c _).mono ?_; rintro e w5 ⟨rfl, rfl⟩; rw [hd])
          go_ret2
          exact ⟨retSB (jS_no HNX.out).symm HNX.out.symm, by repeat (first | exact HB.out | refine bel_drew ?_)⟩
    · obtain rfl : k = xs.length := by omega
      have HY := Lib.hid (jB_y hp HJ.out)
      have HJJ := Lib.hid (jn_join c xs hp)
      have hjl : (Lib.join (xs.map (·.data.toList)) (⟨#[c]⟩ : ByteArray).data.toList).length ≤ 140737488355328 := by
        show (Lib.join (xs.map (·.data.toList)) [c]).length ≤ _
        rw [HJJ.out, Array.length_toList]
        show (jn c xs xs.length).size ≤ _
        omega
      have HC2 : Hid (∀ (j : Nat) x, xs[j]? = some x → wr.cell? ⟨b, o + j, none⟩ = some (.string x)) := Lib.hid (fun j x hj => (HB.out.cell (p := ⟨b, o + j, none⟩) hbl).trans (HCC.out j x hj))
      have hbr : b < wr.heap.size := Nat.lt_of_lt_of_le hbl hz
      go_wp2_with fail
      refine (Try.strings_Join b o ca xs ⟨#[c]⟩ _ HC2.out hbr (by omega) hca hjl).mono ?_
      rintro e w2 ⟨rfl, hb2⟩
      have HB2 := Lib.hid (bel_call HB.out hb2)
      have HJ3 : Hid ((⟨(Lib.join (xs.map (·.data.toList)) (⟨#[c]⟩ : ByteArray).data.toList).toArray⟩ : ByteArray) = jn c xs xs.length) := Lib.hid (by
        show (⟨(Lib.join (xs.map (·.data.toList)) [c]).toArray⟩ : ByteArray) = _
        rw [HJJ.out])
      rw [HJ3.out]
      clear hb2
      go_wp2_with fail
      go_ret2
      exact ⟨retSB (jS_yes HY.out).symm HY.out.symm, HB2.out⟩
/-- As a call that may draw. -/
theorem eqStrs_same (A A' : Option Addr) (c c' : Nat) (xs : List ByteArray) (w : World) (h : StrsIn w (Zone.below w.heap.size) A xs) (h' : StrsIn w (Zone.below w.heap.size) A' xs) (hn : xs.length ≤ 1048576) :
    Calls Try.prog 10 #[.slice A xs.length c, .slice A' xs.length c'] w fun e w' => e = .returned (.bool true) ∧ Below w.heap.size w w' :=
  (eqStringS_same _ _ _ _ _ _ _ _ h h' hn).mono fun e w' ⟨he, q, hq⟩ => ⟨he, by rw [hq]; exact bel_drewN (Below.refl _ _) _⟩
/-- A parameter that is a slice of strings. -/
def LStrs (W : World) (v : Value) (xs : List ByteArray) : Prop := ∃ A c, v = .slice A xs.length c ∧ StrsIn W (Zone.below W.heap.size) A xs ∧ xs.length ≤ 9223372036854775807 ∧ ∀ k, k < xs.length → (nthS xs k).size ≤ 9223372036854775807
set_option maxRecDepth 100000 in
theorem open_lstrs {H : Type} {enc : TypeId × Value → H} {W : World} {base : Nat} {v : Value} {d : DataW H} {p : List MemPlace} (hv : Value.okWide Try.prog W .any base 22 v)
    (h : DataW.Trod enc Try.prog W 0 (fun _ => true) true 22 v d p) : ∃ xs, LStrs W v xs := by
  obtain ⟨a0, len, cap, rfl⟩ := okWide_slice Try.underlying22 hv
  obtain ⟨m, hm⟩ := h
  obtain ⟨A, xs, c, e, hA, hl, hs⟩ := strs_open Try.underlying22 Try.underlying9 (by kernel_rfl) hm
  have e' : Value.slice a0 len cap = .slice A xs.length c := by simpa [Value.cells] using e
  exact ⟨xs, A, c, e', hA, hl, hs⟩
end Go.Proofs.Ytgakmmjbdejmdaa
