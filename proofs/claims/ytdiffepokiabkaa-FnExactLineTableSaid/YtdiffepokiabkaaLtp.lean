/- LineTable: plain. -/
import Derived.Test.YtdiffepokiabkaaHdp
import Derived.Test.YtdiffepokiabkaaClk
namespace Go.Proofs.Ytdiffepokiabkaa
open Go.ChangeShapes Go.WideShapes Go.ChangeAt Go.RowKit Go.PlainAid
set_option linter.unusedVariables false
set_option linter.unusedSimpArgs false

/-! ### Places of the trips of a line in the order of their starts -/
def gtX (x : TTD) (a b : Int) : Bool := decide ((nth3 x.trips b.toNat).c < (nth3 x.trips a.toNat).c)
def ixF (x : TTD) (l : Int) : Nat → List Int
  | 0 => []
  | k + 1 => if (nth3 x.trips k).b = l then insG (gtX x) (ixF x l k) (k : Int) else ixF x l k
theorem ixF_yes {x : TTD} {l : Int} {k : Nat} (h : (nth3 x.trips k).b = l) : ixF x l (k + 1) = insG (gtX x) (ixF x l k) (k : Int) := by rw [ixF, if_pos h]
theorem ixF_no {x : TTD} {l : Int} {k : Nat} (h : ¬ (nth3 x.trips k).b = l) : ixF x l (k + 1) = ixF x l k := by rw [ixF, if_neg h]
def stX (x : TTD) (i : Int) : Int := (nth3 x.trips i.toNat).c
theorem ixF_map (x : TTD) (l : Int) (n : Nat) : (ixF x l n).map (stX x) = stF x l n := by
  induction n with
  | zero => rfl
  | succ n ih =>
    rw [ixF, stF]
    split
    · rw [insG_map (gt := gtX x) (gt' := gtI) (f := stX x) (fun a b => rfl), ih]
      unfold stX
      rw [Int.toNat_natCast]
    · exact ih
theorem ixF_len (x : TTD) (l : Int) (n : Nat) : (ixF x l n).length = (stF x l n).length := by rw [← ixF_map, List.length_map]
theorem ixF_mem {x : TTD} {l : Int} {n : Nat} {v : Int} (h : v ∈ ixF x l n) : ∃ i : Nat, i < n ∧ v = i ∧ (nth3 x.trips i).b = l := by
  induction n with
  | zero => simp [ixF] at h
  | succ n ih =>
    rw [ixF] at h
    split at h
    · rename_i hb
      have h2 := (insG_perm _ _ _).mem_iff.1 h
      rcases List.mem_cons.1 h2 with e | h3
      · exact ⟨n, by omega, e, hb⟩
      · obtain ⟨i, hi, e, hb'⟩ := ih h3; exact ⟨i, by omega, e, hb'⟩
    · obtain ⟨i, hi, e, hb'⟩ := ih h; exact ⟨i, by omega, e, hb'⟩
/-- The place at k, and its start. -/
theorem ixF_at {x : TTD} {l : Int} {n k : Nat} (h : k < (ixF x l n).length) : ∃ i : Nat, i < n ∧ nth (ixF x l n) k = i ∧ (nth3 x.trips i).b = l ∧ nth (stF x l n) k = (nth3 x.trips i).c := by
  obtain ⟨i, hi, e, hb⟩ := ixF_mem (nth_mem h)
  refine ⟨i, hi, e, hb, ?_⟩
  rw [← ixF_map]
  unfold nth at e ⊢
  rw [List.getD_eq_getElem?_getD, List.getElem?_eq_getElem h] at e
  rw [List.getD_eq_getElem?_getD, List.getElem?_map, List.getElem?_eq_getElem h]
  simp only [Option.map_some, Option.getD_some] at e ⊢
  unfold stX
  rw [e, Int.toNat_natCast]

/-! ### The table -/
theorem clk_size5 (t : Nat) : (clk t).size = 5 := by simp [clk, ByteArray.size_append, two_size]; rfl
theorem names_size8 {xs : List ByteArray} (h : namesB xs = true) {k : Nat} (hk : k < xs.length) : (nthS xs k).size ≤ 8 := by
  have h1 : AreNames xs := of_decide_eq_true h
  have h2 : IsName (nthS xs k) := of_decide_eq_true (h1 k hk).1
  exact h2.2.1
/-- What is known of a line of a valid timetable. -/
structure LnX (x : TTD) (l : Nat) : Prop where
  lt : l < x.net.lines.length
  lo : 2 ≤ (nthL x.net.lines l).stops.length
  len : (nthL x.net.lines l).stops.length ≤ 6
  runs : (nthL x.net.lines l).runs.length + 1 = (nthL x.net.lines l).stops.length
  stop : ∀ k, k < (nthL x.net.lines l).stops.length → 0 ≤ nth (nthL x.net.lines l).stops k ∧ nth (nthL x.net.lines l).stops k < x.net.stops.length ∧ (nthS x.net.stops (nth (nthL x.net.lines l).stops k).toNat).size ≤ 8
  time : ∀ i k, i < x.trips.length → (nth3 x.trips i).b = l → k < (nthL x.net.lines l).stops.length → 0 ≤ (nth3 x.trips i).c + sumI (nthL x.net.lines l).runs k ∧ (nth3 x.trips i).c + sumI (nthL x.net.lines l).runs k ≤ 1799
theorem lnX_of {x : TTD} (h : ttB x = true) {l : Nat} (hl : l < x.net.lines.length) : LnX x l := by
  have n := netB_ok (ttB_ok h).1
  have ln : LineOk x.net.stops.length (nthL x.net.lines l) := of_decide_eq_true (n.each _ hl)
  have hd := ln.1
  unfold LineHd at hd
  have hr : Runs60 (nthL x.net.lines l).runs := lineOk_runs ln
  refine ⟨hl, hd.1, hd.2.1, hd.2.2, fun k hk => ?_, fun i k hi hb hk => ?_⟩
  · have h1 := (ln.2.1 k hk).1
    rw [inB_iff] at h1
    have h2 := h1.1
    have h3 := h1.2
    exact ⟨h2, by omega, names_size8 n.names (by omega)⟩
  · have hto := (ttB_ok h).2.2 i hi
    have he : tmB (endI x (nth3 x.trips i)) = true := hto.1.2.2.2.2.2
    rw [tmB_iff] at he
    have h1 := sumI_bd hr k (by omega)
    have h2 := sumI_mono hr k (nthL x.net.lines l).runs.length (by omega) (Nat.le_refl _)
    have h3 : endI x (nth3 x.trips i) = (nth3 x.trips i).c + sumI (nthL x.net.lines l).runs (nthL x.net.lines l).runs.length := by unfold endI; rw [hb, Int.toNat_natCast]
    have h4 := (ti_of h hi).c0
    omega
/-- A row up to its j-th trip. -/
def rowS (x : TTD) (l k : Nat) : Nat → ByteArray
  | 0 => nthS x.net.stops (nth (nthL x.net.lines l).stops k).toNat
  | j + 1 => rowS x l k j ++ ⟨#[32]⟩ ++ clk (nth (stF x l x.trips.length) j + sumI (nthL x.net.lines l).runs k).toNat
theorem rowS_succ (x : TTD) (l k j : Nat) : rowS x l k j ++ ⟨#[32]⟩ ++ clk (nth (stF x l x.trips.length) j + sumI (nthL x.net.lines l).runs k).toNat = rowS x l k (j + 1) := rfl
theorem rowS_succ' (x : TTD) (l k j : Nat) : rowS x l k j ++ (⟨#[32]⟩ ++ clk (nth (stF x l x.trips.length) j + sumI (nthL x.net.lines l).runs k).toNat) = rowS x l k (j + 1) := by
  rw [← rowS_succ]; simp only [ByteArray.append_assoc]
theorem rowS_size {x : TTD} {l : Nat} (h : LnX x l) {k : Nat} (hk : k < (nthL x.net.lines l).stops.length) (j : Nat) : (rowS x l k j).size ≤ 8 + 6 * j := by
  have e2 : (⟨#[32]⟩ : ByteArray).size = 1 := rfl
  induction j with
  | zero => have := (h.stop k hk).2.2; simp only [rowS]; omega
  | succ j ih => simp only [rowS, ByteArray.size_append, e2, clk_size5]; omega
/-- The rows of the first k places. -/
def tabF (x : TTD) (l : Nat) : Nat → List ByteArray
  | 0 => []
  | k + 1 => tabF x l k ++ [rowS x l k (stF x l x.trips.length).length]
theorem tabF_len (x : TTD) (l n : Nat) : (tabF x l n).length = n := by
  induction n with
  | zero => rfl
  | succ n ih => rw [tabF, List.length_append, ih]; rfl
def ltT (x : TTD) (l : Int) : List ByteArray := if hwB x l = true then tabF x l.toNat (nthL x.net.lines l.toNat).stops.length else []
theorem ltT_no {x : TTD} {l : Int} (h : hwB x l = false) : ltT x l = [] := by unfold ltT; rw [h]; rfl
theorem ltT_yes {x : TTD} {l : Int} (h : hwB x l = true) : ltT x l = tabF x l.toNat (nthL x.net.lines l.toNat).stops.length := by unfold ltT; rw [if_pos h]
theorem hwB_ok {x : TTD} {l : Int} (h : hwB x l = true) : ttB x = true ∧ ∃ k : Nat, l = k ∧ k < x.net.lines.length := by
  unfold hwB at h
  simp only [Bool.and_eq_true, inB_iff] at h
  exact ⟨h.1, l.toNat, by omega, by omega⟩
theorem ltT_len (x : TTD) (l : Int) : (ltT x l).length ≤ 1048576 := by
  cases h : hwB x l
  · rw [ltT_no h]; simp
  · obtain ⟨hg, k, rfl, hk⟩ := hwB_ok h
    have := (lnX_of hg hk).len
    rw [ltT_yes h, tabF_len, Int.toNat_natCast]
    omega
end Go.Proofs.Ytdiffepokiabkaa
