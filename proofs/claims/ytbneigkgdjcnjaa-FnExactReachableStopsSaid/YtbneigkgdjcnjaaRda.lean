/- Rides: plain laws (levels; rounds over lines; a queue). -/
import Derived.Test.YtbneigkgdjcnjaaLnA
namespace Go.Proofs.Ytbneigkgdjcnjaa
open Go.ChangeShapes Go.WideShapes Go.ChangeAt Go.RowKit Go.PlainAid
set_option linter.unusedVariables false

/-! ### Lists of numbers, one of which is set -/
theorem nth_set_same {xs : List Int} {k : Nat} (v : Int) (h : k < xs.length) : nth (xs.set k v) k = v := by
  unfold nth
  rw [List.getD_eq_getElem?_getD, List.getElem?_set_self h]
  rfl
theorem nth_set_ne {xs : List Int} {k j : Nat} (v : Int) (h : k ≠ j) : nth (xs.set k v) j = nth xs j := by
  unfold nth
  rw [List.getD_eq_getElem?_getD, List.getElem?_set_ne h, List.getD_eq_getElem?_getD]
/-- How many are not negative. -/
def setN : List Int → Nat
  | [] => 0
  | x :: xs => (if 0 ≤ x then 1 else 0) + setN xs
theorem setN_le (xs : List Int) : setN xs ≤ xs.length := by
  induction xs with
  | nil => exact Nat.le_refl _
  | cons x xs ih => simp only [setN, List.length_cons]; split <;> omega
theorem setN_set {xs : List Int} {k : Nat} {v : Int} (h : k < xs.length) (h0 : nth xs k < 0) (hv : 0 ≤ v) : setN (xs.set k v) = setN xs + 1 := by
  induction xs generalizing k with
  | nil => simp at h
  | cons x xs ih =>
    cases k with
    | zero =>
      have hx : x < 0 := h0
      simp only [List.set, setN]
      rw [if_pos hv, if_neg (by omega)]
      omega
    | succ k =>
      have := ih (k := k) (by simpa using h) h0
      simp only [List.set, setN]
      rw [this]
      omega

/-! ### Rides -/
/-- Does a line lead from a stop to a later one? -/
def rideE (x : NetD) (s t : Nat) : Prop := ∃ i, i < x.lines.length ∧ ∃ b, b < (nthL x.lines i).stops.length ∧ ∃ a, a < b ∧ nth (nthL x.lines i).stops a = (s : Int) ∧ nth (nthL x.lines i).stops b = (t : Int)
def rideB (x : NetD) (s t : Nat) : Bool := (List.range x.lines.length).any fun i => (List.range (nthL x.lines i).stops.length).any fun b => (List.range b).any fun a => nth (nthL x.lines i).stops a == (s : Int) && nth (nthL x.lines i).stops b == (t : Int)
theorem rideB_iff {x : NetD} {s t : Nat} : rideB x s t = true ↔ rideE x s t := by
  unfold rideB rideE
  simp only [List.any_eq_true, List.mem_range, Bool.and_eq_true, beq_iff_eq]
/-- Can a stop be reached with d rides or fewer? -/
def reachB (x : NetD) (f : Nat) : Nat → Nat → Bool
  | 0, t => t == f
  | d + 1, t => reachB x f d t || (List.range x.stops.length).any fun s => reachB x f d s && rideB x s t
theorem reach_zero {x : NetD} {f t : Nat} : reachB x f 0 t = true ↔ t = f := by simp [reachB]
theorem reach_succ {x : NetD} {f t d : Nat} : reachB x f (d + 1) t = true ↔ reachB x f d t = true ∨ ∃ s, s < x.stops.length ∧ reachB x f d s = true ∧ rideE x s t := by
  simp only [reachB, Bool.or_eq_true, List.any_eq_true, List.mem_range, Bool.and_eq_true, rideB_iff]
theorem reach_mono {x : NetD} {f t d e : Nat} (h : reachB x f d t = true) (hd : d ≤ e) : reachB x f e t = true := by
  induction e with
  | zero => simp at hd; subst hd; exact h
  | succ e ih =>
    by_cases g : d = e + 1
    · subst g; exact h
    · exact reach_succ.2 (.inl (ih (by omega)))
/-- The fewest rides to a stop, if they are r or fewer; else -1. -/
def ridF (x : NetD) (f r t : Nat) : Int := ixN (r + 1) fun d => reachB x f d t
/-- The numbers of rides from a stop. -/
def ridI (x : NetD) (f : Nat) : List Int := (List.range x.stops.length).map fun t => ridF x f x.stops.length t
theorem ridI_len (x : NetD) (f : Nat) : (ridI x f).length = x.stops.length := by simp [ridI]
theorem nth_ridI {x : NetD} {f t : Nat} (h : t < x.stops.length) : nth (ridI x f) t = ridF x f x.stops.length t := by
  unfold nth ridI
  rw [List.getD_eq_getElem?_getD, List.getElem?_map, List.getElem?_range h]
  rfl
theorem ridF_pos {x : NetD} {f r t : Nat} : 0 ≤ ridF x f r t ↔ reachB x f r t = true := by
  unfold ridF
  rcases ixN_cases (r + 1) (fun d => reachB x f d t) with ⟨k, h1, h2, h3, e⟩ | ⟨h1, e⟩
  · rw [e]
    exact ⟨fun _ => reach_mono h2 (by omega), fun _ => by omega⟩
  · rw [e]
    refine ⟨fun h => absurd h (by omega), fun h => ?_⟩
    rw [h1 r (by omega)] at h
    cases h
theorem ridF_lo {x : NetD} {f r t : Nat} : -1 ≤ ridF x f r t ∧ ridF x f r t ≤ r := by
  unfold ridF
  rcases ixN_cases (r + 1) (fun d => reachB x f d t) with ⟨k, h1, h2, h3, e⟩ | ⟨h1, e⟩
  · rw [e]; omega
  · rw [e]; omega
theorem ridF_eq {x : NetD} {f r t d : Nat} : ridF x f r t = d ↔ d ≤ r ∧ reachB x f d t = true ∧ ∀ j, j < d → reachB x f j t = false := by
  constructor
  · intro h
    unfold ridF at h
    rcases ixN_cases (r + 1) (fun d => reachB x f d t) with ⟨k, h1, h2, h3, e⟩ | ⟨h1, e⟩
    · rw [e] at h
      obtain rfl : k = d := by omega
      exact ⟨by omega, h2, h3⟩
    · rw [e] at h; omega
  · rintro ⟨h1, h2, h3⟩
    exact ixN_hit (by omega) h2 h3
theorem ridF_zero {x : NetD} {f t : Nat} : ridF x f 0 t = if t = f then 0 else -1 := by
  by_cases h : t = f
  · rw [if_pos h]
    exact ixN_hit (k := 0) (p := fun d => reachB x f d t) (by omega) (reach_zero.2 h) (fun j hj => by omega)
  · rw [if_neg h]
    refine ixN_none fun j hj => ?_
    obtain rfl : j = 0 := by omega
    cases g : reachB x f 0 t
    · rfl
    · exact absurd (reach_zero.1 g) h
/-- One round more. -/
theorem ridF_succ {x : NetD} {f r t : Nat} : ridF x f (r + 1) t = if 0 ≤ ridF x f r t then ridF x f r t else if reachB x f (r + 1) t = true then ((r + 1 : Nat) : Int) else -1 := by
  by_cases h : 0 ≤ ridF x f r t
  · rw [if_pos h]
    obtain ⟨d, hd⟩ : ∃ d : Nat, ridF x f r t = d := ⟨(ridF x f r t).toNat, by omega⟩
    rw [hd]
    obtain ⟨h1, h2, h3⟩ := ridF_eq.1 hd
    exact ridF_eq.2 ⟨by omega, h2, h3⟩
  · rw [if_neg h]
    have hn : reachB x f r t = false := by
      cases g : reachB x f r t
      · rfl
      · exact absurd (ridF_pos.2 g) h
    have hj : ∀ j, j < r + 1 → reachB x f j t = false := fun j hj => by
      cases g : reachB x f j t
      · rfl
      · rw [reach_mono g (by omega : j ≤ r)] at hn; cases hn
    by_cases g : reachB x f (r + 1) t = true
    · rw [if_pos g]
      exact ridF_eq.2 ⟨by omega, g, hj⟩
    · rw [if_neg g]
      refine ixN_none fun j hj' => ?_
      by_cases e : j = r + 1
      · subst e
        cases k : reachB x f (r + 1) t
        · rfl
        · exact absurd k g
      · exact hj j (by omega)
/-- What is new in a round is what a line leads to from what was new in the last one. -/
theorem ridF_new {x : NetD} {f r t : Nat} (h : ridF x f r t < 0) : reachB x f (r + 1) t = true ↔ ∃ s, s < x.stops.length ∧ ridF x f r s = r ∧ rideE x s t := by
  have hn : reachB x f r t = false := by
    cases g : reachB x f r t
    · rfl
    · have := ridF_pos.2 g; omega
  constructor
  · intro g
    rcases reach_succ.1 g with g | ⟨s, hs, g, e⟩
    · rw [hn] at g; cases g
    · refine ⟨s, hs, ridF_eq.2 ⟨Nat.le_refl _, g, fun j hj => ?_⟩, e⟩
      cases k : reachB x f j s
      · rfl
      · rw [reach_mono (reach_succ.2 (.inr ⟨s, hs, k, e⟩)) (by omega : j + 1 ≤ r)] at hn; cases hn
  · rintro ⟨s, hs, g, e⟩
    exact reach_succ.2 (.inr ⟨s, hs, (ridF_eq.1 g).2.1, e⟩)

/-! ### The reference: rounds -/
/-- Has one of the first k places of line i, or of a place of the lines before it, a stop of level r - 1 with t behind it? -/
def stepP (x : NetD) (f r i k t : Nat) : Prop :=
  (∃ j, j < i ∧ ∃ b, b < (nthL x.lines j).stops.length ∧ ∃ a, a < b ∧ (∃ s : Nat, s < x.stops.length ∧ nth (nthL x.lines j).stops a = (s : Int) ∧ ridF x f r s = r) ∧ nth (nthL x.lines j).stops b = (t : Int)) ∨
  (∃ b, b < k ∧ ∃ a, a < b ∧ (∃ s : Nat, s < x.stops.length ∧ nth (nthL x.lines i).stops a = (s : Int) ∧ ridF x f r s = r) ∧ nth (nthL x.lines i).stops b = (t : Int))
/-- The numbers within a round. -/
structure RoundAt (x : NetD) (f r i k : Nat) (o : List Int) : Prop where
  len : o.length = x.stops.length
  old : ∀ t, t < x.stops.length → 0 ≤ ridF x f r t → nth o t = ridF x f r t
  new : ∀ t, t < x.stops.length → ridF x f r t < 0 → (stepP x f r i k t → nth o t = ((r + 1 : Nat) : Int)) ∧ (¬ stepP x f r i k t → nth o t = -1)
/-- Has one of the first k places of line i a stop of level r? -/
def onP (x : NetD) (f r i k : Nat) : Prop := ∃ a, a < k ∧ ∃ s : Nat, s < x.stops.length ∧ nth (nthL x.lines i).stops a = (s : Int) ∧ ridF x f r s = r
theorem RoundAt.start {x : NetD} {f r : Nat} {o : List Int} (h : o.length = x.stops.length) (e : ∀ t, t < x.stops.length → nth o t = ridF x f r t) : RoundAt x f r 0 0 o := by
  refine ⟨h, fun t ht _ => e t ht, fun t ht hn => ⟨fun hp => ?_, fun _ => ?_⟩⟩
  · rcases hp with ⟨j, hj, _⟩ | ⟨b, hb, _⟩ <;> omega
  · rw [e t ht]; have := @ridF_lo x f r t; omega
theorem RoundAt.line {x : NetD} {f r i : Nat} {o : List Int} (h : RoundAt x f r i (nthL x.lines i).stops.length o) : RoundAt x f r (i + 1) 0 o := by
  have e : ∀ t, stepP x f r (i + 1) 0 t ↔ stepP x f r i (nthL x.lines i).stops.length t := by
    intro t
    constructor
    · rintro (⟨j, hj, p⟩ | ⟨b, hb, _⟩)
      · by_cases g : j = i
        · rw [g] at p; exact .inr p
        · exact .inl ⟨j, by omega, p⟩
      · omega
    · rintro (⟨j, hj, p⟩ | p)
      · exact .inl ⟨j, by omega, p⟩
      · exact .inl ⟨i, by omega, p⟩
  exact ⟨h.len, h.old, fun t ht hn => ⟨fun hp => (h.new t ht hn).1 ((e t).1 hp), fun hp => (h.new t ht hn).2 (fun g => hp ((e t).2 g))⟩⟩
theorem RoundAt.done {x : NetD} {f r : Nat} {o : List Int} (h : RoundAt x f r x.lines.length 0 o) : ∀ t, t < x.stops.length → nth o t = ridF x f (r + 1) t := by
  intro t ht
  rw [ridF_succ]
  by_cases g : 0 ≤ ridF x f r t
  · rw [if_pos g]; exact h.old t ht g
  · rw [if_neg g]
    have e : stepP x f r x.lines.length 0 t ↔ reachB x f (r + 1) t = true := by
      rw [ridF_new (by omega)]
      constructor
      · rintro (⟨j, hj, b, hb, a, ha, ⟨s, hs, e1, e2⟩, e3⟩ | ⟨b, hb, _⟩)
        · exact ⟨s, hs, e2, j, hj, b, hb, a, ha, e1, e3⟩
        · omega
      · rintro ⟨s, hs, e2, j, hj, b, hb, a, ha, e1, e3⟩
        exact .inl ⟨j, hj, b, hb, a, ha, ⟨s, hs, e1, e2⟩, e3⟩
    by_cases k : reachB x f (r + 1) t = true
    · rw [if_pos k]; exact (h.new t ht (by omega)).1 (e.2 k)
    · rw [if_neg k]; exact (h.new t ht (by omega)).2 (fun g => k (e.1 g))
section
variable {x : NetD} {f r i k s : Nat} {o : List Int}
theorem RoundAt.val (h : RoundAt x f r i k o) (hs : s < x.stops.length) : nth o s = ridF x f r s ∨ ridF x f r s < 0 ∧ nth o s = ((r + 1 : Nat) : Int) := by
  by_cases g : 0 ≤ ridF x f r s
  · exact .inl (h.old s hs g)
  · by_cases p : stepP x f r i k s
    · exact .inr ⟨by omega, (h.new s hs (by omega)).1 p⟩
    · refine .inl ?_
      rw [(h.new s hs (by omega)).2 p]
      have := @ridF_lo x f r s
      omega
theorem RoundAt.isOn (h : RoundAt x f r i k o) (hs : s < x.stops.length) : nth o s = (r : Int) ↔ ridF x f r s = r := by
  rcases h.val hs with e | ⟨e1, e2⟩
  · rw [e]
  · rw [e2]; constructor <;> intro <;> omega
theorem onP_succ (hk : nth (nthL x.lines i).stops k = (s : Int)) (hs : s < x.stops.length) : onP x f r i (k + 1) ↔ onP x f r i k ∨ ridF x f r s = r := by
  constructor
  · rintro ⟨a, ha, s', h1, h2, h3⟩
    by_cases e : a = k
    · subst e
      rw [hk] at h2
      obtain rfl : s' = s := by omega
      exact .inr h3
    · exact .inl ⟨a, by omega, s', h1, h2, h3⟩
  · rintro (⟨a, ha, g⟩ | h)
    · exact ⟨a, by omega, g⟩
    · exact ⟨k, by omega, s, hs, hk, h⟩
theorem stepP_succ (hk : nth (nthL x.lines i).stops k = (s : Int)) (t : Nat) : stepP x f r i (k + 1) t ↔ stepP x f r i k t ∨ (onP x f r i k ∧ t = s) := by
  constructor
  · rintro (h | ⟨b, hb, a, ha, h1, h2⟩)
    · exact .inl (.inl h)
    · by_cases e : b = k
      · subst e
        rw [hk] at h2
        exact .inr ⟨⟨a, ha, h1⟩, by omega⟩
      · exact .inl (.inr ⟨b, by omega, a, ha, h1, h2⟩)
  · rintro ((h | ⟨b, hb, h⟩) | ⟨⟨a, ha, h⟩, rfl⟩)
    · exact .inl h
    · exact .inr ⟨b, by omega, h⟩
    · exact .inr ⟨k, by omega, a, ha, h, hk⟩
theorem RoundAt.skip (h : RoundAt x f r i k o) (hk : nth (nthL x.lines i).stops k = (s : Int)) (hs : s < x.stops.length) (hno : ¬ onP x f r i k ∨ 0 ≤ nth o s) : RoundAt x f r i (k + 1) o := by
  refine ⟨h.len, h.old, fun t ht hn => ?_⟩
  have hst := stepP_succ (x := x) (f := f) (r := r) hk t
  refine ⟨fun hp => ?_, fun hp => (h.new t ht hn).2 (fun g => hp (hst.2 (.inl g)))⟩
  rcases hst.1 hp with g | ⟨g, e⟩
  · exact (h.new t ht hn).1 g
  · subst e
    rcases hno with hno | hno
    · exact absurd g hno
    · by_cases p : stepP x f r i k t
      · exact (h.new t ht hn).1 p
      · rw [(h.new t ht hn).2 p] at hno; omega
theorem RoundAt.put (h : RoundAt x f r i k o) (hk : nth (nthL x.lines i).stops k = (s : Int)) (hs : s < x.stops.length) (hon : onP x f r i k) (h0 : nth o s < 0) : RoundAt x f r i (k + 1) (o.set s ((r + 1 : Nat) : Int)) := by
  have hl := h.len
  have hneg : ridF x f r s < 0 := by
    rcases h.val hs with e | ⟨e1, e2⟩
    · omega
    · exact e1
  refine ⟨by rw [List.length_set]; exact hl, fun t ht ho => ?_, fun t ht hn => ?_⟩
  · rw [nth_set_ne _ (by rintro rfl; omega)]; exact h.old t ht ho
  · have hst := stepP_succ (x := x) (f := f) (r := r) hk t
    by_cases e : s = t
    · subst e
      rw [nth_set_same _ (by omega)]
      exact ⟨fun _ => rfl, fun hp => absurd (hst.2 (.inr ⟨hon, rfl⟩)) hp⟩
    · rw [nth_set_ne _ e]
      refine ⟨fun hp => ?_, fun hp => (h.new t ht hn).2 (fun g => hp (hst.2 (.inl g)))⟩
      rcases hst.1 hp with g | ⟨_, g⟩
      · exact (h.new t ht hn).1 g
      · exact absurd g.symm e
end

/-! ### The program: a queue -/
/-- The numbers o, the queue q; the targets of the queue's head that have been seen (D). -/
structure BfsAt (x : NetD) (f : Nat) (o : List Int) (q : List Nat) (D : Nat → Prop) : Prop where
  len : o.length = x.stops.length
  frm : f < x.stops.length ∧ nth o f = 0
  zero : ∀ t, t < x.stops.length → nth o t = 0 → t = f
  bnd : ∀ t, t < x.stops.length → -1 ≤ nth o t ∧ nth o t < (setN o : Int)
  inq : ∀ t ∈ q, t < x.stops.length ∧ 0 ≤ nth o t
  srt : q.Pairwise fun a b => nth o a ≤ nth o b
  top : ∀ h l, q = h :: l → ∀ t, t < x.stops.length → nth o t ≤ nth o h + 1
  done : ∀ u, u < x.stops.length → 0 ≤ nth o u → u ∈ q ∨ ∀ t, t < x.stops.length → rideE x u t → 0 ≤ nth o t ∧ nth o t ≤ nth o u + 1
  head : ∀ h l, q = h :: l → ∀ t, t < x.stops.length → D t → 0 ≤ nth o t
  pred : ∀ t, t < x.stops.length → 0 < nth o t → ∃ s, s < x.stops.length ∧ nth o s = nth o t - 1 ∧ rideE x s t
section
variable {x : NetD} {f : Nat} {o : List Int} {q : List Nat} {D D' : Nat → Prop}
theorem BfsAt.put {h t : Nat} {l : List Nat} (b : BfsAt x f o (h :: l) D) (ht : t < x.stops.length) (h0 : nth o t < 0) (he : rideE x h t) (hD : ∀ u, D' u → D u ∨ u = t) : BfsAt x f (o.set t (nth o h + 1)) (h :: l ++ [t]) D' := by
  obtain ⟨hh, hh0⟩ := b.inq h (by simp)
  have htl : t < o.length := by rw [b.len]; exact ht
  have ne : ∀ u, 0 ≤ nth o u → nth (o.set t (nth o h + 1)) u = nth o u := fun u hu => nth_set_ne _ (by rintro rfl; omega)
  have same : nth (o.set t (nth o h + 1)) t = nth o h + 1 := nth_set_same _ htl
  have cases' : ∀ u, (u = t ∧ nth (o.set t (nth o h + 1)) u = nth o h + 1) ∨ (u ≠ t ∧ nth (o.set t (nth o h + 1)) u = nth o u) := fun u => by
    by_cases e : u = t
    · subst e; exact .inl ⟨rfl, same⟩
    · exact .inr ⟨e, nth_set_ne _ (fun g => e g.symm)⟩
  have hsn : setN (o.set t (nth o h + 1)) = setN o + 1 := setN_set htl h0 (by omega)
  refine ⟨by rw [List.length_set]; exact b.len, ⟨b.frm.1, by rw [ne f (by rw [b.frm.2]; omega)]; exact b.frm.2⟩, fun u hu e => ?_, fun u hu => ?_, fun u hu => ?_, ?_, ?_, fun u hu e => ?_, ?_, fun u hu e => ?_⟩
  · rcases cases' u with ⟨e1, e2⟩ | ⟨e1, e2⟩
    · omega
    · exact b.zero u hu (by omega)
  · have h1 := b.bnd u hu
    have h2 := b.bnd h hh
    rw [hsn]
    rcases cases' u with ⟨e1, e2⟩ | ⟨e1, e2⟩ <;> rw [e2] <;> omega
  · rcases List.mem_append.1 hu with g | g
    · obtain ⟨g1, g2⟩ := b.inq u g
      exact ⟨g1, by rw [ne u g2]; exact g2⟩
    · simp at g
      subst g
      exact ⟨ht, by rw [same]; omega⟩
  · rw [List.pairwise_append]
    refine ⟨?_, List.pairwise_singleton _ _, fun u hu v hv => ?_⟩
    · refine List.Pairwise.imp_of_mem (R := fun a b => nth o a ≤ nth o b) (fun {u v} hu hv huv => ?_) b.srt
      rw [ne u (b.inq u hu).2, ne v (b.inq v hv).2]
      exact huv
    · simp at hv
      subst hv
      obtain ⟨g1, g2⟩ := b.inq u hu
      rw [same, ne u g2]
      exact b.top h l rfl u g1
  · intro h' l' e u hu
    injection e with e1 e2
    subst e1
    have := b.top h l rfl u hu
    rw [ne h hh0]
    rcases cases' u with ⟨e1, e2⟩ | ⟨e1, e2⟩ <;> rw [e2] <;> omega
  · rcases cases' u with ⟨e1, e2⟩ | ⟨e1, e2⟩
    · subst e1; exact .inl (by simp)
    · rw [e2] at e
      rcases b.done u hu e with g | g
      · exact .inl (List.mem_append.2 (.inl g))
      · refine .inr fun v hv hr => ?_
        obtain ⟨g1, g2⟩ := g v hv hr
        rw [e2, ne v g1]
        exact ⟨g1, g2⟩
  · intro h' l' e u hu hd
    rcases hD u hd with g | g
    · have := b.head h l rfl u hu g
      rw [ne u this]
      exact this
    · subst g; rw [same]; omega
  · rcases cases' u with ⟨e1, e2⟩ | ⟨e1, e2⟩
    · subst e1
      exact ⟨h, hh, by rw [same, ne h hh0]; omega, he⟩
    · rw [e2] at e ⊢
      obtain ⟨s, hs, g1, g2⟩ := b.pred u hu e
      exact ⟨s, hs, by rw [ne s (by omega)]; exact g1, g2⟩
theorem BfsAt.skip (b : BfsAt x f o q D) (hD : ∀ t, t < x.stops.length → D' t → D t ∨ 0 ≤ nth o t) : BfsAt x f o q D' :=
  ⟨b.len, b.frm, b.zero, b.bnd, b.inq, b.srt, b.top, b.done, fun h l e t ht hd => by
    rcases hD t ht hd with g | g
    · exact b.head h l e t ht g
    · exact g, b.pred⟩
/-- The head has been done. -/
theorem BfsAt.pop {h : Nat} {l : List Nat} (b : BfsAt x f o (h :: l) (rideE x h)) : BfsAt x f o l (fun _ => False) := by
  refine ⟨b.len, b.frm, b.zero, b.bnd, fun t ht => b.inq t (by simp [ht]), (List.pairwise_cons.1 b.srt).2, fun h' l' e t ht => ?_, fun u hu e => ?_, fun _ _ _ _ _ g => g.elim, b.pred⟩
  · have h1 := b.top h l rfl t ht
    have h2 := (List.pairwise_cons.1 b.srt).1 h' (by rw [e]; simp)
    omega
  · rcases b.done u hu e with g | g
    · rcases List.mem_cons.1 g with g | g
      · subst g
        exact .inr fun t ht hr => ⟨b.head u l rfl t ht hr, b.top u l rfl t ht⟩
      · exact .inl g
    · exact .inr g
/-- An empty queue: these are the rides. -/
theorem BfsAt.fin (b : BfsAt x f o [] D) : o = ridI x f := by
  have key : ∀ d t, t < x.stops.length → (reachB x f d t = true ↔ 0 ≤ nth o t ∧ nth o t ≤ (d : Int)) := by
    intro d
    induction d with
    | zero =>
      intro t ht
      rw [reach_zero]
      constructor
      · rintro rfl; rw [b.frm.2]; omega
      · rintro ⟨h1, h2⟩; exact b.zero t ht (by omega)
    | succ d ih =>
      intro t ht
      rw [reach_succ]
      constructor
      · rintro (g | ⟨s, hs, g, e⟩)
        · have := (ih t ht).1 g; omega
        · have g' := (ih s hs).1 g
          rcases b.done s hs g'.1 with k | k
          · simp at k
          · have := k t ht e; omega
      · rintro ⟨h1, h2⟩
        by_cases g : nth o t ≤ (d : Int)
        · exact .inl ((ih t ht).2 ⟨h1, g⟩)
        · obtain ⟨s, hs, e1, e2⟩ := b.pred t ht (by omega)
          exact .inr ⟨s, hs, (ih s hs).2 (by omega), e2⟩
  refine nth_ext (by rw [ridI_len]; exact b.len) fun t ht => ?_
  have ht' : t < x.stops.length := by rw [← b.len]; exact ht
  rw [nth_ridI ht']
  have hb := b.bnd t ht'
  have hs := setN_le o
  have hl := b.len
  by_cases g : 0 ≤ nth o t
  · obtain ⟨d, hd⟩ : ∃ d : Nat, nth o t = d := ⟨(nth o t).toNat, by omega⟩
    rw [hd]
    refine (ridF_eq.2 ⟨by omega, (key d t ht').2 (by omega), fun j hj => ?_⟩).symm
    cases k : reachB x f j t
    · rfl
    · have := (key j t ht').1 k; omega
  · have e : nth o t = -1 := by omega
    rw [e]
    have h1 : ¬ 0 ≤ ridF x f x.stops.length t := fun k => g ((key _ t ht').1 (ridF_pos.1 k)).1
    have := @ridF_lo x f x.stops.length t
    omega
theorem BfsAt.start {n : Nat} (hn : x.stops.length = n) (hf : f < n) : BfsAt x f ((List.replicate n (-1)).set f 0) [f] (fun _ => False) := by
  have hl : f < (List.replicate n (-1 : Int)).length := by simpa using hf
  have same : nth ((List.replicate n (-1)).set f 0) f = 0 := nth_set_same _ hl
  have ne : ∀ t, t < n → t ≠ f → nth ((List.replicate n (-1)).set f 0) t = -1 := fun t ht h => by
    rw [nth_set_ne _ (fun e => h e.symm)]
    unfold nth
    rw [List.getD_eq_getElem?_getD, List.getElem?_replicate, if_pos ht]
    rfl
  have hc : setN ((List.replicate n (-1)).set f 0) = setN (List.replicate n (-1)) + 1 := setN_set hl (by
    unfold nth
    rw [List.getD_eq_getElem?_getD, List.getElem?_replicate, if_pos hf]
    decide) (by omega)
  subst hn
  have cs : ∀ t, t < x.stops.length → (t = f ∧ nth ((List.replicate x.stops.length (-1)).set f 0) t = 0) ∨ (t ≠ f ∧ nth ((List.replicate x.stops.length (-1)).set f 0) t = -1) := fun t ht => by
    by_cases e : t = f
    · subst e; exact .inl ⟨rfl, same⟩
    · exact .inr ⟨e, ne t ht e⟩
  refine ⟨by simp, ⟨hf, same⟩, fun t ht e => ?_, fun t ht => ?_, fun t ht => ?_, List.pairwise_singleton _ _, fun h l e t ht => ?_, fun u hu e => ?_, fun _ _ _ _ _ g => g.elim, fun t ht e => ?_⟩
  · rcases cs t ht with ⟨e1, e2⟩ | ⟨e1, e2⟩
    · exact e1
    · omega
  · rw [hc]
    rcases cs t ht with ⟨e1, e2⟩ | ⟨e1, e2⟩ <;> rw [e2] <;> omega
  · simp at ht
    subst ht
    exact ⟨hf, by rw [same]; omega⟩
  · injection e with e1 e2
    subst e1
    rw [same]
    rcases cs t ht with ⟨e1, e2⟩ | ⟨e1, e2⟩ <;> rw [e2] <;> omega
  · rcases cs u hu with ⟨e1, e2⟩ | ⟨e1, e2⟩
    · subst e1; exact .inl (by simp)
    · omega
  · rcases cs t ht with ⟨e1, e2⟩ | ⟨e1, e2⟩ <;> omega
end
end Go.Proofs.Ytbneigkgdjcnjaa
