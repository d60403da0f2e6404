/- Headways: plain. -/
import Derived.Test.YtdiffepokiabkaaTso
namespace Go.Proofs.Ytdiffepokiabkaa
open Go.ChangeShapes Go.WideShapes Go.ChangeAt Go.RowKit Go.PlainAid
set_option linter.unusedVariables false
set_option linter.unusedSimpArgs false

/-- The trips of a line among the first k. -/
def pkT (x : TTD) (l : Int) : Nat → List I3
  | 0 => []
  | k + 1 => if (nth3 x.trips k).b = l then pkT x l k ++ [nth3 x.trips k] else pkT x l k
theorem pkT_yes {x : TTD} {l : Int} {k : Nat} (h : (nth3 x.trips k).b = l) : pkT x l (k + 1) = pkT x l k ++ [nth3 x.trips k] := by rw [pkT, if_pos h]
theorem pkT_no {x : TTD} {l : Int} {k : Nat} (h : ¬ (nth3 x.trips k).b = l) : pkT x l (k + 1) = pkT x l k := by rw [pkT, if_neg h]
theorem pkT_len (x : TTD) (l : Int) (n : Nat) : (pkT x l n).length ≤ n := by
  induction n with
  | zero => simp [pkT]
  | succ n ih =>
    rw [pkT]
    split
    · rw [List.length_append]; simp; omega
    · omega
def gtI (a b : Int) : Bool := decide (b < a)
/-- Their starts in rising order. -/
def stF (x : TTD) (l : Int) : Nat → List Int
  | 0 => []
  | k + 1 => if (nth3 x.trips k).b = l then insG gtI (stF x l k) (nth3 x.trips k).c else stF x l k
theorem stF_yes {x : TTD} {l : Int} {k : Nat} (h : (nth3 x.trips k).b = l) : stF x l (k + 1) = insG gtI (stF x l k) (nth3 x.trips k).c := by rw [stF, if_pos h]
theorem stF_no {x : TTD} {l : Int} {k : Nat} (h : ¬ (nth3 x.trips k).b = l) : stF x l (k + 1) = stF x l k := by rw [stF, if_neg h]
theorem stF_sorted (x : TTD) (l : Int) (n : Nat) : (stF x l n).Pairwise (fun a b => a ≤ b) := by
  induction n with
  | zero => exact List.Pairwise.nil
  | succ n ih =>
    rw [stF]
    split
    · exact insG_sorted (gt := gtI) (le := fun a b : Int => a ≤ b) (fun a b h => by unfold gtI at h; have := of_decide_eq_true h; omega) (fun a b h => by unfold gtI at h; have := of_decide_eq_false h; omega) (fun a b c h1 h2 => Int.le_trans h1 h2) _ ih
    · exact ih
theorem stF_perm (x : TTD) (l : Int) (n : Nat) : (stF x l n).Perm ((pkT x l n).map (fun t => t.c)) := by
  induction n with
  | zero => exact List.Perm.refl _
  | succ n ih =>
    rw [stF, pkT]
    split
    · refine (insG_perm _ _ _).trans ?_
      rw [List.map_append]
      refine List.Perm.trans ?_ List.perm_append_comm
      exact ih.cons _
    · exact ih
theorem stF_len (x : TTD) (l : Int) (n : Nat) : (stF x l n).length ≤ n := by
  rw [(stF_perm x l n).length_eq, List.length_map]
  exact pkT_len x l n
theorem stF_of {x : TTD} {l : Int} {n : Nat} {ys : List I3} (hp : ys.Perm (pkT x l n)) (hs : ys.Pairwise (fun a b => a.c ≤ b.c)) : ys.map (fun t => t.c) = stF x l n := by
  refine List.Perm.eq_of_pairwise (le := fun a b : Int => a ≤ b) (fun a b _ _ h1 h2 => Int.le_antisymm h1 h2) ?_ (stF_sorted x l n) ((hp.map _).trans (stF_perm x l n).symm)
  exact List.pairwise_map.2 hs
theorem pkT_mem {x : TTD} {l : Int} {n : Nat} {t : I3} (h : t ∈ pkT x l n) : ∃ k, k < n ∧ t = nth3 x.trips k := by
  induction n with
  | zero => simp [pkT] at h
  | succ n ih =>
    rw [pkT] at h
    split at h
    · rcases List.mem_append.1 h with h | h
      · obtain ⟨k, hk, e⟩ := ih h; exact ⟨k, by omega, e⟩
      · simp at h; exact ⟨n, by omega, h⟩
    · obtain ⟨k, hk, e⟩ := ih h; exact ⟨k, by omega, e⟩
theorem stF_bd {x : TTD} (hg : ttB x = true) (l : Int) (k : Nat) (hk : k < (stF x l x.trips.length).length) : 0 ≤ nth (stF x l x.trips.length) k ∧ nth (stF x l x.trips.length) k ≤ 1799 := by
  have h := (stF_perm x l x.trips.length).mem_iff.1 (nth_mem hk)
  obtain ⟨t, ht, e⟩ := List.mem_map.1 h
  obtain ⟨j, hj, rfl⟩ := pkT_mem ht
  have := ti_of hg hj
  rw [← e]
  exact ⟨this.c0, this.c1⟩
/-- Differences of neighbours. -/
def difF (xs : List Int) : Nat → List Int
  | 0 => []
  | k + 1 => difF xs k ++ [nth xs (k + 1) - nth xs k]
theorem difF_len (xs : List Int) (n : Nat) : (difF xs n).length = n := by
  induction n with
  | zero => rfl
  | succ n ih => rw [difF, List.length_append, ih]; rfl
def hwB (x : TTD) (l : Int) : Bool := ttB x && inB l 0 (x.net.lines.length - 1)
def hwI (x : TTD) (l : Int) : List Int := if hwB x l = true then difF (stF x l x.trips.length) ((stF x l x.trips.length).length - 1) else []
theorem hwI_no {x : TTD} {l : Int} (h : hwB x l = false) : hwI x l = [] := by unfold hwI; rw [h]; rfl
theorem hwI_yes {x : TTD} {l : Int} (h : hwB x l = true) : hwI x l = difF (stF x l x.trips.length) ((stF x l x.trips.length).length - 1) := by unfold hwI; rw [if_pos h]
theorem hwI_len (x : TTD) (l : Int) : (hwI x l).length ≤ x.trips.length := by
  unfold hwI
  split
  · rw [difF_len]; have := stF_len x l x.trips.length; omega
  · simp
theorem nth_map {ys : List I3} {xs : List Int} (e : ys.map (fun t => t.c) = xs) {k : Nat} (hk : k < ys.length) : nth xs k = (nth3 ys k).c := by
  subst e
  unfold nth nth3
  rw [List.getD_eq_getElem?_getD, List.getElem?_map, List.getElem?_eq_getElem hk, List.getD_eq_getElem?_getD, List.getElem?_eq_getElem hk]
  rfl
end Go.Proofs.Ytdiffepokiabkaa
