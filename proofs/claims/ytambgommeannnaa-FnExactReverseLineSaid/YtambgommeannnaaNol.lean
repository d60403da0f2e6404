/- A line from behind: the plain law of ReverseLine. -/
import Derived.Test.YtambgommeannnaaNok
import Derived.Test.YtambgommeannnaaNev
namespace Go.Proofs.Ytambgommeannnaa
open Go.ChangeShapes Go.WideShapes Go.ChangeAt Go.RowKit Go.PlainAid
set_option linter.unusedVariables false
set_option linter.unusedSimpArgs false

/-- What a valid network is large. -/
structure NetX (x : NetD) : Prop where
  s : 2 ≤ x.stops.length ∧ x.stops.length ≤ 8
  l : 1 ≤ x.lines.length ∧ x.lines.length ≤ 5
  sn : ∀ k, k < x.stops.length → (nthS x.stops k).size ≤ 8
  ln : ∀ k, k < x.lines.length → (nthL x.lines k).name.size ≤ 8 ∧ 2 ≤ (nthL x.lines k).stops.length ∧ (nthL x.lines k).stops.length ≤ 6 ∧ (nthL x.lines k).runs.length + 1 = (nthL x.lines k).stops.length
theorem nm_size {xs : List ByteArray} (h : namesB xs = true) {k : Nat} (hk : k < xs.length) : (nthS xs k).size ≤ 8 := by
  have h1 : AreNames xs := of_decide_eq_true h
  have h2 : IsName (nthS xs k) := of_decide_eq_true (h1 k hk).1
  exact h2.2.1
theorem netX_of {x : NetD} (h : netB x = true) : NetX x := by
  have n := netB_ok h
  have hs := inB_iff.mp n.stops
  have hl := inB_iff.mp n.lines
  refine ⟨⟨by omega, by omega⟩, ⟨by omega, by omega⟩, fun k hk => nm_size n.names hk, fun i hi => ?_⟩
  have ln : LineOk x.stops.length (nthL x.lines i) := of_decide_eq_true (n.each i hi)
  have hd := ln.1
  unfold LineHd at hd
  refine ⟨?_, hd.1, hd.2.1, hd.2.2⟩
  have h1 := nm_size n.lnames (k := i) (by rw [namesOf_length]; exact hi)
  rw [nthS_names hi] at h1
  exact h1
theorem upto_bound (f : Nat → Nat) (c : Nat) : ∀ n : Nat, (∀ k, k < n → f k ≤ c) → upto f n ≤ n * c
  | 0, _ => by simp [upto]
  | n + 1, h => by
    have h1 := upto_bound f c n (fun k hk => h k (by omega))
    have h2 := h n (by omega)
    show upto f n + f n ≤ (n + 1) * c
    rw [Nat.succ_mul]
    omega
theorem NetX.sz {x : NetD} (h : NetX x) : szNet x ≤ 1048576 := by
  have h1 := upto_bound (fun j => (nthS x.stops j).size) 8 x.stops.length h.sn
  have h2 := upto_bound (fun j => szLn (nthL x.lines j)) 20 x.lines.length (fun k hk => by
    have := h.ln k hk
    show (nthL x.lines k).name.size + (nthL x.lines k).stops.length + (nthL x.lines k).runs.length ≤ 20
    omega)
  have := h.s
  have := h.l
  unfold szNet szSs szLns
  omega
def revL (l : LineD) (nm : ByteArray) : LineD := { name := nm, stops := l.stops.reverse, runs := l.runs.reverse }
def revN (x : NetD) (k : Nat) (nm : ByteArray) : NetD := ⟨x.stops, x.lines ++ [revL (nthL x.lines k) nm]⟩
theorem revN_fits {x : NetD} {k : Nat} {nm : ByteArray} (h : NetX x) (hf : Fits x) (hk : k < x.lines.length) (hn : nm.size ≤ 1048576) : Fits (revN x k nm) := by
  have hl := h.l
  have hl2 : (revN x k nm).lines.length = x.lines.length + 1 := by simp [revN]
  refine ⟨hf.stops, by rw [hl2]; omega, hf.names, fun j hj => ?_⟩
  rw [hl2] at hj
  by_cases e : j = x.lines.length
  · subst e
    have := h.ln k hk
    show (nthL (x.lines ++ [revL (nthL x.lines k) nm]) x.lines.length).name.size ≤ _ ∧ _
    unfold revN
    rw [nthL_new]
    refine ⟨hn, ?_, ?_⟩
    · show (nthL x.lines k).stops.reverse.length ≤ _
      rw [List.length_reverse]; omega
    · show (nthL x.lines k).runs.reverse.length ≤ _
      rw [List.length_reverse]; omega
  · unfold revN
    rw [nthL_app (by omega)]
    exact hf.each j (by omega)
/-- What ReverseLine answers. -/
def revR (x : NetD) (i : Int) (nm : ByteArray) : NetD × Bool :=
  if netB x = true ∧ inB i 0 (x.lines.length - 1) = true ∧ netB (revN x i.toNat nm) = true then (revN x i.toNat nm, true) else (⟨[], []⟩, false)
theorem revR_no {x : NetD} {i : Int} {nm : ByteArray} (h : netB x = false ∨ inB i 0 (x.lines.length - 1) = false ∨ netB (revN x i.toNat nm) = false) : revR x i nm = (⟨[], []⟩, false) := by
  unfold revR
  rw [if_neg]
  rintro ⟨h1, h2, h3⟩
  rcases h with h | h | h
  · rw [h1] at h; cases h
  · rw [h2] at h; cases h
  · rw [h3] at h; cases h
theorem revR_yes {x : NetD} {i : Int} {nm : ByteArray} (h1 : netB x = true) (h2 : inB i 0 (x.lines.length - 1) = true) (h3 : netB (revN x i.toNat nm) = true) : revR x i nm = (revN x i.toNat nm, true) := by
  unfold revR
  rw [if_pos ⟨h1, h2, h3⟩]
theorem revR_sz (x : NetD) (i : Int) (nm : ByteArray) : szNet (revR x i nm).1 ≤ 1048576 := by
  unfold revR
  split
  · next h => exact (netX_of h.2.2).sz
  · show szNet ⟨[], []⟩ ≤ _
    rw [szNet_nil ⟨rfl, rfl⟩]
    omega
end Go.Proofs.Ytambgommeannnaa
