/- A queue over any relation; plain law. -/
import Derived.Test.YtemhcobjhpifpaaLst
namespace Go.Proofs.Ytemhcobjhpifpaa
open Go.ChangeShapes Go.WideShapes Go.ChangeAt Go.RowKit Go.PlainAid
set_option linter.unusedVariables false
set_option linter.unusedSimpArgs false

/-! ### The program: a queue -/
/-- The numbers o, the queue q; the targets of the queue's head that have been seen (D). -/
structure BfN (N : Nat) (E : Nat → Nat → Prop) (f : Nat) (o : List Int) (q : List Nat) (D : Nat → Prop) : Prop where
  len : o.length = N
  frm : f < N ∧ nth o f = 0
  zero : ∀ t, t < N → nth o t = 0 → t = f
  bnd : ∀ t, t < N → -1 ≤ nth o t ∧ nth o t < (setN o : Int)
  inq : ∀ t ∈ q, t < N ∧ 0 ≤ nth o t
  srt : q.Pairwise fun a b => nth o a ≤ nth o b
  top : ∀ h l, q = h :: l → ∀ t, t < N → nth o t ≤ nth o h + 1
  done : ∀ u, u < N → 0 ≤ nth o u → u ∈ q ∨ ∀ t, t < N → E u t → 0 ≤ nth o t ∧ nth o t ≤ nth o u + 1
  head : ∀ h l, q = h :: l → ∀ t, t < N → D t → 0 ≤ nth o t
  pred : ∀ t, t < N → 0 < nth o t → ∃ s, s < N ∧ nth o s = nth o t - 1 ∧ E s t
section
variable {N : Nat} {E : Nat → Nat → Prop} {f : Nat} {o : List Int} {q : List Nat} {D D' : Nat → Prop}
theorem BfN.put {h t : Nat} {l : List Nat} (b : BfN N E f o (h :: l) D) (ht : t < N) (h0 : nth o t < 0) (he : E h t) (hD : ∀ u, D' u → D u ∨ u = t) : BfN N E f (o.set t (nth o h + 1)) (h :: l ++ [t]) D' := by
  obtain ⟨hh, hh0⟩ := b.inq h (by simp)
  have htl : t < o.length := by rw [b.len]; exact ht
  have ne : ∀ u, 0 ≤ nth o u → nth (o.set t (nth o h + 1)) u = nth o u := fun u hu => nth_set_ne _ (by rintro rfl; omega)
  have same : nth (o.set t (nth o h + 1)) t = nth o h + 1 := nth_set_same _ htl
  have cases' : ∀ u, (u = t ∧ nth (o.set t (nth o h + 1)) u = nth o h + 1) ∨ (u ≠ t ∧ nth (o.set t (nth o h + 1)) u = nth o u) := fun u => by
    by_cases e : u = t
    · subst e; exact .inl ⟨rfl, same⟩
    · exact .inr ⟨e, nth_set_ne _ (fun g => e g.symm)⟩
  have hsn : setN (o.set t (nth o h + 1)) = setN o + 1 := setN_set htl h0 (by omega)
  refine ⟨by rw [List.length_set]; exact b.len, ⟨b.frm.1, by rw [ne f (by rw [b.frm.2]; omega)]; exact b.frm.2⟩, fun u hu e => ?_, fun u hu => ?_, fun u hu => ?_, ?_, ?_, fun u hu e => ?_, ?_, fun u hu e => ?_⟩
  · rcases cases' u with ⟨e1, e2⟩ | ⟨e1, e2⟩
    · omega
    · exact b.zero u hu (by omega)
  · have h1 := b.bnd u hu
    have h2 := b.bnd h hh
    rw [hsn]
    rcases cases' u with ⟨e1, e2⟩ | ⟨e1, e2⟩ <;> rw [e2] <;> omega
  · rcases List.mem_append.1 hu with g | g
    · obtain ⟨g1, g2⟩ := b.inq u g
      exact ⟨g1, by rw [ne u g2]; exact g2⟩
    · simp at g
      subst g
      exact ⟨ht, by rw [same]; omega⟩
  · rw [List.pairwise_append]
    refine ⟨?_, List.pairwise_singleton _ _, fun u hu v hv => ?_⟩
    · refine List.Pairwise.imp_of_mem (R := fun a b => nth o a ≤ nth o b) (fun {u v} hu hv huv => ?_) b.srt
      rw [ne u (b.inq u hu).2, ne v (b.inq v hv).2]
      exact huv
    · simp at hv
      subst hv
      obtain ⟨g1, g2⟩ := b.inq u hu
      rw [same, ne u g2]
      exact b.top h l rfl u g1
  · intro h' l' e u hu
    injection e with e1 e2
    subst e1
    have := b.top h l rfl u hu
    rw [ne h hh0]
    rcases cases' u with ⟨e1, e2⟩ | ⟨e1, e2⟩ <;> rw [e2] <;> omega
  · rcases cases' u with ⟨e1, e2⟩ | ⟨e1, e2⟩
    · subst e1; exact .inl (by simp)
    · rw [e2] at e
      rcases b.done u hu e with g | g
      · exact .inl (List.mem_append.2 (.inl g))
      · refine .inr fun v hv hr => ?_
        obtain ⟨g1, g2⟩ := g v hv hr
        rw [e2, ne v g1]
        exact ⟨g1, g2⟩
  · intro h' l' e u hu hd
    rcases hD u hd with g | g
    · have := b.head h l rfl u hu g
      rw [ne u this]
      exact this
    · subst g; rw [same]; omega
  · rcases cases' u with ⟨e1, e2⟩ | ⟨e1, e2⟩
    · subst e1
      exact ⟨h, hh, by rw [same, ne h hh0]; omega, he⟩
    · rw [e2] at e ⊢
      obtain ⟨s, hs, g1, g2⟩ := b.pred u hu e
      exact ⟨s, hs, by rw [ne s (by omega)]; exact g1, g2⟩
theorem BfN.skip (b : BfN N E f o q D) (hD : ∀ t, t < N → D' t → D t ∨ 0 ≤ nth o t) : BfN N E f o q D' :=
  ⟨b.len, b.frm, b.zero, b.bnd, b.inq, b.srt, b.top, b.done, fun h l e t ht hd => by
    rcases hD t ht hd with g | g
    · exact b.head h l e t ht g
    · exact g, b.pred⟩
/-- The head has been done. -/
theorem BfN.pop {h : Nat} {l : List Nat} (b : BfN N E f o (h :: l) (E h)) : BfN N E f o l (fun _ => False) := by
  refine ⟨b.len, b.frm, b.zero, b.bnd, fun t ht => b.inq t (by simp [ht]), (List.pairwise_cons.1 b.srt).2, fun h' l' e t ht => ?_, fun u hu e => ?_, fun _ _ _ _ _ g => g.elim, b.pred⟩
  · have h1 := b.top h l rfl t ht
    have h2 := (List.pairwise_cons.1 b.srt).1 h' (by rw [e]; simp)
    omega
  · rcases b.done u hu e with g | g
    · rcases List.mem_cons.1 g with g | g
      · subst g
        exact .inr fun t ht hr => ⟨b.head u l rfl t ht hr, b.top u l rfl t ht⟩
      · exact .inl g
    · exact .inr g
theorem BfN.start {n : Nat} (hn : N = n) (hf : f < n) : BfN N E f ((List.replicate n (-1)).set f 0) [f] (fun _ => False) := by
  have hl : f < (List.replicate n (-1 : Int)).length := by simpa using hf
  have same : nth ((List.replicate n (-1)).set f 0) f = 0 := nth_set_same _ hl
  have ne : ∀ t, t < n → t ≠ f → nth ((List.replicate n (-1)).set f 0) t = -1 := fun t ht h => by
    rw [nth_set_ne _ (fun e => h e.symm)]
    unfold nth
    rw [List.getD_eq_getElem?_getD, List.getElem?_replicate, if_pos ht]
    rfl
  have hc : setN ((List.replicate n (-1)).set f 0) = setN (List.replicate n (-1)) + 1 := setN_set hl (by
    unfold nth
    rw [List.getD_eq_getElem?_getD, List.getElem?_replicate, if_pos hf]
    decide) (by omega)
  subst hn
  have cs : ∀ t, t < N → (t = f ∧ nth ((List.replicate N (-1)).set f 0) t = 0) ∨ (t ≠ f ∧ nth ((List.replicate N (-1)).set f 0) t = -1) := fun t ht => by
    by_cases e : t = f
    · subst e; exact .inl ⟨rfl, same⟩
    · exact .inr ⟨e, ne t ht e⟩
  refine ⟨by simp, ⟨hf, same⟩, fun t ht e => ?_, fun t ht => ?_, fun t ht => ?_, List.pairwise_singleton _ _, fun h l e t ht => ?_, fun u hu e => ?_, fun _ _ _ _ _ g => g.elim, fun t ht e => ?_⟩
  · rcases cs t ht with ⟨e1, e2⟩ | ⟨e1, e2⟩
    · exact e1
    · omega
  · rw [hc]
    rcases cs t ht with ⟨e1, e2⟩ | ⟨e1, e2⟩ <;> rw [e2] <;> omega
  · simp at ht
    subst ht
    exact ⟨hf, by rw [same]; omega⟩
  · injection e with e1 e2
    subst e1
    rw [same]
    rcases cs t ht with ⟨e1, e2⟩ | ⟨e1, e2⟩ <;> rw [e2] <;> omega
  · rcases cs u hu with ⟨e1, e2⟩ | ⟨e1, e2⟩
    · subst e1; exact .inl (by simp)
    · omega
  · rcases cs t ht with ⟨e1, e2⟩ | ⟨e1, e2⟩ <;> omega
end
end Go.Proofs.Ytemhcobjhpifpaa
