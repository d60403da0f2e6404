/- DeparturesAt: plain. -/
import Derived.Test.YtambgommeannnaaDpf
import Derived.Test.YtambgommeannnaaStt
namespace Go.Proofs.Ytambgommeannnaa
open Go.ChangeShapes Go.WideShapes Go.ChangeAt Go.RowKit Go.PlainAid
set_option linter.unusedVariables false
set_option linter.unusedSimpArgs false

/-- A slice of pairs in new memory, and whether it is one. -/
def RetDp (xs : List I2) (b : Bool) (w : World) (e : Ending) (w' : World) : Prop :=
  ∃ A c, e = .returned (.tuple #[.slice A xs.length c, .bool b]) ∧ I2sIn w' (Zone.new w.heap.size w'.heap.size) A xs ∧ Below w.heap.size w w'
/-- Where a trip stops at s. -/
def plI (x : TTD) (s : Int) (i : Nat) : Int := ixI (lnI x i).stops s
def dpK (x : TTD) (s f : Int) (i : Nat) : Bool := decide (0 ≤ plI x s i ∧ plI x s i < (lnI x i).runs.length ∧ f ≤ atI x i (plI x s i).toNat)
def dpV (x : TTD) (s : Int) (i : Nat) : I2 := ⟨atI x i (plI x s i).toNat, (nth3 x.trips i).a⟩
def gtP (a b : I2) : Bool := ltP b a
/-- The pairs of the first k trips, as they come, and in order. -/
def pkD (x : TTD) (s f : Int) : Nat → List I2
  | 0 => []
  | k + 1 => if dpK x s f k = true then pkD x s f k ++ [dpV x s k] else pkD x s f k
def inD (x : TTD) (s f : Int) : Nat → List I2
  | 0 => []
  | k + 1 => if dpK x s f k = true then insG gtP (inD x s f k) (dpV x s k) else inD x s f k
theorem pkD_yes {x : TTD} {s f : Int} {k : Nat} (h : dpK x s f k = true) : pkD x s f (k + 1) = pkD x s f k ++ [dpV x s k] := by rw [pkD, if_pos h]
theorem pkD_no {x : TTD} {s f : Int} {k : Nat} (h : dpK x s f k = false) : pkD x s f (k + 1) = pkD x s f k := by rw [pkD, h]; rfl
theorem inD_yes {x : TTD} {s f : Int} {k : Nat} (h : dpK x s f k = true) : inD x s f (k + 1) = insG gtP (inD x s f k) (dpV x s k) := by rw [inD, if_pos h]
theorem inD_no {x : TTD} {s f : Int} {k : Nat} (h : dpK x s f k = false) : inD x s f (k + 1) = inD x s f k := by rw [inD, h]; rfl
theorem pkD_len (x : TTD) (s f : Int) (n : Nat) : (pkD x s f n).length ≤ n := by
  induction n with
  | zero => simp [pkD]
  | succ n ih =>
    rw [pkD]
    split
    · rw [List.length_append]; simp; omega
    · omega
theorem inD_perm (x : TTD) (s f : Int) (n : Nat) : (inD x s f n).Perm (pkD x s f n) := by
  induction n with
  | zero => exact List.Perm.refl _
  | succ n ih =>
    rw [inD, pkD]
    split
    · refine (insG_perm _ _ _).trans ?_
      refine List.Perm.trans ?_ List.perm_append_comm
      exact ih.cons _
    · exact ih
theorem inD_len (x : TTD) (s f : Int) (n : Nat) : (inD x s f n).length ≤ n := by rw [(inD_perm x s f n).length_eq]; exact pkD_len x s f n
theorem leP_trans {a b c : I2} (h1 : leP a b) (h2 : leP b c) : leP a c := by unfold leP at *; omega
theorem inD_sorted (x : TTD) (s f : Int) (n : Nat) : (inD x s f n).Pairwise leP := by
  induction n with
  | zero => exact List.Pairwise.nil
  | succ n ih =>
    rw [inD]
    split
    · exact insG_sorted (gt := gtP) (le := leP) (fun a b h => by unfold gtP ltP at h; have := of_decide_eq_true h; unfold leP; omega) (fun a b h => leP_of h) (fun a b c h1 h2 => leP_trans h1 h2) _ ih
    · exact ih
theorem inD_of {x : TTD} {s f : Int} {n : Nat} {ys : List I2} (hp : ys.Perm (pkD x s f n)) (hs : ys.Pairwise leP) : ys = inD x s f n := by
  refine List.Perm.eq_of_pairwise (le := leP) (fun a b _ _ h1 h2 => ?_) hs (inD_sorted x s f n) (hp.trans (inD_perm x s f n).symm)
  obtain ⟨a1, a2⟩ := a
  obtain ⟨b1, b2⟩ := b
  unfold leP at h1 h2
  simp only [] at h1 h2
  have e1 : a1 = b1 := by omega
  have e2 : a2 = b2 := by omega
  rw [e1, e2]
def dpB (x : TTD) (s f : Int) : Bool := ttB x && (inB s 0 (x.net.stops.length - 1) && tmB f)
def dpL (x : TTD) (s f : Int) : List I2 := if dpB x s f = true then inD x s f x.trips.length else []
theorem dpL_no {x : TTD} {s f : Int} (h : dpB x s f = false) : dpL x s f = [] := by unfold dpL; rw [h]; rfl
theorem dpL_yes {x : TTD} {s f : Int} (h : dpB x s f = true) : dpL x s f = inD x s f x.trips.length := by unfold dpL; rw [if_pos h]
theorem dpL_len (x : TTD) (s f : Int) : (dpL x s f).length ≤ x.trips.length := by
  unfold dpL
  split
  · exact inD_len _ _ _ _
  · simp
theorem dpK_yes {x : TTD} {s f : Int} {i q : Nat} (e : plI x s i = q) (h1 : q < (lnI x i).runs.length) (h2 : f ≤ atI x i q) : dpK x s f i = true := by
  unfold dpK
  rw [e, Int.toNat_natCast]
  simp only [decide_eq_true_eq]
  omega
theorem dpK_no {x : TTD} {s f : Int} {i : Nat} (h : ¬ (0 ≤ plI x s i ∧ plI x s i < (lnI x i).runs.length ∧ f ≤ atI x i (plI x s i).toNat)) : dpK x s f i = false := decide_eq_false h
theorem pairP_cells {w : World} {g : Nat} {a b : Int} (h0 : w.cell? ⟨g, 0, none⟩ = some (.int .i64 a)) (h1 : w.cell? ⟨g, 1, none⟩ = some (.int .i64 b)) : ∀ j u, (([⟨a, b⟩] : List I2).flatMap encI2)[j]? = some u → w.cell? ⟨g, 0 + j, none⟩ = some u := by
  intro j u h
  rw [Nat.zero_add]
  match j, h with
  | 0, h => simp [encI2] at h; subst h; exact h0
  | 1, h => simp [encI2] at h; subst h; exact h1
  | j + 2, h => simp [encI2] at h
/-- Below B the world is as it was, and so is every older block but v's own. -/
def Kp (v : Value) (B : Nat) (w w' : World) : Prop := Below B w w' ∧ ∀ c, c < w.heap.size → v.ownBlock ≠ some c → ∀ o, w'.cell? ⟨c, o, none⟩ = w.cell? ⟨c, o, none⟩
section
variable {v : Value} {B : Nat} {w w' w'' : World}
theorem Kp.refl (v : Value) (B : Nat) (w : World) : Kp v B w w := ⟨Below.refl _ _, fun _ _ _ _ => rfl⟩
theorem Kp.drew (h : Kp v B w w') : Kp v B w w'.drew := ⟨h.1.drew, h.2⟩
theorem Kp.alloc (h : Kp v B w w') (hB : B ≤ w.heap.size) (o : Obj) (hz : w.heap.size ≤ w'.heap.size) : Kp v B w (w'.alloc o) :=
  ⟨h.1.alloc (Nat.le_trans hB hz) o, fun c hc hv i => (((Below.refl w'.heap.size w').alloc (Nat.le_refl _) o).cell (p := ⟨c, i, none⟩) (Nat.lt_of_lt_of_le hc hz)).trans (h.2 c hc hv i)⟩
theorem Kp.grown (h : Kp v B w w') (hb : Below B w' w'') (hg : w'.grownBy w'' v.ownBlock) (hz : w.heap.size ≤ w'.heap.size) : Kp v B w w'' :=
  ⟨h.1.trans hb, fun c hc hv i => (World.cell?_of_block (a := ⟨c, i, none⟩) (hg.block c (Nat.lt_of_lt_of_le hc hz) (fun e => hv e.symm))).trans (h.2 c hc hv i)⟩
end
end Go.Proofs.Ytambgommeannnaa
