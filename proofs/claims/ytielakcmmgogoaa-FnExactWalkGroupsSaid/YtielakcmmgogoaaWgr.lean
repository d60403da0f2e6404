/- WalkGroups: what it returns, and what stays. -/
import Derived.Test.YtielakcmmgogoaaWgp
import Derived.Test.YtielakcmmgogoaaRow5
import Derived.Test.YtielakcmmgogoaaWkt
import Derived.Test.YtielakcmmgogoaaAr2
import Derived.Test.YtielakcmmgogoaaWlk
namespace Go.Proofs.Ytielakcmmgogoaa
open Go.ChangeShapes Go.WideShapes Go.ChangeAt Go.RowKit Go.PlainAid
set_option linter.unusedVariables false
set_option linter.unusedSimpArgs false

theorem fw_self {n : Nat} {xs : List I3} (h : Wks n xs) {s : Nat} (hs : s < n) : fw xs n s s = 0 := by
  have := (fw_dist h hs).le hs (wayP_nil (n := n) (xs := xs) s)
  omega
/-- What WalkGroups returns. -/
def wgB (x : NetD) (xs : List I3) (lim : Int) : Bool := wvB x xs && inB lim 0 120
def wgF (x : NetD) (xs : List I3) (lim : Int) : Nat → Nat → Int := fw (shF xs lim xs.length) x.stops.length
def wgL (x : NetD) (xs : List I3) (lim : Int) : List (List Int) := if wgB x xs lim = true then gsF (wgF x xs lim) x.stops.length x.stops.length else []
theorem wgB_no {x : NetD} {xs : List I3} {lim : Int} (h : wvB x xs = false ∨ inB lim 0 120 = false) : wgB x xs lim = false := by
  unfold wgB
  rcases h with h | h <;> simp [h]
theorem wgB_yes {x : NetD} {xs : List I3} {lim : Int} (h : wvB x xs = true) (h' : inB lim 0 120 = true) : wgB x xs lim = true := by
  unfold wgB
  simp [h, h']
theorem wgL_no {x : NetD} {xs : List I3} {lim : Int} (h : wgB x xs lim = false) : wgL x xs lim = [] := by unfold wgL; rw [h]; rfl
theorem wgL_yes {x : NetD} {xs : List I3} {lim : Int} (h : wgB x xs lim = true) : wgL x xs lim = gsF (wgF x xs lim) x.stops.length x.stops.length := by unfold wgL; rw [h]; rfl
theorem gsF_len (f : Nat → Nat → Int) (n a : Nat) : (gsF f n a).length ≤ a := by
  induction a with
  | zero => simp [gsF]
  | succ a ih =>
    rw [gsF]
    split
    · rw [List.length_append]; simp; omega
    · omega
theorem gsF_row (f : Nat → Nat → Int) (n a : Nat) : ∀ r, r ∈ gsF f n a → r.length ≤ n := by
  induction a with
  | zero => intro r hr; simp [gsF] at hr
  | succ a ih =>
    intro r hr
    rw [gsF] at hr
    split at hr
    · rcases List.mem_append.1 hr with h | h
      · exact ih r h
      · simp at h; rw [h]; exact grI_len f a n
    · exact ih r hr
theorem seF_len (f : Nat → Nat → Int) (n a : Nat) : (seF f n a).length ≤ a * n := by
  induction a with
  | zero => simp [seF]
  | succ a ih =>
    have := grI_len f a n
    rw [Nat.succ_mul, seF]
    split
    · rw [List.length_append]; omega
    · omega
theorem nthR_mem {xs : List (List Int)} {k : Nat} (h : k < xs.length) : nthR xs k ∈ xs := by
  unfold nthR
  rw [List.getD_eq_getElem?_getD, List.getElem?_eq_getElem h]
  exact List.getElem_mem h
theorem cntR_le (xs : List (List Int)) (m : Nat) (h : ∀ r, r ∈ xs → r.length ≤ m) : ∀ k, k ≤ xs.length → cntR xs k ≤ k * m := by
  intro k
  induction k with
  | zero => intro _; simp [cntR]
  | succ k ih =>
    intro hk
    have h1 := ih (by omega)
    have h2 := h _ (nthR_mem (xs := xs) (k := k) (by omega))
    rw [Nat.succ_mul, cntR]
    omega
theorem wgL_fit (x : NetD) (xs : List I3) (lim : Int) : (wgL x xs lim).length ≤ 1048576 ∧ cntR (wgL x xs lim) (wgL x xs lim).length ≤ 1048576 ∧ ∀ k, k < (wgL x xs lim).length → (nthR (wgL x xs lim) k).length ≤ 1048576 := by
  unfold wgL
  split
  · rename_i h
    unfold wgB at h
    simp only [Bool.and_eq_true] at h
    obtain ⟨hnet, _⟩ := wvB_ok h.1
    have h28 := inB_iff.1 (netB_ok hnet).stops
    have h8 : x.stops.length ≤ 8 := by omega
    have h1 := gsF_len (wgF x xs lim) x.stops.length x.stops.length
    have h2 := gsF_row (wgF x xs lim) x.stops.length x.stops.length
    have h3 := cntR_le _ _ h2 _ (Nat.le_refl _)
    have h4 : (gsF (wgF x xs lim) x.stops.length x.stops.length).length * x.stops.length ≤ 8 * 8 := Nat.mul_le_mul (by omega) h8
    exact ⟨by omega, by omega, fun k hk => by have := h2 _ (nthR_mem hk); omega⟩
  · simp [cntR]
theorem grI_hd {f : Nat → Nat → Int} {a n : Nat} (h0 : f a a = 0) (ha : a < n) : ∃ k : Nat, nth (grI f a n) 0 = (k : Int) ∧ 0 < (grI f a n).length ∧ k ≤ a ∧ (k = a ↔ fstP f a) := by
  obtain ⟨k, h1, h2, h3, h4⟩ := grI_head h0 n ha
  cases hg : grI f a n with
  | nil => rw [hg] at h1; simp at h1
  | cons v l =>
    rw [hg] at h1
    simp at h1
    refine ⟨k, by simp [nth, h1], by simp, h2, fun e => ?_, fun hf => ?_⟩
    · subst e; exact h4
    · by_cases e : k = a
      · exact e
      · have := hf k (by omega); omega

abbrev OwnW (w : World) (B : Nat) (v : Value) (xs : List I3) : Prop := OwnE 56 3 encI3 w B v xs
theorem encI3_cellW (y : I3) : ∀ u ∈ encI3 y, u.oneCell' = true := fun u hu => by simp [encI3] at hu; rcases hu with rfl | rfl | rfl <;> rfl
theorem wp_appW1 {ops : Array Oper} {rest : List Oper} {o : Oper} {a : Act} {Q : Exit → Act → World → Prop} (hgd : o.guard = none) (s x : Operand)
    (ho : o.op = .call { callee := .builtin .append, args := #[s, x], argTypes := #[36, 36] })
    (B : Nat) (v : Value) (xs : List I3) (y : I3) (w : World) (hown : OwnW w B v xs) (hs : a.eval s = v) (n : Nat) (hx : a.eval x = .slice (some ⟨n, 0, none⟩) 1 1) (hnw : n = w.heap.size) (hl : xs.length ≤ 16777216) (hB : B ≤ w.heap.size)
    (h : ∀ v' w', OwnW w' B v' (xs ++ [y]) → Below B w w' → wpList Try.prog ops Q rest (a.put o.dst v') w') : wpList Try.prog ops Q (o :: rest) a (w.alloc (.cells #[.int .i64 y.a, .int .i64 y.b, .int .i64 y.c] 56)) := by
  obtain ⟨i0, hi, hz0, hz1, hz2⟩ := info_parts Try.infoWalk
  exact wp_app hgd s x 36 ho 24 Try.underlying36 hi hz0 hz1 hz2 rfl (by omega) (fun _ => rfl) encI3_cellW (by omega) B v xs y _ w rfl hs n hx hnw hown hl hB h
theorem retRnil {w0 w : World} {xs : List (List Int)} {b : Bool} (h : xs = []) (hb : Below w0.heap.size w0 w) : RetRows xs b w0 (.returned (.tuple #[.slice none 0 0, .bool b])) w := by
  subst h
  exact ⟨none, 0, rfl, RowsO.nil, hb⟩
theorem retLr {A : Option Addr} {n m c : Nat} {b : Bool} (h : n = m) : Ending.returned (.tuple #[.slice A n c, .bool b]) = .returned (.tuple #[.slice A m c, .bool b]) := by rw [h]
theorem ROut.empty {w : World} {B : Nat} (hB : B ≤ w.heap.size) (p : Nat → Nat) : ROut (w.alloc (.cells #[] 45)) B (.slice (some ⟨w.heap.size, 0, none⟩) 0 0) [] [] p :=
  ⟨by simpa using OwnE.empty (e := 45) (m := 1) (enc := encSV) hB, rfl, fun k hk => by simp at hk, fun k hk => by simp at hk, fun k hk => by simp at hk, fun j k hj => by simp at hj, fun k hk => by simp at hk⟩

/-! ### What stays in the reference's loops -/
/-- Behind some rounds of the outer loop. -/
structure GSt (B : Nat) (w2 : World) (o0 s0 : Nat) (wr : World) (vo vs : Value) (rows : List (List Int)) (seen : List Int) : Prop where
  out : ∃ svs p, ROut wr B vo rows svs p ∧ ∀ X, vs.ownBlock = some X → vo.ownBlock ≠ some X ∧ ∀ k, k < rows.length → p k ≠ X
  own : OwnI wr B vs seen
  bel : Below B w2 wr
  voP : ∀ X, vo.ownBlock = some X → X = o0 ∨ w2.heap.size ≤ X
  vsP : ∀ X, vs.ownBlock = some X → X = s0 ∨ w2.heap.size ≤ X
  kept : ∀ X, X < w2.heap.size → X ≠ o0 → X ≠ s0 → wr.heap[X]? = w2.heap[X]?
/-- Behind some rounds of the inner loop; w5: the world at its head. -/
structure GIn (B G : Nat) (w5 : World) (g0 : Nat) (vs0 : Value) (wi : World) (vs vg : Value) (seen grp : List Int) : Prop where
  own : OwnI wi B vs seen
  grp : OwnI wi G vg grp
  ap : ∀ X, vs.ownBlock = some X → vg.ownBlock ≠ some X
  vsP : vs.ownBlock = vs0.ownBlock ∨ ∀ X, vs.ownBlock = some X → w5.heap.size ≤ X
  vgP : ∀ X, vg.ownBlock = some X → X = g0 ∨ w5.heap.size ≤ X
  bel : Below B w5 wi
  kept : ∀ X, X < w5.heap.size → vs0.ownBlock ≠ some X → X ≠ g0 → wi.heap[X]? = w5.heap[X]?
section
variable {B G : Nat} {seen' : List Int} {w2 w5 wi w' : World} {o0 s0 g0 : Nat} {vo vs vg vs0 v' : Value} {rows : List (List Int)} {seen grp : List Int} {y : Int}
theorem own_lt {α : Type} {e : TypeId} {m : Nat} {enc : α → List Value} {w : World} {v : Value} {xs : List α} (h : OwnE e m enc w B v xs) {X : Nat} (hX : v.ownBlock = some X) : B ≤ X ∧ X < w.heap.size := World.ownsRow.lt h X hX
/-- The group grows. -/
theorem GIn.growG (h : GIn B G w5 g0 vs0 wi vs vg seen grp) (hBG : B ≤ G) (ho : OwnI w' G v' (grp ++ [y])) (hb : Below G wi w') (hs : ∀ X, X < wi.heap.size → vg.ownBlock ≠ some X → w'.heap[X]? = wi.heap[X]?) (hat : v'.ownBlock = vg.ownBlock ∨ v'.ownBlock = some (wi.heap.size + 1)) :
    GIn B G w5 g0 vs0 w' vs v' seen (grp ++ [y]) where
  own := h.own.kept fun X hX => hs X (own_lt h.own hX).2 (h.ap X hX)
  grp := ho
  ap := fun X hX e => by
    rcases hat with g | g
    · rw [g] at e; exact h.ap X hX e
    · rw [g] at e; have := (own_lt h.own hX).2; simp at e; omega
  vsP := h.vsP
  vgP := fun X hX => by
    rcases hat with g | g
    · rw [g] at hX; exact h.vgP X hX
    · rw [g] at hX; have := h.bel.size; simp at hX; exact .inr (by omega)
  bel := h.bel.trans (hb.mono hBG)
  kept := fun X hX h1 h2 => (hs X (Nat.lt_of_lt_of_le hX h.bel.size) (fun e => by
    rcases h.vgP X e with g | g
    · exact h2 g
    · omega)).trans (h.kept X hX h1 h2)
/-- The list of those seen grows. -/
theorem GIn.growS (h : GIn B G w5 g0 vs0 wi vs vg seen grp) (h0 : OwnI w5 B vs0 seen') (hg0 : vs0.ownBlock ≠ some g0) (ho : OwnI w' B v' (seen ++ [y])) (hb : Below B wi w') (hs : ∀ X, X < wi.heap.size → vs.ownBlock ≠ some X → w'.heap[X]? = wi.heap[X]?) (hat : v'.ownBlock = vs.ownBlock ∨ v'.ownBlock = some (wi.heap.size + 1)) :
    GIn B G w5 g0 vs0 w' v' vg (seen ++ [y]) grp where
  own := ho
  grp := h.grp.kept fun X hX => hs X (own_lt h.grp hX).2 (fun e => h.ap X e hX)
  ap := fun X hX e => by
    rcases hat with g | g
    · rw [g] at hX; exact h.ap X hX e
    · rw [g] at hX; have := (own_lt h.grp e).2; simp at hX; omega
  vsP := by
    rcases hat with g | g
    · rw [g]; exact h.vsP
    · refine .inr fun X hX => ?_
      rw [g] at hX; have := h.bel.size; simp at hX; omega
  vgP := h.vgP
  bel := h.bel.trans hb
  kept := fun X hX h1 h2 => (hs X (Nat.lt_of_lt_of_le hX h.bel.size) (fun e => by
    rcases h.vsP with g | g
    · rw [g] at e; exact h1 e
    · have := g X e; omega)).trans (h.kept X hX h1 h2)
/-- The rows behind the inner loop. -/
theorem GSt.inner {wr : World} (h : GSt B w2 o0 s0 wr vo vs0 rows seen') (hb : Below wr.heap.size wr w5) (hi : GIn B G w5 g0 vs0 wi vs vg seen grp) (hg : wr.heap.size ≤ g0) :
    ∃ svs p, ROut wi B vo rows svs p ∧ (∀ X, vo.ownBlock = some X → X < wr.heap.size) ∧ (∀ k, k < rows.length → p k < wr.heap.size) ∧ (∀ X, vs.ownBlock = some X → vo.ownBlock ≠ some X ∧ ∀ k, k < rows.length → p k ≠ X) := by
  obtain ⟨svs, p, ho, ha⟩ := h.out
  have hz := hb.size
  have key : ∀ X, X < wr.heap.size → vs0.ownBlock ≠ some X → wi.heap[X]? = wr.heap[X]? := fun X hX hne => (hi.kept X (by omega) hne (by omega)).trans (hb.block X hX)
  have hp : ∀ k, k < rows.length → p k < wr.heap.size := fun k hk => (ho.p0 k hk).2
  have hv : ∀ X, vo.ownBlock = some X → X < wr.heap.size := fun X hX => (own_lt ho.own hX).2
  refine ⟨svs, p, ho.kept (Nat.le_trans hz hi.bel.size) (fun X hX => key X (hv X hX) (fun e => (ha X e).1 hX)) (fun k hk => key _ (hp k hk) (fun e => (ha _ e).2 k hk rfl)), hv, hp, fun X hX => ?_⟩
  rcases hi.vsP with g | g
  · rw [g] at hX; exact ha X hX
  · have h1 := g X hX
    exact ⟨fun e => by have := hv X e; omega, fun k hk e => by have := hp k hk; omega⟩
/-- A round of the outer loop. -/
theorem GSt.done {wr : World} {svs' : List SV} {p : Nat → Nat} {pn : Nat} (h : GSt B w2 o0 s0 wr vo vs0 rows seen') (hb : Below wr.heap.size wr w5) (hi : GIn B G w5 g0 vs0 wi vs vg seen grp) (hg : wr.heap.size ≤ g0) (hz2 : w2.heap.size ≤ wr.heap.size) (hBw : B ≤ wr.heap.size)
    (hv : ∀ X, vo.ownBlock = some X → X < wr.heap.size) (hp : ∀ k, k < rows.length → p k < wr.heap.size) (ha : ∀ X, vs.ownBlock = some X → vo.ownBlock ≠ some X ∧ ∀ k, k < rows.length → p k ≠ X) (hpn : vg.ownBlock = some pn)
    (ho : ROut w' B v' (rows ++ [grp]) svs' (fun j => if j = rows.length then pn else p j)) (hb' : Below B wi w') (hs : ∀ X, X < wi.heap.size → vo.ownBlock ≠ some X → w'.heap[X]? = wi.heap[X]?) (hat : v'.ownBlock = vo.ownBlock ∨ v'.ownBlock = some (wi.heap.size + 1)) :
    GSt B w2 o0 s0 w' v' vs (rows ++ [grp]) seen where
  out := ⟨svs', _, ho, fun X hX => ⟨fun e => by
      rcases hat with g | g
      · rw [g] at e; exact (ha X hX).1 e
      · rw [g] at e; have := (own_lt hi.own hX).2; simp at e; omega, fun k hk => by
      by_cases e : k = rows.length
      · rw [if_pos e]; intro e2; subst e2; exact hi.ap _ hX hpn
      · rw [if_neg e]; rw [List.length_append] at hk; simp at hk; exact (ha X hX).2 k (by omega)⟩⟩
  own := hi.own.kept fun X hX => hs X (own_lt hi.own hX).2 (fun e => (ha X hX).1 e)
  bel := ((h.bel.trans (hb.mono hBw)).trans hi.bel).trans hb'
  voP := fun X hX => by
    rcases hat with g | g
    · rw [g] at hX; exact h.voP X hX
    · rw [g] at hX; have := hi.bel.size; have := hb.size; simp at hX; exact .inr (by omega)
  vsP := fun X hX => by
    rcases hi.vsP with g | g
    · rw [g] at hX; exact h.vsP X hX
    · have := g X hX; have := hb.size; exact .inr (by omega)
  kept := fun X hX h1 h2 => by
    have hz := hb.size
    refine (hs X (by have := hi.bel.size; omega) (fun e => ?_)).trans ((hi.kept X (by omega) (fun e => ?_) (by omega)).trans ((hb.block X (by omega)).trans (h.kept X hX h1 h2)))
    · rcases h.voP X e with g | g
      · exact h1 g
      · omega
    · rcases h.vsP X e with g | g
      · exact h2 g
      · omega
end
end Go.Proofs.Ytielakcmmgogoaa
