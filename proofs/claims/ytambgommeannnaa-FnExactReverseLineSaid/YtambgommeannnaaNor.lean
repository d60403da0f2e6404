/- Networks that a law's function returns. -/
import Derived.Test.YtambgommeannnaaNox
namespace Go.Proofs.Ytambgommeannnaa
open Go.ChangeShapes Go.WideShapes Go.ChangeAt Go.RowKit Go.PlainAid
set_option linter.unusedVariables false
set_option linter.unusedSimpArgs false

/-- A network, read only. -/
structure NetR (w : World) (Z : Zone) (A L : Option Addr) (x : NetD) : Prop where
  s : StrsIn w Z A x.stops
  l : LinesIn w Z L x.lines
/-- Its marks. -/
structure NetM (w : World) (Z : Zone) (A L : Option Addr) (x : NetD) (K : Nat) : Prop where
  s : StrsIn w Z A (marksS K x.stops.length)
  l : LinesIn w Z L (mkdL x.lines (K + x.stops.length) x.lines.length)
/-- A network of the call's own, or an empty one. -/
def NetO (w : World) (lo hi : Nat) (x : NetD) (A L : Option Addr) : Prop := (x.stops = [] ∧ x.lines = []) ∨ ∃ s g p r, NOwn w lo hi x A L s g p r
section
variable {w w' : World} {Z Z' : Zone} {A L : Option Addr} {x : NetD} {lo hi B K : Nat}
theorem NetR.keep (h : NetR w Z A L x) (hs : ∀ c, Z.ok c → Same w w' c) : NetR w' Z A L x := ⟨h.s.keep hs, h.l.keep hs⟩
theorem NetR.mono (h : NetR w Z A L x) (hz : Z.le Z') : NetR w Z' A L x := ⟨h.s.mono hz, h.l.mono hz⟩
theorem NetR.new_call (h : NetR w (Zone.new lo hi) A L x) (hb : Below B w w') (hB : hi ≤ B) : NetR w' (Zone.new lo hi) A L x := ⟨h.s.new_call hb hB, h.l.new_call hb hB⟩
theorem NetR.to_below (h : NetR w (Zone.new lo hi) A L x) (hB : hi ≤ B) : NetR w (Zone.below B) A L x := ⟨h.s.to_below hB, h.l.to_below hB⟩
theorem NetM.keep (h : NetM w Z A L x K) (hs : ∀ c, Z.ok c → Same w w' c) : NetM w' Z A L x K := ⟨h.s.keep hs, h.l.keep hs⟩
theorem NetM.new_call (h : NetM w (Zone.new lo hi) A L x K) (hb : Below B w w') (hB : hi ≤ B) : NetM w' (Zone.new lo hi) A L x K := ⟨h.s.new_call hb hB, h.l.new_call hb hB⟩
theorem NetM.to_below (h : NetM w (Zone.new lo hi) A L x K) (hB : hi ≤ B) : NetM w (Zone.below B) A L x K := ⟨h.s.to_below hB, h.l.to_below hB⟩
theorem NetO.keep (h : NetO w lo hi x A L) (hs : ∀ c, lo ≤ c ∧ c < hi → Same w w' c) : NetO w' lo hi x A L := by
  rcases h with h | ⟨s, g, p, r, h⟩
  · exact .inl h
  · exact .inr ⟨s, g, p, r, h.keep hs⟩
theorem NetO.new_call (h : NetO w lo hi x A L) (hb : Below B w w') (hB : hi ≤ B) : NetO w' lo hi x A L := h.keep fun c hc => Same.of_below hb (by omega)
theorem NetO.to_new (h : NetO w lo hi x A L) : NetR w (Zone.new lo hi) A L x := by
  rcases h with h | ⟨s, g, p, r, h⟩
  · refine ⟨?_, ?_⟩
    · rw [h.1]; exact fun h => by simp at h
    · rw [h.2]; exact fun h => by simp at h
  · exact ⟨h.stopsIn, h.linesIn⟩
theorem NetO.s (h : NetO w lo hi x A L) : StrsIn w (Zone.new lo hi) A x.stops := h.to_new.s
theorem NetO.l (h : NetO w lo hi x A L) : LinesIn w (Zone.new lo hi) L x.lines := h.to_new.l
theorem NetO.to_below (h : NetO w lo hi x A L) (hB : hi ≤ B) : NetR w (Zone.below B) A L x := h.to_new.to_below hB
theorem Apart.wide {lo' hi' g n : Nat} {p r : Nat → Nat} (h : Apart lo hi g n p r) (h1 : lo' ≤ lo) (h2 : hi ≤ hi') : Apart lo' hi' g n p r :=
  ⟨Nat.le_trans h1 h.g0, Nat.lt_of_lt_of_le h.g1 h2, fun k hk => by have := h.p0 k hk; omega, fun k hk => by have := h.r0 k hk; omega, h.pp, h.rr, h.pr⟩
theorem NOwn.wide {lo' hi' s g : Nat} {p r : Nat → Nat} (h : NOwn w lo hi x A L s g p r) (h1 : lo' ≤ lo) (h2 : hi ≤ hi') : NOwn w lo' hi' x A L s g p r :=
  ⟨h.at0, h.stops, h.lines, h.apart.wide h1 h2, Nat.le_trans h1 h.s0, Nat.lt_of_lt_of_le h.s1 h2, h.off⟩
theorem NetO.mono {lo' hi' : Nat} (h : NetO w lo hi x A L) (hz : (Zone.new lo hi).le (Zone.new lo' hi')) (h1 : lo' ≤ lo) (h2 : hi ≤ hi') : NetO w lo' hi' x A L := by
  rcases h with h | ⟨s, g, p, r, h⟩
  · exact .inl h
  · exact .inr ⟨s, g, p, r, h.wide h1 h2⟩
theorem NetO.wide {lo' hi' : Nat} (h : NetO w lo hi x A L) (h1 : lo' ≤ lo) (h2 : hi ≤ hi') : NetO w lo' hi' x A L := by
  rcases h with h | ⟨s, g, p, r, h⟩
  · exact .inl h
  · exact .inr ⟨s, g, p, r, h.wide h1 h2⟩
end
theorem szNet_nil {x : NetD} (h : x.stops = [] ∧ x.lines = []) : szNet x = 0 := by
  unfold szNet szSs szLns
  rw [h.1, h.2]
  rfl
theorem markNetwork_res (lo hi : Nat) (x : NetD) (A L : Option Addr) (ca cl K : Nat) (w : World) (h : NetO w lo hi x A L) (hh : hi ≤ w.heap.size) (hn : szNet x ≤ 1048576) (h0 : 0 < K) (hK : K ≤ 1048576 * 1048576 - 4 * 1048576) :
    Calls Try.prog 41 #[.agg #[.slice A x.stops.length ca, .slice L x.lines.length cl], .int .i64 (K : Nat)] w fun e w' => e = .returned (.int .i64 ((K + cntN x : Nat) : Int)) ∧ Mk lo hi w w' ∧ NetM w' (Zone.new lo hi) A L x K := by
  rcases h with h | ⟨s, g, p, r, h⟩
  · refine (markNetwork_any lo hi x A L ca cl K w (by rw [h.1]; exact fun h => by simp at h) (by rw [h.2]; exact fun h => by simp at h) hh hn h0 hK).mono ?_
    rintro e w' ⟨h1, h2⟩
    refine ⟨h1, h2, ?_, ?_⟩
    · intro hq; rw [marksS_length, h.1] at hq; simp at hq
    · intro hq; rw [mkdL_length, h.2] at hq; simp at hq
  · refine (markNetwork_own lo hi x A L ca cl K s g p r w h hh hn h0 hK).mono ?_
    rintro e w' ⟨h1, h2, h3, h4, _⟩
    refine ⟨h1, h2, h3.mono (Zone.one_le h.s0 h.s1), ?_⟩
    rw [h.at0]
    refine h4.lines (lo := lo) (hi := hi) ?_
    rw [mkdL_length]
    exact h.apart
theorem heldNetwork_res (x : NetD) (A L : Option Addr) (ca cl K : Nat) (w : World) (h : NetM w (Zone.below w.heap.size) A L x K) (hn : szNet x ≤ 1048576) (h0 : 0 < K) (hK : K ≤ 1048576 * 1048576 - 4 * 1048576) :
    Calls Try.prog 42 #[.agg #[.slice A x.stops.length ca, .slice L x.lines.length cl], .int .i64 (K : Nat)] w fun e w' => e = .returned (.int .i64 ((K + cntN x : Nat) : Int)) ∧ Below w.heap.size w w' :=
  heldNetwork_any x A L ca cl K w h.s h.l hn h0 hK
/-- What a function hands back that makes a network: its own. -/
def RetNet (x : NetD) (b : Bool) (w : World) (e : Ending) (w' : World) : Prop :=
  ∃ A ca L cl, e = .returned (.tuple #[.agg #[.slice A x.stops.length ca, .slice L x.lines.length cl], .bool b]) ∧ NetO w' w.heap.size w'.heap.size x A L ∧ Below w.heap.size w w'
/-- The same without the boolean. -/
def RetNet1 (x : NetD) (w : World) (e : Ending) (w' : World) : Prop :=
  ∃ A ca g cl s p r, e = .returned (.agg #[.slice A x.stops.length ca, .slice (some ⟨g, 0, none⟩) x.lines.length cl]) ∧ NOwn w' w.heap.size w'.heap.size x A (some ⟨g, 0, none⟩) s g p r ∧ Below w.heap.size w w'
end Go.Proofs.Ytambgommeannnaa
