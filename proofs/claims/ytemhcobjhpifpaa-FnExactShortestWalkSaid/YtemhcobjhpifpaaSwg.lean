/- impl.ShortestWalk: plain facts and bundles. -/
import Derived.Test.YtemhcobjhpifpaaSwf
import Derived.Deep.LoopGhost
namespace Go.Proofs.Ytemhcobjhpifpaa
open Go.ChangeShapes Go.WideShapes Go.ChangeAt Go.RowKit Go.PlainAid
set_option linter.unusedVariables false
set_option linter.unusedSimpArgs false

theorem oneI {B : Nat} (w : World) (y : Int) (hb : B ≤ w.heap.size) : OwnI (w.alloc (.cells #[.int .i64 y] 3)) B (.slice (some ⟨w.heap.size, 0, none⟩) 1 1) [y] :=
  World.ownsRow_lit w #[.int .i64 y] 1 hb (by unfold maxLen; omega) rfl
theorem iL_app2 (xs ys : List Nat) : iL (xs ++ ys) = iL xs ++ iL ys := by unfold iL; exact List.map_append ..
section
variable {n t : Nat} {xs : List I3} {o : List Int}
theorem BfN.steps {D : Nat → Prop} (b : BfN n (fun u a => onw n xs t a u) t o [] D) : StepsOk n xs t o :=
  ⟨b.frm.2, b.zero, fun a ha h => by
    obtain ⟨s, hs, g1, g2⟩ := b.pred a ha h
    exact ⟨s, hs, g1, g2⟩, fun a c ha hc ho h0 => by
    rcases b.done c hc h0 with g | g
    · simp at g
    · exact g a ha ho⟩
theorem swL_gr (h : Wks n xs) (ht : t < n) {a : Nat} (ha : a < n) (ho : StepsOk n xs t o) (h0 : 0 ≤ fw xs n a t) {k : Nat} (hk : nth o a = (k : Int)) (hb : k < 50000) : swL n xs a t = a :: grF n xs t o k a := by
  have e := wF_gr h ht ho k [a] a ha h0 hk (fun v hv => by rw [List.mem_singleton.1 hv]; exact Int.le_refl _) (by simp)
  have hne : wF n xs t k [a] a (fw xs n a t) ≠ [] := by rw [e]; simp
  have hK : swK n xs a t = k := swK_eq hb hne (fun j hj => by
    by_cases q : wF n xs t j [a] a (fw xs n a t) = []
    · exact q
    · have := (wF_steps h ht ho j [a] a ha h0 q).2
      omega)
  unfold swL
  rw [hK, e]
  rfl
theorem grF_step {a b k : Nat} (hb : b < n) (h1 : nth o b = nth o a - 1) (h2 : onwB n xs t a b = true) (hno : ∀ j, j < b → ¬ (nth o j = nth o a - 1 ∧ onwB n xs t a j = true)) : grF n xs t o (k + 1) a = b :: grF n xs t o k b := by
  have e : grN n xs t o a = some b := by
    unfold grN
    rw [List.find?_range_eq_some]
    refine ⟨by simp [h1, h2], List.mem_range.2 hb, fun j hj => ?_⟩
    have hn := hno j hj
    cases hq : onwB n xs t a j
    · simp
    · by_cases he : nth o j = nth o a - 1
      · exact absurd ⟨he, hq⟩ hn
      · simp [he]
  rw [show grF n xs t o (k + 1) a = (match grN n xs t o a with | some b => b :: grF n xs t o k b | none => []) from rfl, e]
theorem gr_none (ho : StepsOk n xs t o) {a : Nat} (ha : a < n) (h0 : 0 < nth o a) (hno : ∀ j, j < n → ¬ (nth o j = nth o a - 1 ∧ onwB n xs t a j = true)) : False := by
  obtain ⟨b, hb, h1, h2⟩ := ho.pred a ha h0
  exact hno b hb ⟨h1, decide_eq_true h2⟩
end
/-! ### Memory -/
/-- The boxes of the arguments. -/
structure SwB (w0 w : World) (g : Nat) (x : NetD) (A : Option Addr) (ca : Nat) (L : Option Addr) (cl : Nat) (V : Option Addr) (cv : Nat) (xs : List I3) (t : Int) : Prop where
  net : NetBox w0 w g x A ca L cl
  list : I3sIn w (Zone.below w0.heap.size) V xs
  c5 : w.cell? ⟨g + 1, 0, none⟩ = some (.slice V xs.length cv)
  c7 : w.cell? ⟨g + 2, 0, none⟩ = some (.int .i64 t)
  lt : g + 2 < w.heap.size
section
variable {w0 w w' : World} {g : Nat} {x : NetD} {A : Option Addr} {ca : Nat} {L : Option Addr} {cl : Nat} {V : Option Addr} {cv : Nat} {xs : List I3} {t : Int}
theorem SwB.call (h : SwB w0 w g x A ca L cl V cv xs t) (hb : Below w.heap.size w w') : SwB w0 w' g x A ca L cl V cv xs t :=
  have hl := h.lt
  ⟨h.net.call hb, h.list.at_below (hb.mono h.net.bel.size), (hb.cell (p := ⟨g + 1, 0, none⟩) (by show g + 1 < _; omega)).trans h.c5, (hb.cell (p := ⟨g + 2, 0, none⟩) hl).trans h.c7, Nat.lt_of_lt_of_le hl hb.size⟩
theorem SwB.listB (h : SwB w0 w g x A ca L cl V cv xs t) : I3sIn w (Zone.below w.heap.size) V xs := h.list.mono (Zone.below_le h.net.bel.size)
end
/-- The table, too. -/
structure SwT (w0 w : World) (g G q : Nat) (x : NetD) (A : Option Addr) (ca : Nat) (L : Option Addr) (cl : Nat) (V : Option Addr) (cv : Nat) (xs : List I3) (t : Int) : Prop where
  box : SwB w0 w g x A ca L cl V cv xs t
  mat : MatI w G x.stops.length (fw xs x.stops.length)
  c10 : w.cell? ⟨q, 0, none⟩ = some (.slice (some ⟨G, 0, none⟩) x.stops.length x.stops.length)
  l10 : q < w.heap.size
section
variable {w0 w w' : World} {g G q : Nat} {x : NetD} {A : Option Addr} {ca : Nat} {L : Option Addr} {cl : Nat} {V : Option Addr} {cv : Nat} {xs : List I3} {t : Int}
theorem SwT.call (h : SwT w0 w g G q x A ca L cl V cv xs t) (hb : Below w.heap.size w w') : SwT w0 w' g G q x A ca L cl V cv xs t :=
  ⟨h.box.call hb, h.mat.call hb, (hb.cell (p := ⟨q, 0, none⟩) h.l10).trans h.c10, Nat.lt_of_lt_of_le h.l10 hb.size⟩
end
/-- The queue under way: within a round, and at its head. -/
def SwSt (n : Nat) (xs : List I3) (t B : Nat) (w0 : World) (gk : Nat) (D : Nat → Prop) (h : Nat) (v : Value) (w : World) : Prop :=
  ∃ g o m c l ob, v = .slice (some ⟨g, o, none⟩) m c ∧ QueI w B B g o m c (h :: l) ∧ ArrI w B n (nth ob) ∧ BfN n (fun u a => onw n xs t a u) t ob (h :: l) D ∧ l.length + 1 + n = gk + setN ob ∧ Below B w0 w
def SwHd (n : Nat) (xs : List I3) (t B : Nat) (w0 : World) (gk : Nat) (v : Value) (w : World) : Prop :=
  ∃ g o m c q ob, v = .slice (some ⟨g, o, none⟩) m c ∧ QueI w B B g o m c q ∧ ArrI w B n (nth ob) ∧ BfN n (fun u a => onw n xs t a u) t ob q (fun _ => False) ∧ q.length + n = gk + setN ob ∧ gk ≤ n ∧ Below B w0 w
theorem SwSt.call {n : Nat} {xs : List I3} {t B : Nat} {w0 : World} {gk : Nat} {D : Nat → Prop} {h : Nat} {v : Value} {w w' : World} (s : SwSt n xs t B w0 gk D h v w) (hb : Below w.heap.size w w') : SwSt n xs t B w0 gk D h v w' := by
  obtain ⟨g, o, m, c, l, ob, e, h1, h2, h3, h4, h5⟩ := s
  exact ⟨g, o, m, c, l, ob, e, h1.call hb, h2.call hb, h3, h4, h5.trans (hb.mono (by have := h2.lt; omega))⟩
theorem SwSt.skip {n : Nat} {xs : List I3} {t B : Nat} {w0 : World} {gk : Nat} {D D' : Nat → Prop} {h : Nat} {v : Value} {w : World} (s : SwSt n xs t B w0 gk D h v w) (hD : ∀ u, u < n → D' u → D u) : SwSt n xs t B w0 gk D' h v w := by
  obtain ⟨g, o, m, c, l, ob, e, h1, h2, h3, h4, h5⟩ := s
  exact ⟨g, o, m, c, l, ob, e, h1, h2, h3.skip (fun u hu hd => .inl (hD u hu hd)), h4, h5⟩
theorem setN_rep : ∀ n, setN (List.replicate n (-1)) = 0 := fun n => by induction n with
  | zero => rfl
  | succ n ih => rw [List.replicate_succ]; simp only [setN]; rw [ih, if_neg (by omega)]
end Go.Proofs.Ytemhcobjhpifpaa
