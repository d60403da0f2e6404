/- Networks in boxes; contracts of small functions over networks. -/
import Derived.Test.YtemhcobjhpifpaaGod
import Derived.Test.YtemhcobjhpifpaaOpenN
namespace Go.Proofs.Ytemhcobjhpifpaa
open Go.ChangeShapes Go.WideShapes Go.ChangeAt Go.RowKit Go.PlainAid
set_option linter.unusedVariables false

/-- A network that came in, its box at g; w0: the world at the call. -/
structure NetBox (w0 w : World) (g : Nat) (x : NetD) (A : Option Addr) (ca : Nat) (L : Option Addr) (cl : Nat) : Prop where
  bel : Below w0.heap.size w0 w
  cells : Net2 w g x A ca L cl
  stops0 : StrsIn w (Zone.below w0.heap.size) A x.stops
  lines0 : LinesIn w (Zone.below w0.heap.size) L x.lines
  lt : g < w.heap.size
  le : w0.heap.size ≤ g
section
variable {w0 w w' : World} {g B : Nat} {x : NetD} {A L : Option Addr} {ca cl : Nat}
theorem NetBox.stops (h : NetBox w0 w g x A ca L cl) : StrsIn w (Zone.below w.heap.size) A x.stops := h.stops0.mono (Zone.below_le h.bel.size)
theorem NetBox.lines (h : NetBox w0 w g x A ca L cl) : LinesIn w (Zone.below w.heap.size) L x.lines := h.lines0.mono (Zone.below_le h.bel.size)
theorem NetBox.callB (h : NetBox w0 w g x A ca L cl) (hb : Below B w w') (hg : g < B) : NetBox w0 w' g x A ca L cl :=
  have hl := h.le
  have hb' : Below w0.heap.size w w' := hb.mono (by omega)
  ⟨h.bel.trans hb', h.cells.below hb hg, h.stops0.at_below hb', h.lines0.at_below hb', Nat.lt_of_lt_of_le h.lt hb.size, h.le⟩
theorem NetBox.call (h : NetBox w0 w g x A ca L cl) (hb : Below w.heap.size w w') : NetBox w0 w' g x A ca L cl := h.callB hb h.lt
theorem NetBox.box {T : TypeId} (hA : StrsIn w (Zone.below w.heap.size) A x.stops) (hL : LinesIn w (Zone.below w.heap.size) L x.lines) :
    NetBox w (w.alloc (.cells #[.slice A x.stops.length ca, .slice L x.lines.length cl] T)) w.heap.size x A ca L cl :=
  have hb : Below w.heap.size w (w.alloc (.cells #[.slice A x.stops.length ca, .slice L x.lines.length cl] T)) := (Below.refl _ _).alloc (Nat.le_refl _) _
  ⟨hb, ⟨by go_simp, by go_simp⟩, hA.at_below hb, hL.at_below hb, by simp, Nat.le_refl _⟩
end

set_option maxHeartbeats 400000 in
theorem l2FindE (A : Option Addr) (c : Nat) (xs : List ByteArray) (x : ByteArray) (w : World) (Z : Zone) (h : StrsIn w Z A xs) (hn : xs.length ≤ 1048576) :
    Calls Try.prog 58 #[.slice A xs.length c, .string x] w fun e w' => e = .returned (.int .i64 (ixS xs x)) ∧ w = w' := by
  have HX := Lib.hid h
  clear h
  go_enter Try.func58, Try.ntmps58
  go_wp2
  go_loopw [5] (fun i wr => ∃ k : Nat, k ≤ xs.length ∧ i = .int .i64 k ∧ (∀ j, j < k → eqAtS xs x j = false) ∧ w = wr) (fun i _ => xs.length - (intOf i).toNat)
  case atStart => exact ⟨0, Nat.zero_le _, rfl, fun j hj => by omega, rfl⟩
  case round =>
    obtain ⟨k, hk, rfl, ha, rfl⟩ := hrel
    have HA := Lib.hid ha
    clear ha
    by_cases hlt : k < xs.length
    · obtain ⟨b, o, rfl, hbl, hc0⟩ := HX.out.get hlt
      have hc : w.cell? ⟨b, o + k, none⟩ = some (.string (nthS xs k)) := hc0
      clear hc0
      have hi1 : (k : Int) < (xs.length : Int) := by omega
      cases he : eqAtS xs x k
      · have hE := he
        unfold eqAtS at hE
        go_wp2
        go_roundw
        case rel => exact ⟨k + 1, by omega, by go_num, fun j hj => by (by_cases e : j = k; (rw [e]; exact he); exact HA.out j (by omega)), trivial⟩
        case measure => simp [intOf]; omega
      · have HF := Lib.hid (show ixS xs x = k from ixN_hit hlt he HA.out)
        have hE := he
        unfold eqAtS at hE
        go_wp2
        go_ret
        exact ⟨retI HF.out.symm, rfl⟩
    · obtain rfl : k = xs.length := by omega
      have HF := Lib.hid (show ixS xs x = -1 from ixN_none HA.out)
      go_wp2
      go_ret
      exact ⟨retI HF.out.symm, rfl⟩

/-! ### Numbers that are found -/
/-- An index and true, or 0 and false. -/
def numI (ok : Bool) (i : Int) : Int := if ok = true ∧ 0 ≤ i then i else 0
def numB (ok : Bool) (i : Int) : Bool := decide (ok = true ∧ 0 ≤ i)
theorem num_yes {i : Int} (h : 0 ≤ i) : numI true i = i ∧ numB true i = true := by simp [numI, numB, h]
theorem num_no {ok : Bool} {i : Int} (h : ok = false ∨ i < 0) : numI ok i = 0 ∧ numB ok i = false := by
  have : ¬ (ok = true ∧ 0 ≤ i) := by rintro ⟨rfl, h1⟩; rcases h with h | h <;> first | cases h | omega
  unfold numI numB
  rw [if_neg this]
  exact ⟨rfl, decide_eq_false this⟩
theorem retT {a a' : Int} {b b' : Bool} (h1 : a = a') (h2 : b = b') : Ending.returned (.tuple #[.int .i64 a, .bool b]) = .returned (.tuple #[.int .i64 a', .bool b']) := by rw [h1, h2]

/-- A valid network and a stop of it. -/
def stopB (x : NetD) (s : Int) : Bool := netB x && inB s 0 (x.stops.length - 1)
theorem stopB_no {x : NetD} {s : Int} (h : netB x = false ∨ inB s 0 (x.stops.length - 1) = false) : stopB x s = false := by
  unfold stopB
  rcases h with h | h <;> simp [h]
theorem stopB_yes {x : NetD} {s : Int} (h : netB x = true) (h' : inB s 0 (x.stops.length - 1) = true) : stopB x s = true := by
  unfold stopB
  simp [h, h']

end Go.Proofs.Ytemhcobjhpifpaa
