/- SplitString. -/
import Derived.Test.YtpipegdjflniaaaDoorHst
import Derived.Test.YtpipegdjflniaaaDoorSpq
import Derived.Test.YtpipegdjflniaaaDoorShelf
namespace Go.Proofs.YtpipegdjflniaaaDoor
open Go.ChangeShapes Go.WideShapes Go.ChangeAt Go.RowKit Go.PlainAid
set_option linter.unusedVariables false
set_option linter.unusedSimpArgs false

/-- strings.Split at a separator of one byte. -/
theorem split_any (s : ByteArray) (c : UInt8) (m : Int) (w : World) (hs : s.size ≤ 1048576) (hm : w.cell? ⟨0, 0, none⟩ = some (.int .i64 m)) :
    Calls Tryd.prog 34 #[.string s, .string ⟨#[c]⟩] w (RetS1 (splL s c) w) := by
  refine (Tryd.strings_Split s ⟨#[c]⟩ m w (by omega) hm (Nat.le_refl _)).mono ?_
  rintro e w' ⟨rfl, rfl⟩
  rw [spl_split c _ s (Nat.le_refl _), ← spl_len]
  refine ⟨_, _, rfl, fun _ => ⟨w.heap.size, 0, rfl, ⟨Nat.le_refl _, by simp⟩, fun _ j => by simp, fun j hj => ?_⟩, (Below.refl _ _).alloc (Nat.le_refl _) _⟩
  show (w.alloc _).cell? ⟨w.heap.size, 0 + j, none⟩ = some (.string (nthS (splL s c) j))
  rw [Nat.zero_add, World.cell?_alloc_mark, List.getElem?_toArray, List.getElem?_map, List.getElem?_eq_getElem hj]
  unfold nthS
  rw [List.getD_eq_getElem?_getD, List.getElem?_eq_getElem hj]
  rfl
/-- A slice of strings in new memory, and whether it is one. -/
def RetSS (xs : List ByteArray) (b : Bool) (w : World) (e : Ending) (w' : World) : Prop :=
  ∃ A c, e = .returned (.tuple #[.slice A xs.length c, .bool b]) ∧ StrsIn w' (Zone.new w.heap.size w'.heap.size) A xs ∧ Below w.heap.size w w'
/-- The answer of SplitString. -/
def spB (s sep : ByteArray) : Bool := decide (sep.size = 1) && decide (s.size ≤ 4000)
def spX (s sep : ByteArray) : List ByteArray := if spB s sep = true then splL s (sep.data.getD 0 0) else []
theorem spX_no {s sep : ByteArray} (h : spB s sep = false) : spX s sep = [] := by unfold spX; rw [h]; rfl
theorem spX_yes {s : ByteArray} {c : UInt8} (h : spB s ⟨#[c]⟩ = true) : spX s ⟨#[c]⟩ = splL s c := by unfold spX; rw [if_pos h]; rfl
theorem spX_len (s sep : ByteArray) (hs : s.size ≤ 1048576) : (spX s sep).length ≤ 1048576 := by
  cases h : spB s sep
  · rw [spX_no h]; simp
  · unfold spX
    rw [if_pos h]
    have := spl_le s (sep.data.getD 0 0)
    unfold spB at h
    simp only [Bool.and_eq_true, decide_eq_true_eq] at h
    omega
theorem size_one {s : ByteArray} (h : s.size = 1) : ∃ c, s = ⟨#[c]⟩ := by
  obtain ⟨⟨l⟩⟩ := s
  match l, h with
  | [c], _ => exact ⟨c, rfl⟩
end Go.Proofs.YtpipegdjflniaaaDoor
