/- ReverseLine: both contracts. -/
import Derived.Test.YtambgommeannnaaNoq
namespace Go.Proofs.Ytambgommeannnaa
open Go.ChangeShapes Go.WideShapes Go.ChangeAt Go.RowKit Go.PlainAid
set_option linter.unusedVariables false
set_option linter.unusedSimpArgs false

theorem specReverseLine_any (x : NetD) (i : Int) (nm : ByteArray) (b o ca bl ol cl : Nat) (w : World) (hA : StrsIn w (Zone.below w.heap.size) (some ⟨b, o, none⟩) x.stops) (hL : LinesIn w (Zone.below w.heap.size) (some ⟨bl, ol, none⟩) x.lines) (hx : Fits x) (hnm : nm.size ≤ 1048576) :
    Calls Try.prog 37 #[.agg #[.slice (some ⟨b, o, none⟩) x.stops.length ca, .slice (some ⟨bl, ol, none⟩) x.lines.length cl], .int .i64 i, .string nm] w (RetNet (revR x i nm).1 (revR x i nm).2 w) := by
  cases hb : netB x
  · exact specReverseLine_no x i nm _ _ ca cl w hA hL hx (.inl hb)
  · cases hi : inB i 0 (x.lines.length - 1)
    · exact specReverseLine_no x i nm _ _ ca cl w hA hL hx (.inr hi)
    · have h1 := inB_iff.mp hi
      have hl := (netX_of hb).l
      obtain ⟨k, rfl⟩ : ∃ k : Nat, i = (k : Int) := ⟨i.toNat, by omega⟩
      exact specReverseLine_go x k nm b o ca bl ol cl w hA hL hx hb (by omega) hnm
theorem implReverseLine_any (x : NetD) (i : Int) (nm : ByteArray) (b o ca bl ol cl : Nat) (w : World) (hA : StrsIn w (Zone.below w.heap.size) (some ⟨b, o, none⟩) x.stops) (hL : LinesIn w (Zone.below w.heap.size) (some ⟨bl, ol, none⟩) x.lines) (hx : Fits x) (hnm : nm.size ≤ 1048576) :
    Calls Try.prog 39 #[.agg #[.slice (some ⟨b, o, none⟩) x.stops.length ca, .slice (some ⟨bl, ol, none⟩) x.lines.length cl], .int .i64 i, .string nm] w (RetNet (revR x i nm).1 (revR x i nm).2 w) := by
  cases hb : netB x
  · exact implReverseLine_no x i nm _ _ ca cl w hA hL hx (.inl hb)
  · cases hi : inB i 0 (x.lines.length - 1)
    · exact implReverseLine_no x i nm _ _ ca cl w hA hL hx (.inr hi)
    · have h1 := inB_iff.mp hi
      have hl := (netX_of hb).l
      obtain ⟨k, rfl⟩ : ∃ k : Nat, i = (k : Int) := ⟨i.toNat, by omega⟩
      exact implReverseLine_go x k nm b o ca bl ol cl w hA hL hx hb (by omega) hnm
end Go.Proofs.Ytambgommeannnaa
