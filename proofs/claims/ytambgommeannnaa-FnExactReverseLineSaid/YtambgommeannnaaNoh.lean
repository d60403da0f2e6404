/- A list from behind: the reference's. -/
import Derived.Test.YtambgommeannnaaNog
namespace Go.Proofs.Ytambgommeannnaa
open Go.ChangeShapes Go.WideShapes Go.ChangeAt Go.RowKit Go.PlainAid
set_option linter.unusedVariables false
set_option linter.unusedSimpArgs false

def bkL (xs : List Int) (k : Nat) : List Int := (xs.drop k).reverse
theorem bkL_end (xs : List Int) : bkL xs xs.length = [] := by unfold bkL; simp
theorem bkL_zero (xs : List Int) : bkL xs 0 = xs.reverse := rfl
theorem bkL_length (xs : List Int) (k : Nat) : (bkL xs k).length = xs.length - k := by unfold bkL; simp
theorem bkL_step {xs : List Int} {k : Nat} (hk : k < xs.length) : bkL xs (k + 1) ++ [nth xs k] = bkL xs k := by
  unfold bkL nth
  rw [List.drop_eq_getElem_cons hk, List.reverse_cons, List.getD_eq_getElem?_getD, List.getElem?_eq_getElem hk]
  rfl
set_option maxRecDepth 100000 in
set_option maxHeartbeats 1000000 in
theorem l2Back_any (b o c : Nat) (xs : List Int) (w : World) (h : IntsIn w (Zone.below w.heap.size) (some ⟨b, o, none⟩) xs) (h0 : 0 < xs.length) (hn : xs.length ≤ 1048576) :
    Calls Try.prog 107 #[.slice (some ⟨b, o, none⟩) xs.length c] w fun e w' => ∃ g cap, e = .returned (.slice (some ⟨g, 0, none⟩) xs.length cap) ∧ OwnI w' w.heap.size (.slice (some ⟨g, 0, none⟩) xs.length cap) xs.reverse ∧ Below w.heap.size w w' := by
  have hcc : ∀ j, j < xs.length → b < w.heap.size ∧ w.cell? ⟨b, o + j, none⟩ = some (.int .i64 (nth xs j)) := by
    intro j hj
    obtain ⟨b', o', e, hz, _, hx⟩ := h (by omega)
    simp at e
    obtain ⟨rfl, rfl⟩ := e
    exact ⟨hz, hx j hj⟩
  have HO : Hid (OwnI (w.alloc (.cells #[] 3)) w.heap.size (.slice (some ⟨w.heap.size, 0, none⟩) 0 0) (bkL xs xs.length)) := Lib.hid (by rw [bkL_end]; simpa using OwnE.empty (e := 3) (m := 1) (enc := encI) (w := w) (Nat.le_refl _))
  have HB0 : Hid (Below w.heap.size w (w.alloc (.cells #[] 3))) := Lib.hid ((Below.refl _ _).alloc (Nat.le_refl _) _)
  have HCC := Lib.hid hcc
  clear h hcc
  go_enter Try.func107, Try.ntmps107
  go_wp2_with fail
  go_loopw [3, 4] (fun v i wr => ∃ k : Nat, k ≤ xs.length ∧ i = .int .i64 ((k : Int) - 1) ∧ OwnI wr w.heap.size v (bkL xs k) ∧ Below w.heap.size w wr) (fun _ i _ => (intOf i + 1).toNat)
  case atStart => exact ⟨xs.length, Nat.le_refl _, by first | rfl | go_num, HO.out, HB0.out⟩
  case round =>
    obtain ⟨k, hk, rfl, ho, hb⟩ := hrel
    have HOV := Lib.hid ho
    have HB := Lib.hid hb
    have hz := hb.size
    rcases Nat.eq_zero_or_pos k with rfl | hk0
    · obtain ⟨g, cap, rfl⟩ := own_some ho (by rw [bkL_length]; omega)
      clear ho hb
      rw [show (((0 : Nat) : Int) - 1) = -1 by rfl]
      go_wp2_with fail
      go_ret
      refine ⟨g, cap, by rw [bkL_length]; rfl, ?_, HB.out⟩
      have := HOV.out
      rw [bkL_length, bkL_zero] at this
      exact this
    · obtain ⟨m, rfl⟩ : ∃ m, k = m + 1 := ⟨k - 1, by omega⟩
      obtain ⟨hbl, hq⟩ := HCC.out m (by omega)
      have hck : wr.cell? ⟨b, o + m, none⟩ = some (.int .i64 (nth xs m)) := (hb.cell (p := ⟨b, _, none⟩) hbl).trans hq
      have hm1 : (m : Int) < (xs.length : Int) := by omega
      have hm0 : (0 : Int) ≤ (m : Int) := by omega
      have hll : (bkL xs (m + 1)).length ≤ 16777216 := by rw [bkL_length]; omega
      have HS := Lib.hid (bkL_step (xs := xs) (k := m) (by omega))
      rw [show (((m + 1 : Nat) : Int) - 1) = (m : Int) by omega]
      clear ho hb hq
      go_wp2_with (at_builtin; go_loud (refine wp_appI rfl _ _ rfl w.heap.size _ (bkL xs (m + 1)) (nth xs m) _ HOV.out rfl _ rfl (by simp) hll hz ?_; intro v' w' ho' hb'; rw [HS.out] at ho'; have HO' := Lib.hid ho'; have HB' := Lib.hid (HB.out.trans hb'); clear ho' hb'))
      go_roundw
      case rel => exact ⟨m, by omega, by first | rfl | go_num, HO'.out, HB'.out⟩
      case measure => simp [intOf] <;> omega
end Go.Proofs.Ytambgommeannnaa
