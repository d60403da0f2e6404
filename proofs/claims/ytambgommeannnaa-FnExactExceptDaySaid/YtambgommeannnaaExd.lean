/- impl.withDay. -/
import Derived.Test.YtambgommeannnaaInd
import Derived.Shelf.SlicesG.SearchI
import Derived.Shelf.SlicesE.Clone
namespace Go.Proofs.Ytambgommeannnaa
open Go.ChangeShapes Go.WideShapes Go.ChangeAt Go.RowKit Go.PlainAid
set_option linter.unusedVariables false
set_option linter.unusedSimpArgs false

theorem search_any (b o c : Nat) (xs : List Int) (d : Int) (hb : Bool) (p : Nat) (w : World) (h : IntsIn w (Zone.below w.heap.size) (some ⟨b, o, none⟩) xs) (hu : Up xs) (hn : xs.length ≤ 1048576) (hh : xs.contains d = hb) (hp : posU xs d = p) :
    Calls Try.prog 151 #[.slice (some ⟨b, o, none⟩) xs.length c, .int .i64 d] w fun e w' => e = .returned (.tuple #[.int .i64 (p : Int), .bool hb]) ∧ ∃ q, w' = w.drewN q := by
  have hc := AnyG.slices_BinarySearch_int Try.laysSearchInt b o xs.length c xs d w (Nat.le_refl _) (by omega) (fun j hj => by
    obtain ⟨b', o', e, _, _, hc⟩ := h (by omega)
    simp only [Option.some.injEq, Addr.mk.injEq, and_true] at e
    obtain ⟨rfl, rfl⟩ := e
    exact hc j hj) (by rw [List.take_length]; exact hu.imp (fun h => by omega))
  change Calls Try.prog 151 _ _ _ at hc
  rw [List.take_length, hh] at hc
  rw [← hp]
  exact hc
theorem cloneI_any (b o c : Nat) (xs : List Int) (w : World) (h : IntsIn w (Zone.below w.heap.size) (some ⟨b, o, none⟩) xs) (hn : xs.length ≤ 1048576) :
    Calls Try.prog 152 #[.slice (some ⟨b, o, none⟩) xs.length c] w fun e w' => ∃ g cap, e = .returned (.slice (some ⟨g, 0, none⟩) xs.length cap) ∧ OwnI w' w.heap.size (.slice (some ⟨g, 0, none⟩) xs.length cap) xs ∧ Below w.heap.size w w' := by
  obtain ⟨i0, hi, hz0, hz1, hz2⟩ := info_parts Try.infoI
  have hc := AnyE.slices_Clone Try.laysCloneInt i0 _ 1 8 hi hz0 hz1 hz2 rfl (by omega) Try.sizeOf3 b o xs.length c (xs.flatMap encI) w (by rw [flat_int_len, Nat.mul_one]) (by unfold maxLen; omega) (by omega)
    (fun j u hj => by
      obtain ⟨hl, rfl⟩ := flat_int _ _ _ hj
      obtain ⟨b', o', e, _, _, hc⟩ := h (by omega)
      simp only [Option.some.injEq, Addr.mk.injEq, and_true] at e
      obtain ⟨rfl, rfl⟩ := e
      exact hc j hl)
    (fun u hu => by
      obtain ⟨y, _, hy⟩ := List.mem_flatMap.1 hu
      simp [encI] at hy
      subst hy
      rfl)
  change Calls Try.prog 152 _ _ _ at hc
  refine hc.mono ?_
  rintro e w' ⟨v, rfl, ho, hne, hb⟩
  have ho' := ho
  obtain ⟨_, hq | ⟨g, cap, cur, hv, _⟩⟩ := ho'
  · exact absurd hq.1 hne
  · subst hv
    exact ⟨g, cap, rfl, ho, hb⟩
/-- A list in new memory, in a block of its own. -/
def RetDay (ys : List Int) (w : World) (e : Ending) (w' : World) : Prop :=
  ∃ A n c a, e = .returned (.slice A n c) ∧ n = ys.length ∧ IntsIn w' (Zone.only a) A ys ∧ (0 < ys.length → w.heap.size ≤ a ∧ a < w'.heap.size) ∧ Below w.heap.size w w'
theorem InsR.day {B : Nat} {ys zs : List Int} {W w w' : World} {e : Ending} (h : InsR B ys W e w') (he : ys = zs) (hB : w.heap.size ≤ B) (hb : Below w.heap.size w W) : RetDay zs w e w' := by
  subst he
  obtain ⟨a, n, c, h1, h2, h3, h4, h5, h6⟩ := h
  exact ⟨_, n, c, a, h1, h2, h3, fun _ => ⟨by omega, h5⟩, hb.trans (h6.mono hB)⟩
theorem own_day {B g cap : Nat} {xs zs : List Int} {w w' : World} (h : OwnI w' B (.slice (some ⟨g, 0, none⟩) xs.length cap) xs) (he : xs = zs) (hB : w.heap.size ≤ B) (hb : Below w.heap.size w w') : RetDay zs w (.returned (.slice (some ⟨g, 0, none⟩) xs.length cap)) w' := by
  subst he
  obtain ⟨a, h1, h2⟩ := own_only h rfl
  exact ⟨_, _, _, a, rfl, rfl, h1, fun h0 => ⟨by have := h2 h0; omega, (h2 h0).2.1⟩, hb⟩
set_option maxRecDepth 100000 in
set_option maxHeartbeats 2000000 in
theorem withDay_any (b o c : Nat) (xs : List Int) (d : Int) (inn : Bool) (w : World) (h : IntsIn w (Zone.below w.heap.size) (some ⟨b, o, none⟩) xs) (hu : Up xs) (hn : xs.length ≤ 1048576) :
    Calls Try.prog 102 #[.slice (some ⟨b, o, none⟩) xs.length c, .int .i64 d, .bool inn] w (RetDay (wdL xs d inn) w) := by
  have HX := Lib.hid h
  have HU := Lib.hid hu
  obtain ⟨p, hp⟩ : ∃ p, posU xs d = p := ⟨_, rfl⟩
  have hpl : p ≤ xs.length := by rw [← hp]; exact posU_le xs d
  have HP := Lib.hid hp
  clear h hu hp
  cases hh : xs.contains d
  all_goals
    have HH := Lib.hid hh
    clear hh
    have hs := search_any b o c xs d _ p w HX.out HU.out hn HH.out HP.out
    have HS := Lib.hid hs
    clear hs
    skip
  · cases inn
    · have HE : Hid (xs = wdL xs d false) := Lib.hid (by unfold wdL; rw [if_neg (by simp)]; exact (woL_not HH.out).symm)
      go_enter Try.func102, Try.ntmps102
      go_wp2_with fail
      refine HS.out.mono ?_
      rintro e w1 ⟨rfl, q, rfl⟩
      have HX1 : Hid (IntsIn (w.drewN q) (Zone.below (w.drewN q).heap.size) (some ⟨b, o, none⟩) xs) := Lib.hid (HX.out.call (bel_drewN (Below.refl _ _) q))
      go_wp2_with fail
      refine (cloneI_any b o c xs _ HX1.out hn).mono ?_
      rintro e w2 ⟨g, cap, rfl, ho, hb⟩
      have HO := Lib.hid ho
      have HB := Lib.hid ((bel_drewN (Below.refl w.heap.size w) q).trans hb)
      clear ho hb
      go_wp2_with fail
      go_ret
      exact own_day HO.out HE.out (Nat.le_refl _) HB.out
    · have HE : Hid (insL xs d p = wdL xs d true) := Lib.hid (by unfold wdL insL; rw [if_pos rfl, wdL_put HU.out HH.out, HP.out])
      go_enter Try.func102, Try.ntmps102
      go_wp2_with fail
      refine HS.out.mono ?_
      rintro e w1 ⟨rfl, q, rfl⟩
      have HX1 : Hid (IntsIn (w.drewN q) (Zone.below (w.drewN q).heap.size) (some ⟨b, o, none⟩) xs) := Lib.hid (HX.out.call (bel_drewN (Below.refl _ _) q))
      go_wp2_with fail
      refine (cloneI_any b o c xs _ HX1.out hn).mono ?_
      rintro e w2 ⟨g, cap, rfl, ho, hb⟩
      have HO := Lib.hid ho
      have HB := Lib.hid ((bel_drewN (Below.refl w.heap.size w) q).trans hb)
      have hz2 : w.heap.size ≤ w2.heap.size := hb.size
      clear ho hb
      go_wp2_with fail
      refine (ins_any w.heap.size g cap p xs d w2 HO.out hpl hn hz2).mono ?_
      rintro e w3 h3
      have hr := h3.day HE.out (Nat.le_refl _) (HB.out.alloc hz2 _)
      obtain ⟨A, n, c3, a, rfl, hn3, hI3, ha3, hb3⟩ := hr
      have HR : Hid (RetDay (wdL xs d true) w (.returned (.slice A n c3)) w3) := Lib.hid ⟨A, n, c3, a, rfl, hn3, hI3, ha3, hb3⟩
      clear h3 hn3 hI3 ha3 hb3
      go_wp2_with fail
      go_ret
      exact HR.out
  · cases inn
    · have HA := Lib.hid (has_at HU.out HH.out)
      have hpl2 : p < xs.length := by have := HA.out.1; rw [HP.out] at this; exact this
      have HE : Hid (xs.take p ++ xs.drop (p + 1) = wdL xs d false) := Lib.hid (by unfold wdL; rw [if_neg (by simp)]; have := HA.out.2; rw [HP.out] at this; exact (woL_at HU.out hpl2 this).symm)
      go_enter Try.func102, Try.ntmps102
      go_wp2_with fail
      refine HS.out.mono ?_
      rintro e w1 ⟨rfl, q, rfl⟩
      have HX1 : Hid (IntsIn (w.drewN q) (Zone.below (w.drewN q).heap.size) (some ⟨b, o, none⟩) xs) := Lib.hid (HX.out.call (bel_drewN (Below.refl _ _) q))
      go_wp2_with fail
      refine (cloneI_any b o c xs _ HX1.out hn).mono ?_
      rintro e w2 ⟨g, cap, rfl, ho, hb⟩
      have HO := Lib.hid ho
      have HB := Lib.hid ((bel_drewN (Below.refl w.heap.size w) q).trans hb)
      clear ho hb
      go_wp2_with fail
      refine (del_any w.heap.size g cap p xs w2 HO.out hpl2 hn).mono ?_
      rintro e w3 h3
      have hr := h3.day HE.out (Nat.le_refl _) HB.out
      obtain ⟨A, n, c3, a, rfl, hn3, hI3, ha3, hb3⟩ := hr
      have HR : Hid (RetDay (wdL xs d false) w (.returned (.slice A n c3)) w3) := Lib.hid ⟨A, n, c3, a, rfl, hn3, hI3, ha3, hb3⟩
      clear h3 hn3 hI3 ha3 hb3
      go_wp2_with fail
      go_ret
      exact HR.out
    · have HE : Hid (xs = wdL xs d true) := Lib.hid (by unfold wdL; rw [if_pos rfl]; exact (put_same HU.out HH.out).symm)
      go_enter Try.func102, Try.ntmps102
      go_wp2_with fail
      refine HS.out.mono ?_
      rintro e w1 ⟨rfl, q, rfl⟩
      have HX1 : Hid (IntsIn (w.drewN q) (Zone.below (w.drewN q).heap.size) (some ⟨b, o, none⟩) xs) := Lib.hid (HX.out.call (bel_drewN (Below.refl _ _) q))
      go_wp2_with fail
      refine (cloneI_any b o c xs _ HX1.out hn).mono ?_
      rintro e w2 ⟨g, cap, rfl, ho, hb⟩
      have HO := Lib.hid ho
      have HB := Lib.hid ((bel_drewN (Below.refl w.heap.size w) q).trans hb)
      clear ho hb
      go_wp2_with fail
      go_ret
      exact own_day HO.out HE.out (Nat.le_refl _) HB.out
end Go.Proofs.Ytambgommeannnaa
