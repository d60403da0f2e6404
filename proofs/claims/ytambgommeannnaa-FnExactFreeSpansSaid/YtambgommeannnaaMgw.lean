/- mergeSpans and what is made of it. -/
import Derived.Test.YtambgommeannnaaMgs
import Derived.Test.YtambgommeannnaaLnA
import Derived.BigQuiet
import Derived.StillTailTactics
import Derived.IntWalk
namespace Go.Proofs.Ytambgommeannnaa
open Go.ChangeShapes Go.WideShapes Go.ChangeAt Go.RowKit Go.PlainAid
set_option linter.unusedVariables false
set_option linter.unusedSimpArgs false

theorem OwnE.sub {α : Type} {e : TypeId} {m : Nat} {enc : α → List Value} {w : World} {B B' : Nat} {v : Value} {xs : List α} (h : OwnE e m enc w B v xs) (hB : B' ≤ B) : OwnE e m enc w B' v xs := by
  refine ⟨h.1, ?_⟩
  rcases h.2 with h2 | ⟨g, cap, cur, hv, hg, r⟩
  · exact Or.inl h2
  · exact Or.inr ⟨g, cap, cur, hv, Nat.le_trans hB hg, r⟩
set_option maxRecDepth 100000 in
set_option maxHeartbeats 4000000 in
theorem mergeSpans_any (b o c : Nat) (xs : List I2) (w : World) (h : I2sIn w (Zone.below w.heap.size) (some ⟨b, o, none⟩) xs) (hv : SpansOk xs) :
    Calls Try.prog 124 #[.slice (some ⟨b, o, none⟩) xs.length c] w fun e w' => ∃ v, e = .returned v ∧ OwnS w' w.heap.size v (busyL xs) ∧ Below w.heap.size w w' := by
  have HX := Lib.hid h
  have HV := Lib.hid hv
  have hl := hv.1
  clear h hv
  go_enter Try.func124, Try.ntmps124
  go_wp2_with fail
  refine (cloneSpans_any _ _ _ xs _ HX.out (by omega)).mono ?_
  rintro e w1 ⟨v, rfl, ho, hb1⟩
  have HO1 := Lib.hid ho
  have HB1 := Lib.hid hb1
  have hz1 := hb1.size
  clear ho hb1
  go_wp2_with fail
  refine (sortSpans_any w.heap.size v xs _ HO1.out hz1 (by omega)).mono ?_
  rintro e w2 ⟨rfl, ys, A, cc, rfl, hly, hm, ha, hi, hb2⟩
  have HM := Lib.hid hm
  have HA := Lib.hid ha
  have HI := Lib.hid (hi.to_below (Nat.le_refl _))
  have HB2 := Lib.hid (HB1.out.trans hb2)
  have hl2 : ys.length ≤ 20 := by omega
  have HLY := Lib.hid hly
  have hz2 := hb2.size
  clear hm ha hi hb2 HO1 hly
  go_wp2_with fail
  go_loopw [4, 6, 7, 14] (fun out _ _ j wr => ∃ k : Nat, k ≤ ys.length ∧ j = .int .i64 k ∧ OwnS wr w2.heap.size out (mrgU ys k) ∧ Below w2.heap.size w2 wr) (fun _ _ _ j _ => ys.length - (intOf j).toNat)
  case atStart => exact ⟨0, Nat.zero_le _, rfl, OwnE.nil, Below.refl _ _⟩
  case round =>
    obtain ⟨k, hk, rfl, ho, hb⟩ := hrel
    have HO := Lib.hid ho
    have HB := Lib.hid hb
    have hz := hb.size
    have hml := mrgU_len ys k
    clear ho hb
    by_cases hlt : k < ys.length
    · obtain ⟨b1, o1, rfl, hbl, d0, d1⟩ := I2sIn.at HI.out hlt
      have e0 : wr.cell? ⟨b1, o1 + k * 2, none⟩ = some (.int .i64 (nth2 ys k).a) := (HB.out.cell (p := ⟨b1, _, none⟩) hbl).trans d0
      have e1 : wr.cell? ⟨b1, o1 + k * 2 + 1, none⟩ = some (.int .i64 (nth2 ys k).b) := (HB.out.cell (p := ⟨b1, _, none⟩) hbl).trans d1
      have hik : (k : Int) < ys.length := by omega
      have HS : Hid (mrgU ys (k + 1) = mrgS (mrgU ys k) (nth2 ys k)) := Lib.hid rfl
      clear d0 d1
      generalize hs : nth2 ys k = s at *
      obtain ⟨sa, sb⟩ := s
      simp only [] at e0 e1
      clear hs
      have W2B : Hid (Below wr.heap.size wr (wr.alloc (.cells #[.int .i64 sa, .int .i64 sb] 82))) := Lib.hid (by go_grown)
      have W2A : Hid ((wr.alloc (.cells #[.int .i64 sa, .int .i64 sb] 82)).cell? ⟨wr.heap.size, 0, none⟩ = some (.int .i64 sa)) := Lib.hid (by go_simp)
      have W2C : Hid ((wr.alloc (.cells #[.int .i64 sa, .int .i64 sb] 82)).cell? ⟨wr.heap.size, 1, none⟩ = some (.int .i64 sb)) := Lib.hid (by go_simp)
      have hzb : wr.heap.size < (wr.alloc (.cells #[.int .i64 sa, .int .i64 sb] 82)).heap.size := by simp
      have HO2 := Lib.hid (HO.out.alloc (.cells #[.int .i64 sa, .int .i64 sb] 82))
      have HB3 := Lib.hid (HB.out.trans (W2B.out.mono hz))
      by_cases he : sa = sb
      · have hq : ((sa : Int) == sb) = true := by simp [he]
        have HE : Hid ((⟨sa, sb⟩ : I2).a = (⟨sa, sb⟩ : I2).b) := Lib.hid he
        clear he
        go_wp2_with fail
        go_roundw
        case rel => exact ⟨k + 1, by omega, by go_num, by rw [HS.out, mrgS_skip HE.out]; exact HO2.out, HB3.out⟩
        case measure => simp [intOf]; omega
      · have hq : ((sa : Int) == sb) = false := by simp [he]
        have HE : Hid (¬ (⟨sa, sb⟩ : I2).a = (⟨sa, sb⟩ : I2).b) := Lib.hid he
        clear he
        rcases snocCases (mrgU ys k) with hnil | ⟨zs, l, hcons⟩
        · rw [hnil] at HO HO2 HS
          obtain ⟨A', c', rfl, _, _, _⟩ := HO.out.i2s
          have HN : Hid (mrgS [] ⟨sa, sb⟩ = [⟨sa, sb⟩]) := Lib.hid (mrgS_nil HE.out)
          rw [HN.out] at HS
          have hll : ([] : List I2).length ≤ 16777216 := by simp
          clear hnil hml
          go_wp2_with fail
          go_quiet (fail)
          go_wp2_with (at_builtin; refine wp_appS rfl _ _ rfl w2.heap.size _ _ ⟨sa, sb⟩ _ (HO2.out.drewN _) rfl _ rfl (by simp) hll (by simp; omega) ?_; intro v' w' ho' hb'; have HO' := Lib.hid ho'; have HB' := Lib.hid ((bel_drewN HB3.out _).trans hb'); clear ho' hb')
          go_roundw
          case rel => exact ⟨k + 1, by omega, by go_num, by rw [HS.out]; exact HO'.out, HB'.out⟩
          case measure => simp [intOf]; omega
        · rw [hcons] at HO HO2 HS hml
          obtain ⟨la, lb⟩ := l
          obtain ⟨g, cap, rfl, hBg, hgl, hn1, hn2, hfz, hce, hset⟩ := HO2.out.last (fun _ => rfl)
          have HSET := Lib.hid hset
          have HFZ := Lib.hid hfz
          have hzl : zs.length ≤ 20 := by simp at hml; omega
          obtain ⟨n, hn⟩ : ∃ n, n = zs.length := ⟨_, rfl⟩
          rw [← hn] at hzl hn1 hce HSET HO2 ⊢
          have HNN := Lib.hid hn
          have c1 : (wr.alloc (.cells #[.int .i64 sa, .int .i64 sb] 82)).cell? ⟨g, n * 2 + 1, none⟩ = some (.int .i64 lb) := hce 1 (by omega)
          have f0 := W2A.out
          have f1 := W2C.out
          have hfz1 := hfz (n * 2 + 1)
          have hni : (n : Int) < (n : Int) + 1 := by omega
          clear hn hce hset hfz hcons hml
          by_cases hle : sa ≤ lb
          · have HN : Hid (mrgS (zs ++ [⟨la, lb⟩]) ⟨sa, sb⟩ = zs ++ [⟨la, max lb sb⟩]) := Lib.hid (mrgS_yes HE.out hle)
            rw [HN.out] at HS
            go_wp2_with fail
            generalize (wr.alloc (.cells #[.int .i64 sa, .int .i64 sb] 82)) = wb at *
            go_quiet (fail)
            go_wp2_with fail
            have HO3 := Lib.hid (HO2.out.drewN nq)
            have HB4 := Lib.hid (bel_drewN HB3.out nq)
            have g0 : (wb.drewN nq).cell? ⟨wr.heap.size, 0, none⟩ = some (.int .i64 sa) := f0
            have g1 : (wb.drewN nq).cell? ⟨wr.heap.size, 1, none⟩ = some (.int .i64 sb) := f1
            have g2 : (wb.drewN nq).cell? ⟨g, n * 2 + 1, none⟩ = some (.int .i64 lb) := c1
            have g3 : (wb.drewN nq).frozen? ⟨g, n * 2 + 1, none⟩ = false := hfz1
            clear f0 f1 c1 hfz1 HSET HFZ HO2
            generalize wb.drewN nq = w5 at *
            have hgb : w2.heap.size ≤ g := hBg
            have hwr : IntKind.i64.wrap (n : Int) = n := IntWalk.i64_in _ (by omega)
            go_still_tail 12, (by kernel_rfl)
            clear hwr
            have HO4 := Lib.hid ((HO3.out.drewN 1).put (fun _ => rfl) 1 (.int .i64 (max lb sb)) ⟨la, max lb sb⟩ rfl HNN.out)
            have HB5 := Lib.hid (HB4.out.drew.setCell (p := ⟨g, n * 2 + 1, none⟩) hgb (.int .i64 (max lb sb)))
            go_wp2_with fail
            go_roundw
            case rel => exact ⟨k + 1, by omega, by go_num, by rw [HS.out]; exact HO4.out, HB5.out⟩
            case measure => simp [intOf]; omega
          · have HN : Hid (mrgS (zs ++ [⟨la, lb⟩]) ⟨sa, sb⟩ = zs ++ [⟨la, lb⟩] ++ [⟨sa, sb⟩]) := Lib.hid (mrgS_no HE.out hle)
            rw [HN.out] at HS
            have hll : (zs ++ [(⟨la, lb⟩ : I2)]).length ≤ 16777216 := by rw [List.length_append, ← HNN.out]; simp; omega
            go_wp2_with fail
            generalize (wr.alloc (.cells #[.int .i64 sa, .int .i64 sb] 82)) = wb at *
            go_quiet (fail)
            clear c1 hfz1
            go_wp2_with (at_builtin; refine wp_appS rfl _ _ rfl w2.heap.size _ _ ⟨sa, sb⟩ _ (HO2.out.drewN _) rfl _ rfl (by simp) hll (by simp; omega) ?_; intro v' w' ho' hb'; have HO' := Lib.hid ho'; have HB' := Lib.hid ((bel_drewN HB3.out _).trans hb'); clear ho' hb')
            go_roundw
            case rel => exact ⟨k + 1, by omega, by go_num, by rw [HS.out]; exact HO'.out, HB'.out⟩
            case measure => simp [intOf]; omega
    · obtain rfl : k = ys.length := by omega
      have HE : Hid (mrgU ys ys.length = busyL xs) := Lib.hid (busyL_eq HV.out HM.out HA.out)
      rw [HE.out] at HO
      go_wp2_with fail
      go_ret
      exact ⟨_, rfl, OwnE.sub HO.out (by omega), HB2.out.trans (HB.out.mono (by omega))⟩
end Go.Proofs.Ytambgommeannnaa
