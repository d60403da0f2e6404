/- Rides: the reference's rounds. -/
import Derived.Test.YtbneigkgdjcnjaaRda
import Derived.Test.YtbneigkgdjcnjaaArr
import Derived.Deep.LoopGhost
namespace Go.Proofs.Ytbneigkgdjcnjaa
open Go.ChangeShapes Go.WideShapes Go.ChangeAt Go.RowKit Go.PlainAid
set_option linter.unusedVariables false

/-- The stops of a line, in memory. -/
theorem LinesIn.stopsAt {w : World} {B : Nat} {L : Option Addr} {xs : List LineD} (h : LinesIn w (Zone.below B) L xs) (hn : 0 < xs.length) :
    ∃ bl ol, L = some ⟨bl, ol, none⟩ ∧ bl < B ∧ ∀ i, i < xs.length → 0 < (nthL xs i).stops.length → ∃ bs os cs R cr, bs < B ∧ (nthL xs i).stops.length ≤ cs ∧ cs ≤ 9223372036854775807 ∧ w.cell? ⟨bl, ol + i * 3, none⟩ = some (.string (nthL xs i).name) ∧ w.cell? ⟨bl, ol + i * 3 + 1, none⟩ = some (.slice (some ⟨bs, os, none⟩) (nthL xs i).stops.length cs) ∧
      w.cell? ⟨bl, ol + i * 3 + 2, none⟩ = some (.slice R (nthL xs i).runs.length cr) ∧ ∀ k, k < (nthL xs i).stops.length → w.cell? ⟨bs, os + k, none⟩ = some (.int .i64 (nth (nthL xs i).stops k)) := by
  obtain ⟨bl, ol, rfl, hb, _, hc⟩ := h hn
  refine ⟨bl, ol, rfl, hb, fun i hi hp => ?_⟩
  obtain ⟨S, cs, R, cr, h0, h1, h2, h3, h4, h5, h6⟩ := hc i hi
  obtain ⟨bs, os, rfl, hbs, _, hs⟩ := h3 hp
  exact ⟨bs, os, cs, R, cr, hbs.1, h5.1, h5.2, h0, h1, h2, hs⟩

/-- The reference's flag. -/
def OnAt (x : NetD) (f r i k : Nat) (b : Bool) : Prop := b = true ↔ onP x f r i k
theorem onAt_yes {x : NetD} {f r i k : Nat} (h : onP x f r i k) : OnAt x f r i k true := ⟨fun _ => h, fun _ => rfl⟩
theorem onAt_no {x : NetD} {f r i k : Nat} (h : ¬ onP x f r i k) : OnAt x f r i k false := ⟨fun g => (by cases g), fun g => absurd g h⟩
theorem OnAt.yes {x : NetD} {f r i k : Nat} (h : OnAt x f r i k true) : onP x f r i k := h.1 rfl
theorem OnAt.no {x : NetD} {f r i k : Nat} (h : OnAt x f r i k false) : ¬ onP x f r i k := fun g => by have := h.2 g; cases this

theorem ArrI.put {w : World} {g n : Nat} {o : List Int} (h : ArrI w g n (nth o)) (hl : o.length = n) {i : Nat} (hi : i < n) (v : Int) : ArrI (w.setCell ⟨g, i, none⟩ (.int .i64 v)) g n (nth (o.set i v)) :=
  (h.set hi v).congr fun j hj => by
    by_cases e : j = i
    · subst e; simp only [if_true]; rw [nth_set_same _ (by omega)]
    · simp only [if_neg e]; rw [nth_set_ne _ (fun g => e g.symm)]

set_option maxRecDepth 100000 in
set_option maxHeartbeats 4000000 in
theorem l2Rides_any (x : NetD) (A L : Option Addr) (ca cl : Nat) (f : Nat) (w : World) (hA : StrsIn w (Zone.below w.heap.size) A x.stops) (hL : LinesIn w (Zone.below w.heap.size) L x.lines) (hx : Fits x) (hg : netB x = true) (hf : f < x.stops.length) :
    Calls Try.prog 79 #[.agg #[.slice A x.stops.length ca, .slice L x.lines.length cl], .int .i64 (f : Int)] w fun e w' => e = .returned (.slice (some ⟨w.heap.size + 1, 0, none⟩) x.stops.length x.stops.length) ∧ ArrI w' (w.heap.size + 1) x.stops.length (ridF x f x.stops.length) ∧ Below w.heap.size w w' := by
  have HOk := Lib.hid (netB_ok hg)
  have hln : 0 < x.lines.length ∧ x.lines.length ≤ 5 := by have := inB_iff.1 HOk.out.lines; omega
  have hsn : 2 ≤ x.stops.length ∧ x.stops.length ≤ 8 := by have := inB_iff.1 HOk.out.stops; omega
  have HL : Hid (∀ k, k < x.lines.length → LineOk x.stops.length (nthL x.lines k)) := Lib.hid (fun k hk => of_decide_eq_true (HOk.out.each k hk))
  obtain ⟨bl, ol, rfl, hbl, hls⟩ := hL.stopsAt hln.1
  have HLS := Lib.hid hls
  have H0 : Hid (NetBox w (w.alloc (.cells #[.slice A x.stops.length ca, .slice (some ⟨bl, ol, none⟩) x.lines.length cl] 31)) w.heap.size x A ca (some ⟨bl, ol, none⟩) cl) := Lib.hid (NetBox.box hA hL)
  obtain ⟨i0, hi, hz0, hz1, hz2⟩ := info_parts Try.infoI
  have hmk := fun W => run_make_n (P := Try.prog) 39 3 i0 _ Try.underlying39 hi hz0 x.stops.length 1 8 hz1 hz2 (by omega) (by omega) W
  obtain ⟨hl1, hl2⟩ := hln
  obtain ⟨hs1, hs2⟩ := hsn
  clear hA hL hls hg
  go_enter Try.func79, Try.ntmps79
  go_wp2_with fail
  have HB0 : Hid (Below w.heap.size w (w.alloc (.cells #[.slice A x.stops.length ca, .slice (some ⟨bl, ol, none⟩) x.lines.length cl] 31))) := Lib.hid (by go_grown)
  have hz : (w.alloc (.cells #[.slice A x.stops.length ca, .slice (some ⟨bl, ol, none⟩) x.lines.length cl] 31)).heap.size = w.heap.size + 1 := by simp
  have HZ := Lib.hid hz
  clear hz
  -- what is read of the network, in every world
  have HR : ∀ w', Below (w.heap.size + 1) (w.alloc (.cells #[.slice A x.stops.length ca, .slice (some ⟨bl, ol, none⟩) x.lines.length cl] 31)) w' → w'.cell? ⟨w.heap.size, 0, none⟩ = some (.slice A x.stops.length ca) ∧ w'.cell? ⟨w.heap.size, 1, none⟩ = some (.slice (some ⟨bl, ol, none⟩) x.lines.length cl) := fun w' hb => by
    have h := (H0.out.callB hb (Nat.lt_succ_self _)).cells
    exact h
  have HRH := Lib.hid HR
  clear HR
  go_loopw [6] (fun i wr => ∃ k : Nat, k ≤ x.stops.length ∧ i = .int .i64 k ∧ ArrI wr (w.heap.size + 1) x.stops.length (fun j => if j < k then -1 else 0) ∧ Below (w.heap.size + 1) (w.alloc (.cells #[.slice A x.stops.length ca, .slice (some ⟨bl, ol, none⟩) x.lines.length cl] 31)) wr) (fun i _ => x.stops.length - (intOf i).toNat)
  case atStart => exact ⟨0, Nat.zero_le _, rfl, by (have h := (ArrI.made (w.alloc (.cells #[.slice A x.stops.length ca, .slice (some ⟨bl, ol, none⟩) x.lines.length cl] 31)) x.stops.length 3); rw [HZ.out] at h; simpa using h), by have := (Below.refl (w.heap.size + 1) (w.alloc (.cells #[.slice A x.stops.length ca, .slice (some ⟨bl, ol, none⟩) x.lines.length cl] 31))).alloc (by simp) (.cells (madeCells #[.int .i64 0] x.stops.length) 3); simpa using this⟩
  case round =>
    obtain ⟨k, hk, rfl, ha, hb⟩ := hrel
    have HB := Lib.hid hb
    by_cases hlt : k < x.stops.length
    · have hct := ha.cells k hlt
      have hfr := ha.free k
      have HS := Lib.hid ((ha.set hlt (-1)).congr (G := fun j => if j < k + 1 then -1 else 0) (fun j hj => by by_cases e : j = k; (subst e; simp); (simp only [if_neg e]; by_cases e2 : j < k; (rw [if_pos e2, if_pos (by omega)]); (rw [if_neg e2, if_neg (by omega)]))))
      have hik : (k : Int) < (x.stops.length : Int) := by omega
      clear ha hb
      go_wp2_with fail
      go_roundw
      case rel => exact ⟨k + 1, by omega, by go_num, HS.out, HB.out.setCell (by simp) _⟩
      case measure => simp [intOf]; omega
    · obtain rfl : k = x.stops.length := by omega
      have hct := ha.cells f hf
      rw [if_pos hf] at hct
      have hfr := ha.free f
      have HS : Hid (ArrI (wr.setCell ⟨w.heap.size + 1, f, none⟩ (.int .i64 0)) (w.heap.size + 1) x.stops.length (ridF x f 0)) := Lib.hid ((ha.set hf 0).congr (fun j hj => by rw [ridF_zero]; by_cases e : j = f; (rw [if_pos e, if_pos e]); (rw [if_neg e, if_neg e, if_pos hj])))
      have hff : (f : Int) < (x.stops.length : Int) := by omega
      have HB1 := Lib.hid (HB.out.setCell (p := ⟨w.heap.size + 1, f, none⟩) (Nat.le_refl _) (.int .i64 0))
      clear ha hb
      go_wp2_with fail
      generalize wr.setCell ⟨w.heap.size + 1, f, none⟩ (.int .i64 0) = w1 at *
      clear hct hfr
      -- the rounds
      go_loopw [7] (fun i wr => ∃ r : Nat, r ≤ x.stops.length ∧ i = .int .i64 ((r : Int) + 1) ∧ ArrI wr (w.heap.size + 1) x.stops.length (ridF x f r) ∧ Below (w.heap.size + 1) (w.alloc (.cells #[.slice A x.stops.length ca, .slice (some ⟨bl, ol, none⟩) x.lines.length cl] 31)) wr) (fun i _ => x.stops.length + 1 - (intOf i).toNat)
      case atStart => exact ⟨0, Nat.zero_le _, rfl, HS.out, HB1.out⟩
      case round =>
        obtain ⟨r, hr, rfl, ha, hb⟩ := hrel
        have HA := Lib.hid ha
        have HB2 := Lib.hid hb
        clear ha hb
        by_cases hrn : r < x.stops.length
        · have hri : (r : Int) + 1 ≤ (x.stops.length : Int) := by omega
          have HRA := Lib.hid (RoundAt.start (x := x) (f := f) (r := r) (o := listOf x.stops.length (ridF x f r)) (listOf_length _ _) (fun t ht => nth_listOf ht))
          go_wp2_with fail
          obtain ⟨wo, rfl⟩ : ∃ wo : World, wo = wr := ⟨_, rfl⟩
          go_loopw [8] (fun i wi => ∃ k : Nat, k ≤ x.lines.length ∧ i = .int .i64 k ∧ (∃ o, RoundAt x f r k 0 o ∧ ArrI wi (w.heap.size + 1) x.stops.length (nth o)) ∧ Below (w.heap.size + 1) (w.alloc (.cells #[.slice A x.stops.length ca, .slice (some ⟨bl, ol, none⟩) x.lines.length cl] 31)) wi) (fun i _ => x.lines.length - (intOf i).toNat)
          case atStart => exact ⟨0, Nat.zero_le _, rfl, ⟨_, HRA.out, HA.out.congr (fun j hj => (nth_listOf hj).symm)⟩, HB2.out⟩
          case round =>
            obtain ⟨k, hk, rfl, ⟨o, hra, hao⟩, hb⟩ := hrel
            have HRA3 := Lib.hid hra
            have HAO := Lib.hid hao
            have HB3 := Lib.hid hb
            obtain ⟨c0, c1⟩ := HRH.out _ hb
            clear hra hao hb
            by_cases hlt : k < x.lines.length
            · have hik : (k : Int) < (x.lines.length : Int) := by omega
              obtain ⟨q1, q2, q3⟩ := HL.out k hlt
              unfold LineHd at q1
              obtain ⟨hp1, hp2, _⟩ := q1
              obtain ⟨bs, os, cs, R, cr, hbs, hcs1, hcs2, _, hc1, _, hcc⟩ := HLS.out k hlt (by omega)
              have HQ := Lib.hid q2
              -- what is read of the line, in every world
              have HK : Hid (∀ w', Below (w.heap.size + 1) (w.alloc (.cells #[.slice A x.stops.length ca, .slice (some ⟨bl, ol, none⟩) x.lines.length cl] 31)) w' → w'.cell? ⟨bl, ol + k * 3 + 1, none⟩ = some (.slice (some ⟨bs, os, none⟩) (nthL x.lines k).stops.length cs) ∧ ∀ j, j < (nthL x.lines k).stops.length → w'.cell? ⟨bs, os + j, none⟩ = some (.int .i64 (nth (nthL x.lines k).stops j))) := Lib.hid (fun w' hb =>
                ⟨((hb.cell (p := ⟨bl, _, none⟩) (by show bl < _; omega)).trans (HB0.out.cell (p := ⟨bl, _, none⟩) hbl)).trans hc1, fun j hj => ((hb.cell (p := ⟨bs, _, none⟩) (by show bs < _; omega)).trans (HB0.out.cell (p := ⟨bs, _, none⟩) hbs)).trans (hcc j hj)⟩)
              clear q2 q3 hc1 hcc
              go_wp2_with fail
              obtain ⟨wo2, rfl⟩ : ∃ wo2 : World, wo2 = wr := ⟨_, rfl⟩
              clear c0 c1
              go_loopw [9, 10] (fun on i wi => ∃ j : Nat, j ≤ (nthL x.lines k).stops.length ∧ i = .int .i64 j ∧ (∃ b : Bool, on = .bool b ∧ OnAt x f r k j b) ∧ (∃ o, RoundAt x f r k j o ∧ ArrI wi (w.heap.size + 1) x.stops.length (nth o)) ∧ Below (w.heap.size + 1) (w.alloc (.cells #[.slice A x.stops.length ca, .slice (some ⟨bl, ol, none⟩) x.lines.length cl] 31)) wi) (fun _ i _ => (nthL x.lines k).stops.length - (intOf i).toNat)
              case atStart => exact ⟨0, Nat.zero_le _, rfl, ⟨false, rfl, onAt_no (fun h => by (obtain ⟨a, ha, _⟩ := h; omega))⟩, ⟨_, HRA3.out, HAO.out⟩, HB3.out⟩
              case round =>
                obtain ⟨j, hj, rfl, ⟨b, rfl, hbon⟩, ⟨o', hra, hao⟩, hb⟩ := hrel
                have HRA4 := Lib.hid hra
                have HON := Lib.hid hbon
                have HB4 := Lib.hid hb
                have HAO4 := Lib.hid hao
                obtain ⟨c0, c1⟩ := HRH.out _ hb
                obtain ⟨c2, c3⟩ := HK.out _ hb
                clear hra hbon hb
                by_cases hjl : j < (nthL x.lines k).stops.length
                · have hij : (j : Int) < ((nthL x.lines k).stops.length : Int) := by omega
                  have hs := inB_iff.1 (HQ.out j hjl).1
                  obtain ⟨s, hsv⟩ : ∃ s : Nat, nth (nthL x.lines k).stops j = (s : Int) := ⟨(nth (nthL x.lines k).stops j).toNat, by omega⟩
                  have hsl : s < x.stops.length := by omega
                  have hsi : (s : Int) < (x.stops.length : Int) := by omega
                  have c4 := c3 j hjl
                  rw [hsv] at c4
                  have HSV := Lib.hid hsv
                  have hct := hao.cells s hsl
                  have hfr := hao.free s
                  clear c3 hs hsv hao
                  cases b
                  · have HN := Lib.hid HON.out.no
                    have HSk := Lib.hid (HRA4.out.skip HSV.out hsl (.inl HN.out))
                    have HI := Lib.hid (HRA4.out.isOn hsl)
                    by_cases t1 : nth o' s = (r : Int)
                    · have t2 : (nth o' s == (r : Int)) = true := by simp [t1]
                      have t3 : (nth o' s == (r : Int) + 1 - 1) = true := by simp [t1]
                      have HY : Hid (onP x f r k (j + 1)) := Lib.hid ((onP_succ HSV.out hsl).2 (.inr (HI.out.1 t1)))
                      clear t1
                      go_wp2_with fail
                      go_roundw
                      case rel => exact ⟨j + 1, by omega, by go_num, ⟨true, rfl, onAt_yes HY.out⟩, ⟨_, HSk.out, HAO4.out⟩, HB4.out⟩
                      case measure => simp [intOf]; omega
                    · have t2 : (nth o' s == (r : Int)) = false := by simp [t1]
                      have t3 : (nth o' s == (r : Int) + 1 - 1) = false := by simp; omega
                      have HY : Hid (¬ onP x f r k (j + 1)) := Lib.hid (fun h => by
                        rcases (onP_succ HSV.out hsl).1 h with h | h
                        · exact HN.out h
                        · exact t1 (HI.out.2 h))
                      clear t1
                      go_wp2_with fail
                      go_roundw
                      case rel => exact ⟨j + 1, by omega, by go_num, ⟨false, rfl, onAt_no HY.out⟩, ⟨_, HSk.out, HAO4.out⟩, HB4.out⟩
                      case measure => simp [intOf]; omega
                  · have HN := Lib.hid HON.out.yes
                    have HY : Hid (onP x f r k (j + 1)) := Lib.hid ((onP_succ HSV.out hsl).2 (.inl HN.out))
                    by_cases t1 : nth o' s < 0
                    · have HPt := Lib.hid (HRA4.out.put HSV.out hsl HN.out t1)
                      have HAp := Lib.hid (HAO4.out.put HRA4.out.len hsl ((r + 1 : Nat) : Int))
                      go_wp2_with fail
                      go_roundw
                      case rel => exact ⟨j + 1, by omega, by go_num, ⟨true, rfl, onAt_yes HY.out⟩, ⟨_, HPt.out, HAp.out⟩, HB4.out.setCell (Nat.le_refl _) _⟩
                      case measure => simp [intOf]; omega
                    · have HSk := Lib.hid (HRA4.out.skip HSV.out hsl (.inr (by omega)))
                      go_wp2_with fail
                      go_roundw
                      case rel => exact ⟨j + 1, by omega, by go_num, ⟨true, rfl, onAt_yes HY.out⟩, ⟨_, HSk.out, HAO4.out⟩, HB4.out⟩
                      case measure => simp [intOf]; omega
                · obtain rfl : j = (nthL x.lines k).stops.length := by omega
                  have HNx := Lib.hid HRA4.out.line
                  clear hao c3
                  go_wp2_with fail
                  go_roundw
                  case rel => exact ⟨k + 1, by omega, by go_num, ⟨_, HNx.out, HAO4.out⟩, HB4.out⟩
                  case measure => simp [intOf]; omega
            · obtain rfl : k = x.lines.length := by omega
              have HD := Lib.hid HRA3.out.done
              go_wp2_with fail
              go_roundw
              case rel => exact ⟨r + 1, by omega, by go_num, HAO.out.congr (fun t ht => HD.out t ht), HB3.out⟩
              case measure => simp [intOf]; omega
        · obtain rfl : r = x.stops.length := by omega
          go_wp2_with fail
          go_ret
          exact ⟨rfl, HA.out, HB0.out.trans (HB2.out.mono (by omega))⟩

end Go.Proofs.Ytbneigkgdjcnjaa
