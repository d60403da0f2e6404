/- TerminalStops of the program. -/
import Derived.Test.YtbneigkgdjcnjaaTmc
namespace Go.Proofs.Ytbneigkgdjcnjaa
open Go.ChangeShapes Go.WideShapes Go.ChangeAt Go.RowKit Go.PlainAid
set_option linter.unusedVariables false

/-- What TerminalStops returns. -/
def tsI (x : NetD) : List Int := if netB x = true then filt x.stops.length (anyK x x.lines.length) else []
theorem tsI_no {x : NetD} (h : netB x = false) : tsI x = [] := by unfold tsI; rw [h]; rfl
theorem tsI_yes {x : NetD} (h : netB x = true) : tsI x = filt x.stops.length (anyK x x.lines.length) := by unfold tsI; rw [h]; rfl
theorem tsI_len (x : NetD) : (tsI x).length ≤ x.stops.length := by
  unfold tsI
  split
  · exact filt_len _ _
  · simp

set_option maxRecDepth 100000 in
set_option maxHeartbeats 2000000 in
theorem implTerminalStops_any (x : NetD) (A L : Option Addr) (ca cl : Nat) (w : World) (hA : StrsIn w (Zone.below w.heap.size) A x.stops) (hL : LinesIn w (Zone.below w.heap.size) L x.lines) (hx : Fits x) :
    Calls Try.prog 33 #[.agg #[.slice A x.stops.length ca, .slice L x.lines.length cl]] w (RetInts (tsI x) (netB x) w) := by
  have H0 : Hid (NetBox w (w.alloc (.cells #[.slice A x.stops.length ca, .slice L x.lines.length cl] 31)) w.heap.size x A ca L cl) := Lib.hid (NetBox.box hA hL)
  have hn := hx.stops
  have hm := hx.lines
  clear hA hL
  cases g0 : netB x
  · have H := Lib.hid (tsI_no g0)
    go_enter Try.func33, Try.ntmps33
    go_wp2_with fail
    refine (isValidNetwork_any x _ _ _ _  _ H0.out.stops H0.out.lines hx).mono ?_
    rintro e w1 ⟨rfl, hb1⟩
    have H1 := Lib.hid (H0.out.call hb1)
    clear hb1
    (try clear c0 c1)
    obtain ⟨c0, c1⟩ := H1.out.cells
    go_wp2_with fail
    go_ret2
    exact retNil H.out H1.out.bel
  have H := Lib.hid (tsI_yes g0)
  have HP : Hid (∀ k, k < x.lines.length → 0 < (nthL x.lines k).stops.length ∧ (nthL x.lines k).stops.length ≤ 1048576) := Lib.hid (fun k hk => by
    have h := (of_decide_eq_true ((netB_ok g0).each k hk) : LineOk x.stops.length (nthL x.lines k)).1
    unfold LineHd at h
    omega)
  go_enter Try.func33, Try.ntmps33
  go_wp2_with fail
  refine (isValidNetwork_any x _ _ _ _  _ H0.out.stops H0.out.lines hx).mono ?_
  rintro e w1 ⟨rfl, hb1⟩
  have H1 := Lib.hid (H0.out.call hb1)
  clear hb1
  (try clear c0 c1)
  obtain ⟨c0, c1⟩ := H1.out.cells
  go_wp2_with fail
  clear c0 c1
  go_loopw [4, 5, 12] (fun v u5 i wr => ∃ k : Nat, k ≤ x.stops.length ∧ i = .int .i64 k ∧ OwnI wr w1.heap.size v (filt k (anyK x x.lines.length)) ∧ Below w1.heap.size w1 wr) (fun _ _ i _ => x.stops.length - (intOf i).toNat)
  case atStart => exact ⟨0, Nat.zero_le _, rfl, OwnE.nil, Below.refl _ _⟩
  case round =>
    obtain ⟨k, hk, rfl, ho, hb⟩ := hrel
    have HO := Lib.hid ho
    have HB := Lib.hid hb
    have hz := hb.size
    have H2 := Lib.hid (H1.out.call hb)
    obtain ⟨c0, c1⟩ := H2.out.cells
    have hfl := filt_len k (anyK x x.lines.length)
    have hgr : w.heap.size < wr.heap.size := by have := H1.out.lt; omega
    clear ho hb
    by_cases hlt : k < x.stops.length
    · have hik : (k : Int) < (x.stops.length : Int) := by omega
      have H3 : Hid (NetBox w (wr.alloc (.cells #[.int .i64 k] 3)) w.heap.size x A ca L cl) := Lib.hid (H2.out.call (by go_grown))
      have hcg : (wr.alloc (.cells #[.int .i64 k] 3)).cell? ⟨wr.heap.size, 0, none⟩ = some (.int .i64 k) := by go_simp
      have hgg : wr.heap.size < (wr.alloc (.cells #[.int .i64 k] 3)).heap.size := by simp
      have HB3 : Hid (Below w1.heap.size w1 (wr.alloc (.cells #[.int .i64 k] 3))) := Lib.hid (HB.out.alloc hz _)
      have HO3 := Lib.hid (HO.out.alloc (.cells #[.int .i64 k] 3))
      have hz3 : w1.heap.size ≤ (wr.alloc (.cells #[.int .i64 k] 3)).heap.size := by simp; omega
      cases hg : anyK x x.lines.length k
      · have HF := Lib.hid (filt_no hg)
        have HG := Lib.hid hg
        go_wp2_with fail
        generalize (wr.alloc (.cells #[.int .i64 k] 3)) = wn at *
        refine (hasLine_any _ _ x k wr.heap.size _ H3.out.lines hm HP.out hcg hgg).mono ?_
        rintro e w4 ⟨rfl, hb4⟩
        have HB4 := Lib.hid (HB3.out.trans (hb4.mono hz3))
        have HO4 := Lib.hid (HO3.out.call hb4)
        clear hb4
        rw [HG.out]
        go_wp2_with fail
        go_roundw
        case rel => exact ⟨k + 1, by omega, by go_num, by rw [HF.out]; exact HO4.out, HB4.out⟩
        case measure => simp [intOf]; omega
      · have HF := Lib.hid (filt_yes hg)
        have HG := Lib.hid hg
        go_wp2_with fail
        generalize (wr.alloc (.cells #[.int .i64 k] 3)) = wn at *
        refine (hasLine_any _ _ x k wr.heap.size _ H3.out.lines hm HP.out hcg hgg).mono ?_
        rintro e w4 ⟨rfl, hb4⟩
        have HB4 := Lib.hid (HB3.out.trans (hb4.mono hz3))
        have HO4 := Lib.hid (HO3.out.call hb4)
        have hz4 : w1.heap.size ≤ w4.heap.size := Nat.le_trans hz3 hb4.size
        have hcg4 := (hb4.cell (p := ⟨wr.heap.size, 0, none⟩) hgg).trans hcg
        clear hb4
        rw [HG.out]
        go_wp2_with (at_builtin; refine wp_appI rfl _ _ rfl w1.heap.size _ (filt k (anyK x x.lines.length)) k _ HO4.out rfl _ rfl (by simp) (by omega) (by omega) ?_; intro v' w' ho' hb'; have HO' := Lib.hid ho'; have HB' := Lib.hid (HB4.out.trans hb'); clear ho' hb')
        go_roundw
        case rel => exact ⟨k + 1, by omega, by go_num, by rw [HF.out]; exact HO'.out, HB'.out⟩
        case measure => simp [intOf]; omega
    · obtain rfl : k = x.stops.length := by omega
      go_wp2_with fail
      go_ret2
      rw [H.out]
      exact HO.out.ret H1.out.bel.size (bel_of H1.out.bel H1.out.bel.size HB.out)

end Go.Proofs.Ytbneigkgdjcnjaa
