/- ReachableStops: contracts. -/
import Derived.Test.YtbneigkgdjcnjaaRdd
import Derived.Maps.AppendAt
namespace Go.Proofs.Ytbneigkgdjcnjaa
open Go.ChangeShapes Go.WideShapes Go.ChangeAt Go.RowKit Go.PlainAid
set_option linter.unusedVariables false

/-- A slice of the call's own that does not lie in block X. -/
def OwnX (w : World) (B X : Nat) (v : Value) (xs : List Int) : Prop := OwnI w B v xs ∧ v.ownBlock ≠ some X
theorem OwnX.nil {w : World} {B X : Nat} : OwnX w B X (.slice none 0 0) [] := ⟨OwnE.nil, by simp [Value.ownBlock]⟩
theorem OwnX.of {w : World} {B X : Nat} {v : Value} {xs : List Int} (h : OwnI w B v xs) (hx : v.ownBlock ≠ some X) : OwnX w B X v xs := ⟨h, hx⟩
/-- append(v, y): block X stays as it is. -/
theorem wp_appX {ops : Array Oper} {rest : List Oper} {o : Oper} {a : Act} {Q : Exit → Act → World → Prop} (hgd : o.guard = none) (s x : Operand)
    (ho : o.op = .call { callee := .builtin .append, args := #[s, x], argTypes := #[39, 39] })
    (B X : Nat) (v : Value) (xs : List Int) (y : Int) (w : World) (hown : OwnX w B X v xs) (hs : a.eval s = v) (n : Nat) (hx : a.eval x = .slice (some ⟨n, 0, none⟩) 1 1) (hnw : n = w.heap.size) (hl : xs.length ≤ 16777216) (hB : B ≤ w.heap.size) (hX : X < w.heap.size)
    (h : ∀ v' w', OwnX w' B X v' (xs ++ [y]) → Below B w w' → Same w w' X → w.heap.size ≤ w'.heap.size → wpList Try.prog ops Q rest (a.put o.dst v') w') : wpList Try.prog ops Q (o :: rest) a (w.alloc (.cells #[.int .i64 y] 3)) := by
  subst hnw
  obtain ⟨hown, hne⟩ := hown
  obtain ⟨i0, hi, hz0, hz1, hz2⟩ := info_parts Try.infoI
  refine wpList_append_own_at _ hgd s x 39 ho B 3 i0 _ 1 8 Try.underlying39 hi hz0 hz1 hz2 rfl (by omega) v xs.length (xs.flatMap encI) hs (World.ownsRow.alloc hown _) ⟨w.heap.size, 0, none⟩ 1 1 [.int .i64 y] hx rfl (fun j u hj => ?_) (fun u hu => by simp at hu; subst hu; rfl) (by unfold maxLen; omega) (by omega) (by simp; omega) (fun v' w' ho' hg _ hat => ?_)
  · cases j with
    | zero =>
      simp at hj
      subst hj
      rw [show (⟨w.heap.size, 0, none⟩ : Addr).add 0 = ⟨w.heap.size, 0, none⟩ by unfold Addr.add; split <;> simp_all]
      go_simp
    | succ j => simp at hj
  · have hz := hg.size
    simp at hz
    refine h v' w' ⟨?_, ?_⟩ (((Below.refl B w).alloc hB _).grown hg (by simp; omega) (fun k hk => ((World.ownsRow.lt hown) k hk).1)) ?_ (by omega)
    · show w'.ownsRow B 3 1 v' (xs ++ [y]).length ((xs ++ [y]).flatMap encI)
      rw [List.length_append, List.flatMap_append]
      exact ho'
    · rcases hat with e | e
      · rw [e]; exact hne
      · rw [e]; simp; omega
    · have h1 : Same w (w.alloc (.cells #[.int .i64 y] 3)) X := Same.of_below ((Below.refl _ _).alloc (Nat.le_refl _) _) hX
      have hb := hg.block X (by simp; omega) (fun e => hne e.symm)
      exact h1.trans (fun o => ⟨World.cell?_of_block (a := ⟨X, o, none⟩) hb, World.frozen?_of_block (a := ⟨X, o, none⟩) hb⟩)

set_option maxRecDepth 100000 in
set_option maxHeartbeats 2000000 in
theorem implReachable_any (x : NetD) (A L : Option Addr) (ca cl : Nat) (s : Int) (w : World) (hA : StrsIn w (Zone.below w.heap.size) A x.stops) (hL : LinesIn w (Zone.below w.heap.size) L x.lines) (hx : Fits x) :
    Calls Try.prog 35 #[.agg #[.slice A x.stops.length ca, .slice L x.lines.length cl], .int .i64 s] w (RetInts (reI x s) (stopB x s) w) := by
  have H0 : Hid (NetBox w (w.alloc (.cells #[.slice A x.stops.length ca, .slice L x.lines.length cl] 31)) w.heap.size x A ca L cl) := Lib.hid (NetBox.box hA hL)
  have hn := hx.stops
  have hm := hx.lines
  clear hA hL
  cases g0 : netB x
  · have HG := Lib.hid (stopB_no (x := x) (s := s) (.inl g0))
    have H := Lib.hid (reI_no HG.out)
    go_enter Try.func35, Try.ntmps35
    go_wp2_with fail
    refine (isValidNetwork_any x _ _ _ _  _ H0.out.stops H0.out.lines hx).mono ?_
    rintro e w1 ⟨rfl, hb1⟩
    have H1 := Lib.hid (H0.out.call hb1)
    clear hb1
    (try clear c0 c1)
    obtain ⟨c0, c1⟩ := H1.out.cells
    go_wp2_with fail
    go_ret2
    rw [HG.out]
    exact retNil H.out H1.out.bel
  cases g1 : inB s 0 (x.stops.length - 1)
  · have HG := Lib.hid (stopB_no (x := x) (s := s) (.inr g1))
    have H := Lib.hid (reI_no HG.out)
    go_enter Try.func35, Try.ntmps35
    go_wp2_with fail
    refine (isValidNetwork_any x _ _ _ _  _ H0.out.stops H0.out.lines hx).mono ?_
    rintro e w1 ⟨rfl, hb1⟩
    have H1 := Lib.hid (H0.out.call hb1)
    clear hb1
    (try clear c0 c1)
    obtain ⟨c0, c1⟩ := H1.out.cells
    go_wp2_with fail
    refine (isStop_any x _ _ _ _ s _  hn).mono ?_
    rintro e w2 ⟨rfl, hb2⟩
    have H2 := Lib.hid (H1.out.call hb2)
    clear hb2
    (try clear c0 c1)
    obtain ⟨c0, c1⟩ := H2.out.cells
    go_wp2_with fail
    go_ret2
    rw [HG.out]
    exact retNil H.out H2.out.bel
  have HG := Lib.hid (stopB_yes g0 g1)
  have HN := Lib.hid g0
  have hp0 := g1
  have H := Lib.hid (reI_yes HG.out)
  obtain ⟨j1, j2⟩ := inB_iff.1 hp0
  have h2 : 2 ≤ x.stops.length := by have := inB_iff.1 (netB_ok HN.out).stops; omega
  obtain ⟨a, rfl⟩ : ∃ a : Nat, s = a := ⟨s.toNat, by omega⟩
  have ha : a < x.stops.length := by omega
  have HE : Hid (∀ t, reaB x (a : Int) t = decide (0 ≤ ridF x a x.stops.length t)) := Lib.hid (fun t => by unfold reaB; rw [Int.toNat_natCast])
  go_enter Try.func35, Try.ntmps35
  go_wp2_with fail
  refine (isValidNetwork_any x _ _ _ _  _ H0.out.stops H0.out.lines hx).mono ?_
  rintro e w1 ⟨rfl, hb1⟩
  have H1 := Lib.hid (H0.out.call hb1)
  clear hb1
  (try clear c0 c1)
  obtain ⟨c0, c1⟩ := H1.out.cells
  go_wp2_with fail
  refine (isStop_any x _ _ _ _ _ _  hn).mono ?_
  rintro e w2 ⟨rfl, hb2⟩
  have H2 := Lib.hid (H1.out.call hb2)
  clear hb2
  (try clear c0 c1)
  obtain ⟨c0, c1⟩ := H2.out.cells
  go_wp2_with fail
  refine (rides_any x _ _ _ _ a _ H2.out.stops H2.out.lines hx HN.out ha).mono ?_
  rintro e w3 ⟨rfl, hr3, hb3⟩
  have H3 := Lib.hid (H2.out.call hb3)
  have HA := Lib.hid hr3
  have hz3 := hb3.size
  have hlt3 : w2.heap.size + 1 < w3.heap.size := hr3.lt
  clear hb3 hr3 c0 c1
  go_wp2_with fail
  go_loopw [6, 22] (fun v i wr => ∃ k : Nat, k ≤ x.stops.length ∧ i = .int .i64 k ∧ OwnX wr w3.heap.size (w2.heap.size + 1) v (filt k (reaB x (a : Int))) ∧ Below w3.heap.size w3 wr ∧ Same w3 wr (w2.heap.size + 1) ∧ w3.heap.size ≤ wr.heap.size) (fun _ i _ => x.stops.length - (intOf i).toNat)
  case atStart => exact ⟨0, Nat.zero_le _, rfl, OwnX.nil, Below.refl _ _, Same.refl _ _, Nat.le_refl _⟩
  case round =>
    obtain ⟨k, hk, rfl, ho, hb, hsm, hz⟩ := hrel
    have HO := Lib.hid ho
    have HB := Lib.hid hb
    have HS := Lib.hid hsm
    have hfl := filt_len k (reaB x (a : Int))
    clear ho hb
    by_cases hlt : k < x.stops.length
    · have hik : (k : Int) < (x.stops.length : Int) := by omega
      have hc : wr.cell? ⟨w2.heap.size + 1, k, none⟩ = some (.int .i64 (ridF x a x.stops.length k)) := (hsm k).1.trans (HA.out.cells k hlt)
      clear hsm
      by_cases t : 0 ≤ ridF x a x.stops.length k
      · have HF := Lib.hid (filt_yes (k := k) (p := reaB x (a : Int)) (by rw [HE.out]; exact decide_eq_true t))
        go_wp2_with (at_builtin; refine wp_appX rfl _ _ rfl w3.heap.size (w2.heap.size + 1) _ (filt k (reaB x (a : Int))) k _ HO.out rfl _ rfl (by simp) (by omega) (by omega) (by omega) ?_; intro v' w' ho' hb' hs' hz'; have HO' := Lib.hid ho'; have HB' := Lib.hid (HB.out.trans hb'); have HS' := Lib.hid (HS.out.trans hs'); clear ho' hb' hs')
        go_roundw
        case rel => exact ⟨k + 1, by omega, by go_num, by rw [HF.out]; exact HO'.out, HB'.out, HS'.out, by omega⟩
        case measure => simp [intOf]; omega
      · have HF := Lib.hid (filt_no (k := k) (p := reaB x (a : Int)) (by rw [HE.out]; exact decide_eq_false t))
        go_wp2_with fail
        go_roundw
        case rel => exact ⟨k + 1, by omega, by go_num, by rw [HF.out]; exact HO.out, HB.out, HS.out, hz⟩
        case measure => simp [intOf]; omega
    · obtain rfl : k = x.stops.length := by omega
      clear hsm
      go_wp2_with fail
      go_ret2
      first | rw [H.out, HG.out] | rw [H.out]
      exact HO.out.1.ret H3.out.bel.size (bel_of H3.out.bel H3.out.bel.size HB.out)

set_option maxRecDepth 100000 in
set_option maxHeartbeats 2000000 in
theorem specReachable_any (x : NetD) (A L : Option Addr) (ca cl : Nat) (s : Int) (w : World) (hA : StrsIn w (Zone.below w.heap.size) A x.stops) (hL : LinesIn w (Zone.below w.heap.size) L x.lines) (hx : Fits x) :
    Calls Try.prog 34 #[.agg #[.slice A x.stops.length ca, .slice L x.lines.length cl], .int .i64 s] w (RetInts (reI x s) (stopB x s) w) := by
  have H0 : Hid (NetBox w (w.alloc (.cells #[.slice A x.stops.length ca, .slice L x.lines.length cl] 31)) w.heap.size x A ca L cl) := Lib.hid (NetBox.box hA hL)
  have hn := hx.stops
  have hm := hx.lines
  clear hA hL
  have H1 : Hid (NetBox w ((w.alloc (.cells #[.slice A x.stops.length ca, .slice L x.lines.length cl] 31)).alloc (.cells #[] 3)) w.heap.size x A ca L cl) := Lib.hid (H0.out.call (by go_grown))
  have HO1 : Hid (OwnI ((w.alloc (.cells #[.slice A x.stops.length ca, .slice L x.lines.length cl] 31)).alloc (.cells #[] 3)) (w.heap.size + 1) (.slice (some ⟨w.heap.size + 1, 0, none⟩) 0 0) []) := Lib.hid (by simpa using OwnE.empty (e := 3) (m := 1) (enc := encI) (w := w.alloc (.cells #[.slice A x.stops.length ca, .slice L x.lines.length cl] 31)) (Nat.le_refl _))
  have hw1 : w.heap.size + 1 < ((w.alloc (.cells #[.slice A x.stops.length ca, .slice L x.lines.length cl] 31)).alloc (.cells #[] 3)).heap.size := by simp
  clear H0
  cases g : stopB x s
  · have H := Lib.hid (reI_no g)
    go_enter Try.func34, Try.ntmps34
    go_wp2_with fail
    generalize ((w.alloc (.cells #[.slice A x.stops.length ca, .slice L x.lines.length cl] 31)).alloc (.cells #[] 3)) = w1 at *
    refine (l2Stop_any x _ _ _ _ _ _ H1.out.stops H1.out.lines hx).mono ?_
    rintro e w2 ⟨rfl, hb2⟩
    have H2 := Lib.hid (H1.out.call hb2)
    have HO2 := Lib.hid (HO1.out.call hb2)
    have hw2 := hb2.size
    clear hb2
    (try clear c0 c1)
    obtain ⟨c0, c1⟩ := H2.out.cells
    go_wp2_with fail
    go_ret2
    rw [H.out]
    exact HO2.out.ret (by omega) H2.out.bel
  have HG := Lib.hid g
  obtain ⟨hnet, hp0⟩ := stopB_parts g
  have HN := Lib.hid hnet
  have H := Lib.hid (reI_yes HG.out)
  obtain ⟨j1, j2⟩ := inB_iff.1 hp0
  have h2 : 2 ≤ x.stops.length := by have := inB_iff.1 (netB_ok HN.out).stops; omega
  obtain ⟨a, rfl⟩ : ∃ a : Nat, s = a := ⟨s.toNat, by omega⟩
  have ha : a < x.stops.length := by omega
  have HE : Hid (∀ t, reaB x (a : Int) t = decide (0 ≤ ridF x a x.stops.length t)) := Lib.hid (fun t => by unfold reaB; rw [Int.toNat_natCast])
  clear hnet
  go_enter Try.func34, Try.ntmps34
  go_wp2_with fail
  generalize ((w.alloc (.cells #[.slice A x.stops.length ca, .slice L x.lines.length cl] 31)).alloc (.cells #[] 3)) = w1 at *
  refine (l2Stop_any x _ _ _ _ _ _ H1.out.stops H1.out.lines hx).mono ?_
  rintro e w2 ⟨rfl, hb2⟩
  have H2 := Lib.hid (H1.out.call hb2)
  have HO2 := Lib.hid (HO1.out.call hb2)
  have hw2 := hb2.size
  clear hb2
  (try clear c0 c1)
  obtain ⟨c0, c1⟩ := H2.out.cells
  go_wp2_with fail
  refine (l2Rides_any x _ _ _ _ a _ H2.out.stops H2.out.lines hx HN.out ha).mono ?_
  rintro e w3 ⟨rfl, hr3, hb3⟩
  have H3 := Lib.hid (H2.out.call hb3)
  have HA := Lib.hid hr3
  have hz3 := hb3.size
  have hlt3 : w2.heap.size + 1 < w3.heap.size := hr3.lt
  have HO3 := Lib.hid (HO2.out.call hb3)
  have hz31 : w.heap.size + 1 ≤ w3.heap.size := by omega
  clear hb3 hr3 c0 c1
  go_wp2_with fail
  go_loopw [6, 8] (fun v i wr => ∃ k : Nat, k ≤ x.stops.length ∧ i = .int .i64 k ∧ OwnX wr (w.heap.size + 1) (w2.heap.size + 1) v (filt k (reaB x (a : Int))) ∧ Below (w.heap.size + 1) w3 wr ∧ Same w3 wr (w2.heap.size + 1) ∧ w3.heap.size ≤ wr.heap.size) (fun _ i _ => x.stops.length - (intOf i).toNat)
  case atStart => exact ⟨0, Nat.zero_le _, rfl, OwnX.of HO3.out (by simp [Value.ownBlock]; omega), Below.refl _ _, Same.refl _ _, Nat.le_refl _⟩
  case round =>
    obtain ⟨k, hk, rfl, ho, hb, hsm, hz⟩ := hrel
    have HO := Lib.hid ho
    have HB := Lib.hid hb
    have HS := Lib.hid hsm
    have hfl := filt_len k (reaB x (a : Int))
    clear ho hb
    by_cases hlt : k < x.stops.length
    · have hik : (k : Int) < (x.stops.length : Int) := by omega
      have hc : wr.cell? ⟨w2.heap.size + 1, k, none⟩ = some (.int .i64 (ridF x a x.stops.length k)) := (hsm k).1.trans (HA.out.cells k hlt)
      clear hsm
      by_cases t : 0 ≤ ridF x a x.stops.length k
      · have HF := Lib.hid (filt_yes (k := k) (p := reaB x (a : Int)) (by rw [HE.out]; exact decide_eq_true t))
        go_wp2_with (at_builtin; refine wp_appX rfl _ _ rfl (w.heap.size + 1) (w2.heap.size + 1) _ (filt k (reaB x (a : Int))) k _ HO.out rfl _ rfl (by simp) (by omega) (by omega) (by omega) ?_; intro v' w' ho' hb' hs' hz'; have HO' := Lib.hid ho'; have HB' := Lib.hid (HB.out.trans hb'); have HS' := Lib.hid (HS.out.trans hs'); clear ho' hb' hs')
        go_roundw
        case rel => exact ⟨k + 1, by omega, by go_num, by rw [HF.out]; exact HO'.out, HB'.out, HS'.out, by omega⟩
        case measure => simp [intOf]; omega
      · have HF := Lib.hid (filt_no (k := k) (p := reaB x (a : Int)) (by rw [HE.out]; exact decide_eq_false t))
        go_wp2_with fail
        go_roundw
        case rel => exact ⟨k + 1, by omega, by go_num, by rw [HF.out]; exact HO.out, HB.out, HS.out, hz⟩
        case measure => simp [intOf]; omega
    · obtain rfl : k = x.stops.length := by omega
      clear hsm
      go_wp2_with fail
      go_ret2
      first | rw [H.out, HG.out] | rw [H.out]
      exact HO.out.1.ret (by omega) (H3.out.bel.trans (HB.out.mono (by omega)))

end Go.Proofs.Ytbneigkgdjcnjaa
