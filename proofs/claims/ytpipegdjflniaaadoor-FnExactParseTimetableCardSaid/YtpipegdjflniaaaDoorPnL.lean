/- ParseNetwork, ParseTimetable: answers, sizes, laws -/
import Derived.Test.YtpipegdjflniaaaDoorPth
import Derived.Test.YtpipegdjflniaaaDoorPtj
namespace Go.Proofs.YtpipegdjflniaaaDoor

/-! ### ParseTimetable, ParseNetwork: what both sides answer. -/
section
open Go.ChangeShapes Go.WideShapes Go.ChangeAt Go.RowKit Go.PlainAid
set_option linter.unusedVariables false
set_option linter.unusedSimpArgs false

def noNet : NetD := ⟨[], []⟩
def pnO (l : Wd) : Option NetD := match psT l with | none => none | some x => if x.trips.length = 0 then some x.net else none
def pnV (l : Wd) : NetD := (pnO l).getD noNet
def pnB (l : Wd) : Bool := (pnO l).isSome
theorem retPN_none {l : Wd} {w w' : World} (h : pnO l = none) (hb : Below w.heap.size w w') : RetNet (pnV l) (pnB l) w (.returned (.tuple #[.agg #[.slice none 0 0, .slice none 0 0], .bool false])) w' := by
  unfold pnV pnB
  rw [h]
  exact ⟨none, 0, none, 0, rfl, .inl ⟨rfl, rfl⟩, hb⟩
theorem retPN_some {l : Wd} {x : NetD} {w w' : World} {e : Ending} (h : pnO l = some x) (hr : RetNet x true w e w') : RetNet (pnV l) (pnB l) w e w' := by
  unfold pnV pnB
  rw [h]
  exact hr
theorem TtO.neto {w : World} {lo hi : Nat} {x : TTD} {A L T : Option Addr} (h : TtO w lo hi x A L T) : NetO w lo hi x.net A L := by
  rcases h with ⟨h1, h2, _⟩ | ⟨s, g, p, r, hn, _⟩
  · exact .inl ⟨h1, h2⟩
  · exact .inr ⟨s, g, p, r, hn⟩
theorem TtO.setLow {w : World} {lo hi : Nat} {x : TTD} {A L T : Option Addr} (h : TtO w lo hi x A L T) {p : Addr} (hp : p.block < lo) (u : Value) : TtO (w.setCell p u) lo hi x A L T := h.keep fun c hc => Same.set w (by omega) u
theorem TtO.setHigh {w : World} {lo hi : Nat} {x : TTD} {A L T : Option Addr} (h : TtO w lo hi x A L T) {p : Addr} (hp : hi ≤ p.block) (u : Value) : TtO (w.setCell p u) lo hi x A L T := h.keep fun c hc => Same.set w (by omega) u
theorem TtO.alloc {w : World} {lo hi : Nat} {x : TTD} {A L T : Option Addr} (h : TtO w lo hi x A L T) (hh : hi ≤ w.heap.size) (o : Obj) : TtO (w.alloc o) lo hi x A L T := h.new_call ((Below.refl _ _).alloc (Nat.le_refl _) o) hh
/-- Empty boxes. -/
structure NCz (w : World) (g : Nat) : Prop where
  c0 : w.cell? ⟨g, 0, none⟩ = some (.slice none 0 0)
  c1 : w.cell? ⟨g, 1, none⟩ = some (.slice none 0 0)
  fr : ∀ j, w.frozen? ⟨g, j, none⟩ = false
  lt : g < w.heap.size
theorem NCz.below {w w' : World} {g B : Nat} (h : NCz w g) (hb : Below B w w') (hg : g < B) : NCz w' g :=
  have s := Same.of_blk (hb.block g hg)
  ⟨(s 0).1.trans h.c0, (s 1).1.trans h.c1, fun j => (s j).2.trans (h.fr j), Nat.lt_of_lt_of_le h.lt hb.size⟩

set_option maxRecDepth 100000 in
set_option maxHeartbeats 4000000 in
theorem implParseTimetable_any (s : ByteArray) (m : Int) (w : World) (hs : s.size ≤ 1048576) (HM : ∀ w', Below w.heap.size w w' → w'.cell? ⟨0, 0, none⟩ = some (.int .i64 m)) :
    Calls Tryd.prog 11 #[.string s] w (RetTt (ptV s.data.toList) (ptB s.data.toList) w) := by
  obtain ⟨W0, hW0⟩ : ∃ W0, W0 = w.alloc (.cells #[.slice none 0 0, .slice none 0 0, .slice none 0 0] 33) := ⟨_, rfl⟩
  have HZ0 : Hid (TC W0 w.heap.size (.slice none 0 0) (.slice none 0 0) (.slice none 0 0)) := Lib.hid (by rw [hW0]; exact ⟨by go_simp, by go_simp, by go_simp, fun j => by go_simp, by simp⟩)
  have HB0 : Hid (Below w.heap.size w W0) := Lib.hid (by rw [hW0]; go_grown)
  have HSZ : Hid (w.heap.size < W0.heap.size) := Lib.hid (by rw [hW0]; simp)
  have HP := Lib.hid (parseTimetable_any s m W0 hs (fun w' h => HM w' (HB0.out.trans (h.mono HB0.out.size))))
  obtain ⟨x, hx⟩ : ∃ x, x = ptV s.data.toList := ⟨_, rfl⟩
  obtain ⟨b, hb⟩ : ∃ b, b = ptB s.data.toList := ⟨_, rfl⟩
  have HPR : Hid (RetPT s.data.toList W0 = RetTt x b W0) := Lib.hid (by rw [hx, hb]; rfl)
  rw [HPR.out] at HP
  rw [← hx, ← hb]
  clear HM hx hb HPR
  go_enter Tryd.func11, Tryd.ntmps11
  go_upto_region 1 with fail
  rw [← hW0]
  clear hW0
  go_wp2_with fail
  refine HP.out.mono ?_
  rintro e w1 ⟨A, ca, L, cl, T, ct, rfl, hto, hb1⟩
  obtain ⟨z0, z1, z2, zf, zl⟩ := HZ0.out.below hb1 HZ0.out.lt
  have zf0 := zf 0
  have zf1 := zf 1
  have zf2 := zf 2
  have hsz := HSZ.out
  have HTO := Lib.hid hto
  have HB1 := Lib.hid (HB0.out.trans (hb1.mono HB0.out.size))
  have hz1 := hb1.size
  clear hto hb1 zf
  go_wp2_with fail
  refine bodyPost_ret (v := .tuple #[.agg #[.slice A x.net.stops.length ca, .slice L x.net.lines.length cl, .slice T x.trips.length ct], .bool b]) (by simp [results, Tryd.results11, go_sem, z0, z1, z2]) rfl ?_
  refine ⟨A, ca, L, cl, T, ct, rfl, ?_, ?_⟩
  · refine TtO.wide (lo := W0.heap.size) (hi := w1.heap.size) ?_ (Nat.le_of_lt hsz) (by simp only [size_set]; exact Nat.le_refl _)
    repeat' (refine TtO.setLow ?_ hsz _)
    exact HTO.out
  · repeat' (refine Below.setCell ?_ (by simp) _)
    exact HB1.out
set_option maxRecDepth 100000 in
set_option maxHeartbeats 4000000 in
theorem specParseTimetable_any (s : ByteArray) (w : World) (hs : s.size ≤ 1048576) :
    Calls Tryd.prog 10 #[.string s] w (RetTt (ptV s.data.toList) (ptB s.data.toList) w) := by
  obtain ⟨W0, hW0⟩ : ∃ W0, W0 = w.alloc (.cells #[.slice none 0 0, .slice none 0 0, .slice none 0 0] 33) := ⟨_, rfl⟩
  have HZ0 : Hid (TC W0 w.heap.size (.slice none 0 0) (.slice none 0 0) (.slice none 0 0)) := Lib.hid (by rw [hW0]; exact ⟨by go_simp, by go_simp, by go_simp, fun j => by go_simp, by simp⟩)
  have HB0 : Hid (Below w.heap.size w W0) := Lib.hid (by rw [hW0]; go_grown)
  have HSZ : Hid (w.heap.size < W0.heap.size) := Lib.hid (by rw [hW0]; simp)
  have HP := l6Parse_any s W0 hs
  obtain ⟨l, hl⟩ : ∃ l, l = s.data.toList := ⟨_, rfl⟩
  obtain ⟨o, ho⟩ : ∃ o, o = psT l := ⟨_, rfl⟩
  rw [← hl, ← ho] at HP
  have HP := Lib.hid HP
  have HO := Lib.hid ho.symm
  have hR : RetTt (ptV s.data.toList) (ptB s.data.toList) w = RetPT l w := by rw [hl]; rfl
  rw [hR]
  clear hl ho hR
  go_enter Tryd.func10, Tryd.ntmps10
  go_upto_region 1 with fail
  rw [← hW0]
  clear hW0
  go_wp2_with fail
  refine HP.out.mono ?_
  rintro e w1 ⟨A, na, ca, L, nl, cl, T, nt, ct, rfl, hto, hb1⟩
  obtain ⟨z0, z1, z2, zf, zl⟩ := HZ0.out.below hb1 HZ0.out.lt
  have zf0 := zf 0
  have zf1 := zf 1
  have zf2 := zf 2
  have hsz := HSZ.out
  have HTO := Lib.hid hto
  have HB1 := Lib.hid (HB0.out.trans (hb1.mono HB0.out.size))
  have hz1 := hb1.size
  have hzz : w.heap.size < w1.heap.size := by omega
  clear hto hb1 zf
  cases o with
  | none =>
    go_wp2_with fail
    refine bodyPost_ret (v := .tuple #[.agg #[.slice none 0 0, .slice none 0 0, .slice none 0 0], .bool false]) (by simp [results, Tryd.results10, go_sem, z0, z1, z2, size_set, hzz]) rfl ?_
    refine retPT_none HO.out ?_
    repeat' (first | (refine Below.setCell ?_ (by simp) _) | (refine Below.alloc ?_ (by simp only [size_set]; exact Nat.le_of_lt hzz) _))
    exact HB1.out
  | some x =>
    obtain ⟨rfl, rfl, rfl, hto⟩ := HTO.out x rfl
    have HTT := Lib.hid hto
    clear hto
    go_wp2_with fail
    refine bodyPost_ret (v := .tuple #[.agg #[.slice A x.net.stops.length ca, .slice L x.net.lines.length cl, .slice T x.trips.length ct], .bool true]) (by simp [results, Tryd.results10, go_sem, z0, z1, z2, size_set, hzz]) rfl ?_
    refine retPT_some HO.out ⟨A, ca, L, cl, T, ct, rfl, ?_, ?_⟩
    · refine TtO.wide (lo := W0.heap.size) (hi := w1.heap.size) ?_ (Nat.le_of_lt hsz) (by simp [size_set])
      repeat' (first | (refine TtO.setLow ?_ hsz _) | (refine TtO.alloc ?_ (by simp only [size_set]; exact Nat.le_refl _) _))
      exact HTT.out
    · repeat' (first | (refine Below.setCell ?_ (by simp) _) | (refine Below.alloc ?_ (by simp only [size_set]; exact Nat.le_of_lt hzz) _))
      exact HB1.out
theorem pnO_some {l : Wd} {x : TTD} (h : psT l = some x) (h0 : x.trips.length = 0) : pnO l = some x.net := by
  unfold pnO
  rw [h]
  exact if_pos h0
theorem pnO_trips {l : Wd} {x : TTD} (h : psT l = some x) (h0 : ¬ x.trips.length = 0) : pnO l = none := by
  unfold pnO
  rw [h]
  exact if_neg h0
theorem pnO_none {l : Wd} (h : psT l = none) : pnO l = none := by
  unfold pnO
  rw [h]
set_option maxRecDepth 100000 in
set_option maxHeartbeats 4000000 in
theorem specParseNetwork_any (s : ByteArray) (w : World) (hs : s.size ≤ 1048576) :
    Calls Tryd.prog 5 #[.string s] w (RetNet (pnV s.data.toList) (pnB s.data.toList) w) := by
  obtain ⟨W0, hW0⟩ : ∃ W0, W0 = w.alloc (.cells #[.slice none 0 0, .slice none 0 0] 25) := ⟨_, rfl⟩
  have HZ0 : Hid (NCz W0 w.heap.size) := Lib.hid (by rw [hW0]; exact ⟨by go_simp, by go_simp, fun j => by go_simp, by simp⟩)
  have HB0 : Hid (Below w.heap.size w W0) := Lib.hid (by rw [hW0]; go_grown)
  have HSZ : Hid (w.heap.size < W0.heap.size) := Lib.hid (by rw [hW0]; simp)
  have HP := l6Parse_any s W0 hs
  obtain ⟨l, hl⟩ : ∃ l, l = s.data.toList := ⟨_, rfl⟩
  obtain ⟨o, ho⟩ : ∃ o, o = psT l := ⟨_, rfl⟩
  rw [← hl, ← ho] at HP
  have HP := Lib.hid HP
  have HO := Lib.hid ho.symm
  rw [← hl]
  clear hl ho
  go_enter Tryd.func5, Tryd.ntmps5
  go_upto_region 1 with fail
  rw [← hW0]
  clear hW0
  go_wp2_with fail
  refine HP.out.mono ?_
  rintro e w1 ⟨A, na, ca, L, nl, cl, T, nt, ct, rfl, hto, hb1⟩
  obtain ⟨z0, z1, zf, zl⟩ := HZ0.out.below hb1 HZ0.out.lt
  have zf0 := zf 0
  have zf1 := zf 1
  have hsz := HSZ.out
  have HTO := Lib.hid hto
  have HB1 := Lib.hid (HB0.out.trans (hb1.mono HB0.out.size))
  have hz1 := hb1.size
  have hzz : w.heap.size < w1.heap.size := by omega
  clear hto hb1 zf
  cases o with
  | none =>
    go_wp2_with fail
    refine bodyPost_ret (v := .tuple #[.agg #[.slice none 0 0, .slice none 0 0], .bool false]) (by simp [results, Tryd.results5, go_sem, z0, z1, size_set, hzz]) rfl ?_
    refine retPN_none (pnO_none HO.out) ?_
    repeat' (first | (refine Below.setCell ?_ (by simp) _) | (refine Below.alloc ?_ (by simp only [size_set]; exact Nat.le_of_lt hzz) _))
    exact HB1.out
  | some x =>
    obtain ⟨rfl, rfl, rfl, hto⟩ := HTO.out x rfl
    have HTT := Lib.hid hto
    clear hto
    by_cases h0 : x.trips.length = 0
    · have h0i : ¬ ((0 : Int) < (x.trips.length : Int)) := by omega
      have HN := Lib.hid (pnO_some HO.out h0)
      clear h0
      go_wp2_with fail
      refine bodyPost_ret (v := .tuple #[.agg #[.slice A x.net.stops.length ca, .slice L x.net.lines.length cl], .bool true]) (by simp [results, Tryd.results5, go_sem, z0, z1, size_set, hzz]) rfl ?_
      refine retPN_some HN.out ⟨A, ca, L, cl, rfl, ?_, ?_⟩
      · refine (TtO.wide (lo := W0.heap.size) (hi := w1.heap.size) (T := T) (x := x) ?_ (Nat.le_of_lt hsz) (by simp [size_set])).neto
        repeat' (first | (refine TtO.setLow ?_ hsz _) | (refine TtO.alloc ?_ (by simp only [size_set]; exact Nat.le_refl _) _))
        exact HTT.out
      · repeat' (first | (refine Below.setCell ?_ (by simp) _) | (refine Below.alloc ?_ (by simp only [size_set]; exact Nat.le_of_lt hzz) _))
        exact HB1.out
    · have h0i : (0 : Int) < (x.trips.length : Int) := by omega
      have HN := Lib.hid (pnO_trips HO.out h0)
      clear h0
      go_wp2_with fail
      refine bodyPost_ret (v := .tuple #[.agg #[.slice none 0 0, .slice none 0 0], .bool false]) (by simp [results, Tryd.results5, go_sem, z0, z1, size_set, hzz]) rfl ?_
      refine retPN_none HN.out ?_
      repeat' (first | (refine Below.setCell ?_ (by simp) _) | (refine Below.alloc ?_ (by simp only [size_set]; exact Nat.le_of_lt hzz) _))
      exact HB1.out
set_option maxRecDepth 100000 in
set_option maxHeartbeats 4000000 in
theorem implParseNetwork_any (s : ByteArray) (m : Int) (w : World) (hs : s.size ≤ 1048576) (HM : ∀ w', Below w.heap.size w w' → w'.cell? ⟨0, 0, none⟩ = some (.int .i64 m)) :
    Calls Tryd.prog 6 #[.string s] w (RetNet (pnV s.data.toList) (pnB s.data.toList) w) := by
  obtain ⟨W0, hW0⟩ : ∃ W0, W0 = w.alloc (.cells #[.slice none 0 0, .slice none 0 0] 25) := ⟨_, rfl⟩
  have HZ0 : Hid (NCz W0 w.heap.size) := Lib.hid (by rw [hW0]; exact ⟨by go_simp, by go_simp, fun j => by go_simp, by simp⟩)
  have HB0 : Hid (Below w.heap.size w W0) := Lib.hid (by rw [hW0]; go_grown)
  have HSZ : Hid (w.heap.size < W0.heap.size) := Lib.hid (by rw [hW0]; simp)
  have HP := parseTimetable_any s m W0 hs (fun w' h => HM w' (HB0.out.trans (h.mono HB0.out.size)))
  obtain ⟨l, hl⟩ : ∃ l, l = s.data.toList := ⟨_, rfl⟩
  rw [← hl] at HP ⊢
  obtain ⟨o, ho⟩ : ∃ o, o = psT l := ⟨_, rfl⟩
  have HO := Lib.hid ho.symm
  have HP := Lib.hid HP
  clear HM hl
  cases o with
  | none =>
    have hR : RetPT l W0 = RetTt emT false W0 := by unfold RetPT ptV ptB; rw [← ho]; rfl
    rw [hR] at HP
    clear ho hR
    go_enter Tryd.func6, Tryd.ntmps6
    go_upto_region 1 with fail
    rw [← hW0]
    clear hW0
    go_wp2_with fail
    refine HP.out.mono ?_
    rintro e w1 ⟨A, ca, L, cl, T, ct, rfl, hto, hb1⟩
    obtain ⟨z0, z1, zf, zl⟩ := HZ0.out.below hb1 HZ0.out.lt
    have zf0 := zf 0
    have zf1 := zf 1
    have hsz := HSZ.out
    have HB1 := Lib.hid (HB0.out.trans (hb1.mono HB0.out.size))
    have hz1 := hb1.size
    have hzz : w.heap.size < w1.heap.size := by omega
    clear hto hb1 zf
    go_wp2_with fail
    refine bodyPost_ret (v := .tuple #[.agg #[.slice none 0 0, .slice none 0 0], .bool false]) (by simp [results, Tryd.results6, go_sem, z0, z1, size_set, hzz]) rfl ?_
    refine retPN_none (pnO_none HO.out) ?_
    repeat' (first | (refine Below.setCell ?_ (by simp) _) | (refine Below.alloc ?_ (by simp only [size_set]; exact Nat.le_of_lt hzz) _))
    exact HB1.out
  | some x =>
    have hR : RetPT l W0 = RetTt x true W0 := by unfold RetPT ptV ptB; rw [← ho]; rfl
    rw [hR] at HP
    clear ho hR
    go_enter Tryd.func6, Tryd.ntmps6
    go_upto_region 1 with fail
    rw [← hW0]
    clear hW0
    go_wp2_with fail
    refine HP.out.mono ?_
    rintro e w1 ⟨A, ca, L, cl, T, ct, rfl, hto, hb1⟩
    obtain ⟨z0, z1, zf, zl⟩ := HZ0.out.below hb1 HZ0.out.lt
    have zf0 := zf 0
    have zf1 := zf 1
    have hsz := HSZ.out
    have HTT := Lib.hid hto
    have HB1 := Lib.hid (HB0.out.trans (hb1.mono HB0.out.size))
    have hz1 := hb1.size
    have hzz : w.heap.size < w1.heap.size := by omega
    clear hto hb1 zf
    by_cases h0 : x.trips.length = 0
    · have h0i : ¬ ((0 : Int) < (x.trips.length : Int)) := by omega
      have HN := Lib.hid (pnO_some HO.out h0)
      clear h0
      go_wp2_with fail
      refine bodyPost_ret (v := .tuple #[.agg #[.slice A x.net.stops.length ca, .slice L x.net.lines.length cl], .bool true]) (by simp [results, Tryd.results6, go_sem, z0, z1, size_set, hzz]) rfl ?_
      refine retPN_some HN.out ⟨A, ca, L, cl, rfl, ?_, ?_⟩
      · refine (TtO.wide (lo := W0.heap.size) (hi := w1.heap.size) (T := T) (x := x) ?_ (Nat.le_of_lt hsz) (by simp [size_set])).neto
        repeat' (first | (refine TtO.setLow ?_ hsz _) | (refine TtO.alloc ?_ (by simp only [size_set]; exact Nat.le_refl _) _))
        exact HTT.out
      · repeat' (first | (refine Below.setCell ?_ (by simp) _) | (refine Below.alloc ?_ (by simp only [size_set]; exact Nat.le_of_lt hzz) _))
        exact HB1.out
    · have h0i : (0 : Int) < (x.trips.length : Int) := by omega
      have HN := Lib.hid (pnO_trips HO.out h0)
      clear h0
      go_wp2_with fail
      refine bodyPost_ret (v := .tuple #[.agg #[.slice none 0 0, .slice none 0 0], .bool false]) (by simp [results, Tryd.results6, go_sem, z0, z1, size_set, hzz]) rfl ?_
      refine retPN_none HN.out ?_
      repeat' (first | (refine Below.setCell ?_ (by simp) _) | (refine Below.alloc ?_ (by simp only [size_set]; exact Nat.le_of_lt hzz) _))
      exact HB1.out
end

/-! ### Sizes of what a parse answers. -/
section
open Go.ChangeShapes Go.WideShapes Go.ChangeAt Go.RowKit Go.PlainAid
set_option linter.unusedVariables false
set_option linter.unusedSimpArgs false

theorem upto_bd (f : Nat → Nat) (c : Nat) : ∀ n : Nat, (∀ k, k < n → f k ≤ c) → upto f n ≤ n * c
  | 0, _ => by simp [upto]
  | n + 1, h => by
    have h1 := upto_bd f c n (fun k hk => h k (by omega))
    have h2 := h n (by omega)
    rw [upto, Nat.succ_mul]
    omega
theorem netB_sz {x : NetD} (h : netB x = true) : szNet x ≤ 1000 ∧ Fits x := by
  have n := ntX_of h
  have h1 := upto_bd (fun j => (nthS x.stops j).size) 8 x.stops.length n.stop
  have h2 := upto_bd (fun j => szLn (nthL x.lines j)) 20 x.lines.length (fun k hk => by
    have a := n.line k hk
    have := a.name
    have := a.len
    have := a.runs
    show (nthL x.lines k).name.size + (nthL x.lines k).stops.length + (nthL x.lines k).runs.length ≤ 20
    omega)
  have a1 := n.ns
  have a2 := n.nl
  refine ⟨?_, by omega, by omega, fun k hk => by have := n.stop k hk; omega, fun k hk => ?_⟩
  · unfold szNet szSs szLns
    omega
  · have a := n.line k hk
    have := a.name
    have := a.len
    have := a.runs
    omega
theorem no_fits : szNet noNet ≤ 1000 ∧ Fits noNet := ⟨by decide, by decide, by decide, fun k hk => absurd hk (Nat.not_lt_zero _), fun k hk => absurd hk (Nat.not_lt_zero _)⟩
theorem pn_ok (l : Wd) : szNet (pnV l) ≤ 1048576 ∧ Fits (pnV l) := by
  have hh : ∀ o : Option NetD, (∀ x, o = some x → netB x = true) → szNet (o.getD noNet) ≤ 1048576 ∧ Fits (o.getD noNet) := fun o ho => by
    cases o with
    | none => exact ⟨by have := no_fits.1; simp only [Option.getD_none]; omega, no_fits.2⟩
    | some x =>
      have h2 := netB_sz (ho x rfl)
      exact ⟨by simp only [Option.getD_some]; omega, h2.2⟩
  refine hh (pnO l) fun x hx => ?_
  unfold pnO at hx
  split at hx
  · cases hx
  · rename_i y hy
    split at hx
    · simp only [Option.some.injEq] at hx
      subst hx
      exact (ttB_ok (psT_sound hy).1).1
    · cases hx
theorem pt_ok (l : Wd) : szTT (ptV l) ≤ 1048576 ∧ FitsT (ptV l) := by
  unfold ptV
  cases h : psT l with
  | none => exact ⟨by show szNet noNet + 0 ≤ _; have := no_fits.1; omega, no_fits.2, Nat.zero_le _⟩
  | some x =>
    have hv := (psT_sound h).1
    have h2 := netB_sz (ttB_ok hv).1
    have h3 := (ttB_ok hv).2.1
    refine ⟨?_, h2.2, ?_⟩
    · show szNet x.net + x.trips.length ≤ _
      omega
    · show x.trips.length ≤ _
      omega
end

/-! ### The walk of the law of ParseNetwork. -/
section
open Go.ChangeShapes Go.WideShapes Go.ChangeAt Go.RowKit Go.PlainAid
set_option linter.unusedVariables false
set_option linter.unusedSimpArgs false

set_option maxRecDepth 100000 in
set_option maxHeartbeats 4000000 in
theorem fnParseNetwork_walk (s : ByteArray) (ws : s.size ≤ maxLen) (w : World) (m : Int) (HM : ∀ w', Below w.heap.size w w' → w'.cell? ⟨0, 0, none⟩ = some (.int .i64 m)) :
    Calls Tryd.prog 3 #[.string s] w fun e w' => e = .returned (.bool true) ∧ Below w.heap.size w w' := by
  have HMH := Lib.hid HM
  clear HM
  unfold maxLen at ws
  have hb0 : Below w.heap.size w w := by go_grown
  have HB := Lib.hid hb0
  have hw0 : w.heap.size ≤ w.heap.size := hb0.size
  clear hb0
  by_cases cuts : 1048576 < s.size
  · go_enter Tryd.func3, Tryd.ntmps3
    go_wp2_with fail
    go_ret
    exact ⟨rfl, by go_grown⟩
  have rn := (pn_ok s.data.toList).1
  have rf := (pn_ok s.data.toList).2
  go_enter Tryd.func3, Tryd.ntmps3
  go_wp2_with fail
  obtain ⟨w0, rfl⟩ : ∃ w0 : World, w0 = w := ⟨_, rfl⟩
  go_wp2_with fail
  refine (specParseNetwork_any s _ (by omega)).mono ?_
  rintro e w1 ⟨wA, wca, wL, wcl, rfl, wi, hb⟩
  have hs0 := hb.size
  have hq : Below w0.heap.size w0 w1 := hb.mono (by omega)
  replace HB := Lib.hid (HB.out.trans (hq.mono hw0))
  clear hq
  clear hb
  have wH := Lib.hid wi
  clear wi
  go_wp2_with fail
  have hb : Below w1.heap.size w1 (w1.alloc (.cells #[.slice wA (pnV s.data.toList).stops.length wca, .slice wL (pnV s.data.toList).lines.length wcl] 25)) := by go_grown
  have wB : Hid (Net2 (w1.alloc (.cells #[.slice wA (pnV s.data.toList).stops.length wca, .slice wL (pnV s.data.toList).lines.length wcl] 25)) w1.heap.size (pnV s.data.toList) wA wca wL wcl) := Lib.hid (by refine ⟨?_, ?_⟩ <;> go_simp)
  have wBlt : w1.heap.size < (w1.alloc (.cells #[.slice wA (pnV s.data.toList).stops.length wca, .slice wL (pnV s.data.toList).lines.length wcl] 25)).heap.size := by simp
  generalize (w1.alloc (.cells #[.slice wA (pnV s.data.toList).stops.length wca, .slice wL (pnV s.data.toList).lines.length wcl] 25)) = w2 at *
  have hs1 := hb.size
  have hq : Below w0.heap.size w1 w2 := hb.mono (by omega)
  replace HB := Lib.hid (HB.out.trans (hq.mono hw0))
  replace wH := Lib.hid (wH.out.new_call hb (by omega))
  clear hq
  clear hb
  go_wp2_with fail
  refine (implParseNetwork_any s m _ (by omega) (fun w' h => HMH.out w' (bel_call HB.out h))).mono ?_
  rintro e w3 ⟨gA, gca, gL, gcl, rfl, gi, hb⟩
  have hs2 := hb.size
  have hq : Below w0.heap.size w2 w3 := hb.mono (by omega)
  replace HB := Lib.hid (HB.out.trans (hq.mono hw0))
  replace wH := Lib.hid (wH.out.new_call hb (by omega))
  replace wB := Lib.hid (wB.out.below hb (by omega))
  clear hq
  clear hb
  have gH := Lib.hid gi
  clear gi
  obtain ⟨cb0_0, cb0_1⟩ := wB.out
  have cl0 : w1.heap.size < w3.heap.size := by omega
  go_wp2_with fail
  have hb : Below w3.heap.size w3 (w3.alloc (.cells #[.slice gA (pnV s.data.toList).stops.length gca, .slice gL (pnV s.data.toList).lines.length gcl] 25)) := by go_grown
  have gB : Hid (Net2 (w3.alloc (.cells #[.slice gA (pnV s.data.toList).stops.length gca, .slice gL (pnV s.data.toList).lines.length gcl] 25)) w3.heap.size (pnV s.data.toList) gA gca gL gcl) := Lib.hid (by refine ⟨?_, ?_⟩ <;> go_simp)
  have gBlt : w3.heap.size < (w3.alloc (.cells #[.slice gA (pnV s.data.toList).stops.length gca, .slice gL (pnV s.data.toList).lines.length gcl] 25)).heap.size := by simp
  generalize (w3.alloc (.cells #[.slice gA (pnV s.data.toList).stops.length gca, .slice gL (pnV s.data.toList).lines.length gcl] 25)) = w4 at *
  have hs3 := hb.size
  have hq : Below w0.heap.size w3 w4 := hb.mono (by omega)
  replace HB := Lib.hid (HB.out.trans (hq.mono hw0))
  replace wH := Lib.hid (wH.out.new_call hb (by omega))
  replace wB := Lib.hid (wB.out.below hb (by omega))
  replace gH := Lib.hid (gH.out.new_call hb (by omega))
  clear hq
  clear hb
  clear cb0_0 cb0_1
  clear cl0
  obtain ⟨cb0_0, cb0_1⟩ := gB.out
  have cl0 : w3.heap.size < w4.heap.size := by omega
  obtain ⟨cb1_0, cb1_1⟩ := wB.out
  have cl1 : w1.heap.size < w4.heap.size := by omega
  go_wp2_with fail
  refine (eqNetwork_same (pnV s.data.toList) _ _ _ _ _ _ _ _ _ (gH.out.to_below (by omega)).s (gH.out.to_below (by omega)).l (wH.out.to_below (by omega)).s (wH.out.to_below (by omega)).l rf).mono ?_
  rintro e w5 ⟨rfl, hb⟩
  have hs4 := hb.size
  have hq : Below w0.heap.size w4 w5 := hb.mono (by omega)
  replace HB := Lib.hid (HB.out.trans (hq.mono hw0))
  replace wH := Lib.hid (wH.out.new_call hb (by omega))
  replace wB := Lib.hid (wB.out.below hb (by omega))
  replace gH := Lib.hid (gH.out.new_call hb (by omega))
  replace gB := Lib.hid (gB.out.below hb (by omega))
  clear hq
  clear hb
  clear cb0_0 cb0_1
  clear cl0
  clear cb1_0 cb1_1
  clear cl1
  obtain ⟨cb0_0, cb0_1⟩ := gB.out
  have cl0 : w3.heap.size < w5.heap.size := by omega
  go_wp2_with fail
  have hmk := markNetwork_res w2.heap.size w3.heap.size (pnV s.data.toList) gA gL gca gcl 1 _ gH.out (by omega) rn (by omega) (by omega)
  push_cast at hmk
  refine hmk.mono ?_
  rintro e w6 ⟨rfl, hm, gj⟩
  clear hmk
  clear cb0_0 cb0_1
  clear cl0
  clear gH
  have hs5 := hm.size
  have hq : Below w0.heap.size w5 w6 := (hm.below (by omega)).mono (by omega)
  replace HB := Lib.hid (HB.out.trans (hq.mono hw0))
  replace wH := Lib.hid (wH.out.keep fun c hc => hm.same (by have := hc.1; have := hc.2; omega) (by have := hc.1; have := hc.2; omega))
  replace wB : Hid (Net2 w6 w1.heap.size (pnV s.data.toList) wA wca wL wcl) := Lib.hid (by have hcc := wB.out; unfold Net2 at hcc ⊢; simp only [(hm.same (b := w1.heap.size) (by omega) (by omega) _).1]; exact hcc)
  replace gB : Hid (Net2 w6 w3.heap.size (pnV s.data.toList) gA gca gL gcl) := Lib.hid (by have hcc := gB.out; unfold Net2 at hcc ⊢; simp only [(hm.same (b := w3.heap.size) (by omega) (by omega) _).1]; exact hcc)
  clear hq
  clear hm
  have gM := Lib.hid gj
  clear gj
  have hkr : decide ((1 : Int) + ((cntN (pnV s.data.toList) : Nat) : Int) < 0) = false := by simp; omega
  push_cast at hkr
  obtain ⟨cb0_0, cb0_1⟩ := gB.out
  have cl0 : w3.heap.size < w6.heap.size := by omega
  go_wp2_with fail
  have hhd := heldNetwork_res (pnV s.data.toList) gA gL gca gcl 1 _ (gM.out.to_below (by omega)) rn (by omega) (by omega)
  push_cast at hhd
  refine hhd.mono ?_
  rintro e w7 ⟨rfl, hb⟩
  clear hhd
  have hs6 := hb.size
  have hq : Below w0.heap.size w6 w7 := hb.mono (by omega)
  replace HB := Lib.hid (HB.out.trans (hq.mono hw0))
  replace wH := Lib.hid (wH.out.new_call hb (by omega))
  replace wB := Lib.hid (wB.out.below hb (by omega))
  replace gB := Lib.hid (gB.out.below hb (by omega))
  replace gM := Lib.hid (gM.out.new_call hb (by omega))
  clear hq
  clear hb
  clear cb0_0 cb0_1
  clear cl0
  go_wp2_with fail
  refine (implParseNetwork_any s m _ (by omega) (fun w' h => HMH.out w' (bel_call HB.out h))).mono ?_
  rintro e w8 ⟨hA, hca, hL, hcl, rfl, hi, hb⟩
  have hs7 := hb.size
  have hq : Below w0.heap.size w7 w8 := hb.mono (by omega)
  replace HB := Lib.hid (HB.out.trans (hq.mono hw0))
  replace wH := Lib.hid (wH.out.new_call hb (by omega))
  replace wB := Lib.hid (wB.out.below hb (by omega))
  replace gB := Lib.hid (gB.out.below hb (by omega))
  replace gM := Lib.hid (gM.out.new_call hb (by omega))
  clear hq
  clear hb
  have hH := Lib.hid hi
  clear hi
  obtain ⟨cb0_0, cb0_1⟩ := wB.out
  have cl0 : w1.heap.size < w8.heap.size := by omega
  go_wp2_with fail
  have hb : Below w8.heap.size w8 (w8.alloc (.cells #[.slice hA (pnV s.data.toList).stops.length hca, .slice hL (pnV s.data.toList).lines.length hcl] 25)) := by go_grown
  have hB : Hid (Net2 (w8.alloc (.cells #[.slice hA (pnV s.data.toList).stops.length hca, .slice hL (pnV s.data.toList).lines.length hcl] 25)) w8.heap.size (pnV s.data.toList) hA hca hL hcl) := Lib.hid (by refine ⟨?_, ?_⟩ <;> go_simp)
  have hBlt : w8.heap.size < (w8.alloc (.cells #[.slice hA (pnV s.data.toList).stops.length hca, .slice hL (pnV s.data.toList).lines.length hcl] 25)).heap.size := by simp
  generalize (w8.alloc (.cells #[.slice hA (pnV s.data.toList).stops.length hca, .slice hL (pnV s.data.toList).lines.length hcl] 25)) = w9 at *
  have hs8 := hb.size
  have hq : Below w0.heap.size w8 w9 := hb.mono (by omega)
  replace HB := Lib.hid (HB.out.trans (hq.mono hw0))
  replace wH := Lib.hid (wH.out.new_call hb (by omega))
  replace wB := Lib.hid (wB.out.below hb (by omega))
  replace gB := Lib.hid (gB.out.below hb (by omega))
  replace gM := Lib.hid (gM.out.new_call hb (by omega))
  replace hH := Lib.hid (hH.out.new_call hb (by omega))
  clear hq
  clear hb
  clear cb0_0 cb0_1
  clear cl0
  obtain ⟨cb0_0, cb0_1⟩ := hB.out
  have cl0 : w8.heap.size < w9.heap.size := by omega
  obtain ⟨cb1_0, cb1_1⟩ := wB.out
  have cl1 : w1.heap.size < w9.heap.size := by omega
  go_wp2_with fail
  refine (eqNetwork_same (pnV s.data.toList) _ _ _ _ _ _ _ _ _ (hH.out.to_below (by omega)).s (hH.out.to_below (by omega)).l (wH.out.to_below (by omega)).s (wH.out.to_below (by omega)).l rf).mono ?_
  rintro e w10 ⟨rfl, hb⟩
  have hs9 := hb.size
  have hq : Below w0.heap.size w9 w10 := hb.mono (by omega)
  replace HB := Lib.hid (HB.out.trans (hq.mono hw0))
  replace wH := Lib.hid (wH.out.new_call hb (by omega))
  replace wB := Lib.hid (wB.out.below hb (by omega))
  replace gB := Lib.hid (gB.out.below hb (by omega))
  replace gM := Lib.hid (gM.out.new_call hb (by omega))
  replace hH := Lib.hid (hH.out.new_call hb (by omega))
  replace hB := Lib.hid (hB.out.below hb (by omega))
  clear hq
  clear hb
  clear cb0_0 cb0_1
  clear cl0
  clear cb1_0 cb1_1
  clear cl1
  obtain ⟨cb0_0, cb0_1⟩ := gB.out
  have cl0 : w3.heap.size < w10.heap.size := by omega
  go_wp2_with fail
  have hhd := heldNetwork_res (pnV s.data.toList) gA gL gca gcl 1 _ (gM.out.to_below (by omega)) rn (by omega) (by omega)
  push_cast at hhd
  refine hhd.mono ?_
  rintro e w11 ⟨rfl, hb⟩
  clear hhd
  have hs10 := hb.size
  have hq : Below w0.heap.size w10 w11 := hb.mono (by omega)
  replace HB := Lib.hid (HB.out.trans (hq.mono hw0))
  replace wH := Lib.hid (wH.out.new_call hb (by omega))
  replace wB := Lib.hid (wB.out.below hb (by omega))
  replace gB := Lib.hid (gB.out.below hb (by omega))
  replace gM := Lib.hid (gM.out.new_call hb (by omega))
  replace hH := Lib.hid (hH.out.new_call hb (by omega))
  replace hB := Lib.hid (hB.out.below hb (by omega))
  clear hq
  clear hb
  clear cb0_0 cb0_1
  clear cl0
  go_wp2_with fail
  go_ret
  exact ⟨rfl, HB.out⟩
end

/-! ### The walk of the law of ParseTimetable. -/
section
open Go.ChangeShapes Go.WideShapes Go.ChangeAt Go.RowKit Go.PlainAid
set_option linter.unusedVariables false
set_option linter.unusedSimpArgs false

set_option maxRecDepth 100000 in
set_option maxHeartbeats 4000000 in
theorem fnParseTimetable_walk (s : ByteArray) (ws : s.size ≤ maxLen) (w : World) (m : Int) (HM : ∀ w', Below w.heap.size w w' → w'.cell? ⟨0, 0, none⟩ = some (.int .i64 m)) :
    Calls Tryd.prog 4 #[.string s] w fun e w' => e = .returned (.bool true) ∧ Below w.heap.size w w' := by
  have HMH := Lib.hid HM
  clear HM
  unfold maxLen at ws
  have hb0 : Below w.heap.size w w := by go_grown
  have HB := Lib.hid hb0
  have hw0 : w.heap.size ≤ w.heap.size := hb0.size
  clear hb0
  by_cases cuts : 1048576 < s.size
  · go_enter Tryd.func4, Tryd.ntmps4
    go_wp2_with fail
    go_ret
    exact ⟨rfl, by go_grown⟩
  have rn := (pt_ok s.data.toList).1
  have rf := (pt_ok s.data.toList).2
  go_enter Tryd.func4, Tryd.ntmps4
  go_wp2_with fail
  obtain ⟨w0, rfl⟩ : ∃ w0 : World, w0 = w := ⟨_, rfl⟩
  go_wp2_with fail
  refine (specParseTimetable_any s _ (by omega)).mono ?_
  rintro e w1 ⟨wA, wca, wL, wcl, wT, wct, rfl, wi, hb⟩
  have hs0 := hb.size
  have hq : Below w0.heap.size w0 w1 := hb.mono (by omega)
  replace HB := Lib.hid (HB.out.trans (hq.mono hw0))
  clear hq
  clear hb
  have wH := Lib.hid wi
  clear wi
  go_wp2_with fail
  have hb : Below w1.heap.size w1 (w1.alloc (.cells #[.slice wA (ptV s.data.toList).net.stops.length wca, .slice wL (ptV s.data.toList).net.lines.length wcl, .slice wT (ptV s.data.toList).trips.length wct] 33)) := by go_grown
  have wB : Hid (Tt3 (w1.alloc (.cells #[.slice wA (ptV s.data.toList).net.stops.length wca, .slice wL (ptV s.data.toList).net.lines.length wcl, .slice wT (ptV s.data.toList).trips.length wct] 33)) w1.heap.size (ptV s.data.toList) wA wca wL wcl wT wct) := Lib.hid (by refine ⟨?_, ?_, ?_⟩ <;> go_simp)
  have wBlt : w1.heap.size < (w1.alloc (.cells #[.slice wA (ptV s.data.toList).net.stops.length wca, .slice wL (ptV s.data.toList).net.lines.length wcl, .slice wT (ptV s.data.toList).trips.length wct] 33)).heap.size := by simp
  generalize (w1.alloc (.cells #[.slice wA (ptV s.data.toList).net.stops.length wca, .slice wL (ptV s.data.toList).net.lines.length wcl, .slice wT (ptV s.data.toList).trips.length wct] 33)) = w2 at *
  have hs1 := hb.size
  have hq : Below w0.heap.size w1 w2 := hb.mono (by omega)
  replace HB := Lib.hid (HB.out.trans (hq.mono hw0))
  replace wH := Lib.hid (wH.out.new_call hb (by omega))
  clear hq
  clear hb
  go_wp2_with fail
  refine (implParseTimetable_any s m _ (by omega) (fun w' h => HMH.out w' (bel_call HB.out h))).mono ?_
  rintro e w3 ⟨gA, gca, gL, gcl, gT, gct, rfl, gi, hb⟩
  have hs2 := hb.size
  have hq : Below w0.heap.size w2 w3 := hb.mono (by omega)
  replace HB := Lib.hid (HB.out.trans (hq.mono hw0))
  replace wH := Lib.hid (wH.out.new_call hb (by omega))
  replace wB := Lib.hid (wB.out.below hb (by omega))
  clear hq
  clear hb
  have gH := Lib.hid gi
  clear gi
  obtain ⟨cb0_0, cb0_1, cb0_2⟩ := wB.out
  have cl0 : w1.heap.size < w3.heap.size := by omega
  go_wp2_with fail
  have hb : Below w3.heap.size w3 (w3.alloc (.cells #[.slice gA (ptV s.data.toList).net.stops.length gca, .slice gL (ptV s.data.toList).net.lines.length gcl, .slice gT (ptV s.data.toList).trips.length gct] 33)) := by go_grown
  have gB : Hid (Tt3 (w3.alloc (.cells #[.slice gA (ptV s.data.toList).net.stops.length gca, .slice gL (ptV s.data.toList).net.lines.length gcl, .slice gT (ptV s.data.toList).trips.length gct] 33)) w3.heap.size (ptV s.data.toList) gA gca gL gcl gT gct) := Lib.hid (by refine ⟨?_, ?_, ?_⟩ <;> go_simp)
  have gBlt : w3.heap.size < (w3.alloc (.cells #[.slice gA (ptV s.data.toList).net.stops.length gca, .slice gL (ptV s.data.toList).net.lines.length gcl, .slice gT (ptV s.data.toList).trips.length gct] 33)).heap.size := by simp
  generalize (w3.alloc (.cells #[.slice gA (ptV s.data.toList).net.stops.length gca, .slice gL (ptV s.data.toList).net.lines.length gcl, .slice gT (ptV s.data.toList).trips.length gct] 33)) = w4 at *
  have hs3 := hb.size
  have hq : Below w0.heap.size w3 w4 := hb.mono (by omega)
  replace HB := Lib.hid (HB.out.trans (hq.mono hw0))
  replace wH := Lib.hid (wH.out.new_call hb (by omega))
  replace wB := Lib.hid (wB.out.below hb (by omega))
  replace gH := Lib.hid (gH.out.new_call hb (by omega))
  clear hq
  clear hb
  clear cb0_0 cb0_1 cb0_2
  clear cl0
  obtain ⟨cb0_0, cb0_1, cb0_2⟩ := gB.out
  have cl0 : w3.heap.size < w4.heap.size := by omega
  obtain ⟨cb1_0, cb1_1, cb1_2⟩ := wB.out
  have cl1 : w1.heap.size < w4.heap.size := by omega
  go_wp2_with fail
  refine (eqTimetable_same (ptV s.data.toList) _ _ _ _ _ _ _ _ _ _ _ _ _ (gH.out.to_below (by omega)).s (gH.out.to_below (by omega)).l (gH.out.to_below (by omega)).t (wH.out.to_below (by omega)).s (wH.out.to_below (by omega)).l (wH.out.to_below (by omega)).t rf).mono ?_
  rintro e w5 ⟨rfl, hb⟩
  have hs4 := hb.size
  have hq : Below w0.heap.size w4 w5 := hb.mono (by omega)
  replace HB := Lib.hid (HB.out.trans (hq.mono hw0))
  replace wH := Lib.hid (wH.out.new_call hb (by omega))
  replace wB := Lib.hid (wB.out.below hb (by omega))
  replace gH := Lib.hid (gH.out.new_call hb (by omega))
  replace gB := Lib.hid (gB.out.below hb (by omega))
  clear hq
  clear hb
  clear cb0_0 cb0_1 cb0_2
  clear cl0
  clear cb1_0 cb1_1 cb1_2
  clear cl1
  obtain ⟨cb0_0, cb0_1, cb0_2⟩ := gB.out
  have cl0 : w3.heap.size < w5.heap.size := by omega
  go_wp2_with fail
  have hmk := markTimetable_res w2.heap.size w3.heap.size (ptV s.data.toList) gA gL gT gca gcl gct 1 _ gH.out (by omega) rn (by omega) (by omega)
  push_cast at hmk
  refine hmk.mono ?_
  rintro e w6 ⟨rfl, hm, gj⟩
  clear hmk
  clear cb0_0 cb0_1 cb0_2
  clear cl0
  clear gH
  have hs5 := hm.size
  have hq : Below w0.heap.size w5 w6 := (hm.below (by omega)).mono (by omega)
  replace HB := Lib.hid (HB.out.trans (hq.mono hw0))
  replace wH := Lib.hid (wH.out.keep fun c hc => hm.same (by have := hc.1; have := hc.2; omega) (by have := hc.1; have := hc.2; omega))
  replace wB : Hid (Tt3 w6 w1.heap.size (ptV s.data.toList) wA wca wL wcl wT wct) := Lib.hid (by have hcc := wB.out; unfold Tt3 at hcc ⊢; simp only [(hm.same (b := w1.heap.size) (by omega) (by omega) _).1]; exact hcc)
  replace gB : Hid (Tt3 w6 w3.heap.size (ptV s.data.toList) gA gca gL gcl gT gct) := Lib.hid (by have hcc := gB.out; unfold Tt3 at hcc ⊢; simp only [(hm.same (b := w3.heap.size) (by omega) (by omega) _).1]; exact hcc)
  clear hq
  clear hm
  have gM := Lib.hid gj
  clear gj
  have hkr : decide ((1 : Int) + ((cntT (ptV s.data.toList) : Nat) : Int) < 0) = false := by simp; omega
  push_cast at hkr
  obtain ⟨cb0_0, cb0_1, cb0_2⟩ := gB.out
  have cl0 : w3.heap.size < w6.heap.size := by omega
  go_wp2_with fail
  have hhd := heldTimetable_res (ptV s.data.toList) gA gL gT gca gcl gct 1 _ (gM.out.to_below (by omega)) rn (by omega) (by omega)
  push_cast at hhd
  refine hhd.mono ?_
  rintro e w7 ⟨rfl, hb⟩
  clear hhd
  have hs6 := hb.size
  have hq : Below w0.heap.size w6 w7 := hb.mono (by omega)
  replace HB := Lib.hid (HB.out.trans (hq.mono hw0))
  replace wH := Lib.hid (wH.out.new_call hb (by omega))
  replace wB := Lib.hid (wB.out.below hb (by omega))
  replace gB := Lib.hid (gB.out.below hb (by omega))
  replace gM := Lib.hid (gM.out.new_call hb (by omega))
  clear hq
  clear hb
  clear cb0_0 cb0_1 cb0_2
  clear cl0
  go_wp2_with fail
  refine (implParseTimetable_any s m _ (by omega) (fun w' h => HMH.out w' (bel_call HB.out h))).mono ?_
  rintro e w8 ⟨hA, hca, hL, hcl, hT, hct, rfl, hi, hb⟩
  have hs7 := hb.size
  have hq : Below w0.heap.size w7 w8 := hb.mono (by omega)
  replace HB := Lib.hid (HB.out.trans (hq.mono hw0))
  replace wH := Lib.hid (wH.out.new_call hb (by omega))
  replace wB := Lib.hid (wB.out.below hb (by omega))
  replace gB := Lib.hid (gB.out.below hb (by omega))
  replace gM := Lib.hid (gM.out.new_call hb (by omega))
  clear hq
  clear hb
  have hH := Lib.hid hi
  clear hi
  obtain ⟨cb0_0, cb0_1, cb0_2⟩ := wB.out
  have cl0 : w1.heap.size < w8.heap.size := by omega
  go_wp2_with fail
  have hb : Below w8.heap.size w8 (w8.alloc (.cells #[.slice hA (ptV s.data.toList).net.stops.length hca, .slice hL (ptV s.data.toList).net.lines.length hcl, .slice hT (ptV s.data.toList).trips.length hct] 33)) := by go_grown
  have hB : Hid (Tt3 (w8.alloc (.cells #[.slice hA (ptV s.data.toList).net.stops.length hca, .slice hL (ptV s.data.toList).net.lines.length hcl, .slice hT (ptV s.data.toList).trips.length hct] 33)) w8.heap.size (ptV s.data.toList) hA hca hL hcl hT hct) := Lib.hid (by refine ⟨?_, ?_, ?_⟩ <;> go_simp)
  have hBlt : w8.heap.size < (w8.alloc (.cells #[.slice hA (ptV s.data.toList).net.stops.length hca, .slice hL (ptV s.data.toList).net.lines.length hcl, .slice hT (ptV s.data.toList).trips.length hct] 33)).heap.size := by simp
  generalize (w8.alloc (.cells #[.slice hA (ptV s.data.toList).net.stops.length hca, .slice hL (ptV s.data.toList).net.lines.length hcl, .slice hT (ptV s.data.toList).trips.length hct] 33)) = w9 at *
  have hs8 := hb.size
  have hq : Below w0.heap.size w8 w9 := hb.mono (by omega)
  replace HB := Lib.hid (HB.out.trans (hq.mono hw0))
  replace wH := Lib.hid (wH.out.new_call hb (by omega))
  replace wB := Lib.hid (wB.out.below hb (by omega))
  replace gB := Lib.hid (gB.out.below hb (by omega))
  replace gM := Lib.hid (gM.out.new_call hb (by omega))
  replace hH := Lib.hid (hH.out.new_call hb (by omega))
  clear hq
  clear hb
  clear cb0_0 cb0_1 cb0_2
  clear cl0
  obtain ⟨cb0_0, cb0_1, cb0_2⟩ := hB.out
  have cl0 : w8.heap.size < w9.heap.size := by omega
  obtain ⟨cb1_0, cb1_1, cb1_2⟩ := wB.out
  have cl1 : w1.heap.size < w9.heap.size := by omega
  go_wp2_with fail
  refine (eqTimetable_same (ptV s.data.toList) _ _ _ _ _ _ _ _ _ _ _ _ _ (hH.out.to_below (by omega)).s (hH.out.to_below (by omega)).l (hH.out.to_below (by omega)).t (wH.out.to_below (by omega)).s (wH.out.to_below (by omega)).l (wH.out.to_below (by omega)).t rf).mono ?_
  rintro e w10 ⟨rfl, hb⟩
  have hs9 := hb.size
  have hq : Below w0.heap.size w9 w10 := hb.mono (by omega)
  replace HB := Lib.hid (HB.out.trans (hq.mono hw0))
  replace wH := Lib.hid (wH.out.new_call hb (by omega))
  replace wB := Lib.hid (wB.out.below hb (by omega))
  replace gB := Lib.hid (gB.out.below hb (by omega))
  replace gM := Lib.hid (gM.out.new_call hb (by omega))
  replace hH := Lib.hid (hH.out.new_call hb (by omega))
  replace hB := Lib.hid (hB.out.below hb (by omega))
  clear hq
  clear hb
  clear cb0_0 cb0_1 cb0_2
  clear cl0
  clear cb1_0 cb1_1 cb1_2
  clear cl1
  obtain ⟨cb0_0, cb0_1, cb0_2⟩ := gB.out
  have cl0 : w3.heap.size < w10.heap.size := by omega
  go_wp2_with fail
  have hhd := heldTimetable_res (ptV s.data.toList) gA gL gT gca gcl gct 1 _ (gM.out.to_below (by omega)) rn (by omega) (by omega)
  push_cast at hhd
  refine hhd.mono ?_
  rintro e w11 ⟨rfl, hb⟩
  clear hhd
  have hs10 := hb.size
  have hq : Below w0.heap.size w10 w11 := hb.mono (by omega)
  replace HB := Lib.hid (HB.out.trans (hq.mono hw0))
  replace wH := Lib.hid (wH.out.new_call hb (by omega))
  replace wB := Lib.hid (wB.out.below hb (by omega))
  replace gB := Lib.hid (gB.out.below hb (by omega))
  replace gM := Lib.hid (gM.out.new_call hb (by omega))
  replace hH := Lib.hid (hH.out.new_call hb (by omega))
  replace hB := Lib.hid (hB.out.below hb (by omega))
  clear hq
  clear hb
  clear cb0_0 cb0_1 cb0_2
  clear cl0
  go_wp2_with fail
  go_ret
  exact ⟨rfl, HB.out⟩
end
end Go.Proofs.YtpipegdjflniaaaDoor
