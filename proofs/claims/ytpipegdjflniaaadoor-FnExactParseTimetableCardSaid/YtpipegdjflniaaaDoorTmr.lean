/- Timetables that a law's function returns: marked and held. -/
import Derived.Test.YtpipegdjflniaaaDoorTtm
import Derived.Test.YtpipegdjflniaaaDoorNwa
namespace Go.Proofs.YtpipegdjflniaaaDoor
open Go.ChangeShapes Go.WideShapes Go.ChangeAt Go.RowKit Go.PlainAid
set_option linter.unusedVariables false
set_option linter.unusedSimpArgs false

/-- Marks in structs of three integers. -/
def marks3 (K n : Nat) : List I3 := (List.range n).map fun j => ⟨((K + 3 * j : Nat) : Int), ((K + 3 * j + 1 : Nat) : Int), ((K + 3 * j + 2 : Nat) : Int)⟩
theorem marks3_length (K n : Nat) : (marks3 K n).length = n := by simp [marks3]
theorem nth_marks3 {K n j : Nat} (h : j < n) : nth3 (marks3 K n) j = ⟨((K + 3 * j : Nat) : Int), ((K + 3 * j + 1 : Nat) : Int), ((K + 3 * j + 2 : Nat) : Int)⟩ := by
  unfold nth3 marks3
  rw [List.getD_eq_getElem?_getD, List.getElem?_map, List.getElem?_range h]
  rfl
set_option maxRecDepth 100000 in
set_option maxHeartbeats 1000000 in
theorem markTripS_res (lo hi : Nat) (A : Option Addr) (c : Nat) (xs : List I3) (K : Nat) (w : World) (h : I3sIn w (Zone.new lo hi) A xs) (hn : xs.length ≤ 1048576) (hK : K ≤ 1099511627776) :
    Calls Tryd.prog 24 #[.slice A xs.length c, .int .i64 (K : Nat)] w fun e w' => e = .returned (.int .i64 ((K + 3 * xs.length : Nat) : Int)) ∧ Mk lo hi w w' ∧ I3sIn w' (Zone.new lo hi) A (marks3 K xs.length) := by
  have HX := Lib.hid h
  clear h
  go_enter Tryd.func24, Tryd.ntmps24
  go_wp2
  go_loopw [1, 5] (fun s i wr => ∃ j : Nat, j ≤ xs.length ∧ i = .int .i64 j ∧ (∃ P : Nat, s = .int .i64 (P : Int) ∧ P = K + 3 * j) ∧ Mk lo hi w wr ∧ ∀ b o, A = some ⟨b, o, none⟩ → ∀ i, i < j → eI3 wr (Zone.new lo hi) b (o + i * 3) ⟨((K + 3 * i : Nat) : Int), ((K + 3 * i + 1 : Nat) : Int), ((K + 3 * i + 2 : Nat) : Int)⟩) (fun _ i _ => xs.length - (intOf i).toNat)
  case atStart => exact ⟨0, Nat.zero_le _, rfl, ⟨K, rfl, rfl⟩, Mk.refl _ _ _, fun _ _ _ i hi => by omega⟩
  case round =>
    obtain ⟨k, hk, rfl, ⟨P, rfl, hP⟩, hm, hp⟩ := hrel
    have HM := Lib.hid hm
    have HPP := Lib.hid hP
    have HPr := Lib.hid hp
    have hPl : P ≤ 1099511627776 + 3 * 1048576 := by omega
    clear hP hp
    by_cases hlt : k < xs.length
    · obtain ⟨b, o, rfl, hz, hf, hc⟩ := HX.out (by omega)
      obtain ⟨h0, h1, h2⟩ := hc k hlt
      obtain ⟨v0, hv0'⟩ := hm.int h0
      obtain ⟨v1, hv1'⟩ := hm.int h1
      obtain ⟨v2, hv2'⟩ := hm.int h2
      have hv0 : wr.cell? ⟨b, o + k * 3, none⟩ = some (.int .i64 v0) := hv0'
      have hv1 : wr.cell? ⟨b, o + k * 3 + 1, none⟩ = some (.int .i64 v1) := hv1'
      have hv2 : wr.cell? ⟨b, o + k * 3 + 2, none⟩ = some (.int .i64 v2) := hv2'
      have hfr0 : wr.frozen? ⟨b, o + k * 3, none⟩ = false := by rw [hm.free hz.1 hz.2]; exact hf trivial _
      have hfr1 : wr.frozen? ⟨b, o + k * 3 + 1, none⟩ = false := by rw [hm.free hz.1 hz.2]; exact hf trivial _
      have hfr2 : wr.frozen? ⟨b, o + k * 3 + 2, none⟩ = false := by rw [hm.free hz.1 hz.2]; exact hf trivial _
      have n1 : (wr.setCell ⟨b, o + k * 3, none⟩ (.int .i64 (P : Int))).cell? ⟨b, o + k * 3 + 1, none⟩ = some (.int .i64 v1) := by rw [World.cell?_setCell_other _ _ _ _ (addr_ne (by omega))]; exact hv1
      have n2 : ((wr.setCell ⟨b, o + k * 3, none⟩ (.int .i64 (P : Int))).setCell ⟨b, o + k * 3 + 1, none⟩ (.int .i64 ((P : Int) + 1))).cell? ⟨b, o + k * 3 + 2, none⟩ = some (.int .i64 v2) := by
        rw [World.cell?_setCell_other _ _ _ _ (addr_ne (by omega)), World.cell?_setCell_other _ _ _ _ (addr_ne (by omega))]; exact hv2
      have HM2 := Lib.hid (((HM.out.trans (Mk.set_int (j := (P : Int)) hz.1 hz.2 hv0)).trans (Mk.set_int (j := (P : Int) + 1) hz.1 hz.2 n1)).trans (Mk.set_int (j := (P : Int) + 1 + 1) hz.1 hz.2 n2))
      have HS : Hid (∀ b' o', (some ⟨b, o, none⟩ : Option Addr) = some ⟨b', o', none⟩ → ∀ i, i < k + 1 → eI3 (((wr.setCell ⟨b, o + k * 3, none⟩ (.int .i64 (P : Int))).setCell ⟨b, o + k * 3 + 1, none⟩ (.int .i64 ((P : Int) + 1))).setCell ⟨b, o + k * 3 + 2, none⟩ (.int .i64 ((P : Int) + 1 + 1))) (Zone.new lo hi) b' (o' + i * 3) ⟨((K + 3 * i : Nat) : Int), ((K + 3 * i + 1 : Nat) : Int), ((K + 3 * i + 2 : Nat) : Int)⟩) := Lib.hid (fun b' o' e i hi => by
        injection e with e
        injection e with e1 e2
        subst e1 e2
        by_cases e : i = k
        · subst e
          have hq := HPP.out
          refine ⟨?_, ?_, ?_⟩
          · rw [World.cell?_setCell_other _ _ _ _ (addr_ne (by omega)), World.cell?_setCell_other _ _ _ _ (addr_ne (by omega)), World.cell?_setCell_same _ _ _ hv0]
            subst hq; rfl
          · rw [World.cell?_setCell_other _ _ _ _ (addr_ne (by omega)), World.cell?_setCell_same _ _ _ n1]
            subst hq; rfl
          · rw [World.cell?_setCell_same _ _ _ n2]
            subst hq; rfl
        · obtain ⟨g0, g1, g2⟩ := HPr.out _ _ rfl i (by omega)
          refine ⟨?_, ?_, ?_⟩
          all_goals
            rw [World.cell?_setCell_other _ _ _ _ (addr_ne (by omega)), World.cell?_setCell_other _ _ _ _ (addr_ne (by omega)), World.cell?_setCell_other _ _ _ _ (addr_ne (by omega))]
            assumption)
      clear hm hc hf hz h0 h1 h2 hv0' hv1' hv2' n1 n2
      go_wp2
      go_roundw
      case rel => exact ⟨k + 1, by omega, by go_num, ⟨P + 1 + 1 + 1, by go_num, by have := HPP.out; omega⟩, HM2.out, HS.out⟩
      case measure => simp [intOf]; omega
    · obtain rfl : k = xs.length := by omega
      clear hm
      go_wp2
      go_ret
      refine ⟨retI (by have := HPP.out; omega), HM.out, fun hn0 => ?_⟩
      rw [marks3_length] at hn0
      obtain ⟨b, o, e, hz, hf, hc⟩ := HX.out hn0
      refine ⟨b, o, e, hz, fun hs j => by rw [HM.out.free hz.1 hz.2]; exact hf hs j, fun j hj => ?_⟩
      rw [marks3_length] at hj
      show eI3 wr (Zone.new lo hi) b (o + j * 3) (nth3 (marks3 K xs.length) j)
      rw [nth_marks3 hj]
      exact HPr.out b o e j hj

set_option maxHeartbeats 1000000 in
theorem heldTripS_any (A : Option Addr) (c n K : Nat) (w : World) (Z : Zone) (h : I3sIn w Z A (marks3 K n)) (hn : n ≤ 1048576) (hK : K ≤ 1099511627776) :
    Calls Tryd.prog 25 #[.slice A n c, .int .i64 (K : Nat)] w fun e w' => e = .returned (.int .i64 ((K + 3 * n : Nat) : Int)) ∧ w = w' := by
  have HX := Lib.hid h
  clear h
  go_enter Tryd.func25, Tryd.ntmps25
  go_wp2
  go_loopw [1, 5] (fun s i wr => ∃ j : Nat, j ≤ n ∧ i = .int .i64 j ∧ (∃ P : Nat, s = .int .i64 (P : Int) ∧ P = K + 3 * j) ∧ w = wr) (fun _ i _ => n - (intOf i).toNat)
  case atStart => exact ⟨0, Nat.zero_le _, rfl, ⟨K, rfl, rfl⟩, rfl⟩
  case round =>
    obtain ⟨k, hk, rfl, ⟨P, rfl, hP⟩, rfl⟩ := hrel
    have HPP := Lib.hid hP
    have hPl : P ≤ 1099511627776 + 3 * 1048576 := by omega
    by_cases hlt : k < n
    · obtain ⟨b, o, rfl, _, h0, h1, h2⟩ := I3sIn.at HX.out (k := k) (by rw [marks3_length]; exact hlt)
      rw [nth_marks3 hlt] at h0 h1 h2
      have e0 : w.cell? ⟨b, o + k * 3, none⟩ = some (.int .i64 (P : Int)) := by rw [h0, hP]
      have e1 : w.cell? ⟨b, o + k * 3 + 1, none⟩ = some (.int .i64 ((P : Int) + 1)) := by rw [h1, hP]; simp
      have e2 : w.cell? ⟨b, o + k * 3 + 2, none⟩ = some (.int .i64 ((P : Int) + 1 + 1)) := by rw [h2, hP]; simp; omega
      clear h0 h1 h2 hP
      go_wp2
      go_roundw
      case rel => exact ⟨k + 1, by omega, by go_num, ⟨P + 1 + 1 + 1, by go_num, by have := HPP.out; omega⟩, trivial⟩
      case measure => simp [intOf]; omega
    · obtain rfl : k = n := by omega
      clear hP
      go_wp2
      go_ret
      exact ⟨retI (by have := HPP.out; omega), rfl⟩

/-- Trips in a block of their own, apart from a network's blocks. -/
def TrO (w : World) (lo hi : Nat) (T : Option Addr) (xs : List I3) (s g n : Nat) (p r : Nat → Nat) : Prop := xs = [] ∨ ∃ b, (lo ≤ b ∧ b < hi) ∧ b ≠ s ∧ Off g n p r b ∧ I3sIn w (Zone.one b) T xs
/-- A timetable of the call's own, or an empty one. -/
def TtO (w : World) (lo hi : Nat) (x : TTD) (A L T : Option Addr) : Prop := (x.net.stops = [] ∧ x.net.lines = [] ∧ x.trips = []) ∨ ∃ s g p r, NOwn w lo hi x.net A L s g p r ∧ TrO w lo hi T x.trips s g x.net.lines.length p r
/-- A timetable, read only. -/
structure TtR (w : World) (Z : Zone) (A L T : Option Addr) (x : TTD) : Prop where
  s : StrsIn w Z A x.net.stops
  l : LinesIn w Z L x.net.lines
  t : I3sIn w Z T x.trips
/-- Its marks. -/
structure TtM (w : World) (Z : Zone) (A L T : Option Addr) (x : TTD) (K : Nat) : Prop where
  n : NetM w Z A L x.net K
  t : I3sIn w Z T (marks3 (K + cntN x.net) x.trips.length)
section
variable {w w' : World} {Z Z' : Zone} {A L T : Option Addr} {x : TTD} {lo hi B K : Nat}
theorem TtR.keep (h : TtR w Z A L T x) (hs : ∀ c, Z.ok c → Same w w' c) : TtR w' Z A L T x := ⟨h.s.keep hs, h.l.keep hs, h.t.keep hs⟩
theorem TtR.mono (h : TtR w Z A L T x) (hz : Z.le Z') : TtR w Z' A L T x := ⟨h.s.mono hz, h.l.mono hz, h.t.mono hz⟩
theorem TtR.new_call (h : TtR w (Zone.new lo hi) A L T x) (hb : Below B w w') (hB : hi ≤ B) : TtR w' (Zone.new lo hi) A L T x := ⟨h.s.new_call hb hB, h.l.new_call hb hB, h.t.new_call hb hB⟩
theorem TtR.to_below (h : TtR w (Zone.new lo hi) A L T x) (hB : hi ≤ B) : TtR w (Zone.below B) A L T x := ⟨h.s.to_below hB, h.l.to_below hB, h.t.to_below hB⟩
theorem TtM.keep (h : TtM w Z A L T x K) (hs : ∀ c, Z.ok c → Same w w' c) : TtM w' Z A L T x K := ⟨h.n.keep hs, h.t.keep hs⟩
theorem TtM.new_call (h : TtM w (Zone.new lo hi) A L T x K) (hb : Below B w w') (hB : hi ≤ B) : TtM w' (Zone.new lo hi) A L T x K := ⟨h.n.new_call hb hB, h.t.new_call hb hB⟩
theorem TtM.to_below (h : TtM w (Zone.new lo hi) A L T x K) (hB : hi ≤ B) : TtM w (Zone.below B) A L T x K := ⟨h.n.to_below hB, h.t.to_below hB⟩
theorem TrO.keep {xs : List I3} {s g n : Nat} {p r : Nat → Nat} (h : TrO w lo hi T xs s g n p r) (hs : ∀ c, lo ≤ c ∧ c < hi → Same w w' c) : TrO w' lo hi T xs s g n p r := by
  rcases h with h | ⟨b, h1, h2, h3, h4⟩
  · exact .inl h
  · exact .inr ⟨b, h1, h2, h3, h4.keep fun c hc => by rw [Zone.one_ok hc]; exact hs b h1⟩
theorem TrO.wide {lo' hi' : Nat} {xs : List I3} {s g n : Nat} {p r : Nat → Nat} (h : TrO w lo hi T xs s g n p r) (h1 : lo' ≤ lo) (h2 : hi ≤ hi') : TrO w lo' hi' T xs s g n p r := by
  rcases h with h | ⟨b, h3, h⟩
  · exact .inl h
  · exact .inr ⟨b, ⟨by omega, by omega⟩, h⟩
theorem TrO.new {xs : List I3} {s g n : Nat} {p r : Nat → Nat} (h : TrO w lo hi T xs s g n p r) : I3sIn w (Zone.new lo hi) T xs := by
  rcases h with h | ⟨b, h1, h2, h3, h4⟩
  · rw [h]; exact fun h => by simp at h
  · exact h4.mono (Zone.one_le h1.1 h1.2)
theorem TtO.keep (h : TtO w lo hi x A L T) (hs : ∀ c, lo ≤ c ∧ c < hi → Same w w' c) : TtO w' lo hi x A L T := by
  rcases h with h | ⟨s, g, p, r, h1, h2⟩
  · exact .inl h
  · exact .inr ⟨s, g, p, r, h1.keep hs, h2.keep hs⟩
theorem TtO.new_call (h : TtO w lo hi x A L T) (hb : Below B w w') (hB : hi ≤ B) : TtO w' lo hi x A L T := h.keep fun c hc => Same.of_below hb (by omega)
theorem TtO.to_new (h : TtO w lo hi x A L T) : TtR w (Zone.new lo hi) A L T x := by
  rcases h with h | ⟨s, g, p, r, h1, h2⟩
  · refine ⟨?_, ?_, ?_⟩
    · rw [h.1]; exact fun h => by simp at h
    · rw [h.2.1]; exact fun h => by simp at h
    · rw [h.2.2]; exact fun h => by simp at h
  · exact ⟨h1.stopsIn, h1.linesIn, h2.new⟩
theorem TtO.s (h : TtO w lo hi x A L T) : StrsIn w (Zone.new lo hi) A x.net.stops := h.to_new.s
theorem TtO.l (h : TtO w lo hi x A L T) : LinesIn w (Zone.new lo hi) L x.net.lines := h.to_new.l
theorem TtO.t (h : TtO w lo hi x A L T) : I3sIn w (Zone.new lo hi) T x.trips := h.to_new.t
theorem TtO.to_below (h : TtO w lo hi x A L T) (hB : hi ≤ B) : TtR w (Zone.below B) A L T x := h.to_new.to_below hB
theorem TtO.wide {lo' hi' : Nat} (h : TtO w lo hi x A L T) (h1 : lo' ≤ lo) (h2 : hi ≤ hi') : TtO w lo' hi' x A L T := by
  rcases h with h | ⟨s, g, p, r, h3, h4⟩
  · exact .inl h
  · exact .inr ⟨s, g, p, r, h3.wide h1 h2, h4.wide h1 h2⟩
theorem TtO.mono {lo' hi' : Nat} (h : TtO w lo hi x A L T) (hz : (Zone.new lo hi).le (Zone.new lo' hi')) (h1 : lo' ≤ lo) (h2 : hi ≤ hi') : TtO w lo' hi' x A L T := h.wide h1 h2
end
theorem szTT_nil {x : TTD} (h : x.net.stops = [] ∧ x.net.lines = [] ∧ x.trips = []) : szTT x = 0 := by
  unfold szTT
  rw [szNet_nil ⟨h.1, h.2.1⟩, h.2.2]
  rfl

set_option maxRecDepth 100000 in
set_option maxHeartbeats 1000000 in
theorem markTimetable_own (lo hi : Nat) (x : TTD) (A L T : Option Addr) (ca cl ct K s g : Nat) (p r : Nat → Nat) (w : World) (h : NOwn w lo hi x.net A L s g p r) (ht : TrO w lo hi T x.trips s g x.net.lines.length p r) (hh : hi ≤ w.heap.size) (hn : szTT x ≤ 1048576) (h0 : 0 < K) (hK : K ≤ 1048576 * 1048576 - 8 * 1048576) :
    Calls Tryd.prog 13 #[.agg #[.slice A x.net.stops.length ca, .slice L x.net.lines.length cl, .slice T x.trips.length ct], .int .i64 (K : Nat)] w fun e w' => e = .returned (.int .i64 ((K + cntT x : Nat) : Int)) ∧ Mk lo hi w w' ∧ TtM w' (Zone.new lo hi) A L T x K := by
  have hb : Below w.heap.size w (w.alloc (.cells #[.slice A x.net.stops.length ca, .slice L x.net.lines.length cl, .slice T x.trips.length ct] 33)) := by go_grown
  have HT := Lib.hid (ht.keep (fun c hc => Same.of_below hb (by omega)))
  have hsz : szTT x = szNet x.net + x.trips.length := rfl
  have HM0 : Hid (Mk lo hi w (w.alloc (.cells #[.slice A x.net.stops.length ca, .slice L x.net.lines.length cl, .slice T x.trips.length ct] 33))) := Lib.hid (Mk.of_below hb hh)
  have hzz : w.heap.size < (w.alloc (.cells #[.slice A x.net.stops.length ca, .slice L x.net.lines.length cl, .slice T x.trips.length ct] 33)).heap.size := by simp
  have hcl := cntN_le x.net
  have HCn : Hid (cntT x = cntN x.net + 3 * x.trips.length) := Lib.hid rfl
  have HNO := Lib.hid (h.keep (fun c hc => Same.of_below hb (by omega)))
  have hq := markNetwork_own lo hi x.net A L ca cl K s g p r _ HNO.out (Nat.le_trans hh (Nat.le_of_lt hzz)) (by omega) h0 (by omega)
  have hc1 : (w.alloc (.cells #[.slice A x.net.stops.length ca, .slice L x.net.lines.length cl, .slice T x.trips.length ct] 33)).cell? ⟨w.heap.size, 2, none⟩ = some (.slice T x.trips.length ct) := by go_simp
  push_cast at hq
  have HQ := Lib.hid hq
  have HC1 := Lib.hid hc1
  have htl : x.trips.length ≤ 1048576 := by omega
  have hnl : cntN x.net ≤ 1048576 := by omega
  have HAP := Lib.hid h.apart
  have HAT := Lib.hid h.at0
  have hgs0 := h.s0
  have hgs1 := h.s1
  clear h ht hb hsz hq hc1 hcl hn
  go_enter Tryd.func13, Tryd.ntmps13
  go_wp2_with fail
  generalize (w.alloc (.cells #[.slice A x.net.stops.length ca, .slice L x.net.lines.length cl, .slice T x.trips.length ct] 33)) = w0 at *
  refine HQ.out.mono ?_
  rintro e w1 ⟨rfl, hm1, hst1, hl1, ht1⟩
  have HM1 := Lib.hid (HM0.out.trans hm1)
  have hc1 : w1.cell? ⟨w.heap.size, 2, none⟩ = some (.slice T x.trips.length ct) := (hm1.same (b := w.heap.size) (.inr hh) hzz 2).1.trans HC1.out
  have HT1 : Hid (TrO w1 lo hi T x.trips s g x.net.lines.length p r) := Lib.hid (by
    rcases HT.out with h | ⟨b, h1, h2, h3, h4⟩
    · exact .inl h
    · exact .inr ⟨b, h1, h2, h3, h4.keep fun c hc => by rw [Zone.one_ok hc]; exact ht1 b h2 h3 (by omega)⟩)
  have HS1 := Lib.hid hst1
  have HL1 := Lib.hid hl1
  have hz1 := hm1.size
  clear hm1 hst1 hl1 ht1
  have hmt : ∃ lo' hi' : Nat, (lo ≤ lo' ∧ lo' ≤ hi' ∧ hi' ≤ hi) ∧ I3sIn w1 (Zone.new lo' hi') T x.trips ∧ (∀ t, lo' ≤ t → t < hi' → t ≠ s ∧ Off g x.net.lines.length p r t) := by
    rcases HT1.out with h | ⟨b, h1, h2, h3, h4⟩
    · exact ⟨lo, lo, by omega, by rw [h]; exact fun h => by simp at h, fun t _ _ => by omega⟩
    · exact ⟨b, b + 1, by omega, h4, fun t _ _ => by obtain rfl : t = b := by omega
                                                     exact ⟨h2, h3⟩⟩
  obtain ⟨lo', hi', hlh, hT1, hOff⟩ := hmt
  have hq := markTripS_res lo' hi' T ct x.trips (K + cntN x.net) _ hT1 (by omega) (by omega)
  push_cast at hq
  have HQ2 := Lib.hid hq
  have HOff := Lib.hid hOff
  clear hT1 hq hOff
  go_wp2_with fail
  refine HQ2.out.mono ?_
  rintro e w2 ⟨rfl, hm2, ht2⟩
  have HM2 := Lib.hid (HM1.out.trans (hm2.wider hlh.1 hlh.2.2 (by omega)))
  have hk : ∀ t, lo ≤ t → t < hi → (lo' ≤ t ∧ t < hi' → False) → Same w1 w2 t := fun t h1 h2 h3 => by
    have hq : t < lo' ∨ hi' ≤ t := by
      rcases Nat.lt_or_ge t lo' with q | q
      · exact .inl q
      · rcases Nat.lt_or_ge t hi' with q2 | q2
        · exact (h3 ⟨q, q2⟩).elim
        · exact .inr q2
    exact hm2.same hq (by omega)
  have HS2 : Hid (StrsIn w2 (Zone.one s) A (marksS K x.net.stops.length)) := Lib.hid (HS1.out.keep fun c hc => by rw [Zone.one_ok hc]; exact hk s hgs0 hgs1 (fun hh => (HOff.out s hh.1 hh.2).1 rfl))
  have HL2 : Hid (LOwn w2 g (mkdL x.net.lines (K + x.net.stops.length) x.net.lines.length) p r) := Lib.hid (by
    have ha := HAP.out
    refine HL1.out.keepP (hk g ha.g0 ha.g1 (fun hh => (HOff.out g hh.1 hh.2).2.1 rfl)) (fun j hj => ?_) (fun j hj => ?_)
    all_goals rw [mkdL_length] at hj
    · have := ha.p0 j hj
      exact hk (p j) this.1 this.2.1 (fun hh => ((HOff.out _ hh.1 hh.2).2.2 j hj).1 rfl)
    · have := ha.r0 j hj
      exact hk (r j) this.1 this.2.1 (fun hh => ((HOff.out _ hh.1 hh.2).2.2 j hj).2 rfl))
  have HT2 : Hid (I3sIn w2 (Zone.new lo hi) T (marks3 (K + cntN x.net) x.trips.length)) := Lib.hid (ht2.mono (Zone.new_le hlh.1 hlh.2.2))
  clear hm2 hc1 ht2 hk
  go_wp2_with fail
  go_ret
  refine ⟨retI (by rw [HCn.out]; push_cast; omega), HM2.out, ⟨HS2.out.mono (Zone.one_le hgs0 hgs1), ?_⟩, HT2.out⟩
  rw [HAT.out]
  refine HL2.out.lines (lo := lo) (hi := hi) ?_
  rw [mkdL_length]
  exact HAP.out

set_option maxRecDepth 100000 in
set_option maxHeartbeats 1000000 in
theorem markTimetable_res (lo hi : Nat) (x : TTD) (A L T : Option Addr) (ca cl ct K : Nat) (w : World) (h : TtO w lo hi x A L T) (hh : hi ≤ w.heap.size) (hn : szTT x ≤ 1048576) (h0 : 0 < K) (hK : K ≤ 1048576 * 1048576 - 8 * 1048576) :
    Calls Tryd.prog 13 #[.agg #[.slice A x.net.stops.length ca, .slice L x.net.lines.length cl, .slice T x.trips.length ct], .int .i64 (K : Nat)] w fun e w' => e = .returned (.int .i64 ((K + cntT x : Nat) : Int)) ∧ Mk lo hi w w' ∧ TtM w' (Zone.new lo hi) A L T x K := by
  rcases h with h | ⟨s, g, p, r, h1, h2⟩
  · refine (markTimetable_any lo hi x A L T ca cl ct K w (by rw [h.1]; exact fun h => by simp at h) (by rw [h.2.1]; exact fun h => by simp at h) (by rw [h.2.2]; exact fun h => by simp at h) hh hn h0 hK).mono ?_
    rintro e w' ⟨h1, h2⟩
    refine ⟨h1, h2, ⟨?_, ?_⟩, ?_⟩
    · intro hq; rw [marksS_length, h.1] at hq; simp at hq
    · intro hq; rw [mkdL_length, h.2.1] at hq; simp at hq
    · intro hq; rw [marks3_length, h.2.2] at hq; simp at hq
  · exact markTimetable_own lo hi x A L T ca cl ct K s g p r w h1 h2 hh hn h0 hK

set_option maxRecDepth 100000 in
set_option maxHeartbeats 1000000 in
theorem heldTimetable_res (x : TTD) (A L T : Option Addr) (ca cl ct K : Nat) (w : World) (h : TtM w (Zone.below w.heap.size) A L T x K) (hn : szTT x ≤ 1048576) (h0 : 0 < K) (hK : K ≤ 1048576 * 1048576 - 8 * 1048576) :
    Calls Tryd.prog 14 #[.agg #[.slice A x.net.stops.length ca, .slice L x.net.lines.length cl, .slice T x.trips.length ct], .int .i64 (K : Nat)] w fun e w' => e = .returned (.int .i64 ((K + cntT x : Nat) : Int)) ∧ Below w.heap.size w w' := by
  have hb : Below w.heap.size w (w.alloc (.cells #[.slice A x.net.stops.length ca, .slice L x.net.lines.length cl, .slice T x.trips.length ct] 33)) := by go_grown
  have HB := Lib.hid hb
  have HH : Hid (TtM (w.alloc (.cells #[.slice A x.net.stops.length ca, .slice L x.net.lines.length cl, .slice T x.trips.length ct] 33)) (Zone.below w.heap.size) A L T x K) := Lib.hid (h.keep (fun c hc => Same.of_below hb hc))
  have hsz : szTT x = szNet x.net + x.trips.length := rfl
  have hzz : w.heap.size < (w.alloc (.cells #[.slice A x.net.stops.length ca, .slice L x.net.lines.length cl, .slice T x.trips.length ct] 33)).heap.size := by simp
  have hcl := cntN_le x.net
  have HCn : Hid (cntT x = cntN x.net + 3 * x.trips.length) := Lib.hid rfl
  have hc1 : (w.alloc (.cells #[.slice A x.net.stops.length ca, .slice L x.net.lines.length cl, .slice T x.trips.length ct] 33)).cell? ⟨w.heap.size, 2, none⟩ = some (.slice T x.trips.length ct) := by go_simp
  have hq := heldNetwork_res x.net A L ca cl K _ ⟨HH.out.n.s.mono (Zone.below_le (Nat.le_of_lt hzz)), HH.out.n.l.mono (Zone.below_le (Nat.le_of_lt hzz))⟩ (by omega) h0 (by omega)
  push_cast at hq
  have HQ := Lib.hid hq
  have HC1 := Lib.hid hc1
  have htl : x.trips.length ≤ 1048576 := by omega
  have hnl : cntN x.net ≤ 1048576 := by omega
  clear h hb hsz hq hc1 hcl hn
  go_enter Tryd.func14, Tryd.ntmps14
  go_wp2_with fail
  generalize (w.alloc (.cells #[.slice A x.net.stops.length ca, .slice L x.net.lines.length cl, .slice T x.trips.length ct] 33)) = w0 at *
  refine HQ.out.mono ?_
  rintro e w1 ⟨rfl, hb1⟩
  have HB1 := Lib.hid (bel_call HB.out hb1)
  have hc1 : w1.cell? ⟨w.heap.size, 2, none⟩ = some (.slice T x.trips.length ct) := (hb1.cell (p := ⟨w.heap.size, 2, none⟩) hzz).trans HC1.out
  have hq := heldTripS_any T ct x.trips.length (K + cntN x.net) w1 _ (HH.out.t.keep (fun c hc => Same.of_below hb1 (Nat.lt_trans hc hzz))) htl (by omega)
  push_cast at hq
  have HQ2 := Lib.hid hq
  clear hb1 hq
  go_wp2_with fail
  refine HQ2.out.mono ?_
  rintro e w2 ⟨rfl, rfl⟩
  clear hc1
  go_wp2_with fail
  go_ret
  exact ⟨retI (by rw [HCn.out]; push_cast; omega), HB1.out⟩
/-- What a function hands back that makes a timetable: its own. -/
def RetTt (x : TTD) (b : Bool) (w : World) (e : Ending) (w' : World) : Prop :=
  ∃ A ca L cl T ct, e = .returned (.tuple #[.agg #[.slice A x.net.stops.length ca, .slice L x.net.lines.length cl, .slice T x.trips.length ct], .bool b]) ∧ TtO w' w.heap.size w'.heap.size x A L T ∧ Below w.heap.size w w'
end Go.Proofs.YtpipegdjflniaaaDoor
