/- A trip more: both sides. -/
import Derived.Test.YtambgommeannnaaTed
import Derived.Test.YtambgommeannnaaItu
import Derived.Deep.CutBlock
namespace Go.Proofs.Ytambgommeannnaa
open Go.ChangeShapes Go.WideShapes Go.ChangeAt Go.RowKit Go.PlainAid
set_option linter.unusedVariables false
set_option linter.unusedSimpArgs false

/-- A timetable and a trip that came in, and the result's block, still empty. -/
structure TU (w wr : World) (x : TTD) (A : Option Addr) (ca : Nat) (L : Option Addr) (cl : Nat) (T : Option Addr) (ct : Nat) (y : I3) : Prop where
  box : TtBox w wr w.heap.size x A ca L cl T ct
  tr : wr.cell? ⟨w.heap.size + 1, 0, none⟩ = some (.int .i64 y.a) ∧ wr.cell? ⟨w.heap.size + 1, 1, none⟩ = some (.int .i64 y.b) ∧ wr.cell? ⟨w.heap.size + 1, 2, none⟩ = some (.int .i64 y.c)
  res : wr.cell? ⟨w.heap.size + 1 + 1, 0, none⟩ = some (.slice none 0 0) ∧ wr.cell? ⟨w.heap.size + 1 + 1, 1, none⟩ = some (.slice none 0 0) ∧ wr.cell? ⟨w.heap.size + 1 + 1, 2, none⟩ = some (.slice none 0 0)
  free : ∀ j, wr.frozen? ⟨w.heap.size + 1 + 1, j, none⟩ = false
  lt : w.heap.size + 1 + 1 < wr.heap.size
section
variable {w wr w' : World} {B : Nat} {x : TTD} {A L T : Option Addr} {ca cl ct : Nat} {y : I3}
theorem TU.kept (h : TU w wr x A ca L cl T ct y) (hb : Below B wr w') (hB : w.heap.size + 1 + 1 < B) : TU w w' x A ca L cl T ct y :=
  have s : Same wr w' (w.heap.size + 1 + 1) := Same.of_below hb hB
  have s1 : Same wr w' (w.heap.size + 1) := Same.of_below hb (by omega)
  ⟨h.box.callB hb (by omega), ⟨(s1 0).1.trans h.tr.1, (s1 1).1.trans h.tr.2.1, (s1 2).1.trans h.tr.2.2⟩, ⟨(s 0).1.trans h.res.1, (s 1).1.trans h.res.2.1, (s 2).1.trans h.res.2.2⟩, fun j => (s j).2.trans (h.free j), Nat.lt_of_lt_of_le h.lt hb.size⟩
theorem TU.call (h : TU w wr x A ca L cl T ct y) (hb : Below wr.heap.size wr w') : TU w w' x A ca L cl T ct y := h.kept hb h.lt
theorem TU.alloc (h : TU w wr x A ca L cl T ct y) (o : Obj) : TU w (wr.alloc o) x A ca L cl T ct y := h.call ((Below.refl _ _).alloc (Nat.le_refl _) _)
theorem TU.start (hA : StrsIn w (Zone.below w.heap.size) A x.net.stops) (hL : LinesIn w (Zone.below w.heap.size) L x.net.lines) (hT : I3sIn w (Zone.below w.heap.size) T x.trips) :
    TU w (((w.alloc (.cells #[.slice A x.net.stops.length ca, .slice L x.net.lines.length cl, .slice T x.trips.length ct] 49)).alloc (.cells #[.int .i64 y.a, .int .i64 y.b, .int .i64 y.c] 94)).alloc (.cells #[.slice none 0 0, .slice none 0 0, .slice none 0 0] 49)) x A ca L cl T ct y :=
  ⟨((TtBox.box hA hL hT).call ((Below.refl _ _).alloc (Nat.le_refl _) _)).call ((Below.refl _ _).alloc (Nat.le_refl _) _), ⟨by go_simp, by go_simp, by go_simp⟩, ⟨by go_simp, by go_simp, by go_simp⟩, fun j => by go_simp, by simp⟩
theorem TU.bel (h : TU w wr x A ca L cl T ct y) : Below w.heap.size w wr := h.box.bel
theorem TU.has (h : TU w wr x A ca L cl T ct y) : HasC wr (w.heap.size + 1 + 1) 3 :=
  ⟨h.lt, fun j => ⟨fun hj => by
    have : j = 0 ∨ j = 1 ∨ j = 2 := by omega
    rcases this with rfl | rfl | rfl
    · rw [h.res.1]; rfl
    · rw [h.res.2.1]; rfl
    · rw [h.res.2.2]; rfl, h.free j⟩⟩
end
theorem trip_cells {w : World} {n : Nat} {y : I3} (h0 : w.cell? ⟨n, 0, none⟩ = some (.int .i64 y.a)) (h1 : w.cell? ⟨n, 1, none⟩ = some (.int .i64 y.b)) (h2 : w.cell? ⟨n, 2, none⟩ = some (.int .i64 y.c)) : ∀ j u, ([y].flatMap encI3)[j]? = some u → w.cell? ⟨n, 0 + j, none⟩ = some u := fun j u hj => by
  have hl : j < 3 := by
    have := (List.getElem?_eq_some_iff.1 hj).1
    simpa [encI3] using this
  have : j = 0 ∨ j = 1 ∨ j = 2 := by omega
  rcases this with rfl | rfl | rfl
  · simp [encI3] at hj; subst hj; rw [Nat.add_zero, h0]
  · simp [encI3] at hj; subst hj; exact h1
  · simp [encI3] at hj; subst hj; exact h2
theorem own3 {v0 v1 v2 v3 : Value} {n0 n1 n2 n3 : Nat} (h0 : v0.ownBlock = some n0) (h1 : v1.ownBlock = v0.ownBlock ∨ v1.ownBlock = some n1) (h2 : v2.ownBlock = v1.ownBlock ∨ v2.ownBlock = some n2) (h3 : v3.ownBlock = v2.ownBlock ∨ v3.ownBlock = some n3) : ∃ b, v3.ownBlock = some b := by
  have k1 : ∃ b, v1.ownBlock = some b := by
    rcases h1 with h | h
    · exact ⟨_, h.trans h0⟩
    · exact ⟨_, h⟩
  obtain ⟨b1, k1⟩ := k1
  have k2 : ∃ b, v2.ownBlock = some b := by
    rcases h2 with h | h
    · exact ⟨_, h.trans k1⟩
    · exact ⟨_, h⟩
  obtain ⟨b2, k2⟩ := k2
  rcases h3 with h | h
  · exact ⟨_, h.trans k2⟩
  · exact ⟨_, h⟩
/-- A block of three cells, still empty. -/
structure ZeroAt (b : Nat) (w : World) (g : Nat) : Prop where
  c0 : w.cell? ⟨g, 0, none⟩ = some (.slice none 0 0)
  c1 : w.cell? ⟨g, 1, none⟩ = some (.slice none 0 0)
  c2 : w.cell? ⟨g, 2, none⟩ = some (.slice none 0 0)
  fr : ∀ j, w.frozen? ⟨g, j, none⟩ = false
  lt : g < w.heap.size
  ge : b ≤ g
section
variable {b g lo hi : Nat} {w w' wz : World} {x : TTD} {A L T : Option Addr} {ca cl ct : Nat}
theorem ZeroAt.call (h : ZeroAt b w g) (hb : Below w.heap.size w w') : ZeroAt b w' g :=
  have s : Same w w' g := Same.of_below hb h.lt
  ⟨(s 0).1.trans h.c0, (s 1).1.trans h.c1, (s 2).1.trans h.c2, fun j => (s j).2.trans (h.fr j), Nat.lt_of_lt_of_le h.lt hb.size, h.ge⟩
theorem ZeroAt.laid (hw : b ≤ w.heap.size) : ZeroAt b (w.alloc (.cells #[.slice none 0 0, .slice none 0 0, .slice none 0 0] 49)) w.heap.size :=
  ⟨by go_simp, by go_simp, by go_simp, fun j => by go_simp, by simp, hw⟩
theorem zeroNew (hw : b ≤ w.heap.size) (hb : Below (w.alloc (.cells #[.slice none 0 0, .slice none 0 0, .slice none 0 0] 49)).drew.heap.size (w.alloc (.cells #[.slice none 0 0, .slice none 0 0, .slice none 0 0] 49)).drew w') : ZeroAt b w' w.heap.size :=
  have h := ZeroAt.laid hw
  ZeroAt.call (w := (w.alloc (.cells #[.slice none 0 0, .slice none 0 0, .slice none 0 0] 49)).drew) ⟨h.c0, h.c1, h.c2, h.fr, h.lt, h.ge⟩ hb
theorem zeroNew2 (hw : b ≤ w.heap.size) (hb : Below (w.alloc (.cells #[.slice none 0 0, .slice none 0 0, .slice none 0 0] 49)).heap.size (w.alloc (.cells #[.slice none 0 0, .slice none 0 0, .slice none 0 0] 49)) w') : ZeroAt b w' w.heap.size := (ZeroAt.laid hw).call hb
theorem zeroNew3 (hw : b ≤ w.heap.size) (hb : Below (w.alloc (.cells #[.slice none 0 0, .slice none 0 0, .slice none 0 0] 49)).heap.size (w.alloc (.cells #[.slice none 0 0, .slice none 0 0, .slice none 0 0] 49)) w') : ZeroAt b w' w.heap.size ∧ w.heap.size < (w.alloc (.cells #[.slice none 0 0, .slice none 0 0, .slice none 0 0] 49)).heap.size := ⟨zeroNew2 hw hb, by simp⟩
theorem zeroCall3 (h : ZeroAt b w g) (hb : Below w.heap.size w w') : ZeroAt b w' g ∧ g < w.heap.size := ⟨h.call hb, h.lt⟩
/-- A timetable that a law's function gave, in its box g. -/
structure TtHeld (w wx : World) (x : TTD) (g : Nat) (A : Option Addr) (ca : Nat) (L : Option Addr) (cl : Nat) (T : Option Addr) (ct : Nat) : Prop where
  bel : Below w.heap.size w wx
  box : Tt3 wx g x A ca L cl T ct
  own : ∃ lo hi, TtO wx lo hi x A L T ∧ w.heap.size ≤ lo ∧ lo ≤ hi ∧ hi ≤ wx.heap.size ∧ (g < lo ∨ hi ≤ g)
  g0 : w.heap.size ≤ g
  g1 : g < wx.heap.size
theorem TtHeld.laid (hb : Below w.heap.size w wz) (ho : TtO wz lo wz.heap.size x A L T) (hlo : w.heap.size ≤ lo) (hlz : lo ≤ wz.heap.size) :
    TtHeld w (wz.alloc (.cells #[.slice A x.net.stops.length ca, .slice L x.net.lines.length cl, .slice T x.trips.length ct] 49)) x wz.heap.size A ca L cl T ct :=
  ⟨bel_alloc hb _, ⟨by go_simp, by go_simp, by go_simp⟩, ⟨lo, wz.heap.size, ho.new_call ((Below.refl _ _).alloc (Nat.le_refl _) _) (Nat.le_refl _), hlo, hlz, by simp, .inr (Nat.le_refl _)⟩, hb.size, by simp⟩
theorem TtHeld.stored (hz : ZeroAt w.heap.size wz g) (hb : Below w.heap.size w wz) (ho : TtO wz lo wz.heap.size x A L T) (hlo : w.heap.size ≤ lo) (hlz : lo ≤ wz.heap.size) (hd : g < lo) :
    TtHeld w (((wz.setCell ⟨g, 0, none⟩ (.slice A x.net.stops.length ca)).setCell ⟨g, 1, none⟩ (.slice L x.net.lines.length cl)).setCell ⟨g, 2, none⟩ (.slice T x.trips.length ct)) x g A ca L cl T ct := by
  have n1 : (wz.setCell ⟨g, 0, none⟩ (.slice A x.net.stops.length ca)).cell? ⟨g, 1, none⟩ = some (.slice none 0 0) := by rw [World.cell?_setCell_other _ _ _ _ (addr_ne (by omega))]; exact hz.c1
  have n2 : ((wz.setCell ⟨g, 0, none⟩ (.slice A x.net.stops.length ca)).setCell ⟨g, 1, none⟩ (.slice L x.net.lines.length cl)).cell? ⟨g, 2, none⟩ = some (.slice none 0 0) := by
    rw [World.cell?_setCell_other _ _ _ _ (addr_ne (by omega)), World.cell?_setCell_other _ _ _ _ (addr_ne (by omega))]; exact hz.c2
  refine ⟨bel_set (bel_set (bel_set hb hz.ge _) hz.ge _) hz.ge _, ⟨?_, ?_, ?_⟩, ⟨lo, wz.heap.size, ho.keep fun c hc => ?_, hlo, hlz, by simp only [size_set]; omega, .inl hd⟩, hz.ge, by simp only [size_set]; exact hz.lt⟩
  · rw [World.cell?_setCell_other _ _ _ _ (addr_ne (by omega)), World.cell?_setCell_other _ _ _ _ (addr_ne (by omega))]
    exact World.cell?_setCell_same _ _ _ hz.c0
  · rw [World.cell?_setCell_other _ _ _ _ (addr_ne (by omega))]
    exact World.cell?_setCell_same _ _ _ n1
  · exact World.cell?_setCell_same _ _ _ n2
  · exact ((Same.set wz (p := ⟨g, 0, none⟩) (by show c ≠ g; omega) _).trans (Same.set _ (p := ⟨g, 1, none⟩) (by show c ≠ g; omega) _)).trans (Same.set _ (p := ⟨g, 2, none⟩) (by show c ≠ g; omega) _)
end
set_option maxRecDepth 100000 in
set_option maxHeartbeats 4000000 in
theorem withTrip_any (x : TTD) (y : I3) (b o ca bl ol cl bt ot ct : Nat) (w : World) (hA : StrsIn w (Zone.below w.heap.size) (some ⟨b, o, none⟩) x.net.stops) (hL : LinesIn w (Zone.below w.heap.size) (some ⟨bl, ol, none⟩) x.net.lines) (hT : I3sIn w (Zone.below w.heap.size) (some ⟨bt, ot, none⟩) x.trips) (hx : FitsT x) (hn : NetX x.net) :
    Calls Try.prog 141 #[.agg #[.slice (some ⟨b, o, none⟩) x.net.stops.length ca, .slice (some ⟨bl, ol, none⟩) x.net.lines.length cl, .slice (some ⟨bt, ot, none⟩) x.trips.length ct], .agg #[.int .i64 y.a, .int .i64 y.b, .int .i64 y.c]] w (RetTtN (withTr x (inL x.trips y)) w) := by
  have HX := Lib.hid hn
  clear hn
  obtain ⟨W0, hW0⟩ : ∃ W0, W0 = (((w.alloc (.cells #[.slice (some ⟨b, o, none⟩) x.net.stops.length ca, .slice (some ⟨bl, ol, none⟩) x.net.lines.length cl, .slice (some ⟨bt, ot, none⟩) x.trips.length ct] 49)).alloc (.cells #[.int .i64 y.a, .int .i64 y.b, .int .i64 y.c] 94)).alloc (.cells #[.slice none 0 0, .slice none 0 0, .slice none 0 0] 49)) := ⟨_, rfl⟩
  have H0 : Hid (TU w W0 x (some ⟨b, o, none⟩) ca (some ⟨bl, ol, none⟩) cl (some ⟨bt, ot, none⟩) ct y) := Lib.hid (by rw [hW0]; exact TU.start hA hL hT)
  have htl : x.trips.length ≤ 1048576 := hx.trips
  clear hA hL hT
  go_enter Try.func141, Try.ntmps141
  go_upto_region 1 with fail
  rw [← hW0]
  clear hW0
  obtain ⟨c0_0, c0_1, c0_2⟩ := H0.out.box.cells
  obtain ⟨y0, y1, y2⟩ := H0.out.tr
  have HTR := Lib.hid H0.out.box.trips0
  have hpl := plN_le x.trips y.a
  go_upto_block 0 with fail
  go_cut [5] (fun a wz => ∃ m : Nat, plN x.trips y.a = m ∧ a = .int .i64 m ∧ Dr W0 wz)
  case first =>
    go_wp2_with fail
    go_loopw [5] (fun a wz => ∃ m : Nat, m ≤ plN x.trips y.a ∧ a = .int .i64 m ∧ Dr W0 wz) (fun a _ => x.trips.length - (intOf a).toNat)
    case atStart => exact ⟨0, Nat.zero_le _, rfl, Dr.refl _⟩
    case round =>
      obtain ⟨m, hm, rfl, qq, rfl⟩ := hrel
      by_cases hlt : m < x.trips.length
      · obtain ⟨_, e0, e1, e2⟩ := I3sIn.addr HTR.out hlt
        have hik : (m : Int) < (x.trips.length : Int) := by omega
        have hm0 : (0 : Int) ≤ (m : Int) := by omega
        by_cases hpa : (nth3 x.trips m).a < y.a
        · have HPL : Hid (m + 1 ≤ plN x.trips y.a) := Lib.hid (by
            rcases Nat.lt_or_ge m (plN x.trips y.a) with h | h
            · exact h
            · have he : plN x.trips y.a = m := by omega
              have := plN_stop x.trips y.a (by omega)
              rw [he] at this
              exact absurd hpa this)
          have v1 : decide ((nth3 x.trips m).a < y.a) = true := decide_eq_true hpa
          clear hpl hm
          go_wp2_with fail
          go_quiet (fail)
          go_wp2_with fail
          go_roundw
          case rel => first | exact ⟨m + 1, HPL.out, by go_num, _, rfl⟩ | exact ⟨m + 1, HPL.out, by go_num, Dr.drewN ⟨_, rfl⟩ _⟩
          case measure => simp [intOf]; omega
        · have HPL : Hid (plN x.trips y.a = m) := Lib.hid (by
            rcases Nat.lt_or_ge m (plN x.trips y.a) with h | h
            · exact absurd (plN_lt x.trips y.a m h) hpa
            · omega)
          have v1 : decide ((nth3 x.trips m).a < y.a) = false := decide_eq_false hpa
          clear hpl hm
          go_wp2_with fail
          go_quiet (fail)
          go_wp2_with fail
          go_meet
          first | exact ⟨m, HPL.out, rfl, _, rfl⟩ | exact ⟨m, HPL.out, rfl, Dr.drewN ⟨_, rfl⟩ _⟩
      · have HPL : Hid (plN x.trips y.a = m) := Lib.hid (by omega)
        have v0 : decide ((m : Int) < (x.trips.length : Int)) = false := decide_eq_false (by omega)
        clear hpl hm
        go_wp2_with fail
        go_quiet (fail)
        go_wp2_with fail
        go_meet
        first | exact ⟨m, HPL.out, rfl, _, rfl⟩ | exact ⟨m, HPL.out, rfl, Dr.drewN ⟨_, rfl⟩ _⟩
  case rest =>
    obtain ⟨m, hm, rfl, hd⟩ := hcut
    have H1 := Lib.hid (H0.out.call (hd.below _))
    have hml : m ≤ x.trips.length := by omega
    have HIN : Hid (x.trips.take m ++ y :: x.trips.drop m = inL x.trips y) := Lib.hid (by unfold inL; rw [hm])
    clear hd hm hpl c0_0 c0_1 c0_2 y0 y1 y2
    obtain ⟨w1, hw1⟩ : ∃ w1, w1 = wc := ⟨_, rfl⟩
    subst hw1
    obtain ⟨c1_0, c1_1, c1_2⟩ := H1.out.box.cells
    have HG2 := Lib.hid (copyTT_any x b o ca bl ol cl bt ot ct w1 H1.out.box.stops H1.out.box.lines H1.out.box.trips hx HX.out)
    go_wp2_with fail
    refine HG2.out.mono ?_
    intro e w2 hr
    obtain ⟨gs, ks, g, kl, p, r, gt, kt, rfl, hn, hot, hb2⟩ := hr.n
    have H2 := Lib.hid (H1.out.call hb2)
    have hz2 := hb2.size
    have HN2 := Lib.hid hn
    have HO2 := Lib.hid hot
    clear hb2 hr hn hot c1_0 c1_1 c1_2
    go_upto_region 5 with fail
    obtain ⟨W4, hW4⟩ : ∃ W4, W4 = (w2.alloc (.cells #[.slice (some ⟨gs, 0, none⟩) x.net.stops.length ks, .slice (some ⟨g, 0, none⟩) x.net.lines.length kl, .slice (some ⟨gt, 0, none⟩) x.trips.length kt] 49)) := ⟨_, rfl⟩
    rw [← hW4]
    have H4 : Hid (TU w W4 x (some ⟨b, o, none⟩) ca (some ⟨bl, ol, none⟩) cl (some ⟨bt, ot, none⟩) ct y) := Lib.hid (by rw [hW4]; exact H2.out.alloc _)
    have HN4 : Hid (TtN W4 w1.heap.size x gs g gt p r) := Lib.hid (by rw [hW4]; exact HN2.out.alloc _)
    have HO4 : Hid (OwnT W4 w1.heap.size (.slice (some ⟨gt, 0, none⟩) x.trips.length kt) x.trips) := Lib.hid (by rw [hW4]; exact OwnE.alloc HO2.out _)
    have HOF := Lib.hid HN2.out.offEnd
    have hz4 : w2.heap.size < W4.heap.size := by rw [hW4]; simp
    have b0 : W4.cell? ⟨w2.heap.size, 0, none⟩ = some (.slice (some ⟨gs, 0, none⟩) x.net.stops.length ks) := by rw [hW4]; go_simp
    have b1 : W4.cell? ⟨w2.heap.size, 1, none⟩ = some (.slice (some ⟨g, 0, none⟩) x.net.lines.length kl) := by rw [hW4]; go_simp
    have b2 : W4.cell? ⟨w2.heap.size, 2, none⟩ = some (.slice (some ⟨gt, 0, none⟩) x.trips.length kt) := by rw [hW4]; go_simp
    have HBF : Hid (∀ j, W4.frozen? ⟨w2.heap.size, j, none⟩ = false) := Lib.hid (fun j => by rw [hW4]; go_simp)
    have HB4 := Lib.hid (And.intro b0 (And.intro b1 b2))
    have hgt0 := HN2.out.gt1
    have hgtw := HN2.out.gt0
    have hlt2 := H2.out.lt
    have hlt0 := H1.out.lt
    clear hW4
    obtain ⟨y0, y1, y2⟩ := H4.out.tr
    have HG5 := Lib.hid (insertT_any gt kt m w1.heap.size x.trips y W4 HO4.out (by omega) hml htl)
    rw [HIN.out] at HG5
    clear b0 b1
    go_wp2_with fail
    refine HG5.out.mono ?_
    rintro e w5 ⟨gt2, kt2, rfl, hi5, hg5, hl5, hz5, hk5, hb5⟩
    have HN5 : Hid (TtN w5 w1.heap.size (withTr x (inL x.trips y)) gs g gt2 p r) := Lib.hid (HN4.out.tripsAt (fun c hc hl => Same.of_blk (hk5 c hl hc)) hz5 (by omega) hl5 hi5)
    have H5 : Hid (TU w w5 x (some ⟨b, o, none⟩) ca (some ⟨bl, ol, none⟩) cl (some ⟨bt, ot, none⟩) ct y) := Lib.hid (H4.out.kept hb5 hlt0)
    have s5 : Same W4 w5 w2.heap.size := Same.of_blk (hk5 _ hz4 (by omega))
    have a0 := (s5 0).1.trans HB4.out.1
    have a1 := (s5 1).1.trans HB4.out.2.1
    have a2 := (s5 2).1.trans HB4.out.2.2
    have af := (s5 2).2.trans (HBF.out 2)
    clear hi5 hk5 hb5 s5 b2
    go_upto_region 6 with fail
    obtain ⟨W6, hW6⟩ : ∃ W6, W6 = w5.setCell ⟨w2.heap.size, 2, none⟩ (.slice (some ⟨gt2, 0, none⟩) (inL x.trips y).length kt2) := ⟨_, rfl⟩
    rw [← hW6]
    have HN6 : Hid (TtN W6 w1.heap.size (withTr x (inL x.trips y)) gs g gt2 p r) := Lib.hid (by rw [hW6]; exact HN5.out.setOff (q := ⟨w2.heap.size, 2, none⟩) HOF.out.1 HOF.out.2.1 (by show w2.heap.size ≠ gt2; omega) _)
    have H6 : Hid (TU w W6 x (some ⟨b, o, none⟩) ca (some ⟨bl, ol, none⟩) cl (some ⟨bt, ot, none⟩) ct y) := Lib.hid (by rw [hW6]; exact H5.out.kept ((Below.refl w2.heap.size w5).setCell (p := ⟨w2.heap.size, 2, none⟩) (Nat.le_refl _) _) hlt2)
    have k0 : W6.cell? ⟨w2.heap.size, 0, none⟩ = some (.slice (some ⟨gs, 0, none⟩) x.net.stops.length ks) := by rw [hW6, World.cell?_setCell_other _ _ _ _ (addr_ne (by omega))]; exact a0
    have k1 : W6.cell? ⟨w2.heap.size, 1, none⟩ = some (.slice (some ⟨g, 0, none⟩) x.net.lines.length kl) := by rw [hW6, World.cell?_setCell_other _ _ _ _ (addr_ne (by omega))]; exact a1
    have k2 : W6.cell? ⟨w2.heap.size, 2, none⟩ = some (.slice (some ⟨gt2, 0, none⟩) (inL x.trips y).length kt2) := by rw [hW6]; exact World.cell?_setCell_same _ _ _ a2
    clear hW6 a0 a1 a2 af
    obtain ⟨t0, t1, t2⟩ := H6.out.res
    have f0 := H6.out.free 0
    have f1 := H6.out.free 1
    have f2 := H6.out.free 2
    go_wp2_with fail
    refine bodyPost_ret (v := .agg #[.slice (some ⟨gs, 0, none⟩) x.net.stops.length ks, .slice (some ⟨g, 0, none⟩) x.net.lines.length kl, .slice (some ⟨gt2, 0, none⟩) (inL x.trips y).length kt2]) (by simp [results, Try.results141, go_sem, t0, t1, t2]) rfl ?_
    refine ⟨gs, ks, g, kl, p, r, gt2, kt2, rfl, ?_, ?_⟩
    · refine TtN.lower (lo := w1.heap.size) ?_ (by omega)
      repeat' (refine TtN.set ?_ (by show w.heap.size + 1 + 1 < w1.heap.size; omega) _)
      exact HN6.out
    · repeat' (refine Below.setCell ?_ (by simp <;> omega) _)
      exact H6.out.bel
set_option maxRecDepth 100000 in
set_option maxHeartbeats 4000000 in
theorem l5Put_any (x : TTD) (y : I3) (b o ca bl ol cl bt ot ct : Nat) (w : World) (hA : StrsIn w (Zone.below w.heap.size) (some ⟨b, o, none⟩) x.net.stops) (hL : LinesIn w (Zone.below w.heap.size) (some ⟨bl, ol, none⟩) x.net.lines) (hT : I3sIn w (Zone.below w.heap.size) (some ⟨bt, ot, none⟩) x.trips) (hx : FitsT x) (hn : NetX x.net) (hct : x.trips.length ≤ ct) :
    Calls Try.prog 140 #[.agg #[.slice (some ⟨b, o, none⟩) x.net.stops.length ca, .slice (some ⟨bl, ol, none⟩) x.net.lines.length cl, .slice (some ⟨bt, ot, none⟩) x.trips.length ct], .agg #[.int .i64 y.a, .int .i64 y.b, .int .i64 y.c]] w (RetTtC (withTr x (inL x.trips y)) w) := by
  have HX := Lib.hid hn
  clear hn
  obtain ⟨W0, hW0⟩ : ∃ W0, W0 = (((w.alloc (.cells #[.slice (some ⟨b, o, none⟩) x.net.stops.length ca, .slice (some ⟨bl, ol, none⟩) x.net.lines.length cl, .slice (some ⟨bt, ot, none⟩) x.trips.length ct] 49)).alloc (.cells #[.int .i64 y.a, .int .i64 y.b, .int .i64 y.c] 94)).alloc (.cells #[.slice none 0 0, .slice none 0 0, .slice none 0 0] 49)) := ⟨_, rfl⟩
  have H0 : Hid (TU w W0 x (some ⟨b, o, none⟩) ca (some ⟨bl, ol, none⟩) cl (some ⟨bt, ot, none⟩) ct y) := Lib.hid (by rw [hW0]; exact TU.start hA hL hT)
  have htl : x.trips.length ≤ 1048576 := hx.trips
  clear hA hL hT
  go_enter Try.func140, Try.ntmps140
  go_upto_region 1 with fail
  rw [← hW0]
  clear hW0
  obtain ⟨c0_0, c0_1, c0_2⟩ := H0.out.box.cells
  obtain ⟨y0, y1, y2⟩ := H0.out.tr
  have HTR := Lib.hid H0.out.box.trips0
  have hpl := plN_le x.trips y.a
  go_upto_block 0 with fail
  go_cut [5] (fun a wz => ∃ m : Nat, plN x.trips y.a = m ∧ a = .int .i64 m ∧ Dr W0 wz)
  case first =>
    go_wp2_with fail
    go_loopw [5] (fun a wz => ∃ m : Nat, m ≤ plN x.trips y.a ∧ a = .int .i64 m ∧ Dr W0 wz) (fun a _ => x.trips.length - (intOf a).toNat)
    case atStart => exact ⟨0, Nat.zero_le _, rfl, Dr.refl _⟩
    case round =>
      obtain ⟨m, hm, rfl, qq, rfl⟩ := hrel
      by_cases hlt : m < x.trips.length
      · obtain ⟨_, e0, e1, e2⟩ := I3sIn.addr HTR.out hlt
        have hik : (m : Int) < (x.trips.length : Int) := by omega
        have hm0 : (0 : Int) ≤ (m : Int) := by omega
        by_cases hpa : (nth3 x.trips m).a < y.a
        · have HPL : Hid (m + 1 ≤ plN x.trips y.a) := Lib.hid (by
            rcases Nat.lt_or_ge m (plN x.trips y.a) with h | h
            · exact h
            · have he : plN x.trips y.a = m := by omega
              have := plN_stop x.trips y.a (by omega)
              rw [he] at this
              exact absurd hpa this)
          have v1 : decide ((nth3 x.trips m).a < y.a) = true := decide_eq_true hpa
          clear hpl hm
          go_wp2_with fail
          go_quiet (fail)
          go_wp2_with fail
          go_roundw
          case rel => first | exact ⟨m + 1, HPL.out, by go_num, _, rfl⟩ | exact ⟨m + 1, HPL.out, by go_num, Dr.drewN ⟨_, rfl⟩ _⟩
          case measure => simp [intOf]; omega
        · have HPL : Hid (plN x.trips y.a = m) := Lib.hid (by
            rcases Nat.lt_or_ge m (plN x.trips y.a) with h | h
            · exact absurd (plN_lt x.trips y.a m h) hpa
            · omega)
          have v1 : decide ((nth3 x.trips m).a < y.a) = false := decide_eq_false hpa
          clear hpl hm
          go_wp2_with fail
          go_quiet (fail)
          go_wp2_with fail
          go_meet
          first | exact ⟨m, HPL.out, rfl, _, rfl⟩ | exact ⟨m, HPL.out, rfl, Dr.drewN ⟨_, rfl⟩ _⟩
      · have HPL : Hid (plN x.trips y.a = m) := Lib.hid (by omega)
        have v0 : decide ((m : Int) < (x.trips.length : Int)) = false := decide_eq_false (by omega)
        clear hpl hm
        go_wp2_with fail
        go_quiet (fail)
        go_wp2_with fail
        go_meet
        first | exact ⟨m, HPL.out, rfl, _, rfl⟩ | exact ⟨m, HPL.out, rfl, Dr.drewN ⟨_, rfl⟩ _⟩
  case rest =>
    obtain ⟨m, hm, rfl, hd⟩ := hcut
    have H1 := Lib.hid (H0.out.call (hd.below _))
    have hml : m ≤ x.trips.length := by omega
    have HIN : Hid (x.trips.take m ++ y :: x.trips.drop m = inL x.trips y) := Lib.hid (by unfold inL; rw [hm])
    clear hd hm hpl c0_0 c0_1 c0_2 y0 y1 y2
    obtain ⟨w1, hw1⟩ : ∃ w1, w1 = wc := ⟨_, rfl⟩
    subst hw1
    obtain ⟨c1_0, c1_1, c1_2⟩ := H1.out.box.cells
    have HG2 := Lib.hid (l5Own_any x b o ca bl ol cl bt ot ct w1 H1.out.box.stops H1.out.box.lines H1.out.box.trips hx HX.out)
    go_wp2_with fail
    refine HG2.out.mono ?_
    intro e w2 hr
    obtain ⟨gs, ks, g, kl, p, r, gt, kt, rfl, hn, hot, hb2⟩ := hr.n
    have H2 := Lib.hid (H1.out.call hb2)
    have hz2 := hb2.size
    have HN2 := Lib.hid hn
    have HO2 := Lib.hid hot
    clear hb2 hr hn hot c1_0 c1_1 c1_2
    go_upto_region 5 with fail
    obtain ⟨W4, hW4⟩ : ∃ W4, W4 = (w2.alloc (.cells #[.slice (some ⟨gs, 0, none⟩) x.net.stops.length ks, .slice (some ⟨g, 0, none⟩) x.net.lines.length kl, .slice (some ⟨gt, 0, none⟩) x.trips.length kt] 49)) := ⟨_, rfl⟩
    rw [← hW4]
    have H4 : Hid (TU w W4 x (some ⟨b, o, none⟩) ca (some ⟨bl, ol, none⟩) cl (some ⟨bt, ot, none⟩) ct y) := Lib.hid (by rw [hW4]; exact H2.out.alloc _)
    have HN4 : Hid (TtN W4 w1.heap.size x gs g gt p r) := Lib.hid (by rw [hW4]; exact HN2.out.alloc _)
    have HO4 : Hid (OwnT W4 w1.heap.size (.slice (some ⟨gt, 0, none⟩) x.trips.length kt) x.trips) := Lib.hid (by rw [hW4]; exact OwnE.alloc HO2.out _)
    have HOF := Lib.hid HN2.out.offEnd
    have hz4 : w2.heap.size < W4.heap.size := by rw [hW4]; simp
    have b0 : W4.cell? ⟨w2.heap.size, 0, none⟩ = some (.slice (some ⟨gs, 0, none⟩) x.net.stops.length ks) := by rw [hW4]; go_simp
    have b1 : W4.cell? ⟨w2.heap.size, 1, none⟩ = some (.slice (some ⟨g, 0, none⟩) x.net.lines.length kl) := by rw [hW4]; go_simp
    have b2 : W4.cell? ⟨w2.heap.size, 2, none⟩ = some (.slice (some ⟨gt, 0, none⟩) x.trips.length kt) := by rw [hW4]; go_simp
    have HBF : Hid (∀ j, W4.frozen? ⟨w2.heap.size, j, none⟩ = false) := Lib.hid (fun j => by rw [hW4]; go_simp)
    have HB4 := Lib.hid (And.intro b0 (And.intro b1 b2))
    have hgt0 := HN2.out.gt1
    have hgtw := HN2.out.gt0
    have hlt2 := H2.out.lt
    have hlt0 := H1.out.lt
    clear hW4
    have hmc : (m : Int) ≤ (ct : Int) := by omega
    have hmli : (m : Int) ≤ (x.trips.length : Int) := by omega
    have hlc : (x.trips.length : Int) ≤ (ct : Int) := by omega
    have hm0 : (0 : Int) ≤ (m : Int) := by omega
    obtain ⟨o2, ho2⟩ : ∃ o2 : Nat, (if ct = m then some (⟨bt, ot, none⟩ : Addr) else some ⟨bt, ot + m * 3, none⟩) = some ⟨bt, o2, none⟩ ∧ (m < x.trips.length → o2 = ot + m * 3) := by
      by_cases e : ct = m
      · exact ⟨ot, if_pos e, fun h => by omega⟩
      · exact ⟨ot + m * 3, if_neg e, fun _ => rfl⟩
    have HO2 := Lib.hid ho2
    have HRM : Hid ([] ++ x.trips.take m ++ [y] ++ x.trips.drop m = inL x.trips y) := Lib.hid (by rw [← HIN.out]; simp)
    have hE0 : OwnT (W4.alloc (.cells #[] 94)).drew W4.heap.size (.slice (some ⟨W4.heap.size, 0, none⟩) 0 0) [] := own0a (w := W4) (Nat.le_refl _)
    have hE1 : OwnT ((W4.alloc (.cells #[] 94)).alloc (.cells #[.int .i64 y.a, .int .i64 y.b, .int .i64 y.c] 94)).drew W4.heap.size (.slice (some ⟨W4.heap.size, 0, none⟩) 0 0) [] := OwnE.alloc (own0a (w := W4) (Nat.le_refl _)) _
    have hE2 : OwnT ((W4.alloc (.cells #[.int .i64 y.a, .int .i64 y.b, .int .i64 y.c] 94)).alloc (.cells #[] 94)).drew W4.heap.size (.slice (some ⟨W4.heap.size + 1, 0, none⟩) 0 0) [] := (show OwnT ((W4.alloc (.cells #[.int .i64 y.a, .int .i64 y.b, .int .i64 y.c] 94)).alloc (.cells #[] 94)) W4.heap.size (.slice (some ⟨W4.heap.size + 1, 0, none⟩) 0 0) [] by simpa using OwnE.empty (e := 94) (m := 3) (enc := encI3) (B := W4.heap.size) (w := W4.alloc (.cells #[.int .i64 y.a, .int .i64 y.b, .int .i64 y.c] 94)) (by simp))
    have hSL : SLn W4 w2.heap.size 3 W4 := ⟨Below.refl _ _, hz4, fun q => ⟨fun hq => by
      have : q = 0 ∨ q = 1 ∨ q = 2 := by omega
      rcases this with rfl | rfl | rfl
      · rw [b0]; rfl
      · rw [b1]; rfl
      · rw [b2]; rfl, HBF.out q⟩⟩
    have HC4 := Lib.hid H4.out.box.cells.2.2
    have HY4 := Lib.hid H4.out.tr
    have hC : ∀ w', SLn W4 w2.heap.size 3 w' → w'.cell? ⟨w.heap.size, 2, none⟩ = some (.slice (some ⟨bt, ot, none⟩) x.trips.length ct) ∧ w'.cell? ⟨w.heap.size + 1, 0, none⟩ = some (.int .i64 y.a) ∧ w'.cell? ⟨w.heap.size + 1, 1, none⟩ = some (.int .i64 y.b) ∧ w'.cell? ⟨w.heap.size + 1, 2, none⟩ = some (.int .i64 y.c) := fun w' h =>
      ⟨(h.bel.cell (p := ⟨w.heap.size, 2, none⟩) (by show w.heap.size < w2.heap.size; omega)).trans HC4.out, (h.bel.cell (p := ⟨w.heap.size + 1, 0, none⟩) (by show w.heap.size + 1 < w2.heap.size; omega)).trans HY4.out.1, (h.bel.cell (p := ⟨w.heap.size + 1, 1, none⟩) (by show w.heap.size + 1 < w2.heap.size; omega)).trans HY4.out.2.1, (h.bel.cell (p := ⟨w.heap.size + 1, 2, none⟩) (by show w.heap.size + 1 < w2.heap.size; omega)).trans HY4.out.2.2⟩
    have hTt : ∀ w', SLn W4 w2.heap.size 3 w' → w'.cell? ⟨w2.heap.size, 2, none⟩ = some (getC w' w2.heap.size 2) ∧ w'.frozen? ⟨w2.heap.size, 2, none⟩ = false := fun w' h => h.has.get (by omega)
    have HTQ := Lib.hid H4.out.box.trips0
    have HC : Hid (∀ w', SLn W4 w2.heap.size 3 w' → ∀ q u, (x.trips.flatMap encI3)[q]? = some u → w'.cell? ⟨bt, ot + q, none⟩ = some u) := Lib.hid (fun w' h => i3_cells (SLn.trs h HTQ.out (by omega)))
    obtain ⟨i0, hii, iz0, iz1, iz2⟩ := info_parts Try.infoTrip
    clear ho2 b0 b1 b2
    go_region_held3 (fun w' => SLn W4 w2.heap.size 3 w') (repeat' first | assumption | exact Nat.le_refl _ | (refine SLn.drew ?_) | (refine SLn.alloc ?_ _) | (refine SLn.set ?_ ?_ _))
      (first
        | (refine step_appsG (enc := encI3) (by rfl) _ _ 47 (by rfl) 24 Try.underlying47 hii iz0 iz1 iz2 rfl (by omega) (fun _ => rfl) encI3_cell (by omega) W4.heap.size _ [] (x.trips.take m) _ (by first | with_reducible exact hE0 | with_reducible exact hE1 | with_reducible exact hE2) (by rfl) bt ot _ _ (by rfl) (by simp <;> omega) (i3_take (HC.out _ (by assumption)) m) (by simp <;> omega) (by simp <;> omega) ?_; intro v1 w3 ho1 hb1 hg1 hat1; have hS1 := SLn.call2 ‹SLn W4 w2.heap.size 3 _› hb1 hz4 (by simp <;> omega); have hB1 : Below W4.heap.size W4 w3 := Below.trans (by repeat' first | assumption | exact Below.refl _ _ | exact Nat.le_refl _ | (refine bel_drew ?_) | (refine bel_alloc ?_ _)) hb1)
        | (refine step_appsG (enc := encI3) (by rfl) _ _ 47 (by rfl) 24 Try.underlying47 hii iz0 iz1 iz2 rfl (by omega) (fun _ => rfl) encI3_cell (by omega) W4.heap.size _ ([] ++ x.trips.take m) [y] _ (by first | with_reducible exact ho1 | with_reducible exact OwnE.alloc ho1 _) (by rfl) _ 0 1 1 (by rfl) (by rfl) (trip_cells (by first | (go_simp; done) | (go_simp; rfl) | exact hg1.cell (v := .int .i64 y.a) (by first | (go_simp; done) | (go_simp; rfl)) (by simp [Value.ownBlock])) (by first | (go_simp; done) | (go_simp; rfl) | exact hg1.cell (v := .int .i64 y.b) (by first | (go_simp; done) | (go_simp; rfl)) (by simp [Value.ownBlock])) (by first | (go_simp; done) | (go_simp; rfl) | exact hg1.cell (v := .int .i64 y.c) (by first | (go_simp; done) | (go_simp; rfl)) (by simp [Value.ownBlock]))) (by simp <;> omega) (by have := hB1.size; first | omega | (simp <;> omega)) ?_; intro v2 w4 ho2 hb2 hg2 hat2; have hS2 := SLn.call2 ‹SLn W4 w2.heap.size 3 _› hb2 hz4 (by have := hB1.size; first | omega | (simp <;> omega)); have hB2 : Below W4.heap.size W4 w4 := Below.trans (by repeat' first | assumption | exact Below.refl _ _ | exact Nat.le_refl _ | (refine bel_drew ?_) | (refine bel_alloc ?_ _)) hb2)
        | (refine step_appsG (enc := encI3) (by rfl) _ _ 47 (by rfl) 24 Try.underlying47 hii iz0 iz1 iz2 rfl (by omega) (fun _ => rfl) encI3_cell (by omega) W4.heap.size _ ([] ++ x.trips.take m ++ [y]) (x.trips.drop m) _ (by with_reducible exact ho2) (by rfl) bt o2 _ _ (by show Value.slice (ite _ _ _) _ _ = _; rw [HO2.out.1]) (by simp <;> omega) (i3_drop (HC.out _ (by assumption)) m HO2.out.2) (by simp <;> omega) hB2.size ?_; intro v3 w5 ho3 hb3 hg3 hat3; obtain ⟨gt2, hgt2⟩ := own3 rfl hat1 hat2 hat3; rw [HRM.out] at ho3; obtain ⟨kt2, rfl⟩ := OwnE.someB ho3 hgt2; have hS3 := SLn.call2 hS2 hb3 hz4 hB2.size; have hB3 : Below W4.heap.size W4 w5 := hB2.trans hb3)
        | fail)
    all_goals
      rw [HO2.out.1]
      have hr2 := OwnT.row ho3
      have HB2 := Lib.hid hB3
      have HN5 : Hid (TtN w5 w1.heap.size (withTr x (inL x.trips y)) gs g gt2 p r) := Lib.hid (HN4.out.tripsAt (fun c hc hl => Same.of_below hB3 hl) hB3.size (.inr hr2.ge) hr2.lt (i3_of_row hr2.cell hr2.free))
      have H5 := Lib.hid (H4.out.call hB3)
      have HNC := Lib.hid hr2.nc
      have hge2 := hr2.ge
      have s5 : Same W4 w5 w2.heap.size := Same.of_below hB3 hz4
      obtain ⟨a2, af⟩ := hTt _ hS3
      have a0 := (s5 0).1.trans HB4.out.1
      have a1 := (s5 1).1.trans HB4.out.2.1
      have hz5 := hB3.size
      clear hr2 s5 hC hTt hSL ho1 ho2 ho3 hb1 hb2 hb3 hg1 hg2 hg3 hat1 hat2 hat3 hgt2 hS1 hS2 hS3 hB1 hB2 hB3
      obtain ⟨W6, hW6⟩ : ∃ W6, W6 = w5.setCell ⟨w2.heap.size, 2, none⟩ (.slice (some ⟨gt2, 0, none⟩) (inL x.trips y).length kt2) := ⟨_, rfl⟩
      rw [← hW6]
      have HN6 : Hid (TtN W6 w1.heap.size (withTr x (inL x.trips y)) gs g gt2 p r) := Lib.hid (by rw [hW6]; exact HN5.out.setOff (q := ⟨w2.heap.size, 2, none⟩) HOF.out.1 HOF.out.2.1 (by show w2.heap.size ≠ gt2; omega) _)
      have H6 : Hid (TU w W6 x (some ⟨b, o, none⟩) ca (some ⟨bl, ol, none⟩) cl (some ⟨bt, ot, none⟩) ct y) := Lib.hid (by rw [hW6]; exact H5.out.kept ((Below.refl w2.heap.size w5).setCell (p := ⟨w2.heap.size, 2, none⟩) (Nat.le_refl _) _) hlt2)
      have k0 : W6.cell? ⟨w2.heap.size, 0, none⟩ = some (.slice (some ⟨gs, 0, none⟩) x.net.stops.length ks) := by rw [hW6, World.cell?_setCell_other _ _ _ _ (addr_ne (by omega))]; exact a0
      have k1 : W6.cell? ⟨w2.heap.size, 1, none⟩ = some (.slice (some ⟨g, 0, none⟩) x.net.lines.length kl) := by rw [hW6, World.cell?_setCell_other _ _ _ _ (addr_ne (by omega))]; exact a1
      have k2 : W6.cell? ⟨w2.heap.size, 2, none⟩ = some (.slice (some ⟨gt2, 0, none⟩) (inL x.trips y).length kt2) := by rw [hW6]; exact World.cell?_setCell_same _ _ _ a2
      clear hW6 a0 a1 a2 af
      obtain ⟨t0, t1, t2⟩ := H6.out.res
      have f0 := H6.out.free 0
      have f1 := H6.out.free 1
      have f2 := H6.out.free 2
      go_wp2_with fail
      refine bodyPost_ret (v := .agg #[.slice (some ⟨gs, 0, none⟩) x.net.stops.length ks, .slice (some ⟨g, 0, none⟩) x.net.lines.length kl, .slice (some ⟨gt2, 0, none⟩) (inL x.trips y).length kt2]) (by simp [results, Try.results140, go_sem, t0, t1, t2]) rfl ?_
      refine ⟨gs, ks, g, kl, p, r, gt2, kt2, rfl, HNC.out, ?_, ?_⟩
      · refine TtN.lower (lo := w1.heap.size) ?_ (by omega)
        repeat' (refine TtN.set ?_ (by show w.heap.size + 1 + 1 < w1.heap.size; omega) _)
        exact HN6.out
      · repeat' (refine Below.setCell ?_ (by simp <;> omega) _)
        exact H6.out.bel
end Go.Proofs.Ytambgommeannnaa
