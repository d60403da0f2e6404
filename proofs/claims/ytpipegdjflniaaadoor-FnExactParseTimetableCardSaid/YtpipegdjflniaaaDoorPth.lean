/- ParseTimetable: the program's walk -/
import Derived.Test.YtpipegdjflniaaaDoorTti
import Derived.Test.YtpipegdjflniaaaDoorTrr
import Derived.Test.YtpipegdjflniaaaDoorTmr
import Derived.Deep.CutBlock
import Derived.Deep.DeepCutAuto
import Derived.Test.YtpipegdjflniaaaDoorPtg
import Derived.BigQuiet
namespace Go.Proofs.YtpipegdjflniaaaDoor

/-! ### checkedTimetable. -/
section
open Go.ChangeShapes Go.WideShapes Go.ChangeAt Go.RowKit Go.PlainAid
set_option linter.unusedVariables false
set_option linter.unusedSimpArgs false

/-- A timetable that came in, and the result's block, still empty. -/
structure TWq (w wr : World) (x : TTD) (A : Option Addr) (ca : Nat) (L : Option Addr) (cl : Nat) (T : Option Addr) (ct : Nat) : Prop where
  box : TtBox w wr w.heap.size x A ca L cl T ct
  res : wr.cell? ⟨w.heap.size + 1, 0, none⟩ = some (.slice none 0 0) ∧ wr.cell? ⟨w.heap.size + 1, 1, none⟩ = some (.slice none 0 0) ∧ wr.cell? ⟨w.heap.size + 1, 2, none⟩ = some (.slice none 0 0)
  free : ∀ j, wr.frozen? ⟨w.heap.size + 1, j, none⟩ = false
  lt : w.heap.size + 1 < wr.heap.size
section
variable {w wr w' : World} {B : Nat} {x : TTD} {A L T : Option Addr} {ca cl ct : Nat}
theorem TWq.kept (h : TWq w wr x A ca L cl T ct) (hb : Below B wr w') (hB : w.heap.size + 1 < B) : TWq w w' x A ca L cl T ct :=
  have s : Same wr w' (w.heap.size + 1) := Same.of_below hb hB
  ⟨h.box.callB hb (by omega), ⟨(s 0).1.trans h.res.1, (s 1).1.trans h.res.2.1, (s 2).1.trans h.res.2.2⟩, fun j => (s j).2.trans (h.free j), Nat.lt_of_lt_of_le h.lt hb.size⟩
theorem TWq.call (h : TWq w wr x A ca L cl T ct) (hb : Below wr.heap.size wr w') : TWq w w' x A ca L cl T ct := h.kept hb h.lt
theorem TWq.alloc (h : TWq w wr x A ca L cl T ct) (o : Obj) : TWq w (wr.alloc o) x A ca L cl T ct := h.call ((Below.refl _ _).alloc (Nat.le_refl _) _)
theorem TWq.start (hA : StrsIn w (Zone.below w.heap.size) A x.net.stops) (hL : LinesIn w (Zone.below w.heap.size) L x.net.lines) (hT : I3sIn w (Zone.below w.heap.size) T x.trips) :
    TWq w ((w.alloc (.cells #[.slice A x.net.stops.length ca, .slice L x.net.lines.length cl, .slice T x.trips.length ct] 33)).alloc (.cells #[.slice none 0 0, .slice none 0 0, .slice none 0 0] 33)) x A ca L cl T ct :=
  ⟨(TtBox.box hA hL hT).call ((Below.refl _ _).alloc (Nat.le_refl _) _), ⟨by go_simp, by go_simp, by go_simp⟩, fun j => by go_simp, by simp⟩
theorem TWq.bel (h : TWq w wr x A ca L cl T ct) : Below w.heap.size w wr := h.box.bel
end
set_option maxRecDepth 100000 in
set_option maxHeartbeats 2000000 in
theorem chk_no (x : TTD) (A L T : Option Addr) (ca cl ct : Nat) (w : World) (hA : StrsIn w (Zone.below w.heap.size) A x.net.stops) (hL : LinesIn w (Zone.below w.heap.size) L x.net.lines) (hT : I3sIn w (Zone.below w.heap.size) T x.trips) (hx : FitsT x) (hb : ttB x = false) :
    Calls Tryd.prog 37 #[.agg #[.slice A x.net.stops.length ca, .slice L x.net.lines.length cl, .slice T x.trips.length ct]] w fun e w' => e = .returned (.tuple #[.agg #[.slice none 0 0, .slice none 0 0, .slice none 0 0], .bool false]) ∧ Below w.heap.size w w' := by
  obtain ⟨W0, hW0⟩ : ∃ W0, W0 = ((w.alloc (.cells #[.slice A x.net.stops.length ca, .slice L x.net.lines.length cl, .slice T x.trips.length ct] 33)).alloc (.cells #[.slice none 0 0, .slice none 0 0, .slice none 0 0] 33)) := ⟨_, rfl⟩
  have H0 : Hid (TWq w W0 x A ca L cl T ct) := Lib.hid (by rw [hW0]; exact TWq.start hA hL hT)
  clear hA hL hT
  go_enter Tryd.func37, Tryd.ntmps37
  go_upto_region 1 with fail
  rw [← hW0]
  clear hW0
  obtain ⟨c0, c1, c2⟩ := H0.out.box.cells
  have HG := Lib.hid (isValidTimetable_any x A L T ca cl ct W0 H0.out.box.stops H0.out.box.lines H0.out.box.trips hx)
  go_wp2_with fail
  refine HG.out.mono ?_
  rintro e w1 ⟨rfl, hb1⟩
  rw [hb]
  have H1 := Lib.hid (H0.out.call hb1)
  obtain ⟨t0, t1, t2⟩ := H1.out.res
  have f0 := H1.out.free 0
  have f1 := H1.out.free 1
  have f2 := H1.out.free 2
  clear hb1 hb c0 c1 c2
  go_wp2_with fail
  refine bodyPost_ret (v := .tuple #[.agg #[.slice none 0 0, .slice none 0 0, .slice none 0 0], .bool false]) (by simp [results, Tryd.results37, go_sem, t0, t1, t2]) rfl ?_
  refine ⟨rfl, ?_⟩
  repeat' (refine Below.setCell ?_ (by simp) _)
  exact H1.out.bel
set_option maxRecDepth 100000 in
set_option maxHeartbeats 2000000 in
theorem chk_yes (x : TTD) (A L T : Option Addr) (ca cl ct : Nat) (w : World) (hA : StrsIn w (Zone.below w.heap.size) A x.net.stops) (hL : LinesIn w (Zone.below w.heap.size) L x.net.lines) (hT : I3sIn w (Zone.below w.heap.size) T x.trips) (hx : FitsT x) (hb : ttB x = true) :
    Calls Tryd.prog 37 #[.agg #[.slice A x.net.stops.length ca, .slice L x.net.lines.length cl, .slice T x.trips.length ct]] w fun e w' => e = .returned (.tuple #[.agg #[.slice A x.net.stops.length ca, .slice L x.net.lines.length cl, .slice T x.trips.length ct], .bool true]) ∧ Below w.heap.size w w' := by
  obtain ⟨W0, hW0⟩ : ∃ W0, W0 = ((w.alloc (.cells #[.slice A x.net.stops.length ca, .slice L x.net.lines.length cl, .slice T x.trips.length ct] 33)).alloc (.cells #[.slice none 0 0, .slice none 0 0, .slice none 0 0] 33)) := ⟨_, rfl⟩
  have H0 : Hid (TWq w W0 x A ca L cl T ct) := Lib.hid (by rw [hW0]; exact TWq.start hA hL hT)
  clear hA hL hT
  go_enter Tryd.func37, Tryd.ntmps37
  go_upto_region 1 with fail
  rw [← hW0]
  clear hW0
  obtain ⟨c0, c1, c2⟩ := H0.out.box.cells
  have HG := Lib.hid (isValidTimetable_any x A L T ca cl ct W0 H0.out.box.stops H0.out.box.lines H0.out.box.trips hx)
  go_wp2_with fail
  refine HG.out.mono ?_
  rintro e w1 ⟨rfl, hb1⟩
  rw [hb]
  have H1 := Lib.hid (H0.out.call hb1)
  obtain ⟨t0, t1, t2⟩ := H1.out.res
  obtain ⟨d0, d1, d2⟩ := H1.out.box.cells
  have f0 := H1.out.free 0
  have f1 := H1.out.free 1
  have f2 := H1.out.free 2
  clear hb1 hb c0 c1 c2
  go_wp2_with fail
  refine bodyPost_ret (v := .tuple #[.agg #[.slice A x.net.stops.length ca, .slice L x.net.lines.length cl, .slice T x.trips.length ct], .bool true]) (by simp [results, Tryd.results37, go_sem, t0, t1, t2]) rfl ?_
  refine ⟨rfl, ?_⟩
  repeat' (refine Below.setCell ?_ (by simp) _)
  exact H1.out.bel
end

/-! ### impl.parseTimetable: what it answers. -/
section
open Go.ChangeShapes Go.WideShapes Go.ChangeAt Go.RowKit Go.PlainAid
set_option linter.unusedVariables false
set_option linter.unusedSimpArgs false

theorem words_at {ws : List Wd} {w : World} {Z : Zone} {b o : Nat} (h : StrsIn w Z (some ⟨b, o, none⟩) (ws.map bs)) (h0 : 0 < ws.length) : Z.ok b ∧ ∀ k, k < ws.length → w.cell? ⟨b, o + k, none⟩ = some (.string (bs (ws.getD k []))) := by
  obtain ⟨b', o', e, hb, hc⟩ := words_get h h0
  simp only [Option.some.injEq, Addr.mk.injEq, and_true] at e
  obtain ⟨rfl, rfl⟩ := e
  exact ⟨hb, hc⟩
theorem own_formN {α : Type} {e : TypeId} {m : Nat} {enc : α → List Value} {w : World} {B : Nat} {v : Value} {xs : List α} (h : OwnE e m enc w B v xs) : ∃ A n c, v = .slice A n c := by
  obtain ⟨A, c, e⟩ := own_form h
  exact ⟨A, _, c, e⟩
theorem psT_ofi {l : Wd} {P : List Wd} (h : l.length ≤ 4000 ∧ l.getLast? = some 10) (hP : P = spw 10 l.dropLast) : (gLs pcS P emT = none → psT l = none) ∧ ∀ x, gLs pcS P emT = some x → psT l = if ttB x = true then some x else none := by
  rw [← pt_eq]
  unfold pcT
  rw [if_pos h, ← hP]
  refine ⟨fun h => by rw [h], fun x h => by rw [h]⟩

set_option maxRecDepth 100000 in
set_option maxHeartbeats 8000000 in
theorem parseTimetable_any (s : ByteArray) (m : Int) (w : World) (hs : s.size ≤ 1048576) (HM : ∀ w', Below w.heap.size w w' → w'.cell? ⟨0, 0, none⟩ = some (.int .i64 m)) :
    Calls Tryd.prog 16 #[.string s] w (RetPT s.data.toList w) := by
  have HMX := Lib.hid HM
  clear HM
  obtain ⟨W0, hW0⟩ : ∃ W0, W0 = w.alloc (.cells #[.slice none 0 0, .slice none 0 0, .slice none 0 0] 33) := ⟨_, rfl⟩
  have HZ0 : Hid (TC W0 w.heap.size (.slice none 0 0) (.slice none 0 0) (.slice none 0 0)) := Lib.hid (by rw [hW0]; exact ⟨by go_simp, by go_simp, by go_simp, fun j => by go_simp, by simp⟩)
  have HB0 : Hid (Below w.heap.size w W0) := Lib.hid (by rw [hW0]; go_grown)
  obtain ⟨l, hl⟩ : ∃ l, l = s.data.toList := ⟨_, rfl⟩
  have hHR : (RetPT s.data.toList w) = RetPT l w := by rw [hl]
  rw [hHR]
  clear hHR
  by_cases hc : l.length ≤ 4000 ∧ l.getLast? = some 10
  · obtain ⟨P, hP⟩ : ∃ P, P = spw 10 l.dropLast := ⟨_, rfl⟩
    have HTL := Lib.hid (textLines_yes s m W0 hs (by rw [← hl]; exact hc) (HMX.out W0 HB0.out) P (by rw [hP, hl]))
    have HN := Lib.hid (psT_ofi hc hP).1
    have HSm := Lib.hid (psT_ofi hc hP).2
    have hPlen : P.length ≤ 4001 := by rw [hP]; have := spw_cnt 10 l.dropLast; rw [List.length_dropLast] at this; omega
    have hPpos : 0 < P.length := by rw [hP]; exact spw_pos _ _
    have HPB : Hid (∀ k, (P.getD k []).length ≤ 4000) := Lib.hid (fun k => by rw [hP]; have := spw_getle 10 l.dropLast k; rw [List.length_dropLast] at this; omega)
    clear hP hc hl
    obtain ⟨is, his, hsz0, hsz1, hsz2⟩ := info_parts Tryd.infoS
    obtain ⟨il, hil, hlz0, hlz1, hlz2⟩ := info_parts Tryd.infoLineP
    obtain ⟨it, hit, htz0, htz1, htz2⟩ := info_parts Tryd.infoTripP
    go_enter Tryd.func16, Tryd.ntmps16
    go_upto_region 1 with fail
    rw [← hW0]
    have HSZ : Hid (W0.heap.size = w.heap.size + 1) := Lib.hid (by rw [hW0]; simp)
    clear hW0
    go_wp2_with fail
    refine HTL.out.mono ?_
    rintro e w1 ⟨rfl, hi1, hb1⟩
    obtain ⟨bl, hbl⟩ : ∃ bl, bl = W0.heap.size := ⟨_, rfl⟩
    rw [← hbl] at hi1 ⊢
    obtain ⟨g, hg⟩ : ∃ g, g = w1.heap.size := ⟨_, rfl⟩
    have hwa := words_at hi1 hPpos
    have hblg : bl < g := by rw [hg]; exact hwa.1.2
    have hwbl : w.heap.size < bl := by rw [hbl, HSZ.out]; omega
    obtain ⟨W2, hW2⟩ : ∃ W2, W2 = w1.alloc (.cells #[.slice none 0 0, .slice none 0 0, .slice none 0 0] 33) := ⟨_, rfl⟩
    have hb2 : Below g w1 W2 := by rw [hW2, hg]; go_grown
    have HB2 : Hid (Below w.heap.size w W2) := Lib.hid ((HB0.out.trans (hb1.mono HB0.out.size)).trans (hb2.mono (by omega)))
    have HZ2 : Hid (TC W2 w.heap.size (.slice none 0 0) (.slice none 0 0) (.slice none 0 0)) := Lib.hid ((HZ0.out.below hb1 HZ0.out.lt).below hb2 (by omega))
    have HLc : Hid (∀ k, k < P.length → W2.cell? ⟨bl, k, none⟩ = some (.string (bs (P.getD k [])))) := Lib.hid (fun k hk => by
      rw [hb2.cell (p := ⟨bl, k, none⟩) hblg]
      have := hwa.2 k hk
      rwa [Nat.zero_add] at this)
    have H2 : Hid (PSt W2 (g + 1) g emT (.slice none 0 0) (.slice none 0 0) (.slice none 0 0) []) := Lib.hid (PSt.start (by rw [hW2, hg]; exact ⟨by go_simp, by go_simp, by go_simp, fun j => by go_simp, by simp⟩) (Nat.lt_succ_self _))
    have HG := Lib.hid hg
    clear hi1 hb1 hb2 hwa hbl hg
    go_upto_region 5 with fail
    rw [← hW2, ← HG.out]
    clear hW2
    go_wp2_with fail
    go_loopw [22] (fun v wr => ∃ (k : Nat) (x : TTD) (va vl vt : Value) (ys : List LZ), v = .int .i64 k ∧ k ≤ P.length ∧ FitX k x ∧ gLs pcS (P.drop k) x = gLs pcS P emT ∧ Below g W2 wr ∧ PSt wr (g + 1) g x va vl vt ys) (fun v _ => P.length - (intOf v).toNat)
    case atStart => exact ⟨0, emT, _, _, _, [], by go_num, Nat.zero_le _, FitX.empty, rfl, Below.refl _ _, H2.out⟩
    case round =>
      obtain ⟨k, x, va, vl, vt, ys, rfl, hk, hfx, hpe, hb3, hst3⟩ := hrel
      have HPE := Lib.hid hpe
      have HFX := Lib.hid hfx
      have HK3 := Lib.hid hb3
      have H3 := Lib.hid hst3
      clear hpe hfx hb3 hst3
      obtain ⟨wo, hwo⟩ : ∃ wo, wo = wr := ⟨_, rfl⟩
      rw [← hwo] at HK3 H3 ⊢
      clear hwo
      by_cases hlt : k < P.length
      · have hki : (k : Int) < (P.length : Int) := by omega
        have hk0 : (0 : Int) ≤ (k : Int) := by omega
        obtain ⟨pl, hpl⟩ : ∃ pl, pl = P.getD k [] := ⟨_, rfl⟩
        have HDR : Hid (P.drop k = pl :: P.drop (k + 1)) := Lib.hid (by rw [hpl]; exact drop_getW hlt)
        have hpl4 : pl.length ≤ 4000 := by rw [hpl]; exact HPB.out k
        obtain ⟨p, hp⟩ : ∃ p, p = bs pl := ⟨_, rfl⟩
        have hcp : wo.cell? ⟨bl, k, none⟩ = some (.string p) := by
          rw [hp, hpl, HK3.out.cell (p := ⟨bl, k, none⟩) hblg]
          exact HLc.out k hlt
        obtain ⟨ws, hws⟩ : ∃ ws, ws = spw 32 pl := ⟨_, rfl⟩
        have HWS := Lib.hid hws
        have HSP := split_cap p 32 m wo (by rw [hp, bs_size]; omega) (HMX.out wo (HB2.out.trans (HK3.out.mono (show w.heap.size ≤ g by omega))))
        rw [show p.data.toList = pl by rw [hp, bs_list], ← hws] at HSP
        have hwl : ws.length ≤ 4001 := by rw [hws]; have := spw_cnt 32 pl; omega
        have hw0l : 0 < ws.length := by rw [hws]; exact spw_pos 32 pl
        have HWB : Hid (∀ j, (ws.getD j []).length ≤ 4000) := Lib.hid (fun j => by rw [hws]; have := spw_getle 32 pl j; omega)
        have HRF : Hid (pcS x ws = none → psT l = none) := Lib.hid (fun h => HN.out (by
          rw [← HPE.out, HDR.out]
          show (match pcS x (spw 32 pl) with | none => none | some y => gLs pcS (P.drop (k + 1)) y) = none
          rw [← hws, h]))
        have HRS : Hid (∀ y, pcS x ws = some y → gLs pcS (P.drop (k + 1)) y = gLs pcS P emT) := Lib.hid (fun y h => by
          rw [← HPE.out, HDR.out]
          show _ = (match pcS x (spw 32 pl) with | none => none | some y => gLs pcS (P.drop (k + 1)) y)
          rw [← hws, h])
        have HSP := Lib.hid HSP
        have hgwo : g < wo.heap.size := H3.out.c.lt
        obtain ⟨bw, hbw⟩ : ∃ bw, bw = wo.heap.size := ⟨_, rfl⟩
        rw [← hbw] at HSP
        have hgbw : g < bw := by omega
        have HBW := Lib.hid hbw
        clear hpl hp hws hbw
        go_wp2_with fail
        refine HSP.out.mono ?_
        rintro e w4 ⟨rfl, hi4, hb4⟩
        rw [HBW.out] at hb4
        have H4 := Lib.hid (H3.out.call hb4)
        have HK4 := Lib.hid (HK3.out.trans (hb4.mono (Nat.le_of_lt hgwo)))
        have HW4 : Hid (∀ j, j < ws.length → w4.cell? ⟨bw, j, none⟩ = some (.string (bs (ws.getD j [])))) := Lib.hid (fun j hj => by have := (words_at hi4 hw0l).2 j hj; rwa [Nat.zero_add] at this)
        have hbw4 : bw < w4.heap.size := (words_at hi4 hw0l).1.2
        have HI4 := Lib.hid (hi4.to_below (Nat.le_refl w4.heap.size))
        clear hi4 hb4 hcp
        obtain ⟨p0, hp0⟩ : ∃ p0, p0 = bs (ws.getD 0 []) := ⟨_, rfl⟩
        have hw0 : w4.cell? ⟨bw, 0, none⟩ = some (.string p0) := by rw [hp0]; exact HW4.out 0 hw0l
        have HP0 := Lib.hid hp0
        clear hp0
        have HTL0 : Hid (p0.toList = ws.getD 0 []) := Lib.hid (by rw [ByteArray.toList_eq, HP0.out, bs_list])
        obtain ⟨A, ca, L, cl, T, ct, rfl, rfl, rfl, hrA, hrL, hrT⟩ := H4.out.reads
        have HRA := Lib.hid hrA
        have HRL := Lib.hid hrL
        have HRT := Lib.hid hrT
        clear hrA hrL hrT
        obtain ⟨c0, c1, c2, cf, cl4⟩ := H4.out.c
        have cf0 := cf 0
        have cf1 := cf 1
        have cf2 := cf 2
        have hgz : g < w4.heap.size := cl4
        have hfn := HFX.out.ns
        have hfl := HFX.out.nl
        have hft := HFX.out.nt
        have hn1 : x.net.stops.length ≤ 16777215 := by omega
        have hn2 : x.net.stops.length ≤ 1048576 := by omega
        have hl1 : x.net.lines.length ≤ 1048576 := by omega
        have ht1 : x.trips.length ≤ 1048576 := by omega
        have ht2 : x.trips.length ≤ 16777216 := by omega
        clear hfn hfl hft cf
        by_cases hst : ws.getD 0 [] = stopW
        · have v1 : (p0.toList == [115, 116, 111, 112]) = true := by rw [HTL0.out, hst]; rfl
          have HS0 := Lib.hid hst
          clear hst
          by_cases hok : ws.length = 2 ∧ x.net.lines.length = 0 ∧ x.trips.length = 0
          · obtain ⟨p1, hp1⟩ : ∃ p1, p1 = bs (ws.getD 1 []) := ⟨_, rfl⟩
            have HPY : Hid (pcS x ws = some (adStop x p1)) := Lib.hid (by unfold pcS; rw [if_pos HS0.out, if_pos hok, hp1])
            have hp1s : p1.size ≤ 8192 := by rw [hp1, bs_size]; have := HWB.out 1; omega
            have HW1 : Hid (w4.cell? ⟨bw, 1, none⟩ = some (.string p1)) := Lib.hid (by rw [hp1]; exact HW4.out 1 (by omega))
            have hw2i : ((ws.length : Int) == 2) = true := by rw [hok.1]; rfl
            have hw2d : (ws.length : Int) = 2 := by rw [hok.1]; rfl
            have hl0i : ((x.net.lines.length : Int) == 0) = true := by rw [hok.2.1]; rfl
            have ht0i : ((x.trips.length : Int) == 0) = true := by rw [hok.2.2]; rfl
            have hws1 : (1 : Int) < (ws.length : Int) := by omega
            have hws1n : 1 < ws.length := by omega
            clear hp1 hok hw2d
            have hvg : (Value.slice A x.net.stops.length ca).ownBlock ≠ some g := own_ne H4.out.s H4.out.gB
            have hbwg : bw ≠ g := by omega
            have hvw : (Value.slice A x.net.stops.length ca).ownBlock ≠ some bw := fun e => by have := (own_lt H3.out.s bw e).2; rw [← HBW.out] at this; omega
            have hW1 : ∀ w', SG w4 g 0 (.slice A x.net.stops.length ca) w' → w'.cell? ⟨bw, 1, none⟩ = some (.string p1) := fun w' h => ((Same.of_blk (h.keep bw hbw4 hbwg hvw)) 1).1.trans HW1.out
            go_upto_region 14 with fail
            refine wp_region_held_drew (S := fun w' => SG w4 g 0 (.slice A x.net.stops.length ca) w') (by kernel_rfl) (SG.drew (SG.refl _ _ _ _)) (fun hHeld => ?_)
            refine wpAnyH_take (i := 0) (v := ?_) rfl (by kernel_rfl) (by kernel_rfl) (by kernel_rfl) (fun _ _ _ h => h) (Or.inl ⟨by rfl, ?_⟩) hHeld ?_
            rotate_left 1
            · intro w hSw; (try dsimp only at hSw); first | (go_simp; done) | (go_simp; with_reducible rfl) | (go_simp; rfl)
            try simp only [Act.put, List.getElem_toArray, List.getElem_cons_succ, List.getElem_cons_zero, List.setIfInBounds_toArray, List.set_cons_zero, List.set_cons_succ]
            refine wpAnyH_take (i := 1) (v := ?_) rfl (by kernel_rfl) (by kernel_rfl) (by kernel_rfl) (fun _ _ _ h => h) (Or.inl ⟨by rfl, ?_⟩) hHeld ?_
            rotate_left 1
            · intro w hSw; (try dsimp only at hSw); first | (go_simp; done) | (go_simp; with_reducible rfl) | (go_simp; rfl)
            try simp only [Act.put, List.getElem_toArray, List.getElem_cons_succ, List.getElem_cons_zero, List.setIfInBounds_toArray, List.set_cons_zero, List.set_cons_succ]
            refine wpAnyH_take (i := 3) (v := ?_) rfl (by kernel_rfl) (by kernel_rfl) (by kernel_rfl) (fun _ _ _ h => h) (Or.inl ⟨by rfl, ?_⟩) hHeld ?_
            rotate_left 1
            · intro w hSw; (try dsimp only at hSw); first | (go_simp; done) | (go_simp; with_reducible rfl) | (go_simp; rfl)
            try simp only [Act.put, List.getElem_toArray, List.getElem_cons_succ, List.getElem_cons_zero, List.setIfInBounds_toArray, List.set_cons_zero, List.set_cons_succ]
            refine wpAnyH_take (i := 4) (v := ?_) rfl (by kernel_rfl) (by kernel_rfl) (by kernel_rfl) (fun _ _ _ h => h) (Or.inl ⟨by rfl, ?_⟩) hHeld ?_
            rotate_left 1
            · intro w hSw; (try dsimp only at hSw); first | (go_simp; done) | (go_simp; with_reducible rfl) | (go_simp; rfl)
            try simp only [Act.put, List.getElem_toArray, List.getElem_cons_succ, List.getElem_cons_zero, List.setIfInBounds_toArray, List.set_cons_zero, List.set_cons_succ]
            refine wpAnyH_take (i := 5) (v := ?_) rfl (by kernel_rfl) (by kernel_rfl) (by kernel_rfl) (fun _ _ _ h => h) (Or.inl ⟨by rfl, ?_⟩) hHeld ?_
            rotate_left 1
            · intro w hSw; (try dsimp only at hSw); first | (go_simp; done) | (go_simp; with_reducible rfl) | (go_simp; rfl)
            try simp only [Act.put, List.getElem_toArray, List.getElem_cons_succ, List.getElem_cons_zero, List.setIfInBounds_toArray, List.set_cons_zero, List.set_cons_succ]
            refine wpAnyH_ready (rs := [2, 6]) (by kernel_rfl) (by simp) ?_
            refine AllReadyH.cons rfl (fun K hK => ?_) (AllReadyH.cons rfl (fun K hK => ?_) (AllReadyH.nil))
            · go_simp
              refine hK.out _ _ ?_ (fun hHeld => ?_)
              · repeat' first | assumption | exact SG.refl _ _ _ _ | (refine SG.drew ?_) | (refine SG.alloc ?_ hgz _) | (refine SG.set ?_ _)
              clear hK K
              try simp only [Act.put, List.getElem_toArray, List.getElem_cons_succ, List.getElem_cons_zero, List.setIfInBounds_toArray, List.set_cons_zero, List.set_cons_succ]
              refine wpAnyH_ready (rs := [6]) (by kernel_rfl) (by simp) ?_
              refine AllReadyH.cons rfl (fun K hK => ?_) (AllReadyH.nil)
              go_simp
              refine hK.out _ _ ?_ (fun hHeld => ?_)
              · repeat' first | assumption | exact SG.refl _ _ _ _ | (refine SG.drew ?_) | (refine SG.alloc ?_ hgz _) | (refine SG.set ?_ _)
              clear hK K
              try simp only [Act.put, List.getElem_toArray, List.getElem_cons_succ, List.getElem_cons_zero, List.setIfInBounds_toArray, List.set_cons_zero, List.set_cons_succ]
              refine wpAnyH_ready (rs := [7]) (by kernel_rfl) (by simp) ?_
              refine AllReadyH.cons rfl (fun K hK => ?_) (AllReadyH.nil)
              refine step_appsX (enc := encS) (by rfl) _ _ 22 (by rfl) 16 Tryd.underlying22 his hsz0 hsz1 hsz2 rfl (by omega) (fun _ => rfl) (fun y u hu => by simp [encS] at hu; subst hu; rfl) (by omega) (g + 1) _ x.net.stops p1 _ (OwnE.call H4.out.s (bel_alloc (bel_drew (Below.refl w4.heap.size w4)) _)) (by rfl) _ (by rfl) (one_cell (by go_simp)) hn1 (by simp; omega) ?_
              intro v8 w8 ho8 hb8 hg8 hat8
              have hS8 := SG.grown hHeld hg8 hgz hvg
              have hV8 : w8.cell? ⟨g, 0, none⟩ = some (.slice A x.net.stops.length ca) := ((Same.of_blk (hg8.block g (by simp; omega) (fun e => hvg e.symm))) 0).1.trans (by go_simp)
              have hF8 : w8.frozen? ⟨g, 0, none⟩ = false := (hS8.free 0).trans cf0
              obtain ⟨A8, n8, c8, rfl⟩ := own_formN ho8
              refine hK.out _ _ ?_ (fun hHeld => ?_)
              · repeat' first | assumption | exact SG.refl _ _ _ _ | (refine SG.drew ?_) | (refine SG.alloc ?_ hgz _) | (refine SG.set ?_ _)
              clear hK K
              try simp only [Act.put, List.getElem_toArray, List.getElem_cons_succ, List.getElem_cons_zero, List.setIfInBounds_toArray, List.set_cons_zero, List.set_cons_succ]
              refine wpAnyH_take (i := 8) (v := ?_) rfl (by kernel_rfl) (by kernel_rfl) (by kernel_rfl) (fun _ _ _ h => h) (Or.inl ⟨by rfl, ?_⟩) hHeld ?_
              rotate_left 1
              · intro w hSw; (try dsimp only at hSw); first | (go_simp; done) | (go_simp; with_reducible rfl) | (go_simp; rfl)
              try simp only [Act.put, List.getElem_toArray, List.getElem_cons_succ, List.getElem_cons_zero, List.setIfInBounds_toArray, List.set_cons_zero, List.set_cons_succ]
              refine wpAnyH_take (i := 9) (v := ?_) rfl (by kernel_rfl) (by kernel_rfl) (by kernel_rfl) (fun _ _ _ h => h) (Or.inl ⟨by rfl, ?_⟩) hHeld ?_
              rotate_left 1
              · intro w hSw; (try dsimp only at hSw); first | (go_simp; done) | (go_simp; with_reducible rfl) | (go_simp; rfl)
              try simp only [Act.put, List.getElem_toArray, List.getElem_cons_succ, List.getElem_cons_zero, List.setIfInBounds_toArray, List.set_cons_zero, List.set_cons_succ]
              refine wpAnyH_ready (rs := [10]) (by kernel_rfl) (by simp) ?_
              refine AllReadyH.cons rfl (fun K hK => ?_) (AllReadyH.nil)
              go_simp
              refine hK.out _ _ ?_ (fun hHeld => ?_)
              · repeat' first | assumption | exact SG.refl _ _ _ _ | (refine SG.drew ?_) | (refine SG.alloc ?_ hgz _) | (refine SG.set ?_ _)
              clear hK K
              try simp only [Act.put, List.getElem_toArray, List.getElem_cons_succ, List.getElem_cons_zero, List.setIfInBounds_toArray, List.set_cons_zero, List.set_cons_succ]
              refine wpAnyH_done (by kernel_rfl) ?_ _
              have HST := Lib.hid (H4.out.addStop (s := p1) ho8 (Grew.of_grown (bel_alloc (bel_drew (Below.refl w4.heap.size w4)) _) hg8 hat8))
              have hka : Below w4.heap.size w4 (w4.drew.alloc (.cells #[.string p1] 9)) := (bel_alloc (bel_drew (Below.refl w4.heap.size w4)) _)
              have hkb := ((HK4.out.trans (hka.mono (Nat.le_of_lt hgz))).trans (hb8.mono (Nat.le_succ g)))
              have HKE := Lib.hid (hkb.setCell (p := ⟨g, 0, none⟩) (Nat.le_refl _) (.slice A8 n8 c8))
              clear hka hkb hS8 hV8 hF8 ho8 hb8 hg8 hat8 hHeld hW1 c0 c1 c2 cf0
              go_wp2_with fail
              go_roundw
              case rel => exact ⟨k + 1, adStop x p1, _, _, _, ys, by go_num, by omega, HFX.out.addStop hp1s, HRS.out _ HPY.out, HKE.out, HST.out⟩
              case measure => simp [intOf]; omega
            · go_simp
              refine hK.out _ _ ?_ (fun hHeld => ?_)
              · repeat' first | assumption | exact SG.refl _ _ _ _ | (refine SG.drew ?_) | (refine SG.alloc ?_ hgz _) | (refine SG.set ?_ _)
              clear hK K
              try simp only [Act.put, List.getElem_toArray, List.getElem_cons_succ, List.getElem_cons_zero, List.setIfInBounds_toArray, List.set_cons_zero, List.set_cons_succ]
              refine wpAnyH_ready (rs := [2]) (by kernel_rfl) (by simp) ?_
              refine AllReadyH.cons rfl (fun K hK => ?_) (AllReadyH.nil)
              go_simp
              refine hK.out _ _ ?_ (fun hHeld => ?_)
              · repeat' first | assumption | exact SG.refl _ _ _ _ | (refine SG.drew ?_) | (refine SG.alloc ?_ hgz _) | (refine SG.set ?_ _)
              clear hK K
              try simp only [Act.put, List.getElem_toArray, List.getElem_cons_succ, List.getElem_cons_zero, List.setIfInBounds_toArray, List.set_cons_zero, List.set_cons_succ]
              refine wpAnyH_ready (rs := [7]) (by kernel_rfl) (by simp) ?_
              refine AllReadyH.cons rfl (fun K hK => ?_) (AllReadyH.nil)
              refine step_appsX (enc := encS) (by rfl) _ _ 22 (by rfl) 16 Tryd.underlying22 his hsz0 hsz1 hsz2 rfl (by omega) (fun _ => rfl) (fun y u hu => by simp [encS] at hu; subst hu; rfl) (by omega) (g + 1) _ x.net.stops p1 _ (OwnE.call H4.out.s (bel_alloc (bel_drew (Below.refl w4.heap.size w4)) _)) (by rfl) _ (by rfl) (one_cell (by go_simp)) hn1 (by simp; omega) ?_
              intro v8 w8 ho8 hb8 hg8 hat8
              have hS8 := SG.grown hHeld hg8 hgz hvg
              have hV8 : w8.cell? ⟨g, 0, none⟩ = some (.slice A x.net.stops.length ca) := ((Same.of_blk (hg8.block g (by simp; omega) (fun e => hvg e.symm))) 0).1.trans (by go_simp)
              have hF8 : w8.frozen? ⟨g, 0, none⟩ = false := (hS8.free 0).trans cf0
              obtain ⟨A8, n8, c8, rfl⟩ := own_formN ho8
              refine hK.out _ _ ?_ (fun hHeld => ?_)
              · repeat' first | assumption | exact SG.refl _ _ _ _ | (refine SG.drew ?_) | (refine SG.alloc ?_ hgz _) | (refine SG.set ?_ _)
              clear hK K
              try simp only [Act.put, List.getElem_toArray, List.getElem_cons_succ, List.getElem_cons_zero, List.setIfInBounds_toArray, List.set_cons_zero, List.set_cons_succ]
              refine wpAnyH_take (i := 8) (v := ?_) rfl (by kernel_rfl) (by kernel_rfl) (by kernel_rfl) (fun _ _ _ h => h) (Or.inl ⟨by rfl, ?_⟩) hHeld ?_
              rotate_left 1
              · intro w hSw; (try dsimp only at hSw); first | (go_simp; done) | (go_simp; with_reducible rfl) | (go_simp; rfl)
              try simp only [Act.put, List.getElem_toArray, List.getElem_cons_succ, List.getElem_cons_zero, List.setIfInBounds_toArray, List.set_cons_zero, List.set_cons_succ]
              refine wpAnyH_take (i := 9) (v := ?_) rfl (by kernel_rfl) (by kernel_rfl) (by kernel_rfl) (fun _ _ _ h => h) (Or.inl ⟨by rfl, ?_⟩) hHeld ?_
              rotate_left 1
              · intro w hSw; (try dsimp only at hSw); first | (go_simp; done) | (go_simp; with_reducible rfl) | (go_simp; rfl)
              try simp only [Act.put, List.getElem_toArray, List.getElem_cons_succ, List.getElem_cons_zero, List.setIfInBounds_toArray, List.set_cons_zero, List.set_cons_succ]
              refine wpAnyH_ready (rs := [10]) (by kernel_rfl) (by simp) ?_
              refine AllReadyH.cons rfl (fun K hK => ?_) (AllReadyH.nil)
              go_simp
              refine hK.out _ _ ?_ (fun hHeld => ?_)
              · repeat' first | assumption | exact SG.refl _ _ _ _ | (refine SG.drew ?_) | (refine SG.alloc ?_ hgz _) | (refine SG.set ?_ _)
              clear hK K
              try simp only [Act.put, List.getElem_toArray, List.getElem_cons_succ, List.getElem_cons_zero, List.setIfInBounds_toArray, List.set_cons_zero, List.set_cons_succ]
              refine wpAnyH_done (by kernel_rfl) ?_ _
              have HST := Lib.hid (H4.out.addStop (s := p1) ho8 (Grew.of_grown (bel_alloc (bel_drew (Below.refl w4.heap.size w4)) _) hg8 hat8))
              have hka : Below w4.heap.size w4 (w4.drew.alloc (.cells #[.string p1] 9)) := (bel_alloc (bel_drew (Below.refl w4.heap.size w4)) _)
              have hkb := ((HK4.out.trans (hka.mono (Nat.le_of_lt hgz))).trans (hb8.mono (Nat.le_succ g)))
              have HKE := Lib.hid (hkb.setCell (p := ⟨g, 0, none⟩) (Nat.le_refl _) (.slice A8 n8 c8))
              clear hka hkb hS8 hV8 hF8 ho8 hb8 hg8 hat8 hHeld hW1 c0 c1 c2 cf0
              go_wp2_with fail
              go_roundw
              case rel => exact ⟨k + 1, adStop x p1, _, _, _, ys, by go_num, by omega, HFX.out.addStop hp1s, HRS.out _ HPY.out, HKE.out, HST.out⟩
              case measure => simp [intOf]; omega
          · have HR : Hid (psT l = none) := Lib.hid (HRF.out (by unfold pcS; rw [if_pos HS0.out, if_neg hok]))
            have HOK := Lib.hid hok
            clear hok
            by_cases hw2 : ws.length = 2
            · have hw2i : ((ws.length : Int) == 2) = true := by rw [hw2]; rfl
              by_cases hl0 : x.net.lines.length = 0
              · have hl0i : ((x.net.lines.length : Int) == 0) = true := by rw [hl0]; rfl
                have ht0i : ((x.trips.length : Int) == 0) = false := by
                  have : x.trips.length ≠ 0 := fun h => HOK.out ⟨hw2, hl0, h⟩
                  simp; intro h; apply this; rw [h]; rfl
                clear hw2 hl0
                have HZz := Lib.hid (HZ2.out.below HK4.out (show w.heap.size < g by omega))
                have HBz := Lib.hid (HB2.out.trans ((HK4.out).mono (show w.heap.size ≤ g by omega)))
                obtain ⟨z0, z1, z2, zf, zl⟩ := HZz.out
                have zf0 := zf 0
                have zf1 := zf 1
                have zf2 := zf 2
                go_wp2_with fail
                refine bodyPost_ret (v := .tuple #[.agg #[.slice none 0 0, .slice none 0 0, .slice none 0 0], .bool false]) (by simp [results, Tryd.results16, go_sem, z0, z1, z2]) rfl ?_
                refine retPT_none HR.out ?_
                repeat' (refine Below.setCell ?_ (by simp) _)
                exact HBz.out
              · have hl0i : ((x.net.lines.length : Int) == 0) = false := by simp; intro h; apply hl0; rw [h]; rfl
                clear hw2 hl0
                have HZz := Lib.hid (HZ2.out.below HK4.out (show w.heap.size < g by omega))
                have HBz := Lib.hid (HB2.out.trans ((HK4.out).mono (show w.heap.size ≤ g by omega)))
                obtain ⟨z0, z1, z2, zf, zl⟩ := HZz.out
                have zf0 := zf 0
                have zf1 := zf 1
                have zf2 := zf 2
                go_wp2_with fail
                refine bodyPost_ret (v := .tuple #[.agg #[.slice none 0 0, .slice none 0 0, .slice none 0 0], .bool false]) (by simp [results, Tryd.results16, go_sem, z0, z1, z2]) rfl ?_
                refine retPT_none HR.out ?_
                repeat' (refine Below.setCell ?_ (by simp) _)
                exact HBz.out
            · have hw2i : ((ws.length : Int) == 2) = false := by simp; omega
              clear hw2
              have HZz := Lib.hid (HZ2.out.below HK4.out (show w.heap.size < g by omega))
              have HBz := Lib.hid (HB2.out.trans ((HK4.out).mono (show w.heap.size ≤ g by omega)))
              obtain ⟨z0, z1, z2, zf, zl⟩ := HZz.out
              have zf0 := zf 0
              have zf1 := zf 1
              have zf2 := zf 2
              go_wp2_with fail
              refine bodyPost_ret (v := .tuple #[.agg #[.slice none 0 0, .slice none 0 0, .slice none 0 0], .bool false]) (by simp [results, Tryd.results16, go_sem, z0, z1, z2]) rfl ?_
              refine retPT_none HR.out ?_
              repeat' (refine Below.setCell ?_ (by simp) _)
              exact HBz.out
        · have v1 : (p0.toList == [115, 116, 111, 112]) = false := by rw [HTL0.out]; exact beq_eq_false_iff_ne.2 hst
          have HS0 := Lib.hid hst
          clear hst
          have hwg : ¬ (w.heap.size = g) := by omega
          have hgw : ¬ (g = w.heap.size) := by omega
          by_cases hln : ws.getD 0 [] = lineW
          · have v2 : (p0.toList == [108, 105, 110, 101]) = true := by rw [HTL0.out, hln]; rfl
            have HS1 := Lib.hid hln
            clear hln
            obtain ⟨o, ho⟩ : ∃ o, o = pLn x.net.stops ws := ⟨_, rfl⟩
            have HO := Lib.hid ho
            obtain ⟨W5, hW5⟩ : ∃ W5, W5 = w4.alloc (.cells #[.string ⟨#[]⟩, .slice none 0 0, .slice none 0 0] 47) := ⟨_, rfl⟩
            have hb5 : Below w4.heap.size w4 W5 := by rw [hW5]; go_grown
            have HB5 := Lib.hid hb5
            have HLB5 : Hid (LB W5 w4.heap.size ⟨#[]⟩ (.slice none 0 0) (.slice none 0 0)) := Lib.hid (by rw [hW5]; exact ⟨by go_simp, by go_simp, by go_simp, fun j => by go_simp, by simp⟩)
            have hz5 : w4.heap.size < W5.heap.size := by rw [hW5]; simp
            have HRLn := parseLine_any x.net.stops x.net.lines.length A L ca cl (some ⟨bw, 0, none⟩) ws W5 (HRA.out.call hb5) (HI4.out.call hb5) (by omega) (by omega) (fun k => by have := HWB.out k; omega)
            rw [← ho] at HRLn
            have HRLn := Lib.hid HRLn
            have d0 : W5.cell? ⟨g, 0, none⟩ = some (.slice A x.net.stops.length ca) := (hb5.cell (p := ⟨g, 0, none⟩) hgz).trans c0
            have d1 : W5.cell? ⟨g, 1, none⟩ = some (.slice L x.net.lines.length cl) := (hb5.cell (p := ⟨g, 1, none⟩) hgz).trans c1
            clear ho hb5
            go_upto_region 17 with fail
            rw [← hW5]
            clear hW5
            go_wp2_with fail
            refine HRLn.out.mono ?_
            rintro e w6 ⟨y, rfl, hly, hb6⟩
            have HB6 := Lib.hid (HB5.out.trans (hb6.mono HB5.out.size))
            have HLB6 := Lib.hid (HLB5.out.below hb6 hz5)
            obtain ⟨b0, b1, b2, bf, bl6⟩ := HLB6.out
            have bf0 := bf 0
            have bf1 := bf 1
            have bf2 := bf 2
            have hlo5 := Nat.le_of_lt hz5
            clear d0 d1 hb6
            go_upto_region 18 with fail
            obtain ⟨W7, hW7⟩ : ∃ W7, W7 = ((w6.setCell ⟨w4.heap.size, 0, none⟩ (.string y.nm)).setCell ⟨w4.heap.size, 1, none⟩ (.slice y.sA y.ns y.cs)).setCell ⟨w4.heap.size, 2, none⟩ (.slice y.rA y.nr y.cr) := ⟨_, rfl⟩
            rw [← hW7]
            have hb7 : Below w4.heap.size w4 W7 := by rw [hW7]; exact ((HB6.out.setCell (Nat.le_refl _) _).setCell (Nat.le_refl _) _).setCell (Nat.le_refl _) _
            have HB7 := Lib.hid hb7
            have H7 := Lib.hid (H4.out.call hb7)
            have HK7 := Lib.hid (HK4.out.trans (hb7.mono (Nat.le_of_lt hgz)))
            have y0 : W7.cell? ⟨w4.heap.size, 0, none⟩ = some (.string y.nm) := by rw [hW7]; go_simp
            have y1 : W7.cell? ⟨w4.heap.size, 1, none⟩ = some (.slice y.sA y.ns y.cs) := by rw [hW7]; go_simp
            have y2 : W7.cell? ⟨w4.heap.size, 2, none⟩ = some (.slice y.rA y.nr y.cr) := by rw [hW7]; go_simp
            have hz7 : W7.heap.size = w6.heap.size := by rw [hW7]; simp only [size_set]
            have HLZ : Hid (∀ z, o = some z → LzAt W7 y z ∧ w4.heap.size ≤ y.lo ∧ y.hi ≤ W7.heap.size) := Lib.hid (fun z hz => by
              obtain ⟨a1, a2, a3⟩ := hly z hz
              have a4 : w4.heap.size < y.lo := by omega
              refine ⟨?_, by omega, by omega⟩
              rw [hW7]
              exact ((a1.set (p := ⟨w4.heap.size, 0, none⟩) a4 _).set (p := ⟨w4.heap.size, 1, none⟩) a4 _).set (p := ⟨w4.heap.size, 2, none⟩) a4 _)
            have hg7 : (g + 1) ≤ W7.heap.size := by have := hb7.size; omega
            have hgB : (g + 1) ≤ w4.heap.size := hgz
            obtain ⟨e0, e1, e2, ef, el⟩ := H7.out.c
            have ef1 := ef 1
            have hyl := H7.out.l.len
            have hyl2 : ys.length ≤ 16777216 := by omega
            clear hW7 hb7 hly b0 b1 b2 bf bf0 bf1 bf2 bl6 hz7 hyl ef c0 c1 c2 cf0 cf1 cf2
            cases o with
            | none =>
              have HR : Hid (psT l = none) := Lib.hid (HRF.out (by unfold pcS; rw [if_neg HS0.out, if_pos HS1.out, ← HO.out]))
              go_wp2_with (at_builtin; go_loud (refine wp_appGL rfl _ _ rfl (g + 1) _ ys y _ H7.out.l.own rfl _ rfl (by simp) hyl2 hg7 ?_; intro v' w' ho' hb' hs' hat' hz'; obtain ⟨A', n2, c', rfl⟩ := own_formN ho'; have hk8 : Below g W2 w' := HK7.out.trans (hb'.mono (Nat.le_succ g)); have hcc := H7.out.c.kept (hs' g H7.out.c.lt (own_ne H7.out.l.own H7.out.gB)) hz'; have q1 := hcc.c1; have p1 := hcc.fr 1; have hz8 := Nat.le_trans hg7 hz'; have HZ8 := HZ2.out.below hk8 (show w.heap.size < g by omega); obtain ⟨z0, z1, z2, zf, zl⟩ := HZ8; have zf0 := zf 0; have zf1 := zf 1; have zf2 := zf 2; have HBz := Lib.hid (HB2.out.trans (hk8.mono (show w.heap.size ≤ g by omega))); clear hcc hk8 ho' hb' hs' hat' hz' zf))
              refine bodyPost_ret (v := .tuple #[.agg #[.slice none 0 0, .slice none 0 0, .slice none 0 0], .bool false]) (by simp [results, Tryd.results16, go_sem, z0, z1, z2]) rfl ?_
              refine retPT_none HR.out ?_
              repeat' (refine Below.setCell ?_ (by simp <;> omega) _)
              exact HBz.out
            | some z =>
              by_cases ht0 : x.trips.length = 0
              · have ht0i : ((x.trips.length : Int) == 0) = true := by rw [ht0]; rfl
                have HPY : Hid (pcS x ws = some (adLine x z)) := Lib.hid (by
                  unfold pcS
                  rw [if_neg HS0.out, if_pos HS1.out, ← HO.out]
                  show (if x.trips.length = 0 then some (adLine x z) else none) = _
                  rw [if_pos ht0])
                have HFY := Lib.hid (HFX.out.addLine (pLn_len HO.out.symm (by omega) (by have := HWB.out 1; omega)))
                clear ht0
                go_wp2_with (at_builtin; go_loud (refine wp_appGL rfl _ _ rfl (g + 1) _ ys y _ H7.out.l.own rfl _ rfl (by simp) hyl2 hg7 ?_; intro v' w' ho' hb' hs' hat' hz'; obtain ⟨A', n2, c', rfl⟩ := own_formN ho'; have hk8 : Below g W2 w' := HK7.out.trans (hb'.mono (Nat.le_succ g)); have hcc := H7.out.c.kept (hs' g H7.out.c.lt (own_ne H7.out.l.own H7.out.gB)) hz'; have q1 := hcc.c1; have p1 := hcc.fr 1; have hz8 := Nat.le_trans hg7 hz'; have HN := Lib.hid (H4.out.addLine hgB HB7.out (HLZ.out z rfl).1 (HLZ.out z rfl).2.1 (HLZ.out z rfl).2.2 ho' (Grew.of_hat hs' hat' hz')); have HKE := Lib.hid (hk8.setCell (p := ⟨g, 1, none⟩) (Nat.le_refl _) (.slice A' n2 c')); clear hcc hk8 ho' hb' hs' hat' hz'))
                go_roundw
                case rel => exact ⟨k + 1, adLine x z, _, _, _, ys ++ [y], by go_num, by omega, HFY.out, HRS.out _ HPY.out, HKE.out, HN.out⟩
                case measure => simp [intOf]; omega
              · have ht0i : ((x.trips.length : Int) == 0) = false := by simp; intro h; apply ht0; rw [h]; rfl
                have HR : Hid (psT l = none) := Lib.hid (HRF.out (by
                  unfold pcS
                  rw [if_neg HS0.out, if_pos HS1.out, ← HO.out]
                  show (if x.trips.length = 0 then some (adLine x z) else none) = _
                  rw [if_neg ht0]))
                clear ht0
                go_wp2_with (at_builtin; go_loud (refine wp_appGL rfl _ _ rfl (g + 1) _ ys y _ H7.out.l.own rfl _ rfl (by simp) hyl2 hg7 ?_; intro v' w' ho' hb' hs' hat' hz'; obtain ⟨A', n2, c', rfl⟩ := own_formN ho'; have hk8 : Below g W2 w' := HK7.out.trans (hb'.mono (Nat.le_succ g)); have hcc := H7.out.c.kept (hs' g H7.out.c.lt (own_ne H7.out.l.own H7.out.gB)) hz'; have q1 := hcc.c1; have p1 := hcc.fr 1; have hz8 := Nat.le_trans hg7 hz'; have HZ8 := HZ2.out.below hk8 (show w.heap.size < g by omega); obtain ⟨z0, z1, z2, zf, zl⟩ := HZ8; have zf0 := zf 0; have zf1 := zf 1; have zf2 := zf 2; have HBz := Lib.hid (HB2.out.trans (hk8.mono (show w.heap.size ≤ g by omega))); clear hcc hk8 ho' hb' hs' hat' hz' zf))
                refine bodyPost_ret (v := .tuple #[.agg #[.slice none 0 0, .slice none 0 0, .slice none 0 0], .bool false]) (by simp [results, Tryd.results16, go_sem, z0, z1, z2]) rfl ?_
                refine retPT_none HR.out ?_
                repeat' (refine Below.setCell ?_ (by simp <;> omega) _)
                exact HBz.out
          · have v2 : (p0.toList == [108, 105, 110, 101]) = false := by rw [HTL0.out]; exact beq_eq_false_iff_ne.2 hln
            have HS1 := Lib.hid hln
            clear hln
            by_cases htp : ws.getD 0 [] = tripW
            · have v3 : (p0.toList == [116, 114, 105, 112]) = true := by rw [HTL0.out, htp]; rfl
              have HS2 := Lib.hid htp
              clear htp
              obtain ⟨o, ho⟩ : ∃ o, o = pTr x.net.lines ws := ⟨_, rfl⟩
              have HO := Lib.hid ho
              obtain ⟨W5, hW5⟩ : ∃ W5, W5 = w4.alloc (.cells #[.int .i64 0, .int .i64 0, .int .i64 0] 54) := ⟨_, rfl⟩
              have hb5 : Below w4.heap.size w4 W5 := by rw [hW5]; go_grown
              have HB5 := Lib.hid hb5
              have HLB5 : Hid (T0 W5 w4.heap.size) := Lib.hid (by rw [hW5]; exact ⟨by go_simp, by go_simp, by go_simp, fun j => by go_simp, by simp⟩)
              have hz5 : w4.heap.size < W5.heap.size := by rw [hW5]; simp
              have HRLn := parseTrip_any x.net A L ca cl (some ⟨bw, 0, none⟩) ws W5 (HRL.out.call hb5) (HI4.out.call hb5) (by omega) (by omega) (fun k => by have := HWB.out k; omega)
              rw [← ho] at HRLn
              have HRLn := Lib.hid HRLn
              have d0 : W5.cell? ⟨g, 0, none⟩ = some (.slice A x.net.stops.length ca) := (hb5.cell (p := ⟨g, 0, none⟩) hgz).trans c0
              have d1 : W5.cell? ⟨g, 1, none⟩ = some (.slice L x.net.lines.length cl) := (hb5.cell (p := ⟨g, 1, none⟩) hgz).trans c1
              clear ho hb5
              go_upto_region 22 with fail
              rw [← hW5]
              clear hW5
              go_wp2_with fail
              refine HRLn.out.mono ?_
              rintro e w6 ⟨t, rfl, hly, hb6⟩
              have HLY := Lib.hid hly
              have HB6 := Lib.hid (HB5.out.trans (hb6.mono HB5.out.size))
              have HLB6 := Lib.hid (HLB5.out.below hb6 hz5)
              obtain ⟨b0, b1, b2, bf, bl6⟩ := HLB6.out
              have bf0 := bf 0
              have bf1 := bf 1
              have bf2 := bf 2
              clear d0 d1 hb6 hly
              go_upto_region 23 with fail
              obtain ⟨W7, hW7⟩ : ∃ W7, W7 = ((w6.setCell ⟨w4.heap.size, 0, none⟩ (.int .i64 t.a)).setCell ⟨w4.heap.size, 1, none⟩ (.int .i64 t.b)).setCell ⟨w4.heap.size, 2, none⟩ (.int .i64 t.c) := ⟨_, rfl⟩
              rw [← hW7]
              have hb7 : Below w4.heap.size w4 W7 := by rw [hW7]; exact ((HB6.out.setCell (Nat.le_refl _) _).setCell (Nat.le_refl _) _).setCell (Nat.le_refl _) _
              have HB7 := Lib.hid hb7
              have H7 := Lib.hid (H4.out.call hb7)
              have HK7 := Lib.hid (HK4.out.trans (hb7.mono (Nat.le_of_lt hgz)))
              have y0 : W7.cell? ⟨w4.heap.size, 0, none⟩ = some (.int .i64 t.a) := by rw [hW7]; go_simp
              have y1 : W7.cell? ⟨w4.heap.size, 1, none⟩ = some (.int .i64 t.b) := by rw [hW7]; go_simp
              have y2 : W7.cell? ⟨w4.heap.size, 2, none⟩ = some (.int .i64 t.c) := by rw [hW7]; go_simp
              have hg7 : (g + 1) ≤ W7.heap.size := by have := hb7.size; omega
              obtain ⟨e0, e1, e2, ef, el⟩ := H7.out.c
              have ef2 := ef 2
              clear hW7 hb7 b0 b1 b2 bf bf0 bf1 bf2 bl6 ef c0 c1 c2 cf0 cf1 cf2
              cases o with
              | none =>
                have HR : Hid (psT l = none) := Lib.hid (HRF.out (by unfold pcS; rw [if_neg HS0.out, if_neg HS1.out, if_pos HS2.out, ← HO.out]))
                go_wp2_with (at_builtin; go_loud (refine wp_appGT rfl _ _ rfl (g + 1) _ x.trips t _ H7.out.t rfl _ rfl (by simp) ht2 hg7 ?_; intro v' w' ho' hb' hs' hat' hz'; obtain ⟨A', n2, c', rfl⟩ := own_formN ho'; have hk8 : Below g W2 w' := HK7.out.trans (hb'.mono (Nat.le_succ g)); have hcc := H7.out.c.kept (hs' g H7.out.c.lt (own_ne H7.out.t H7.out.gB)) hz'; have q1 := hcc.c2; have p1 := hcc.fr 2; have hz8 := Nat.le_trans hg7 hz'; have HZ8 := HZ2.out.below hk8 (show w.heap.size < g by omega); obtain ⟨z0, z1, z2, zf, zl⟩ := HZ8; have zf0 := zf 0; have zf1 := zf 1; have zf2 := zf 2; have HBz := Lib.hid (HB2.out.trans (hk8.mono (show w.heap.size ≤ g by omega))); clear hcc hk8 ho' hb' hs' hat' hz' zf))
                refine bodyPost_ret (v := .tuple #[.agg #[.slice none 0 0, .slice none 0 0, .slice none 0 0], .bool false]) (by simp [results, Tryd.results16, go_sem, z0, z1, z2]) rfl ?_
                refine retPT_none HR.out ?_
                repeat' (refine Below.setCell ?_ (by simp <;> omega) _)
                exact HBz.out
              | some z =>
                have HPY : Hid (pcS x ws = some (adTrip x t)) := Lib.hid (by
                  unfold pcS
                  rw [if_neg HS0.out, if_neg HS1.out, if_pos HS2.out, ← HO.out, HLY.out z rfl])
                have HFY := Lib.hid (FitX.addTrip (t := t) HFX.out)
                go_wp2_with (at_builtin; go_loud (refine wp_appGT rfl _ _ rfl (g + 1) _ x.trips t _ H7.out.t rfl _ rfl (by simp) ht2 hg7 ?_; intro v' w' ho' hb' hs' hat' hz'; obtain ⟨A', n2, c', rfl⟩ := own_formN ho'; have hk8 : Below g W2 w' := HK7.out.trans (hb'.mono (Nat.le_succ g)); have hcc := H7.out.c.kept (hs' g H7.out.c.lt (own_ne H7.out.t H7.out.gB)) hz'; have q1 := hcc.c2; have p1 := hcc.fr 2; have hz8 := Nat.le_trans hg7 hz'; have HN := Lib.hid (H7.out.addTrip ho' (Grew.of_hat hs' hat' hz')); have HKE := Lib.hid (hk8.setCell (p := ⟨g, 2, none⟩) (Nat.le_refl _) (.slice A' n2 c')); clear hcc hk8 ho' hb' hs' hat' hz'))
                go_roundw
                case rel => exact ⟨k + 1, adTrip x t, _, _, _, ys, by go_num, by omega, HFY.out, HRS.out _ HPY.out, HKE.out, HN.out⟩
                case measure => simp [intOf]; omega
            · have v3 : (p0.toList == [116, 114, 105, 112]) = false := by rw [HTL0.out]; exact beq_eq_false_iff_ne.2 htp
              have HR : Hid (psT l = none) := Lib.hid (HRF.out (by unfold pcS; rw [if_neg HS0.out, if_neg HS1.out, if_neg htp]))
              clear htp
              have HZz := Lib.hid (HZ2.out.below HK4.out (show w.heap.size < g by omega))
              have HBz := Lib.hid (HB2.out.trans ((HK4.out).mono (show w.heap.size ≤ g by omega)))
              obtain ⟨z0, z1, z2, zf, zl⟩ := HZz.out
              have zf0 := zf 0
              have zf1 := zf 1
              have zf2 := zf 2
              go_wp2_with fail
              refine bodyPost_ret (v := .tuple #[.agg #[.slice none 0 0, .slice none 0 0, .slice none 0 0], .bool false]) (by simp [results, Tryd.results16, go_sem, z0, z1, z2]) rfl ?_
              refine retPT_none HR.out ?_
              repeat' (refine Below.setCell ?_ (by simp) _)
              exact HBz.out
      · obtain rfl : k = P.length := by omega
        have HRx := Lib.hid (HSm.out x (by rw [← HPE.out, List.drop_length]; rfl))
        obtain ⟨A, ca, L, cl, T, ct, rfl, rfl, rfl, hrA, hrL, hrT⟩ := H3.out.reads
        have hfits : FitsT x := HFX.out.fits (by omega)
        obtain ⟨c0, c1, c2, cf, cl4⟩ := H3.out.c
        clear cf
        cases hb : ttB x
        · have HR : Hid (psT l = none) := Lib.hid (by rw [HRx.out, hb]; rfl)
          have HCk := Lib.hid (chk_no x A L T ca cl ct wo hrA hrL hrT hfits hb)
          clear hb hrA hrL hrT
          go_wp2_with fail
          refine HCk.out.mono ?_
          rintro e w5 ⟨rfl, hb5⟩
          have hk5 : Below g W2 w5 := HK3.out.trans (hb5.mono (Nat.le_of_lt cl4))
          have HZz := Lib.hid (HZ2.out.below hk5 (show w.heap.size < g by omega))
          have HBz := Lib.hid (HB2.out.trans (hk5.mono (show w.heap.size ≤ g by omega)))
          obtain ⟨z0, z1, z2, zf, zl⟩ := HZz.out
          have zf0 := zf 0
          have zf1 := zf 1
          have zf2 := zf 2
          clear hk5 hb5 c0 c1 c2 zf
          go_wp2_with fail
          refine bodyPost_ret (v := .tuple #[.agg #[.slice none 0 0, .slice none 0 0, .slice none 0 0], .bool false]) (by simp [results, Tryd.results16, go_sem, z0, z1, z2]) rfl ?_
          refine retPT_none HR.out ?_
          repeat' (refine Below.setCell ?_ (by simp <;> omega) _)
          exact HBz.out
        · have HR : Hid (psT l = some x) := Lib.hid (by rw [HRx.out, hb]; rfl)
          have HCk := Lib.hid (chk_yes x A L T ca cl ct wo hrA hrL hrT hfits hb)
          have HNB := Lib.hid (ttB_ok hb).1
          clear hb hrA hrL hrT
          go_wp2_with fail
          refine HCk.out.mono ?_
          rintro e w5 ⟨rfl, hb5⟩
          have hk5 : Below g W2 w5 := HK3.out.trans (hb5.mono (Nat.le_of_lt cl4))
          have HZz := Lib.hid (HZ2.out.below hk5 (show w.heap.size < g by omega))
          have HBz := Lib.hid (HB2.out.trans (hk5.mono (show w.heap.size ≤ g by omega)))
          have HTT := Lib.hid ((H3.out.call hb5).tto rfl rfl rfl HNB.out)
          obtain ⟨z0, z1, z2, zf, zl⟩ := HZz.out
          have zf0 := zf 0
          have zf1 := zf 1
          have zf2 := zf 2
          clear hk5 hb5 c0 c1 c2 zf
          go_wp2_with fail
          refine bodyPost_ret (v := .tuple #[.agg #[.slice A x.net.stops.length ca, .slice L x.net.lines.length cl, .slice T x.trips.length ct], .bool true]) (by simp [results, Tryd.results16, go_sem, z0, z1, z2]) rfl ?_
          refine retPT_some HR.out ⟨A, ca, L, cl, T, ct, rfl, ?_, ?_⟩
          · refine TtO.wide (lo := (g + 1)) (hi := w5.heap.size) ?_ (by omega) (by simp only [size_set]; exact Nat.le_refl _)
            refine TtO.keep HTT.out fun c hc => ?_
            refine Same.trans (Same.trans (Same.set _ ?_ _) (Same.set _ ?_ _)) (Same.set _ ?_ _) <;> (show c ≠ w.heap.size; omega)
          · repeat' (refine Below.setCell ?_ (by simp) _)
            exact HBz.out
  · have HTL := Lib.hid (textLines_no s W0 hs (by rw [← hl]; exact hc))
    have HR : Hid (psT l = none) := Lib.hid (by rw [← pt_eq]; unfold pcT; rw [if_neg hc])
    clear hc hl
    obtain ⟨z0, z1, z2, zf, zl⟩ := HZ0.out
    have zf0 := zf 0
    have zf1 := zf 1
    have zf2 := zf 2
    go_enter Tryd.func16, Tryd.ntmps16
    go_upto_region 1 with fail
    rw [← hW0]
    clear hW0
    go_wp2_with fail
    refine HTL.out.mono ?_
    rintro e w1 ⟨rfl, rfl⟩
    go_wp2_with fail
    refine bodyPost_ret (v := .tuple #[.agg #[.slice none 0 0, .slice none 0 0, .slice none 0 0], .bool false]) (by simp [results, Tryd.results16, go_sem, z0, z1, z2]) rfl ?_
    refine retPT_none HR.out ?_
    repeat' (refine Below.setCell ?_ (by simp) _)
    exact HB0.out
end
end Go.Proofs.YtpipegdjflniaaaDoor
