/- spec.l6Parse: what it answers. -/
import Derived.Test.YtpipegdjflniaaaDoorPtg
import Derived.Test.YtpipegdjflniaaaDoorPti
import Derived.Test.YtpipegdjflniaaaDoorFtb
import Derived.BigQuiet
import Derived.Deep.CutBlock
import Derived.Deep.DeepCutAuto
namespace Go.Proofs.YtpipegdjflniaaaDoor
open Go.ChangeShapes Go.WideShapes Go.ChangeAt Go.RowKit Go.PlainAid
set_option linter.unusedVariables false
set_option linter.unusedSimpArgs false

/-- All blocks below B but g stay. -/
structure KG (g B : Nat) (w w' : World) : Prop where
  keep : ∀ X, X < B → X ≠ g → w'.heap[X]? = w.heap[X]?
  size : w.heap.size ≤ w'.heap.size
theorem KG.refl (g B : Nat) (w : World) : KG g B w w := ⟨fun _ _ _ => rfl, Nat.le_refl _⟩
theorem KG.trans {g B : Nat} {w w' w'' : World} (h : KG g B w w') (k : KG g B w' w'') : KG g B w w'' := ⟨fun X hX hn => (k.keep X hX hn).trans (h.keep X hX hn), Nat.le_trans h.size k.size⟩
theorem KG.of_below {g B n : Nat} {w w' : World} (h : Below n w w') (hn : B ≤ n) : KG g B w w' := ⟨fun X hX _ => h.block X (Nat.lt_of_lt_of_le hX hn), h.size⟩
theorem KG.set {g B : Nat} {w w' : World} (h : KG g B w w') (i : Nat) (u : Value) : KG g B w (w'.setCell ⟨g, i, none⟩ u) := ⟨fun X hX hn => (Below.heap_setCell w' ⟨g, i, none⟩ u X hn).trans (h.keep X hX hn), by rw [size_set]; exact h.size⟩
theorem splitW_any (l : Wd) (s : ByteArray) (c : UInt8) (ws : List Wd) (w : World) (hl : s = bs l) (hws : ws = spw c l) (hs : s.size ≤ 1048576) :
    Calls Tryd.prog 26 #[.string s, .int .u8 c.toNat] w fun e w' => ∃ A cc, e = .returned (.slice A ws.length cc) ∧ StrsIn w' (Zone.new w.heap.size w'.heap.size) A (ws.map bs) ∧ Below w.heap.size w w' := by
  refine (l1Split_any s c w hs).mono ?_
  rintro e w' ⟨A, cc, he, hi, hb⟩
  have e1 : splL s c = ws.map bs := by rw [splL_eq, hws, hl, bs_list]
  rw [e1] at he hi
  rw [List.length_map] at he
  exact ⟨A, cc, he, hi, hb⟩
theorem LzOwn.keepX {w w' : World} {B : Nat} {v u : Value} {xs : List LineD} {ys : List LZ} (h : LzOwn w B v xs ys) (hs : ∀ X, B ≤ X → X < w.heap.size → u.ownBlock ≠ some X → w'.heap[X]? = w.heap[X]?) (hz : w.heap.size ≤ w'.heap.size) (hu : ∀ X, v.ownBlock = some X → u.ownBlock ≠ some X) (ho : OffZ ys u) : LzOwn w' B v xs ys :=
  ⟨h.own.kept fun X hX => by have := own_lt h.own X hX; exact hs X this.1 this.2 (hu X hX), h.len, fun j hj => (h.each j hj).keep fun c c1 c2 => Same.of_blk (hs c (by have := h.ord j hj; omega) (by have := h.ord j hj; omega) (fun e => by have := ho j hj c e; omega)), fun j hj => ⟨(h.ord j hj).1, by have := (h.ord j hj).2; omega⟩, h.apt, h.off⟩
theorem PSt.linesSG {w w' : World} {B g : Nat} {x : TTD} {va vl vt : Value} {ys : List LZ} {L : Option Addr} {cl : Nat} (h : PSt w B g x va vl vt ys) (el : vl = .slice L x.net.lines.length cl) (hs : SG w g 2 vt w') : LinesIn w' (Zone.below w'.heap.size) L x.net.lines := by
  have h1 := h.l.keepX (w' := w') (u := vt) (fun X hX hz hne => hs.keep X hz (by have := h.gB; omega) hne) hs.size (fun X hX e => h.lt X hX e) h.oT
  obtain ⟨L', cl', e2, _, hi⟩ := h1.linesIn
  have e3 : Value.slice L x.net.lines.length cl = .slice L' x.net.lines.length cl' := el.symm.trans e2
  simp only [Value.slice.injEq, true_and] at e3
  obtain ⟨rfl, rfl⟩ := e3
  exact hi.to_below (Nat.le_refl _)
theorem sLn_len {ss : List ByteArray} {ws : List Wd} {z : LineD} (h : sLnE ss 2 (ws.drop 2) ⟨bs (ws.getD 1 []), [], []⟩ = some z) (hl : ws.length ≤ 8192) (hs : (ws.getD 1 []).length ≤ 8192) : z.name.size ≤ 8192 ∧ z.stops.length ≤ 8192 ∧ z.runs.length ≤ 8192 := by
  obtain ⟨a, b, c⟩ := sLnE_len ss _ _ _ _ h
  simp at a b c
  rw [a, bs_size]
  rw [List.getD_eq_getElem?_getD] at hs
  exact ⟨hs, by omega, by omega⟩
/-- What the reference's parse hands back. -/
def RetPS (o : Option TTD) (w : World) (e : Ending) (w' : World) : Prop :=
  ∃ A na ca L nl cl T nt ct, e = .returned (.tuple #[.agg #[.slice A na ca, .slice L nl cl, .slice T nt ct], .bool o.isSome]) ∧ (∀ x, o = some x → na = x.net.stops.length ∧ nl = x.net.lines.length ∧ nt = x.trips.length ∧ TtO w' w.heap.size w'.heap.size x A L T) ∧ Below w.heap.size w w'
theorem retPS_none {o : Option TTD} {w w' : World} {A L T : Option Addr} {na ca nl cl nt ct : Nat} (h : o = none) (hb : Below w.heap.size w w') : RetPS o w (.returned (.tuple #[.agg #[.slice A na ca, .slice L nl cl, .slice T nt ct], .bool false])) w' :=
  ⟨A, na, ca, L, nl, cl, T, nt, ct, by rw [h]; rfl, fun x hx => by (rw [h] at hx; cases hx), hb⟩
theorem retPS_some {o : Option TTD} {x : TTD} {w w' : World} {A L T : Option Addr} {ca cl ct : Nat} (h : o = some x) (ht : TtO w' w.heap.size w'.heap.size x A L T) (hb : Below w.heap.size w w') : RetPS o w (.returned (.tuple #[.agg #[.slice A x.net.stops.length ca, .slice L x.net.lines.length cl, .slice T x.trips.length ct], .bool true])) w' :=
  ⟨A, _, ca, L, _, cl, T, _, ct, by rw [h]; rfl, fun y hy => by (rw [h] at hy; simp only [Option.some.injEq] at hy; subst hy; exact ⟨rfl, rfl, rfl, ht⟩), hb⟩
theorem getLast_getD {P : List Wd} {N : Nat} (h : P.length = N + 1) : P.getLast? = some (P.getD N []) := by
  rw [List.getLast?_eq_getElem?, h, Nat.add_sub_cancel, List.getD_eq_getElem?_getD, List.getElem?_eq_getElem (by omega)]
  rfl
theorem psT_of {l : Wd} {P0 : List Wd} (h : l.length ≤ 4000 ∧ (spw 10 l).getLast? = some []) (hP : P0 = (spw 10 l).dropLast) : (gLs psS P0 emT = none → psT l = none) ∧ ∀ x, gLs psS P0 emT = some x → psT l = if ttB x = true ∧ timL x = l then some x else none := by
  unfold psT
  rw [if_pos h, ← hP]
  refine ⟨fun h => by rw [h], fun x h => by rw [h]⟩

set_option maxRecDepth 100000 in
set_option maxHeartbeats 8000000 in
theorem l6Parse_any (s : ByteArray) (w : World) (hs : s.size ≤ 1048576) :
    Calls Tryd.prog 15 #[.string s] w (RetPS (psT s.data.toList) w) := by
  obtain ⟨is, his, hsz0, hsz1, hsz2⟩ := info_parts Tryd.infoS
  obtain ⟨it, hit, htz0, htz1, htz2⟩ := info_parts Tryd.infoTripP
  obtain ⟨g, hg⟩ : ∃ g, g = w.heap.size + 1 := ⟨_, rfl⟩
  obtain ⟨W0, hW0⟩ : ∃ W0, W0 = (w.alloc (.cells #[.slice none 0 0, .slice none 0 0, .slice none 0 0] 33)).alloc (.cells #[.slice none 0 0, .slice none 0 0, .slice none 0 0] 33) := ⟨_, rfl⟩
  have HZ0 : Hid (TC W0 w.heap.size (.slice none 0 0) (.slice none 0 0) (.slice none 0 0)) := Lib.hid (by rw [hW0]; exact ⟨by go_simp, by go_simp, by go_simp, fun j => by go_simp, by simp; omega⟩)
  have HG0 : Hid (TC W0 g (.slice none 0 0) (.slice none 0 0) (.slice none 0 0)) := Lib.hid (by rw [hW0, hg]; exact ⟨by go_simp, by go_simp, by go_simp, fun j => by go_simp, by simp⟩)
  have HB0 : Hid (Below w.heap.size w W0) := Lib.hid (by rw [hW0]; go_grown)
  have HSZ : Hid (W0.heap.size = g + 1) := Lib.hid (by rw [hW0, hg]; simp)
  obtain ⟨l, hl⟩ : ∃ l, l = s.data.toList := ⟨_, rfl⟩
  have hHR : (RetPS (psT s.data.toList) w) = RetPS (psT l) w := by rw [hl]
  rw [hHR]
  have HLL := Lib.hid hl
  have hls : l.length = s.size := by rw [hl]; exact list_of_size s
  obtain ⟨P, hP⟩ : ∃ P, P = spw 10 l := ⟨_, rfl⟩
  have HSL := Lib.hid (splitW_any l s 10 P W0 (bs_of hl.symm) hP hs)
  have hPc := spw_cnt 10 l
  have hPp := spw_pos 10 l
  rw [← hP] at hPc hPp
  obtain ⟨N, hN⟩ : ∃ N, P.length = N + 1 := ⟨P.length - 1, by omega⟩
  have HPB : Hid (∀ k, (P.getD k []).length ≤ l.length) := Lib.hid (fun k => by rw [hP]; exact spw_getle 10 l k)
  have HPS := Lib.hid hP
  have hNb : N ≤ 1048577 := by omega
  have HNN := Lib.hid hN
  have HGG := Lib.hid hg
  have hwg0 : w.heap.size ≤ g := by omega
  have hwgl : w.heap.size < g := by omega
  have hwgn : ¬ (w.heap.size = g) := by omega
  clear hHR hl hP hg
  go_enter Tryd.func15, Tryd.ntmps15
  go_upto_region 2 with fail
  rw [← hW0, ← HGG.out]
  clear hW0
  go_wp2_with fail
  refine HSL.out.mono ?_
  rintro e w1 ⟨A1, c1, rfl, hi1, hb1⟩
  obtain ⟨bl, ol, rfl, hzl, hcl⟩ := words_get hi1 (by omega)
  obtain ⟨B, hB⟩ : ∃ B, B = w1.heap.size := ⟨_, rfl⟩
  have hs1 := hb1.size
  have hsz := HSZ.out
  have hblB : bl < B := by rw [hB]; exact hzl.2
  have hblg : bl ≠ g := by have := hzl.1; omega
  have hgB : g < B := by omega
  have hwB : w.heap.size ≤ B := by omega
  have HB2 := Lib.hid (HB0.out.trans (hb1.mono (show w.heap.size ≤ W0.heap.size by omega)))
  have HZ2 := Lib.hid (HZ0.out.below hb1 (by omega))
  have HG2 := Lib.hid (HG0.out.below hb1 (by omega))
  have HLc := Lib.hid hcl
  have H2 : Hid (PSt w1 B g emT (.slice none 0 0) (.slice none 0 0) (.slice none 0 0) []) := Lib.hid (PSt.start HG2.out hgB)
  rw [hN]
  have HBe := Lib.hid hB
  clear hi1 hb1 hzl hcl hsz hN hB
  obtain ⟨W2, hW2⟩ : ∃ W2, W2 = w1 := ⟨_, rfl⟩
  rw [← hW2] at HB2 HZ2 HG2 HLc H2 HBe ⊢
  have hBW : B ≤ W2.heap.size := by rw [HBe.out]; exact Nat.le_refl _
  clear hW2 hs1
  have hNlt : (N : Int) < (N : Int) + 1 := by omega
  have hN0 : (0 : Int) ≤ (N : Int) := by omega
  have hNn : N < N + 1 := by omega
  obtain ⟨pN, hpN⟩ : ∃ pN, pN = bs (P.getD N []) := ⟨_, rfl⟩
  have hcN : W2.cell? ⟨bl, ol + N, none⟩ = some (.string pN) := by rw [hpN]; exact HLc.out N (by rw [HNN.out]; omega)
  have HPN : Hid (pN.toList = P.getD N []) := Lib.hid (by rw [hpN, ByteArray.toList_eq, bs_list])
  clear hpN
  by_cases h4 : l.length ≤ 4000
  · have h4i : ¬ ((4000 : Int) < (s.size : Int)) := by omega
    by_cases hlast : P.getD N [] = []
    · have he : pN.toList.isEmpty = true := by rw [HPN.out, hlast]; rfl
      obtain ⟨P0, hP0⟩ : ∃ P0, P0 = P.dropLast := ⟨_, rfl⟩
      have hc : l.length ≤ 4000 ∧ (spw 10 l).getLast? = some [] := ⟨h4, by rw [← HPS.out, getLast_getD HNN.out, hlast]⟩
      have HN := Lib.hid (psT_of (P0 := P0) hc (by rw [hP0, HPS.out])).1
      have HSm := Lib.hid (psT_of (P0 := P0) hc (by rw [hP0, HPS.out])).2
      have HP0L : Hid (P0.length = N) := Lib.hid (by rw [hP0, List.length_dropLast, HNN.out]; rfl)
      have HP0G : Hid (∀ k, k < N → P0.getD k [] = P.getD k []) := Lib.hid (fun k hk => by
        rw [hP0, List.getD_eq_getElem?_getD, List.getD_eq_getElem?_getD, List.getElem?_dropLast, if_pos (by rw [HNN.out]; omega)])
      have HPB : Hid (∀ k, (P.getD k []).length ≤ 4000) := Lib.hid (fun k => by have := HPB.out k; omega)
      have hN4 : N ≤ 4001 := by have := HNN.out; omega
      clear hc hP0 hlast
      go_wp2_with fail
      go_loopw [6] (fun v wr => ∃ (k : Nat) (x : TTD) (va vl vt : Value) (ys : List LZ), v = .int .i64 k ∧ k ≤ N ∧ FitX k x ∧ gLs psS (P0.drop k) x = gLs psS P0 emT ∧ KG g B W2 wr ∧ Below w.heap.size w wr ∧ PSt wr B g x va vl vt ys) (fun v _ => N - (intOf v).toNat)
      case atStart => exact ⟨0, emT, _, _, _, [], by go_num, Nat.zero_le _, FitX.empty, rfl, KG.refl _ _ _, HB2.out, H2.out⟩
      case round =>
        obtain ⟨k, x, va, vl, vt, ys, rfl, hk, hfx, hpe, hkg3, hb3, hst3⟩ := hrel
        have HPE := Lib.hid hpe
        have HFX := Lib.hid hfx
        have HK3 := Lib.hid hkg3
        have HB3 := Lib.hid hb3
        have H3 := Lib.hid hst3
        clear hpe hfx hkg3 hb3 hst3
        obtain ⟨wo, hwo⟩ : ∃ wo, wo = wr := ⟨_, rfl⟩
        rw [← hwo] at HK3 HB3 H3 ⊢
        clear hwo
        by_cases hlt : k < N
        · have hki : (k : Int) < (N : Int) := by omega
          have hk0 : (0 : Int) ≤ (k : Int) := by omega
          have hkP : (k : Int) < (N : Int) + 1 := by omega
          have hkPn : k < N + 1 := by omega
          obtain ⟨pl, hpl⟩ : ∃ pl, pl = P.getD k [] := ⟨_, rfl⟩
          have HDR : Hid (P0.drop k = pl :: P0.drop (k + 1)) := Lib.hid (by rw [hpl, ← HP0G.out k hlt]; exact drop_getW (by rw [HP0L.out]; exact hlt))
          have hpl4 : pl.length ≤ 4000 := by rw [hpl]; exact HPB.out k
          obtain ⟨p, hp⟩ : ∃ p, p = bs pl := ⟨_, rfl⟩
          have hcp : wo.cell? ⟨bl, ol + k, none⟩ = some (.string p) := by
            rw [hp, hpl, ((Same.of_blk (HK3.out.keep bl hblB hblg)) _).1]
            exact HLc.out k (by rw [HNN.out]; omega)
          obtain ⟨ws, hws⟩ : ∃ ws, ws = spw 32 pl := ⟨_, rfl⟩
          have HSP := Lib.hid (splitW_any pl p 32 ws wo hp hws (by rw [hp, bs_size]; omega))
          have hwl : ws.length ≤ 4001 := by rw [hws]; have := spw_cnt 32 pl; omega
          have hw0l : 0 < ws.length := by rw [hws]; exact spw_pos 32 pl
          have HWB : Hid (∀ j, (ws.getD j []).length ≤ 4000) := Lib.hid (fun j => by rw [hws]; have := spw_getle 32 pl j; omega)
          have HRF : Hid (psS x ws = none → psT l = none) := Lib.hid (fun h => HN.out (by
            rw [← HPE.out, HDR.out]
            show (match psS x (spw 32 pl) with | none => none | some y => gLs psS (P0.drop (k + 1)) y) = none
            rw [← hws, h]))
          have HRS : Hid (∀ y, psS x ws = some y → gLs psS (P0.drop (k + 1)) y = gLs psS P0 emT) := Lib.hid (fun y h => by
            rw [← HPE.out, HDR.out]
            show _ = (match psS x (spw 32 pl) with | none => none | some y => gLs psS (P0.drop (k + 1)) y)
            rw [← hws, h])
          have hgwo : g < wo.heap.size := H3.out.c.lt
          have hBo : B ≤ wo.heap.size := by have := HK3.out.size; omega
          have hwo : w.heap.size ≤ wo.heap.size := by omega
          clear hpl hp hws
          go_wp2_with fail
          refine HSP.out.mono ?_
          rintro e w4 ⟨Aw, cw, rfl, hi4, hb4⟩
          obtain ⟨bw, ow, rfl, hzw, hcw4⟩ := words_get hi4 hw0l
          have hbwlo : wo.heap.size ≤ bw := hzw.1
          have hbw4 : bw < w4.heap.size := hzw.2
          have hgbw : g < bw := by omega
          have H4 := Lib.hid (H3.out.call hb4)
          have HK4 := Lib.hid (HK3.out.trans (KG.of_below hb4 hBo))
          have HB4 := Lib.hid (HB3.out.trans (hb4.mono hwo))
          have hB4 : B ≤ w4.heap.size := by have := hb4.size; omega
          have HW4 := Lib.hid hcw4
          have HI4 := Lib.hid (hi4.to_below (Nat.le_refl w4.heap.size))
          clear hi4 hb4 hcp hzw hcw4
          obtain ⟨p0, hp0⟩ : ∃ p0, p0 = bs (ws.getD 0 []) := ⟨_, rfl⟩
          have hw0 : w4.cell? ⟨bw, ow, none⟩ = some (.string p0) := by rw [hp0]; have := HW4.out 0 hw0l; rwa [Nat.add_zero] at this
          have HP0 := Lib.hid hp0
          have hw0i : (0 : Int) < (ws.length : Int) := by omega
          clear hp0
          have HTL0 : Hid (p0.toList = ws.getD 0 []) := Lib.hid (by rw [ByteArray.toList_eq, HP0.out, bs_list])
          obtain ⟨A, ca, L, cl, T, ct, rfl, rfl, rfl, hrA, hrL, hrT⟩ := H4.out.reads
          have HRA := Lib.hid hrA
          have HRL := Lib.hid hrL
          have HRT := Lib.hid hrT
          clear hrA hrL hrT
          obtain ⟨c0, c1, c2, cf, cl4⟩ := H4.out.c
          have cf0 := cf 0
          have cf1 := cf 1
          have cf2 := cf 2
          have hgz : g < w4.heap.size := cl4
          have hfn := HFX.out.ns
          have hfl := HFX.out.nl
          have hft := HFX.out.nt
          have hn1 : x.net.stops.length ≤ 16777215 := by omega
          have hn2 : x.net.stops.length ≤ 1048576 := by omega
          have hl1 : x.net.lines.length ≤ 1048576 := by omega
          have ht1 : x.trips.length ≤ 1048576 := by omega
          have ht2 : x.trips.length ≤ 16777216 := by omega
          clear hfn hfl hft cf
          by_cases hst : ws.getD 0 [] = stopW
          · have v1 : (p0.toList == [115, 116, 111, 112]) = true := by rw [HTL0.out, hst]; rfl
            by_cases hok : ws.length = 2
            · obtain ⟨p1, hp1⟩ : ∃ p1, p1 = bs (ws.getD 1 []) := ⟨_, rfl⟩
              have HPY : Hid (psS x ws = some (adStop x p1)) := Lib.hid (by unfold psS; rw [if_pos ⟨hst, hok⟩, hp1])
              have hp1s : p1.size ≤ 8192 := by rw [hp1, bs_size]; have := HWB.out 1; omega
              have HW1 : Hid (w4.cell? ⟨bw, ow + 1, none⟩ = some (.string p1)) := Lib.hid (by rw [hp1]; exact HW4.out 1 (by omega))
              have hw2i : ((ws.length : Int) == 2) = true := by rw [hok]; rfl
              have hws1 : (1 : Int) < (ws.length : Int) := by omega
              have hws1n : 1 < ws.length := by omega
              clear hp1 hok hst
              have hvg : (Value.slice A x.net.stops.length ca).ownBlock ≠ some g := own_ne H4.out.s H4.out.gB
              have hbwg : bw ≠ g := by omega
              have hvw : (Value.slice A x.net.stops.length ca).ownBlock ≠ some bw := fun e => by have := (own_lt H3.out.s bw e).2; omega
              have hW1 : ∀ w', SG w4 g 0 (.slice A x.net.stops.length ca) w' → w'.cell? ⟨bw, ow + 1, none⟩ = some (.string p1) := fun w' h => ((Same.of_blk (h.keep bw hbw4 hbwg hvw)) _).1.trans HW1.out
              go_upto_region 11 with fail
              refine wp_region_held_drew (S := fun w' => SG w4 g 0 (.slice A x.net.stops.length ca) w') (by kernel_rfl) (SG.drew (SG.refl _ _ _ _)) (fun hHeld => ?_)
              refine wpAnyH_take (i := 0) (v := ?_) rfl (by kernel_rfl) (by kernel_rfl) (by kernel_rfl) (fun _ _ _ h => h) (Or.inl ⟨by rfl, ?_⟩) hHeld ?_
              rotate_left 1
              · intro w hSw; (try dsimp only at hSw); first | (go_simp; done) | (go_simp; with_reducible rfl) | (go_simp; rfl)
              try simp only [Act.put, List.getElem_toArray, List.getElem_cons_succ, List.getElem_cons_zero, List.setIfInBounds_toArray, List.set_cons_zero, List.set_cons_succ]
              refine wpAnyH_take (i := 1) (v := ?_) rfl (by kernel_rfl) (by kernel_rfl) (by kernel_rfl) (fun _ _ _ h => h) (Or.inl ⟨by rfl, ?_⟩) hHeld ?_
              rotate_left 1
              · intro w hSw; (try dsimp only at hSw); first | (go_simp; done) | (go_simp; with_reducible rfl) | (go_simp; rfl)
              try simp only [Act.put, List.getElem_toArray, List.getElem_cons_succ, List.getElem_cons_zero, List.setIfInBounds_toArray, List.set_cons_zero, List.set_cons_succ]
              refine wpAnyH_take (i := 3) (v := ?_) rfl (by kernel_rfl) (by kernel_rfl) (by kernel_rfl) (fun _ _ _ h => h) (Or.inl ⟨by rfl, ?_⟩) hHeld ?_
              rotate_left 1
              · intro w hSw; (try dsimp only at hSw); first | (go_simp; done) | (go_simp; with_reducible rfl) | (go_simp; rfl)
              try simp only [Act.put, List.getElem_toArray, List.getElem_cons_succ, List.getElem_cons_zero, List.setIfInBounds_toArray, List.set_cons_zero, List.set_cons_succ]
              refine wpAnyH_take (i := 4) (v := ?_) rfl (by kernel_rfl) (by kernel_rfl) (by kernel_rfl) (fun _ _ _ h => h) (Or.inl ⟨by rfl, ?_⟩) hHeld ?_
              rotate_left 1
              · intro w hSw; (try dsimp only at hSw); first | (go_simp; done) | (go_simp; with_reducible rfl) | (go_simp; rfl)
              try simp only [Act.put, List.getElem_toArray, List.getElem_cons_succ, List.getElem_cons_zero, List.setIfInBounds_toArray, List.set_cons_zero, List.set_cons_succ]
              refine wpAnyH_take (i := 5) (v := ?_) rfl (by kernel_rfl) (by kernel_rfl) (by kernel_rfl) (fun _ _ _ h => h) (Or.inl ⟨by rfl, ?_⟩) hHeld ?_
              rotate_left 1
              · intro w hSw; (try dsimp only at hSw); first | (go_simp; done) | (go_simp; with_reducible rfl) | (go_simp; rfl)
              try simp only [Act.put, List.getElem_toArray, List.getElem_cons_succ, List.getElem_cons_zero, List.setIfInBounds_toArray, List.set_cons_zero, List.set_cons_succ]
              refine wpAnyH_ready (rs := [2, 6]) (by kernel_rfl) (by simp) ?_
              refine AllReadyH.cons rfl (fun K hK => ?_) (AllReadyH.cons rfl (fun K hK => ?_) (AllReadyH.nil))
              · go_simp
                refine hK.out _ _ ?_ (fun hHeld => ?_)
                · repeat' first | assumption | exact SG.refl _ _ _ _ | (refine SG.drew ?_) | (refine SG.alloc ?_ hgz _) | (refine SG.set ?_ _)
                clear hK K
                try simp only [Act.put, List.getElem_toArray, List.getElem_cons_succ, List.getElem_cons_zero, List.setIfInBounds_toArray, List.set_cons_zero, List.set_cons_succ]
                refine wpAnyH_ready (rs := [6]) (by kernel_rfl) (by simp) ?_
                refine AllReadyH.cons rfl (fun K hK => ?_) (AllReadyH.nil)
                go_simp
                refine hK.out _ _ ?_ (fun hHeld => ?_)
                · repeat' first | assumption | exact SG.refl _ _ _ _ | (refine SG.drew ?_) | (refine SG.alloc ?_ hgz _) | (refine SG.set ?_ _)
                clear hK K
                try simp only [Act.put, List.getElem_toArray, List.getElem_cons_succ, List.getElem_cons_zero, List.setIfInBounds_toArray, List.set_cons_zero, List.set_cons_succ]
                refine wpAnyH_ready (rs := [7]) (by kernel_rfl) (by simp) ?_
                refine AllReadyH.cons rfl (fun K hK => ?_) (AllReadyH.nil)
                refine step_appsX (enc := encS) (by rfl) _ _ 22 (by rfl) 16 Tryd.underlying22 his hsz0 hsz1 hsz2 rfl (by omega) (fun _ => rfl) (fun y u hu => by simp [encS] at hu; subst hu; rfl) (by omega) B _ x.net.stops p1 _ (OwnE.call H4.out.s (bel_alloc (bel_drew (Below.refl w4.heap.size w4)) _)) (by rfl) _ (by rfl) (one_cell (by go_simp)) hn1 (by simp; omega) ?_
                intro v8 w8 ho8 hb8 hg8 hat8
                have hS8 := SG.grown hHeld hg8 hgz hvg
                have hV8 : w8.cell? ⟨g, 0, none⟩ = some (.slice A x.net.stops.length ca) := ((Same.of_blk (hg8.block g (by simp; omega) (fun e => hvg e.symm))) 0).1.trans (by go_simp)
                have hF8 : w8.frozen? ⟨g, 0, none⟩ = false := (hS8.free 0).trans cf0
                obtain ⟨A8, n8, c8, rfl⟩ := own_formQ ho8
                refine hK.out _ _ ?_ (fun hHeld => ?_)
                · repeat' first | assumption | exact SG.refl _ _ _ _ | (refine SG.drew ?_) | (refine SG.alloc ?_ hgz _) | (refine SG.set ?_ _)
                clear hK K
                try simp only [Act.put, List.getElem_toArray, List.getElem_cons_succ, List.getElem_cons_zero, List.setIfInBounds_toArray, List.set_cons_zero, List.set_cons_succ]
                refine wpAnyH_take (i := 8) (v := ?_) rfl (by kernel_rfl) (by kernel_rfl) (by kernel_rfl) (fun _ _ _ h => h) (Or.inl ⟨by rfl, ?_⟩) hHeld ?_
                rotate_left 1
                · intro w hSw; (try dsimp only at hSw); first | (go_simp; done) | (go_simp; with_reducible rfl) | (go_simp; rfl)
                try simp only [Act.put, List.getElem_toArray, List.getElem_cons_succ, List.getElem_cons_zero, List.setIfInBounds_toArray, List.set_cons_zero, List.set_cons_succ]
                refine wpAnyH_take (i := 9) (v := ?_) rfl (by kernel_rfl) (by kernel_rfl) (by kernel_rfl) (fun _ _ _ h => h) (Or.inl ⟨by rfl, ?_⟩) hHeld ?_
                rotate_left 1
                · intro w hSw; (try dsimp only at hSw); first | (go_simp; done) | (go_simp; with_reducible rfl) | (go_simp; rfl)
                try simp only [Act.put, List.getElem_toArray, List.getElem_cons_succ, List.getElem_cons_zero, List.setIfInBounds_toArray, List.set_cons_zero, List.set_cons_succ]
                refine wpAnyH_ready (rs := [10]) (by kernel_rfl) (by simp) ?_
                refine AllReadyH.cons rfl (fun K hK => ?_) (AllReadyH.nil)
                go_simp
                refine hK.out _ _ ?_ (fun hHeld => ?_)
                · repeat' first | assumption | exact SG.refl _ _ _ _ | (refine SG.drew ?_) | (refine SG.alloc ?_ hgz _) | (refine SG.set ?_ _)
                clear hK K
                try simp only [Act.put, List.getElem_toArray, List.getElem_cons_succ, List.getElem_cons_zero, List.setIfInBounds_toArray, List.set_cons_zero, List.set_cons_succ]
                refine wpAnyH_done (by kernel_rfl) ?_ _
                have HST := Lib.hid (H4.out.addStop (s := p1) ho8 (Grew.of_grown (bel_alloc (bel_drew (Below.refl w4.heap.size w4)) _) hg8 hat8))
                have hka : Below w4.heap.size w4 (w4.drew.alloc (.cells #[.string p1] 9)) := (bel_alloc (bel_drew (Below.refl w4.heap.size w4)) _)
                have hkb := HK4.out.trans ((KG.of_below hka hB4).trans (KG.of_below hb8 (Nat.le_refl B)))
                have HKE := Lib.hid (hkb.set 0 (.slice A8 n8 c8))
                have hbb := (HB4.out.trans (hka.mono (by omega))).trans (hb8.mono hwB)
                have HBE := Lib.hid (hbb.setCell (p := ⟨g, 0, none⟩) hwg0 (.slice A8 n8 c8))
                clear hka hkb hbb hS8 hV8 hF8 ho8 hb8 hg8 hat8 hHeld hW1 c0 c1 c2 cf0 cf1 cf2
                go_wp2_with fail
                go_roundw
                case rel => exact ⟨k + 1, adStop x p1, _, _, _, ys, by go_num, by omega, HFX.out.addStop hp1s, HRS.out _ HPY.out, HKE.out, HBE.out, HST.out⟩
                case measure => simp [intOf]; omega
              · go_simp
                refine hK.out _ _ ?_ (fun hHeld => ?_)
                · repeat' first | assumption | exact SG.refl _ _ _ _ | (refine SG.drew ?_) | (refine SG.alloc ?_ hgz _) | (refine SG.set ?_ _)
                clear hK K
                try simp only [Act.put, List.getElem_toArray, List.getElem_cons_succ, List.getElem_cons_zero, List.setIfInBounds_toArray, List.set_cons_zero, List.set_cons_succ]
                refine wpAnyH_ready (rs := [2]) (by kernel_rfl) (by simp) ?_
                refine AllReadyH.cons rfl (fun K hK => ?_) (AllReadyH.nil)
                go_simp
                refine hK.out _ _ ?_ (fun hHeld => ?_)
                · repeat' first | assumption | exact SG.refl _ _ _ _ | (refine SG.drew ?_) | (refine SG.alloc ?_ hgz _) | (refine SG.set ?_ _)
                clear hK K
                try simp only [Act.put, List.getElem_toArray, List.getElem_cons_succ, List.getElem_cons_zero, List.setIfInBounds_toArray, List.set_cons_zero, List.set_cons_succ]
                refine wpAnyH_ready (rs := [7]) (by kernel_rfl) (by simp) ?_
                refine AllReadyH.cons rfl (fun K hK => ?_) (AllReadyH.nil)
                refine step_appsX (enc := encS) (by rfl) _ _ 22 (by rfl) 16 Tryd.underlying22 his hsz0 hsz1 hsz2 rfl (by omega) (fun _ => rfl) (fun y u hu => by simp [encS] at hu; subst hu; rfl) (by omega) B _ x.net.stops p1 _ (OwnE.call H4.out.s (bel_alloc (bel_drew (Below.refl w4.heap.size w4)) _)) (by rfl) _ (by rfl) (one_cell (by go_simp)) hn1 (by simp; omega) ?_
                intro v8 w8 ho8 hb8 hg8 hat8
                have hS8 := SG.grown hHeld hg8 hgz hvg
                have hV8 : w8.cell? ⟨g, 0, none⟩ = some (.slice A x.net.stops.length ca) := ((Same.of_blk (hg8.block g (by simp; omega) (fun e => hvg e.symm))) 0).1.trans (by go_simp)
                have hF8 : w8.frozen? ⟨g, 0, none⟩ = false := (hS8.free 0).trans cf0
                obtain ⟨A8, n8, c8, rfl⟩ := own_formQ ho8
                refine hK.out _ _ ?_ (fun hHeld => ?_)
                · repeat' first | assumption | exact SG.refl _ _ _ _ | (refine SG.drew ?_) | (refine SG.alloc ?_ hgz _) | (refine SG.set ?_ _)
                clear hK K
                try simp only [Act.put, List.getElem_toArray, List.getElem_cons_succ, List.getElem_cons_zero, List.setIfInBounds_toArray, List.set_cons_zero, List.set_cons_succ]
                refine wpAnyH_take (i := 8) (v := ?_) rfl (by kernel_rfl) (by kernel_rfl) (by kernel_rfl) (fun _ _ _ h => h) (Or.inl ⟨by rfl, ?_⟩) hHeld ?_
                rotate_left 1
                · intro w hSw; (try dsimp only at hSw); first | (go_simp; done) | (go_simp; with_reducible rfl) | (go_simp; rfl)
                try simp only [Act.put, List.getElem_toArray, List.getElem_cons_succ, List.getElem_cons_zero, List.setIfInBounds_toArray, List.set_cons_zero, List.set_cons_succ]
                refine wpAnyH_take (i := 9) (v := ?_) rfl (by kernel_rfl) (by kernel_rfl) (by kernel_rfl) (fun _ _ _ h => h) (Or.inl ⟨by rfl, ?_⟩) hHeld ?_
                rotate_left 1
                · intro w hSw; (try dsimp only at hSw); first | (go_simp; done) | (go_simp; with_reducible rfl) | (go_simp; rfl)
                try simp only [Act.put, List.getElem_toArray, List.getElem_cons_succ, List.getElem_cons_zero, List.setIfInBounds_toArray, List.set_cons_zero, List.set_cons_succ]
                refine wpAnyH_ready (rs := [10]) (by kernel_rfl) (by simp) ?_
                refine AllReadyH.cons rfl (fun K hK => ?_) (AllReadyH.nil)
                go_simp
                refine hK.out _ _ ?_ (fun hHeld => ?_)
                · repeat' first | assumption | exact SG.refl _ _ _ _ | (refine SG.drew ?_) | (refine SG.alloc ?_ hgz _) | (refine SG.set ?_ _)
                clear hK K
                try simp only [Act.put, List.getElem_toArray, List.getElem_cons_succ, List.getElem_cons_zero, List.setIfInBounds_toArray, List.set_cons_zero, List.set_cons_succ]
                refine wpAnyH_done (by kernel_rfl) ?_ _
                have HST := Lib.hid (H4.out.addStop (s := p1) ho8 (Grew.of_grown (bel_alloc (bel_drew (Below.refl w4.heap.size w4)) _) hg8 hat8))
                have hka : Below w4.heap.size w4 (w4.drew.alloc (.cells #[.string p1] 9)) := (bel_alloc (bel_drew (Below.refl w4.heap.size w4)) _)
                have hkb := HK4.out.trans ((KG.of_below hka hB4).trans (KG.of_below hb8 (Nat.le_refl B)))
                have HKE := Lib.hid (hkb.set 0 (.slice A8 n8 c8))
                have hbb := (HB4.out.trans (hka.mono (by omega))).trans (hb8.mono hwB)
                have HBE := Lib.hid (hbb.setCell (p := ⟨g, 0, none⟩) hwg0 (.slice A8 n8 c8))
                clear hka hkb hbb hS8 hV8 hF8 ho8 hb8 hg8 hat8 hHeld hW1 c0 c1 c2 cf0 cf1 cf2
                go_wp2_with fail
                go_roundw
                case rel => exact ⟨k + 1, adStop x p1, _, _, _, ys, by go_num, by omega, HFX.out.addStop hp1s, HRS.out _ HPY.out, HKE.out, HBE.out, HST.out⟩
                case measure => simp [intOf]; omega
            · have hw2i : ((ws.length : Int) == 2) = false := by simp; omega
              have v2 : (p0.toList == [108, 105, 110, 101]) = false := by rw [HTL0.out, hst]; rfl
              have v3 : (p0.toList == [116, 114, 105, 112]) = false := by rw [HTL0.out, hst]; rfl
              have HR : Hid (psT l = none) := Lib.hid (HRF.out (by unfold psS; rw [if_neg (fun h => hok h.2), if_neg (fun h => by rw [hst] at h; exact absurd h.1 (by decide)), if_neg (fun h => by rw [hst] at h; exact absurd h.1 (by decide))]))
              clear hok hst
              have HZz := Lib.hid (HZ2.out.kept ((HK4.out).keep _ (show w.heap.size < B by omega) (by omega)) (HK4.out).size)
              obtain ⟨z0, z1, z2, zf, zl⟩ := HZz.out
              have zf0 := zf 0
              have zf1 := zf 1
              have zf2 := zf 2
              clear zf
              go_wp2_with fail
              refine bodyPost_ret (v := .tuple #[.agg #[.slice A x.net.stops.length ca, .slice L x.net.lines.length cl, .slice T x.trips.length ct], .bool false]) (by simp [results, Tryd.results15, go_sem, z0, z1, z2]) rfl ?_
              refine retPS_none HR.out ?_
              repeat' (refine Below.setCell ?_ (by simp) _)
              exact HB4.out
          · have v1 : (p0.toList == [115, 116, 111, 112]) = false := by rw [HTL0.out]; exact beq_eq_false_iff_ne.2 hst
            have HS0 := Lib.hid hst
            clear hst
            by_cases hln : ws.getD 0 [] = lineW
            · have v2 : (p0.toList == [108, 105, 110, 101]) = true := by rw [HTL0.out, hln]; rfl
              have v3 : (p0.toList == [116, 114, 105, 112]) = false := by rw [HTL0.out, hln]; rfl
              by_cases h2n : 2 < ws.length
              · have HS1 := Lib.hid hln
                have h2i : (2 : Int) < (ws.length : Int) := by omega
                clear hln
                obtain ⟨o, ho⟩ : ∃ o, o = sLnE x.net.stops 2 (ws.drop 2) ⟨bs (ws.getD 1 []), [], []⟩ := ⟨_, rfl⟩
                have HO := Lib.hid ho
                have HRLn := l6Line_any x.net.stops x.net.lines.length A L ca cl (some ⟨bw, ow, none⟩) cw ws w4 HRA.out HI4.out hn2 (by omega) h2n (fun k => by have := HWB.out k; omega)
                rw [← ho] at HRLn
                have HRLn := Lib.hid HRLn
                clear ho
                go_wp2_with fail
                refine HRLn.out.mono ?_
                rintro e w6 ⟨y, rfl, hly, hb6⟩
                have HB6 := Lib.hid hb6
                have hz6 := hb6.size
                clear hb6
                go_upto_region 14 with fail
                obtain ⟨W7, hW7⟩ : ∃ W7, W7 = w6.alloc (.cells #[.string y.nm, .slice y.sA y.ns y.cs, .slice y.rA y.nr y.cr] 47) := ⟨_, rfl⟩
                rw [← hW7]
                have hb67 : Below w6.heap.size w6 W7 := by rw [hW7]; go_grown
                have hb7 : Below w4.heap.size w4 W7 := HB6.out.trans (hb67.mono hz6)
                have HB7 := Lib.hid hb7
                have H7 := Lib.hid (H4.out.call hb7)
                have HK7 := Lib.hid (HK4.out.trans (KG.of_below hb7 hB4))
                have HBw7 := Lib.hid (HB4.out.trans (hb7.mono (by omega)))
                have y0 : W7.cell? ⟨w6.heap.size, 0, none⟩ = some (.string y.nm) := by rw [hW7]; go_simp
                have y1 : W7.cell? ⟨w6.heap.size, 1, none⟩ = some (.slice y.sA y.ns y.cs) := by rw [hW7]; go_simp
                have y2 : W7.cell? ⟨w6.heap.size, 2, none⟩ = some (.slice y.rA y.nr y.cr) := by rw [hW7]; go_simp
                have HLZ : Hid (∀ z, o = some z → LzAt W7 y z ∧ w4.heap.size ≤ y.lo ∧ y.hi ≤ W7.heap.size) := Lib.hid (fun z hz => by
                  obtain ⟨a1, a2, a3⟩ := hly z hz
                  have := hb67.size
                  exact ⟨a1.keep fun c _ hc => Same.of_below hb67 (by omega), a2, by omega⟩)
                have hg7 : B ≤ W7.heap.size := by have := hb7.size; omega
                obtain ⟨e0, e1, e2, ef, el⟩ := H7.out.c
                have ef1 := ef 1
                have hyl := H7.out.l.len
                have hyl2 : ys.length ≤ 16777216 := by omega
                clear hW7 hb7 hb67 hly hyl ef c0 c1 c2 cf0 cf1 cf2
                cases o with
                | none =>
                  have HR : Hid (psT l = none) := Lib.hid (HRF.out (by unfold psS; rw [if_neg (fun h => HS0.out h.1), if_pos ⟨HS1.out, by omega⟩, ← HO.out]))
                  have HZz := Lib.hid (HZ2.out.kept ((HK7.out).keep _ (show w.heap.size < B by omega) (by omega)) (HK7.out).size)
                  obtain ⟨z0, z1, z2, zf, zl⟩ := HZz.out
                  have zf0 := zf 0
                  have zf1 := zf 1
                  have zf2 := zf 2
                  clear zf
                  go_wp2_with fail
                  refine bodyPost_ret (v := .tuple #[.agg #[.slice A x.net.stops.length ca, .slice L x.net.lines.length cl, .slice T x.trips.length ct], .bool false]) (by simp [results, Tryd.results15, go_sem, z0, z1, z2]) rfl ?_
                  refine retPS_none HR.out ?_
                  repeat' (refine Below.setCell ?_ (by simp) _)
                  exact HBw7.out
                | some z =>
                  have HPY : Hid (psS x ws = some (adLine x z)) := Lib.hid (by
                    unfold psS
                    rw [if_neg (fun h => HS0.out h.1), if_pos ⟨HS1.out, by omega⟩, ← HO.out])
                  have HFY := Lib.hid (HFX.out.addLine (sLn_len HO.out.symm (by omega) (by have := HWB.out 1; omega)))
                  go_wp2_with (at_builtin; go_loud (refine wp_appGL rfl _ _ rfl B _ ys y _ H7.out.l.own rfl _ rfl (by simp) hyl2 hg7 ?_; intro v' w' ho' hb' hs' hat' hz'; obtain ⟨A', n2, c', rfl⟩ := own_formQ ho'; have hcc := H7.out.c.kept (hs' g H7.out.c.lt (own_ne H7.out.l.own H7.out.gB)) hz'; have q1 := hcc.c1; have p1 := hcc.fr 1; have hz8 := Nat.le_trans hg7 hz'; have HN := Lib.hid (H4.out.addLine hB4 HB7.out (HLZ.out z rfl).1 (HLZ.out z rfl).2.1 (HLZ.out z rfl).2.2 ho' (Grew.of_hat hs' hat' hz')); have HKE := Lib.hid ((HK7.out.trans (KG.of_below hb' (Nat.le_refl B))).set 1 (.slice A' n2 c')); have HBE := Lib.hid ((HBw7.out.trans (hb'.mono hwB)).setCell (p := ⟨g, 1, none⟩) hwg0 (.slice A' n2 c')); clear hcc ho' hb' hs' hat' hz'))
                  go_roundw
                  case rel => exact ⟨k + 1, adLine x z, _, _, _, ys ++ [y], by go_num, by omega, HFY.out, HRS.out _ HPY.out, HKE.out, HBE.out, HN.out⟩
                  case measure => simp [intOf]; omega
              · have h2i : ¬ ((2 : Int) < (ws.length : Int)) := by omega
                have HR : Hid (psT l = none) := Lib.hid (HRF.out (by unfold psS; rw [if_neg (fun h => HS0.out h.1), if_neg (fun h => h2n h.2), if_neg (fun h => by rw [hln] at h; exact absurd h.1 (by decide))]))
                clear hln h2n
                have HZz := Lib.hid (HZ2.out.kept ((HK4.out).keep _ (show w.heap.size < B by omega) (by omega)) (HK4.out).size)
                obtain ⟨z0, z1, z2, zf, zl⟩ := HZz.out
                have zf0 := zf 0
                have zf1 := zf 1
                have zf2 := zf 2
                clear zf
                go_wp2_with fail
                refine bodyPost_ret (v := .tuple #[.agg #[.slice A x.net.stops.length ca, .slice L x.net.lines.length cl, .slice T x.trips.length ct], .bool false]) (by simp [results, Tryd.results15, go_sem, z0, z1, z2]) rfl ?_
                refine retPS_none HR.out ?_
                repeat' (refine Below.setCell ?_ (by simp) _)
                exact HB4.out
            · have v2 : (p0.toList == [108, 105, 110, 101]) = false := by rw [HTL0.out]; exact beq_eq_false_iff_ne.2 hln
              have HS1 := Lib.hid hln
              clear hln
              by_cases htp : ws.getD 0 [] = tripW
              · have v3 : (p0.toList == [116, 114, 105, 112]) = true := by rw [HTL0.out, htp]; rfl
                by_cases h4e : ws.length = 4
                · have HS2 := Lib.hid htp
                  have h4i : ((ws.length : Int) == 4) = true := by rw [h4e]; rfl
                  clear htp
                  obtain ⟨l1, hl1'⟩ : ∃ l1, l1 = ws.getD 1 [] := ⟨_, rfl⟩
                  obtain ⟨l2, hl2'⟩ : ∃ l2, l2 = ws.getD 2 [] := ⟨_, rfl⟩
                  obtain ⟨l3, hl3'⟩ : ∃ l3, l3 = ws.getD 3 [] := ⟨_, rfl⟩
                  obtain ⟨p1, hp1⟩ : ∃ p1, p1 = bs l1 := ⟨_, rfl⟩
                  obtain ⟨p2, hp2⟩ : ∃ p2, p2 = bs l2 := ⟨_, rfl⟩
                  obtain ⟨p3, hp3⟩ : ∃ p3, p3 = bs l3 := ⟨_, rfl⟩
                  have hw1 : w4.cell? ⟨bw, ow + 1, none⟩ = some (.string p1) := by rw [hp1, hl1']; exact HW4.out 1 (by omega)
                  have HW2 : Hid (w4.cell? ⟨bw, ow + 2, none⟩ = some (.string p2)) := Lib.hid (by rw [hp2, hl2']; exact HW4.out 2 (by omega))
                  have HW3 : Hid (w4.cell? ⟨bw, ow + 3, none⟩ = some (.string p3)) := Lib.hid (by rw [hp3, hl3']; exact HW4.out 3 (by omega))
                  have hs1 : p1.size ≤ 1048576 := by rw [hp1, bs_size, hl1']; have := HWB.out 1; omega
                  have hs3 : p3.size ≤ 1048576 := by rw [hp3, bs_size, hl3']; have := HWB.out 3; omega
                  obtain ⟨id, hx1⟩ : ∃ id, id = rdV l1 := ⟨_, rfl⟩
                  obtain ⟨k1, hk1⟩ : ∃ k1, k1 = rdK l1 := ⟨_, rfl⟩
                  obtain ⟨jx, hj⟩ : ∃ jx, jx = ixS (namesOf x.net.lines) p2 := ⟨_, rfl⟩
                  obtain ⟨stt, hx3⟩ : ∃ stt, stt = tmV l3 := ⟨_, rfl⟩
                  obtain ⟨k3, hk3⟩ : ∃ k3, k3 = tmK l3 := ⟨_, rfl⟩
                  have HJX := Lib.hid hj
                  have HPS : Hid (psS x ws = if k1 = true ∧ k3 = true then some (adTrip x ⟨id, jx, stt⟩) else none) := Lib.hid (by
                    unfold psS
                    rw [if_neg (fun h => HS0.out h.1), if_neg (fun h => HS1.out h.1), if_pos ⟨HS2.out, h4e⟩, ← hl1', ← hl2', ← hl3', ← hk1, ← hk3, ← hx1, ← hx3, ← hp2, ← hj])
                  have HC1 := l1Read_any p1 w4 (by omega)
                  rw [show p1.data.toList = l1 by rw [hp1, bs_list], ← hx1, ← hk1] at HC1
                  have HC1 := Lib.hid HC1
                  have HC3 := fun W => l4ParseW_any l3 p3 W hp3 (by omega)
                  rw [← hx3, ← hk3] at HC3
                  have HC3 := Lib.hid HC3
                  have hn4 : 3 < ws.length := by omega
                  have hn4i : (3 : Int) < (ws.length : Int) := by omega
                  have hn3i : (2 : Int) < (ws.length : Int) := by omega
                  have hn3 : 2 < ws.length := by omega
                  have hn2i : (1 : Int) < (ws.length : Int) := by omega
                  have hn2n : 1 < ws.length := by omega
                  have ht3 : x.trips.length ≤ 16777215 := by omega
                  clear hl1' hl2' hl3' hp1 hp2 hp3 hx1 hk1 hj hx3 hk3 h4e c0 c1 c2 cf0 cf1 cf2
                  go_wp2_with fail
                  refine HC1.out.mono ?_
                  rintro e w5 ⟨rfl, q5, hq5⟩
                  have H5 := Lib.hid (show PSt w5 B g x (.slice A x.net.stops.length ca) (.slice L x.net.lines.length cl) (.slice T x.trips.length ct) ys by rw [hq5]; exact H4.out.drewN q5)
                  have HK5 := Lib.hid (show KG g B W2 w5 by rw [hq5]; exact ⟨HK4.out.keep, HK4.out.size⟩)
                  have HB5 := Lib.hid (show Below w.heap.size w w5 by rw [hq5]; exact bel_drewN HB4.out q5)
                  have HW5 : Hid (w5.cell? ⟨bw, ow + 2, none⟩ = some (.string p2) ∧ w5.cell? ⟨bw, ow + 3, none⟩ = some (.string p3)) := Lib.hid (by rw [hq5]; exact ⟨HW2.out, HW3.out⟩)
                  have hz5 : w5.heap.size = w4.heap.size := by rw [hq5]; rfl
                  have hw3 := HW5.out.2
                  clear hq5 hw1
                  go_wp2_with fail
                  refine (HC3.out w5).mono ?_
                  rintro e w6 ⟨rfl, q6, hq6⟩
                  have H6 := Lib.hid (show PSt w6 B g x (.slice A x.net.stops.length ca) (.slice L x.net.lines.length cl) (.slice T x.trips.length ct) ys by rw [hq6]; exact H5.out.drewN q6)
                  have HK6 := Lib.hid (show KG g B W2 w6 by rw [hq6]; exact ⟨HK5.out.keep, HK5.out.size⟩)
                  have HB6 := Lib.hid (show Below w.heap.size w w6 by rw [hq6]; exact bel_drewN HB5.out q6)
                  have HW6 : Hid (w6.cell? ⟨bw, ow + 2, none⟩ = some (.string p2)) := Lib.hid (by rw [hq6]; exact HW5.out.1)
                  have hz6 : w6.heap.size = w4.heap.size := by rw [hq6]; exact hz5
                  obtain ⟨c0, c1, c2, cf, cl6⟩ := H6.out.c
                  have cf0 := cf 0
                  have cf1 := cf 1
                  have cf2 := cf 2
                  clear hq6 hw3 cf hz5
                  cases k1
                  · have HR : Hid (psT l = none) := Lib.hid (HRF.out (by rw [HPS.out, if_neg]; rintro ⟨h, _⟩; first | cases h | exact h))
                    have HZz := Lib.hid (HZ2.out.kept ((HK6.out).keep _ (show w.heap.size < B by omega) (by omega)) (HK6.out).size)
                    obtain ⟨z0, z1, z2, zf, zl⟩ := HZz.out
                    have zf0 := zf 0
                    have zf1 := zf 1
                    have zf2 := zf 2
                    clear zf
                    go_wp2_with fail
                    refine bodyPost_ret (v := .tuple #[.agg #[.slice A x.net.stops.length ca, .slice L x.net.lines.length cl, .slice T x.trips.length ct], .bool false]) (by simp [results, Tryd.results15, go_sem, z0, z1, z2]) rfl ?_
                    refine retPS_none HR.out ?_
                    repeat' (refine Below.setCell ?_ (by simp) _)
                    exact HB6.out
                  · cases k3
                    · have HR : Hid (psT l = none) := Lib.hid (HRF.out (by rw [HPS.out, if_neg]; rintro ⟨_, h⟩; first | cases h | exact h))
                      have HZz := Lib.hid (HZ2.out.kept ((HK6.out).keep _ (show w.heap.size < B by omega) (by omega)) (HK6.out).size)
                      obtain ⟨z0, z1, z2, zf, zl⟩ := HZz.out
                      have zf0 := zf 0
                      have zf1 := zf 1
                      have zf2 := zf 2
                      clear zf
                      go_wp2_with fail
                      refine bodyPost_ret (v := .tuple #[.agg #[.slice A x.net.stops.length ca, .slice L x.net.lines.length cl, .slice T x.trips.length ct], .bool false]) (by simp [results, Tryd.results15, go_sem, z0, z1, z2]) rfl ?_
                      refine retPS_none HR.out ?_
                      repeat' (refine Below.setCell ?_ (by simp) _)
                      exact HB6.out
                    · have HPY : Hid (psS x ws = some (adTrip x ⟨id, jx, stt⟩)) := Lib.hid (by rw [HPS.out, if_pos ⟨by trivial, by trivial⟩])
                      have hgz : g < w6.heap.size := cl6
                      have hvg : (Value.slice T x.trips.length ct).ownBlock ≠ some g := own_ne H6.out.t H6.out.gB
                      have hbwg : bw ≠ g := by omega
                      have hvw : (Value.slice T x.trips.length ct).ownBlock ≠ some bw := fun e => by have := (own_lt H3.out.t bw e).2; omega
                      have hC0 : ∀ w', SG w6 g 2 (.slice T x.trips.length ct) w' → w'.cell? ⟨g, 0, none⟩ = some (.slice A x.net.stops.length ca) := fun w' h => (h.cell 0 (by omega)).trans (H6.out.c.c0)
                      have hC1 : ∀ w', SG w6 g 2 (.slice T x.trips.length ct) w' → w'.cell? ⟨g, 1, none⟩ = some (.slice L x.net.lines.length cl) := fun w' h => (h.cell 1 (by omega)).trans (H6.out.c.c1)
                      have hCW : ∀ w', SG w6 g 2 (.slice T x.trips.length ct) w' → w'.cell? ⟨bw, ow + 2, none⟩ = some (.string p2) := fun w' h => ((Same.of_blk (h.keep bw (by omega) hbwg hvw)) _).1.trans HW6.out
                      have hCL : ∀ w', SG w6 g 2 (.slice T x.trips.length ct) w' → LinesIn w' (Zone.below w'.heap.size) L x.net.lines := fun w' h => H6.out.linesSG rfl h
                      have hwz6 : w.heap.size ≤ w6.heap.size := by omega
                      clear c0 c1
                      go_upto_region 22 with fail
                      refine wp_region_held_drew (S := fun w' => SG w6 g 2 (.slice T x.trips.length ct) w') (by kernel_rfl) (SG.drew (SG.refl _ _ _ _)) (fun hHeld => ?_)
                      refine wpAnyH_take (i := 0) (v := ?_) rfl (by kernel_rfl) (by kernel_rfl) (by kernel_rfl) (fun _ _ _ h => h) (Or.inl ⟨by rfl, ?_⟩) hHeld ?_
                      rotate_left 1
                      · intro w hSw; (try dsimp only at hSw); first | (go_simp; done) | (go_simp; with_reducible rfl) | (go_simp; rfl)
                      try simp only [Act.put, List.getElem_toArray, List.getElem_cons_succ, List.getElem_cons_zero, List.setIfInBounds_toArray, List.set_cons_zero, List.set_cons_succ]
                      refine wpAnyH_take (i := 2) (v := ?_) rfl (by kernel_rfl) (by kernel_rfl) (by kernel_rfl) (fun _ _ _ h => h) (Or.inl ⟨by rfl, ?_⟩) hHeld ?_
                      rotate_left 1
                      · intro w hSw; (try dsimp only at hSw); first | (go_simp; done) | (go_simp; with_reducible rfl) | (go_simp; rfl)
                      try simp only [Act.put, List.getElem_toArray, List.getElem_cons_succ, List.getElem_cons_zero, List.setIfInBounds_toArray, List.set_cons_zero, List.set_cons_succ]
                      refine wpAnyH_take (i := 3) (v := ?_) rfl (by kernel_rfl) (by kernel_rfl) (by kernel_rfl) (fun _ _ _ h => h) (Or.inl ⟨by rfl, ?_⟩) hHeld ?_
                      rotate_left 1
                      · intro w hSw; (try dsimp only at hSw); first | (go_simp; done) | (go_simp; with_reducible rfl) | (go_simp; rfl)
                      try simp only [Act.put, List.getElem_toArray, List.getElem_cons_succ, List.getElem_cons_zero, List.setIfInBounds_toArray, List.set_cons_zero, List.set_cons_succ]
                      refine wpAnyH_take (i := 4) (v := ?_) rfl (by kernel_rfl) (by kernel_rfl) (by kernel_rfl) (fun _ _ _ h => h) (Or.inl ⟨by rfl, ?_⟩) hHeld ?_
                      rotate_left 1
                      · intro w hSw; (try dsimp only at hSw); first | (go_simp; done) | (go_simp; with_reducible rfl) | (go_simp; rfl)
                      try simp only [Act.put, List.getElem_toArray, List.getElem_cons_succ, List.getElem_cons_zero, List.setIfInBounds_toArray, List.set_cons_zero, List.set_cons_succ]
                      refine wpAnyH_take (i := 5) (v := ?_) rfl (by kernel_rfl) (by kernel_rfl) (by kernel_rfl) (fun _ _ _ h => h) (Or.inl ⟨by rfl, ?_⟩) hHeld ?_
                      rotate_left 1
                      · intro w hSw; (try dsimp only at hSw); first | (go_simp; done) | (go_simp; with_reducible rfl) | (go_simp; rfl)
                      try simp only [Act.put, List.getElem_toArray, List.getElem_cons_succ, List.getElem_cons_zero, List.setIfInBounds_toArray, List.set_cons_zero, List.set_cons_succ]
                      refine wpAnyH_take (i := 6) (v := ?_) rfl (by kernel_rfl) (by kernel_rfl) (by kernel_rfl) (fun _ _ _ h => h) (Or.inl ⟨by rfl, ?_⟩) hHeld ?_
                      rotate_left 1
                      · intro w hSw; (try dsimp only at hSw); first | (go_simp; done) | (go_simp; with_reducible rfl) | (go_simp; rfl)
                      try simp only [Act.put, List.getElem_toArray, List.getElem_cons_succ, List.getElem_cons_zero, List.setIfInBounds_toArray, List.set_cons_zero, List.set_cons_succ]
                      refine wpAnyH_take (i := 7) (v := ?_) rfl (by kernel_rfl) (by kernel_rfl) (by kernel_rfl) (fun _ _ _ h => h) (Or.inl ⟨by rfl, ?_⟩) hHeld ?_
                      rotate_left 1
                      · intro w hSw; (try dsimp only at hSw); first | (go_simp; done) | (go_simp; with_reducible rfl) | (go_simp; rfl)
                      try simp only [Act.put, List.getElem_toArray, List.getElem_cons_succ, List.getElem_cons_zero, List.setIfInBounds_toArray, List.set_cons_zero, List.set_cons_succ]
                      refine wpAnyH_take (i := 9) (v := ?_) rfl (by kernel_rfl) (by kernel_rfl) (by kernel_rfl) (fun _ _ _ h => h) (Or.inl ⟨by rfl, ?_⟩) hHeld ?_
                      rotate_left 1
                      · intro w hSw; (try dsimp only at hSw); first | (go_simp; done) | (go_simp; with_reducible rfl) | (go_simp; rfl)
                      try simp only [Act.put, List.getElem_toArray, List.getElem_cons_succ, List.getElem_cons_zero, List.setIfInBounds_toArray, List.set_cons_zero, List.set_cons_succ]
                      refine wpAnyH_ready (rs := [1, 8]) (by kernel_rfl) (by simp) ?_
                      refine AllReadyH.cons rfl (fun K hK => ?_) (AllReadyH.cons rfl (fun K hK => ?_) (AllReadyH.nil))
                      · go_simp
                        refine hK.out _ _ ?_ (fun hHeld => ?_)
                        · repeat' first | assumption | exact SG.refl _ _ _ _ | (refine SG.drew ?_) | (refine SG.alloc ?_ hgz _) | (refine SG.set ?_ _)
                        clear hK K
                        try simp only [Act.put, List.getElem_toArray, List.getElem_cons_succ, List.getElem_cons_zero, List.setIfInBounds_toArray, List.set_cons_zero, List.set_cons_succ]
                        refine wpAnyH_ready (rs := [8]) (by kernel_rfl) (by simp) ?_
                        refine AllReadyH.cons rfl (fun K hK => ?_) (AllReadyH.nil)
                        go_simp
                        refine (l2LineNamed_any x.net A L ca cl p2 _ (hCL _ hHeld) hl1).mono ?_
                        rintro e w7 ⟨rfl, hb7⟩
                        rw [← HJX.out]
                        have hS7 := SG.call hHeld hb7 hgz
                        have hV7 : w7.cell? ⟨g, 2, none⟩ = some (.slice T x.trips.length ct) := (hb7.cell (p := ⟨g, 2, none⟩) (by simp; omega)).trans (by go_simp)
                        have hB7 : Below w6.heap.size w6 w7 := bel_call (bel_drew (Below.refl w6.heap.size w6)) hb7
                        have hz7 := hB7.size
                        have hgz7 : g < w7.heap.size := by omega
                        refine hK.out _ _ ?_ (fun hHeld => ?_)
                        · repeat' first | assumption | exact SG.refl _ _ _ _ | (refine SG.drew ?_) | (refine SG.alloc ?_ hgz _) | (refine SG.set ?_ _)
                        clear hK K
                        try simp only [Act.put, List.getElem_toArray, List.getElem_cons_succ, List.getElem_cons_zero, List.setIfInBounds_toArray, List.set_cons_zero, List.set_cons_succ]
                        refine wpAnyH_take (i := 10) (v := ?_) rfl (by kernel_rfl) (by kernel_rfl) (by kernel_rfl) (fun _ _ _ h => h) (Or.inl ⟨by rfl, ?_⟩) hHeld ?_
                        rotate_left 1
                        · intro w hSw; (try dsimp only at hSw); first | (go_simp; done) | (go_simp; with_reducible rfl) | (go_simp; rfl)
                        try simp only [Act.put, List.getElem_toArray, List.getElem_cons_succ, List.getElem_cons_zero, List.setIfInBounds_toArray, List.set_cons_zero, List.set_cons_succ]
                        refine wpAnyH_ready (rs := [11]) (by kernel_rfl) (by simp) ?_
                        refine AllReadyH.cons rfl (fun K hK => ?_) (AllReadyH.nil)
                        go_simp
                        refine hK.out _ _ ?_ (fun hHeld => ?_)
                        · repeat' first | assumption | exact SG.refl _ _ _ _ | (refine SG.drew ?_) | (refine SG.alloc ?_ hgz _) | (refine SG.set ?_ _)
                        clear hK K
                        try simp only [Act.put, List.getElem_toArray, List.getElem_cons_succ, List.getElem_cons_zero, List.setIfInBounds_toArray, List.set_cons_zero, List.set_cons_succ]
                        refine wpAnyH_ready (rs := [12]) (by kernel_rfl) (by simp) ?_
                        refine AllReadyH.cons rfl (fun K hK => ?_) (AllReadyH.nil)
                        refine step_appsX (enc := encI3) (by rfl) _ _ 31 (by rfl) 24 Tryd.underlying31 hit htz0 htz1 htz2 rfl (by omega) (fun _ => rfl) encI3_cellP (by omega) B _ x.trips ⟨id, jx, stt⟩ _ (OwnE.call H6.out.t (bel_alloc hB7 _)) (by rfl) _ (by rfl) (three_cells (t := ⟨id, jx, stt⟩) (by go_simp) (by go_simp) (by go_simp)) ht3 (by simp; omega) ?_
                        intro v8 w8 ho8 hb8 hg8 hat8
                        have hS8 := SG.grown hHeld hg8 hgz hvg
                        have hV8 : w8.cell? ⟨g, 2, none⟩ = some (.slice T x.trips.length ct) := ((Same.of_blk (hg8.block g (by simp; omega) (fun e => hvg e.symm))) 2).1.trans (by go_simp)
                        have hF8 : w8.frozen? ⟨g, 2, none⟩ = false := (hS8.free 2).trans cf2
                        obtain ⟨A8, n8, c8, rfl⟩ := own_formQ ho8
                        refine hK.out _ _ ?_ (fun hHeld => ?_)
                        · repeat' first | assumption | exact SG.refl _ _ _ _ | (refine SG.drew ?_) | (refine SG.alloc ?_ hgz _) | (refine SG.set ?_ _)
                        clear hK K
                        try simp only [Act.put, List.getElem_toArray, List.getElem_cons_succ, List.getElem_cons_zero, List.setIfInBounds_toArray, List.set_cons_zero, List.set_cons_succ]
                        refine wpAnyH_take (i := 13) (v := ?_) rfl (by kernel_rfl) (by kernel_rfl) (by kernel_rfl) (fun _ _ _ h => h) (Or.inl ⟨by rfl, ?_⟩) hHeld ?_
                        rotate_left 1
                        · intro w hSw; (try dsimp only at hSw); first | (go_simp; done) | (go_simp; with_reducible rfl) | (go_simp; rfl)
                        try simp only [Act.put, List.getElem_toArray, List.getElem_cons_succ, List.getElem_cons_zero, List.setIfInBounds_toArray, List.set_cons_zero, List.set_cons_succ]
                        refine wpAnyH_ready (rs := [14]) (by kernel_rfl) (by simp) ?_
                        refine AllReadyH.cons rfl (fun K hK => ?_) (AllReadyH.nil)
                        go_simp
                        refine hK.out _ _ ?_ (fun hHeld => ?_)
                        · repeat' first | assumption | exact SG.refl _ _ _ _ | (refine SG.drew ?_) | (refine SG.alloc ?_ hgz _) | (refine SG.set ?_ _)
                        clear hK K
                        try simp only [Act.put, List.getElem_toArray, List.getElem_cons_succ, List.getElem_cons_zero, List.setIfInBounds_toArray, List.set_cons_zero, List.set_cons_succ]
                        refine wpAnyH_done (by kernel_rfl) ?_ _
                        have hka : Below w6.heap.size w6 (w7.alloc (.cells #[.int .i64 id, .int .i64 jx, .int .i64 stt] 54)) := bel_alloc hB7 _
                        have HST := Lib.hid (H6.out.addTrip (t := ⟨id, jx, stt⟩) ho8 (Grew.of_grown hka hg8 hat8))
                        have hkb := HK6.out.trans ((KG.of_below hka (by omega)).trans (KG.of_below hb8 (Nat.le_refl B)))
                        have HKE := Lib.hid (hkb.set 2 (.slice A8 n8 c8))
                        have hbb := (HB6.out.trans (hka.mono (by omega))).trans (hb8.mono hwB)
                        have HBE := Lib.hid (hbb.setCell (p := ⟨g, 2, none⟩) hwg0 (.slice A8 n8 c8))
                        clear hka hkb hbb hS8 hV8 hF8 ho8 hb8 hg8 hat8 hHeld hC0 hC1 hCW hCL hS7 hV7 hB7 hb7 c2 cf0 cf1 cf2
                        go_wp2_with fail
                        go_roundw
                        case rel => exact ⟨k + 1, adTrip x ⟨id, jx, stt⟩, _, _, _, ys, by go_num, by omega, FitX.addTrip HFX.out, HRS.out _ HPY.out, HKE.out, HBE.out, HST.out⟩
                        case measure => simp [intOf]; omega
                      · go_simp
                        refine (l2LineNamed_any x.net A L ca cl p2 _ (hCL _ hHeld) hl1).mono ?_
                        rintro e w7 ⟨rfl, hb7⟩
                        rw [← HJX.out]
                        have hS7 := SG.call hHeld hb7 hgz
                        have hV7 : w7.cell? ⟨g, 2, none⟩ = some (.slice T x.trips.length ct) := (hb7.cell (p := ⟨g, 2, none⟩) (by simp; omega)).trans (by go_simp)
                        have hB7 : Below w6.heap.size w6 w7 := bel_call (bel_drew (Below.refl w6.heap.size w6)) hb7
                        have hz7 := hB7.size
                        have hgz7 : g < w7.heap.size := by omega
                        refine hK.out _ _ ?_ (fun hHeld => ?_)
                        · repeat' first | assumption | exact SG.refl _ _ _ _ | (refine SG.drew ?_) | (refine SG.alloc ?_ hgz _) | (refine SG.set ?_ _)
                        clear hK K
                        try simp only [Act.put, List.getElem_toArray, List.getElem_cons_succ, List.getElem_cons_zero, List.setIfInBounds_toArray, List.set_cons_zero, List.set_cons_succ]
                        refine wpAnyH_take (i := 10) (v := ?_) rfl (by kernel_rfl) (by kernel_rfl) (by kernel_rfl) (fun _ _ _ h => h) (Or.inl ⟨by rfl, ?_⟩) hHeld ?_
                        rotate_left 1
                        · intro w hSw; (try dsimp only at hSw); first | (go_simp; done) | (go_simp; with_reducible rfl) | (go_simp; rfl)
                        try simp only [Act.put, List.getElem_toArray, List.getElem_cons_succ, List.getElem_cons_zero, List.setIfInBounds_toArray, List.set_cons_zero, List.set_cons_succ]
                        refine wpAnyH_ready (rs := [1, 11]) (by kernel_rfl) (by simp) ?_
                        refine AllReadyH.cons rfl (fun K hK => ?_) (AllReadyH.cons rfl (fun K hK => ?_) (AllReadyH.nil))
                        · go_simp
                          refine hK.out _ _ ?_ (fun hHeld => ?_)
                          · repeat' first | assumption | exact SG.refl _ _ _ _ | (refine SG.drew ?_) | (refine SG.alloc ?_ hgz _) | (refine SG.set ?_ _)
                          clear hK K
                          try simp only [Act.put, List.getElem_toArray, List.getElem_cons_succ, List.getElem_cons_zero, List.setIfInBounds_toArray, List.set_cons_zero, List.set_cons_succ]
                          refine wpAnyH_ready (rs := [11]) (by kernel_rfl) (by simp) ?_
                          refine AllReadyH.cons rfl (fun K hK => ?_) (AllReadyH.nil)
                          go_simp
                          refine hK.out _ _ ?_ (fun hHeld => ?_)
                          · repeat' first | assumption | exact SG.refl _ _ _ _ | (refine SG.drew ?_) | (refine SG.alloc ?_ hgz _) | (refine SG.set ?_ _)
                          clear hK K
                          try simp only [Act.put, List.getElem_toArray, List.getElem_cons_succ, List.getElem_cons_zero, List.setIfInBounds_toArray, List.set_cons_zero, List.set_cons_succ]
                          refine wpAnyH_ready (rs := [12]) (by kernel_rfl) (by simp) ?_
                          refine AllReadyH.cons rfl (fun K hK => ?_) (AllReadyH.nil)
                          refine step_appsX (enc := encI3) (by rfl) _ _ 31 (by rfl) 24 Tryd.underlying31 hit htz0 htz1 htz2 rfl (by omega) (fun _ => rfl) encI3_cellP (by omega) B _ x.trips ⟨id, jx, stt⟩ _ (OwnE.call H6.out.t (bel_alloc hB7 _)) (by rfl) _ (by rfl) (three_cells (t := ⟨id, jx, stt⟩) (by go_simp) (by go_simp) (by go_simp)) ht3 (by simp; omega) ?_
                          intro v8 w8 ho8 hb8 hg8 hat8
                          have hS8 := SG.grown hHeld hg8 hgz hvg
                          have hV8 : w8.cell? ⟨g, 2, none⟩ = some (.slice T x.trips.length ct) := ((Same.of_blk (hg8.block g (by simp; omega) (fun e => hvg e.symm))) 2).1.trans (by go_simp)
                          have hF8 : w8.frozen? ⟨g, 2, none⟩ = false := (hS8.free 2).trans cf2
                          obtain ⟨A8, n8, c8, rfl⟩ := own_formQ ho8
                          refine hK.out _ _ ?_ (fun hHeld => ?_)
                          · repeat' first | assumption | exact SG.refl _ _ _ _ | (refine SG.drew ?_) | (refine SG.alloc ?_ hgz _) | (refine SG.set ?_ _)
                          clear hK K
                          try simp only [Act.put, List.getElem_toArray, List.getElem_cons_succ, List.getElem_cons_zero, List.setIfInBounds_toArray, List.set_cons_zero, List.set_cons_succ]
                          refine wpAnyH_take (i := 13) (v := ?_) rfl (by kernel_rfl) (by kernel_rfl) (by kernel_rfl) (fun _ _ _ h => h) (Or.inl ⟨by rfl, ?_⟩) hHeld ?_
                          rotate_left 1
                          · intro w hSw; (try dsimp only at hSw); first | (go_simp; done) | (go_simp; with_reducible rfl) | (go_simp; rfl)
                          try simp only [Act.put, List.getElem_toArray, List.getElem_cons_succ, List.getElem_cons_zero, List.setIfInBounds_toArray, List.set_cons_zero, List.set_cons_succ]
                          refine wpAnyH_ready (rs := [14]) (by kernel_rfl) (by simp) ?_
                          refine AllReadyH.cons rfl (fun K hK => ?_) (AllReadyH.nil)
                          go_simp
                          refine hK.out _ _ ?_ (fun hHeld => ?_)
                          · repeat' first | assumption | exact SG.refl _ _ _ _ | (refine SG.drew ?_) | (refine SG.alloc ?_ hgz _) | (refine SG.set ?_ _)
                          clear hK K
                          try simp only [Act.put, List.getElem_toArray, List.getElem_cons_succ, List.getElem_cons_zero, List.setIfInBounds_toArray, List.set_cons_zero, List.set_cons_succ]
                          refine wpAnyH_done (by kernel_rfl) ?_ _
                          have hka : Below w6.heap.size w6 (w7.alloc (.cells #[.int .i64 id, .int .i64 jx, .int .i64 stt] 54)) := bel_alloc hB7 _
                          have HST := Lib.hid (H6.out.addTrip (t := ⟨id, jx, stt⟩) ho8 (Grew.of_grown hka hg8 hat8))
                          have hkb := HK6.out.trans ((KG.of_below hka (by omega)).trans (KG.of_below hb8 (Nat.le_refl B)))
                          have HKE := Lib.hid (hkb.set 2 (.slice A8 n8 c8))
                          have hbb := (HB6.out.trans (hka.mono (by omega))).trans (hb8.mono hwB)
                          have HBE := Lib.hid (hbb.setCell (p := ⟨g, 2, none⟩) hwg0 (.slice A8 n8 c8))
                          clear hka hkb hbb hS8 hV8 hF8 ho8 hb8 hg8 hat8 hHeld hC0 hC1 hCW hCL hS7 hV7 hB7 hb7 c2 cf0 cf1 cf2
                          go_wp2_with fail
                          go_roundw
                          case rel => exact ⟨k + 1, adTrip x ⟨id, jx, stt⟩, _, _, _, ys, by go_num, by omega, FitX.addTrip HFX.out, HRS.out _ HPY.out, HKE.out, HBE.out, HST.out⟩
                          case measure => simp [intOf]; omega
                        · go_simp
                          refine hK.out _ _ ?_ (fun hHeld => ?_)
                          · repeat' first | assumption | exact SG.refl _ _ _ _ | (refine SG.drew ?_) | (refine SG.alloc ?_ hgz _) | (refine SG.set ?_ _)
                          clear hK K
                          try simp only [Act.put, List.getElem_toArray, List.getElem_cons_succ, List.getElem_cons_zero, List.setIfInBounds_toArray, List.set_cons_zero, List.set_cons_succ]
                          refine wpAnyH_ready (rs := [1]) (by kernel_rfl) (by simp) ?_
                          refine AllReadyH.cons rfl (fun K hK => ?_) (AllReadyH.nil)
                          go_simp
                          refine hK.out _ _ ?_ (fun hHeld => ?_)
                          · repeat' first | assumption | exact SG.refl _ _ _ _ | (refine SG.drew ?_) | (refine SG.alloc ?_ hgz _) | (refine SG.set ?_ _)
                          clear hK K
                          try simp only [Act.put, List.getElem_toArray, List.getElem_cons_succ, List.getElem_cons_zero, List.setIfInBounds_toArray, List.set_cons_zero, List.set_cons_succ]
                          refine wpAnyH_ready (rs := [12]) (by kernel_rfl) (by simp) ?_
                          refine AllReadyH.cons rfl (fun K hK => ?_) (AllReadyH.nil)
                          refine step_appsX (enc := encI3) (by rfl) _ _ 31 (by rfl) 24 Tryd.underlying31 hit htz0 htz1 htz2 rfl (by omega) (fun _ => rfl) encI3_cellP (by omega) B _ x.trips ⟨id, jx, stt⟩ _ (OwnE.call H6.out.t (bel_alloc hB7 _)) (by rfl) _ (by rfl) (three_cells (t := ⟨id, jx, stt⟩) (by go_simp) (by go_simp) (by go_simp)) ht3 (by simp; omega) ?_
                          intro v8 w8 ho8 hb8 hg8 hat8
                          have hS8 := SG.grown hHeld hg8 hgz hvg
                          have hV8 : w8.cell? ⟨g, 2, none⟩ = some (.slice T x.trips.length ct) := ((Same.of_blk (hg8.block g (by simp; omega) (fun e => hvg e.symm))) 2).1.trans (by go_simp)
                          have hF8 : w8.frozen? ⟨g, 2, none⟩ = false := (hS8.free 2).trans cf2
                          obtain ⟨A8, n8, c8, rfl⟩ := own_formQ ho8
                          refine hK.out _ _ ?_ (fun hHeld => ?_)
                          · repeat' first | assumption | exact SG.refl _ _ _ _ | (refine SG.drew ?_) | (refine SG.alloc ?_ hgz _) | (refine SG.set ?_ _)
                          clear hK K
                          try simp only [Act.put, List.getElem_toArray, List.getElem_cons_succ, List.getElem_cons_zero, List.setIfInBounds_toArray, List.set_cons_zero, List.set_cons_succ]
                          refine wpAnyH_take (i := 13) (v := ?_) rfl (by kernel_rfl) (by kernel_rfl) (by kernel_rfl) (fun _ _ _ h => h) (Or.inl ⟨by rfl, ?_⟩) hHeld ?_
                          rotate_left 1
                          · intro w hSw; (try dsimp only at hSw); first | (go_simp; done) | (go_simp; with_reducible rfl) | (go_simp; rfl)
                          try simp only [Act.put, List.getElem_toArray, List.getElem_cons_succ, List.getElem_cons_zero, List.setIfInBounds_toArray, List.set_cons_zero, List.set_cons_succ]
                          refine wpAnyH_ready (rs := [14]) (by kernel_rfl) (by simp) ?_
                          refine AllReadyH.cons rfl (fun K hK => ?_) (AllReadyH.nil)
                          go_simp
                          refine hK.out _ _ ?_ (fun hHeld => ?_)
                          · repeat' first | assumption | exact SG.refl _ _ _ _ | (refine SG.drew ?_) | (refine SG.alloc ?_ hgz _) | (refine SG.set ?_ _)
                          clear hK K
                          try simp only [Act.put, List.getElem_toArray, List.getElem_cons_succ, List.getElem_cons_zero, List.setIfInBounds_toArray, List.set_cons_zero, List.set_cons_succ]
                          refine wpAnyH_done (by kernel_rfl) ?_ _
                          have hka : Below w6.heap.size w6 (w7.alloc (.cells #[.int .i64 id, .int .i64 jx, .int .i64 stt] 54)) := bel_alloc hB7 _
                          have HST := Lib.hid (H6.out.addTrip (t := ⟨id, jx, stt⟩) ho8 (Grew.of_grown hka hg8 hat8))
                          have hkb := HK6.out.trans ((KG.of_below hka (by omega)).trans (KG.of_below hb8 (Nat.le_refl B)))
                          have HKE := Lib.hid (hkb.set 2 (.slice A8 n8 c8))
                          have hbb := (HB6.out.trans (hka.mono (by omega))).trans (hb8.mono hwB)
                          have HBE := Lib.hid (hbb.setCell (p := ⟨g, 2, none⟩) hwg0 (.slice A8 n8 c8))
                          clear hka hkb hbb hS8 hV8 hF8 ho8 hb8 hg8 hat8 hHeld hC0 hC1 hCW hCL hS7 hV7 hB7 hb7 c2 cf0 cf1 cf2
                          go_wp2_with fail
                          go_roundw
                          case rel => exact ⟨k + 1, adTrip x ⟨id, jx, stt⟩, _, _, _, ys, by go_num, by omega, FitX.addTrip HFX.out, HRS.out _ HPY.out, HKE.out, HBE.out, HST.out⟩
                          case measure => simp [intOf]; omega
                · have h4i : ((ws.length : Int) == 4) = false := by simp; omega
                  have HR : Hid (psT l = none) := Lib.hid (HRF.out (by unfold psS; rw [if_neg (fun h => HS0.out h.1), if_neg (fun h => HS1.out h.1), if_neg (fun h => h4e h.2)]))
                  clear htp h4e
                  have HZz := Lib.hid (HZ2.out.kept ((HK4.out).keep _ (show w.heap.size < B by omega) (by omega)) (HK4.out).size)
                  obtain ⟨z0, z1, z2, zf, zl⟩ := HZz.out
                  have zf0 := zf 0
                  have zf1 := zf 1
                  have zf2 := zf 2
                  clear zf
                  go_wp2_with fail
                  refine bodyPost_ret (v := .tuple #[.agg #[.slice A x.net.stops.length ca, .slice L x.net.lines.length cl, .slice T x.trips.length ct], .bool false]) (by simp [results, Tryd.results15, go_sem, z0, z1, z2]) rfl ?_
                  refine retPS_none HR.out ?_
                  repeat' (refine Below.setCell ?_ (by simp) _)
                  exact HB4.out
              · have v3 : (p0.toList == [116, 114, 105, 112]) = false := by rw [HTL0.out]; exact beq_eq_false_iff_ne.2 htp
                have HR : Hid (psT l = none) := Lib.hid (HRF.out (by unfold psS; rw [if_neg (fun h => HS0.out h.1), if_neg (fun h => HS1.out h.1), if_neg (fun h => htp h.1)]))
                clear htp
                have HZz := Lib.hid (HZ2.out.kept ((HK4.out).keep _ (show w.heap.size < B by omega) (by omega)) (HK4.out).size)
                obtain ⟨z0, z1, z2, zf, zl⟩ := HZz.out
                have zf0 := zf 0
                have zf1 := zf 1
                have zf2 := zf 2
                clear zf
                go_wp2_with fail
                refine bodyPost_ret (v := .tuple #[.agg #[.slice A x.net.stops.length ca, .slice L x.net.lines.length cl, .slice T x.trips.length ct], .bool false]) (by simp [results, Tryd.results15, go_sem, z0, z1, z2]) rfl ?_
                refine retPS_none HR.out ?_
                repeat' (refine Below.setCell ?_ (by simp) _)
                exact HB4.out
        · obtain rfl : k = N := by omega
          have HRx := Lib.hid (HSm.out x (by rw [← HPE.out, ← HP0L.out, List.drop_length]; rfl))
          obtain ⟨A, ca, L, cl, T, ct, rfl, rfl, rfl, hrA, hrL, hrT⟩ := H3.out.reads
          have hfits : FitsT x := HFX.out.fits (by omega)
          obtain ⟨c0, c1, c2, cf, cl4⟩ := H3.out.c
          have HRA := Lib.hid hrA
          have HRL := Lib.hid hrL
          have HRT := Lib.hid hrT
          have HF := Lib.hid hfits
          have HCk := Lib.hid (l5Good_any x A L T ca cl ct wo hrA hrL hrT hfits)
          have hBo : B ≤ wo.heap.size := by have := HK3.out.size; omega
          have hwo : w.heap.size ≤ wo.heap.size := by omega
          clear cf hrA hrL hrT hfits
          go_wp2_with fail
          refine HCk.out.mono ?_
          rintro e w5 ⟨rfl, hb5⟩
          have H5 := Lib.hid (H3.out.call hb5)
          have HK5 := Lib.hid (HK3.out.trans (KG.of_below hb5 hBo))
          have HB5 := Lib.hid (HB3.out.trans (hb5.mono hwo))
          have HRA5 := Lib.hid (HRA.out.call hb5)
          have HRL5 := Lib.hid (HRL.out.call hb5)
          have HRT5 := Lib.hid (HRT.out.call hb5)
          have hz5 := hb5.size
          clear hb5 c0 c1 c2
          obtain ⟨c0, c1, c2, cf, cl5⟩ := H5.out.c
          clear cf
          cases hb : ttB x
          · have HR : Hid (psT l = none) := Lib.hid (by rw [HRx.out, if_neg]; rintro ⟨h, _⟩; rw [hb] at h; cases h)
            clear hb
            have HZz := Lib.hid (HZ2.out.kept ((HK5.out).keep _ (show w.heap.size < B by omega) (by omega)) (HK5.out).size)
            obtain ⟨z0, z1, z2, zf, zl⟩ := HZz.out
            have zf0 := zf 0
            have zf1 := zf 1
            have zf2 := zf 2
            clear zf
            go_wp2_with fail
            refine bodyPost_ret (v := .tuple #[.agg #[.slice A x.net.stops.length ca, .slice L x.net.lines.length cl, .slice T x.trips.length ct], .bool false]) (by simp [results, Tryd.results15, go_sem, z0, z1, z2]) rfl ?_
            refine retPS_none HR.out ?_
            repeat' (refine Below.setCell ?_ (by simp) _)
            exact HB5.out
          · have HTX := l6Timetable_any x A L T ca cl ct w5 HRA5.out HRL5.out HRT5.out HF.out hb
            obtain ⟨X, hX⟩ : ∃ X, X = timT x := ⟨_, rfl⟩
            rw [← hX] at HTX
            have HTX := Lib.hid HTX
            have HXL : Hid (X.data.toList = timL x) := Lib.hid (by rw [hX, timT_list, bs_list])
            have HTB := Lib.hid hb
            clear hX hb
            go_wp2_with fail
            refine HTX.out.mono ?_
            rintro e w6 ⟨rfl, hb6⟩
            have H6 := Lib.hid (H5.out.call hb6)
            have HK6 := Lib.hid (HK5.out.trans (KG.of_below hb6 (by omega)))
            have HB6 := Lib.hid (HB5.out.trans (hb6.mono (by omega)))
            clear hb6 c0 c1 c2
            obtain ⟨c0, c1, c2, cf, cl6⟩ := H6.out.c
            clear cf
            by_cases hE : X = s
            · have hEj : (X.toList == s.toList) = true := by rw [hE]; simp
              have HR : Hid (psT l = some x) := Lib.hid (by rw [HRx.out, if_pos ⟨HTB.out, by rw [← HXL.out, hE, HLL.out]⟩])
              clear hE
              have HZz := Lib.hid (HZ2.out.kept (HK6.out.keep _ (show w.heap.size < B by omega) (by omega)) HK6.out.size)
              have HTT := Lib.hid (H6.out.tto rfl rfl rfl (ttB_ok HTB.out).1)
              obtain ⟨z0, z1, z2, zf, zl⟩ := HZz.out
              have zf0 := zf 0
              have zf1 := zf 1
              have zf2 := zf 2
              clear zf
              go_wp2_with fail
              refine bodyPost_ret (v := .tuple #[.agg #[.slice A x.net.stops.length ca, .slice L x.net.lines.length cl, .slice T x.trips.length ct], .bool true]) (by simp [results, Tryd.results15, go_sem, z0, z1, z2]) rfl ?_
              refine retPS_some HR.out ?_ ?_
              · refine TtO.wide (lo := B) (hi := w6.heap.size) ?_ hwB (by simp only [size_set]; exact Nat.le_refl _)
                refine TtO.keep HTT.out fun c hc => ?_
                refine Same.trans (Same.trans (Same.set _ ?_ _) (Same.set _ ?_ _)) (Same.set _ ?_ _) <;> (show c ≠ w.heap.size; omega)
              · repeat' (refine Below.setCell ?_ (by simp) _)
                exact HB6.out
            · have hEj : (X.toList == s.toList) = false := by
                apply Bool.eq_false_iff.2
                intro h
                exact hE (ba_toList_inj (eq_of_beq h))
              have HR : Hid (psT l = none) := Lib.hid (by
                rw [HRx.out, if_neg]
                rintro ⟨_, h⟩
                apply hE
                rw [bs_of HXL.out, h, HLL.out, bs_self])
              clear hE
              have HZz := Lib.hid (HZ2.out.kept ((HK6.out).keep _ (show w.heap.size < B by omega) (by omega)) (HK6.out).size)
              obtain ⟨z0, z1, z2, zf, zl⟩ := HZz.out
              have zf0 := zf 0
              have zf1 := zf 1
              have zf2 := zf 2
              clear zf
              go_wp2_with fail
              refine bodyPost_ret (v := .tuple #[.agg #[.slice A x.net.stops.length ca, .slice L x.net.lines.length cl, .slice T x.trips.length ct], .bool false]) (by simp [results, Tryd.results15, go_sem, z0, z1, z2]) rfl ?_
              refine retPS_none HR.out ?_
              repeat' (refine Below.setCell ?_ (by simp) _)
              exact HB6.out
    · have he : pN.toList.isEmpty = false := by
        rw [HPN.out]
        cases hq : P.getD N [] with
        | nil => exact absurd hq hlast
        | cons a b => rfl
      have HR : Hid (psT l = none) := Lib.hid (by
        unfold psT
        rw [if_neg]
        rintro ⟨_, h⟩
        rw [← HPS.out, getLast_getD HNN.out] at h
        exact hlast (by simpa using h))
      clear hlast
      obtain ⟨c0, c1, c2, cf, cl⟩ := HG2.out
      have HZz := Lib.hid (HZ2.out.kept ((KG.refl g B W2).keep _ (show w.heap.size < B by omega) (by omega)) (KG.refl g B W2).size)
      obtain ⟨z0, z1, z2, zf, zl⟩ := HZz.out
      have zf0 := zf 0
      have zf1 := zf 1
      have zf2 := zf 2
      clear zf
      go_wp2_with fail
      refine bodyPost_ret (v := .tuple #[.agg #[.slice none 0 0, .slice none 0 0, .slice none 0 0], .bool false]) (by simp [results, Tryd.results15, go_sem, z0, z1, z2]) rfl ?_
      refine retPS_none HR.out ?_
      repeat' (refine Below.setCell ?_ (by simp) _)
      exact HB2.out
  · have h4i : (4000 : Int) < (s.size : Int) := by omega
    have HR : Hid (psT l = none) := Lib.hid (by unfold psT; rw [if_neg (fun h => h4 h.1)])
    obtain ⟨c0, c1, c2, cf, cl⟩ := HG2.out
    have HZz := Lib.hid (HZ2.out.kept ((KG.refl g B W2).keep _ (show w.heap.size < B by omega) (by omega)) (KG.refl g B W2).size)
    obtain ⟨z0, z1, z2, zf, zl⟩ := HZz.out
    have zf0 := zf 0
    have zf1 := zf 1
    have zf2 := zf 2
    clear zf
    go_wp2_with fail
    refine bodyPost_ret (v := .tuple #[.agg #[.slice none 0 0, .slice none 0 0, .slice none 0 0], .bool false]) (by simp [results, Tryd.results15, go_sem, z0, z1, z2]) rfl ?_
    refine retPS_none HR.out ?_
    repeat' (refine Below.setCell ?_ (by simp) _)
    exact HB2.out
end Go.Proofs.YtpipegdjflniaaaDoor
