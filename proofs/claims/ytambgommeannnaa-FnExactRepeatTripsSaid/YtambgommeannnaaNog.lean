/- The reference's own network. -/
import Derived.Test.YtambgommeannnaaNwb
namespace Go.Proofs.Ytambgommeannnaa
open Go.ChangeShapes Go.WideShapes Go.ChangeAt Go.RowKit Go.PlainAid
set_option linter.unusedVariables false
set_option linter.unusedSimpArgs false

theorem SLn.belB {W0 w' w'' : World} {g n B : Nat} (h : SLn W0 g n w') (hb : Below B w' w'') (hB : g < B) (hBw : B ≤ w'.heap.size) : SLn W0 g n w'' :=
  ⟨h.bel.trans (hb.mono (Nat.le_of_lt hB)), Nat.lt_of_lt_of_le h.has.1 hb.size, fun j => by
    rw [hb.cell (p := ⟨g, j, none⟩) hB, hb.frozen (p := ⟨g, j, none⟩) hB]; exact h.has.2 j⟩
theorem line_cells {w : World} {n : Nat} {y : LV} (h0 : w.cell? ⟨n, 0, none⟩ = some (.string y.nm)) (h1 : w.cell? ⟨n, 1, none⟩ = some (.slice (some ⟨y.gs, 0, none⟩) y.ns y.ks)) (h2 : w.cell? ⟨n, 2, none⟩ = some (.slice (some ⟨y.gr, 0, none⟩) y.nr y.kr)) : ∀ j u, ([y].flatMap encLV)[j]? = some u → w.cell? ⟨n, 0 + j, none⟩ = some u := fun j u hj => by
  have hl := (List.getElem?_eq_some_iff.1 hj).1
  simp [encLV] at hl
  have : j = 0 ∨ j = 1 ∨ j = 2 := by omega
  rcases this with rfl | rfl | rfl <;> (simp [encLV] at hj; subst hj; first | exact h0 | exact h1 | exact h2)
theorem OwnE.formE {α : Type} {e : TypeId} {m : Nat} {enc : α → List Value} {w : World} {B : Nat} {v : Value} {xs : List α} (h : OwnE e m enc w B v xs) : ∃ A n c, v = .slice A n c := by
  obtain ⟨_, hq | ⟨g, cap, cur, hv, _⟩⟩ := h
  · exact ⟨_, _, _, hq.1⟩
  · exact ⟨_, _, _, hv⟩
theorem SLn.lt {W0 w' : World} {g n : Nat} (h : SLn W0 g n w') : g < w'.heap.size := h.has.1
theorem lvat {w6 : World} {x : LineD} {B5 B6 g5 k5 g6 k6 : Nat} (h5 : OwnI w6 B5 (.slice (some ⟨g5, 0, none⟩) x.stops.length k5) x.stops) (h6 : OwnI w6 B6 (.slice (some ⟨g6, 0, none⟩) x.runs.length k6) x.runs) (l1 : 0 < x.stops.length) (l2 : 0 < x.runs.length) (o : Obj) : LvAt (w6.alloc o) ⟨x.name, g5, x.stops.length, k5, g6, x.runs.length, k6⟩ x ∧ (B5 ≤ g5 ∧ g5 < (w6.alloc o).heap.size) ∧ (B6 ≤ g6 ∧ g6 < (w6.alloc o).heap.size) := by
  obtain ⟨a1, a2, a3, a4⟩ := own_one h5 l1
  obtain ⟨b1, b2, b3, b4⟩ := own_one h6 l2
  have hb : Below w6.heap.size w6 (w6.alloc o) := (Below.refl _ _).alloc (Nat.le_refl _) _
  refine ⟨⟨rfl, rfl, rfl, a1.keep fun c hc => by rw [Zone.one_ok hc]; exact Same.of_below hb a3, b1.keep fun c hc => by rw [Zone.one_ok hc]; exact Same.of_below hb b3, a4, b4⟩, ⟨a2, ?_⟩, b2, ?_⟩ <;> (simp; omega)
/-- The loop of l2Own. -/
structure LUp (w w1 wr : World) (x : NetD) (bx : Nat) (u v : Value) (ys : List LV) (k : Nat) : Prop where
  bel : Below w.heap.size w wr
  kept : ∀ X, X < w1.heap.size → X ≠ bx → wr.heap[X]? = w1.heap[X]?
  sz : w1.heap.size ≤ wr.heap.size
  has : HasC wr bx 2
  c0 : wr.cell? ⟨bx, 0, none⟩ = some u
  c1 : wr.cell? ⟨bx, 1, none⟩ = some v
  lv : LvOwn wr w1.heap.size v x.lines ys k
theorem LUp.step {w w1 wr wA w8 : World} {x : NetD} {bx : Nat} {u v v8 : Value} {ys : List LV} {k : Nat} {y : LV} (h : LUp w w1 wr x bx u v ys k) (hwb : w.heap.size ≤ bx) (hb1 : bx < w1.heap.size) (hb : Below wr.heap.size wr wA) (hy : LvAt wA y (nthL x.lines k)) (hne : y.gs ≠ y.gr) (b1 : wr.heap.size ≤ y.gs ∧ y.gs < wA.heap.size) (b2 : wr.heap.size ≤ y.gr ∧ y.gr < wA.heap.size)
    (ho : OwnE 113 3 encLV w8 w1.heap.size v8 (ys ++ [y])) (hg : wA.grownBy w8 v.ownBlock) (h8 : Below w1.heap.size wA w8) (hat : v8.ownBlock = v.ownBlock ∨ v8.ownBlock = some wA.heap.size) : LUp w w1 (w8.setCell ⟨bx, 1, none⟩ v8) x bx u v8 (ys ++ [y]) (k + 1) := by
  have sz := h.sz
  have hbz := hb.size
  have hs := (h.lv.step sz hb hy hne b1 b2 ho hg hat).set (p := ⟨bx, 1, none⟩) hb1 v8
  have hA : Below w1.heap.size wr w8 := (hb.mono sz).trans h8
  have hH : HasC w8 bx 2 := ⟨Nat.lt_of_lt_of_le h.has.1 hA.size, fun j => by rw [hA.cell (p := ⟨bx, j, none⟩) hb1, hA.frozen (p := ⟨bx, j, none⟩) hb1]; exact h.has.2 j⟩
  have hw1 : w.heap.size ≤ w1.heap.size := by omega
  refine ⟨(h.bel.trans (hA.mono hw1)).setCell (p := ⟨bx, 1, none⟩) hwb _, fun X hX hne => ?_, by rw [size_set]; exact Nat.le_trans sz hA.size, hH.set _ _, ?_, ?_, hs⟩
  · rw [Below.heap_setCell _ _ _ _ hne, hA.block X hX]
    exact h.kept X hX hne
  · rw [World.cell?_setCell_other _ _ _ _ (addr_ne (by omega)), hA.cell (p := ⟨bx, 0, none⟩) hb1]
    exact h.c0
  · exact World.cell?_setCell_same _ _ _ ((hA.cell (p := ⟨bx, 1, none⟩) hb1).trans h.c1)
theorem LvOwn.lower {w : World} {B B' : Nat} {v : Value} {xs : List LineD} {ys : List LV} {k : Nat} (h : LvOwn w B v xs ys k) (hB : B' ≤ B) : LvOwn w B' v xs ys k :=
  ⟨h.own.lower hB, h.len, h.each, fun j hj => by
    obtain ⟨b1, b2⟩ := h.blk j hj
    exact ⟨⟨by omega, b1.2.1, b1.2.2⟩, by omega, b2.2.1, b2.2.2⟩, h.pp, h.rr, h.pr⟩
/-- A network of the call's own whose lines can be appended to. -/
structure NVal (w : World) (B : Nat) (x : NetD) (gs : Nat) (v : Value) (ys : List LV) : Prop where
  st : StrsIn w (Zone.one gs) (some ⟨gs, 0, none⟩) x.stops
  s0 : B ≤ gs
  s1 : gs < w.heap.size
  lv : LvOwn w B v x.lines ys x.lines.length
  offv : v.ownBlock ≠ some gs
  off : ∀ j, j < x.lines.length → (atV ys j).gs ≠ gs ∧ (atV ys j).gr ≠ gs
theorem NVal.keep {w w' : World} {B : Nat} {x : NetD} {gs : Nat} {v : Value} {ys : List LV} (h : NVal w B x gs v ys) (hs : ∀ X, B ≤ X → X < w.heap.size → w'.heap[X]? = w.heap[X]?) (hz : w.heap.size ≤ w'.heap.size) : NVal w' B x gs v ys :=
  ⟨h.st.keep fun c hc => by rw [Zone.one_ok hc]; exact Same.of_blk (hs gs h.s0 h.s1), h.s0, Nat.lt_of_lt_of_le h.s1 hz, h.lv.keep hs hz, h.offv, h.off⟩
theorem NVal.call {w w' : World} {B : Nat} {x : NetD} {gs : Nat} {v : Value} {ys : List LV} (h : NVal w B x gs v ys) (hb : Below w.heap.size w w') : NVal w' B x gs v ys := h.keep (fun X _ hX => hb.block X hX) hb.size
theorem NVal.set {w : World} {B : Nat} {x : NetD} {gs : Nat} {v : Value} {ys : List LV} (h : NVal w B x gs v ys) {p : Addr} (hp : p.block < B) (u : Value) : NVal (w.setCell p u) B x gs v ys :=
  h.keep (fun X hX _ => Below.heap_setCell _ _ _ _ (by omega)) (by rw [size_set]; exact Nat.le_refl _)
theorem NVal.lower {w : World} {B B' : Nat} {x : NetD} {gs : Nat} {v : Value} {ys : List LV} (h : NVal w B x gs v ys) (hB : B' ≤ B) : NVal w B' x gs v ys :=
  ⟨h.st, Nat.le_trans hB h.s0, h.s1, h.lv.lower hB, h.offv, h.off⟩
theorem NVal.nown {w : World} {B : Nat} {x : NetD} {gs g cap : Nat} {ys : List LV} (h : NVal w B x gs (.slice (some ⟨g, 0, none⟩) x.lines.length cap) ys) (h0 : 0 < x.lines.length) : ∃ p r, NOwn w B w.heap.size x (some ⟨gs, 0, none⟩) (some ⟨g, 0, none⟩) gs g p r := by
  obtain ⟨g', cap', e, _, hg, hg2, hl, ha⟩ := h.lv.lown h0
  simp only [Value.slice.injEq, Option.some.injEq, Addr.mk.injEq, and_true, true_and] at e
  obtain ⟨rfl, rfl⟩ := e
  refine ⟨_, _, rfl, h.st, hl, ha, h.s0, h.s1, ⟨fun e => h.offv ?_, fun k hk => ⟨Ne.symm (h.off k hk).1, Ne.symm (h.off k hk).2⟩⟩⟩
  show some g = _
  rw [← e]
/-- A network that a call makes, its lines open to appends. -/
def RetNetV (x : NetD) (w : World) (e : Ending) (w' : World) : Prop :=
  ∃ gs ks g cap ys, e = .returned (.agg #[.slice (some ⟨gs, 0, none⟩) x.stops.length ks, .slice (some ⟨g, 0, none⟩) x.lines.length cap]) ∧ NVal w' w.heap.size x gs (.slice (some ⟨g, 0, none⟩) x.lines.length cap) ys ∧ Below w.heap.size w w'
theorem LUp.nval {w w1 wr : World} {x : NetD} {bx gs : Nat} {u v : Value} {ys : List LV} (h : LUp w w1 wr x bx u v ys x.lines.length) {lo : Nat} (hw : lo ≤ gs) (hs1 : gs < w1.heap.size) (hsb : gs ≠ bx) (hst : StrsIn w1 (Zone.one gs) (some ⟨gs, 0, none⟩) x.stops) (hw1 : lo ≤ w1.heap.size) : NVal wr lo x gs v ys := by
  have sz := h.sz
  have hlt := World.ownsRow.lt h.lv.own
  refine ⟨hst.keep (fun c hc => by rw [Zone.one_ok hc]; exact Same.of_blk (h.kept gs hs1 hsb)), hw, by omega, h.lv.lower hw1, fun e => ?_, fun j hj => ?_⟩
  · have := hlt _ e; omega
  · have := h.lv.blk j hj; exact ⟨by omega, by omega⟩
set_option maxRecDepth 100000 in
set_option maxHeartbeats 4000000 in
theorem l2Own_any (x : NetD) (b o ca bl ol cl : Nat) (w : World) (hA : StrsIn w (Zone.below w.heap.size) (some ⟨b, o, none⟩) x.stops) (hL : LinesIn w (Zone.below w.heap.size) (some ⟨bl, ol, none⟩) x.lines) (hx : Fits x) (h0 : 0 < x.stops.length) (hl0 : 0 < x.lines.length) (hp : ∀ k, k < x.lines.length → 0 < (nthL x.lines k).stops.length ∧ 0 < (nthL x.lines k).runs.length) :
    Calls Try.prog 106 #[.agg #[.slice (some ⟨b, o, none⟩) x.stops.length ca, .slice (some ⟨bl, ol, none⟩) x.lines.length cl]] w (RetNetV x w) := by
  obtain ⟨W0, hW0⟩ : ∃ W0, W0 = ((w.alloc (.cells #[.slice (some ⟨b, o, none⟩) x.stops.length ca, .slice (some ⟨bl, ol, none⟩) x.lines.length cl] 46)).alloc (.cells #[.slice none 0 0, .slice none 0 0] 46)) := ⟨_, rfl⟩
  have hb0 : Below w.heap.size w W0 := by rw [hW0]; go_grown
  have HB0 := Lib.hid hb0
  have HA := Lib.hid (hA.at_below hb0)
  have hz0 : w.heap.size + 1 < W0.heap.size := by rw [hW0]; simp
  have hC0 : W0.cell? ⟨w.heap.size, 0, none⟩ = some (.slice (some ⟨b, o, none⟩) x.stops.length ca) ∧ W0.cell? ⟨w.heap.size, 1, none⟩ = some (.slice (some ⟨bl, ol, none⟩) x.lines.length cl) := by rw [hW0]; exact ⟨by go_simp, by go_simp⟩
  have HC0 := Lib.hid hC0
  obtain ⟨hC00, hC01⟩ := hC0
  have hT0 : W0.cell? ⟨w.heap.size + 1, 0, none⟩ = some (.slice none 0 0) ∧ W0.cell? ⟨w.heap.size + 1, 1, none⟩ = some (.slice none 0 0) ∧ ∀ j, W0.frozen? ⟨w.heap.size + 1, j, none⟩ = false := by rw [hW0]; exact ⟨by go_simp, by go_simp, fun j => by go_simp⟩
  have HT0 := Lib.hid hT0
  have hwW : w.heap.size ≤ W0.heap.size := hb0.size
  have hzA : w.heap.size < W0.heap.size := by omega
  have hn := hx.stops
  have hm := hx.lines
  obtain ⟨is, his, hsz0, hsz1, hsz2⟩ := info_parts Try.infoStrC
  obtain ⟨il, hil, hlz0, hlz1, hlz2⟩ := info_parts Try.infoLineC
  have hcs : ∀ j u, (x.stops.flatMap (fun y => [Value.string y]))[j]? = some u → (W0.alloc (.cells #[] 9)).cell? ⟨b, o + j, none⟩ = some u := fun j u hj => by
    rw [flat_one] at hj
    have hl : j < x.stops.length := by have := (List.getElem?_eq_some_iff.1 hj).1; simpa using this
    rw [List.getElem?_map, List.getElem?_eq_getElem hl] at hj
    obtain ⟨b', o', e, hb, _, hc⟩ := HA.out (by omega)
    simp only [Option.some.injEq, Addr.mk.injEq, and_true] at e
    obtain ⟨rfl, rfl⟩ := e
    have hbz : b < W0.heap.size := Nat.lt_of_lt_of_le hb hwW
    refine (((Below.refl W0.heap.size W0).alloc (Nat.le_refl _) _).cell (p := ⟨b, _, none⟩) hbz).trans ?_
    have h1 : W0.cell? ⟨b, o + j, none⟩ = some (.string (nthS x.stops j)) := hc j hl
    rw [h1]
    simp at hj
    rw [← hj]
    unfold nthS
    rw [List.getD_eq_getElem?_getD, List.getElem?_eq_getElem hl]
    rfl
  have HCS := Lib.hid hcs
  have HO : Hid (OwnE 9 1 (fun y => [Value.string y]) (W0.alloc (.cells #[] 9)) W0.heap.size (.slice (some ⟨W0.heap.size, 0, none⟩) 0 0) []) := Lib.hid (by simpa using OwnE.empty (e := 9) (m := 1) (enc := fun y => [Value.string y]) (w := W0) (Nat.le_refl _))
  have hzw : W0.heap.size ≤ (W0.alloc (.cells #[] 9)).heap.size := by simp
  have hll : ([] : List ByteArray).length + x.stops.length ≤ 16777216 := by simp; omega
  have HL0 := Lib.hid hL
  have HXE := Lib.hid hx.each
  have HP0 := Lib.hid hp
  clear hA hL hb0 hT0 hp hcs
  go_enter Try.func106, Try.ntmps106
  go_upto_region 1 with fail
  rw [← hW0]
  clear hW0
  go_wp2_with (at_builtin; go_loud (refine wp_apps rfl _ _ 33 rfl 16 Try.underlying33 his hsz0 hsz1 hsz2 rfl (by omega) (fun _ => rfl) (fun y u hu => by simp at hu; subst hu; rfl) (by omega) W0.heap.size _ [] x.stops _ HO.out rfl b o ca x.stops.length rfl rfl HCS.out hll hzw ?_; intro v' w' ho' hb' hg'; rw [List.nil_append] at ho'; obtain ⟨gs, ks, rfl⟩ := own_some ho' h0; have HO' := Lib.hid ho'; have HB' := Lib.hid (((Below.refl W0.heap.size W0).alloc (Nat.le_refl _) (.cells #[] 9)).trans hb'); clear ho' hb' hg'))
  clear hC00 hC01
  obtain ⟨hst', hgs0, hgs1, hkc⟩ := own_oneS HO'.out h0
  have hz' := HB'.out.size
  obtain ⟨w1, hw1⟩ : ∃ w1, w1 = (w'.alloc (.cells #[.slice (some ⟨gs, 0, none⟩) x.stops.length ks, .slice none 0 0] 46)) := ⟨_, rfl⟩
  rw [← hw1]
  obtain ⟨bx, hbx⟩ : ∃ bx, bx = w'.heap.size := ⟨_, rfl⟩
  rw [← hbx]
  have hzb : bx < w1.heap.size := by rw [hw1, hbx]; simp
  have hb1 : Below w'.heap.size w' w1 := by rw [hw1]; exact (Below.refl _ _).alloc (Nat.le_refl _) _
  have HB1 : Hid (Below W0.heap.size W0 w1) := Lib.hid (HB'.out.trans (hb1.mono hz'))
  have HST := Lib.hid (hst'.keep (w' := w1) (fun c hc => by rw [Zone.one_ok hc]; exact Same.of_below hb1 hgs1))
  have hBX : w1.cell? ⟨bx, 0, none⟩ = some (.slice (some ⟨gs, 0, none⟩) x.stops.length ks) ∧ w1.cell? ⟨bx, 1, none⟩ = some (.slice none 0 0) := by rw [hw1, hbx]; exact ⟨by go_simp, by go_simp⟩
  have hHas : HasC w1 bx 2 := ⟨hzb, fun j => ⟨fun hj => by
    have : j = 0 ∨ j = 1 := by omega
    rcases this with rfl | rfl
    · rw [hBX.1]; rfl
    · rw [hBX.2]; rfl, by rw [hw1, hbx]; go_simp⟩⟩
  have HBE : Hid (Below w.heap.size w w1) := Lib.hid (HB0.out.trans (HB1.out.mono hwW))
  have HU0 : LUp w w1 w1 x bx (.slice (some ⟨gs, 0, none⟩) x.stops.length ks) (.slice none 0 0) [] 0 := ⟨HBE.out, fun _ _ _ => rfl, Nat.le_refl _, hHas, hBX.1, hBX.2, LvOwn.nil⟩
  have hwbx : W0.heap.size ≤ bx := by omega
  have hgsb : gs ≠ bx := by omega
  have hgs2 : gs < w1.heap.size := by omega
  have hwb : w.heap.size ≤ bx := by omega
  clear hst' hb1 hBX hHas hw1 hz' hzw hll HO' HO HCS hbx
  have HQ1 : Hid (w1.cell? ⟨w.heap.size, 1, none⟩ = some (.slice (some ⟨bl, ol, none⟩) x.lines.length cl)) := Lib.hid ((HB1.out.cell (p := ⟨w.heap.size, 1, none⟩) hzA).trans HC0.out.2)
  go_loopw [4] (fun i wr => ∃ k : Nat, k ≤ x.lines.length ∧ i = .int .i64 k ∧ ∃ v ys, LUp w w1 wr x bx (.slice (some ⟨gs, 0, none⟩) x.stops.length ks) v ys k) (fun i _ => x.lines.length - (intOf i).toNat)
  case atStart => exact ⟨0, Nat.zero_le _, rfl, _, _, HU0⟩
  case round =>
    clear HU0
    obtain ⟨k, hk, rfl, v, ys, hnu⟩ := hrel
    have HNU := Lib.hid hnu
    have hsz := hnu.sz
    have q1 : wr.cell? ⟨w.heap.size, 1, none⟩ = some (.slice (some ⟨bl, ol, none⟩) x.lines.length cl) := ((Same.of_blk (hnu.kept w.heap.size (by omega) (by omega))) 1).1.trans HQ1.out
    by_cases hlt : k < x.lines.length
    · have hik : (k : Int) < (x.lines.length : Int) := by omega
      obtain ⟨b', o', e, hbl, S, cs, R, cr, d0, d1, d2, i1, i2⟩ := LinesIn.line (HL0.out.at_below hnu.bel) hlt
      simp only [Option.some.injEq, Addr.mk.injEq, and_true] at e
      obtain ⟨rfl, rfl⟩ := e
      obtain ⟨lp1, lp2⟩ := HP0.out k hlt
      obtain ⟨_, lf1, lf2⟩ := HXE.out k hlt
      obtain ⟨bs, os, rfl, _⟩ := i1 lp1
      obtain ⟨br, or, rfl, _⟩ := i2 lp2
      have hblw : bl < w.heap.size := hbl
      have HI1 := Lib.hid i1
      have HI2 := Lib.hid i2
      have hS0 : SLn wr bx 2 wr := ⟨Below.refl _ _, hnu.has⟩
      have HD := Lib.hid (And.intro q1 (And.intro d0 (And.intro d1 d2)))
      have hC : ∀ w', SLn wr bx 2 w' → w'.cell? ⟨w.heap.size, 1, none⟩ = some (.slice (some ⟨bl, ol, none⟩) x.lines.length cl) ∧ w'.cell? ⟨bl, ol + k * 3, none⟩ = some (.string (nthL x.lines k).name) ∧ w'.cell? ⟨bl, ol + k * 3 + 1, none⟩ = some (.slice (some ⟨bs, os, none⟩) (nthL x.lines k).stops.length cs) ∧ w'.cell? ⟨bl, ol + k * 3 + 2, none⟩ = some (.slice (some ⟨br, or, none⟩) (nthL x.lines k).runs.length cr) := fun w' h =>
        ⟨(h.bel.cell (p := ⟨w.heap.size, 1, none⟩) (by show w.heap.size < bx; omega)).trans HD.out.1, (h.bel.cell (p := ⟨bl, _, none⟩) (by show bl < bx; omega)).trans HD.out.2.1, (h.bel.cell (p := ⟨bl, _, none⟩) (by show bl < bx; omega)).trans HD.out.2.2.1, (h.bel.cell (p := ⟨bl, _, none⟩) (by show bl < bx; omega)).trans HD.out.2.2.2⟩
      have HIs : Hid (∀ w', SLn wr bx 2 w' → IntsIn w' (Zone.below w'.heap.size) (some ⟨bs, os, none⟩) (nthL x.lines k).stops ∧ IntsIn w' (Zone.below w'.heap.size) (some ⟨br, or, none⟩) (nthL x.lines k).runs) := Lib.hid (fun w' h => by
        have hb := h.bel
        have hz := h.lt
        exact ⟨(HI1.out.at_below (hb.mono (by omega))).mono (Zone.below_le (by omega)), (HI2.out.at_below (hb.mono (by omega))).mono (Zone.below_le (by omega))⟩)
      have hV : wr.cell? ⟨bx, 1, none⟩ = some v := hnu.c1
      have hbr : bx < wr.heap.size := by omega
      have hyl : ys.length + 1 ≤ 16777216 := by have := hnu.lv.len; omega
      clear i1 i2 hnu hbl d0 d1 d2
      go_wp2_with fail
      -- ROUND
      refine wp_region_held_drew (S := fun w' => SLn wr bx 2 w') (by kernel_rfl) (SLn.drew hS0) (fun hHeld => ?_)
      refine wpAnyH_take (i := 0) (v := ?_) rfl (by kernel_rfl) (by kernel_rfl) (by kernel_rfl) (fun _ _ _ h => h) (Or.inl ⟨by rfl, ?_⟩) hHeld ?_
      rotate_left 1
      · intro w hSw; (try dsimp only at hSw); first | (go_simp; done) | (go_simp; with_reducible rfl) | (go_simp; rfl)
      try simp only [Act.put, List.getElem_toArray, List.getElem_cons_succ, List.getElem_cons_zero, List.setIfInBounds_toArray, List.set_cons_zero, List.set_cons_succ]
      refine wpAnyH_take (i := 2) (v := ?_) rfl (by kernel_rfl) (by kernel_rfl) (by kernel_rfl) (fun _ _ _ h => h) (Or.inl ⟨by rfl, ?_⟩) hHeld ?_
      rotate_left 1
      · intro w hSw; (try dsimp only at hSw); first | (go_simp; done) | (go_simp; with_reducible rfl) | (go_simp; rfl)
      try simp only [Act.put, List.getElem_toArray, List.getElem_cons_succ, List.getElem_cons_zero, List.setIfInBounds_toArray, List.set_cons_zero, List.set_cons_succ]
      refine wpAnyH_take (i := 3) (v := ?_) rfl (by kernel_rfl) (by kernel_rfl) (by kernel_rfl) (fun _ _ _ h => h) (Or.inl ⟨by rfl, ?_⟩) hHeld ?_
      rotate_left 1
      · intro w hSw; (try dsimp only at hSw); first | (go_simp; done) | (go_simp; with_reducible rfl) | (go_simp; rfl)
      try simp only [Act.put, List.getElem_toArray, List.getElem_cons_succ, List.getElem_cons_zero, List.setIfInBounds_toArray, List.set_cons_zero, List.set_cons_succ]
      refine wpAnyH_take (i := 4) (v := ?_) rfl (by kernel_rfl) (by kernel_rfl) (by kernel_rfl) (fun _ _ _ h => h) (Or.inl ⟨by rfl, ?_⟩) hHeld ?_
      rotate_left 1
      · intro w hSw; (try dsimp only at hSw); first | (go_simp; done) | (go_simp; with_reducible rfl) | (go_simp; rfl)
      try simp only [Act.put, List.getElem_toArray, List.getElem_cons_succ, List.getElem_cons_zero, List.setIfInBounds_toArray, List.set_cons_zero, List.set_cons_succ]
      refine wpAnyH_take (i := 5) (v := ?_) rfl (by kernel_rfl) (by kernel_rfl) (by kernel_rfl) (fun _ _ _ h => h) (Or.inl ⟨by rfl, ?_⟩) hHeld ?_
      rotate_left 1
      · intro w hSw; (try dsimp only at hSw); first | (go_simp; done) | (go_simp; with_reducible rfl) | (go_simp; rfl)
      try simp only [Act.put, List.getElem_toArray, List.getElem_cons_succ, List.getElem_cons_zero, List.setIfInBounds_toArray, List.set_cons_zero, List.set_cons_succ]
      refine wpAnyH_take (i := 6) (v := ?_) rfl (by kernel_rfl) (by kernel_rfl) (by kernel_rfl) (fun _ _ _ h => h) (Or.inl ⟨by rfl, ?_⟩) hHeld ?_
      rotate_left 1
      · intro w hSw; (try dsimp only at hSw); first | (go_simp; done) | (go_simp; with_reducible rfl) | (go_simp; rfl)
      try simp only [Act.put, List.getElem_toArray, List.getElem_cons_succ, List.getElem_cons_zero, List.setIfInBounds_toArray, List.set_cons_zero, List.set_cons_succ]
      refine wpAnyH_take (i := 7) (v := ?_) rfl (by kernel_rfl) (by kernel_rfl) (by kernel_rfl) (fun _ _ _ h => h) (Or.inl ⟨by rfl, ?_⟩) hHeld ?_
      rotate_left 1
      · intro w hSw; (try dsimp only at hSw); first | (go_simp; done) | (go_simp; with_reducible rfl) | (go_simp; rfl)
      try simp only [Act.put, List.getElem_toArray, List.getElem_cons_succ, List.getElem_cons_zero, List.setIfInBounds_toArray, List.set_cons_zero, List.set_cons_succ]
      refine wpAnyH_take (i := 8) (v := ?_) rfl (by kernel_rfl) (by kernel_rfl) (by kernel_rfl) (fun _ _ _ h => h) (Or.inl ⟨by rfl, ?_⟩) hHeld ?_
      rotate_left 1
      · intro w hSw; (try dsimp only at hSw); first | (go_simp; done) | (go_simp; with_reducible rfl) | (go_simp; rfl)
      try simp only [Act.put, List.getElem_toArray, List.getElem_cons_succ, List.getElem_cons_zero, List.setIfInBounds_toArray, List.set_cons_zero, List.set_cons_succ]
      refine wpAnyH_take (i := 9) (v := ?_) rfl (by kernel_rfl) (by kernel_rfl) (by kernel_rfl) (fun _ _ _ h => h) (Or.inl ⟨by rfl, ?_⟩) hHeld ?_
      rotate_left 1
      · intro w hSw; (try dsimp only at hSw); first | (go_simp; done) | (go_simp; with_reducible rfl) | (go_simp; rfl)
      try simp only [Act.put, List.getElem_toArray, List.getElem_cons_succ, List.getElem_cons_zero, List.setIfInBounds_toArray, List.set_cons_zero, List.set_cons_succ]
      refine wpAnyH_take (i := 10) (v := ?_) rfl (by kernel_rfl) (by kernel_rfl) (by kernel_rfl) (fun _ _ _ h => h) (Or.inl ⟨by rfl, ?_⟩) hHeld ?_
      rotate_left 1
      · intro w hSw; (try dsimp only at hSw); first | (go_simp; done) | (go_simp; with_reducible rfl) | (go_simp; rfl)
      try simp only [Act.put, List.getElem_toArray, List.getElem_cons_succ, List.getElem_cons_zero, List.setIfInBounds_toArray, List.set_cons_zero, List.set_cons_succ]
      refine wpAnyH_take (i := 11) (v := ?_) rfl (by kernel_rfl) (by kernel_rfl) (by kernel_rfl) (fun _ _ _ h => h) (Or.inl ⟨by rfl, ?_⟩) hHeld ?_
      rotate_left 1
      · intro w hSw; (try dsimp only at hSw); first | (go_simp; done) | (go_simp; with_reducible rfl) | (go_simp; rfl)
      try simp only [Act.put, List.getElem_toArray, List.getElem_cons_succ, List.getElem_cons_zero, List.setIfInBounds_toArray, List.set_cons_zero, List.set_cons_succ]
      refine wpAnyH_take (i := 12) (v := ?_) rfl (by kernel_rfl) (by kernel_rfl) (by kernel_rfl) (fun _ _ _ h => h) (Or.inl ⟨by rfl, ?_⟩) hHeld ?_
      rotate_left 1
      · intro w hSw; (try dsimp only at hSw); first | (go_simp; done) | (go_simp; with_reducible rfl) | (go_simp; rfl)
      try simp only [Act.put, List.getElem_toArray, List.getElem_cons_succ, List.getElem_cons_zero, List.setIfInBounds_toArray, List.set_cons_zero, List.set_cons_succ]
      refine wpAnyH_take (i := 13) (v := ?_) rfl (by kernel_rfl) (by kernel_rfl) (by kernel_rfl) (fun _ _ _ h => h) (Or.inl ⟨by rfl, ?_⟩) hHeld ?_
      rotate_left 1
      · intro w hSw; (try dsimp only at hSw); first | (go_simp; done) | (go_simp; with_reducible rfl) | (go_simp; rfl)
      try simp only [Act.put, List.getElem_toArray, List.getElem_cons_succ, List.getElem_cons_zero, List.setIfInBounds_toArray, List.set_cons_zero, List.set_cons_succ]
      refine wpAnyH_take (i := 15) (v := ?_) rfl (by kernel_rfl) (by kernel_rfl) (by kernel_rfl) (fun _ _ _ h => h) (Or.inl ⟨by rfl, ?_⟩) hHeld ?_
      rotate_left 1
      · intro w hSw; (try dsimp only at hSw); first | (go_simp; done) | (go_simp; with_reducible rfl) | (go_simp; rfl)
      try simp only [Act.put, List.getElem_toArray, List.getElem_cons_succ, List.getElem_cons_zero, List.setIfInBounds_toArray, List.set_cons_zero, List.set_cons_succ]
      refine wpAnyH_take (i := 16) (v := ?_) rfl (by kernel_rfl) (by kernel_rfl) (by kernel_rfl) (fun _ _ _ h => h) (Or.inl ⟨by rfl, ?_⟩) hHeld ?_
      rotate_left 1
      · intro w hSw; (try dsimp only at hSw); first | (go_simp; done) | (go_simp; with_reducible rfl) | (go_simp; rfl)
      try simp only [Act.put, List.getElem_toArray, List.getElem_cons_succ, List.getElem_cons_zero, List.setIfInBounds_toArray, List.set_cons_zero, List.set_cons_succ]
      refine wpAnyH_take (i := 17) (v := ?_) rfl (by kernel_rfl) (by kernel_rfl) (by kernel_rfl) (fun _ _ _ h => h) (Or.inl ⟨by rfl, ?_⟩) hHeld ?_
      rotate_left 1
      · intro w hSw; (try dsimp only at hSw); first | (go_simp; done) | (go_simp; with_reducible rfl) | (go_simp; rfl)
      try simp only [Act.put, List.getElem_toArray, List.getElem_cons_succ, List.getElem_cons_zero, List.setIfInBounds_toArray, List.set_cons_zero, List.set_cons_succ]
      refine wpAnyH_take (i := 18) (v := ?_) rfl (by kernel_rfl) (by kernel_rfl) (by kernel_rfl) (fun _ _ _ h => h) (Or.inl ⟨by rfl, ?_⟩) hHeld ?_
      rotate_left 1
      · intro w hSw; (try dsimp only at hSw); first | (go_simp; done) | (go_simp; with_reducible rfl) | (go_simp; rfl)
      try simp only [Act.put, List.getElem_toArray, List.getElem_cons_succ, List.getElem_cons_zero, List.setIfInBounds_toArray, List.set_cons_zero, List.set_cons_succ]
      refine wpAnyH_take (i := 19) (v := ?_) rfl (by kernel_rfl) (by kernel_rfl) (by kernel_rfl) (fun _ _ _ h => h) (Or.inl ⟨by rfl, ?_⟩) hHeld ?_
      rotate_left 1
      · intro w hSw; (try dsimp only at hSw); first | (go_simp; done) | (go_simp; with_reducible rfl) | (go_simp; rfl)
      try simp only [Act.put, List.getElem_toArray, List.getElem_cons_succ, List.getElem_cons_zero, List.setIfInBounds_toArray, List.set_cons_zero, List.set_cons_succ]
      refine wpAnyH_take (i := 20) (v := ?_) rfl (by kernel_rfl) (by kernel_rfl) (by kernel_rfl) (fun _ _ _ h => h) (Or.inl ⟨by rfl, ?_⟩) hHeld ?_
      rotate_left 1
      · intro w hSw; (try dsimp only at hSw); first | (go_simp; done) | (go_simp; with_reducible rfl) | (go_simp; rfl)
      try simp only [Act.put, List.getElem_toArray, List.getElem_cons_succ, List.getElem_cons_zero, List.setIfInBounds_toArray, List.set_cons_zero, List.set_cons_succ]
      refine wpAnyH_ready (rs := [1, 14]) (by kernel_rfl) (by simp) ?_
      refine AllReadyH.cons rfl (fun K hK => ?_) (AllReadyH.cons rfl (fun K hK => ?_) (AllReadyH.nil))
      · go_simp
        refine hK.out _ _ ?_ (fun hHeld => ?_)
        · repeat' first | assumption | exact Nat.le_refl _ | (refine SLn.drew ?_) | (refine SLn.alloc ?_ _) | (refine SLn.set ?_ ?_ _)
        clear hK K
        try simp only [Act.put, List.getElem_toArray, List.getElem_cons_succ, List.getElem_cons_zero, List.setIfInBounds_toArray, List.set_cons_zero, List.set_cons_succ]
        refine wpAnyH_ready (rs := [14]) (by kernel_rfl) (by simp) ?_
        refine AllReadyH.cons rfl (fun K hK => ?_) (AllReadyH.nil)
        go_simp
        refine (l1Own_any bs os cs (nthL x.lines k).stops _ (HIs.out _ hHeld).1 lp1 lf1).mono ?_
        rintro e w5 ⟨g5, k5, rfl, ho5, hb5⟩
        have hS5 := SLn.call hHeld hb5
        have hVa : w5.cell? ⟨bx, 1, none⟩ = some v := (hb5.cell (p := ⟨bx, 1, none⟩) (SLn.lt hHeld)).trans hV
        have hza := SLn.lt hS5
        have hBa : Below wr.heap.size wr w5 := bel_call (Below.refl wr.heap.size wr).drew hb5
        refine hK.out _ _ ?_ (fun hHeld => ?_)
        · repeat' first | assumption | exact Nat.le_refl _ | (refine SLn.drew ?_) | (refine SLn.alloc ?_ _) | (refine SLn.set ?_ ?_ _)
        clear hK K
        try simp only [Act.put, List.getElem_toArray, List.getElem_cons_succ, List.getElem_cons_zero, List.setIfInBounds_toArray, List.set_cons_zero, List.set_cons_succ]
        refine wpAnyH_ready (rs := [21]) (by kernel_rfl) (by simp) ?_
        refine AllReadyH.cons rfl (fun K hK => ?_) (AllReadyH.nil)
        go_simp
        refine (l1Own_any br or cr (nthL x.lines k).runs _ (HIs.out _ hHeld).2 lp2 lf2).mono ?_
        rintro e w6 ⟨g6, k6, rfl, ho6, hb6⟩
        have hS6 := SLn.call hHeld hb6
        have hVb : w6.cell? ⟨bx, 1, none⟩ = some v := (hb6.cell (p := ⟨bx, 1, none⟩) (SLn.lt hHeld)).trans hVa
        have hzb6 := SLn.lt hS6
        have hBb : Below wr.heap.size wr w6 := bel_call hBa hb6
        have ho5' := OwnE.call ho5 hb6
        refine hK.out _ _ ?_ (fun hHeld => ?_)
        · repeat' first | assumption | exact Nat.le_refl _ | (refine SLn.drew ?_) | (refine SLn.alloc ?_ _) | (refine SLn.set ?_ ?_ _)
        clear hK K
        try simp only [Act.put, List.getElem_toArray, List.getElem_cons_succ, List.getElem_cons_zero, List.setIfInBounds_toArray, List.set_cons_zero, List.set_cons_succ]
        refine wpAnyH_take (i := 22) (v := ?_) rfl (by kernel_rfl) (by kernel_rfl) (by kernel_rfl) (fun _ _ _ h => h) (Or.inl ⟨by rfl, ?_⟩) hHeld ?_
        rotate_left 1
        · intro w hSw; (try dsimp only at hSw); first | (go_simp; done) | (go_simp; with_reducible rfl) | (go_simp; rfl)
        try simp only [Act.put, List.getElem_toArray, List.getElem_cons_succ, List.getElem_cons_zero, List.setIfInBounds_toArray, List.set_cons_zero, List.set_cons_succ]
        refine wpAnyH_ready (rs := [23]) (by kernel_rfl) (by simp) ?_
        refine AllReadyH.cons rfl (fun K hK => ?_) (AllReadyH.nil)
        go_simp
        refine hK.out _ _ ?_ (fun hHeld => ?_)
        · repeat' first | assumption | exact Nat.le_refl _ | (refine SLn.drew ?_) | (refine SLn.alloc ?_ _) | (refine SLn.set ?_ ?_ _)
        clear hK K
        try simp only [Act.put, List.getElem_toArray, List.getElem_cons_succ, List.getElem_cons_zero, List.setIfInBounds_toArray, List.set_cons_zero, List.set_cons_succ]
        refine wpAnyH_ready (rs := [24]) (by kernel_rfl) (by simp) ?_
        refine AllReadyH.cons rfl (fun K hK => ?_) (AllReadyH.nil)
        have hz6 := hBb.size
        refine step_appsG (enc := encLV) (by rfl) _ _ 44 (by rfl) 64 Try.underlying44 hil hlz0 hlz1 hlz2 rfl (by omega) (fun _ => rfl) encLV_cell (by omega) w1.heap.size v ys [⟨(nthL x.lines k).name, g5, (nthL x.lines k).stops.length, k5, g6, (nthL x.lines k).runs.length, k6⟩] _ (OwnE.call HNU.out.lv.own (bel_alloc hBb _)) (by rfl) _ 0 1 1 (by rfl) (by rfl) (line_cells (by go_simp) (by go_simp) (by go_simp)) (by simpa using hyl) (by simp; omega) ?_
        intro v8 w8 ho8 hb8 hg8 hat8
        have hS8 : SLn wr bx 2 w8 := SLn.belB hHeld hb8 hzb (by simp; omega)
        have hF8 := (hS8.has.2 1).2
        have hV8 : w8.cell? ⟨bx, 1, none⟩ = some v := (hb8.cell (p := ⟨bx, 1, none⟩) hzb).trans (by go_simp)
        obtain ⟨A8, n8, c8, rfl⟩ := OwnE.formE ho8
        refine hK.out _ _ ?_ (fun hHeld => ?_)
        · repeat' first | assumption | exact Nat.le_refl _ | (refine SLn.drew ?_) | (refine SLn.alloc ?_ _) | (refine SLn.set ?_ ?_ _)
        clear hK K
        try simp only [Act.put, List.getElem_toArray, List.getElem_cons_succ, List.getElem_cons_zero, List.setIfInBounds_toArray, List.set_cons_zero, List.set_cons_succ]
        refine wpAnyH_take (i := 25) (v := ?_) rfl (by kernel_rfl) (by kernel_rfl) (by kernel_rfl) (fun _ _ _ h => h) (Or.inl ⟨by rfl, ?_⟩) hHeld ?_
        rotate_left 1
        · intro w hSw; (try dsimp only at hSw); first | (go_simp; done) | (go_simp; with_reducible rfl) | (go_simp; rfl)
        try simp only [Act.put, List.getElem_toArray, List.getElem_cons_succ, List.getElem_cons_zero, List.setIfInBounds_toArray, List.set_cons_zero, List.set_cons_succ]
        refine wpAnyH_ready (rs := [26]) (by kernel_rfl) (by simp) ?_
        refine AllReadyH.cons rfl (fun K hK => ?_) (AllReadyH.nil)
        go_simp
        refine hK.out _ _ ?_ (fun hHeld => ?_)
        · repeat' first | assumption | exact Nat.le_refl _ | (refine SLn.drew ?_) | (refine SLn.alloc ?_ _) | (refine SLn.set ?_ ?_ _)
        clear hK K
        try simp only [Act.put, List.getElem_toArray, List.getElem_cons_succ, List.getElem_cons_zero, List.setIfInBounds_toArray, List.set_cons_zero, List.set_cons_succ]
        refine wpAnyH_done (by kernel_rfl) ?_ _
        have hv := lvat ho5' ho6 lp1 lp2 (.cells #[.string (nthL x.lines k).name, .slice (some ⟨g5, 0, none⟩) (nthL x.lines k).stops.length k5, .slice (some ⟨g6, 0, none⟩) (nthL x.lines k).runs.length k6] 113)
        have z5 := ((World.ownsRow.lt ho5) g5 rfl).2
        have z1 : wr.heap.size ≤ g5 := hv.2.1.1
        have z2 := hBa.size
        have z3 := hv.2.2.1
        have HST := Lib.hid (LUp.step HNU.out hwb hzb (bel_alloc hBb _) hv.1 (show g5 ≠ g6 by omega) ⟨z1, hv.2.1.2⟩ ⟨(show wr.heap.size ≤ g6 by omega), hv.2.2.2⟩ ho8 hg8 hb8 hat8)
        clear hC hV hS5 hS6 hS8 hF8 hV8 hVa hVb ho5 ho6 ho5' ho8 hb5 hb6 hb8 hg8 hat8 hv hBa hBb hS0 hHeld
        go_wp2_with fail
        go_roundw
        case rel => exact ⟨k + 1, by omega, by go_num, _, _, HST.out⟩
        case measure => simp [intOf]; omega
      · go_simp
        refine (l1Own_any bs os cs (nthL x.lines k).stops _ (HIs.out _ hHeld).1 lp1 lf1).mono ?_
        rintro e w5 ⟨g5, k5, rfl, ho5, hb5⟩
        have hS5 := SLn.call hHeld hb5
        have hVa : w5.cell? ⟨bx, 1, none⟩ = some v := (hb5.cell (p := ⟨bx, 1, none⟩) (SLn.lt hHeld)).trans hV
        have hza := SLn.lt hS5
        have hBa : Below wr.heap.size wr w5 := bel_call (Below.refl wr.heap.size wr).drew hb5
        refine hK.out _ _ ?_ (fun hHeld => ?_)
        · repeat' first | assumption | exact Nat.le_refl _ | (refine SLn.drew ?_) | (refine SLn.alloc ?_ _) | (refine SLn.set ?_ ?_ _)
        clear hK K
        try simp only [Act.put, List.getElem_toArray, List.getElem_cons_succ, List.getElem_cons_zero, List.setIfInBounds_toArray, List.set_cons_zero, List.set_cons_succ]
        refine wpAnyH_ready (rs := [1, 21]) (by kernel_rfl) (by simp) ?_
        refine AllReadyH.cons rfl (fun K hK => ?_) (AllReadyH.cons rfl (fun K hK => ?_) (AllReadyH.nil))
        · go_simp
          refine hK.out _ _ ?_ (fun hHeld => ?_)
          · repeat' first | assumption | exact Nat.le_refl _ | (refine SLn.drew ?_) | (refine SLn.alloc ?_ _) | (refine SLn.set ?_ ?_ _)
          clear hK K
          try simp only [Act.put, List.getElem_toArray, List.getElem_cons_succ, List.getElem_cons_zero, List.setIfInBounds_toArray, List.set_cons_zero, List.set_cons_succ]
          refine wpAnyH_ready (rs := [21]) (by kernel_rfl) (by simp) ?_
          refine AllReadyH.cons rfl (fun K hK => ?_) (AllReadyH.nil)
          go_simp
          refine (l1Own_any br or cr (nthL x.lines k).runs _ (HIs.out _ hHeld).2 lp2 lf2).mono ?_
          rintro e w6 ⟨g6, k6, rfl, ho6, hb6⟩
          have hS6 := SLn.call hHeld hb6
          have hVb : w6.cell? ⟨bx, 1, none⟩ = some v := (hb6.cell (p := ⟨bx, 1, none⟩) (SLn.lt hHeld)).trans hVa
          have hzb6 := SLn.lt hS6
          have hBb : Below wr.heap.size wr w6 := bel_call hBa hb6
          have ho5' := OwnE.call ho5 hb6
          refine hK.out _ _ ?_ (fun hHeld => ?_)
          · repeat' first | assumption | exact Nat.le_refl _ | (refine SLn.drew ?_) | (refine SLn.alloc ?_ _) | (refine SLn.set ?_ ?_ _)
          clear hK K
          try simp only [Act.put, List.getElem_toArray, List.getElem_cons_succ, List.getElem_cons_zero, List.setIfInBounds_toArray, List.set_cons_zero, List.set_cons_succ]
          refine wpAnyH_take (i := 22) (v := ?_) rfl (by kernel_rfl) (by kernel_rfl) (by kernel_rfl) (fun _ _ _ h => h) (Or.inl ⟨by rfl, ?_⟩) hHeld ?_
          rotate_left 1
          · intro w hSw; (try dsimp only at hSw); first | (go_simp; done) | (go_simp; with_reducible rfl) | (go_simp; rfl)
          try simp only [Act.put, List.getElem_toArray, List.getElem_cons_succ, List.getElem_cons_zero, List.setIfInBounds_toArray, List.set_cons_zero, List.set_cons_succ]
          refine wpAnyH_ready (rs := [23]) (by kernel_rfl) (by simp) ?_
          refine AllReadyH.cons rfl (fun K hK => ?_) (AllReadyH.nil)
          go_simp
          refine hK.out _ _ ?_ (fun hHeld => ?_)
          · repeat' first | assumption | exact Nat.le_refl _ | (refine SLn.drew ?_) | (refine SLn.alloc ?_ _) | (refine SLn.set ?_ ?_ _)
          clear hK K
          try simp only [Act.put, List.getElem_toArray, List.getElem_cons_succ, List.getElem_cons_zero, List.setIfInBounds_toArray, List.set_cons_zero, List.set_cons_succ]
          refine wpAnyH_ready (rs := [24]) (by kernel_rfl) (by simp) ?_
          refine AllReadyH.cons rfl (fun K hK => ?_) (AllReadyH.nil)
          have hz6 := hBb.size
          refine step_appsG (enc := encLV) (by rfl) _ _ 44 (by rfl) 64 Try.underlying44 hil hlz0 hlz1 hlz2 rfl (by omega) (fun _ => rfl) encLV_cell (by omega) w1.heap.size v ys [⟨(nthL x.lines k).name, g5, (nthL x.lines k).stops.length, k5, g6, (nthL x.lines k).runs.length, k6⟩] _ (OwnE.call HNU.out.lv.own (bel_alloc hBb _)) (by rfl) _ 0 1 1 (by rfl) (by rfl) (line_cells (by go_simp) (by go_simp) (by go_simp)) (by simpa using hyl) (by simp; omega) ?_
          intro v8 w8 ho8 hb8 hg8 hat8
          have hS8 : SLn wr bx 2 w8 := SLn.belB hHeld hb8 hzb (by simp; omega)
          have hF8 := (hS8.has.2 1).2
          have hV8 : w8.cell? ⟨bx, 1, none⟩ = some v := (hb8.cell (p := ⟨bx, 1, none⟩) hzb).trans (by go_simp)
          obtain ⟨A8, n8, c8, rfl⟩ := OwnE.formE ho8
          refine hK.out _ _ ?_ (fun hHeld => ?_)
          · repeat' first | assumption | exact Nat.le_refl _ | (refine SLn.drew ?_) | (refine SLn.alloc ?_ _) | (refine SLn.set ?_ ?_ _)
          clear hK K
          try simp only [Act.put, List.getElem_toArray, List.getElem_cons_succ, List.getElem_cons_zero, List.setIfInBounds_toArray, List.set_cons_zero, List.set_cons_succ]
          refine wpAnyH_take (i := 25) (v := ?_) rfl (by kernel_rfl) (by kernel_rfl) (by kernel_rfl) (fun _ _ _ h => h) (Or.inl ⟨by rfl, ?_⟩) hHeld ?_
          rotate_left 1
          · intro w hSw; (try dsimp only at hSw); first | (go_simp; done) | (go_simp; with_reducible rfl) | (go_simp; rfl)
          try simp only [Act.put, List.getElem_toArray, List.getElem_cons_succ, List.getElem_cons_zero, List.setIfInBounds_toArray, List.set_cons_zero, List.set_cons_succ]
          refine wpAnyH_ready (rs := [26]) (by kernel_rfl) (by simp) ?_
          refine AllReadyH.cons rfl (fun K hK => ?_) (AllReadyH.nil)
          go_simp
          refine hK.out _ _ ?_ (fun hHeld => ?_)
          · repeat' first | assumption | exact Nat.le_refl _ | (refine SLn.drew ?_) | (refine SLn.alloc ?_ _) | (refine SLn.set ?_ ?_ _)
          clear hK K
          try simp only [Act.put, List.getElem_toArray, List.getElem_cons_succ, List.getElem_cons_zero, List.setIfInBounds_toArray, List.set_cons_zero, List.set_cons_succ]
          refine wpAnyH_done (by kernel_rfl) ?_ _
          have hv := lvat ho5' ho6 lp1 lp2 (.cells #[.string (nthL x.lines k).name, .slice (some ⟨g5, 0, none⟩) (nthL x.lines k).stops.length k5, .slice (some ⟨g6, 0, none⟩) (nthL x.lines k).runs.length k6] 113)
          have z5 := ((World.ownsRow.lt ho5) g5 rfl).2
          have z1 : wr.heap.size ≤ g5 := hv.2.1.1
          have z2 := hBa.size
          have z3 := hv.2.2.1
          have HST := Lib.hid (LUp.step HNU.out hwb hzb (bel_alloc hBb _) hv.1 (show g5 ≠ g6 by omega) ⟨z1, hv.2.1.2⟩ ⟨(show wr.heap.size ≤ g6 by omega), hv.2.2.2⟩ ho8 hg8 hb8 hat8)
          clear hC hV hS5 hS6 hS8 hF8 hV8 hVa hVb ho5 ho6 ho5' ho8 hb5 hb6 hb8 hg8 hat8 hv hBa hBb hS0 hHeld
          go_wp2_with fail
          go_roundw
          case rel => exact ⟨k + 1, by omega, by go_num, _, _, HST.out⟩
          case measure => simp [intOf]; omega
        · go_simp
          refine (l1Own_any br or cr (nthL x.lines k).runs _ (HIs.out _ hHeld).2 lp2 lf2).mono ?_
          rintro e w6 ⟨g6, k6, rfl, ho6, hb6⟩
          have hS6 := SLn.call hHeld hb6
          have hVb : w6.cell? ⟨bx, 1, none⟩ = some v := (hb6.cell (p := ⟨bx, 1, none⟩) (SLn.lt hHeld)).trans hVa
          have hzb6 := SLn.lt hS6
          have hBb : Below wr.heap.size wr w6 := bel_call hBa hb6
          have ho5' := OwnE.call ho5 hb6
          refine hK.out _ _ ?_ (fun hHeld => ?_)
          · repeat' first | assumption | exact Nat.le_refl _ | (refine SLn.drew ?_) | (refine SLn.alloc ?_ _) | (refine SLn.set ?_ ?_ _)
          clear hK K
          try simp only [Act.put, List.getElem_toArray, List.getElem_cons_succ, List.getElem_cons_zero, List.setIfInBounds_toArray, List.set_cons_zero, List.set_cons_succ]
          refine wpAnyH_take (i := 22) (v := ?_) rfl (by kernel_rfl) (by kernel_rfl) (by kernel_rfl) (fun _ _ _ h => h) (Or.inl ⟨by rfl, ?_⟩) hHeld ?_
          rotate_left 1
          · intro w hSw; (try dsimp only at hSw); first | (go_simp; done) | (go_simp; with_reducible rfl) | (go_simp; rfl)
          try simp only [Act.put, List.getElem_toArray, List.getElem_cons_succ, List.getElem_cons_zero, List.setIfInBounds_toArray, List.set_cons_zero, List.set_cons_succ]
          refine wpAnyH_ready (rs := [1, 23]) (by kernel_rfl) (by simp) ?_
          refine AllReadyH.cons rfl (fun K hK => ?_) (AllReadyH.cons rfl (fun K hK => ?_) (AllReadyH.nil))
          · go_simp
            refine hK.out _ _ ?_ (fun hHeld => ?_)
            · repeat' first | assumption | exact Nat.le_refl _ | (refine SLn.drew ?_) | (refine SLn.alloc ?_ _) | (refine SLn.set ?_ ?_ _)
            clear hK K
            try simp only [Act.put, List.getElem_toArray, List.getElem_cons_succ, List.getElem_cons_zero, List.setIfInBounds_toArray, List.set_cons_zero, List.set_cons_succ]
            refine wpAnyH_ready (rs := [23]) (by kernel_rfl) (by simp) ?_
            refine AllReadyH.cons rfl (fun K hK => ?_) (AllReadyH.nil)
            go_simp
            refine hK.out _ _ ?_ (fun hHeld => ?_)
            · repeat' first | assumption | exact Nat.le_refl _ | (refine SLn.drew ?_) | (refine SLn.alloc ?_ _) | (refine SLn.set ?_ ?_ _)
            clear hK K
            try simp only [Act.put, List.getElem_toArray, List.getElem_cons_succ, List.getElem_cons_zero, List.setIfInBounds_toArray, List.set_cons_zero, List.set_cons_succ]
            refine wpAnyH_ready (rs := [24]) (by kernel_rfl) (by simp) ?_
            refine AllReadyH.cons rfl (fun K hK => ?_) (AllReadyH.nil)
            have hz6 := hBb.size
            refine step_appsG (enc := encLV) (by rfl) _ _ 44 (by rfl) 64 Try.underlying44 hil hlz0 hlz1 hlz2 rfl (by omega) (fun _ => rfl) encLV_cell (by omega) w1.heap.size v ys [⟨(nthL x.lines k).name, g5, (nthL x.lines k).stops.length, k5, g6, (nthL x.lines k).runs.length, k6⟩] _ (OwnE.call HNU.out.lv.own (bel_alloc hBb _)) (by rfl) _ 0 1 1 (by rfl) (by rfl) (line_cells (by go_simp) (by go_simp) (by go_simp)) (by simpa using hyl) (by simp; omega) ?_
            intro v8 w8 ho8 hb8 hg8 hat8
            have hS8 : SLn wr bx 2 w8 := SLn.belB hHeld hb8 hzb (by simp; omega)
            have hF8 := (hS8.has.2 1).2
            have hV8 : w8.cell? ⟨bx, 1, none⟩ = some v := (hb8.cell (p := ⟨bx, 1, none⟩) hzb).trans (by go_simp)
            obtain ⟨A8, n8, c8, rfl⟩ := OwnE.formE ho8
            refine hK.out _ _ ?_ (fun hHeld => ?_)
            · repeat' first | assumption | exact Nat.le_refl _ | (refine SLn.drew ?_) | (refine SLn.alloc ?_ _) | (refine SLn.set ?_ ?_ _)
            clear hK K
            try simp only [Act.put, List.getElem_toArray, List.getElem_cons_succ, List.getElem_cons_zero, List.setIfInBounds_toArray, List.set_cons_zero, List.set_cons_succ]
            refine wpAnyH_take (i := 25) (v := ?_) rfl (by kernel_rfl) (by kernel_rfl) (by kernel_rfl) (fun _ _ _ h => h) (Or.inl ⟨by rfl, ?_⟩) hHeld ?_
            rotate_left 1
            · intro w hSw; (try dsimp only at hSw); first | (go_simp; done) | (go_simp; with_reducible rfl) | (go_simp; rfl)
            try simp only [Act.put, List.getElem_toArray, List.getElem_cons_succ, List.getElem_cons_zero, List.setIfInBounds_toArray, List.set_cons_zero, List.set_cons_succ]
            refine wpAnyH_ready (rs := [26]) (by kernel_rfl) (by simp) ?_
            refine AllReadyH.cons rfl (fun K hK => ?_) (AllReadyH.nil)
            go_simp
            refine hK.out _ _ ?_ (fun hHeld => ?_)
            · repeat' first | assumption | exact Nat.le_refl _ | (refine SLn.drew ?_) | (refine SLn.alloc ?_ _) | (refine SLn.set ?_ ?_ _)
            clear hK K
            try simp only [Act.put, List.getElem_toArray, List.getElem_cons_succ, List.getElem_cons_zero, List.setIfInBounds_toArray, List.set_cons_zero, List.set_cons_succ]
            refine wpAnyH_done (by kernel_rfl) ?_ _
            have hv := lvat ho5' ho6 lp1 lp2 (.cells #[.string (nthL x.lines k).name, .slice (some ⟨g5, 0, none⟩) (nthL x.lines k).stops.length k5, .slice (some ⟨g6, 0, none⟩) (nthL x.lines k).runs.length k6] 113)
            have z5 := ((World.ownsRow.lt ho5) g5 rfl).2
            have z1 : wr.heap.size ≤ g5 := hv.2.1.1
            have z2 := hBa.size
            have z3 := hv.2.2.1
            have HST := Lib.hid (LUp.step HNU.out hwb hzb (bel_alloc hBb _) hv.1 (show g5 ≠ g6 by omega) ⟨z1, hv.2.1.2⟩ ⟨(show wr.heap.size ≤ g6 by omega), hv.2.2.2⟩ ho8 hg8 hb8 hat8)
            clear hC hV hS5 hS6 hS8 hF8 hV8 hVa hVb ho5 ho6 ho5' ho8 hb5 hb6 hb8 hg8 hat8 hv hBa hBb hS0 hHeld
            go_wp2_with fail
            go_roundw
            case rel => exact ⟨k + 1, by omega, by go_num, _, _, HST.out⟩
            case measure => simp [intOf]; omega
          · go_simp
            refine hK.out _ _ ?_ (fun hHeld => ?_)
            · repeat' first | assumption | exact Nat.le_refl _ | (refine SLn.drew ?_) | (refine SLn.alloc ?_ _) | (refine SLn.set ?_ ?_ _)
            clear hK K
            try simp only [Act.put, List.getElem_toArray, List.getElem_cons_succ, List.getElem_cons_zero, List.setIfInBounds_toArray, List.set_cons_zero, List.set_cons_succ]
            refine wpAnyH_ready (rs := [1]) (by kernel_rfl) (by simp) ?_
            refine AllReadyH.cons rfl (fun K hK => ?_) (AllReadyH.nil)
            go_simp
            refine hK.out _ _ ?_ (fun hHeld => ?_)
            · repeat' first | assumption | exact Nat.le_refl _ | (refine SLn.drew ?_) | (refine SLn.alloc ?_ _) | (refine SLn.set ?_ ?_ _)
            clear hK K
            try simp only [Act.put, List.getElem_toArray, List.getElem_cons_succ, List.getElem_cons_zero, List.setIfInBounds_toArray, List.set_cons_zero, List.set_cons_succ]
            refine wpAnyH_ready (rs := [24]) (by kernel_rfl) (by simp) ?_
            refine AllReadyH.cons rfl (fun K hK => ?_) (AllReadyH.nil)
            have hz6 := hBb.size
            refine step_appsG (enc := encLV) (by rfl) _ _ 44 (by rfl) 64 Try.underlying44 hil hlz0 hlz1 hlz2 rfl (by omega) (fun _ => rfl) encLV_cell (by omega) w1.heap.size v ys [⟨(nthL x.lines k).name, g5, (nthL x.lines k).stops.length, k5, g6, (nthL x.lines k).runs.length, k6⟩] _ (OwnE.call HNU.out.lv.own (bel_alloc hBb _)) (by rfl) _ 0 1 1 (by rfl) (by rfl) (line_cells (by go_simp) (by go_simp) (by go_simp)) (by simpa using hyl) (by simp; omega) ?_
            intro v8 w8 ho8 hb8 hg8 hat8
            have hS8 : SLn wr bx 2 w8 := SLn.belB hHeld hb8 hzb (by simp; omega)
            have hF8 := (hS8.has.2 1).2
            have hV8 : w8.cell? ⟨bx, 1, none⟩ = some v := (hb8.cell (p := ⟨bx, 1, none⟩) hzb).trans (by go_simp)
            obtain ⟨A8, n8, c8, rfl⟩ := OwnE.formE ho8
            refine hK.out _ _ ?_ (fun hHeld => ?_)
            · repeat' first | assumption | exact Nat.le_refl _ | (refine SLn.drew ?_) | (refine SLn.alloc ?_ _) | (refine SLn.set ?_ ?_ _)
            clear hK K
            try simp only [Act.put, List.getElem_toArray, List.getElem_cons_succ, List.getElem_cons_zero, List.setIfInBounds_toArray, List.set_cons_zero, List.set_cons_succ]
            refine wpAnyH_take (i := 25) (v := ?_) rfl (by kernel_rfl) (by kernel_rfl) (by kernel_rfl) (fun _ _ _ h => h) (Or.inl ⟨by rfl, ?_⟩) hHeld ?_
            rotate_left 1
            · intro w hSw; (try dsimp only at hSw); first | (go_simp; done) | (go_simp; with_reducible rfl) | (go_simp; rfl)
            try simp only [Act.put, List.getElem_toArray, List.getElem_cons_succ, List.getElem_cons_zero, List.setIfInBounds_toArray, List.set_cons_zero, List.set_cons_succ]
            refine wpAnyH_ready (rs := [26]) (by kernel_rfl) (by simp) ?_
            refine AllReadyH.cons rfl (fun K hK => ?_) (AllReadyH.nil)
            go_simp
            refine hK.out _ _ ?_ (fun hHeld => ?_)
            · repeat' first | assumption | exact Nat.le_refl _ | (refine SLn.drew ?_) | (refine SLn.alloc ?_ _) | (refine SLn.set ?_ ?_ _)
            clear hK K
            try simp only [Act.put, List.getElem_toArray, List.getElem_cons_succ, List.getElem_cons_zero, List.setIfInBounds_toArray, List.set_cons_zero, List.set_cons_succ]
            refine wpAnyH_done (by kernel_rfl) ?_ _
            have hv := lvat ho5' ho6 lp1 lp2 (.cells #[.string (nthL x.lines k).name, .slice (some ⟨g5, 0, none⟩) (nthL x.lines k).stops.length k5, .slice (some ⟨g6, 0, none⟩) (nthL x.lines k).runs.length k6] 113)
            have z5 := ((World.ownsRow.lt ho5) g5 rfl).2
            have z1 : wr.heap.size ≤ g5 := hv.2.1.1
            have z2 := hBa.size
            have z3 := hv.2.2.1
            have HST := Lib.hid (LUp.step HNU.out hwb hzb (bel_alloc hBb _) hv.1 (show g5 ≠ g6 by omega) ⟨z1, hv.2.1.2⟩ ⟨(show wr.heap.size ≤ g6 by omega), hv.2.2.2⟩ ho8 hg8 hb8 hat8)
            clear hC hV hS5 hS6 hS8 hF8 hV8 hVa hVb ho5 ho6 ho5' ho8 hb5 hb6 hb8 hg8 hat8 hv hBa hBb hS0 hHeld
            go_wp2_with fail
            go_roundw
            case rel => exact ⟨k + 1, by omega, by go_num, _, _, HST.out⟩
            case measure => simp [intOf]; omega
      -- END
    · obtain rfl : k = x.lines.length := by omega
      have hr0 : w.heap.size + 1 < w1.heap.size := by omega
      have s0 := Same.of_blk (hnu.kept (w.heap.size + 1) hr0 (by omega))
      have s1 : Same W0 w1 (w.heap.size + 1) := Same.of_below HB1.out hz0
      have t0 := (s0 0).1.trans ((s1 0).1.trans HT0.out.1)
      have t1 := (s0 1).1.trans ((s1 1).1.trans HT0.out.2.1)
      have f0 := (s0 0).2.trans ((s1 0).2.trans (HT0.out.2.2 0))
      have f1 := (s0 1).2.trans ((s1 1).2.trans (HT0.out.2.2 1))
      have n0 := hnu.c0
      have n1 := hnu.c1
      have hbe := Lib.hid hnu.bel
      obtain ⟨g, cap, hv⟩ := own_some hnu.lv.own (by rw [hnu.lv.len]; exact hl0)
      rw [hnu.lv.len] at hv
      subst hv
      have HNO := Lib.hid (LUp.nval (lo := W0.heap.size) hnu hgs0 (by omega) hgsb HST.out (by omega))
      clear hnu s0 s1 HNU
      go_wp2_with fail
      refine bodyPost_ret (v := .agg #[.slice (some ⟨gs, 0, none⟩) x.stops.length ks, .slice (some ⟨g, 0, none⟩) x.lines.length cap]) (by simp [results, Try.results106, go_sem, t0, t1]) rfl ?_
      refine ⟨gs, ks, g, cap, ys, rfl, ?_, ?_⟩
      · refine NVal.lower (B := W0.heap.size) ?_ hwW
        repeat' (refine NVal.set ?_ (by simpa using hz0) _)
        exact HNO.out
      · repeat' (refine Below.setCell ?_ (by simp) _)
        exact hbe.out
end Go.Proofs.Ytambgommeannnaa
