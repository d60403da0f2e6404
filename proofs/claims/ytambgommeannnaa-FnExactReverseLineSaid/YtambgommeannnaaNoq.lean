/- impl.ReverseLine: the answer. -/
import Derived.Test.YtambgommeannnaaNop
namespace Go.Proofs.Ytambgommeannnaa
open Go.ChangeShapes Go.WideShapes Go.ChangeAt Go.RowKit Go.PlainAid
set_option linter.unusedVariables false
set_option linter.unusedSimpArgs false

/-- append(v, y) of one element: what is known of the world behind it. -/
theorem wp_appH {α : Type} {e : TypeId} {m : Nat} {enc : α → List Value} {P : Program} {ops : Array Oper} {rest : List Oper} {o : Oper} {a : Act} {Q : Exit → Act → World → Prop} (hgd : o.guard = none) (s x : Operand) (t : TypeId)
    (ho : o.op = .call { callee := .builtin .append, args := #[s, x], argTypes := #[t, t] }) (bytes : Nat) {z : Value} {i : TypeInfo} (ht : P.underlying t = some (.slice e)) (hi : P.info? e = some i) (hz : i.zero = some z) (hsize : i.size = m) (hby : i.bytes = bytes) (hzs : z.cells.size = m) (hsz : 0 < m)
    (hm : ∀ y, (enc y).length = m) (h1 : ∀ y, ∀ u ∈ enc y, u.oneCell' = true) (hb16 : bytes ≤ 1024)
    (B : Nat) (v : Value) (xs : List α) (y : α) (cs : Array Value) (w : World) (hcs : cs.toList = enc y) (hs : a.eval s = v) (n : Nat) (hx : a.eval x = .slice (some ⟨n, 0, none⟩) 1 1) (hnw : n = w.heap.size) (hown : OwnE e m enc w B v xs) (hl : xs.length ≤ 16777216) (hB : B ≤ w.heap.size)
    (h : ∀ v' w', OwnE e m enc w' B v' (xs ++ [y]) → Below B w w' → (w.alloc (.cells cs e)).grownBy w' v.ownBlock → (v'.ownBlock = v.ownBlock ∨ v'.ownBlock = some (w.alloc (.cells cs e)).heap.size) → wpList P ops Q rest (a.put o.dst v') w') : wpList P ops Q (o :: rest) a (w.alloc (.cells cs e)) := by
  subst hnw
  refine wpList_append_own_at _ hgd s x t ho B e i z m bytes ht hi hz hsize hby hzs hsz v xs.length (xs.flatMap enc) hs (World.ownsRow.alloc hown _) ⟨w.heap.size, 0, none⟩ 1 1 (enc y) hx (by rw [hm]; omega) (fun j u hj => ?_) (h1 y) (by unfold maxLen; omega) ?_ (by simp; omega) (fun v' w' ho' hg _ hat => ?_)
  · rw [show (⟨w.heap.size, 0, none⟩ : Addr).add j = ⟨w.heap.size, j, none⟩ by unfold Addr.add; split <;> simp_all, World.cell?_alloc_mark, ← Array.getElem?_toList, hcs]
    exact hj
  · have : (xs.length + 1) * bytes ≤ (16777216 + 1) * 1024 := Nat.mul_le_mul (by omega) hb16
    omega
  · refine h v' w' ?_ (((Below.refl B w).alloc hB _).grown hg (by simp; omega) (fun k hk => ((World.ownsRow.lt hown) k hk).1)) hg hat
    show w'.ownsRow B e m v' (xs ++ [y]).length ((xs ++ [y]).flatMap enc)
    rw [List.length_append, List.flatMap_append, List.flatMap_cons, List.flatMap_nil, List.append_nil]
    exact ho'
theorem LvOwn.off_box2 {w : World} {B n bx : Nat} {v v8 : Value} {xs : List LineD} {ys : List LV} {k : Nat} {y : LV} (h : LvOwn w B v xs ys k) (o : OffV v ys k bx) (hat : v8.ownBlock = v.ownBlock ∨ v8.ownBlock = some n) (hn : bx ≠ n) (h5 : y.gs ≠ bx) (h6 : y.gr ≠ bx) : OffV v8 (ys ++ [y]) (k + 1) bx := by
  refine ⟨fun e => ?_, fun j hj => ?_⟩
  · rcases hat with q | q
    · rw [q] at e
      exact o.1 e
    · rw [q] at e
      exact hn (Option.some.inj e).symm
  · by_cases e : j = k
    · rw [e, ← h.len, atV_new]; exact ⟨h5, h6⟩
    · rw [atV_old (by have := h.len; omega)]
      exact o.2 j (by omega)
set_option maxRecDepth 100000 in
set_option maxHeartbeats 4000000 in
theorem implReverseLine_go (x : NetD) (k : Nat) (nm : ByteArray) (b o ca bl ol cl : Nat) (w : World) (hA : StrsIn w (Zone.below w.heap.size) (some ⟨b, o, none⟩) x.stops) (hL : LinesIn w (Zone.below w.heap.size) (some ⟨bl, ol, none⟩) x.lines) (hx : Fits x) (hb : netB x = true) (hk : k < x.lines.length) (hnm : nm.size ≤ 1048576) :
    Calls Try.prog 39 #[.agg #[.slice (some ⟨b, o, none⟩) x.stops.length ca, .slice (some ⟨bl, ol, none⟩) x.lines.length cl], .int .i64 k, .string nm] w (RetNet (revR x k nm).1 (revR x k nm).2 w) := by
  obtain ⟨W0, hW0⟩ : ∃ W0, W0 = ((w.alloc (.cells #[.slice (some ⟨b, o, none⟩) x.stops.length ca, .slice (some ⟨bl, ol, none⟩) x.lines.length cl] 46)).alloc (.cells #[.slice none 0 0, .slice none 0 0] 46)) := ⟨_, rfl⟩
  have H0 : Hid (NetBox w W0 w.heap.size x (some ⟨b, o, none⟩) ca (some ⟨bl, ol, none⟩) cl) := Lib.hid (by rw [hW0]; exact (NetBox.box hA hL).call ((Below.refl _ _).alloc (Nat.le_refl _) _))
  have hz0 : w.heap.size + 1 < W0.heap.size := by rw [hW0]; simp
  have hT0 : W0.cell? ⟨w.heap.size + 1, 0, none⟩ = some (.slice none 0 0) ∧ W0.cell? ⟨w.heap.size + 1, 1, none⟩ = some (.slice none 0 0) ∧ ∀ j, W0.frozen? ⟨w.heap.size + 1, j, none⟩ = false := by rw [hW0]; exact ⟨by go_simp, by go_simp, fun j => by go_simp⟩
  have HT0 := Lib.hid hT0
  have hm := hx.lines
  have HX := Lib.hid (netX_of hb)
  have HLN := Lib.hid hL
  have HI : Hid (inB (k : Int) 0 (x.lines.length - 1) = true) := Lib.hid (inB_yes (by omega) (by omega))
  have HNB := Lib.hid hb
  clear hA hL hT0
  go_enter Try.func39, Try.ntmps39
  go_upto_region 1 with fail
  rw [← hW0]
  clear hW0
  obtain ⟨c0, c1⟩ := H0.out.cells
  have HG := Lib.hid (isValidNetwork_any x _ _ ca cl W0 H0.out.stops H0.out.lines hx)
  go_wp2_with fail
  refine HG.out.mono ?_
  rintro e w1 ⟨rfl, hb1⟩
  rw [hb]
  have H1 := Lib.hid (H0.out.call hb1)
  have hz1 := hb1.size
  have s1 : Same W0 w1 (w.heap.size + 1) := Same.of_below hb1 hz0
  have HT1 : Hid (w1.cell? ⟨w.heap.size + 1, 0, none⟩ = some (.slice none 0 0) ∧ w1.cell? ⟨w.heap.size + 1, 1, none⟩ = some (.slice none 0 0) ∧ ∀ j, w1.frozen? ⟨w.heap.size + 1, j, none⟩ = false) := Lib.hid ⟨(s1 0).1.trans HT0.out.1, (s1 1).1.trans HT0.out.2.1, fun j => (s1 j).2.trans (HT0.out.2.2 j)⟩
  obtain ⟨d0, d1⟩ := H1.out.cells
  have HG2 := Lib.hid (isLine_any x (some ⟨b, o, none⟩) (some ⟨bl, ol, none⟩) ca cl k w1 hm)
  clear hb1 s1 hb c0 c1
  go_wp2_with fail
  refine HG2.out.mono ?_
  rintro e w2 ⟨rfl, hb2⟩
  rw [HI.out]
  have H2 := Lib.hid (H1.out.call hb2)
  have hz2 := hb2.size
  have hw2 := H2.out.bel.size
  have s2 : Same w1 w2 (w.heap.size + 1) := Same.of_below hb2 (by omega)
  have HT2 : Hid (w2.cell? ⟨w.heap.size + 1, 0, none⟩ = some (.slice none 0 0) ∧ w2.cell? ⟨w.heap.size + 1, 1, none⟩ = some (.slice none 0 0) ∧ ∀ j, w2.frozen? ⟨w.heap.size + 1, j, none⟩ = false) := Lib.hid ⟨(s2 0).1.trans HT1.out.1, (s2 1).1.trans HT1.out.2.1, fun j => (s2 j).2.trans (HT1.out.2.2 j)⟩
  obtain ⟨e0, e1⟩ := H2.out.cells
  obtain ⟨b', o', e, hbl, S, cs, R, cr, l0, l1, l2, i1, i2⟩ := LinesIn.line (HLN.out.at_below H2.out.bel) hk
  simp only [Option.some.injEq, Addr.mk.injEq, and_true] at e
  obtain ⟨rfl, rfl⟩ := e
  have hl := HX.out.ln k hk
  obtain ⟨bs, os, rfl, _⟩ := i1 (by omega)
  obtain ⟨br, or, rfl, _⟩ := i2 (by omega)
  have hik : (k : Int) < (x.lines.length : Int) := by omega
  have hblw : bl < w2.heap.size := by have : bl < w.heap.size := hbl; omega
  have HCL := Lib.hid (copyLine_any (nthL x.lines k) bs os cs br or cr w2 (i1.mono (Zone.below_le hw2)) (i2.mono (Zone.below_le hw2)) (by omega) (by omega) (by omega) (by omega))
  clear hb2 s2 d0 d1 i1 i2
  go_wp2_with fail
  refine HCL.out.mono ?_
  rintro e w3 ⟨gs, ks, gr, kr, rfl, j1, j2, jne, jb1, jb2, jc1, jc2, hb3⟩
  have hz3 := hb3.size
  have H3 := Lib.hid (H2.out.call hb3)
  have HJ1 := Lib.hid j1
  have HJ2 := Lib.hid j2
  have HB3 := Lib.hid hb3
  clear l0 l1 l2 e0 e1 hb3 j1 j2
  go_upto_region 5 with fail
  obtain ⟨W3, hW3⟩ : ∃ W3, W3 = (w3.alloc (.cells #[.string nm, .slice (some ⟨gs, 0, none⟩) (nthL x.lines k).stops.length ks, .slice (some ⟨gr, 0, none⟩) (nthL x.lines k).runs.length kr] 113)) := ⟨_, rfl⟩
  rw [← hW3]
  have hb4 : Below w3.heap.size w3 W3 := by rw [hW3]; go_grown
  have HB4 := Lib.hid hb4
  have hz4 : w3.heap.size < W3.heap.size := by rw [hW3]; simp
  have HLX : Hid (W3.cell? ⟨w3.heap.size, 0, none⟩ = some (.string nm) ∧ W3.cell? ⟨w3.heap.size, 1, none⟩ = some (.slice (some ⟨gs, 0, none⟩) (nthL x.lines k).stops.length ks) ∧ W3.cell? ⟨w3.heap.size, 2, none⟩ = some (.slice (some ⟨gr, 0, none⟩) (nthL x.lines k).runs.length kr)) := Lib.hid (by rw [hW3]; exact ⟨by go_simp, by go_simp, by go_simp⟩)
  clear hW3
  have L1 := HLX.out.2.1
  have H4 := Lib.hid (H3.out.call hb4)
  have lf1 : (nthL x.lines k).stops.length ≤ 1048576 := by omega
  have lf2 : (nthL x.lines k).runs.length ≤ 1048576 := by omega
  have lp1 : 0 < (nthL x.lines k).stops.length := by omega
  have lp2 : 0 < (nthL x.lines k).runs.length := by omega
  have hgl := jb1.2
  have hgr := jb2.2
  have HR1 := Lib.hid (reverseI_any gs ks (nthL x.lines k).stops W3 (HJ1.out.keep fun c hc => by rw [Zone.one_ok hc]; exact Same.of_below hb4 hgl) lp1 lf1 (by omega))
  clear hb4
  go_wp2_with fail
  refine HR1.out.mono ?_
  rintro e w4 ⟨rfl, k1, kp4, z4, b4⟩
  have HK1 := Lib.hid k1
  have HP4 := Lib.hid kp4
  have HB5 := Lib.hid b4
  have H5 := Lib.hid (H4.out.callB b4 (show w.heap.size < gs by omega))
  have L2 : w4.cell? ⟨w3.heap.size, 2, none⟩ = some (.slice (some ⟨gr, 0, none⟩) (nthL x.lines k).runs.length kr) := ((Same.of_blk (kp4 _ (show w3.heap.size ≠ gs by omega))) 2).1.trans HLX.out.2.2
  have HR2 := Lib.hid (reverseI_any gr kr (nthL x.lines k).runs w4 (HJ2.out.keep fun c hc => by rw [Zone.one_ok hc]; exact (Same.of_below HB4.out hgr).trans (Same.of_blk (kp4 _ jne.symm))) lp2 lf2 (by omega))
  clear k1 kp4 b4 L1
  go_wp2_with fail
  refine HR2.out.mono ?_
  rintro e w5 ⟨rfl, k2, kp5, z5, b5⟩
  have hz5 : W3.heap.size = w5.heap.size := by omega
  have HK2 := Lib.hid k2
  have HK3 : Hid (IntsIn w5 (Zone.one gs) (some ⟨gs, 0, none⟩) (nthL x.lines k).stops.reverse) := Lib.hid (HK1.out.keep fun c hc => by rw [Zone.one_ok hc]; exact Same.of_blk (kp5 _ jne))
  have H6 := Lib.hid (H5.out.callB b5 (show w.heap.size < gr by omega))
  have HL5 : Hid (w5.cell? ⟨w3.heap.size, 0, none⟩ = some (.string nm) ∧ w5.cell? ⟨w3.heap.size, 1, none⟩ = some (.slice (some ⟨gs, 0, none⟩) (nthL x.lines k).stops.length ks) ∧ w5.cell? ⟨w3.heap.size, 2, none⟩ = some (.slice (some ⟨gr, 0, none⟩) (nthL x.lines k).runs.length kr)) := Lib.hid (by
    have s := (Same.of_blk (HP4.out w3.heap.size (by omega))).trans (Same.of_blk (kp5 w3.heap.size (by omega)))
    exact ⟨(s 0).1.trans HLX.out.1, (s 1).1.trans HLX.out.2.1, (s 2).1.trans HLX.out.2.2⟩)
  have hBw5 : Below w2.heap.size w2 w5 := ((HB3.out.trans (HB4.out.mono (by omega))).trans (HB5.out.mono (by omega))).trans (b5.mono (by omega))
  have s5 : Same w2 w5 (w.heap.size + 1) := Same.of_below hBw5 (by omega)
  have HT5 : Hid (w5.cell? ⟨w.heap.size + 1, 0, none⟩ = some (.slice none 0 0) ∧ w5.cell? ⟨w.heap.size + 1, 1, none⟩ = some (.slice none 0 0) ∧ ∀ j, w5.frozen? ⟨w.heap.size + 1, j, none⟩ = false) := Lib.hid ⟨(s5 0).1.trans HT2.out.1, (s5 1).1.trans HT2.out.2.1, fun j => (s5 j).2.trans (HT2.out.2.2 j)⟩
  obtain ⟨f0, f1⟩ := H6.out.cells
  have HCN := Lib.hid ((copyNet_any x b o ca bl ol cl w5 H6.out.stops H6.out.lines hx (by have := HX.out.s; omega) (fun j hj => by have := HX.out.ln j hj; omega)).mono (fun e w' h => RetNetA.v h (by omega)))
  clear k2 kp5 b5 hBw5 s5 L2
  go_wp2_with fail
  refine HCN.out.mono ?_
  rintro e w6 ⟨gn, kn, g, cap, ys, rfl, hv, hb6⟩
  have HV := Lib.hid hv
  have HB6 := Lib.hid hb6
  have hz6 := hb6.size
  have hgn := hv.s1
  have hgg := (World.ownsRow.lt hv.lv.own) g rfl
  have H7 := Lib.hid (H6.out.call hb6)
  have s6 : Same w5 w6 w3.heap.size := Same.of_below hb6 (by omega)
  have M0 : w6.cell? ⟨w3.heap.size, 0, none⟩ = some (.string nm) := (s6 0).1.trans HL5.out.1
  have M1 : w6.cell? ⟨w3.heap.size, 1, none⟩ = some (.slice (some ⟨gs, 0, none⟩) (nthL x.lines k).stops.length ks) := (s6 1).1.trans HL5.out.2.1
  have M2 : w6.cell? ⟨w3.heap.size, 2, none⟩ = some (.slice (some ⟨gr, 0, none⟩) (nthL x.lines k).runs.length kr) := (s6 2).1.trans HL5.out.2.2
  have hlx : w3.heap.size < w6.heap.size := by omega
  have hyl : ys.length ≤ 16777216 := by have := hv.lv.len; omega
  obtain ⟨il, hil, hlz0, hlz1, hlz2⟩ := info_parts Try.infoLineC
  clear hv hb6 s6 f0 f1
  go_upto_region 8 with fail
  obtain ⟨W7, hW7⟩ : ∃ W7, W7 = (w6.alloc (.cells #[.slice (some ⟨gn, 0, none⟩) x.stops.length kn, .slice (some ⟨g, 0, none⟩) x.lines.length cap] 46)) := ⟨_, rfl⟩
  rw [← hW7]
  have hb7 : Below w6.heap.size w6 W7 := by rw [hW7]; go_grown
  have HB7 := Lib.hid hb7
  have hz7 : w6.heap.size < W7.heap.size := by rw [hW7]; simp
  have V0 : W7.cell? ⟨w6.heap.size, 0, none⟩ = some (.slice (some ⟨gn, 0, none⟩) x.stops.length kn) := by rw [hW7]; go_simp
  have V1 : W7.cell? ⟨w6.heap.size, 1, none⟩ = some (.slice (some ⟨g, 0, none⟩) x.lines.length cap) := by rw [hW7]; go_simp
  have HVF : Hid (∀ j, W7.frozen? ⟨w6.heap.size, j, none⟩ = false) := Lib.hid (fun j => by rw [hW7]; go_simp)
  have HV0 := Lib.hid V0
  have HV1 := Lib.hid V1
  have sl7 : Same w6 W7 w3.heap.size := Same.of_below hb7 hlx
  have N0 : W7.cell? ⟨w3.heap.size, 0, none⟩ = some (.string nm) := (sl7 0).1.trans M0
  have N1 : W7.cell? ⟨w3.heap.size, 1, none⟩ = some (.slice (some ⟨gs, 0, none⟩) (nthL x.lines k).stops.length ks) := (sl7 1).1.trans M1
  have N2 : W7.cell? ⟨w3.heap.size, 2, none⟩ = some (.slice (some ⟨gr, 0, none⟩) (nthL x.lines k).runs.length kr) := (sl7 2).1.trans M2
  have HV7 := Lib.hid (HV.out.call hb7)
  have hlx7 : w3.heap.size < W7.heap.size := by omega
  have hBle : w5.heap.size ≤ W7.heap.size := by omega
  have hbx : w6.heap.size ≠ g := by omega
  have hgn5 := HV.out.s0
  have hy : Hid (LvAt (W7.alloc (.cells #[.string nm, .slice (some ⟨gs, 0, none⟩) (nthL x.lines k).stops.length ks, .slice (some ⟨gr, 0, none⟩) (nthL x.lines k).runs.length kr] 113)) ⟨nm, gs, (nthL x.lines k).stops.length, ks, gr, (nthL x.lines k).runs.length, kr⟩ (revL (nthL x.lines k) nm)) := Lib.hid (by
    have hbb : Below w5.heap.size w5 (W7.alloc (.cells #[.string nm, .slice (some ⟨gs, 0, none⟩) (nthL x.lines k).stops.length ks, .slice (some ⟨gr, 0, none⟩) (nthL x.lines k).runs.length kr] 113)) := (HB6.out.trans (hb7.mono hz6)).alloc hBle _
    refine ⟨rfl, by simp [revL], by simp [revL], ?_, ?_, by simpa [revL] using jc1, by simpa [revL] using jc2⟩
    · exact HK3.out.keep fun c hc => by rw [Zone.one_ok hc]; exact Same.of_below hbb (by omega)
    · exact HK2.out.keep fun c hc => by rw [Zone.one_ok hc]; exact Same.of_below hbb (by omega))
  have hown := HV7.out.lv.own
  clear hW7 hb7 M0 M1 M2 sl7 V0
  go_upto_region 9 with (refine wp_appH (enc := encLV) (by rfl) _ _ 44 (by rfl) 64 Try.underlying44 hil hlz0 hlz1 hlz2 rfl (by omega) (fun _ => rfl) encLV_cell (by omega) w5.heap.size _ ys ⟨nm, gs, (nthL x.lines k).stops.length, ks, gr, (nthL x.lines k).runs.length, kr⟩ _ W7 rfl (by rfl) W7.heap.size (by rfl) rfl hown hyl hBle ?_; intro v8 w8 ho8 hb8 hg8 hat8; obtain ⟨A8, n8, c8, rfl⟩ := OwnE.formE ho8; have Q1 : w8.cell? ⟨w6.heap.size, 1, none⟩ = some (.slice (some ⟨g, 0, none⟩) x.lines.length cap) := ((Same.of_blk (hg8.block w6.heap.size (by simp; omega) (by simpa [Value.ownBlock] using hbx))) 1).1.trans (by go_simp); have QF : w8.frozen? ⟨w6.heap.size, 1, none⟩ = false := ((Same.of_blk (hg8.block w6.heap.size (by simp; omega) (by simpa [Value.ownBlock] using hbx))) 1).2.trans (by rw [World.frozen?_alloc_past _ _ _ hz7]; exact HVF.out 1))
  have hzA : (W7.alloc (.cells #[.string nm, .slice (some ⟨gs, 0, none⟩) (nthL x.lines k).stops.length ks, .slice (some ⟨gr, 0, none⟩) (nthL x.lines k).runs.length kr] 113)).heap.size = W7.heap.size + 1 := by simp
  have HN := Lib.hid (NVal.add (y := ⟨nm, gs, (nthL x.lines k).stops.length, ks, gr, (nthL x.lines k).runs.length, kr⟩) (l := revL (nthL x.lines k) nm) (HV7.out.lower (show w2.heap.size ≤ w5.heap.size by omega)) (show w2.heap.size ≤ W7.heap.size by omega) ((Below.refl _ _).alloc (Nat.le_refl _) _) hy.out jne ⟨jb1.1, (show gs < _ by rw [hzA]; omega)⟩ ⟨jb2.1, (show gr < _ by rw [hzA]; omega)⟩ (HV7.out.lv.off_below (show gs < w5.heap.size by omega)) (HV7.out.lv.off_below (show gr < w5.heap.size by omega)) (show gs ≠ gn by omega) (show gr ≠ gn by omega) (OwnE.lower ho8 (by omega)) hg8 hat8)
  have hof := LvOwn.off_box2 (y := ⟨nm, gs, (nthL x.lines k).stops.length, ks, gr, (nthL x.lines k).runs.length, kr⟩) HV7.out.lv (HV.out.lv.off_above (Nat.le_refl _)) hat8 (by rw [hzA]; omega) (show gs ≠ w6.heap.size by omega) (show gr ≠ w6.heap.size by omega)
  have hn8 := NVal.setOff (p := ⟨w6.heap.size, 1, none⟩) HN.out (by rw [show ({ stops := x.stops, lines := x.lines ++ [revL (nthL x.lines k) nm] } : NetD).lines.length = x.lines.length + 1 by simp]; exact hof) (show gn ≠ w6.heap.size by omega) (.slice A8 n8 c8)
  change NVal _ _ (revN x k nm) gn _ _ at hn8
  have Q0 : w8.cell? ⟨w6.heap.size, 0, none⟩ = some (.slice (some ⟨gn, 0, none⟩) x.stops.length kn) := ((Same.of_blk (hg8.block w6.heap.size (by rw [hzA]; omega) (by simpa [Value.ownBlock] using hbx))) 0).1.trans ((((Below.refl _ W7).alloc (Nat.le_refl _) _).cell (p := ⟨w6.heap.size, 0, none⟩) hz7).trans HV0.out)
  have hl8 : (revN x k nm).lines.length = x.lines.length + 1 := by simp [revN]
  obtain ⟨g8, cap8, hv8⟩ := own_some hn8.lv.own (by rw [hn8.lv.len, hl8]; omega)
  rw [hn8.lv.len] at hv8
  rw [hv8] at hn8 ⊢
  obtain ⟨p, r, hno⟩ := hn8.nown (by rw [hl8]; omega)
  obtain ⟨W8, hW8⟩ : ∃ W8, W8 = w8.setCell ⟨w6.heap.size, 1, none⟩ (.slice (some ⟨g8, 0, none⟩) (revN x k nm).lines.length cap8) := ⟨_, rfl⟩
  rw [← hW8] at hno
  have m0 : W8.cell? ⟨w6.heap.size, 0, none⟩ = some (.slice (some ⟨gn, 0, none⟩) x.stops.length kn) := by
    rw [hW8, World.cell?_setCell_other _ _ _ _ (addr_ne (by omega))]; exact Q0
  have m1 : W8.cell? ⟨w6.heap.size, 1, none⟩ = some (.slice (some ⟨g8, 0, none⟩) (revN x k nm).lines.length cap8) := by
    rw [hW8]; exact World.cell?_setCell_same _ _ _ Q1
  have hB8 : Below w5.heap.size w5 W8 := by
    rw [hW8]
    exact ((HB6.out.trans (HB7.out.mono hz6)).trans hb8).setCell (p := ⟨w6.heap.size, 1, none⟩) hz6 _
  have hw5 := H6.out.bel.size
  have HB8 : Hid (Below w.heap.size w W8) := Lib.hid (H6.out.bel.trans (hB8.mono hw5))
  have hbx8 : w6.heap.size < W8.heap.size := by
    have := hb8.size; rw [hW8, size_set]; omega
  have HNO := Lib.hid hno
  have HF := revN_fits HX.out hx hk hnm
  have HG8 := Lib.hid (isValidNetwork_any (revN x k nm) (some ⟨gn, 0, none⟩) (some ⟨g8, 0, none⟩) kn cap8 W8 (hno.stopsIn.to_below (Nat.le_refl _)) (hno.linesIn.to_below (Nat.le_refl _)) HF)
  have s8 : Same w5 W8 (w.heap.size + 1) := Same.of_below hB8 (by omega)
  have HT8 : Hid (W8.cell? ⟨w.heap.size + 1, 0, none⟩ = some (.slice none 0 0) ∧ W8.cell? ⟨w.heap.size + 1, 1, none⟩ = some (.slice none 0 0) ∧ ∀ j, W8.frozen? ⟨w.heap.size + 1, j, none⟩ = false) := Lib.hid ⟨(s8 0).1.trans HT5.out.1, (s8 1).1.trans HT5.out.2.1, fun j => (s8 j).2.trans (HT5.out.2.2 j)⟩
  have hi8 : w.heap.size + 1 < W8.heap.size := by omega
  have HM := Lib.hid (And.intro m0 m1)
  rw [← hW8]
  clear hW8 hno hn8 hb8 hg8 hat8 ho8 hown Q0 Q1 QF hB8 s8 hl8 hv8 hof N0 N1 N2 V1 hzA
  go_wp2_with fail
  refine HG8.out.mono ?_
  rintro e w9 ⟨rfl, hb9⟩
  have HB9 := Lib.hid (bel_call HB8.out hb9)
  have HN9 := Lib.hid (HNO.out.keep (w' := w9) (fun c hc => Same.of_below hb9 hc.2))
  have s9 : Same W8 w9 (w.heap.size + 1) := Same.of_below hb9 hi8
  have t0 := (s9 0).1.trans HT8.out.1
  have t1 := (s9 1).1.trans HT8.out.2.1
  have f0 := (s9 0).2.trans (HT8.out.2.2 0)
  have f1 := (s9 1).2.trans (HT8.out.2.2 1)
  have m0' : w9.cell? ⟨w6.heap.size, 0, none⟩ = some (.slice (some ⟨gn, 0, none⟩) x.stops.length kn) := ((Same.of_below hb9 hbx8) 0).1.trans HM.out.1
  have m1' : w9.cell? ⟨w6.heap.size, 1, none⟩ = some (.slice (some ⟨g8, 0, none⟩) (revN x k nm).lines.length cap8) := ((Same.of_below hb9 hbx8) 1).1.trans HM.out.2
  have hz9 := hb9.size
  clear hb9 s9 m0 m1
  cases hb3 : netB (revN x k nm)
  · have HR := Lib.hid (revR_no (x := x) (i := (k : Int)) (nm := nm) (.inr (.inr hb3)))
    clear hb3
    go_wp2_with fail
    refine bodyPost_ret (v := .tuple #[.agg #[.slice none 0 0, .slice none 0 0], .bool false]) (by simp [results, Try.results39, go_sem, t0, t1]) rfl ?_
    refine retNet_eq HR.out (retNet_zero ?_)
    repeat' (refine Below.setCell ?_ (by simp) _)
    exact HB9.out
  · have HR := Lib.hid (revR_yes (x := x) (i := (k : Int)) (nm := nm) HNB.out HI.out hb3)
    clear hb3
    go_wp2_with fail
    refine bodyPost_ret (v := .tuple #[.agg #[.slice (some ⟨gn, 0, none⟩) x.stops.length kn, .slice (some ⟨g8, 0, none⟩) (revN x k nm).lines.length cap8], .bool true]) (by simp [results, Try.results39, go_sem, t0, t1]) rfl ?_
    refine retNet_eq HR.out ⟨some ⟨gn, 0, none⟩, kn, some ⟨g8, 0, none⟩, cap8, rfl, .inr ⟨gn, g8, p, r, ?_⟩, ?_⟩
    · simp only [size_set]
      refine NOwn.wide (lo := w2.heap.size) (hi := W8.heap.size) ?_ (by omega) hz9
      repeat' (refine NOwn.set ?_ (by show w.heap.size + 1 < w2.heap.size; omega) _)
      exact HN9.out
    · repeat' (refine Below.setCell ?_ (by simp) _)
      exact HB9.out
end Go.Proofs.Ytambgommeannnaa
