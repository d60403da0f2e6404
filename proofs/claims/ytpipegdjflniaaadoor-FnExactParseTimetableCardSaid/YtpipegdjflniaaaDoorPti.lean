/- spec.l6Line: what it answers. -/
import Derived.Test.YtpipegdjflniaaaDoorPtg
import Derived.BigQuiet
import Derived.Deep.CutBlock
import Derived.Deep.DeepCutAuto
namespace Go.Proofs.YtpipegdjflniaaaDoor
open Go.ChangeShapes Go.WideShapes Go.ChangeAt Go.RowKit Go.PlainAid
set_option linter.unusedVariables false
set_option linter.unusedSimpArgs false

theorem own_formQ {α : Type} {e : TypeId} {m : Nat} {enc : α → List Value} {w : World} {B : Nat} {v : Value} {xs : List α} (h : OwnE e m enc w B v xs) : ∃ A n c, v = .slice A n c := by
  obtain ⟨A, c, e⟩ := own_form h
  exact ⟨A, _, c, e⟩
theorem retLz_part {o : Option LineD} {w w' : World} {nm : ByteArray} {A R : Option Addr} {na ca nr cr : Nat} (h : o = none) (hb : Below w.heap.size w w') : RetLz o w (.returned (.tuple #[.agg #[.string nm, .slice A na ca, .slice R nr cr], .bool false])) w' :=
  ⟨⟨nm, A, na, ca, R, nr, cr, 0, 0, 0, 0⟩, by rw [h]; rfl, fun z hz => by (rw [h] at hz; cases hz), hb⟩

set_option maxRecDepth 100000 in
set_option maxHeartbeats 8000000 in
theorem l6Line_any (ss : List ByteArray) (nl : Nat) (A L : Option Addr) (ca cl : Nat) (W : Option Addr) (cw : Nat) (ws : List Wd) (w : World) (hA : StrsIn w (Zone.below w.heap.size) A ss) (hW : StrsIn w (Zone.below w.heap.size) W (ws.map bs)) (hn : ss.length ≤ 1048576) (hz : ws.length ≤ 1048576) (h3 : 2 < ws.length) (hs : ∀ k, (ws.getD k []).length ≤ 1048576) :
    Calls Tryd.prog 27 #[.agg #[.slice A ss.length ca, .slice L nl cl], .slice W ws.length cw] w (RetLz (sLnE ss 2 (ws.drop 2) ⟨bs (ws.getD 1 []), [], []⟩) w) := by
  obtain ⟨W0, hW0⟩ : ∃ W0, W0 = ((w.alloc (.cells #[.slice A ss.length ca, .slice L nl cl] 25)).alloc (.cells #[.string ⟨#[]⟩, .slice none 0 0, .slice none 0 0] 47)) := ⟨_, rfl⟩
  have HZ0 : Hid (LB W0 (w.heap.size + 1) ⟨#[]⟩ (.slice none 0 0) (.slice none 0 0)) := Lib.hid (by rw [hW0]; exact ⟨by go_simp, by go_simp, by go_simp, fun j => by go_simp, by simp⟩)
  have HB0 : Hid (Below w.heap.size w W0) := Lib.hid (by rw [hW0]; go_grown)
  have HN0 : Hid (W0.cell? ⟨w.heap.size, 0, none⟩ = some (.slice A ss.length ca)) := Lib.hid (by rw [hW0]; go_simp)
  have HSZ : Hid (W0.heap.size = w.heap.size + 1 + 1) := Lib.hid (by rw [hW0]; simp)
  have HA := Lib.hid hA
  have HWW := Lib.hid hW
  have HS := Lib.hid hs
  obtain ⟨is, his, hsz0, hsz1, hsz2⟩ := info_parts Tryd.infoI
  clear hA hW hs
  obtain ⟨b, o, rfl, hbl, hcw⟩ := words_get HWW.out (by omega)
  have hb0 : b < w.heap.size := hbl
  have HW0 : Hid (∀ k, k < ws.length → W0.cell? ⟨b, o + k, none⟩ = some (.string (bs (ws.getD k [])))) := Lib.hid (fun k hk => (HB0.out.cell (p := ⟨b, o + k, none⟩) hb0).trans (hcw k hk))
  clear hcw hbl
  obtain ⟨nm, hnm⟩ : ∃ nm, nm = bs (ws.getD 1 []) := ⟨_, rfl⟩
  have hw1 : W0.cell? ⟨b, o + 1, none⟩ = some (.string nm) := by rw [hnm]; exact HW0.out 1 (by omega)
  rw [← hnm]
  clear hnm
  obtain ⟨o0, ho0⟩ : ∃ o0, o0 = sLnE ss 2 (ws.drop 2) ⟨nm, [], []⟩ := ⟨_, rfl⟩
  have HP0 := Lib.hid ho0.symm
  rw [← ho0]
  clear ho0
  have h1i : (1 : Int) < (ws.length : Int) := by omega
  have h1n : 1 < ws.length := by omega
  obtain ⟨W2, hW2⟩ : ∃ W2, W2 = W0.alloc (.cells #[.string nm, .slice none 0 0, .slice none 0 0] 47) := ⟨_, rfl⟩
  have HS2 : Hid ((w.heap.size + 1 + 1 + 1) ≤ W2.heap.size) := Lib.hid (by rw [hW2]; simp [HSZ.out])
  have hb2 : Below (w.heap.size + 1 + 1) W0 W2 := by rw [hW2, ← HSZ.out]; go_grown
  have HB2 := Lib.hid (HB0.out.trans (hb2.mono (show w.heap.size ≤ (w.heap.size + 1 + 1) by omega)))
  have H2 : Hid (LSt W2 (w.heap.size + 1 + 1 + 1) (w.heap.size + 1) (w.heap.size + 1 + 1) nm (.slice none 0 0) (.slice none 0 0) [] []) := Lib.hid (LSt.start (by rw [hW2, ← HSZ.out]; exact ⟨by go_simp, by go_simp, by go_simp, fun j => by go_simp, by simp⟩) (HZ0.out.below hb2 (by omega)) (by omega) (by omega) (by omega))
  have HN2 : Hid (W2.cell? ⟨w.heap.size, 0, none⟩ = some (.slice A ss.length ca)) := Lib.hid ((hb2.cell (p := ⟨w.heap.size, 0, none⟩) (show w.heap.size < (w.heap.size + 1 + 1) by omega)).trans HN0.out)
  have HWc : Hid (∀ k, k < ws.length → W2.cell? ⟨b, o + k, none⟩ = some (.string (bs (ws.getD k [])))) := Lib.hid (fun k hk => (hb2.cell (p := ⟨b, o + k, none⟩) (show b < (w.heap.size + 1 + 1) by omega)).trans (HW0.out k hk))
  have HA2 : Hid (StrsIn W2 (Zone.below w.heap.size) A ss) := Lib.hid (HA.out.at_below HB2.out)
  clear hb2
  go_enter Tryd.func27, Tryd.ntmps27
  go_upto_region 1 with fail
  rw [← hW0]
  clear hW0
  have hsz := HSZ.out
  go_upto_region 2 with fail
  (try rw [hsz])
  rw [← hW2]
  clear hW2 hw1 hsz
  go_wp2_with fail
  go_loopw [7] (fun v wr => ∃ (k : Nat) (us vs : List Int) (va vb : Value), v = .int .i64 k ∧ 2 ≤ k ∧ k ≤ ws.length ∧ us.length + vs.length ≤ k ∧ sLnE ss k (ws.drop k) ⟨nm, us, vs⟩ = o0 ∧ Below (w.heap.size + 1 + 1) W2 wr ∧ LSt wr (w.heap.size + 1 + 1 + 1) (w.heap.size + 1) (w.heap.size + 1 + 1) nm va vb us vs) (fun v _ => ws.length - (intOf v).toNat)
  case atStart => exact ⟨2, [], [], _, _, by go_num, by omega, by omega, by simp, HP0.out, Below.refl _ _, H2.out⟩
  case round =>
    obtain ⟨k, us, vs, va, vb, rfl, hk2, hk, hul, hpe, hb3, hst3⟩ := hrel
    have HPE := Lib.hid hpe
    have HK3 := Lib.hid hb3
    have H3 := Lib.hid hst3
    have HB3 := Lib.hid (HB2.out.trans (hb3.mono (show w.heap.size ≤ (w.heap.size + 1 + 1) by omega)))
    clear hpe hb3 hst3
    obtain ⟨wo, hwo⟩ : ∃ wo, wo = wr := ⟨_, rfl⟩
    rw [← hwo] at HK3 H3 HB3 ⊢
    clear hwo
    obtain ⟨A1, ca1, he1⟩ := own_form H3.out.u
    obtain ⟨R1, cr1, he2⟩ := own_form H3.out.v
    subst he1
    subst he2
    obtain ⟨c0, c1, c2, cf, cl⟩ := H3.out.c
    have cf1 := cf 1
    have cf2 := cf 2
    have hgz : (w.heap.size + 1 + 1) < wo.heap.size := cl
    have e2 : (w.heap.size + 1 + 1 + 1) ≤ wo.heap.size := cl
    clear cf
    by_cases hlt : k < ws.length
    · have hki : (k : Int) < (ws.length : Int) := by omega
      have hk0 : (0 : Int) ≤ (k : Int) := by omega
      obtain ⟨pl, hpl⟩ : ∃ pl, pl = ws.getD k [] := ⟨_, rfl⟩
      have HDR : Hid (ws.drop k = pl :: ws.drop (k + 1)) := Lib.hid (by rw [hpl]; exact drop_getW hlt)
      obtain ⟨p, hp⟩ : ∃ p, p = bs pl := ⟨_, rfl⟩
      have HCP : Hid (wo.cell? ⟨b, o + k, none⟩ = some (.string p)) := Lib.hid (by
        rw [hp, hpl, HK3.out.cell (p := ⟨b, o + k, none⟩) (show b < (w.heap.size + 1 + 1) by omega)]
        exact HWc.out k hlt)
      have HPP := Lib.hid hp
      have hps : p.size ≤ 1048576 := by rw [hp, bs_size, hpl]; exact HS.out _
      have HNW : Hid (wo.cell? ⟨w.heap.size, 0, none⟩ = some (.slice A ss.length ca)) := Lib.hid ((HK3.out.cell (p := ⟨w.heap.size, 0, none⟩) (show w.heap.size < (w.heap.size + 1 + 1) by omega)).trans HN2.out)
      have HA3 : Hid (StrsIn wo (Zone.below w.heap.size) A ss) := Lib.hid (HA2.out.keep fun c hc => Same.of_below HK3.out (by have hc' : c < w.heap.size := hc; omega))
      have HRF : Hid (sLnE ss k (pl :: ws.drop (k + 1)) ⟨nm, us, vs⟩ = none → o0 = none) := Lib.hid (fun h => by rw [← HPE.out, HDR.out]; exact h)
      clear hp hpl
      have e1 : us.length ≤ 16777215 := by omega
      have e1v : vs.length ≤ 16777216 := by omega
      by_cases hev : k % 2 = 0
      · have HEV := Lib.hid hev
        have ho1 : ((k : Int) % 2 == 0) = true := by simp; omega
        obtain ⟨x, hx⟩ : ∃ x, x = ixS ss p := ⟨_, rfl⟩
        have HX := Lib.hid hx
        have HP2 : Hid (sLnE ss (k + 1) (ws.drop (k + 1)) ⟨nm, us ++ [x], vs⟩ = o0) := Lib.hid (by
          rw [← HPE.out, HDR.out, sLnE_stop hev, hx, HPP.out]
          rfl)
        have hvg : (Value.slice A1 us.length ca1).ownBlock ≠ some (w.heap.size + 1 + 1) := own_ne H3.out.u H3.out.gB
        have hvo : ∀ X, X < (w.heap.size + 1 + 1 + 1) → (Value.slice A1 us.length ca1).ownBlock ≠ some X := fun X hX e => by have := (own_lt H3.out.u X e).1; omega
        have hC0 : ∀ w', SG wo (w.heap.size + 1 + 1) 1 (.slice A1 us.length ca1) w' → w'.cell? ⟨w.heap.size, 0, none⟩ = some (.slice A ss.length ca) := fun w' h => ((Same.of_blk (h.keep w.heap.size (by omega) (by omega) (hvo _ (by omega)))) 0).1.trans HNW.out
        have hCP : ∀ w', SG wo (w.heap.size + 1 + 1) 1 (.slice A1 us.length ca1) w' → w'.cell? ⟨b, o + k, none⟩ = some (.string p) := fun w' h => ((Same.of_blk (h.keep b (by omega) (by omega) (hvo _ (by omega)))) _).1.trans HCP.out
        have hCA : ∀ w', SG wo (w.heap.size + 1 + 1) 1 (.slice A1 us.length ca1) w' → StrsIn w' (Zone.below w.heap.size) A ss := fun w' h => HA3.out.keep fun c hc => (have hc' : c < w.heap.size := hc; Same.of_blk (h.keep c (by omega) (by omega) (hvo _ (by omega))))
        clear hev hx
        go_upto_region 6 with fail
        refine wp_region_held_drew (S := fun w' => SG wo (w.heap.size + 1 + 1) 1 (.slice A1 us.length ca1) w') (by kernel_rfl) (SG.drew (SG.refl _ _ _ _)) (fun hHeld => ?_)
        refine wpAnyH_take (i := 0) (v := ?_) rfl (by kernel_rfl) (by kernel_rfl) (by kernel_rfl) (fun _ _ _ h => h) (Or.inl ⟨by rfl, ?_⟩) hHeld ?_
        rotate_left 1
        · intro w hSw; (try dsimp only at hSw); first | (go_simp; done) | (go_simp; with_reducible rfl) | (go_simp; rfl)
        try simp only [Act.put, List.getElem_toArray, List.getElem_cons_succ, List.getElem_cons_zero, List.setIfInBounds_toArray, List.set_cons_zero, List.set_cons_succ]
        refine wpAnyH_take (i := 2) (v := ?_) rfl (by kernel_rfl) (by kernel_rfl) (by kernel_rfl) (fun _ _ _ h => h) (Or.inl ⟨by rfl, ?_⟩) hHeld ?_
        rotate_left 1
        · intro w hSw; (try dsimp only at hSw); first | (go_simp; done) | (go_simp; with_reducible rfl) | (go_simp; rfl)
        try simp only [Act.put, List.getElem_toArray, List.getElem_cons_succ, List.getElem_cons_zero, List.setIfInBounds_toArray, List.set_cons_zero, List.set_cons_succ]
        refine wpAnyH_take (i := 3) (v := ?_) rfl (by kernel_rfl) (by kernel_rfl) (by kernel_rfl) (fun _ _ _ h => h) (Or.inl ⟨by rfl, ?_⟩) hHeld ?_
        rotate_left 1
        · intro w hSw; (try dsimp only at hSw); first | (go_simp; done) | (go_simp; with_reducible rfl) | (go_simp; rfl)
        try simp only [Act.put, List.getElem_toArray, List.getElem_cons_succ, List.getElem_cons_zero, List.setIfInBounds_toArray, List.set_cons_zero, List.set_cons_succ]
        refine wpAnyH_take (i := 4) (v := ?_) rfl (by kernel_rfl) (by kernel_rfl) (by kernel_rfl) (fun _ _ _ h => h) (Or.inl ⟨by rfl, ?_⟩) hHeld ?_
        rotate_left 1
        · intro w hSw; (try dsimp only at hSw); first | (go_simp; done) | (go_simp; with_reducible rfl) | (go_simp; rfl)
        try simp only [Act.put, List.getElem_toArray, List.getElem_cons_succ, List.getElem_cons_zero, List.setIfInBounds_toArray, List.set_cons_zero, List.set_cons_succ]
        refine wpAnyH_take (i := 5) (v := ?_) rfl (by kernel_rfl) (by kernel_rfl) (by kernel_rfl) (fun _ _ _ h => h) (Or.inl ⟨by rfl, ?_⟩) hHeld ?_
        rotate_left 1
        · intro w hSw; (try dsimp only at hSw); first | (go_simp; done) | (go_simp; with_reducible rfl) | (go_simp; rfl)
        try simp only [Act.put, List.getElem_toArray, List.getElem_cons_succ, List.getElem_cons_zero, List.setIfInBounds_toArray, List.set_cons_zero, List.set_cons_succ]
        refine wpAnyH_take (i := 6) (v := ?_) rfl (by kernel_rfl) (by kernel_rfl) (by kernel_rfl) (fun _ _ _ h => h) (Or.inl ⟨by rfl, ?_⟩) hHeld ?_
        rotate_left 1
        · intro w hSw; (try dsimp only at hSw); first | (go_simp; done) | (go_simp; with_reducible rfl) | (go_simp; rfl)
        try simp only [Act.put, List.getElem_toArray, List.getElem_cons_succ, List.getElem_cons_zero, List.setIfInBounds_toArray, List.set_cons_zero, List.set_cons_succ]
        refine wpAnyH_take (i := 7) (v := ?_) rfl (by kernel_rfl) (by kernel_rfl) (by kernel_rfl) (fun _ _ _ h => h) (Or.inl ⟨by rfl, ?_⟩) hHeld ?_
        rotate_left 1
        · intro w hSw; (try dsimp only at hSw); first | (go_simp; done) | (go_simp; with_reducible rfl) | (go_simp; rfl)
        try simp only [Act.put, List.getElem_toArray, List.getElem_cons_succ, List.getElem_cons_zero, List.setIfInBounds_toArray, List.set_cons_zero, List.set_cons_succ]
        refine wpAnyH_ready (rs := [1, 8]) (by kernel_rfl) (by simp) ?_
        refine AllReadyH.cons rfl (fun K hK => ?_) (AllReadyH.cons rfl (fun K hK => ?_) (AllReadyH.nil))
        · go_simp
          refine hK.out _ _ ?_ (fun hHeld => ?_)
          · repeat' first | assumption | exact SG.refl _ _ _ _ | (refine SG.drew ?_) | (refine SG.alloc ?_ hgz _) | (refine SG.set ?_ _)
          clear hK K
          try simp only [Act.put, List.getElem_toArray, List.getElem_cons_succ, List.getElem_cons_zero, List.setIfInBounds_toArray, List.set_cons_zero, List.set_cons_succ]
          refine wpAnyH_ready (rs := [8]) (by kernel_rfl) (by simp) ?_
          refine AllReadyH.cons rfl (fun K hK => ?_) (AllReadyH.nil)
          go_simp
          refine (l2FindE A ca ss p _ _ (hCA _ hHeld) hn).mono ?_
          rintro e w5 ⟨rfl, hw5⟩
          subst hw5
          rw [← HX.out]
          refine hK.out _ _ ?_ (fun hHeld => ?_)
          · repeat' first | assumption | exact SG.refl _ _ _ _ | (refine SG.drew ?_) | (refine SG.alloc ?_ hgz _) | (refine SG.set ?_ _)
          clear hK K
          try simp only [Act.put, List.getElem_toArray, List.getElem_cons_succ, List.getElem_cons_zero, List.setIfInBounds_toArray, List.set_cons_zero, List.set_cons_succ]
          refine wpAnyH_ready (rs := [9]) (by kernel_rfl) (by simp) ?_
          refine AllReadyH.cons rfl (fun K hK => ?_) (AllReadyH.nil)
          go_simp
          refine hK.out _ _ ?_ (fun hHeld => ?_)
          · repeat' first | assumption | exact SG.refl _ _ _ _ | (refine SG.drew ?_) | (refine SG.alloc ?_ hgz _) | (refine SG.set ?_ _)
          clear hK K
          try simp only [Act.put, List.getElem_toArray, List.getElem_cons_succ, List.getElem_cons_zero, List.setIfInBounds_toArray, List.set_cons_zero, List.set_cons_succ]
          refine wpAnyH_ready (rs := [10]) (by kernel_rfl) (by simp) ?_
          refine AllReadyH.cons rfl (fun K hK => ?_) (AllReadyH.nil)
          refine step_appsX (enc := encI) (by rfl) _ _ 45 (by rfl) 8 Tryd.underlying45 his hsz0 hsz1 hsz2 rfl (by omega) (fun _ => rfl) (fun y u hu => by simp [encI] at hu; subst hu; rfl) (by omega) (w.heap.size + 1 + 1 + 1) _ us x _ (OwnE.call H3.out.u (bel_alloc (bel_drew (Below.refl wo.heap.size wo)) _)) (by rfl) _ (by rfl) (one_cellI (by go_simp)) e1 (by simp; omega) ?_
          intro v8 w8 ho8 hb8 hg8 hat8
          have hS8 := SG.grown hHeld hg8 hgz hvg
          have hV8 : w8.cell? ⟨(w.heap.size + 1 + 1), 1, none⟩ = some (.slice A1 us.length ca1) := ((Same.of_blk (hg8.block (w.heap.size + 1 + 1) (by simp; omega) (fun e => hvg e.symm))) 1).1.trans (by go_simp)
          have hF8 : w8.frozen? ⟨(w.heap.size + 1 + 1), 1, none⟩ = false := (hS8.free 1).trans cf1
          obtain ⟨A8, n8, c8, rfl⟩ := own_formQ ho8
          refine hK.out _ _ ?_ (fun hHeld => ?_)
          · repeat' first | assumption | exact SG.refl _ _ _ _ | (refine SG.drew ?_) | (refine SG.alloc ?_ hgz _) | (refine SG.set ?_ _)
          clear hK K
          try simp only [Act.put, List.getElem_toArray, List.getElem_cons_succ, List.getElem_cons_zero, List.setIfInBounds_toArray, List.set_cons_zero, List.set_cons_succ]
          refine wpAnyH_take (i := 11) (v := ?_) rfl (by kernel_rfl) (by kernel_rfl) (by kernel_rfl) (fun _ _ _ h => h) (Or.inl ⟨by rfl, ?_⟩) hHeld ?_
          rotate_left 1
          · intro w hSw; (try dsimp only at hSw); first | (go_simp; done) | (go_simp; with_reducible rfl) | (go_simp; rfl)
          try simp only [Act.put, List.getElem_toArray, List.getElem_cons_succ, List.getElem_cons_zero, List.setIfInBounds_toArray, List.set_cons_zero, List.set_cons_succ]
          refine wpAnyH_ready (rs := [12]) (by kernel_rfl) (by simp) ?_
          refine AllReadyH.cons rfl (fun K hK => ?_) (AllReadyH.nil)
          go_simp
          refine hK.out _ _ ?_ (fun hHeld => ?_)
          · repeat' first | assumption | exact SG.refl _ _ _ _ | (refine SG.drew ?_) | (refine SG.alloc ?_ hgz _) | (refine SG.set ?_ _)
          clear hK K
          try simp only [Act.put, List.getElem_toArray, List.getElem_cons_succ, List.getElem_cons_zero, List.setIfInBounds_toArray, List.set_cons_zero, List.set_cons_succ]
          refine wpAnyH_done (by kernel_rfl) ?_ _
          have HST := Lib.hid (H3.out.addU (y := x) ho8 (Grew.of_grown (bel_alloc (bel_drew (Below.refl wo.heap.size wo)) _) hg8 hat8))
          have hka : Below wo.heap.size wo (wo.drew.alloc (.cells #[.int .i64 x] 3)) := (bel_alloc (bel_drew (Below.refl wo.heap.size wo)) _)
          have hkb := ((HK3.out.trans (hka.mono (Nat.le_of_lt hgz))).trans (hb8.mono (Nat.le_succ (w.heap.size + 1 + 1))))
          have HKE := Lib.hid (hkb.setCell (p := ⟨(w.heap.size + 1 + 1), 1, none⟩) (Nat.le_refl _) (.slice A8 n8 c8))
          clear hka hkb hS8 hV8 hF8 ho8 hb8 hg8 hat8 hHeld hC0 hCP hCA c0 c1 c2 cf1 cf2
          go_wp2_with fail
          go_roundw
          case rel => exact ⟨k + 1, us ++ [x], vs, _, _, by go_num, by omega, by omega, by simp; omega, HP2.out, HKE.out, HST.out⟩
          case measure => simp [intOf]; omega
        · go_simp
          refine (l2FindE A ca ss p _ _ (hCA _ hHeld) hn).mono ?_
          rintro e w5 ⟨rfl, hw5⟩
          subst hw5
          rw [← HX.out]
          refine hK.out _ _ ?_ (fun hHeld => ?_)
          · repeat' first | assumption | exact SG.refl _ _ _ _ | (refine SG.drew ?_) | (refine SG.alloc ?_ hgz _) | (refine SG.set ?_ _)
          clear hK K
          try simp only [Act.put, List.getElem_toArray, List.getElem_cons_succ, List.getElem_cons_zero, List.setIfInBounds_toArray, List.set_cons_zero, List.set_cons_succ]
          refine wpAnyH_ready (rs := [1, 9]) (by kernel_rfl) (by simp) ?_
          refine AllReadyH.cons rfl (fun K hK => ?_) (AllReadyH.cons rfl (fun K hK => ?_) (AllReadyH.nil))
          · go_simp
            refine hK.out _ _ ?_ (fun hHeld => ?_)
            · repeat' first | assumption | exact SG.refl _ _ _ _ | (refine SG.drew ?_) | (refine SG.alloc ?_ hgz _) | (refine SG.set ?_ _)
            clear hK K
            try simp only [Act.put, List.getElem_toArray, List.getElem_cons_succ, List.getElem_cons_zero, List.setIfInBounds_toArray, List.set_cons_zero, List.set_cons_succ]
            refine wpAnyH_ready (rs := [9]) (by kernel_rfl) (by simp) ?_
            refine AllReadyH.cons rfl (fun K hK => ?_) (AllReadyH.nil)
            go_simp
            refine hK.out _ _ ?_ (fun hHeld => ?_)
            · repeat' first | assumption | exact SG.refl _ _ _ _ | (refine SG.drew ?_) | (refine SG.alloc ?_ hgz _) | (refine SG.set ?_ _)
            clear hK K
            try simp only [Act.put, List.getElem_toArray, List.getElem_cons_succ, List.getElem_cons_zero, List.setIfInBounds_toArray, List.set_cons_zero, List.set_cons_succ]
            refine wpAnyH_ready (rs := [10]) (by kernel_rfl) (by simp) ?_
            refine AllReadyH.cons rfl (fun K hK => ?_) (AllReadyH.nil)
            refine step_appsX (enc := encI) (by rfl) _ _ 45 (by rfl) 8 Tryd.underlying45 his hsz0 hsz1 hsz2 rfl (by omega) (fun _ => rfl) (fun y u hu => by simp [encI] at hu; subst hu; rfl) (by omega) (w.heap.size + 1 + 1 + 1) _ us x _ (OwnE.call H3.out.u (bel_alloc (bel_drew (Below.refl wo.heap.size wo)) _)) (by rfl) _ (by rfl) (one_cellI (by go_simp)) e1 (by simp; omega) ?_
            intro v8 w8 ho8 hb8 hg8 hat8
            have hS8 := SG.grown hHeld hg8 hgz hvg
            have hV8 : w8.cell? ⟨(w.heap.size + 1 + 1), 1, none⟩ = some (.slice A1 us.length ca1) := ((Same.of_blk (hg8.block (w.heap.size + 1 + 1) (by simp; omega) (fun e => hvg e.symm))) 1).1.trans (by go_simp)
            have hF8 : w8.frozen? ⟨(w.heap.size + 1 + 1), 1, none⟩ = false := (hS8.free 1).trans cf1
            obtain ⟨A8, n8, c8, rfl⟩ := own_formQ ho8
            refine hK.out _ _ ?_ (fun hHeld => ?_)
            · repeat' first | assumption | exact SG.refl _ _ _ _ | (refine SG.drew ?_) | (refine SG.alloc ?_ hgz _) | (refine SG.set ?_ _)
            clear hK K
            try simp only [Act.put, List.getElem_toArray, List.getElem_cons_succ, List.getElem_cons_zero, List.setIfInBounds_toArray, List.set_cons_zero, List.set_cons_succ]
            refine wpAnyH_take (i := 11) (v := ?_) rfl (by kernel_rfl) (by kernel_rfl) (by kernel_rfl) (fun _ _ _ h => h) (Or.inl ⟨by rfl, ?_⟩) hHeld ?_
            rotate_left 1
            · intro w hSw; (try dsimp only at hSw); first | (go_simp; done) | (go_simp; with_reducible rfl) | (go_simp; rfl)
            try simp only [Act.put, List.getElem_toArray, List.getElem_cons_succ, List.getElem_cons_zero, List.setIfInBounds_toArray, List.set_cons_zero, List.set_cons_succ]
            refine wpAnyH_ready (rs := [12]) (by kernel_rfl) (by simp) ?_
            refine AllReadyH.cons rfl (fun K hK => ?_) (AllReadyH.nil)
            go_simp
            refine hK.out _ _ ?_ (fun hHeld => ?_)
            · repeat' first | assumption | exact SG.refl _ _ _ _ | (refine SG.drew ?_) | (refine SG.alloc ?_ hgz _) | (refine SG.set ?_ _)
            clear hK K
            try simp only [Act.put, List.getElem_toArray, List.getElem_cons_succ, List.getElem_cons_zero, List.setIfInBounds_toArray, List.set_cons_zero, List.set_cons_succ]
            refine wpAnyH_done (by kernel_rfl) ?_ _
            have HST := Lib.hid (H3.out.addU (y := x) ho8 (Grew.of_grown (bel_alloc (bel_drew (Below.refl wo.heap.size wo)) _) hg8 hat8))
            have hka : Below wo.heap.size wo (wo.drew.alloc (.cells #[.int .i64 x] 3)) := (bel_alloc (bel_drew (Below.refl wo.heap.size wo)) _)
            have hkb := ((HK3.out.trans (hka.mono (Nat.le_of_lt hgz))).trans (hb8.mono (Nat.le_succ (w.heap.size + 1 + 1))))
            have HKE := Lib.hid (hkb.setCell (p := ⟨(w.heap.size + 1 + 1), 1, none⟩) (Nat.le_refl _) (.slice A8 n8 c8))
            clear hka hkb hS8 hV8 hF8 ho8 hb8 hg8 hat8 hHeld hC0 hCP hCA c0 c1 c2 cf1 cf2
            go_wp2_with fail
            go_roundw
            case rel => exact ⟨k + 1, us ++ [x], vs, _, _, by go_num, by omega, by omega, by simp; omega, HP2.out, HKE.out, HST.out⟩
            case measure => simp [intOf]; omega
          · go_simp
            refine hK.out _ _ ?_ (fun hHeld => ?_)
            · repeat' first | assumption | exact SG.refl _ _ _ _ | (refine SG.drew ?_) | (refine SG.alloc ?_ hgz _) | (refine SG.set ?_ _)
            clear hK K
            try simp only [Act.put, List.getElem_toArray, List.getElem_cons_succ, List.getElem_cons_zero, List.setIfInBounds_toArray, List.set_cons_zero, List.set_cons_succ]
            refine wpAnyH_ready (rs := [1]) (by kernel_rfl) (by simp) ?_
            refine AllReadyH.cons rfl (fun K hK => ?_) (AllReadyH.nil)
            go_simp
            refine hK.out _ _ ?_ (fun hHeld => ?_)
            · repeat' first | assumption | exact SG.refl _ _ _ _ | (refine SG.drew ?_) | (refine SG.alloc ?_ hgz _) | (refine SG.set ?_ _)
            clear hK K
            try simp only [Act.put, List.getElem_toArray, List.getElem_cons_succ, List.getElem_cons_zero, List.setIfInBounds_toArray, List.set_cons_zero, List.set_cons_succ]
            refine wpAnyH_ready (rs := [10]) (by kernel_rfl) (by simp) ?_
            refine AllReadyH.cons rfl (fun K hK => ?_) (AllReadyH.nil)
            refine step_appsX (enc := encI) (by rfl) _ _ 45 (by rfl) 8 Tryd.underlying45 his hsz0 hsz1 hsz2 rfl (by omega) (fun _ => rfl) (fun y u hu => by simp [encI] at hu; subst hu; rfl) (by omega) (w.heap.size + 1 + 1 + 1) _ us x _ (OwnE.call H3.out.u (bel_alloc (bel_drew (Below.refl wo.heap.size wo)) _)) (by rfl) _ (by rfl) (one_cellI (by go_simp)) e1 (by simp; omega) ?_
            intro v8 w8 ho8 hb8 hg8 hat8
            have hS8 := SG.grown hHeld hg8 hgz hvg
            have hV8 : w8.cell? ⟨(w.heap.size + 1 + 1), 1, none⟩ = some (.slice A1 us.length ca1) := ((Same.of_blk (hg8.block (w.heap.size + 1 + 1) (by simp; omega) (fun e => hvg e.symm))) 1).1.trans (by go_simp)
            have hF8 : w8.frozen? ⟨(w.heap.size + 1 + 1), 1, none⟩ = false := (hS8.free 1).trans cf1
            obtain ⟨A8, n8, c8, rfl⟩ := own_formQ ho8
            refine hK.out _ _ ?_ (fun hHeld => ?_)
            · repeat' first | assumption | exact SG.refl _ _ _ _ | (refine SG.drew ?_) | (refine SG.alloc ?_ hgz _) | (refine SG.set ?_ _)
            clear hK K
            try simp only [Act.put, List.getElem_toArray, List.getElem_cons_succ, List.getElem_cons_zero, List.setIfInBounds_toArray, List.set_cons_zero, List.set_cons_succ]
            refine wpAnyH_take (i := 11) (v := ?_) rfl (by kernel_rfl) (by kernel_rfl) (by kernel_rfl) (fun _ _ _ h => h) (Or.inl ⟨by rfl, ?_⟩) hHeld ?_
            rotate_left 1
            · intro w hSw; (try dsimp only at hSw); first | (go_simp; done) | (go_simp; with_reducible rfl) | (go_simp; rfl)
            try simp only [Act.put, List.getElem_toArray, List.getElem_cons_succ, List.getElem_cons_zero, List.setIfInBounds_toArray, List.set_cons_zero, List.set_cons_succ]
            refine wpAnyH_ready (rs := [12]) (by kernel_rfl) (by simp) ?_
            refine AllReadyH.cons rfl (fun K hK => ?_) (AllReadyH.nil)
            go_simp
            refine hK.out _ _ ?_ (fun hHeld => ?_)
            · repeat' first | assumption | exact SG.refl _ _ _ _ | (refine SG.drew ?_) | (refine SG.alloc ?_ hgz _) | (refine SG.set ?_ _)
            clear hK K
            try simp only [Act.put, List.getElem_toArray, List.getElem_cons_succ, List.getElem_cons_zero, List.setIfInBounds_toArray, List.set_cons_zero, List.set_cons_succ]
            refine wpAnyH_done (by kernel_rfl) ?_ _
            have HST := Lib.hid (H3.out.addU (y := x) ho8 (Grew.of_grown (bel_alloc (bel_drew (Below.refl wo.heap.size wo)) _) hg8 hat8))
            have hka : Below wo.heap.size wo (wo.drew.alloc (.cells #[.int .i64 x] 3)) := (bel_alloc (bel_drew (Below.refl wo.heap.size wo)) _)
            have hkb := ((HK3.out.trans (hka.mono (Nat.le_of_lt hgz))).trans (hb8.mono (Nat.le_succ (w.heap.size + 1 + 1))))
            have HKE := Lib.hid (hkb.setCell (p := ⟨(w.heap.size + 1 + 1), 1, none⟩) (Nat.le_refl _) (.slice A8 n8 c8))
            clear hka hkb hS8 hV8 hF8 ho8 hb8 hg8 hat8 hHeld hC0 hCP hCA c0 c1 c2 cf1 cf2
            go_wp2_with fail
            go_roundw
            case rel => exact ⟨k + 1, us ++ [x], vs, _, _, by go_num, by omega, by omega, by simp; omega, HP2.out, HKE.out, HST.out⟩
            case measure => simp [intOf]; omega
      · have HEV := Lib.hid hev
        have ho1 : ((k : Int) % 2 == 0) = false := by simp; omega
        have hcp := HCP.out
        have HL := l1Read_any p wo (by omega)
        have e9 : p.data.toList = pl := by rw [HPP.out, bs_list]
        rw [e9] at HL
        obtain ⟨x, hx⟩ : ∃ x, x = rdV pl := ⟨_, rfl⟩
        obtain ⟨kx, hkx⟩ : ∃ kx, kx = rdK pl := ⟨_, rfl⟩
        rw [← hx, ← hkx] at HL
        have HL := Lib.hid HL
        have HX := Lib.hid hx
        have HKX := Lib.hid hkx
        clear hx hkx e9 hev c0 c1 c2 cl cf1 cf2
        go_wp2_with fail
        refine HL.out.mono ?_
        rintro e w4 ⟨rfl, q4, hq4⟩
        have H4 := Lib.hid (show LSt w4 (w.heap.size + 1 + 1 + 1) (w.heap.size + 1) (w.heap.size + 1 + 1) nm (.slice A1 us.length ca1) (.slice R1 vs.length cr1) us vs by rw [hq4]; exact H3.out.drewN q4)
        have HK4 := Lib.hid (show Below (w.heap.size + 1 + 1) W2 w4 by rw [hq4]; exact bel_drewN HK3.out q4)
        have HB4 := Lib.hid (HB2.out.trans (HK4.out.mono (show w.heap.size ≤ (w.heap.size + 1 + 1) by omega)))
        have e3 : (w.heap.size + 1 + 1 + 1) ≤ w4.heap.size := by rw [hq4]; exact e2
        clear hq4 hcp
        obtain ⟨c0, c1, c2, cf, cl⟩ := H4.out.c
        have cf2 := cf 2
        clear cf
        cases kx
        · have HR := Lib.hid (HRF.out (sLnE_bad HEV.out HKX.out.symm))
          obtain ⟨z0, z1, z2, zf, zl⟩ := H4.out.z
          have zf0 := zf 0
          have zf1 := zf 1
          have zf2 := zf 2
          go_wp2_with fail
          refine bodyPost_ret (v := .tuple #[.agg #[.string nm, .slice A1 us.length ca1, .slice R1 vs.length cr1], .bool false]) (by simp [results, Tryd.results27, go_sem, z0, z1, z2]) rfl ?_
          refine retLz_part HR.out ?_
          repeat' (refine Below.setCell ?_ (by simp) _)
          exact HB4.out
        · have HP2 : Hid (sLnE ss (k + 1) (ws.drop (k + 1)) ⟨nm, us, vs ++ [x]⟩ = o0) := Lib.hid (by
            rw [← HPE.out, HDR.out, sLnE_num HEV.out HKX.out.symm, ← HX.out]
            rfl)
          go_wp2_with (at_builtin; go_loud (refine wp_appGI rfl _ _ rfl (w.heap.size + 1 + 1 + 1) _ vs x _ H4.out.v rfl _ rfl (by simp) e1v e3 ?_; intro v' w' ho' hb' hs' hat' hz'; obtain ⟨A', n2, c', rfl⟩ := OwnE.formI ho'; have HN := Lib.hid (H4.out.addV ho' (Grew.of_hat hs' hat' hz')); have HB' := Lib.hid (HK4.out.trans (hb'.mono (by omega))); have hcc := H4.out.c.kept (hs' (w.heap.size + 1 + 1) H4.out.c.lt (own_ne H4.out.v H4.out.gB)) hz'; have q2 := hcc.c2; have p2 := hcc.fr 2; have hz8 := Nat.le_trans e3 hz'; clear hcc ho' hb' hs' hat' hz'))
          go_roundw
          case rel => exact ⟨k + 1, us, vs ++ [x], _, _, by go_num, by omega, by omega, by simp; omega, HP2.out, HB'.out.setCell (p := ⟨(w.heap.size + 1 + 1), 2, none⟩) (by simp) _, HN.out⟩
          case measure => simp [intOf]; omega
    · obtain rfl : k = ws.length := by omega
      have HR : Hid (o0 = some ⟨nm, us, vs⟩) := Lib.hid (by
        rw [← HPE.out, List.drop_length]
        rfl)
      obtain ⟨pp, rr, hlz⟩ := H3.out.lz rfl rfl
      have HLZ := Lib.hid hlz
      obtain ⟨z0, z1, z2, zf, zl⟩ := H3.out.z
      have zf0 := zf 0
      have zf1 := zf 1
      have zf2 := zf 2
      clear hlz
      go_wp2_with fail
      refine bodyPost_ret (v := .tuple #[.agg #[.string nm, .slice A1 us.length ca1, .slice R1 vs.length cr1], .bool true]) (by simp [results, Tryd.results27, go_sem, z0, z1, z2]) rfl ?_
      refine retLz_some HR.out (p := pp) (r := rr) (lo := (w.heap.size + 1 + 1 + 1)) (hi := wo.heap.size) ?_ (by omega) (by simp only [size_set]; exact Nat.le_refl _) ?_ rfl
      · repeat' (refine LzAt.set ?_ (by simp) _)
        exact HLZ.out
      · repeat' (refine Below.setCell ?_ (by simp) _)
        exact HB3.out
end Go.Proofs.YtpipegdjflniaaaDoor
