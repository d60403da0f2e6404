/- FitCalendar: the calendar that a call builds up. -/
import Derived.Test.YtpipegdjflniaaaFit
import Derived.Test.YtpipegdjflniaaaKpt
import Derived.Test.YtpipegdjflniaaaArr
import Derived.Test.YtpipegdjflniaaaCor
namespace Go.Proofs.Ytpipegdjflniaaa
open Go.ChangeShapes Go.WideShapes Go.ChangeAt Go.RowKit Go.PlainAid
set_option linter.unusedVariables false
set_option linter.unusedSimpArgs false

theorem l3Regular_in (f t d : Int) (A R : Option Addr) (na ca nr cr : Nat) (day : Int) (w : World) (hin : inB day f t = true) (h0 : 0 ≤ day) (h1 : day ≤ 3650) (h2 : 0 ≤ d) (h3 : d ≤ 127) :
    Calls Try.prog 22 #[.agg #[.int .i64 f, .int .i64 t, .int .i64 d, .slice A na ca, .slice R nr cr], .int .i64 day] w fun e w' => e = .returned (.bool (wdB d day)) ∧ Below w.heap.size w w' :=
  (l3Regular_any f t d A R na ca nr cr day w h0 h1 h2 h3).mono fun e w' ⟨h, h'⟩ => ⟨by rw [h, hin]; rfl, by rw [h']; exact (Below.refl _ _).alloc (Nat.le_refl _) _⟩
/-- A calendar in a block of the call's own. -/
structure FB (w : World) (g : Nat) (f t d : Int) (a r : Value) : Prop where
  c0 : w.cell? ⟨g, 0, none⟩ = some (.int .i64 f)
  c1 : w.cell? ⟨g, 1, none⟩ = some (.int .i64 t)
  c2 : w.cell? ⟨g, 2, none⟩ = some (.int .i64 d)
  c3 : w.cell? ⟨g, 3, none⟩ = some a
  c4 : w.cell? ⟨g, 4, none⟩ = some r
  fr : ∀ j, w.frozen? ⟨g, j, none⟩ = false
  lt : g < w.heap.size
section
variable {w w' : World} {g B : Nat} {f t d : Int} {a r : Value}
theorem FB.kept (h : FB w g f t d a r) (hs : w'.heap[g]? = w.heap[g]?) (hz : w.heap.size ≤ w'.heap.size) : FB w' g f t d a r :=
  have s := Same.of_blk hs
  ⟨(s 0).1.trans h.c0, (s 1).1.trans h.c1, (s 2).1.trans h.c2, (s 3).1.trans h.c3, (s 4).1.trans h.c4, fun j => (s j).2.trans (h.fr j), Nat.lt_of_lt_of_le h.lt hz⟩
theorem FB.below (h : FB w g f t d a r) (hb : Below B w w') (hg : g < B) : FB w' g f t d a r := h.kept (hb.block g hg) hb.size
theorem FB.drewN (h : FB w g f t d a r) (n : Nat) : FB (w.drewN n) g f t d a r := ⟨h.c0, h.c1, h.c2, h.c3, h.c4, h.fr, h.lt⟩
theorem FB.off (h : FB w g f t d a r) {p : Addr} (hp : g ≠ p.block) (u : Value) : FB (w.setCell p u) g f t d a r := h.kept (Below.heap_setCell _ _ _ _ hp) (by rw [size_set]; exact Nat.le_refl _)
theorem FB.setD (h : FB w g f t d a r) (d' : Int) : FB (w.setCell ⟨g, 2, none⟩ (.int .i64 d')) g f t d' a r where
  c0 := by rw [World.cell?_setCell_other _ _ _ _ (addr_ne (by omega))]; exact h.c0
  c1 := by rw [World.cell?_setCell_other _ _ _ _ (addr_ne (by omega))]; exact h.c1
  c2 := World.cell?_setCell_same _ _ _ h.c2
  c3 := by rw [World.cell?_setCell_other _ _ _ _ (addr_ne (by omega))]; exact h.c3
  c4 := by rw [World.cell?_setCell_other _ _ _ _ (addr_ne (by omega))]; exact h.c4
  fr := fun j => by rw [World.frozen?_setCell]; exact h.fr j
  lt := by rw [size_set]; exact h.lt
theorem FB.setA (h : FB w g f t d a r) (a' : Value) : FB (w.setCell ⟨g, 3, none⟩ a') g f t d a' r where
  c0 := by rw [World.cell?_setCell_other _ _ _ _ (addr_ne (by omega))]; exact h.c0
  c1 := by rw [World.cell?_setCell_other _ _ _ _ (addr_ne (by omega))]; exact h.c1
  c2 := by rw [World.cell?_setCell_other _ _ _ _ (addr_ne (by omega))]; exact h.c2
  c3 := World.cell?_setCell_same _ _ _ h.c3
  c4 := by rw [World.cell?_setCell_other _ _ _ _ (addr_ne (by omega))]; exact h.c4
  fr := fun j => by rw [World.frozen?_setCell]; exact h.fr j
  lt := by rw [size_set]; exact h.lt
theorem FB.setR (h : FB w g f t d a r) (r' : Value) : FB (w.setCell ⟨g, 4, none⟩ r') g f t d a r' where
  c0 := by rw [World.cell?_setCell_other _ _ _ _ (addr_ne (by omega))]; exact h.c0
  c1 := by rw [World.cell?_setCell_other _ _ _ _ (addr_ne (by omega))]; exact h.c1
  c2 := by rw [World.cell?_setCell_other _ _ _ _ (addr_ne (by omega))]; exact h.c2
  c3 := by rw [World.cell?_setCell_other _ _ _ _ (addr_ne (by omega))]; exact h.c3
  c4 := World.cell?_setCell_same _ _ _ h.c4
  fr := fun j => by rw [World.frozen?_setCell]; exact h.fr j
  lt := by rw [size_set]; exact h.lt
theorem ArrI.off {n : Nat} {F : Nat → Int} (h : ArrI w g n F) {p : Addr} (hp : g ≠ p.block) (u : Value) : ArrI (w.setCell p u) g n F :=
  have s := Same.of_blk (Below.heap_setCell w p u g hp)
  ⟨fun j hj => (s j).1.trans (h.cells j hj), fun j => (s j).2.trans (h.free j), by rw [size_set]; exact h.lt⟩
theorem OwnE.off {α : Type} {e : TypeId} {m : Nat} {enc : α → List Value} {v : Value} {xs : List α} (h : OwnE e m enc w B v xs) {p : Addr} (hp : v.ownBlock ≠ some p.block) (u : Value) : OwnE e m enc (w.setCell p u) B v xs :=
  h.kept fun X hX => Below.heap_setCell _ _ _ _ (fun e => hp (by rw [← e]; exact hX))
end
/-- A calendar, its two slices, and the block of the result, still empty. -/
structure FSt (w : World) (B r0 g : Nat) (f t d : Int) (va vb : Value) (us vs : List Int) : Prop where
  c : FB w g f t d va vb
  z : FB w r0 0 0 0 (.slice none 0 0) (.slice none 0 0)
  u : OwnI w B va us
  v : OwnI w B vb vs
  ap : ∀ X, va.ownBlock = some X → vb.ownBlock ≠ some X
  ga : va.ownBlock ≠ some g
  gb : vb.ownBlock ≠ some g
  ra : va.ownBlock ≠ some r0
  rb : vb.ownBlock ≠ some r0
section
variable {w w' : World} {B r0 g : Nat} {f t d y : Int} {va vb v' : Value} {us vs : List Int}
theorem FSt.drewN (h : FSt w B r0 g f t d va vb us vs) (n : Nat) : FSt (w.drewN n) B r0 g f t d va vb us vs := ⟨h.c.drewN n, h.z.drewN n, h.u, h.v, h.ap, h.ga, h.gb, h.ra, h.rb⟩
theorem FSt.call (h : FSt w B r0 g f t d va vb us vs) (hb : Below w.heap.size w w') : FSt w' B r0 g f t d va vb us vs :=
  ⟨h.c.below hb h.c.lt, h.z.below hb h.z.lt, h.u.call hb, h.v.call hb, h.ap, h.ga, h.gb, h.ra, h.rb⟩
theorem hat_ne {w : World} {v v' : Value} {X : Nat} (hat : v'.ownBlock = v.ownBlock ∨ v'.ownBlock = some (w.heap.size + 1)) (h : v.ownBlock ≠ some X) (hX : X < w.heap.size) : v'.ownBlock ≠ some X := by
  intro e
  rcases hat with q | q
  · rw [q] at e; exact h e
  · rw [q] at e; simp at e; omega
theorem FSt.addU (h : FSt w B r0 g f t d va vb us vs) (hgr : r0 ≠ g) (ho : OwnI w' B v' (us ++ [y])) (hs : ∀ X, X < w.heap.size → va.ownBlock ≠ some X → w'.heap[X]? = w.heap[X]?) (hat : v'.ownBlock = va.ownBlock ∨ v'.ownBlock = some (w.heap.size + 1)) (hz : w.heap.size ≤ w'.heap.size) :
    FSt (w'.setCell ⟨g, 3, none⟩ v') B r0 g f t d v' vb (us ++ [y]) vs where
  c := (h.c.kept (hs g h.c.lt h.ga) hz).setA _
  z := (h.z.kept (hs r0 h.z.lt h.ra) hz).off (p := ⟨g, 3, none⟩) hgr _
  u := ho.off (p := ⟨g, 3, none⟩) (hat_ne hat h.ga h.c.lt) _
  v := (h.v.kept fun X hX => hs X (World.ownsRow.lt h.v X hX).2 (fun e => h.ap X e hX)).off (p := ⟨g, 3, none⟩) h.gb _
  ap := fun X hX e => hat_ne hat (fun e2 => h.ap X e2 e) (World.ownsRow.lt h.v X e).2 hX
  ga := hat_ne hat h.ga h.c.lt
  gb := h.gb
  ra := hat_ne hat h.ra h.z.lt
  rb := h.rb
theorem FSt.addV (h : FSt w B r0 g f t d va vb us vs) (hgr : r0 ≠ g) (ho : OwnI w' B v' (vs ++ [y])) (hs : ∀ X, X < w.heap.size → vb.ownBlock ≠ some X → w'.heap[X]? = w.heap[X]?) (hat : v'.ownBlock = vb.ownBlock ∨ v'.ownBlock = some (w.heap.size + 1)) (hz : w.heap.size ≤ w'.heap.size) :
    FSt (w'.setCell ⟨g, 4, none⟩ v') B r0 g f t d va v' us (vs ++ [y]) where
  c := (h.c.kept (hs g h.c.lt h.gb) hz).setR _
  z := (h.z.kept (hs r0 h.z.lt h.rb) hz).off (p := ⟨g, 4, none⟩) hgr _
  u := (h.u.kept fun X hX => hs X (World.ownsRow.lt h.u X hX).2 (fun e => h.ap X hX e)).off (p := ⟨g, 4, none⟩) h.ga _
  v := ho.off (p := ⟨g, 4, none⟩) (hat_ne hat h.gb h.c.lt) _
  ap := fun X hX e => hat_ne hat (fun e2 => h.ap X hX e2) (World.ownsRow.lt h.u X hX).2 e
  ga := h.ga
  gb := hat_ne hat h.gb h.c.lt
  ra := h.ra
  rb := hat_ne hat h.rb h.z.lt
theorem FSt.setD (h : FSt w B r0 g f t d va vb us vs) (hgr : r0 ≠ g) (d' : Int) : FSt (w.setCell ⟨g, 2, none⟩ (.int .i64 d')) B r0 g f t d' va vb us vs :=
  ⟨h.c.setD d', h.z.off (p := ⟨g, 2, none⟩) hgr _, h.u.off (p := ⟨g, 2, none⟩) h.ga _, h.v.off (p := ⟨g, 2, none⟩) h.gb _, h.ap, h.ga, h.gb, h.ra, h.rb⟩
theorem OwnE.form {v : Value} {xs : List Int} (h : OwnI w B v xs) : ∃ A n c, v = .slice A n c := by
  obtain ⟨A, c, e, _⟩ := h.ints
  exact ⟨A, _, c, e⟩
/-- Two slices of the call's own that lie apart. -/
theorem own_only {v : Value} {xs : List Int} {A : Option Addr} {c : Nat} (h : OwnI w B v xs) (e : v = .slice A xs.length c) : ∃ a, IntsIn w (Zone.only a) A xs ∧ (0 < xs.length → B ≤ a ∧ a < w.heap.size ∧ v.ownBlock = some a) := by
  by_cases h0 : 0 < xs.length
  · obtain ⟨A', c', e', _, _, hi⟩ := h.ints
    obtain ⟨b, o, e2, hz, hf, hc⟩ := hi h0
    have hAA : A = A' := by rw [e] at e'; simp at e'; exact e'.1
    subst hAA
    refine ⟨b, fun _ => ⟨b, o, e2, ⟨Nat.le_refl _, Nat.lt_succ_self _⟩, hf, hc⟩, fun _ => ⟨hz.1, hz.2, by rw [e, e2]; rfl⟩⟩
  · exact ⟨0, fun h => absurd h h0, fun h => absurd h h0⟩
theorem FSt.calO {A R : Option Addr} {ca cr lo : Nat} (h : FSt w B r0 g f t d va vb us vs) (ea : va = .slice A us.length ca) (er : vb = .slice R vs.length cr) (hlo : lo ≤ B) : CalO w lo w.heap.size A R us vs := by
  obtain ⟨a, ha, ha0⟩ := own_only h.u ea
  obtain ⟨b, hb, hb0⟩ := own_only h.v er
  exact ⟨a, b, ha, hb, fun hx => by have := ha0 hx; omega, fun hx => by have := hb0 hx; omega, fun hx hy e => by
    subst e
    exact h.ap a (ha0 hx).2.2 (hb0 hy).2.2⟩
end
/-- The program's counts behind k days. -/
structure FArr (w wr : World) (r0 g1 g2 : Nat) (xs : List Int) (f : Int) (k : Nat) : Prop where
  yes : ArrI wr g1 7 (fun j => ((fgN xs f true j k : Nat) : Int))
  no : ArrI wr g2 7 (fun j => ((fgN xs f false j k : Nat) : Int))
  z : FB wr r0 0 0 0 (.slice none 0 0) (.slice none 0 0)
  bel : Below w.heap.size w wr
section
variable {w wr w' : World} {r0 g1 g2 : Nat} {xs : List Int} {f : Int} {k m : Nat}
theorem fgN_at {b : Bool} (hm : (f + k) % 7 = m) (hh : hasB xs (f + k) = b) (j : Nat) : (if j = m then ((fgN xs f b m k : Nat) : Int) + 1 else ((fgN xs f b j k : Nat) : Int)) = ((fgN xs f b j (k + 1) : Nat) : Int) := by
  by_cases e : j = m
  · subst e; rw [if_pos rfl, fgN_yes hm hh]; omega
  · rw [if_neg e, fgN_off (by omega)]
theorem FArr.stepY (h : FArr w wr r0 g1 g2 xs f k) (hm : (f + k) % 7 = m) (hm7 : m < 7) (hh : hasB xs (f + k) = true) (h1 : w.heap.size ≤ g1) (h12 : g2 ≠ g1) (hr : r0 ≠ g1) :
    FArr w (wr.setCell ⟨g1, m, none⟩ (.int .i64 (((fgN xs f true m k : Nat) : Int) + 1))) r0 g1 g2 xs f (k + 1) where
  yes := (h.yes.set hm7 _).congr fun j _ => fgN_at hm hh j
  no := (h.no.off (p := ⟨g1, m, none⟩) h12 _).congr fun j _ => by rw [fgN_not (b := false) (by rw [hh]; simp)]
  z := h.z.off (p := ⟨g1, m, none⟩) hr _
  bel := h.bel.setCell (p := ⟨g1, m, none⟩) h1 _
theorem FArr.stepN (h : FArr w wr r0 g1 g2 xs f k) (hm : (f + k) % 7 = m) (hm7 : m < 7) (hh : hasB xs (f + k) = false) (h2 : w.heap.size ≤ g2) (h12 : g1 ≠ g2) (hr : r0 ≠ g2) :
    FArr w (wr.setCell ⟨g2, m, none⟩ (.int .i64 (((fgN xs f false m k : Nat) : Int) + 1))) r0 g1 g2 xs f (k + 1) where
  no := (h.no.set hm7 _).congr fun j _ => fgN_at hm hh j
  yes := (h.yes.off (p := ⟨g2, m, none⟩) h12 _).congr fun j _ => by rw [fgN_not (b := true) (by rw [hh]; simp)]
  z := h.z.off (p := ⟨g2, m, none⟩) hr _
  bel := h.bel.setCell (p := ⟨g2, m, none⟩) h2 _
theorem FArr.off (h : FArr w wr r0 g1 g2 xs f k) {p : Addr} (h1 : g1 ≠ p.block) (h2 : g2 ≠ p.block) (hr : r0 ≠ p.block) (hw : w.heap.size ≤ p.block) (u : Value) : FArr w (wr.setCell p u) r0 g1 g2 xs f k :=
  ⟨h.yes.off h1 _, h.no.off h2 _, h.z.off hr _, h.bel.setCell hw _⟩
theorem FArr.call (h : FArr w wr r0 g1 g2 xs f k) (hb : Below wr.heap.size wr w') : FArr w w' r0 g1 g2 xs f k :=
  ⟨h.yes.call hb, h.no.call hb, h.z.below hb h.z.lt, h.bel.trans (hb.mono h.bel.size)⟩
theorem FArr.drewN (h : FArr w wr r0 g1 g2 xs f k) (n : Nat) : FArr w (wr.drewN n) r0 g1 g2 xs f k := ⟨h.yes.drewN n, h.no.drewN n, h.z.drewN n, bel_drewN h.bel n⟩
end
theorem arr7 (w : World) (T : TypeId) (xs : List Int) (f : Int) (b : Bool) : ArrI (w.alloc (.cells #[.int .i64 0, .int .i64 0, .int .i64 0, .int .i64 0, .int .i64 0, .int .i64 0, .int .i64 0] T)) w.heap.size 7 (fun j => ((fgN xs f b j 0 : Nat) : Int)) :=
  have h := (ArrI.made w 7 T).congr (G := fun j => ((fgN xs f b j 0 : Nat) : Int)) fun _ _ => rfl
  by rw [show madeCells #[Value.int .i64 0] 7 = #[Value.int .i64 0, Value.int .i64 0, Value.int .i64 0, Value.int .i64 0, Value.int .i64 0, Value.int .i64 0, Value.int .i64 0] from by kernel_rfl] at h; exact h
theorem CalO.set {w : World} {lo hi : Nat} {A R : Option Addr} {us vs : List Int} {p : Addr} (h : CalO w lo hi A R us vs) (hp : p.block < lo) (u : Value) : CalO (w.setCell p u) lo hi A R us vs :=
  h.keep fun c hc => Same.set w (by omega) u
/-- What it hands back where it says yes. -/
theorem retCalY {xs : List Int} {f t : Int} {D k lo : Nat} {A R : Option Addr} {ca cr : Nat} {w0 w : World} (hk : k = fcN f t) (hD : D = fwN xs f k 7) (h : fcB xs f t = true) (hc : CalO w lo w.heap.size A R (fxL xs f D true k) (fxL xs f D false k)) (hl : w0.heap.size ≤ lo) (hb : Below w0.heap.size w0 w) :
    RetCal (fcI xs f t f) (fcI xs f t t) (fcI xs f t (fcD0 xs f t)) (fcX xs f t true) (fcX xs f t false) (fcB xs f t) w0 (.returned (.tuple #[.agg #[.int .i64 f, .int .i64 t, .int .i64 D, .slice A (fxL xs f D true k).length ca, .slice R (fxL xs f D false k).length cr], .bool true])) w := by
  have e0 : fcD0 xs f t = D := by unfold fcD0; rw [← hk, ← hD]
  have e1 : ∀ b, fcX xs f t b = fxL xs f D b k := fun b => by rw [fcX_y h]; unfold fcX0; rw [e0, ← hk]
  rw [fcI_y h, fcI_y h, fcI_y h, e1, e1, e0, h]
  exact ⟨A, ca, R, cr, rfl, hc.wide hl (Nat.le_refl _), hb⟩
theorem fcB_no {xs : List Int} {f t : Int} {D k : Nat} (hk : k = fcN f t) (hD : D = fwN xs f k 7) (h : calB f t D (fxL xs f D true k) (fxL xs f D false k) = false) : fcB xs f t = false := by
  have e0 : fcD0 xs f t = D := by unfold fcD0; rw [← hk, ← hD]
  refine fcB_c ?_
  unfold fcX0
  rw [e0, ← hk]
  exact h
theorem fcB_yes {xs : List Int} {f t : Int} {D k : Nat} (hk : k = fcN f t) (hD : D = fwN xs f k 7) (h0 : fcH xs f t = true) (h : calB f t D (fxL xs f D true k) (fxL xs f D false k) = true) : fcB xs f t = true := by
  have e0 : fcD0 xs f t = D := by unfold fcD0; rw [← hk, ← hD]
  refine fcB_y h0 ?_
  unfold fcX0
  rw [e0, ← hk]
  exact h
theorem FSt.zero {w : World} {B r0 g : Nat} {f t d : Int} (hc : FB w g f t d (.slice none 0 0) (.slice none 0 0)) (hz : FB w r0 0 0 0 (.slice none 0 0) (.slice none 0 0)) : FSt w B r0 g f t d (.slice none 0 0) (.slice none 0 0) [] [] :=
  ⟨hc, hz, OwnE.nil, OwnE.nil, fun X hX => by simp [Value.ownBlock] at hX, by simp [Value.ownBlock], by simp [Value.ownBlock], by simp [Value.ownBlock], by simp [Value.ownBlock]⟩
/-- What FitCalendar hands back where it says no. -/
theorem retCalN {xs : List Int} {f t d : Int} {w0 w : World} (h : fcB xs f t = false) (hb : Below w0.heap.size w0 w) :
    RetCal (fcI xs f t f) (fcI xs f t t) (fcI xs f t d) (fcX xs f t true) (fcX xs f t false) (fcB xs f t) w0 (.returned (.tuple #[.agg #[.int .i64 0, .int .i64 0, .int .i64 0, .slice none 0 0, .slice none 0 0], .bool false])) w := by
  rw [fcI_n h, fcI_n h, fcI_n h, fcX_n h, fcX_n h, h]
  exact ⟨none, 0, none, 0, rfl, CalO.nil, hb⟩
end Go.Proofs.Ytpipegdjflniaaa
