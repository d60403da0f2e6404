/- The reference's own network: what its loop keeps. -/
import Derived.Test.YtambgommeannnaaNoe
import Derived.Maps.AppendAt
namespace Go.Proofs.Ytambgommeannnaa
open Go.ChangeShapes Go.WideShapes Go.ChangeAt Go.RowKit Go.PlainAid
set_option linter.unusedVariables false
set_option linter.unusedSimpArgs false

/-- step_apps, and which block is the slice's then. -/
theorem step_appsG {α : Type} {e : TypeId} {m : Nat} {enc : α → List Value} {P : Program} {ops : Array Oper} {o : Oper} {a : Act} {K : Act → World → Prop} {Q : Exit → Act → World → Prop} {E : Prop} (hgd : o.guard = none) (s x : Operand) (t : TypeId)
    (ho : o.op = .call { callee := .builtin .append, args := #[s, x], argTypes := #[t, t] }) (bytes : Nat) {z : Value} {i0 : TypeInfo} (ht : P.underlying t = some (.slice e)) (hi : P.info? e = some i0) (hz : i0.zero = some z) (hsize : i0.size = m) (hby : i0.bytes = bytes) (hzs : z.cells.size = m) (hsz : 0 < m)
    (hm : ∀ y, (enc y).length = m) (h1 : ∀ y, ∀ u ∈ enc y, u.oneCell' = true) (hb16 : bytes ≤ 1024)
    (B : Nat) (v : Value) (xs ys : List α) (w : World) (hown : OwnE e m enc w B v xs) (hs : a.eval s = v) (b i c n : Nat) (hx : a.eval x = .slice (some ⟨b, i, none⟩) n c) (hn : ys.length = n)
    (hc : ∀ j u, (ys.flatMap enc)[j]? = some u → w.cell? ⟨b, i + j, none⟩ = some u) (hl : xs.length + ys.length ≤ 16777216) (hB : B ≤ w.heap.size)
    (h : ∀ v' w', OwnE e m enc w' B v' (xs ++ ys) → Below B w w' → w.grownBy w' v.ownBlock → (v'.ownBlock = v.ownBlock ∨ v'.ownBlock = some w.heap.size) → K (a.put o.dst v') w') :
    if Region.wanted o (yielded ops a.tmps) = true then Oper.wp P o a w K Q else E := by
  have hw : Region.wanted o (yielded ops a.tmps) = true := by simp [Region.wanted, hgd]
  rw [if_pos hw]
  subst hn
  have hc' : ∀ j u, (ys.flatMap enc)[j]? = some u → w.cell? ((⟨b, i, none⟩ : Addr).add j) = some u := fun j u hj => by
    rw [show (⟨b, i, none⟩ : Addr).add j = ⟨b, i + j, none⟩ by unfold Addr.add; split <;> simp_all]
    exact hc j u hj
  have ho1 : ∀ u ∈ ys.flatMap enc, u.oneCell' = true := fun u hu => by
    obtain ⟨y, _, hu⟩ := List.mem_flatMap.1 hu
    exact h1 y u hu
  have hby' : (xs.length + ys.length) * bytes ≤ 140737488355328 := by
    have : (xs.length + ys.length) * bytes ≤ 16777216 * 1024 := Nat.mul_le_mul hl hb16
    omega
  obtain ⟨v', w', hr, h2, h3, h4, h5⟩ := run_append_own_at (P := P) w B t o.type e i0 z m bytes ht hi hz hsize hby hzs hsz v xs.length (xs.flatMap enc) hown ⟨b, i, none⟩ ys.length c (ys.flatMap enc) (flat_len hm ys) hc' ho1 (by unfold maxLen; omega) hby' hB
  unfold Oper.wp execOp
  simp only [ho, resolve, invoke, builtin, Sem.run_bind, Sem.run_pure, Result.andThen_ok, List.map_toArray, List.map_cons, List.map_nil, hs, hx, hr]
  refine h v' w' ?_ ((Below.refl B w).grown h3 hB (fun k hk => ((World.ownsRow.lt hown) k hk).1)) h3 h5
  show w'.ownsRow B e m v' (xs ++ ys).length ((xs ++ ys).flatMap enc)
  rw [List.length_append, List.flatMap_append]
  exact h2
theorem own_oneS {w : World} {B g cap : Nat} {xs : List ByteArray} (h : OwnE 9 1 (fun y => [Value.string y]) w B (.slice (some ⟨g, 0, none⟩) xs.length cap) xs) (h0 : 0 < xs.length) : StrsIn w (Zone.one g) (some ⟨g, 0, none⟩) xs ∧ B ≤ g ∧ g < w.heap.size ∧ CapOk xs.length cap := by
  have ho := h
  unfold OwnE at ho
  have hlt := (World.ownsRow.lt ho) g rfl
  obtain ⟨A, c, e, h6, h7, _⟩ := h.reads (E := eStr) (st := fun j => j) (fun _ => rfl) (fun j => by omega) (fun w Z b o y hc => hc 0 (by omega))
  simp only [Value.slice.injEq] at e
  obtain ⟨_, _, rfl⟩ := e
  refine ⟨fun _ => ⟨g, 0, rfl, ⟨Nat.le_refl _, Nat.lt_succ_self _⟩, fun _ j => World.ownsRow.frozenAt ho j, fun j hj => ?_⟩, hlt.1, hlt.2, h6, h7⟩
  show w.cell? ⟨g, 0 + j, none⟩ = some (.string (nthS xs j))
  rw [Nat.zero_add, World.ownsRow.cellAt ho j (by omega), flat_one, List.getElem?_map, List.getElem?_eq_getElem hj]
  unfold nthS
  rw [List.getD_eq_getElem?_getD, List.getElem?_eq_getElem hj]
  rfl

/-- A line as its cells. -/
structure LV where
  nm : ByteArray
  gs : Nat
  ns : Nat
  ks : Nat
  gr : Nat
  nr : Nat
  kr : Nat
instance : Inhabited LV := ⟨⟨ByteArray.empty, 0, 0, 0, 0, 0, 0⟩⟩
def encLV (y : LV) : List Value := [.string y.nm, .slice (some ⟨y.gs, 0, none⟩) y.ns y.ks, .slice (some ⟨y.gr, 0, none⟩) y.nr y.kr]
theorem encLV_cell : ∀ y, ∀ u ∈ encLV y, u.oneCell' = true := fun y u hu => by
  simp [encLV] at hu
  rcases hu with rfl | rfl | rfl <;> rfl
def atV (ys : List LV) (j : Nat) : LV := ys.getD j default
theorem atV_old {ys : List LV} {y : LV} {j : Nat} (hj : j < ys.length) : atV (ys ++ [y]) j = atV ys j := by
  unfold atV
  rw [List.getD_eq_getElem?_getD, List.getD_eq_getElem?_getD, List.getElem?_append_left hj]
theorem atV_new {ys : List LV} {y : LV} : atV (ys ++ [y]) ys.length = y := by
  unfold atV
  rw [List.getD_eq_getElem?_getD, List.getElem?_append_right (Nat.le_refl _)]
  simp
structure LvAt (w : World) (y : LV) (x : LineD) : Prop where
  nm : y.nm = x.name
  ns : y.ns = x.stops.length
  nr : y.nr = x.runs.length
  i1 : IntsIn w (Zone.one y.gs) (some ⟨y.gs, 0, none⟩) x.stops
  i2 : IntsIn w (Zone.one y.gr) (some ⟨y.gr, 0, none⟩) x.runs
  c1 : CapOk x.stops.length y.ks
  c2 : CapOk x.runs.length y.kr
theorem LvAt.keep {w w' : World} {y : LV} {x : LineD} (h : LvAt w y x) (h1 : Same w w' y.gs) (h2 : Same w w' y.gr) : LvAt w' y x :=
  ⟨h.nm, h.ns, h.nr, h.i1.keep fun c hc => by rw [Zone.one_ok hc]; exact h1, h.i2.keep fun c hc => by rw [Zone.one_ok hc]; exact h2, h.c1, h.c2⟩
/-- Lines of the call's own in a slice value v, from block B on. -/
structure LvOwn (w : World) (B : Nat) (v : Value) (xs : List LineD) (ys : List LV) (k : Nat) : Prop where
  own : OwnE 113 3 encLV w B v ys
  len : ys.length = k
  each : ∀ j, j < k → LvAt w (atV ys j) (nthL xs j)
  blk : ∀ j, j < k → (B ≤ (atV ys j).gs ∧ (atV ys j).gs < w.heap.size ∧ v.ownBlock ≠ some (atV ys j).gs) ∧ (B ≤ (atV ys j).gr ∧ (atV ys j).gr < w.heap.size ∧ v.ownBlock ≠ some (atV ys j).gr)
  pp : ∀ i j, i < k → j < k → i ≠ j → (atV ys i).gs ≠ (atV ys j).gs
  rr : ∀ i j, i < k → j < k → i ≠ j → (atV ys i).gr ≠ (atV ys j).gr
  pr : ∀ i j, i < k → j < k → (atV ys i).gs ≠ (atV ys j).gr
theorem LvOwn.nil {w : World} {B : Nat} {xs : List LineD} : LvOwn w B (.slice none 0 0) xs [] 0 :=
  ⟨OwnE.nil, rfl, fun j hj => by omega, fun j hj => by omega, fun i j hi => by omega, fun i j hi => by omega, fun i j hi => by omega⟩
theorem LvOwn.keep {w w' : World} {B : Nat} {v : Value} {xs : List LineD} {ys : List LV} {k : Nat} (h : LvOwn w B v xs ys k) (hs : ∀ X, B ≤ X → X < w.heap.size → w'.heap[X]? = w.heap[X]?) (hz : w.heap.size ≤ w'.heap.size) : LvOwn w' B v xs ys k :=
  ⟨h.own.kept fun X hX => by have := (World.ownsRow.lt h.own) X hX; exact hs X this.1 this.2, h.len, fun j hj => by
    obtain ⟨b1, b2⟩ := h.blk j hj
    exact (h.each j hj).keep (Same.of_blk (hs _ b1.1 b1.2.1)) (Same.of_blk (hs _ b2.1 b2.2.1)), fun j hj => by
    obtain ⟨b1, b2⟩ := h.blk j hj
    exact ⟨⟨b1.1, by omega, b1.2.2⟩, b2.1, by omega, b2.2.2⟩, h.pp, h.rr, h.pr⟩
theorem LvOwn.call {w w' : World} {B : Nat} {v : Value} {xs : List LineD} {ys : List LV} {k : Nat} (h : LvOwn w B v xs ys k) (hb : Below w.heap.size w w') : LvOwn w' B v xs ys k := h.keep (fun X _ hX => hb.block X hX) hb.size
/-- One more line, made since. -/
theorem LvOwn.step {wr wA w8 : World} {B : Nat} {v v8 : Value} {xs : List LineD} {ys : List LV} {k : Nat} {y : LV} (h : LvOwn wr B v xs ys k) (hBr : B ≤ wr.heap.size) (hb : Below wr.heap.size wr wA) (hy : LvAt wA y (nthL xs k)) (hne : y.gs ≠ y.gr) (b1 : wr.heap.size ≤ y.gs ∧ y.gs < wA.heap.size) (b2 : wr.heap.size ≤ y.gr ∧ y.gr < wA.heap.size)
    (ho : OwnE 113 3 encLV w8 B v8 (ys ++ [y])) (hg : wA.grownBy w8 v.ownBlock) (hat : v8.ownBlock = v.ownBlock ∨ v8.ownBlock = some wA.heap.size) : LvOwn w8 B v8 xs (ys ++ [y]) (k + 1) := by
  have hz := hb.size
  have hz8 := hg.size
  have hl := h.len
  have hlt := World.ownsRow.lt h.own
  have hkp : ∀ X, X < wA.heap.size → v.ownBlock ≠ some X → Same wA w8 X := fun X hX hne => Same.of_blk (hg.block X hX (fun e => hne e.symm))
  have hv8 : ∀ X, X < wA.heap.size → v.ownBlock ≠ some X → v8.ownBlock ≠ some X := fun X hX hne e => by
    rcases hat with q | q
    · rw [q] at e; exact hne e
    · rw [q] at e; simp at e; omega
  have n1 : v.ownBlock ≠ some y.gs := fun e => by have := hlt _ e; omega
  have n2 : v.ownBlock ≠ some y.gr := fun e => by have := hlt _ e; omega
  have hold : ∀ j, j < k → atV (ys ++ [y]) j = atV ys j := fun j hj => atV_old (by omega)
  have hnew : atV (ys ++ [y]) k = y := by rw [← hl]; exact atV_new
  refine ⟨ho, by simp [hl], fun j hj => ?_, fun j hj => ?_, fun i j hi hj hij => ?_, fun i j hi hj hij => ?_, fun i j hi hj => ?_⟩
  · by_cases e : j = k
    · subst e; rw [hnew]; exact hy.keep (hkp _ b1.2 n1) (hkp _ b2.2 n2)
    · have hj' : j < k := by omega
      rw [hold j hj']
      obtain ⟨c1, c2⟩ := h.blk j hj'
      exact (h.each j hj').keep ((Same.of_below hb c1.2.1).trans (hkp _ (by omega) c1.2.2)) ((Same.of_below hb c2.2.1).trans (hkp _ (by omega) c2.2.2))
  · by_cases e : j = k
    · subst e; rw [hnew]; exact ⟨⟨by omega, by omega, hv8 _ b1.2 n1⟩, by omega, by omega, hv8 _ b2.2 n2⟩
    · have hj' : j < k := by omega
      rw [hold j hj']
      obtain ⟨c1, c2⟩ := h.blk j hj'
      exact ⟨⟨c1.1, by omega, hv8 _ (by omega) c1.2.2⟩, c2.1, by omega, hv8 _ (by omega) c2.2.2⟩
  · by_cases ei : i = k
    · have hj' : j < k := by omega
      subst ei; rw [hnew, hold j hj']; have := h.blk j hj'; omega
    · have hi' : i < k := by omega
      rw [hold i hi']
      by_cases ej : j = k
      · subst ej; rw [hnew]; have := h.blk i hi'; omega
      · rw [hold j (by omega)]; exact h.pp i j hi' (by omega) hij
  · by_cases ei : i = k
    · have hj' : j < k := by omega
      subst ei; rw [hnew, hold j hj']; have := h.blk j hj'; omega
    · have hi' : i < k := by omega
      rw [hold i hi']
      by_cases ej : j = k
      · subst ej; rw [hnew]; have := h.blk i hi'; omega
      · rw [hold j (by omega)]; exact h.rr i j hi' (by omega) hij
  · by_cases ei : i = k
    · subst ei; rw [hnew]
      by_cases ej : j = i
      · subst ej; rw [hnew]; exact hne
      · have hj' : j < i := by omega
        rw [hold j hj']; have := h.blk j hj'; omega
    · have hi' : i < k := by omega
      rw [hold i hi']
      by_cases ej : j = k
      · subst ej; rw [hnew]; have := h.blk i hi'; omega
      · rw [hold j (by omega)]; exact h.pr i j hi' (by omega)
/-- A store to a block that is none of them. -/
theorem LvOwn.set {w : World} {B : Nat} {v : Value} {xs : List LineD} {ys : List LV} {k : Nat} (h : LvOwn w B v xs ys k) {p : Addr} (hp : p.block < B) (u : Value) : LvOwn (w.setCell p u) B v xs ys k :=
  h.keep (fun X hX _ => Below.heap_setCell _ _ _ _ (by omega)) (by rw [size_set]; exact Nat.le_refl _)
theorem LvOwn.lown {w : World} {B : Nat} {v : Value} {xs : List LineD} {ys : List LV} (h : LvOwn w B v xs ys xs.length) (h0 : 0 < xs.length) : ∃ g cap, v = .slice (some ⟨g, 0, none⟩) xs.length cap ∧ xs.length ≤ cap ∧ B ≤ g ∧ g < w.heap.size ∧ LOwn w g xs (fun j => (atV ys j).gs) (fun j => (atV ys j).gr) ∧ Apart B w.heap.size g xs.length (fun j => (atV ys j).gs) (fun j => (atV ys j).gr) := by
  have ho := h.own
  have hl := h.len
  obtain ⟨g, cap, rfl⟩ := own_some h.own (by omega)
  unfold OwnE at ho
  have hlt := (World.ownsRow.lt ho) g rfl
  obtain ⟨_, hq | ⟨g', cap', cur, hv, hg, hh, hle, hcap, hsz, htk⟩⟩ := h.own
  · omega
  simp only [Value.slice.injEq, Option.some.injEq, Addr.mk.injEq, and_true, true_and] at hv
  obtain ⟨rfl, rfl⟩ := hv
  rw [hl] at hle
  refine ⟨g, cap, by rw [hl], hle, hlt.1, hlt.2, ⟨fun j => World.ownsRow.frozenAt ho j, fun k hk => ?_⟩, ⟨hlt.1, hlt.2, fun k hk => ?_, fun k hk => ?_, h.pp, h.rr, h.pr⟩⟩
  · have e := h.each k hk
    have hc : ∀ i, i < 3 → w.cell? ⟨g, k * 3 + i, none⟩ = (encLV (atV ys k))[i]? := fun i hi => by
      rw [World.ownsRow.cellAt ho (k * 3 + i) (by omega), flat_get (enc := encLV) (m := 3) (fun _ => rfl) ys k i (by omega) hi]
      rfl
    have q0 := hc 0 (by omega)
    have q1 := hc 1 (by omega)
    have q2 := hc 2 (by omega)
    refine ⟨some ⟨(atV ys k).gs, 0, none⟩, (atV ys k).ks, some ⟨(atV ys k).gr, 0, none⟩, (atV ys k).kr, ?_, ?_, ?_, e.i1, e.i2, e.c1, e.c2⟩
    · rw [← e.nm]; exact q0
    · rw [← e.ns]; exact q1
    · rw [← e.nr]; exact q2
  · have := (h.blk k hk).1
    refine ⟨this.1, this.2.1, fun e => this.2.2 ?_⟩
    show some g = _
    rw [← e]
  · have := (h.blk k hk).2
    refine ⟨this.1, this.2.1, fun e => this.2.2 ?_⟩
    show some g = _
    rw [← e]
end Go.Proofs.Ytambgommeannnaa
